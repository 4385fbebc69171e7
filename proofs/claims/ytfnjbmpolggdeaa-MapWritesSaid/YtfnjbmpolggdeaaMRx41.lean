-- Written by a program (my copy of the print's, with functions given by hand): began as a printed text.
import Derived.Test.YtfnjbmpolggdeaaMRx0
import Derived.Test.YtfnjbmpolggdeaaMRx27
import Derived.Test.YtfnjbmpolggdeaaMRx40
namespace Go.Proofs.Ytfnjbmpolggdeaa.MR
open Go.RowKit Go.Proofs.YtfnjbmpolggdeaaW.PrintWords Go.Proofs.YtfnjbmpolggdeaaW.PrintLast Go.Proofs.YtfnjbmpolggdeaaW.PrintMore
attribute [local go_sem] max2_int min2_int max_two min_two max_three min_three max_four min_four   -- for this text's walks alone
set_option linter.unusedVariables false
set_option linter.unusedSimpArgs false

/-! ### jvmcoreref3_told: function 61 -/
mutual
def jvmcoreref3_told.l0 : Nat → List (S37) → List Int → Int → List (S54) → Int → Int → Option (ByteArray × Int)
  | 0, _, _, _, _, _, _ => none
  | k + 1, x1, x6, x7, x16, x17, x18 => if x18 < x17 then (if 0 ≤ x18 then (if x18 < (x16.length : Int) then (if x6.length < 140737488355328 then ((some (x6 ++ [(rd_T54 x16 x18).f0] : List Int)).bind fun y408 => (if ((rd_T54 x16 x18).f0) > 8 then (if x7 = 0 then (jvmcoreref3_told.l0 k x1 y408 17 x16 x17 (wrap64 (x18 + 1))) else (jvmcoreref3_told.l0 k x1 y408 x7 x16 x17 (wrap64 (x18 + 1)))) else (if ((rd_T54 x16 x18).f0) = 8 then (if ((rd_T54 x16 x18).f2) < 0 then (jvmcoreref3_told.j1 k x1 y408 x7 0 x16 x17 x18 true ((rd_T54 x16 x18).f0) ((rd_T54 x16 x18).f1) ((rd_T54 x16 x18).f2)) else (jvmcoreref3_told.j1 k x1 y408 x7 0 x16 x17 x18 (decide (((rd_T54 x16 x18).f2) > 65535)) ((rd_T54 x16 x18).f0) ((rd_T54 x16 x18).f1) ((rd_T54 x16 x18).f2))) else (if ((rd_T54 x16 x18).f0) = 7 then (jvmcoreref3_told.l1 k x1 y408 x7 0 0 (wrap64 ((x1.length : Int) - 1)) x16 x17 x18 ((rd_T54 x16 x18).f0) ((rd_T54 x16 x18).f1) ((rd_T54 x16 x18).f2)) else (if x7 = 0 then (jvmcoreref3_told.l0 k x1 y408 0 x16 x17 (wrap64 (x18 + 1))) else (jvmcoreref3_told.l0 k x1 y408 x7 x16 x17 (wrap64 (x18 + 1)))))))) else (none)) else (none)) else (none)) else (some (strOfNums x6, x7))
def jvmcoreref3_told.j1 : Nat → List (S37) → List Int → Int → Int → List (S54) → Int → Int → Bool → Int → ByteArray → Int → Option (ByteArray × Int)
  | 0, _, _, _, _, _, _, _, _, _, _, _ => none
  | k + 1, x1, x6, x7, x10, x16, x17, x18, x42, x408000, x408001, x408002 => if x42 = true then ((jvmcoreref1_Big.f k (IntKind.u64.wrap (x408002)) 2).bind fun t411 => (if x6.length + t411.size < 140737488355328 then ((some (x6 ++ bytesOf t411 : List Int)).bind fun y412 => (if x7 = 0 then (jvmcoreref3_told.l0 k x1 y412 17 x16 x17 (wrap64 (x18 + 1))) else (jvmcoreref3_told.l0 k x1 y412 x7 x16 x17 (wrap64 (x18 + 1))))) else (none))) else ((jvmcoreref1_Big.f k (IntKind.u64.wrap (x408002)) 2).bind fun t415 => (if x6.length + t415.size < 140737488355328 then ((some (x6 ++ bytesOf t415 : List Int)).bind fun y416 => (if x7 = 0 then (jvmcoreref3_told.l0 k x1 y416 x10 x16 x17 (wrap64 (x18 + 1))) else (jvmcoreref3_told.l0 k x1 y416 x7 x16 x17 (wrap64 (x18 + 1))))) else (none)))
def jvmcoreref3_told.l1 : Nat → List (S37) → List Int → Int → Int → Int → Int → List (S54) → Int → Int → Int → ByteArray → Int → Option (ByteArray × Int)
  | 0, _, _, _, _, _, _, _, _, _, _, _, _ => none
  | k + 1, x1, x6, x7, x10, x11, x12, x16, x17, x18, x408000, x408001, x408002 => if x12 > 0 then ((jvmcoreref1_ClassOf.f x1 x12).bind fun bt419 => (if bt419.2 = true then (if bt419.1.toList = x408001.toList then (jvmcoreref3_told.l1 k x1 x6 x7 x10 x12 (wrap64 (x12 - 1)) x16 x17 x18 x408000 x408001 x408002) else (jvmcoreref3_told.l1 k x1 x6 x7 x10 x11 (wrap64 (x12 - 1)) x16 x17 x18 x408000 x408001 x408002)) else (jvmcoreref3_told.l1 k x1 x6 x7 x10 x11 (wrap64 (x12 - 1)) x16 x17 x18 x408000 x408001 x408002))) else (if x11 = 0 then ((jvmcoreref1_Big.f k (IntKind.u64.wrap (x11)) 2).bind fun t421 => (if x6.length + t421.size < 140737488355328 then ((some (x6 ++ bytesOf t421 : List Int)).bind fun y422 => (if x7 = 0 then (jvmcoreref3_told.l0 k x1 y422 7 x16 x17 (wrap64 (x18 + 1))) else (jvmcoreref3_told.l0 k x1 y422 x7 x16 x17 (wrap64 (x18 + 1))))) else (none))) else ((jvmcoreref1_Big.f k (IntKind.u64.wrap (x11)) 2).bind fun t425 => (if x6.length + t425.size < 140737488355328 then ((some (x6 ++ bytesOf t425 : List Int)).bind fun y426 => (if x7 = 0 then (jvmcoreref3_told.l0 k x1 y426 x10 x16 x17 (wrap64 (x18 + 1))) else (jvmcoreref3_told.l0 k x1 y426 x7 x16 x17 (wrap64 (x18 + 1))))) else (none))))
end
def jvmcoreref3_told.f (k : Nat) (l0 : List (S54)) (l1 : List (S37)) : Option (ByteArray × Int) := jvmcoreref3_told.l0 k l1 (([] : List Int)) 0 l0 (l0.length : Int) 0
theorem jvmcoreref3_told.mono_l : ∀ k, (∀ y0 y1 y2 y3 y4 y5, LeO (jvmcoreref3_told.l0 k y0 y1 y2 y3 y4 y5) (jvmcoreref3_told.l0 (k + 1) y0 y1 y2 y3 y4 y5)) ∧ (∀ y0 y1 y2 y3 y4 y5 y6 y7 y8 y9 y10, LeO (jvmcoreref3_told.j1 k y0 y1 y2 y3 y4 y5 y6 y7 y8 y9 y10) (jvmcoreref3_told.j1 (k + 1) y0 y1 y2 y3 y4 y5 y6 y7 y8 y9 y10)) ∧ (∀ y0 y1 y2 y3 y4 y5 y6 y7 y8 y9 y10 y11, LeO (jvmcoreref3_told.l1 k y0 y1 y2 y3 y4 y5 y6 y7 y8 y9 y10 y11) (jvmcoreref3_told.l1 (k + 1) y0 y1 y2 y3 y4 y5 y6 y7 y8 y9 y10 y11))
  | 0 => ⟨fun _ _ _ _ _ _ r h => by simp [jvmcoreref3_told.l0] at h, fun _ _ _ _ _ _ _ _ _ _ _ r h => by simp [jvmcoreref3_told.j1] at h, fun _ _ _ _ _ _ _ _ _ _ _ _ r h => by simp [jvmcoreref3_told.l1] at h⟩
  | k + 1 => by
    obtain ⟨ih0, ih1, ih2⟩ := jvmcoreref3_told.mono_l k
    refine ⟨?_, ?_, ?_⟩
    · intro y0 y1 y2 y3 y4 y5
      unfold jvmcoreref3_told.l0
      repeat' first
      | (with_reducible exact ih0 _ _ _ _ _ _)
      | (with_reducible exact ih1 _ _ _ _ _ _ _ _ _ _ _)
      | (with_reducible exact ih2 _ _ _ _ _ _ _ _ _ _ _ _)
      | (with_reducible exact jvmcoreref1_Big.mono _ _ _)
      | (with_reducible exact LeO.refl _)
      | (with_reducible exact LeO.none _)
      | (with_reducible refine LeO.ite ?_ ?_)
      | (with_reducible refine LeO.bind ?_ (fun _ => ?_))
      | exact ih0 _ _ _ _ _ _
      | exact ih1 _ _ _ _ _ _ _ _ _ _ _
      | exact ih2 _ _ _ _ _ _ _ _ _ _ _ _
      | exact jvmcoreref1_Big.mono _ _ _
      | exact LeO.none _
      | refine LeO.ite ?_ ?_
      | refine LeO.bind ?_ (fun _ => ?_)
    · intro y0 y1 y2 y3 y4 y5 y6 y7 y8 y9 y10
      unfold jvmcoreref3_told.j1
      repeat' first
      | (with_reducible exact ih0 _ _ _ _ _ _)
      | (with_reducible exact ih1 _ _ _ _ _ _ _ _ _ _ _)
      | (with_reducible exact ih2 _ _ _ _ _ _ _ _ _ _ _ _)
      | (with_reducible exact jvmcoreref1_Big.mono _ _ _)
      | (with_reducible exact LeO.refl _)
      | (with_reducible exact LeO.none _)
      | (with_reducible refine LeO.ite ?_ ?_)
      | (with_reducible refine LeO.bind ?_ (fun _ => ?_))
      | exact ih0 _ _ _ _ _ _
      | exact ih1 _ _ _ _ _ _ _ _ _ _ _
      | exact ih2 _ _ _ _ _ _ _ _ _ _ _ _
      | exact jvmcoreref1_Big.mono _ _ _
      | exact LeO.none _
      | refine LeO.ite ?_ ?_
      | refine LeO.bind ?_ (fun _ => ?_)
    · intro y0 y1 y2 y3 y4 y5 y6 y7 y8 y9 y10 y11
      unfold jvmcoreref3_told.l1
      repeat' first
      | (with_reducible exact ih0 _ _ _ _ _ _)
      | (with_reducible exact ih1 _ _ _ _ _ _ _ _ _ _ _)
      | (with_reducible exact ih2 _ _ _ _ _ _ _ _ _ _ _ _)
      | (with_reducible exact jvmcoreref1_Big.mono _ _ _)
      | (with_reducible exact LeO.refl _)
      | (with_reducible exact LeO.none _)
      | (with_reducible refine LeO.ite ?_ ?_)
      | (with_reducible refine LeO.bind ?_ (fun _ => ?_))
      | exact ih0 _ _ _ _ _ _
      | exact ih1 _ _ _ _ _ _ _ _ _ _ _
      | exact ih2 _ _ _ _ _ _ _ _ _ _ _ _
      | exact jvmcoreref1_Big.mono _ _ _
      | exact LeO.none _
      | refine LeO.ite ?_ ?_
      | refine LeO.bind ?_ (fun _ => ?_)
theorem jvmcoreref3_told.mono : ∀ a0 a1 k, LeO (jvmcoreref3_told.f k a0 a1) (jvmcoreref3_told.f (k + 1) a0 a1) := by
  intro a0 a1 k
  obtain ⟨ih0, ih1, ih2⟩ := jvmcoreref3_told.mono_l k
  unfold jvmcoreref3_told.f
  repeat' first
      | (with_reducible exact ih0 _ _ _ _ _ _)
      | (with_reducible exact ih1 _ _ _ _ _ _ _ _ _ _ _)
      | (with_reducible exact ih2 _ _ _ _ _ _ _ _ _ _ _ _)
      | (with_reducible exact jvmcoreref1_Big.mono _ _ _)
      | (with_reducible exact LeO.refl _)
      | (with_reducible exact LeO.none _)
      | (with_reducible refine LeO.ite ?_ ?_)
      | (with_reducible refine LeO.bind ?_ (fun _ => ?_))
      | exact ih0 _ _ _ _ _ _
      | exact ih1 _ _ _ _ _ _ _ _ _ _ _
      | exact ih2 _ _ _ _ _ _ _ _ _ _ _ _
      | exact jvmcoreref1_Big.mono _ _ _
      | exact LeO.none _
      | refine LeO.ite ?_ ?_
      | refine LeO.bind ?_ (fun _ => ?_)
set_option maxHeartbeats 8000000 in
set_option maxRecDepth 100000 in
theorem jvmcoreref3_told.calls (k : Nat) (A0 : Option Addr) (c0 : Nat) (l0 : List (S54)) (A1 : Option Addr) (c1 : Nat) (l1 : List (S37)) (r1 : ByteArray) (r2 : Int) (w : World) (hr0 : Kd.C k54 w A0 l0.length l0) (hc0 : l0.length ≤ c0) (hr1 : Kd.C k37 w A1 l1.length l1) (hc1 : l1.length ≤ c1) (h : jvmcoreref3_told.f k l0 l1 = some (r1, r2)) :
    Calls Try.prog 61 #[.slice A0 l0.length c0, .slice A1 l1.length c1] w fun e w' => e = .returned (.tuple #[.string r1, .int .i64 r2]) ∧ Below w.heap.size w w' := by
  have hu54 := Try.underlying54
  have HR0 := Aside0.mk hr0
  have HC0 := Aside0.mk hc0
  clear hr0 hc0
  have HR1 := Aside0.mk hr1
  have HC1 := Aside0.mk hc1
  clear hr1 hc1
  have HB := Aside0.mk (Below.refl w.heap.size w)
  have H : (jvmcoreref3_told.l0 k l1 (([] : List Int)) 0 l0 (l0.length : Int) 0) = some (r1, r2) := h
  clear h
  obtain ⟨y403, hy403⟩ : ∃ y_ : List Int, y_ = (([] : List Int)) := ⟨_, rfl⟩
  replace H : (jvmcoreref3_told.l0 k l1 y403 0 l0 (l0.length : Int) 0) = some (r1, r2) := by first | (rw [hy403]; with_reducible exact H) | (have H2_ := (Option.bind_some _ _).symm.trans H; rw [hy403]; with_reducible exact H2_) | (have H2_ := (Option.bind_some _ _).symm.trans H; with_reducible exact H2_) | with_reducible exact H | (rw [hy403]; exact H) | exact H
  have Ny403 := Aside0.mk hy403
  clear hy403
  have H' := Aside0.mk H
  clear H
  go_enter Try.func61, Try.ntmps61
  go_wp2_with (first | ((with_reducible refine gate_dst (N := 15) rfl ?_); refine Kd.R_lit (Kd.int .u8) _ 5 ?hg (N := 15) ?hd (xs := ([] : List Int)) (inner := []) (ok := fun _ => True) (okp := fun _ => True) ?hr ?hp (fun _ hk => hk) trivial (Below.refl _ _) (Nat.le_refl _) (by simp) ?_; (case hd => rfl); (case hg => rfl); (case hr => first | (go_simp; done) | (go_simp; rfl)); (case hp => exact (Reps.none _ _)); intro v404 w3 ho4 hb hg_ hnew_; clear hg_ hnew_; (first | rw [← Ny403.out] at ho4 | (simp only [Int.reduceToNat] at ho4; rw [← Ny403.out] at ho4)); have n0_ := Aside0.mk (Kd.R_lower ho4 (below_size (by repeat (first | (with_reducible first | exact HB.out | apply below_alloc | apply pw_below_drewN | apply below_drew1) | exact HB.out)))); have n1_ := Aside0.mk (below_step (by repeat (first | (with_reducible first | exact HB.out | apply below_alloc | apply pw_below_drewN | apply below_drew1) | exact HB.out)) hb); clear HB; have HO405 := n0_; have HB := n1_; clear n0_ n1_; clear hb ho4))
  go_loopg [6, 7, 18] k (fun kq v6 v7 v18 w' => ∃ (x6_1 : List Int) (x7_1 : Int) (x18_1 : Int), v7 = .int .i64 x7_1 ∧ v18 = .int .i64 x18_1 ∧ Aside0 (jvmcoreref3_told.l0 kq l1 x6_1 x7_1 l0 (l0.length : Int) x18_1 = some (r1, r2)) ∧ Aside0 (kq ≤ k) ∧ Aside0 (Kd.R (Kd.int .u8) 5 w' w.heap.size (fun _ => True) v6 x6_1) ∧ Aside0 (Below w.heap.size w w'))
  case atStart => exact ⟨(y403), (0), (0), (by first | rfl | (simp; done) | (simp [*]; done)), (by first | rfl | (simp; done) | (simp [*]; done)), H', ⟨Nat.le_refl _⟩, ⟨by (with_reducible repeat (first | apply Kd.R_alloc | apply Kd.R_drewN | apply Kd.R_drew)); exact HO405.out⟩, ⟨by repeat (first | (with_reducible first | exact HB.out | apply below_alloc | apply pw_below_drewN | apply below_drew1) | exact HB.out)⟩⟩
  case round =>
    clear H'
    try clear c1
    try clear p2
    obtain ⟨x6_1, x7_1, x18_1, rfl, rfl, HA, HK1, HO_6, HB⟩ := hrel
    cases gk with
    | zero => exact absurd HA.out (by simp [jvmcoreref3_told.l0])
    | succ k1 =>
      have H := HA.out
      clear HA
      simp only [jvmcoreref3_told.l0] at H
      by_cases c5 : x18_1 < (l0.length : Int)
      · rw [if_pos c5] at H
        have c5b0 : decide (x18_1 < (l0.length : Int)) = true := decide_eq_true c5
        clear c5
        by_cases c6 : 0 ≤ x18_1
        · rw [if_pos c6] at H
          have c6b0 : decide (0 ≤ x18_1) = true := decide_eq_true c6
          clear c6
          by_cases c7 : x18_1 < (l0.length : Int)
          · rw [if_pos c7] at H
            have c7b0 : decide (x18_1 < (l0.length : Int)) = true := decide_eq_true c7
            clear c7
            by_cases c8 : x6_1.length < 140737488355328
            · rw [if_pos c8] at H
              have LMc8 := Aside0.mk c8
              clear c8
              obtain ⟨y408, hy408⟩ : ∃ y_ : List Int, y_ = (x6_1 ++ [(rd_T54 l0 x18_1).f0]) := ⟨_, rfl⟩
              replace H : (if ((rd_T54 l0 x18_1).f0) > 8 then (if x7_1 = 0 then (jvmcoreref3_told.l0 k1 l1 y408 17 l0 (l0.length : Int) (wrap64 (x18_1 + 1))) else (jvmcoreref3_told.l0 k1 l1 y408 x7_1 l0 (l0.length : Int) (wrap64 (x18_1 + 1)))) else (if ((rd_T54 l0 x18_1).f0) = 8 then (if ((rd_T54 l0 x18_1).f2) < 0 then (jvmcoreref3_told.j1 k1 l1 y408 x7_1 0 l0 (l0.length : Int) x18_1 true ((rd_T54 l0 x18_1).f0) ((rd_T54 l0 x18_1).f1) ((rd_T54 l0 x18_1).f2)) else (jvmcoreref3_told.j1 k1 l1 y408 x7_1 0 l0 (l0.length : Int) x18_1 (decide (((rd_T54 l0 x18_1).f2) > 65535)) ((rd_T54 l0 x18_1).f0) ((rd_T54 l0 x18_1).f1) ((rd_T54 l0 x18_1).f2))) else (if ((rd_T54 l0 x18_1).f0) = 7 then (jvmcoreref3_told.l1 k1 l1 y408 x7_1 0 0 (wrap64 ((l1.length : Int) - 1)) l0 (l0.length : Int) x18_1 ((rd_T54 l0 x18_1).f0) ((rd_T54 l0 x18_1).f1) ((rd_T54 l0 x18_1).f2)) else (if x7_1 = 0 then (jvmcoreref3_told.l0 k1 l1 y408 0 l0 (l0.length : Int) (wrap64 (x18_1 + 1))) else (jvmcoreref3_told.l0 k1 l1 y408 x7_1 l0 (l0.length : Int) (wrap64 (x18_1 + 1))))))) = some (r1, r2) := by first | (rw [hy408]; with_reducible exact H) | (have H2_ := (Option.bind_some _ _).symm.trans H; rw [hy408]; with_reducible exact H2_) | (have H2_ := (Option.bind_some _ _).symm.trans H; with_reducible exact H2_) | with_reducible exact H | (rw [hy408]; exact H) | exact H
              have Ny408 := Aside0.mk hy408
              clear hy408
              by_cases c9 : ((rd_T54 l0 x18_1).f0) > 8
              · rw [if_pos c9] at H
                have c9b0 : decide (8 < ((rd_T54 l0 x18_1).f0)) = true := decide_eq_true c9
                clear c9
                by_cases c10 : x7_1 = 0
                · rw [if_pos c10] at H
                  have c10b0 : (x7_1 == 0) = true := beq_iff_eq.mpr c10
                  have c10b1 : (x7_1 != 0) = false := bne_eq_false_iff_eq.mpr c10
                  clear c10
                  have H' := Aside0.mk H
                  clear H
                  have p406 : 0 ≤ (x18_1 : Int) := of_decide_eq_true (by first | (with_reducible assumption) | assumption)
                  have q406 : x18_1 < (l0.length : Int) := of_decide_eq_true (by first | (with_reducible assumption) | assumption)
                  obtain ⟨ad406, e406, hx406_0, hx406_1, hx406_2⟩ := at_T54 HR0.out x18_1 p406 q406
                  cases e406
                  replace hx406_0 := (HB.out.cell (World.block_lt_of_cell? w _ hx406_0)).trans hx406_0
                  replace hx406_1 := (HB.out.cell (World.block_lt_of_cell? w _ hx406_1)).trans hx406_1
                  replace hx406_2 := (HB.out.cell (World.block_lt_of_cell? w _ hx406_2)).trans hx406_2
                  replace p406 := eq_true p406
                  replace q406 := eq_true q406
                  go_wp2_with (first | ((with_reducible refine gate_dst (N := 9) rfl ?_); refine box_event ?hg (N := 9) ?hd (cs := #[.int .u8 0, .string (⟨#[]⟩ : ByteArray), .int .i64 0]) (t := 54) ?hr ?_; (case hd => rfl); (case hg => rfl); (case hr => first | (go_simp; done) | (go_simp; rfl)); intro gb407 hg w11 hbox hb; have n0_ := Aside0.mk (Kd.R_below (by (with_reducible repeat (first | apply Kd.R_alloc | apply Kd.R_drewN | apply Kd.R_drew)); exact HO_6.out) hb); have n1_ := Aside0.mk (below_step (by repeat (first | (with_reducible first | exact HB.out | apply below_alloc | apply pw_below_drewN | apply below_drew1) | exact HB.out)) hb); have n2_ := Aside0.mk (hbox); have n3_ := Aside0.mk ((by rw [hg]; exact (below_size (by repeat (first | (with_reducible first | exact HB.out | apply below_alloc | apply pw_below_drewN | apply below_drew1) | exact HB.out))) : w.heap.size ≤ gb407)); have n4_ := Aside0.mk ((by rw [hg]; exact (below_size (by repeat (first | (with_reducible first | exact HB.out | apply below_alloc | apply pw_below_drewN | apply below_drew1) | exact HB.out))) : w.heap.size ≤ gb407)); clear HO_6; clear HB; have HO_6 := n0_; have HB := n1_; have BK407 := n2_; have GW407 := n3_; have GE407 := n4_; clear n0_ n1_ n2_ n3_ n4_; clear hb hbox hg; have hcz12_0 : w11.cell? ⟨gb407, 0, none⟩ = some (.int .u8 0) := (blk_cell BK407.out 0).trans rfl; have hcz12_1 : w11.cell? ⟨gb407, 1, none⟩ = some (.string (⟨#[]⟩ : ByteArray)) := (blk_cell BK407.out 1).trans rfl; have hcz12_2 : w11.cell? ⟨gb407, 2, none⟩ = some (.int .i64 0) := (blk_cell BK407.out 2).trans rfl; have hfz12_0 := blk_frozen BK407.out 0; have hfz12_1 := blk_frozen BK407.out 1; have hfz12_2 := blk_frozen BK407.out 2) | ((with_reducible refine gate_builtin (b := .append) (xs := #[.tmp 22, .tmp 25]) rfl ?_); at_builtin; refine Kd.R_append (Kd.int .u8) (w0 := w) w.heap.size rfl (.tmp 22) (.tmp 25) 87 5 (.int .u8 0) 1 rfl Try.underlying87 info5 rfl (by decide) (by omega) u6 x6_1 ((rd_T54 l0 x18_1).f0) [.int .u8 ((rd_T54 l0 x18_1).f0)] (fun _ => True) (fun _ => False) rfl (by first | (go_simp; done) | (go_simp; rfl)) ?aP (fun _ hk => hk.elim) ?aF ?aO ?aB ?aS ?aL ?_; (case aP => exact rfl); (case aB => exact (by repeat (first | (with_reducible first | exact HB.out | apply below_alloc | apply pw_below_drewN | apply below_drew1 | refine below_set ?_ GE407.out) | exact HB.out))); (case aF => exact (fun _ _ => trivial)); (case aO => exact (by (with_reducible repeat (first | apply Kd.R_alloc | apply Kd.R_drewN | apply Kd.R_drew)); exact Kd.R_mono (Kd.R_far (p := ⟨gb407, 2, none⟩) (Kd.R_far (p := ⟨gb407, 1, none⟩) (Kd.R_far (p := ⟨gb407, 0, none⟩) (Kd.R_types HO_6.out BK407.out (by decide)) (fun _ hk => hk.2) (.int .u8 ((rd_T54 l0 x18_1).f0))) (fun _ hk => hk.2) (.string ((rd_T54 l0 x18_1).f1))) (fun _ hk => hk.2) (.int .i64 ((rd_T54 l0 x18_1).f2))) (fun _ hk => trivial))); (case aS => exact (below_size (by repeat (first | (with_reducible first | exact HB.out | apply below_alloc | apply pw_below_drewN | apply below_drew1 | refine below_set ?_ GE407.out) | exact HB.out)))); (case aL => have := LMc8.out; omega); intro v409 w13 ho hb hg hat; rw [← Ny408.out] at ho; have n0_ := Aside0.mk (blk_grown (g := gb407) (o := .cells #[.int .u8 ((rd_T54 l0 x18_1).f0), .string ((rd_T54 l0 x18_1).f1), .int .i64 ((rd_T54 l0 x18_1).f2)] 54 (0, 0)) (by (with_reducible repeat (first | refine blk_drewN ?_ _ | refine blk_drew ?_ | refine blk_alloc ?_ _)); refine blk_put (cs := #[.int .u8 ((rd_T54 l0 x18_1).f0), .string ((rd_T54 l0 x18_1).f1), .int .i64 0]) ?_ 2 _ rfl; (with_reducible repeat (first | refine blk_drewN ?_ _ | refine blk_drew ?_ | refine blk_alloc ?_ _)); refine blk_put (cs := #[.int .u8 ((rd_T54 l0 x18_1).f0), .string (⟨#[]⟩ : ByteArray), .int .i64 0]) ?_ 1 _ rfl; (with_reducible repeat (first | refine blk_drewN ?_ _ | refine blk_drew ?_ | refine blk_alloc ?_ _)); refine blk_put (cs := #[.int .u8 0, .string (⟨#[]⟩ : ByteArray), .int .i64 0]) ?_ 0 _ rfl; (with_reducible repeat (first | refine blk_drewN ?_ _ | refine blk_drew ?_ | refine blk_alloc ?_ _)); exact BK407.out) hg (Kd.R_ne HO_6.out BK407.out (by decide))); have n1_ := Aside0.mk (hb); have n2_ := Aside0.mk (ho); clear BK407; clear HB; clear HO_6; have BK407 := n0_; have HB := n1_; have HO410 := n2_; clear n0_ n1_ n2_; clear ho hb hg hat; have hcz14_0 : w13.cell? ⟨gb407, 0, none⟩ = some (.int .u8 ((rd_T54 l0 x18_1).f0)) := (blk_cell BK407.out 0).trans rfl; have hcz14_1 : w13.cell? ⟨gb407, 1, none⟩ = some (.string ((rd_T54 l0 x18_1).f1)) := (blk_cell BK407.out 1).trans rfl; have hcz14_2 : w13.cell? ⟨gb407, 2, none⟩ = some (.int .i64 ((rd_T54 l0 x18_1).f2)) := (blk_cell BK407.out 2).trans rfl; have hfz14_0 := blk_frozen BK407.out 0; have hfz14_1 := blk_frozen BK407.out 1; have hfz14_2 := blk_frozen BK407.out 2))
                  go_roundg k1
                  case measure => have := HK1.out; omega
                  case rel => exact ⟨(y408), (17), (wrap64 (x18_1 + 1)), (by first | rfl | (simp; done) | (simp [*]; done)), (by first | rfl | (simp; done) | (simp [*]; done)), H', ⟨by have := HK1.out; omega⟩, ⟨by (with_reducible repeat (first | apply Kd.R_alloc | apply Kd.R_drewN | apply Kd.R_drew)); exact HO410.out⟩, ⟨by repeat (first | (with_reducible first | exact HB.out | apply below_alloc | apply pw_below_drewN | apply below_drew1 | refine below_set ?_ GE407.out) | exact HB.out)⟩⟩
                · rw [if_neg c10] at H
                  have c10b0 : (x7_1 == 0) = false := beq_eq_false_iff_ne.mpr c10
                  have c10b1 : (x7_1 != 0) = true := bne_iff_ne.mpr c10
                  have H' := Aside0.mk H
                  clear H
                  have p406 : 0 ≤ (x18_1 : Int) := of_decide_eq_true (by first | (with_reducible assumption) | assumption)
                  have q406 : x18_1 < (l0.length : Int) := of_decide_eq_true (by first | (with_reducible assumption) | assumption)
                  obtain ⟨ad406, e406, hx406_0, hx406_1, hx406_2⟩ := at_T54 HR0.out x18_1 p406 q406
                  cases e406
                  replace hx406_0 := (HB.out.cell (World.block_lt_of_cell? w _ hx406_0)).trans hx406_0
                  replace hx406_1 := (HB.out.cell (World.block_lt_of_cell? w _ hx406_1)).trans hx406_1
                  replace hx406_2 := (HB.out.cell (World.block_lt_of_cell? w _ hx406_2)).trans hx406_2
                  replace p406 := eq_true p406
                  replace q406 := eq_true q406
                  go_wp2_with (first | ((with_reducible refine gate_dst (N := 9) rfl ?_); refine box_event ?hg (N := 9) ?hd (cs := #[.int .u8 0, .string (⟨#[]⟩ : ByteArray), .int .i64 0]) (t := 54) ?hr ?_; (case hd => rfl); (case hg => rfl); (case hr => first | (go_simp; done) | (go_simp; rfl)); intro gb407 hg w15 hbox hb; have n0_ := Aside0.mk (Kd.R_below (by (with_reducible repeat (first | apply Kd.R_alloc | apply Kd.R_drewN | apply Kd.R_drew)); exact HO_6.out) hb); have n1_ := Aside0.mk (below_step (by repeat (first | (with_reducible first | exact HB.out | apply below_alloc | apply pw_below_drewN | apply below_drew1) | exact HB.out)) hb); have n2_ := Aside0.mk (hbox); have n3_ := Aside0.mk ((by rw [hg]; exact (below_size (by repeat (first | (with_reducible first | exact HB.out | apply below_alloc | apply pw_below_drewN | apply below_drew1) | exact HB.out))) : w.heap.size ≤ gb407)); have n4_ := Aside0.mk ((by rw [hg]; exact (below_size (by repeat (first | (with_reducible first | exact HB.out | apply below_alloc | apply pw_below_drewN | apply below_drew1) | exact HB.out))) : w.heap.size ≤ gb407)); clear HO_6; clear HB; have HO_6 := n0_; have HB := n1_; have BK407 := n2_; have GW407 := n3_; have GE407 := n4_; clear n0_ n1_ n2_ n3_ n4_; clear hb hbox hg; have hcz16_0 : w15.cell? ⟨gb407, 0, none⟩ = some (.int .u8 0) := (blk_cell BK407.out 0).trans rfl; have hcz16_1 : w15.cell? ⟨gb407, 1, none⟩ = some (.string (⟨#[]⟩ : ByteArray)) := (blk_cell BK407.out 1).trans rfl; have hcz16_2 : w15.cell? ⟨gb407, 2, none⟩ = some (.int .i64 0) := (blk_cell BK407.out 2).trans rfl; have hfz16_0 := blk_frozen BK407.out 0; have hfz16_1 := blk_frozen BK407.out 1; have hfz16_2 := blk_frozen BK407.out 2) | ((with_reducible refine gate_builtin (b := .append) (xs := #[.tmp 22, .tmp 25]) rfl ?_); at_builtin; refine Kd.R_append (Kd.int .u8) (w0 := w) w.heap.size rfl (.tmp 22) (.tmp 25) 87 5 (.int .u8 0) 1 rfl Try.underlying87 info5 rfl (by decide) (by omega) u6 x6_1 ((rd_T54 l0 x18_1).f0) [.int .u8 ((rd_T54 l0 x18_1).f0)] (fun _ => True) (fun _ => False) rfl (by first | (go_simp; done) | (go_simp; rfl)) ?aP (fun _ hk => hk.elim) ?aF ?aO ?aB ?aS ?aL ?_; (case aP => exact rfl); (case aB => exact (by repeat (first | (with_reducible first | exact HB.out | apply below_alloc | apply pw_below_drewN | apply below_drew1 | refine below_set ?_ GE407.out) | exact HB.out))); (case aF => exact (fun _ _ => trivial)); (case aO => exact (by (with_reducible repeat (first | apply Kd.R_alloc | apply Kd.R_drewN | apply Kd.R_drew)); exact Kd.R_mono (Kd.R_far (p := ⟨gb407, 2, none⟩) (Kd.R_far (p := ⟨gb407, 1, none⟩) (Kd.R_far (p := ⟨gb407, 0, none⟩) (Kd.R_types HO_6.out BK407.out (by decide)) (fun _ hk => hk.2) (.int .u8 ((rd_T54 l0 x18_1).f0))) (fun _ hk => hk.2) (.string ((rd_T54 l0 x18_1).f1))) (fun _ hk => hk.2) (.int .i64 ((rd_T54 l0 x18_1).f2))) (fun _ hk => trivial))); (case aS => exact (below_size (by repeat (first | (with_reducible first | exact HB.out | apply below_alloc | apply pw_below_drewN | apply below_drew1 | refine below_set ?_ GE407.out) | exact HB.out)))); (case aL => have := LMc8.out; omega); intro v409 w17 ho hb hg hat; rw [← Ny408.out] at ho; have n0_ := Aside0.mk (blk_grown (g := gb407) (o := .cells #[.int .u8 ((rd_T54 l0 x18_1).f0), .string ((rd_T54 l0 x18_1).f1), .int .i64 ((rd_T54 l0 x18_1).f2)] 54 (0, 0)) (by (with_reducible repeat (first | refine blk_drewN ?_ _ | refine blk_drew ?_ | refine blk_alloc ?_ _)); refine blk_put (cs := #[.int .u8 ((rd_T54 l0 x18_1).f0), .string ((rd_T54 l0 x18_1).f1), .int .i64 0]) ?_ 2 _ rfl; (with_reducible repeat (first | refine blk_drewN ?_ _ | refine blk_drew ?_ | refine blk_alloc ?_ _)); refine blk_put (cs := #[.int .u8 ((rd_T54 l0 x18_1).f0), .string (⟨#[]⟩ : ByteArray), .int .i64 0]) ?_ 1 _ rfl; (with_reducible repeat (first | refine blk_drewN ?_ _ | refine blk_drew ?_ | refine blk_alloc ?_ _)); refine blk_put (cs := #[.int .u8 0, .string (⟨#[]⟩ : ByteArray), .int .i64 0]) ?_ 0 _ rfl; (with_reducible repeat (first | refine blk_drewN ?_ _ | refine blk_drew ?_ | refine blk_alloc ?_ _)); exact BK407.out) hg (Kd.R_ne HO_6.out BK407.out (by decide))); have n1_ := Aside0.mk (hb); have n2_ := Aside0.mk (ho); clear BK407; clear HB; clear HO_6; have BK407 := n0_; have HB := n1_; have HO410 := n2_; clear n0_ n1_ n2_; clear ho hb hg hat; have hcz18_0 : w17.cell? ⟨gb407, 0, none⟩ = some (.int .u8 ((rd_T54 l0 x18_1).f0)) := (blk_cell BK407.out 0).trans rfl; have hcz18_1 : w17.cell? ⟨gb407, 1, none⟩ = some (.string ((rd_T54 l0 x18_1).f1)) := (blk_cell BK407.out 1).trans rfl; have hcz18_2 : w17.cell? ⟨gb407, 2, none⟩ = some (.int .i64 ((rd_T54 l0 x18_1).f2)) := (blk_cell BK407.out 2).trans rfl; have hfz18_0 := blk_frozen BK407.out 0; have hfz18_1 := blk_frozen BK407.out 1; have hfz18_2 := blk_frozen BK407.out 2))
                  go_roundg k1
                  case measure => have := HK1.out; omega
                  case rel => exact ⟨(y408), (x7_1), (wrap64 (x18_1 + 1)), (by first | rfl | (simp; done) | (simp [*]; done)), (by first | rfl | (simp; done) | (simp [*]; done)), H', ⟨by have := HK1.out; omega⟩, ⟨by (with_reducible repeat (first | apply Kd.R_alloc | apply Kd.R_drewN | apply Kd.R_drew)); exact HO410.out⟩, ⟨by repeat (first | (with_reducible first | exact HB.out | apply below_alloc | apply pw_below_drewN | apply below_drew1 | refine below_set ?_ GE407.out) | exact HB.out)⟩⟩
              · rw [if_neg c9] at H
                have c9b0 : decide (8 < ((rd_T54 l0 x18_1).f0)) = false := decide_eq_false c9
                clear c9
                by_cases c19 : ((rd_T54 l0 x18_1).f0) = 8
                · rw [if_pos c19] at H
                  have c19b0 : (((rd_T54 l0 x18_1).f0) == 8) = true := beq_iff_eq.mpr c19
                  have c19b1 : (((rd_T54 l0 x18_1).f0) != 8) = false := bne_eq_false_iff_eq.mpr c19
                  clear c19
                  have HC20 := Aside0.mk H
                  clear H
                  have p406 : 0 ≤ (x18_1 : Int) := of_decide_eq_true (by first | (with_reducible assumption) | assumption)
                  have q406 : x18_1 < (l0.length : Int) := of_decide_eq_true (by first | (with_reducible assumption) | assumption)
                  obtain ⟨ad406, e406, hx406_0, hx406_1, hx406_2⟩ := at_T54 HR0.out x18_1 p406 q406
                  cases e406
                  replace hx406_0 := (HB.out.cell (World.block_lt_of_cell? w _ hx406_0)).trans hx406_0
                  replace hx406_1 := (HB.out.cell (World.block_lt_of_cell? w _ hx406_1)).trans hx406_1
                  replace hx406_2 := (HB.out.cell (World.block_lt_of_cell? w _ hx406_2)).trans hx406_2
                  replace p406 := eq_true p406
                  replace q406 := eq_true q406
                  go_upto_region 11 with (first | ((with_reducible refine gate_dst (N := 9) rfl ?_); refine box_event ?hg (N := 9) ?hd (cs := #[.int .u8 0, .string (⟨#[]⟩ : ByteArray), .int .i64 0]) (t := 54) ?hr ?_; (case hd => rfl); (case hg => rfl); (case hr => first | (go_simp; done) | (go_simp; rfl)); intro gb407 hg w21 hbox hb; have n0_ := Aside0.mk (Kd.R_below (by (with_reducible repeat (first | apply Kd.R_alloc | apply Kd.R_drewN | apply Kd.R_drew)); exact HO_6.out) hb); have n1_ := Aside0.mk (below_step (by repeat (first | (with_reducible first | exact HB.out | apply below_alloc | apply pw_below_drewN | apply below_drew1) | exact HB.out)) hb); have n2_ := Aside0.mk (hbox); have n3_ := Aside0.mk ((by rw [hg]; exact (below_size (by repeat (first | (with_reducible first | exact HB.out | apply below_alloc | apply pw_below_drewN | apply below_drew1) | exact HB.out))) : w.heap.size ≤ gb407)); have n4_ := Aside0.mk ((by rw [hg]; exact (below_size (by repeat (first | (with_reducible first | exact HB.out | apply below_alloc | apply pw_below_drewN | apply below_drew1) | exact HB.out))) : w.heap.size ≤ gb407)); clear HO_6; clear HB; have HO_6 := n0_; have HB := n1_; have BK407 := n2_; have GW407 := n3_; have GE407 := n4_; clear n0_ n1_ n2_ n3_ n4_; clear hb hbox hg; have hcz22_0 : w21.cell? ⟨gb407, 0, none⟩ = some (.int .u8 0) := (blk_cell BK407.out 0).trans rfl; have hcz22_1 : w21.cell? ⟨gb407, 1, none⟩ = some (.string (⟨#[]⟩ : ByteArray)) := (blk_cell BK407.out 1).trans rfl; have hcz22_2 : w21.cell? ⟨gb407, 2, none⟩ = some (.int .i64 0) := (blk_cell BK407.out 2).trans rfl; have hfz22_0 := blk_frozen BK407.out 0; have hfz22_1 := blk_frozen BK407.out 1; have hfz22_2 := blk_frozen BK407.out 2) | ((with_reducible refine gate_builtin (b := .append) (xs := #[.tmp 22, .tmp 25]) rfl ?_); at_builtin; refine Kd.R_append (Kd.int .u8) (w0 := w) w.heap.size rfl (.tmp 22) (.tmp 25) 87 5 (.int .u8 0) 1 rfl Try.underlying87 info5 rfl (by decide) (by omega) u6 x6_1 ((rd_T54 l0 x18_1).f0) [.int .u8 ((rd_T54 l0 x18_1).f0)] (fun _ => True) (fun _ => False) rfl (by first | (go_simp; done) | (go_simp; rfl)) ?aP (fun _ hk => hk.elim) ?aF ?aO ?aB ?aS ?aL ?_; (case aP => exact rfl); (case aB => exact (by repeat (first | (with_reducible first | exact HB.out | apply below_alloc | apply pw_below_drewN | apply below_drew1 | refine below_set ?_ GE407.out) | exact HB.out))); (case aF => exact (fun _ _ => trivial)); (case aO => exact (by (with_reducible repeat (first | apply Kd.R_alloc | apply Kd.R_drewN | apply Kd.R_drew)); exact Kd.R_mono (Kd.R_far (p := ⟨gb407, 2, none⟩) (Kd.R_far (p := ⟨gb407, 1, none⟩) (Kd.R_far (p := ⟨gb407, 0, none⟩) (Kd.R_types HO_6.out BK407.out (by decide)) (fun _ hk => hk.2) (.int .u8 ((rd_T54 l0 x18_1).f0))) (fun _ hk => hk.2) (.string ((rd_T54 l0 x18_1).f1))) (fun _ hk => hk.2) (.int .i64 ((rd_T54 l0 x18_1).f2))) (fun _ hk => trivial))); (case aS => exact (below_size (by repeat (first | (with_reducible first | exact HB.out | apply below_alloc | apply pw_below_drewN | apply below_drew1 | refine below_set ?_ GE407.out) | exact HB.out)))); (case aL => have := LMc8.out; omega); intro v409 w23 ho hb hg hat; rw [← Ny408.out] at ho; have n0_ := Aside0.mk (blk_grown (g := gb407) (o := .cells #[.int .u8 ((rd_T54 l0 x18_1).f0), .string ((rd_T54 l0 x18_1).f1), .int .i64 ((rd_T54 l0 x18_1).f2)] 54 (0, 0)) (by (with_reducible repeat (first | refine blk_drewN ?_ _ | refine blk_drew ?_ | refine blk_alloc ?_ _)); refine blk_put (cs := #[.int .u8 ((rd_T54 l0 x18_1).f0), .string ((rd_T54 l0 x18_1).f1), .int .i64 0]) ?_ 2 _ rfl; (with_reducible repeat (first | refine blk_drewN ?_ _ | refine blk_drew ?_ | refine blk_alloc ?_ _)); refine blk_put (cs := #[.int .u8 ((rd_T54 l0 x18_1).f0), .string (⟨#[]⟩ : ByteArray), .int .i64 0]) ?_ 1 _ rfl; (with_reducible repeat (first | refine blk_drewN ?_ _ | refine blk_drew ?_ | refine blk_alloc ?_ _)); refine blk_put (cs := #[.int .u8 0, .string (⟨#[]⟩ : ByteArray), .int .i64 0]) ?_ 0 _ rfl; (with_reducible repeat (first | refine blk_drewN ?_ _ | refine blk_drew ?_ | refine blk_alloc ?_ _)); exact BK407.out) hg (Kd.R_ne HO_6.out BK407.out (by decide))); have n1_ := Aside0.mk (hb); have n2_ := Aside0.mk (ho); clear BK407; clear HB; clear HO_6; have BK407 := n0_; have HB := n1_; have HO410 := n2_; clear n0_ n1_ n2_; clear ho hb hg hat; have hcz24_0 : w23.cell? ⟨gb407, 0, none⟩ = some (.int .u8 ((rd_T54 l0 x18_1).f0)) := (blk_cell BK407.out 0).trans rfl; have hcz24_1 : w23.cell? ⟨gb407, 1, none⟩ = some (.string ((rd_T54 l0 x18_1).f1)) := (blk_cell BK407.out 1).trans rfl; have hcz24_2 : w23.cell? ⟨gb407, 2, none⟩ = some (.int .i64 ((rd_T54 l0 x18_1).f2)) := (blk_cell BK407.out 2).trans rfl; have hfz24_0 := blk_frozen BK407.out 0; have hfz24_1 := blk_frozen BK407.out 1; have hfz24_2 := blk_frozen BK407.out 2))
                  (try simp only [Act.put, List.setIfInBounds_toArray, List.set_cons_zero, List.set_cons_succ])
                  go_cut [42] (fun v42 wc => ∃ (kq : Nat) (x42_19 : Bool), v42 = .bool x42_19 ∧ Aside0 (jvmcoreref3_told.j1 kq l1 y408 x7_1 0 l0 (l0.length : Int) x18_1 x42_19 ((rd_T54 l0 x18_1).f0) ((rd_T54 l0 x18_1).f1) ((rd_T54 l0 x18_1).f2) = some (r1, r2)) ∧ Aside0 (kq ≤ k1) ∧ Aside0 (Kd.R (Kd.int .u8) 5 wc w.heap.size (fun _ => True) v409 y408) ∧ Aside0 (wc.heap[gb407]? = some (.cells #[.int .u8 ((rd_T54 l0 x18_1).f0), .string ((rd_T54 l0 x18_1).f1), .int .i64 ((rd_T54 l0 x18_1).f2)] 54 (0, 0))) ∧ Aside0 (Below w.heap.size w wc))
                  case first =>
                    have H := HC20.out
                    clear HC20
                    by_cases c25 : ((rd_T54 l0 x18_1).f2) < 0
                    · rw [if_pos c25] at H
                      have c25b0 : decide (((rd_T54 l0 x18_1).f2) < 0) = true := decide_eq_true c25
                      clear c25
                      (first | rw [c25b0] | (simp only [i64_w, i32_w]; rw [c25b0]) | skip)
                      have H' := Aside0.mk H
                      clear H
                      have hcz26_0 : w23.cell? ⟨gb407, 0, none⟩ = some (.int .u8 ((rd_T54 l0 x18_1).f0)) := (blk_cell BK407.out 0).trans rfl
                      have hcz26_1 : w23.cell? ⟨gb407, 1, none⟩ = some (.string ((rd_T54 l0 x18_1).f1)) := (blk_cell BK407.out 1).trans rfl
                      have hcz26_2 : w23.cell? ⟨gb407, 2, none⟩ = some (.int .i64 ((rd_T54 l0 x18_1).f2)) := (blk_cell BK407.out 2).trans rfl
                      have hfz26_0 := blk_frozen BK407.out 0
                      have hfz26_1 := blk_frozen BK407.out 1
                      have hfz26_2 := blk_frozen BK407.out 2
                      go_wp2
                      go_meet
                      case rel => exact ⟨_, (true), (by first | rfl | (simp; done) | (simp [*]; done)), H', ⟨by have := HK1.out; first | omega | exact Nat.le_refl _⟩, ⟨by (with_reducible repeat (first | apply Kd.R_alloc | apply Kd.R_drewN | apply Kd.R_drew)); exact HO410.out⟩, ⟨by (with_reducible repeat (first | refine blk_drewN ?_ _ | refine blk_drew ?_ | refine blk_alloc ?_ _)); exact BK407.out⟩, ⟨by repeat (first | (with_reducible first | exact HB.out | apply below_alloc | apply pw_below_drewN | apply below_drew1 | refine below_set ?_ GE407.out) | exact HB.out)⟩⟩
                    · rw [if_neg c25] at H
                      have c25b0 : decide (((rd_T54 l0 x18_1).f2) < 0) = false := decide_eq_false c25
                      clear c25
                      (first | rw [c25b0] | (simp only [i64_w, i32_w]; rw [c25b0]) | skip)
                      have H' := Aside0.mk H
                      clear H
                      have hcz27_0 : w23.cell? ⟨gb407, 0, none⟩ = some (.int .u8 ((rd_T54 l0 x18_1).f0)) := (blk_cell BK407.out 0).trans rfl
                      have hcz27_1 : w23.cell? ⟨gb407, 1, none⟩ = some (.string ((rd_T54 l0 x18_1).f1)) := (blk_cell BK407.out 1).trans rfl
                      have hcz27_2 : w23.cell? ⟨gb407, 2, none⟩ = some (.int .i64 ((rd_T54 l0 x18_1).f2)) := (blk_cell BK407.out 2).trans rfl
                      have hfz27_0 := blk_frozen BK407.out 0
                      have hfz27_1 := blk_frozen BK407.out 1
                      have hfz27_2 := blk_frozen BK407.out 2
                      go_wp2
                      go_meet
                      case rel => exact ⟨_, (decide (((rd_T54 l0 x18_1).f2) > 65535)), (by first | rfl | (simp; done) | (simp [*]; done)), H', ⟨by have := HK1.out; first | omega | exact Nat.le_refl _⟩, ⟨by (with_reducible repeat (first | apply Kd.R_alloc | apply Kd.R_drewN | apply Kd.R_drew)); exact HO410.out⟩, ⟨by (with_reducible repeat (first | refine blk_drewN ?_ _ | refine blk_drew ?_ | refine blk_alloc ?_ _)); exact BK407.out⟩, ⟨by repeat (first | (with_reducible first | exact HB.out | apply below_alloc | apply pw_below_drewN | apply below_drew1 | refine below_set ?_ GE407.out) | exact HB.out)⟩⟩
                  case rest =>
                    clear HC20
                    try clear c1
                    try clear c2
                    try clear p2
                    try clear p4
                    try clear q4
                    try clear hx4
                    try clear c5
                    try clear c5b0
                    try clear c6
                    try clear c6b0
                    try clear p6
                    try clear c7
                    try clear c7b0
                    try clear c8
                    try clear c9
                    try clear c9b0
                    try clear c10
                    try clear c10b0
                    try clear c10b1
                    try clear c19
                    try clear c19b0
                    try clear c19b1
                    try clear c25
                    try clear c25b0
                    try clear hcz12_0
                    try clear hcz12_1
                    try clear hcz12_2
                    try clear hcz14_0
                    try clear hcz14_1
                    try clear hcz14_2
                    try clear hcz16_0
                    try clear hcz16_1
                    try clear hcz16_2
                    try clear hcz18_0
                    try clear hcz18_1
                    try clear hcz18_2
                    try clear hcz22_0
                    try clear hcz22_1
                    try clear hcz22_2
                    try clear hcz24_0
                    try clear hcz24_1
                    try clear hcz24_2
                    try clear hcz26_0
                    try clear hcz26_1
                    try clear hcz26_2
                    try clear hcz27_0
                    try clear hcz27_1
                    try clear hcz27_2
                    try clear hfz12_0
                    try clear hfz12_1
                    try clear hfz12_2
                    try clear hfz14_0
                    try clear hfz14_1
                    try clear hfz14_2
                    try clear hfz16_0
                    try clear hfz16_1
                    try clear hfz16_2
                    try clear hfz18_0
                    try clear hfz18_1
                    try clear hfz18_2
                    try clear hfz22_0
                    try clear hfz22_1
                    try clear hfz22_2
                    try clear hfz24_0
                    try clear hfz24_1
                    try clear hfz24_2
                    try clear hfz26_0
                    try clear hfz26_1
                    try clear hfz26_2
                    try clear hfz27_0
                    try clear hfz27_1
                    try clear hfz27_2
                    try clear hx406_0
                    try clear hx406_1
                    try clear hx406_2
                    try clear p2
                    try clear p406
                    try clear q406
                    obtain ⟨kq, x42_19, rfl, HA, HJ19, HO_6, BK407, HB⟩ := hcut
                    cases kq with
                    | zero => exact absurd HA.out (by simp [jvmcoreref3_told.j1])
                    | succ kj19 =>
                      have H := HA.out
                      clear HA
                      simp only [jvmcoreref3_told.j1] at H
                      by_cases c28 : x42_19 = true
                      · subst c28
                        have H1 : ((jvmcoreref1_Big.f kj19 (IntKind.u64.wrap (((rd_T54 l0 x18_1).f2))) 2).bind fun t411 => (if y408.length + t411.size < 140737488355328 then ((some (y408 ++ bytesOf t411 : List Int)).bind fun y412 => (if x7_1 = 0 then (jvmcoreref3_told.l0 kj19 l1 y412 17 l0 (l0.length : Int) (wrap64 (x18_1 + 1))) else (jvmcoreref3_told.l0 kj19 l1 y412 x7_1 l0 (l0.length : Int) (wrap64 (x18_1 + 1))))) else (none))) = some (r1, r2) := by rw [if_pos rfl] at H; exact H
                        clear H
                        have H := H1
                        clear H1
                        replace H := Option.bind_eq_some_iff.mp H
                        obtain ⟨t411, A290, H⟩ := H
                        replace H : (if y408.length + t411.size < 140737488355328 then ((some (y408 ++ bytesOf t411 : List Int)).bind fun y412 => (if x7_1 = 0 then (jvmcoreref3_told.l0 kj19 l1 y412 17 l0 (l0.length : Int) (wrap64 (x18_1 + 1))) else (jvmcoreref3_told.l0 kj19 l1 y412 x7_1 l0 (l0.length : Int) (wrap64 (x18_1 + 1))))) else (none)) = some (r1, r2) := H
                        have A29 := Aside0.mk A290
                        clear A290
                        by_cases c30 : y408.length + t411.size < 140737488355328
                        · rw [if_pos c30] at H
                          have LMc30 := Aside0.mk c30
                          clear c30
                          obtain ⟨y412, hy412⟩ : ∃ y_ : List Int, y_ = (y408 ++ bytesOf t411) := ⟨_, rfl⟩
                          replace H : (if x7_1 = 0 then (jvmcoreref3_told.l0 kj19 l1 y412 17 l0 (l0.length : Int) (wrap64 (x18_1 + 1))) else (jvmcoreref3_told.l0 kj19 l1 y412 x7_1 l0 (l0.length : Int) (wrap64 (x18_1 + 1)))) = some (r1, r2) := by first | (rw [hy412]; with_reducible exact H) | (have H2_ := (Option.bind_some _ _).symm.trans H; rw [hy412]; with_reducible exact H2_) | (have H2_ := (Option.bind_some _ _).symm.trans H; with_reducible exact H2_) | with_reducible exact H | (rw [hy412]; exact H) | exact H
                          have Ny412 := Aside0.mk hy412
                          clear hy412
                          by_cases c31 : x7_1 = 0
                          · rw [if_pos c31] at H
                            have c31b0 : (x7_1 == 0) = true := beq_iff_eq.mpr c31
                            have c31b1 : (x7_1 != 0) = false := bne_eq_false_iff_eq.mpr c31
                            clear c31
                            have H' := Aside0.mk H
                            clear H
                            have hcz32_0 : wc.cell? ⟨gb407, 0, none⟩ = some (.int .u8 ((rd_T54 l0 x18_1).f0)) := (blk_cell BK407.out 0).trans rfl
                            have hcz32_1 : wc.cell? ⟨gb407, 1, none⟩ = some (.string ((rd_T54 l0 x18_1).f1)) := (blk_cell BK407.out 1).trans rfl
                            have hcz32_2 : wc.cell? ⟨gb407, 2, none⟩ = some (.int .i64 ((rd_T54 l0 x18_1).f2)) := (blk_cell BK407.out 2).trans rfl
                            have hfz32_0 := blk_frozen BK407.out 0
                            have hfz32_1 := blk_frozen BK407.out 1
                            have hfz32_2 := blk_frozen BK407.out 2
                            go_wp2_with (first | ((with_reducible refine gate_callee (f := 57) rfl ?_); refine goesL_ (some 47) rfl rfl Try.func57 (by kernel_rfl) rfl #[.int .u64 (IntKind.u64.wrap (((rd_T54 l0 x18_1).f2))), .int .i64 2] rfl (by (try simp only [List.map_toArray, List.map_cons, List.map_nil]); first | done | rfl | (simp only [List.length_drop, List.length_take]; rfl)) ?_; (with_reducible refine (jvmcoreref1_Big.calls kj19 (IntKind.u64.wrap (((rd_T54 l0 x18_1).f2))) 2 t411 _ A29.out).mono ?_); rintro e w33 ⟨rfl, hb⟩; refine ⟨_, rfl, ?_⟩; have n0_ := Aside0.mk (Kd.R_below (by (with_reducible repeat (first | apply Kd.R_alloc | apply Kd.R_drewN | apply Kd.R_drew)); exact HO_6.out) hb); have n1_ := Aside0.mk (blk_below (g := gb407) (o := .cells #[.int .u8 ((rd_T54 l0 x18_1).f0), .string ((rd_T54 l0 x18_1).f1), .int .i64 ((rd_T54 l0 x18_1).f2)] 54 (0, 0)) (by (with_reducible repeat (first | refine blk_drewN ?_ _ | refine blk_drew ?_ | refine blk_alloc ?_ _)); exact BK407.out) hb); have n2_ := Aside0.mk (below_step (by repeat (first | (with_reducible first | exact HB.out | apply below_alloc | apply pw_below_drewN | apply below_drew1 | refine below_set ?_ GE407.out) | exact HB.out)) hb); clear HO_6; clear BK407; clear HB; have HO_6 := n0_; have BK407 := n1_; have HB := n2_; clear n0_ n1_ n2_; (try clear hb); (try clear hb2); (try clear hk); (try clear hi)) | (at_builtin; refine print_append_str (w0 := w) w.heap.size rfl (.tmp 43) _ 87 9 5 rfl Try.underlying87 Try.underlying9 info5 v409 y408 t411 rfl rfl ?aO ?aB ?aS ?aL ?_; (case aB => exact (by repeat (first | (with_reducible first | exact HB.out | apply below_alloc | apply pw_below_drewN | apply below_drew1 | refine below_set ?_ GE407.out) | exact HB.out))); (case aO => exact (Kd.own_of_R (by (with_reducible repeat (first | apply Kd.R_alloc | apply Kd.R_drewN | apply Kd.R_drew)); exact HO_6.out))); (case aS => exact (below_size (by repeat (first | (with_reducible first | exact HB.out | apply below_alloc | apply pw_below_drewN | apply below_drew1 | refine below_set ?_ GE407.out) | exact HB.out)))); (case aL => have := LMc30.out; omega); intro v413 w34 ho0 hb hg; have ho := Kd.R_of_own (h1 := fun _ => rfl) (ok := fun _ => True) ho0 (fun _ _ => trivial); clear ho0; have hat := True.intro; rw [← Ny412.out] at ho; change Kd.R (Kd.int .u8) 5 w34 w.heap.size (fun _ => True) v413 y412 at ho; have n0_ := Aside0.mk (blk_grown (g := gb407) (o := .cells #[.int .u8 ((rd_T54 l0 x18_1).f0), .string ((rd_T54 l0 x18_1).f1), .int .i64 ((rd_T54 l0 x18_1).f2)] 54 (0, 0)) (by (with_reducible repeat (first | refine blk_drewN ?_ _ | refine blk_drew ?_ | refine blk_alloc ?_ _)); exact BK407.out) hg (Kd.R_ne HO_6.out BK407.out (by decide))); have n1_ := Aside0.mk (hb); have n2_ := Aside0.mk (ho); clear BK407; clear HB; clear HO_6; have BK407 := n0_; have HB := n1_; have HO414 := n2_; clear n0_ n1_ n2_; clear ho hb hg hat))
                            go_roundg kj19
                            case measure => have := HK1.out; have := HJ19.out; omega
                            case rel => exact ⟨(y412), (17), (wrap64 (x18_1 + 1)), (by first | rfl | (simp; done) | (simp [*]; done)), (by first | rfl | (simp; done) | (simp [*]; done)), H', ⟨by have := HK1.out; have := HJ19.out; omega⟩, ⟨by (with_reducible repeat (first | apply Kd.R_alloc | apply Kd.R_drewN | apply Kd.R_drew)); exact HO414.out⟩, ⟨by repeat (first | (with_reducible first | exact HB.out | apply below_alloc | apply pw_below_drewN | apply below_drew1 | refine below_set ?_ GE407.out) | exact HB.out)⟩⟩
                          · rw [if_neg c31] at H
                            have c31b0 : (x7_1 == 0) = false := beq_eq_false_iff_ne.mpr c31
                            have c31b1 : (x7_1 != 0) = true := bne_iff_ne.mpr c31
                            have H' := Aside0.mk H
                            clear H
                            have hcz35_0 : wc.cell? ⟨gb407, 0, none⟩ = some (.int .u8 ((rd_T54 l0 x18_1).f0)) := (blk_cell BK407.out 0).trans rfl
                            have hcz35_1 : wc.cell? ⟨gb407, 1, none⟩ = some (.string ((rd_T54 l0 x18_1).f1)) := (blk_cell BK407.out 1).trans rfl
                            have hcz35_2 : wc.cell? ⟨gb407, 2, none⟩ = some (.int .i64 ((rd_T54 l0 x18_1).f2)) := (blk_cell BK407.out 2).trans rfl
                            have hfz35_0 := blk_frozen BK407.out 0
                            have hfz35_1 := blk_frozen BK407.out 1
                            have hfz35_2 := blk_frozen BK407.out 2
                            go_wp2_with (first | ((with_reducible refine gate_callee (f := 57) rfl ?_); refine goesL_ (some 47) rfl rfl Try.func57 (by kernel_rfl) rfl #[.int .u64 (IntKind.u64.wrap (((rd_T54 l0 x18_1).f2))), .int .i64 2] rfl (by (try simp only [List.map_toArray, List.map_cons, List.map_nil]); first | done | rfl | (simp only [List.length_drop, List.length_take]; rfl)) ?_; (with_reducible refine (jvmcoreref1_Big.calls kj19 (IntKind.u64.wrap (((rd_T54 l0 x18_1).f2))) 2 t411 _ A29.out).mono ?_); rintro e w36 ⟨rfl, hb⟩; refine ⟨_, rfl, ?_⟩; have n0_ := Aside0.mk (Kd.R_below (by (with_reducible repeat (first | apply Kd.R_alloc | apply Kd.R_drewN | apply Kd.R_drew)); exact HO_6.out) hb); have n1_ := Aside0.mk (blk_below (g := gb407) (o := .cells #[.int .u8 ((rd_T54 l0 x18_1).f0), .string ((rd_T54 l0 x18_1).f1), .int .i64 ((rd_T54 l0 x18_1).f2)] 54 (0, 0)) (by (with_reducible repeat (first | refine blk_drewN ?_ _ | refine blk_drew ?_ | refine blk_alloc ?_ _)); exact BK407.out) hb); have n2_ := Aside0.mk (below_step (by repeat (first | (with_reducible first | exact HB.out | apply below_alloc | apply pw_below_drewN | apply below_drew1 | refine below_set ?_ GE407.out) | exact HB.out)) hb); clear HO_6; clear BK407; clear HB; have HO_6 := n0_; have BK407 := n1_; have HB := n2_; clear n0_ n1_ n2_; (try clear hb); (try clear hb2); (try clear hk); (try clear hi)) | (at_builtin; refine print_append_str (w0 := w) w.heap.size rfl (.tmp 43) _ 87 9 5 rfl Try.underlying87 Try.underlying9 info5 v409 y408 t411 rfl rfl ?aO ?aB ?aS ?aL ?_; (case aB => exact (by repeat (first | (with_reducible first | exact HB.out | apply below_alloc | apply pw_below_drewN | apply below_drew1 | refine below_set ?_ GE407.out) | exact HB.out))); (case aO => exact (Kd.own_of_R (by (with_reducible repeat (first | apply Kd.R_alloc | apply Kd.R_drewN | apply Kd.R_drew)); exact HO_6.out))); (case aS => exact (below_size (by repeat (first | (with_reducible first | exact HB.out | apply below_alloc | apply pw_below_drewN | apply below_drew1 | refine below_set ?_ GE407.out) | exact HB.out)))); (case aL => have := LMc30.out; omega); intro v413 w37 ho0 hb hg; have ho := Kd.R_of_own (h1 := fun _ => rfl) (ok := fun _ => True) ho0 (fun _ _ => trivial); clear ho0; have hat := True.intro; rw [← Ny412.out] at ho; change Kd.R (Kd.int .u8) 5 w37 w.heap.size (fun _ => True) v413 y412 at ho; have n0_ := Aside0.mk (blk_grown (g := gb407) (o := .cells #[.int .u8 ((rd_T54 l0 x18_1).f0), .string ((rd_T54 l0 x18_1).f1), .int .i64 ((rd_T54 l0 x18_1).f2)] 54 (0, 0)) (by (with_reducible repeat (first | refine blk_drewN ?_ _ | refine blk_drew ?_ | refine blk_alloc ?_ _)); exact BK407.out) hg (Kd.R_ne HO_6.out BK407.out (by decide))); have n1_ := Aside0.mk (hb); have n2_ := Aside0.mk (ho); clear BK407; clear HB; clear HO_6; have BK407 := n0_; have HB := n1_; have HO414 := n2_; clear n0_ n1_ n2_; clear ho hb hg hat))
                            go_roundg kj19
                            case measure => have := HK1.out; have := HJ19.out; omega
                            case rel => exact ⟨(y412), (x7_1), (wrap64 (x18_1 + 1)), (by first | rfl | (simp; done) | (simp [*]; done)), (by first | rfl | (simp; done) | (simp [*]; done)), H', ⟨by have := HK1.out; have := HJ19.out; omega⟩, ⟨by (with_reducible repeat (first | apply Kd.R_alloc | apply Kd.R_drewN | apply Kd.R_drew)); exact HO414.out⟩, ⟨by repeat (first | (with_reducible first | exact HB.out | apply below_alloc | apply pw_below_drewN | apply below_drew1 | refine below_set ?_ GE407.out) | exact HB.out)⟩⟩
                        · rw [if_neg c30] at H
                          exact absurd H (by simp)
                      · replace c28 := Bool.eq_false_iff.mpr c28
                        subst c28
                        have H1 : ((jvmcoreref1_Big.f kj19 (IntKind.u64.wrap (((rd_T54 l0 x18_1).f2))) 2).bind fun t415 => (if y408.length + t415.size < 140737488355328 then ((some (y408 ++ bytesOf t415 : List Int)).bind fun y416 => (if x7_1 = 0 then (jvmcoreref3_told.l0 kj19 l1 y416 0 l0 (l0.length : Int) (wrap64 (x18_1 + 1))) else (jvmcoreref3_told.l0 kj19 l1 y416 x7_1 l0 (l0.length : Int) (wrap64 (x18_1 + 1))))) else (none))) = some (r1, r2) := by rw [if_neg (show ¬ (false = true) by decide)] at H; exact H
                        clear H
                        have H := H1
                        clear H1
                        replace H := Option.bind_eq_some_iff.mp H
                        obtain ⟨t415, A380, H⟩ := H
                        replace H : (if y408.length + t415.size < 140737488355328 then ((some (y408 ++ bytesOf t415 : List Int)).bind fun y416 => (if x7_1 = 0 then (jvmcoreref3_told.l0 kj19 l1 y416 0 l0 (l0.length : Int) (wrap64 (x18_1 + 1))) else (jvmcoreref3_told.l0 kj19 l1 y416 x7_1 l0 (l0.length : Int) (wrap64 (x18_1 + 1))))) else (none)) = some (r1, r2) := H
                        have A38 := Aside0.mk A380
                        clear A380
                        by_cases c39 : y408.length + t415.size < 140737488355328
                        · rw [if_pos c39] at H
                          have LMc39 := Aside0.mk c39
                          clear c39
                          obtain ⟨y416, hy416⟩ : ∃ y_ : List Int, y_ = (y408 ++ bytesOf t415) := ⟨_, rfl⟩
                          replace H : (if x7_1 = 0 then (jvmcoreref3_told.l0 kj19 l1 y416 0 l0 (l0.length : Int) (wrap64 (x18_1 + 1))) else (jvmcoreref3_told.l0 kj19 l1 y416 x7_1 l0 (l0.length : Int) (wrap64 (x18_1 + 1)))) = some (r1, r2) := by first | (rw [hy416]; with_reducible exact H) | (have H2_ := (Option.bind_some _ _).symm.trans H; rw [hy416]; with_reducible exact H2_) | (have H2_ := (Option.bind_some _ _).symm.trans H; with_reducible exact H2_) | with_reducible exact H | (rw [hy416]; exact H) | exact H
                          have Ny416 := Aside0.mk hy416
                          clear hy416
                          by_cases c40 : x7_1 = 0
                          · rw [if_pos c40] at H
                            have c40b0 : (x7_1 == 0) = true := beq_iff_eq.mpr c40
                            have c40b1 : (x7_1 != 0) = false := bne_eq_false_iff_eq.mpr c40
                            clear c40
                            have H' := Aside0.mk H
                            clear H
                            have hcz41_0 : wc.cell? ⟨gb407, 0, none⟩ = some (.int .u8 ((rd_T54 l0 x18_1).f0)) := (blk_cell BK407.out 0).trans rfl
                            have hcz41_1 : wc.cell? ⟨gb407, 1, none⟩ = some (.string ((rd_T54 l0 x18_1).f1)) := (blk_cell BK407.out 1).trans rfl
                            have hcz41_2 : wc.cell? ⟨gb407, 2, none⟩ = some (.int .i64 ((rd_T54 l0 x18_1).f2)) := (blk_cell BK407.out 2).trans rfl
                            have hfz41_0 := blk_frozen BK407.out 0
                            have hfz41_1 := blk_frozen BK407.out 1
                            have hfz41_2 := blk_frozen BK407.out 2
                            go_wp2_with (first | ((with_reducible refine gate_callee (f := 57) rfl ?_); refine goesL_ (some 47) rfl rfl Try.func57 (by kernel_rfl) rfl #[.int .u64 (IntKind.u64.wrap (((rd_T54 l0 x18_1).f2))), .int .i64 2] rfl (by (try simp only [List.map_toArray, List.map_cons, List.map_nil]); first | done | rfl | (simp only [List.length_drop, List.length_take]; rfl)) ?_; (with_reducible refine (jvmcoreref1_Big.calls kj19 (IntKind.u64.wrap (((rd_T54 l0 x18_1).f2))) 2 t415 _ A38.out).mono ?_); rintro e w42 ⟨rfl, hb⟩; refine ⟨_, rfl, ?_⟩; have n0_ := Aside0.mk (Kd.R_below (by (with_reducible repeat (first | apply Kd.R_alloc | apply Kd.R_drewN | apply Kd.R_drew)); exact HO_6.out) hb); have n1_ := Aside0.mk (blk_below (g := gb407) (o := .cells #[.int .u8 ((rd_T54 l0 x18_1).f0), .string ((rd_T54 l0 x18_1).f1), .int .i64 ((rd_T54 l0 x18_1).f2)] 54 (0, 0)) (by (with_reducible repeat (first | refine blk_drewN ?_ _ | refine blk_drew ?_ | refine blk_alloc ?_ _)); exact BK407.out) hb); have n2_ := Aside0.mk (below_step (by repeat (first | (with_reducible first | exact HB.out | apply below_alloc | apply pw_below_drewN | apply below_drew1 | refine below_set ?_ GE407.out) | exact HB.out)) hb); clear HO_6; clear BK407; clear HB; have HO_6 := n0_; have BK407 := n1_; have HB := n2_; clear n0_ n1_ n2_; (try clear hb); (try clear hb2); (try clear hk); (try clear hi)) | (at_builtin; refine print_append_str (w0 := w) w.heap.size rfl (.tmp 43) _ 87 9 5 rfl Try.underlying87 Try.underlying9 info5 v409 y408 t415 rfl rfl ?aO ?aB ?aS ?aL ?_; (case aB => exact (by repeat (first | (with_reducible first | exact HB.out | apply below_alloc | apply pw_below_drewN | apply below_drew1 | refine below_set ?_ GE407.out) | exact HB.out))); (case aO => exact (Kd.own_of_R (by (with_reducible repeat (first | apply Kd.R_alloc | apply Kd.R_drewN | apply Kd.R_drew)); exact HO_6.out))); (case aS => exact (below_size (by repeat (first | (with_reducible first | exact HB.out | apply below_alloc | apply pw_below_drewN | apply below_drew1 | refine below_set ?_ GE407.out) | exact HB.out)))); (case aL => have := LMc39.out; omega); intro v417 w43 ho0 hb hg; have ho := Kd.R_of_own (h1 := fun _ => rfl) (ok := fun _ => True) ho0 (fun _ _ => trivial); clear ho0; have hat := True.intro; rw [← Ny416.out] at ho; change Kd.R (Kd.int .u8) 5 w43 w.heap.size (fun _ => True) v417 y416 at ho; have n0_ := Aside0.mk (blk_grown (g := gb407) (o := .cells #[.int .u8 ((rd_T54 l0 x18_1).f0), .string ((rd_T54 l0 x18_1).f1), .int .i64 ((rd_T54 l0 x18_1).f2)] 54 (0, 0)) (by (with_reducible repeat (first | refine blk_drewN ?_ _ | refine blk_drew ?_ | refine blk_alloc ?_ _)); exact BK407.out) hg (Kd.R_ne HO_6.out BK407.out (by decide))); have n1_ := Aside0.mk (hb); have n2_ := Aside0.mk (ho); clear BK407; clear HB; clear HO_6; have BK407 := n0_; have HB := n1_; have HO418 := n2_; clear n0_ n1_ n2_; clear ho hb hg hat))
                            go_roundg kj19
                            case measure => have := HK1.out; have := HJ19.out; omega
                            case rel => exact ⟨(y416), (0), (wrap64 (x18_1 + 1)), (by first | rfl | (simp; done) | (simp [*]; done)), (by first | rfl | (simp; done) | (simp [*]; done)), H', ⟨by have := HK1.out; have := HJ19.out; omega⟩, ⟨by (with_reducible repeat (first | apply Kd.R_alloc | apply Kd.R_drewN | apply Kd.R_drew)); exact HO418.out⟩, ⟨by repeat (first | (with_reducible first | exact HB.out | apply below_alloc | apply pw_below_drewN | apply below_drew1 | refine below_set ?_ GE407.out) | exact HB.out)⟩⟩
                          · rw [if_neg c40] at H
                            have c40b0 : (x7_1 == 0) = false := beq_eq_false_iff_ne.mpr c40
                            have c40b1 : (x7_1 != 0) = true := bne_iff_ne.mpr c40
                            have H' := Aside0.mk H
                            clear H
                            have hcz44_0 : wc.cell? ⟨gb407, 0, none⟩ = some (.int .u8 ((rd_T54 l0 x18_1).f0)) := (blk_cell BK407.out 0).trans rfl
                            have hcz44_1 : wc.cell? ⟨gb407, 1, none⟩ = some (.string ((rd_T54 l0 x18_1).f1)) := (blk_cell BK407.out 1).trans rfl
                            have hcz44_2 : wc.cell? ⟨gb407, 2, none⟩ = some (.int .i64 ((rd_T54 l0 x18_1).f2)) := (blk_cell BK407.out 2).trans rfl
                            have hfz44_0 := blk_frozen BK407.out 0
                            have hfz44_1 := blk_frozen BK407.out 1
                            have hfz44_2 := blk_frozen BK407.out 2
                            go_wp2_with (first | ((with_reducible refine gate_callee (f := 57) rfl ?_); refine goesL_ (some 47) rfl rfl Try.func57 (by kernel_rfl) rfl #[.int .u64 (IntKind.u64.wrap (((rd_T54 l0 x18_1).f2))), .int .i64 2] rfl (by (try simp only [List.map_toArray, List.map_cons, List.map_nil]); first | done | rfl | (simp only [List.length_drop, List.length_take]; rfl)) ?_; (with_reducible refine (jvmcoreref1_Big.calls kj19 (IntKind.u64.wrap (((rd_T54 l0 x18_1).f2))) 2 t415 _ A38.out).mono ?_); rintro e w45 ⟨rfl, hb⟩; refine ⟨_, rfl, ?_⟩; have n0_ := Aside0.mk (Kd.R_below (by (with_reducible repeat (first | apply Kd.R_alloc | apply Kd.R_drewN | apply Kd.R_drew)); exact HO_6.out) hb); have n1_ := Aside0.mk (blk_below (g := gb407) (o := .cells #[.int .u8 ((rd_T54 l0 x18_1).f0), .string ((rd_T54 l0 x18_1).f1), .int .i64 ((rd_T54 l0 x18_1).f2)] 54 (0, 0)) (by (with_reducible repeat (first | refine blk_drewN ?_ _ | refine blk_drew ?_ | refine blk_alloc ?_ _)); exact BK407.out) hb); have n2_ := Aside0.mk (below_step (by repeat (first | (with_reducible first | exact HB.out | apply below_alloc | apply pw_below_drewN | apply below_drew1 | refine below_set ?_ GE407.out) | exact HB.out)) hb); clear HO_6; clear BK407; clear HB; have HO_6 := n0_; have BK407 := n1_; have HB := n2_; clear n0_ n1_ n2_; (try clear hb); (try clear hb2); (try clear hk); (try clear hi)) | (at_builtin; refine print_append_str (w0 := w) w.heap.size rfl (.tmp 43) _ 87 9 5 rfl Try.underlying87 Try.underlying9 info5 v409 y408 t415 rfl rfl ?aO ?aB ?aS ?aL ?_; (case aB => exact (by repeat (first | (with_reducible first | exact HB.out | apply below_alloc | apply pw_below_drewN | apply below_drew1 | refine below_set ?_ GE407.out) | exact HB.out))); (case aO => exact (Kd.own_of_R (by (with_reducible repeat (first | apply Kd.R_alloc | apply Kd.R_drewN | apply Kd.R_drew)); exact HO_6.out))); (case aS => exact (below_size (by repeat (first | (with_reducible first | exact HB.out | apply below_alloc | apply pw_below_drewN | apply below_drew1 | refine below_set ?_ GE407.out) | exact HB.out)))); (case aL => have := LMc39.out; omega); intro v417 w46 ho0 hb hg; have ho := Kd.R_of_own (h1 := fun _ => rfl) (ok := fun _ => True) ho0 (fun _ _ => trivial); clear ho0; have hat := True.intro; rw [← Ny416.out] at ho; change Kd.R (Kd.int .u8) 5 w46 w.heap.size (fun _ => True) v417 y416 at ho; have n0_ := Aside0.mk (blk_grown (g := gb407) (o := .cells #[.int .u8 ((rd_T54 l0 x18_1).f0), .string ((rd_T54 l0 x18_1).f1), .int .i64 ((rd_T54 l0 x18_1).f2)] 54 (0, 0)) (by (with_reducible repeat (first | refine blk_drewN ?_ _ | refine blk_drew ?_ | refine blk_alloc ?_ _)); exact BK407.out) hg (Kd.R_ne HO_6.out BK407.out (by decide))); have n1_ := Aside0.mk (hb); have n2_ := Aside0.mk (ho); clear BK407; clear HB; clear HO_6; have BK407 := n0_; have HB := n1_; have HO418 := n2_; clear n0_ n1_ n2_; clear ho hb hg hat))
                            go_roundg kj19
                            case measure => have := HK1.out; have := HJ19.out; omega
                            case rel => exact ⟨(y416), (x7_1), (wrap64 (x18_1 + 1)), (by first | rfl | (simp; done) | (simp [*]; done)), (by first | rfl | (simp; done) | (simp [*]; done)), H', ⟨by have := HK1.out; have := HJ19.out; omega⟩, ⟨by (with_reducible repeat (first | apply Kd.R_alloc | apply Kd.R_drewN | apply Kd.R_drew)); exact HO418.out⟩, ⟨by repeat (first | (with_reducible first | exact HB.out | apply below_alloc | apply pw_below_drewN | apply below_drew1 | refine below_set ?_ GE407.out) | exact HB.out)⟩⟩
                        · rw [if_neg c39] at H
                          exact absurd H (by simp)
                · rw [if_neg c19] at H
                  have c19b0 : (((rd_T54 l0 x18_1).f0) == 8) = false := beq_eq_false_iff_ne.mpr c19
                  have c19b1 : (((rd_T54 l0 x18_1).f0) != 8) = true := bne_iff_ne.mpr c19
                  by_cases c47 : ((rd_T54 l0 x18_1).f0) = 7
                  · rw [if_pos c47] at H
                    have c47b0 : (((rd_T54 l0 x18_1).f0) == 7) = true := beq_iff_eq.mpr c47
                    have c47b1 : (((rd_T54 l0 x18_1).f0) != 7) = false := bne_eq_false_iff_eq.mpr c47
                    clear c47
                    have H' := Aside0.mk H
                    clear H
                    have p406 : 0 ≤ (x18_1 : Int) := of_decide_eq_true (by first | (with_reducible assumption) | assumption)
                    have q406 : x18_1 < (l0.length : Int) := of_decide_eq_true (by first | (with_reducible assumption) | assumption)
                    obtain ⟨ad406, e406, hx406_0, hx406_1, hx406_2⟩ := at_T54 HR0.out x18_1 p406 q406
                    cases e406
                    replace hx406_0 := (HB.out.cell (World.block_lt_of_cell? w _ hx406_0)).trans hx406_0
                    replace hx406_1 := (HB.out.cell (World.block_lt_of_cell? w _ hx406_1)).trans hx406_1
                    replace hx406_2 := (HB.out.cell (World.block_lt_of_cell? w _ hx406_2)).trans hx406_2
                    replace p406 := eq_true p406
                    replace q406 := eq_true q406
                    go_wp2_with (first | ((with_reducible refine gate_dst (N := 9) rfl ?_); refine box_event ?hg (N := 9) ?hd (cs := #[.int .u8 0, .string (⟨#[]⟩ : ByteArray), .int .i64 0]) (t := 54) ?hr ?_; (case hd => rfl); (case hg => rfl); (case hr => first | (go_simp; done) | (go_simp; rfl)); intro gb407 hg w48 hbox hb; have n0_ := Aside0.mk (Kd.R_below (by (with_reducible repeat (first | apply Kd.R_alloc | apply Kd.R_drewN | apply Kd.R_drew)); exact HO_6.out) hb); have n1_ := Aside0.mk (below_step (by repeat (first | (with_reducible first | exact HB.out | apply below_alloc | apply pw_below_drewN | apply below_drew1) | exact HB.out)) hb); have n2_ := Aside0.mk (hbox); have n3_ := Aside0.mk ((by rw [hg]; exact (below_size (by repeat (first | (with_reducible first | exact HB.out | apply below_alloc | apply pw_below_drewN | apply below_drew1) | exact HB.out))) : w.heap.size ≤ gb407)); have n4_ := Aside0.mk ((by rw [hg]; exact (below_size (by repeat (first | (with_reducible first | exact HB.out | apply below_alloc | apply pw_below_drewN | apply below_drew1) | exact HB.out))) : w.heap.size ≤ gb407)); clear HO_6; clear HB; have HO_6 := n0_; have HB := n1_; have BK407 := n2_; have GW407 := n3_; have GE407 := n4_; clear n0_ n1_ n2_ n3_ n4_; clear hb hbox hg; have hcz49_0 : w48.cell? ⟨gb407, 0, none⟩ = some (.int .u8 0) := (blk_cell BK407.out 0).trans rfl; have hcz49_1 : w48.cell? ⟨gb407, 1, none⟩ = some (.string (⟨#[]⟩ : ByteArray)) := (blk_cell BK407.out 1).trans rfl; have hcz49_2 : w48.cell? ⟨gb407, 2, none⟩ = some (.int .i64 0) := (blk_cell BK407.out 2).trans rfl; have hfz49_0 := blk_frozen BK407.out 0; have hfz49_1 := blk_frozen BK407.out 1; have hfz49_2 := blk_frozen BK407.out 2) | ((with_reducible refine gate_builtin (b := .append) (xs := #[.tmp 22, .tmp 25]) rfl ?_); at_builtin; refine Kd.R_append (Kd.int .u8) (w0 := w) w.heap.size rfl (.tmp 22) (.tmp 25) 87 5 (.int .u8 0) 1 rfl Try.underlying87 info5 rfl (by decide) (by omega) u6 x6_1 ((rd_T54 l0 x18_1).f0) [.int .u8 ((rd_T54 l0 x18_1).f0)] (fun _ => True) (fun _ => False) rfl (by first | (go_simp; done) | (go_simp; rfl)) ?aP (fun _ hk => hk.elim) ?aF ?aO ?aB ?aS ?aL ?_; (case aP => exact rfl); (case aB => exact (by repeat (first | (with_reducible first | exact HB.out | apply below_alloc | apply pw_below_drewN | apply below_drew1 | refine below_set ?_ GE407.out) | exact HB.out))); (case aF => exact (fun _ _ => trivial)); (case aO => exact (by (with_reducible repeat (first | apply Kd.R_alloc | apply Kd.R_drewN | apply Kd.R_drew)); exact Kd.R_mono (Kd.R_far (p := ⟨gb407, 2, none⟩) (Kd.R_far (p := ⟨gb407, 1, none⟩) (Kd.R_far (p := ⟨gb407, 0, none⟩) (Kd.R_types HO_6.out BK407.out (by decide)) (fun _ hk => hk.2) (.int .u8 ((rd_T54 l0 x18_1).f0))) (fun _ hk => hk.2) (.string ((rd_T54 l0 x18_1).f1))) (fun _ hk => hk.2) (.int .i64 ((rd_T54 l0 x18_1).f2))) (fun _ hk => trivial))); (case aS => exact (below_size (by repeat (first | (with_reducible first | exact HB.out | apply below_alloc | apply pw_below_drewN | apply below_drew1 | refine below_set ?_ GE407.out) | exact HB.out)))); (case aL => have := LMc8.out; omega); intro v409 w50 ho hb hg hat; rw [← Ny408.out] at ho; have n0_ := Aside0.mk (blk_grown (g := gb407) (o := .cells #[.int .u8 ((rd_T54 l0 x18_1).f0), .string ((rd_T54 l0 x18_1).f1), .int .i64 ((rd_T54 l0 x18_1).f2)] 54 (0, 0)) (by (with_reducible repeat (first | refine blk_drewN ?_ _ | refine blk_drew ?_ | refine blk_alloc ?_ _)); refine blk_put (cs := #[.int .u8 ((rd_T54 l0 x18_1).f0), .string ((rd_T54 l0 x18_1).f1), .int .i64 0]) ?_ 2 _ rfl; (with_reducible repeat (first | refine blk_drewN ?_ _ | refine blk_drew ?_ | refine blk_alloc ?_ _)); refine blk_put (cs := #[.int .u8 ((rd_T54 l0 x18_1).f0), .string (⟨#[]⟩ : ByteArray), .int .i64 0]) ?_ 1 _ rfl; (with_reducible repeat (first | refine blk_drewN ?_ _ | refine blk_drew ?_ | refine blk_alloc ?_ _)); refine blk_put (cs := #[.int .u8 0, .string (⟨#[]⟩ : ByteArray), .int .i64 0]) ?_ 0 _ rfl; (with_reducible repeat (first | refine blk_drewN ?_ _ | refine blk_drew ?_ | refine blk_alloc ?_ _)); exact BK407.out) hg (Kd.R_ne HO_6.out BK407.out (by decide))); have n1_ := Aside0.mk (hb); have n2_ := Aside0.mk (ho); clear BK407; clear HB; clear HO_6; have BK407 := n0_; have HB := n1_; have HO410 := n2_; clear n0_ n1_ n2_; clear ho hb hg hat; have hcz51_0 : w50.cell? ⟨gb407, 0, none⟩ = some (.int .u8 ((rd_T54 l0 x18_1).f0)) := (blk_cell BK407.out 0).trans rfl; have hcz51_1 : w50.cell? ⟨gb407, 1, none⟩ = some (.string ((rd_T54 l0 x18_1).f1)) := (blk_cell BK407.out 1).trans rfl; have hcz51_2 : w50.cell? ⟨gb407, 2, none⟩ = some (.int .i64 ((rd_T54 l0 x18_1).f2)) := (blk_cell BK407.out 2).trans rfl; have hfz51_0 := blk_frozen BK407.out 0; have hfz51_1 := blk_frozen BK407.out 1; have hfz51_2 := blk_frozen BK407.out 2))
                    go_loopg [11, 12] k1 (fun kq v11 v12 w' => ∃ (x11_2 : Int) (x12_2 : Int), v11 = .int .i64 x11_2 ∧ v12 = .int .i64 x12_2 ∧ Aside0 (jvmcoreref3_told.l1 kq l1 y408 x7_1 0 x11_2 x12_2 l0 (l0.length : Int) x18_1 ((rd_T54 l0 x18_1).f0) ((rd_T54 l0 x18_1).f1) ((rd_T54 l0 x18_1).f2) = some (r1, r2)) ∧ Aside0 (kq ≤ k1) ∧ Aside0 (Kd.R (Kd.int .u8) 5 w' w.heap.size (fun _ => True) v409 y408) ∧ Aside0 (w'.heap[gb407]? = some (.cells #[.int .u8 ((rd_T54 l0 x18_1).f0), .string ((rd_T54 l0 x18_1).f1), .int .i64 ((rd_T54 l0 x18_1).f2)] 54 (0, 0))) ∧ Aside0 (Below w.heap.size w w'))
                    case atStart => exact ⟨(0), (wrap64 ((l1.length : Int) - 1)), (by first | rfl | (simp; done) | (simp [*]; done)), (by first | rfl | (simp; done) | (simp [*]; done)), H', ⟨Nat.le_refl _⟩, ⟨by (with_reducible repeat (first | apply Kd.R_alloc | apply Kd.R_drewN | apply Kd.R_drew)); exact HO410.out⟩, ⟨by (with_reducible repeat (first | refine blk_drewN ?_ _ | refine blk_drew ?_ | refine blk_alloc ?_ _)); exact BK407.out⟩, ⟨by repeat (first | (with_reducible first | exact HB.out | apply below_alloc | apply pw_below_drewN | apply below_drew1 | refine below_set ?_ GE407.out) | exact HB.out)⟩⟩
                    case round =>
                      clear H'
                      try clear c1
                      try clear c2
                      try clear p2
                      try clear c3
                      try clear c4
                      try clear p4
                      try clear q4
                      try clear hx4
                      try clear c5
                      try clear c5b0
                      try clear c6
                      try clear c6b0
                      try clear p6
                      try clear c7
                      try clear c7b0
                      try clear c8
                      try clear c9
                      try clear c9b0
                      try clear c10
                      try clear c10b0
                      try clear c10b1
                      try clear c19
                      try clear c19b0
                      try clear c19b1
                      try clear c25
                      try clear c25b0
                      try clear c28
                      try clear c30
                      try clear c31
                      try clear c31b0
                      try clear c31b1
                      try clear c39
                      try clear c40
                      try clear c40b0
                      try clear c40b1
                      try clear p40
                      try clear q40
                      try clear hx40
                      try clear c47
                      try clear c47b0
                      try clear c47b1
                      try clear hcz12_0
                      try clear hcz12_1
                      try clear hcz12_2
                      try clear hcz14_0
                      try clear hcz14_1
                      try clear hcz14_2
                      try clear hcz16_0
                      try clear hcz16_1
                      try clear hcz16_2
                      try clear hcz18_0
                      try clear hcz18_1
                      try clear hcz18_2
                      try clear hcz22_0
                      try clear hcz22_1
                      try clear hcz22_2
                      try clear hcz24_0
                      try clear hcz24_1
                      try clear hcz24_2
                      try clear hcz26_0
                      try clear hcz26_1
                      try clear hcz26_2
                      try clear hcz27_0
                      try clear hcz27_1
                      try clear hcz27_2
                      try clear hcz32_0
                      try clear hcz32_1
                      try clear hcz32_2
                      try clear hcz35_0
                      try clear hcz35_1
                      try clear hcz35_2
                      try clear hcz41_0
                      try clear hcz41_1
                      try clear hcz41_2
                      try clear hcz44_0
                      try clear hcz44_1
                      try clear hcz44_2
                      try clear hcz49_0
                      try clear hcz49_1
                      try clear hcz49_2
                      try clear hcz51_0
                      try clear hcz51_1
                      try clear hcz51_2
                      try clear hfz12_0
                      try clear hfz12_1
                      try clear hfz12_2
                      try clear hfz14_0
                      try clear hfz14_1
                      try clear hfz14_2
                      try clear hfz16_0
                      try clear hfz16_1
                      try clear hfz16_2
                      try clear hfz18_0
                      try clear hfz18_1
                      try clear hfz18_2
                      try clear hfz22_0
                      try clear hfz22_1
                      try clear hfz22_2
                      try clear hfz24_0
                      try clear hfz24_1
                      try clear hfz24_2
                      try clear hfz26_0
                      try clear hfz26_1
                      try clear hfz26_2
                      try clear hfz27_0
                      try clear hfz27_1
                      try clear hfz27_2
                      try clear hfz32_0
                      try clear hfz32_1
                      try clear hfz32_2
                      try clear hfz35_0
                      try clear hfz35_1
                      try clear hfz35_2
                      try clear hfz41_0
                      try clear hfz41_1
                      try clear hfz41_2
                      try clear hfz44_0
                      try clear hfz44_1
                      try clear hfz44_2
                      try clear hfz49_0
                      try clear hfz49_1
                      try clear hfz49_2
                      try clear hfz51_0
                      try clear hfz51_1
                      try clear hfz51_2
                      try clear hx406_0
                      try clear hx406_1
                      try clear hx406_2
                      try clear p2
                      try clear p4
                      try clear p406
                      try clear p6
                      try clear q4
                      try clear q406
                      obtain ⟨x11_2, x12_2, rfl, rfl, HA, HK2, HO_6, BK407, HB⟩ := hrel
                      cases gk with
                      | zero => exact absurd HA.out (by simp [jvmcoreref3_told.l1])
                      | succ k2 =>
                        have H := HA.out
                        clear HA
                        simp only [jvmcoreref3_told.l1] at H
                        by_cases c52 : x12_2 > 0
                        · rw [if_pos c52] at H
                          have c52b0 : decide (0 < x12_2) = true := decide_eq_true c52
                          clear c52
                          replace H := Option.bind_eq_some_iff.mp H
                          obtain ⟨⟨t419, t420⟩, A530, H⟩ := H
                          replace H : (if t420 = true then (if t419.toList = ((rd_T54 l0 x18_1).f1).toList then (jvmcoreref3_told.l1 k2 l1 y408 x7_1 0 x12_2 (wrap64 (x12_2 - 1)) l0 (l0.length : Int) x18_1 ((rd_T54 l0 x18_1).f0) ((rd_T54 l0 x18_1).f1) ((rd_T54 l0 x18_1).f2)) else (jvmcoreref3_told.l1 k2 l1 y408 x7_1 0 x11_2 (wrap64 (x12_2 - 1)) l0 (l0.length : Int) x18_1 ((rd_T54 l0 x18_1).f0) ((rd_T54 l0 x18_1).f1) ((rd_T54 l0 x18_1).f2))) else (jvmcoreref3_told.l1 k2 l1 y408 x7_1 0 x11_2 (wrap64 (x12_2 - 1)) l0 (l0.length : Int) x18_1 ((rd_T54 l0 x18_1).f0) ((rd_T54 l0 x18_1).f1) ((rd_T54 l0 x18_1).f2))) = some (r1, r2) := H
                          have A53 := Aside0.mk A530
                          clear A530
                          by_cases c54 : t420 = true
                          · subst c54
                            have H1 : (if t419.toList = ((rd_T54 l0 x18_1).f1).toList then (jvmcoreref3_told.l1 k2 l1 y408 x7_1 0 x12_2 (wrap64 (x12_2 - 1)) l0 (l0.length : Int) x18_1 ((rd_T54 l0 x18_1).f0) ((rd_T54 l0 x18_1).f1) ((rd_T54 l0 x18_1).f2)) else (jvmcoreref3_told.l1 k2 l1 y408 x7_1 0 x11_2 (wrap64 (x12_2 - 1)) l0 (l0.length : Int) x18_1 ((rd_T54 l0 x18_1).f0) ((rd_T54 l0 x18_1).f1) ((rd_T54 l0 x18_1).f2))) = some (r1, r2) := by rw [if_pos rfl] at H; exact H
                            clear H
                            have H := H1
                            clear H1
                            by_cases c55 : t419.toList = ((rd_T54 l0 x18_1).f1).toList
                            · rw [if_pos c55] at H
                              have c55b0 : (t419.toList == ((rd_T54 l0 x18_1).f1).toList) = true := beq_iff_eq.mpr c55
                              have c55b1 : (t419.toList != ((rd_T54 l0 x18_1).f1).toList) = false := bne_eq_false_iff_eq.mpr c55
                              clear c55
                              have H' := Aside0.mk H
                              clear H
                              go_wp2_with (first | ((with_reducible refine gate_callee (f := 111) rfl ?_); refine goesL_ (some 63) rfl rfl Try.func111 (by kernel_rfl) rfl #[.slice A1 l1.length c1, .int .i64 x12_2] rfl (by (try simp only [List.map_toArray, List.map_cons, List.map_nil]); first | done | rfl | (simp only [List.length_drop, List.length_take]; rfl)) ?_; (with_reducible refine (jvmcoreref1_ClassOf.calls _ _ l1 x12_2 t419 true _ ?side1 ?side2 A53.out).mono ?_); (case side1 => repeat (first | exact (Kd.C_below HR1.out HB.out) | (with_reducible refine Kd.C_alloc ?_ _) | (with_reducible refine Kd.C_drewN ?_ _) | (with_reducible refine Kd.C_drew ?_))); (case side2 => exact HC1.out); rintro e w' ⟨rfl, ⟨nd, rfl⟩⟩; refine ⟨_, rfl, ?_⟩; have hcz56_0 : wr.cell? ⟨gb407, 0, none⟩ = some (.int .u8 ((rd_T54 l0 x18_1).f0)) := (blk_cell BK407.out 0).trans rfl; have hcz56_1 : wr.cell? ⟨gb407, 1, none⟩ = some (.string ((rd_T54 l0 x18_1).f1)) := (blk_cell BK407.out 1).trans rfl; have hcz56_2 : wr.cell? ⟨gb407, 2, none⟩ = some (.int .i64 ((rd_T54 l0 x18_1).f2)) := (blk_cell BK407.out 2).trans rfl; have hfz56_0 := blk_frozen BK407.out 0; have hfz56_1 := blk_frozen BK407.out 1; have hfz56_2 := blk_frozen BK407.out 2))
                              go_roundg k2
                              case measure => have := HK1.out; have := HK2.out; omega
                              case rel => exact ⟨(x12_2), (wrap64 (x12_2 - 1)), (by first | rfl | (simp; done) | (simp [*]; done)), (by first | rfl | (simp; done) | (simp [*]; done)), H', ⟨by have := HK1.out; have := HK2.out; omega⟩, ⟨by (with_reducible repeat (first | apply Kd.R_alloc | apply Kd.R_drewN | apply Kd.R_drew)); exact HO_6.out⟩, ⟨by (with_reducible repeat (first | refine blk_drewN ?_ _ | refine blk_drew ?_ | refine blk_alloc ?_ _)); exact BK407.out⟩, ⟨by repeat (first | (with_reducible first | exact HB.out | apply below_alloc | apply pw_below_drewN | apply below_drew1 | refine below_set ?_ GE407.out) | exact HB.out)⟩⟩
                            · rw [if_neg c55] at H
                              have c55b0 : (t419.toList == ((rd_T54 l0 x18_1).f1).toList) = false := beq_eq_false_iff_ne.mpr c55
                              have c55b1 : (t419.toList != ((rd_T54 l0 x18_1).f1).toList) = true := bne_iff_ne.mpr c55
                              have H' := Aside0.mk H
                              clear H
                              go_wp2_with (first | ((with_reducible refine gate_callee (f := 111) rfl ?_); refine goesL_ (some 63) rfl rfl Try.func111 (by kernel_rfl) rfl #[.slice A1 l1.length c1, .int .i64 x12_2] rfl (by (try simp only [List.map_toArray, List.map_cons, List.map_nil]); first | done | rfl | (simp only [List.length_drop, List.length_take]; rfl)) ?_; (with_reducible refine (jvmcoreref1_ClassOf.calls _ _ l1 x12_2 t419 true _ ?side1 ?side2 A53.out).mono ?_); (case side1 => repeat (first | exact (Kd.C_below HR1.out HB.out) | (with_reducible refine Kd.C_alloc ?_ _) | (with_reducible refine Kd.C_drewN ?_ _) | (with_reducible refine Kd.C_drew ?_))); (case side2 => exact HC1.out); rintro e w' ⟨rfl, ⟨nd, rfl⟩⟩; refine ⟨_, rfl, ?_⟩; have hcz57_0 : wr.cell? ⟨gb407, 0, none⟩ = some (.int .u8 ((rd_T54 l0 x18_1).f0)) := (blk_cell BK407.out 0).trans rfl; have hcz57_1 : wr.cell? ⟨gb407, 1, none⟩ = some (.string ((rd_T54 l0 x18_1).f1)) := (blk_cell BK407.out 1).trans rfl; have hcz57_2 : wr.cell? ⟨gb407, 2, none⟩ = some (.int .i64 ((rd_T54 l0 x18_1).f2)) := (blk_cell BK407.out 2).trans rfl; have hfz57_0 := blk_frozen BK407.out 0; have hfz57_1 := blk_frozen BK407.out 1; have hfz57_2 := blk_frozen BK407.out 2))
                              go_roundg k2
                              case measure => have := HK1.out; have := HK2.out; omega
                              case rel => exact ⟨(x11_2), (wrap64 (x12_2 - 1)), (by first | rfl | (simp; done) | (simp [*]; done)), (by first | rfl | (simp; done) | (simp [*]; done)), H', ⟨by have := HK1.out; have := HK2.out; omega⟩, ⟨by (with_reducible repeat (first | apply Kd.R_alloc | apply Kd.R_drewN | apply Kd.R_drew)); exact HO_6.out⟩, ⟨by (with_reducible repeat (first | refine blk_drewN ?_ _ | refine blk_drew ?_ | refine blk_alloc ?_ _)); exact BK407.out⟩, ⟨by repeat (first | (with_reducible first | exact HB.out | apply below_alloc | apply pw_below_drewN | apply below_drew1 | refine below_set ?_ GE407.out) | exact HB.out)⟩⟩
                          · replace c54 := Bool.eq_false_iff.mpr c54
                            subst c54
                            have H1 : (jvmcoreref3_told.l1 k2 l1 y408 x7_1 0 x11_2 (wrap64 (x12_2 - 1)) l0 (l0.length : Int) x18_1 ((rd_T54 l0 x18_1).f0) ((rd_T54 l0 x18_1).f1) ((rd_T54 l0 x18_1).f2)) = some (r1, r2) := by rw [if_neg (show ¬ (false = true) by decide)] at H; exact H
                            clear H
                            have H := H1
                            clear H1
                            have H' := Aside0.mk H
                            clear H
                            go_wp2_with (first | ((with_reducible refine gate_callee (f := 111) rfl ?_); refine goesL_ (some 63) rfl rfl Try.func111 (by kernel_rfl) rfl #[.slice A1 l1.length c1, .int .i64 x12_2] rfl (by (try simp only [List.map_toArray, List.map_cons, List.map_nil]); first | done | rfl | (simp only [List.length_drop, List.length_take]; rfl)) ?_; (with_reducible refine (jvmcoreref1_ClassOf.calls _ _ l1 x12_2 t419 false _ ?side1 ?side2 A53.out).mono ?_); (case side1 => repeat (first | exact (Kd.C_below HR1.out HB.out) | (with_reducible refine Kd.C_alloc ?_ _) | (with_reducible refine Kd.C_drewN ?_ _) | (with_reducible refine Kd.C_drew ?_))); (case side2 => exact HC1.out); rintro e w' ⟨rfl, ⟨nd, rfl⟩⟩; refine ⟨_, rfl, ?_⟩))
                            go_roundg k2
                            case measure => have := HK1.out; have := HK2.out; omega
                            case rel => exact ⟨(x11_2), (wrap64 (x12_2 - 1)), (by first | rfl | (simp; done) | (simp [*]; done)), (by first | rfl | (simp; done) | (simp [*]; done)), H', ⟨by have := HK1.out; have := HK2.out; omega⟩, ⟨by (with_reducible repeat (first | apply Kd.R_alloc | apply Kd.R_drewN | apply Kd.R_drew)); exact HO_6.out⟩, ⟨by (with_reducible repeat (first | refine blk_drewN ?_ _ | refine blk_drew ?_ | refine blk_alloc ?_ _)); exact BK407.out⟩, ⟨by repeat (first | (with_reducible first | exact HB.out | apply below_alloc | apply pw_below_drewN | apply below_drew1 | refine below_set ?_ GE407.out) | exact HB.out)⟩⟩
                        · rw [if_neg c52] at H
                          have c52b0 : decide (0 < x12_2) = false := decide_eq_false c52
                          clear c52
                          by_cases c58 : x11_2 = 0
                          · rw [if_pos c58] at H
                            have c58b0 : (x11_2 == 0) = true := beq_iff_eq.mpr c58
                            have c58b1 : (x11_2 != 0) = false := bne_eq_false_iff_eq.mpr c58
                            clear c58
                            replace H := Option.bind_eq_some_iff.mp H
                            obtain ⟨t421, A590, H⟩ := H
                            replace H : (if y408.length + t421.size < 140737488355328 then ((some (y408 ++ bytesOf t421 : List Int)).bind fun y422 => (if x7_1 = 0 then (jvmcoreref3_told.l0 k2 l1 y422 7 l0 (l0.length : Int) (wrap64 (x18_1 + 1))) else (jvmcoreref3_told.l0 k2 l1 y422 x7_1 l0 (l0.length : Int) (wrap64 (x18_1 + 1))))) else (none)) = some (r1, r2) := H
                            have A59 := Aside0.mk A590
                            clear A590
                            by_cases c60 : y408.length + t421.size < 140737488355328
                            · rw [if_pos c60] at H
                              have LMc60 := Aside0.mk c60
                              clear c60
                              obtain ⟨y422, hy422⟩ : ∃ y_ : List Int, y_ = (y408 ++ bytesOf t421) := ⟨_, rfl⟩
                              replace H : (if x7_1 = 0 then (jvmcoreref3_told.l0 k2 l1 y422 7 l0 (l0.length : Int) (wrap64 (x18_1 + 1))) else (jvmcoreref3_told.l0 k2 l1 y422 x7_1 l0 (l0.length : Int) (wrap64 (x18_1 + 1)))) = some (r1, r2) := by first | (rw [hy422]; with_reducible exact H) | (have H2_ := (Option.bind_some _ _).symm.trans H; rw [hy422]; with_reducible exact H2_) | (have H2_ := (Option.bind_some _ _).symm.trans H; with_reducible exact H2_) | with_reducible exact H | (rw [hy422]; exact H) | exact H
                              have Ny422 := Aside0.mk hy422
                              clear hy422
                              by_cases c61 : x7_1 = 0
                              · rw [if_pos c61] at H
                                have c61b0 : (x7_1 == 0) = true := beq_iff_eq.mpr c61
                                have c61b1 : (x7_1 != 0) = false := bne_eq_false_iff_eq.mpr c61
                                clear c61
                                have H' := Aside0.mk H
                                clear H
                                go_wp2_with (first | ((with_reducible refine gate_callee (f := 57) rfl ?_); refine goesL_ (some 79) rfl rfl Try.func57 (by kernel_rfl) rfl #[.int .u64 (IntKind.u64.wrap (x11_2)), .int .i64 2] rfl (by (try simp only [List.map_toArray, List.map_cons, List.map_nil]); first | done | rfl | (simp only [List.length_drop, List.length_take]; rfl)) ?_; (with_reducible refine (jvmcoreref1_Big.calls k2 (IntKind.u64.wrap (x11_2)) 2 t421 _ A59.out).mono ?_); rintro e w62 ⟨rfl, hb⟩; refine ⟨_, rfl, ?_⟩; have n0_ := Aside0.mk (Kd.R_below (by (with_reducible repeat (first | apply Kd.R_alloc | apply Kd.R_drewN | apply Kd.R_drew)); exact HO_6.out) hb); have n1_ := Aside0.mk (blk_below (g := gb407) (o := .cells #[.int .u8 ((rd_T54 l0 x18_1).f0), .string ((rd_T54 l0 x18_1).f1), .int .i64 ((rd_T54 l0 x18_1).f2)] 54 (0, 0)) (by (with_reducible repeat (first | refine blk_drewN ?_ _ | refine blk_drew ?_ | refine blk_alloc ?_ _)); exact BK407.out) hb); have n2_ := Aside0.mk (below_step (by repeat (first | (with_reducible first | exact HB.out | apply below_alloc | apply pw_below_drewN | apply below_drew1 | refine below_set ?_ GE407.out) | exact HB.out)) hb); clear HO_6; clear BK407; clear HB; have HO_6 := n0_; have BK407 := n1_; have HB := n2_; clear n0_ n1_ n2_; (try clear hb); (try clear hb2); (try clear hk); (try clear hi)) | (at_builtin; refine print_append_str (w0 := w) w.heap.size rfl (.tmp 76) _ 87 9 5 rfl Try.underlying87 Try.underlying9 info5 v409 y408 t421 rfl rfl ?aO ?aB ?aS ?aL ?_; (case aB => exact (by repeat (first | (with_reducible first | exact HB.out | apply below_alloc | apply pw_below_drewN | apply below_drew1 | refine below_set ?_ GE407.out) | exact HB.out))); (case aO => exact (Kd.own_of_R (by (with_reducible repeat (first | apply Kd.R_alloc | apply Kd.R_drewN | apply Kd.R_drew)); exact HO_6.out))); (case aS => exact (below_size (by repeat (first | (with_reducible first | exact HB.out | apply below_alloc | apply pw_below_drewN | apply below_drew1 | refine below_set ?_ GE407.out) | exact HB.out)))); (case aL => have := LMc60.out; omega); intro v423 w63 ho0 hb hg; have ho := Kd.R_of_own (h1 := fun _ => rfl) (ok := fun _ => True) ho0 (fun _ _ => trivial); clear ho0; have hat := True.intro; rw [← Ny422.out] at ho; change Kd.R (Kd.int .u8) 5 w63 w.heap.size (fun _ => True) v423 y422 at ho; have n0_ := Aside0.mk (blk_grown (g := gb407) (o := .cells #[.int .u8 ((rd_T54 l0 x18_1).f0), .string ((rd_T54 l0 x18_1).f1), .int .i64 ((rd_T54 l0 x18_1).f2)] 54 (0, 0)) (by (with_reducible repeat (first | refine blk_drewN ?_ _ | refine blk_drew ?_ | refine blk_alloc ?_ _)); exact BK407.out) hg (Kd.R_ne HO_6.out BK407.out (by decide))); have n1_ := Aside0.mk (hb); have n2_ := Aside0.mk (ho); clear BK407; clear HB; clear HO_6; have BK407 := n0_; have HB := n1_; have HO424 := n2_; clear n0_ n1_ n2_; clear ho hb hg hat))
                                go_roundg k2
                                case measure => have := HK1.out; have := HK2.out; omega
                                case rel => exact ⟨(y422), (7), (wrap64 (x18_1 + 1)), (by first | rfl | (simp; done) | (simp [*]; done)), (by first | rfl | (simp; done) | (simp [*]; done)), H', ⟨by have := HK1.out; have := HK2.out; omega⟩, ⟨by (with_reducible repeat (first | apply Kd.R_alloc | apply Kd.R_drewN | apply Kd.R_drew)); exact HO424.out⟩, ⟨by repeat (first | (with_reducible first | exact HB.out | apply below_alloc | apply pw_below_drewN | apply below_drew1 | refine below_set ?_ GE407.out) | exact HB.out)⟩⟩
                              · rw [if_neg c61] at H
                                have c61b0 : (x7_1 == 0) = false := beq_eq_false_iff_ne.mpr c61
                                have c61b1 : (x7_1 != 0) = true := bne_iff_ne.mpr c61
                                have H' := Aside0.mk H
                                clear H
                                go_wp2_with (first | ((with_reducible refine gate_callee (f := 57) rfl ?_); refine goesL_ (some 79) rfl rfl Try.func57 (by kernel_rfl) rfl #[.int .u64 (IntKind.u64.wrap (x11_2)), .int .i64 2] rfl (by (try simp only [List.map_toArray, List.map_cons, List.map_nil]); first | done | rfl | (simp only [List.length_drop, List.length_take]; rfl)) ?_; (with_reducible refine (jvmcoreref1_Big.calls k2 (IntKind.u64.wrap (x11_2)) 2 t421 _ A59.out).mono ?_); rintro e w64 ⟨rfl, hb⟩; refine ⟨_, rfl, ?_⟩; have n0_ := Aside0.mk (Kd.R_below (by (with_reducible repeat (first | apply Kd.R_alloc | apply Kd.R_drewN | apply Kd.R_drew)); exact HO_6.out) hb); have n1_ := Aside0.mk (blk_below (g := gb407) (o := .cells #[.int .u8 ((rd_T54 l0 x18_1).f0), .string ((rd_T54 l0 x18_1).f1), .int .i64 ((rd_T54 l0 x18_1).f2)] 54 (0, 0)) (by (with_reducible repeat (first | refine blk_drewN ?_ _ | refine blk_drew ?_ | refine blk_alloc ?_ _)); exact BK407.out) hb); have n2_ := Aside0.mk (below_step (by repeat (first | (with_reducible first | exact HB.out | apply below_alloc | apply pw_below_drewN | apply below_drew1 | refine below_set ?_ GE407.out) | exact HB.out)) hb); clear HO_6; clear BK407; clear HB; have HO_6 := n0_; have BK407 := n1_; have HB := n2_; clear n0_ n1_ n2_; (try clear hb); (try clear hb2); (try clear hk); (try clear hi)) | (at_builtin; refine print_append_str (w0 := w) w.heap.size rfl (.tmp 76) _ 87 9 5 rfl Try.underlying87 Try.underlying9 info5 v409 y408 t421 rfl rfl ?aO ?aB ?aS ?aL ?_; (case aB => exact (by repeat (first | (with_reducible first | exact HB.out | apply below_alloc | apply pw_below_drewN | apply below_drew1 | refine below_set ?_ GE407.out) | exact HB.out))); (case aO => exact (Kd.own_of_R (by (with_reducible repeat (first | apply Kd.R_alloc | apply Kd.R_drewN | apply Kd.R_drew)); exact HO_6.out))); (case aS => exact (below_size (by repeat (first | (with_reducible first | exact HB.out | apply below_alloc | apply pw_below_drewN | apply below_drew1 | refine below_set ?_ GE407.out) | exact HB.out)))); (case aL => have := LMc60.out; omega); intro v423 w65 ho0 hb hg; have ho := Kd.R_of_own (h1 := fun _ => rfl) (ok := fun _ => True) ho0 (fun _ _ => trivial); clear ho0; have hat := True.intro; rw [← Ny422.out] at ho; change Kd.R (Kd.int .u8) 5 w65 w.heap.size (fun _ => True) v423 y422 at ho; have n0_ := Aside0.mk (blk_grown (g := gb407) (o := .cells #[.int .u8 ((rd_T54 l0 x18_1).f0), .string ((rd_T54 l0 x18_1).f1), .int .i64 ((rd_T54 l0 x18_1).f2)] 54 (0, 0)) (by (with_reducible repeat (first | refine blk_drewN ?_ _ | refine blk_drew ?_ | refine blk_alloc ?_ _)); exact BK407.out) hg (Kd.R_ne HO_6.out BK407.out (by decide))); have n1_ := Aside0.mk (hb); have n2_ := Aside0.mk (ho); clear BK407; clear HB; clear HO_6; have BK407 := n0_; have HB := n1_; have HO424 := n2_; clear n0_ n1_ n2_; clear ho hb hg hat))
                                go_roundg k2
                                case measure => have := HK1.out; have := HK2.out; omega
                                case rel => exact ⟨(y422), (x7_1), (wrap64 (x18_1 + 1)), (by first | rfl | (simp; done) | (simp [*]; done)), (by first | rfl | (simp; done) | (simp [*]; done)), H', ⟨by have := HK1.out; have := HK2.out; omega⟩, ⟨by (with_reducible repeat (first | apply Kd.R_alloc | apply Kd.R_drewN | apply Kd.R_drew)); exact HO424.out⟩, ⟨by repeat (first | (with_reducible first | exact HB.out | apply below_alloc | apply pw_below_drewN | apply below_drew1 | refine below_set ?_ GE407.out) | exact HB.out)⟩⟩
                            · rw [if_neg c60] at H
                              exact absurd H (by simp)
                          · rw [if_neg c58] at H
                            have c58b0 : (x11_2 == 0) = false := beq_eq_false_iff_ne.mpr c58
                            have c58b1 : (x11_2 != 0) = true := bne_iff_ne.mpr c58
                            replace H := Option.bind_eq_some_iff.mp H
                            obtain ⟨t425, A660, H⟩ := H
                            replace H : (if y408.length + t425.size < 140737488355328 then ((some (y408 ++ bytesOf t425 : List Int)).bind fun y426 => (if x7_1 = 0 then (jvmcoreref3_told.l0 k2 l1 y426 0 l0 (l0.length : Int) (wrap64 (x18_1 + 1))) else (jvmcoreref3_told.l0 k2 l1 y426 x7_1 l0 (l0.length : Int) (wrap64 (x18_1 + 1))))) else (none)) = some (r1, r2) := H
                            have A66 := Aside0.mk A660
                            clear A660
                            by_cases c67 : y408.length + t425.size < 140737488355328
                            · rw [if_pos c67] at H
                              have LMc67 := Aside0.mk c67
                              clear c67
                              obtain ⟨y426, hy426⟩ : ∃ y_ : List Int, y_ = (y408 ++ bytesOf t425) := ⟨_, rfl⟩
                              replace H : (if x7_1 = 0 then (jvmcoreref3_told.l0 k2 l1 y426 0 l0 (l0.length : Int) (wrap64 (x18_1 + 1))) else (jvmcoreref3_told.l0 k2 l1 y426 x7_1 l0 (l0.length : Int) (wrap64 (x18_1 + 1)))) = some (r1, r2) := by first | (rw [hy426]; with_reducible exact H) | (have H2_ := (Option.bind_some _ _).symm.trans H; rw [hy426]; with_reducible exact H2_) | (have H2_ := (Option.bind_some _ _).symm.trans H; with_reducible exact H2_) | with_reducible exact H | (rw [hy426]; exact H) | exact H
                              have Ny426 := Aside0.mk hy426
                              clear hy426
                              by_cases c68 : x7_1 = 0
                              · rw [if_pos c68] at H
                                have c68b0 : (x7_1 == 0) = true := beq_iff_eq.mpr c68
                                have c68b1 : (x7_1 != 0) = false := bne_eq_false_iff_eq.mpr c68
                                clear c68
                                have H' := Aside0.mk H
                                clear H
                                go_wp2_with (first | ((with_reducible refine gate_callee (f := 57) rfl ?_); refine goesL_ (some 79) rfl rfl Try.func57 (by kernel_rfl) rfl #[.int .u64 (IntKind.u64.wrap (x11_2)), .int .i64 2] rfl (by (try simp only [List.map_toArray, List.map_cons, List.map_nil]); first | done | rfl | (simp only [List.length_drop, List.length_take]; rfl)) ?_; (with_reducible refine (jvmcoreref1_Big.calls k2 (IntKind.u64.wrap (x11_2)) 2 t425 _ A66.out).mono ?_); rintro e w69 ⟨rfl, hb⟩; refine ⟨_, rfl, ?_⟩; have n0_ := Aside0.mk (Kd.R_below (by (with_reducible repeat (first | apply Kd.R_alloc | apply Kd.R_drewN | apply Kd.R_drew)); exact HO_6.out) hb); have n1_ := Aside0.mk (blk_below (g := gb407) (o := .cells #[.int .u8 ((rd_T54 l0 x18_1).f0), .string ((rd_T54 l0 x18_1).f1), .int .i64 ((rd_T54 l0 x18_1).f2)] 54 (0, 0)) (by (with_reducible repeat (first | refine blk_drewN ?_ _ | refine blk_drew ?_ | refine blk_alloc ?_ _)); exact BK407.out) hb); have n2_ := Aside0.mk (below_step (by repeat (first | (with_reducible first | exact HB.out | apply below_alloc | apply pw_below_drewN | apply below_drew1 | refine below_set ?_ GE407.out) | exact HB.out)) hb); clear HO_6; clear BK407; clear HB; have HO_6 := n0_; have BK407 := n1_; have HB := n2_; clear n0_ n1_ n2_; (try clear hb); (try clear hb2); (try clear hk); (try clear hi)) | (at_builtin; refine print_append_str (w0 := w) w.heap.size rfl (.tmp 76) _ 87 9 5 rfl Try.underlying87 Try.underlying9 info5 v409 y408 t425 rfl rfl ?aO ?aB ?aS ?aL ?_; (case aB => exact (by repeat (first | (with_reducible first | exact HB.out | apply below_alloc | apply pw_below_drewN | apply below_drew1 | refine below_set ?_ GE407.out) | exact HB.out))); (case aO => exact (Kd.own_of_R (by (with_reducible repeat (first | apply Kd.R_alloc | apply Kd.R_drewN | apply Kd.R_drew)); exact HO_6.out))); (case aS => exact (below_size (by repeat (first | (with_reducible first | exact HB.out | apply below_alloc | apply pw_below_drewN | apply below_drew1 | refine below_set ?_ GE407.out) | exact HB.out)))); (case aL => have := LMc67.out; omega); intro v427 w70 ho0 hb hg; have ho := Kd.R_of_own (h1 := fun _ => rfl) (ok := fun _ => True) ho0 (fun _ _ => trivial); clear ho0; have hat := True.intro; rw [← Ny426.out] at ho; change Kd.R (Kd.int .u8) 5 w70 w.heap.size (fun _ => True) v427 y426 at ho; have n0_ := Aside0.mk (blk_grown (g := gb407) (o := .cells #[.int .u8 ((rd_T54 l0 x18_1).f0), .string ((rd_T54 l0 x18_1).f1), .int .i64 ((rd_T54 l0 x18_1).f2)] 54 (0, 0)) (by (with_reducible repeat (first | refine blk_drewN ?_ _ | refine blk_drew ?_ | refine blk_alloc ?_ _)); exact BK407.out) hg (Kd.R_ne HO_6.out BK407.out (by decide))); have n1_ := Aside0.mk (hb); have n2_ := Aside0.mk (ho); clear BK407; clear HB; clear HO_6; have BK407 := n0_; have HB := n1_; have HO428 := n2_; clear n0_ n1_ n2_; clear ho hb hg hat))
                                go_roundg k2
                                case measure => have := HK1.out; have := HK2.out; omega
                                case rel => exact ⟨(y426), (0), (wrap64 (x18_1 + 1)), (by first | rfl | (simp; done) | (simp [*]; done)), (by first | rfl | (simp; done) | (simp [*]; done)), H', ⟨by have := HK1.out; have := HK2.out; omega⟩, ⟨by (with_reducible repeat (first | apply Kd.R_alloc | apply Kd.R_drewN | apply Kd.R_drew)); exact HO428.out⟩, ⟨by repeat (first | (with_reducible first | exact HB.out | apply below_alloc | apply pw_below_drewN | apply below_drew1 | refine below_set ?_ GE407.out) | exact HB.out)⟩⟩
                              · rw [if_neg c68] at H
                                have c68b0 : (x7_1 == 0) = false := beq_eq_false_iff_ne.mpr c68
                                have c68b1 : (x7_1 != 0) = true := bne_iff_ne.mpr c68
                                have H' := Aside0.mk H
                                clear H
                                go_wp2_with (first | ((with_reducible refine gate_callee (f := 57) rfl ?_); refine goesL_ (some 79) rfl rfl Try.func57 (by kernel_rfl) rfl #[.int .u64 (IntKind.u64.wrap (x11_2)), .int .i64 2] rfl (by (try simp only [List.map_toArray, List.map_cons, List.map_nil]); first | done | rfl | (simp only [List.length_drop, List.length_take]; rfl)) ?_; (with_reducible refine (jvmcoreref1_Big.calls k2 (IntKind.u64.wrap (x11_2)) 2 t425 _ A66.out).mono ?_); rintro e w71 ⟨rfl, hb⟩; refine ⟨_, rfl, ?_⟩; have n0_ := Aside0.mk (Kd.R_below (by (with_reducible repeat (first | apply Kd.R_alloc | apply Kd.R_drewN | apply Kd.R_drew)); exact HO_6.out) hb); have n1_ := Aside0.mk (blk_below (g := gb407) (o := .cells #[.int .u8 ((rd_T54 l0 x18_1).f0), .string ((rd_T54 l0 x18_1).f1), .int .i64 ((rd_T54 l0 x18_1).f2)] 54 (0, 0)) (by (with_reducible repeat (first | refine blk_drewN ?_ _ | refine blk_drew ?_ | refine blk_alloc ?_ _)); exact BK407.out) hb); have n2_ := Aside0.mk (below_step (by repeat (first | (with_reducible first | exact HB.out | apply below_alloc | apply pw_below_drewN | apply below_drew1 | refine below_set ?_ GE407.out) | exact HB.out)) hb); clear HO_6; clear BK407; clear HB; have HO_6 := n0_; have BK407 := n1_; have HB := n2_; clear n0_ n1_ n2_; (try clear hb); (try clear hb2); (try clear hk); (try clear hi)) | (at_builtin; refine print_append_str (w0 := w) w.heap.size rfl (.tmp 76) _ 87 9 5 rfl Try.underlying87 Try.underlying9 info5 v409 y408 t425 rfl rfl ?aO ?aB ?aS ?aL ?_; (case aB => exact (by repeat (first | (with_reducible first | exact HB.out | apply below_alloc | apply pw_below_drewN | apply below_drew1 | refine below_set ?_ GE407.out) | exact HB.out))); (case aO => exact (Kd.own_of_R (by (with_reducible repeat (first | apply Kd.R_alloc | apply Kd.R_drewN | apply Kd.R_drew)); exact HO_6.out))); (case aS => exact (below_size (by repeat (first | (with_reducible first | exact HB.out | apply below_alloc | apply pw_below_drewN | apply below_drew1 | refine below_set ?_ GE407.out) | exact HB.out)))); (case aL => have := LMc67.out; omega); intro v427 w72 ho0 hb hg; have ho := Kd.R_of_own (h1 := fun _ => rfl) (ok := fun _ => True) ho0 (fun _ _ => trivial); clear ho0; have hat := True.intro; rw [← Ny426.out] at ho; change Kd.R (Kd.int .u8) 5 w72 w.heap.size (fun _ => True) v427 y426 at ho; have n0_ := Aside0.mk (blk_grown (g := gb407) (o := .cells #[.int .u8 ((rd_T54 l0 x18_1).f0), .string ((rd_T54 l0 x18_1).f1), .int .i64 ((rd_T54 l0 x18_1).f2)] 54 (0, 0)) (by (with_reducible repeat (first | refine blk_drewN ?_ _ | refine blk_drew ?_ | refine blk_alloc ?_ _)); exact BK407.out) hg (Kd.R_ne HO_6.out BK407.out (by decide))); have n1_ := Aside0.mk (hb); have n2_ := Aside0.mk (ho); clear BK407; clear HB; clear HO_6; have BK407 := n0_; have HB := n1_; have HO428 := n2_; clear n0_ n1_ n2_; clear ho hb hg hat))
                                go_roundg k2
                                case measure => have := HK1.out; have := HK2.out; omega
                                case rel => exact ⟨(y426), (x7_1), (wrap64 (x18_1 + 1)), (by first | rfl | (simp; done) | (simp [*]; done)), (by first | rfl | (simp; done) | (simp [*]; done)), H', ⟨by have := HK1.out; have := HK2.out; omega⟩, ⟨by (with_reducible repeat (first | apply Kd.R_alloc | apply Kd.R_drewN | apply Kd.R_drew)); exact HO428.out⟩, ⟨by repeat (first | (with_reducible first | exact HB.out | apply below_alloc | apply pw_below_drewN | apply below_drew1 | refine below_set ?_ GE407.out) | exact HB.out)⟩⟩
                            · rw [if_neg c67] at H
                              exact absurd H (by simp)
                  · rw [if_neg c47] at H
                    have c47b0 : (((rd_T54 l0 x18_1).f0) == 7) = false := beq_eq_false_iff_ne.mpr c47
                    have c47b1 : (((rd_T54 l0 x18_1).f0) != 7) = true := bne_iff_ne.mpr c47
                    by_cases c73 : x7_1 = 0
                    · rw [if_pos c73] at H
                      have c73b0 : (x7_1 == 0) = true := beq_iff_eq.mpr c73
                      have c73b1 : (x7_1 != 0) = false := bne_eq_false_iff_eq.mpr c73
                      clear c73
                      have H' := Aside0.mk H
                      clear H
                      have p406 : 0 ≤ (x18_1 : Int) := of_decide_eq_true (by first | (with_reducible assumption) | assumption)
                      have q406 : x18_1 < (l0.length : Int) := of_decide_eq_true (by first | (with_reducible assumption) | assumption)
                      obtain ⟨ad406, e406, hx406_0, hx406_1, hx406_2⟩ := at_T54 HR0.out x18_1 p406 q406
                      cases e406
                      replace hx406_0 := (HB.out.cell (World.block_lt_of_cell? w _ hx406_0)).trans hx406_0
                      replace hx406_1 := (HB.out.cell (World.block_lt_of_cell? w _ hx406_1)).trans hx406_1
                      replace hx406_2 := (HB.out.cell (World.block_lt_of_cell? w _ hx406_2)).trans hx406_2
                      replace p406 := eq_true p406
                      replace q406 := eq_true q406
                      go_wp2_with (first | ((with_reducible refine gate_dst (N := 9) rfl ?_); refine box_event ?hg (N := 9) ?hd (cs := #[.int .u8 0, .string (⟨#[]⟩ : ByteArray), .int .i64 0]) (t := 54) ?hr ?_; (case hd => rfl); (case hg => rfl); (case hr => first | (go_simp; done) | (go_simp; rfl)); intro gb407 hg w74 hbox hb; have n0_ := Aside0.mk (Kd.R_below (by (with_reducible repeat (first | apply Kd.R_alloc | apply Kd.R_drewN | apply Kd.R_drew)); exact HO_6.out) hb); have n1_ := Aside0.mk (below_step (by repeat (first | (with_reducible first | exact HB.out | apply below_alloc | apply pw_below_drewN | apply below_drew1) | exact HB.out)) hb); have n2_ := Aside0.mk (hbox); have n3_ := Aside0.mk ((by rw [hg]; exact (below_size (by repeat (first | (with_reducible first | exact HB.out | apply below_alloc | apply pw_below_drewN | apply below_drew1) | exact HB.out))) : w.heap.size ≤ gb407)); have n4_ := Aside0.mk ((by rw [hg]; exact (below_size (by repeat (first | (with_reducible first | exact HB.out | apply below_alloc | apply pw_below_drewN | apply below_drew1) | exact HB.out))) : w.heap.size ≤ gb407)); clear HO_6; clear HB; have HO_6 := n0_; have HB := n1_; have BK407 := n2_; have GW407 := n3_; have GE407 := n4_; clear n0_ n1_ n2_ n3_ n4_; clear hb hbox hg; have hcz75_0 : w74.cell? ⟨gb407, 0, none⟩ = some (.int .u8 0) := (blk_cell BK407.out 0).trans rfl; have hcz75_1 : w74.cell? ⟨gb407, 1, none⟩ = some (.string (⟨#[]⟩ : ByteArray)) := (blk_cell BK407.out 1).trans rfl; have hcz75_2 : w74.cell? ⟨gb407, 2, none⟩ = some (.int .i64 0) := (blk_cell BK407.out 2).trans rfl; have hfz75_0 := blk_frozen BK407.out 0; have hfz75_1 := blk_frozen BK407.out 1; have hfz75_2 := blk_frozen BK407.out 2) | ((with_reducible refine gate_builtin (b := .append) (xs := #[.tmp 22, .tmp 25]) rfl ?_); at_builtin; refine Kd.R_append (Kd.int .u8) (w0 := w) w.heap.size rfl (.tmp 22) (.tmp 25) 87 5 (.int .u8 0) 1 rfl Try.underlying87 info5 rfl (by decide) (by omega) u6 x6_1 ((rd_T54 l0 x18_1).f0) [.int .u8 ((rd_T54 l0 x18_1).f0)] (fun _ => True) (fun _ => False) rfl (by first | (go_simp; done) | (go_simp; rfl)) ?aP (fun _ hk => hk.elim) ?aF ?aO ?aB ?aS ?aL ?_; (case aP => exact rfl); (case aB => exact (by repeat (first | (with_reducible first | exact HB.out | apply below_alloc | apply pw_below_drewN | apply below_drew1 | refine below_set ?_ GE407.out) | exact HB.out))); (case aF => exact (fun _ _ => trivial)); (case aO => exact (by (with_reducible repeat (first | apply Kd.R_alloc | apply Kd.R_drewN | apply Kd.R_drew)); exact Kd.R_mono (Kd.R_far (p := ⟨gb407, 2, none⟩) (Kd.R_far (p := ⟨gb407, 1, none⟩) (Kd.R_far (p := ⟨gb407, 0, none⟩) (Kd.R_types HO_6.out BK407.out (by decide)) (fun _ hk => hk.2) (.int .u8 ((rd_T54 l0 x18_1).f0))) (fun _ hk => hk.2) (.string ((rd_T54 l0 x18_1).f1))) (fun _ hk => hk.2) (.int .i64 ((rd_T54 l0 x18_1).f2))) (fun _ hk => trivial))); (case aS => exact (below_size (by repeat (first | (with_reducible first | exact HB.out | apply below_alloc | apply pw_below_drewN | apply below_drew1 | refine below_set ?_ GE407.out) | exact HB.out)))); (case aL => have := LMc8.out; omega); intro v409 w76 ho hb hg hat; rw [← Ny408.out] at ho; have n0_ := Aside0.mk (blk_grown (g := gb407) (o := .cells #[.int .u8 ((rd_T54 l0 x18_1).f0), .string ((rd_T54 l0 x18_1).f1), .int .i64 ((rd_T54 l0 x18_1).f2)] 54 (0, 0)) (by (with_reducible repeat (first | refine blk_drewN ?_ _ | refine blk_drew ?_ | refine blk_alloc ?_ _)); refine blk_put (cs := #[.int .u8 ((rd_T54 l0 x18_1).f0), .string ((rd_T54 l0 x18_1).f1), .int .i64 0]) ?_ 2 _ rfl; (with_reducible repeat (first | refine blk_drewN ?_ _ | refine blk_drew ?_ | refine blk_alloc ?_ _)); refine blk_put (cs := #[.int .u8 ((rd_T54 l0 x18_1).f0), .string (⟨#[]⟩ : ByteArray), .int .i64 0]) ?_ 1 _ rfl; (with_reducible repeat (first | refine blk_drewN ?_ _ | refine blk_drew ?_ | refine blk_alloc ?_ _)); refine blk_put (cs := #[.int .u8 0, .string (⟨#[]⟩ : ByteArray), .int .i64 0]) ?_ 0 _ rfl; (with_reducible repeat (first | refine blk_drewN ?_ _ | refine blk_drew ?_ | refine blk_alloc ?_ _)); exact BK407.out) hg (Kd.R_ne HO_6.out BK407.out (by decide))); have n1_ := Aside0.mk (hb); have n2_ := Aside0.mk (ho); clear BK407; clear HB; clear HO_6; have BK407 := n0_; have HB := n1_; have HO410 := n2_; clear n0_ n1_ n2_; clear ho hb hg hat; have hcz77_0 : w76.cell? ⟨gb407, 0, none⟩ = some (.int .u8 ((rd_T54 l0 x18_1).f0)) := (blk_cell BK407.out 0).trans rfl; have hcz77_1 : w76.cell? ⟨gb407, 1, none⟩ = some (.string ((rd_T54 l0 x18_1).f1)) := (blk_cell BK407.out 1).trans rfl; have hcz77_2 : w76.cell? ⟨gb407, 2, none⟩ = some (.int .i64 ((rd_T54 l0 x18_1).f2)) := (blk_cell BK407.out 2).trans rfl; have hfz77_0 := blk_frozen BK407.out 0; have hfz77_1 := blk_frozen BK407.out 1; have hfz77_2 := blk_frozen BK407.out 2))
                      go_roundg k1
                      case measure => have := HK1.out; omega
                      case rel => exact ⟨(y408), (0), (wrap64 (x18_1 + 1)), (by first | rfl | (simp; done) | (simp [*]; done)), (by first | rfl | (simp; done) | (simp [*]; done)), H', ⟨by have := HK1.out; omega⟩, ⟨by (with_reducible repeat (first | apply Kd.R_alloc | apply Kd.R_drewN | apply Kd.R_drew)); exact HO410.out⟩, ⟨by repeat (first | (with_reducible first | exact HB.out | apply below_alloc | apply pw_below_drewN | apply below_drew1 | refine below_set ?_ GE407.out) | exact HB.out)⟩⟩
                    · rw [if_neg c73] at H
                      have c73b0 : (x7_1 == 0) = false := beq_eq_false_iff_ne.mpr c73
                      have c73b1 : (x7_1 != 0) = true := bne_iff_ne.mpr c73
                      have H' := Aside0.mk H
                      clear H
                      have p406 : 0 ≤ (x18_1 : Int) := of_decide_eq_true (by first | (with_reducible assumption) | assumption)
                      have q406 : x18_1 < (l0.length : Int) := of_decide_eq_true (by first | (with_reducible assumption) | assumption)
                      obtain ⟨ad406, e406, hx406_0, hx406_1, hx406_2⟩ := at_T54 HR0.out x18_1 p406 q406
                      cases e406
                      replace hx406_0 := (HB.out.cell (World.block_lt_of_cell? w _ hx406_0)).trans hx406_0
                      replace hx406_1 := (HB.out.cell (World.block_lt_of_cell? w _ hx406_1)).trans hx406_1
                      replace hx406_2 := (HB.out.cell (World.block_lt_of_cell? w _ hx406_2)).trans hx406_2
                      replace p406 := eq_true p406
                      replace q406 := eq_true q406
                      go_wp2_with (first | ((with_reducible refine gate_dst (N := 9) rfl ?_); refine box_event ?hg (N := 9) ?hd (cs := #[.int .u8 0, .string (⟨#[]⟩ : ByteArray), .int .i64 0]) (t := 54) ?hr ?_; (case hd => rfl); (case hg => rfl); (case hr => first | (go_simp; done) | (go_simp; rfl)); intro gb407 hg w78 hbox hb; have n0_ := Aside0.mk (Kd.R_below (by (with_reducible repeat (first | apply Kd.R_alloc | apply Kd.R_drewN | apply Kd.R_drew)); exact HO_6.out) hb); have n1_ := Aside0.mk (below_step (by repeat (first | (with_reducible first | exact HB.out | apply below_alloc | apply pw_below_drewN | apply below_drew1) | exact HB.out)) hb); have n2_ := Aside0.mk (hbox); have n3_ := Aside0.mk ((by rw [hg]; exact (below_size (by repeat (first | (with_reducible first | exact HB.out | apply below_alloc | apply pw_below_drewN | apply below_drew1) | exact HB.out))) : w.heap.size ≤ gb407)); have n4_ := Aside0.mk ((by rw [hg]; exact (below_size (by repeat (first | (with_reducible first | exact HB.out | apply below_alloc | apply pw_below_drewN | apply below_drew1) | exact HB.out))) : w.heap.size ≤ gb407)); clear HO_6; clear HB; have HO_6 := n0_; have HB := n1_; have BK407 := n2_; have GW407 := n3_; have GE407 := n4_; clear n0_ n1_ n2_ n3_ n4_; clear hb hbox hg; have hcz79_0 : w78.cell? ⟨gb407, 0, none⟩ = some (.int .u8 0) := (blk_cell BK407.out 0).trans rfl; have hcz79_1 : w78.cell? ⟨gb407, 1, none⟩ = some (.string (⟨#[]⟩ : ByteArray)) := (blk_cell BK407.out 1).trans rfl; have hcz79_2 : w78.cell? ⟨gb407, 2, none⟩ = some (.int .i64 0) := (blk_cell BK407.out 2).trans rfl; have hfz79_0 := blk_frozen BK407.out 0; have hfz79_1 := blk_frozen BK407.out 1; have hfz79_2 := blk_frozen BK407.out 2) | ((with_reducible refine gate_builtin (b := .append) (xs := #[.tmp 22, .tmp 25]) rfl ?_); at_builtin; refine Kd.R_append (Kd.int .u8) (w0 := w) w.heap.size rfl (.tmp 22) (.tmp 25) 87 5 (.int .u8 0) 1 rfl Try.underlying87 info5 rfl (by decide) (by omega) u6 x6_1 ((rd_T54 l0 x18_1).f0) [.int .u8 ((rd_T54 l0 x18_1).f0)] (fun _ => True) (fun _ => False) rfl (by first | (go_simp; done) | (go_simp; rfl)) ?aP (fun _ hk => hk.elim) ?aF ?aO ?aB ?aS ?aL ?_; (case aP => exact rfl); (case aB => exact (by repeat (first | (with_reducible first | exact HB.out | apply below_alloc | apply pw_below_drewN | apply below_drew1 | refine below_set ?_ GE407.out) | exact HB.out))); (case aF => exact (fun _ _ => trivial)); (case aO => exact (by (with_reducible repeat (first | apply Kd.R_alloc | apply Kd.R_drewN | apply Kd.R_drew)); exact Kd.R_mono (Kd.R_far (p := ⟨gb407, 2, none⟩) (Kd.R_far (p := ⟨gb407, 1, none⟩) (Kd.R_far (p := ⟨gb407, 0, none⟩) (Kd.R_types HO_6.out BK407.out (by decide)) (fun _ hk => hk.2) (.int .u8 ((rd_T54 l0 x18_1).f0))) (fun _ hk => hk.2) (.string ((rd_T54 l0 x18_1).f1))) (fun _ hk => hk.2) (.int .i64 ((rd_T54 l0 x18_1).f2))) (fun _ hk => trivial))); (case aS => exact (below_size (by repeat (first | (with_reducible first | exact HB.out | apply below_alloc | apply pw_below_drewN | apply below_drew1 | refine below_set ?_ GE407.out) | exact HB.out)))); (case aL => have := LMc8.out; omega); intro v409 w80 ho hb hg hat; rw [← Ny408.out] at ho; have n0_ := Aside0.mk (blk_grown (g := gb407) (o := .cells #[.int .u8 ((rd_T54 l0 x18_1).f0), .string ((rd_T54 l0 x18_1).f1), .int .i64 ((rd_T54 l0 x18_1).f2)] 54 (0, 0)) (by (with_reducible repeat (first | refine blk_drewN ?_ _ | refine blk_drew ?_ | refine blk_alloc ?_ _)); refine blk_put (cs := #[.int .u8 ((rd_T54 l0 x18_1).f0), .string ((rd_T54 l0 x18_1).f1), .int .i64 0]) ?_ 2 _ rfl; (with_reducible repeat (first | refine blk_drewN ?_ _ | refine blk_drew ?_ | refine blk_alloc ?_ _)); refine blk_put (cs := #[.int .u8 ((rd_T54 l0 x18_1).f0), .string (⟨#[]⟩ : ByteArray), .int .i64 0]) ?_ 1 _ rfl; (with_reducible repeat (first | refine blk_drewN ?_ _ | refine blk_drew ?_ | refine blk_alloc ?_ _)); refine blk_put (cs := #[.int .u8 0, .string (⟨#[]⟩ : ByteArray), .int .i64 0]) ?_ 0 _ rfl; (with_reducible repeat (first | refine blk_drewN ?_ _ | refine blk_drew ?_ | refine blk_alloc ?_ _)); exact BK407.out) hg (Kd.R_ne HO_6.out BK407.out (by decide))); have n1_ := Aside0.mk (hb); have n2_ := Aside0.mk (ho); clear BK407; clear HB; clear HO_6; have BK407 := n0_; have HB := n1_; have HO410 := n2_; clear n0_ n1_ n2_; clear ho hb hg hat; have hcz81_0 : w80.cell? ⟨gb407, 0, none⟩ = some (.int .u8 ((rd_T54 l0 x18_1).f0)) := (blk_cell BK407.out 0).trans rfl; have hcz81_1 : w80.cell? ⟨gb407, 1, none⟩ = some (.string ((rd_T54 l0 x18_1).f1)) := (blk_cell BK407.out 1).trans rfl; have hcz81_2 : w80.cell? ⟨gb407, 2, none⟩ = some (.int .i64 ((rd_T54 l0 x18_1).f2)) := (blk_cell BK407.out 2).trans rfl; have hfz81_0 := blk_frozen BK407.out 0; have hfz81_1 := blk_frozen BK407.out 1; have hfz81_2 := blk_frozen BK407.out 2))
                      go_roundg k1
                      case measure => have := HK1.out; omega
                      case rel => exact ⟨(y408), (x7_1), (wrap64 (x18_1 + 1)), (by first | rfl | (simp; done) | (simp [*]; done)), (by first | rfl | (simp; done) | (simp [*]; done)), H', ⟨by have := HK1.out; omega⟩, ⟨by (with_reducible repeat (first | apply Kd.R_alloc | apply Kd.R_drewN | apply Kd.R_drew)); exact HO410.out⟩, ⟨by repeat (first | (with_reducible first | exact HB.out | apply below_alloc | apply pw_below_drewN | apply below_drew1 | refine below_set ?_ GE407.out) | exact HB.out)⟩⟩
            · rw [if_neg c8] at H
              exact absurd H (by simp)
          · rw [if_neg c7] at H
            exact absurd H (by simp)
        · rw [if_neg c6] at H
          exact absurd H (by simp)
      · rw [if_neg c5] at H
        have c5b0 : decide (x18_1 < (l0.length : Int)) = false := decide_eq_false c5
        clear c5
        simp only [Option.some.injEq, Prod.mk.injEq] at H
        obtain ⟨rfl, rfl⟩ := H
        have hcv82 := own_string (P := Try.prog) Try.underlying87 Try.underlying5 Try.underlying9 (Kd.own_of_R HO_6.out)
        go_wp2
        go_ret2
        exact ⟨by first | rfl | (simp [errW_none, errW_some] <;> rfl) | (simp [*, errW_none, errW_some] <;> rfl), by repeat (first | (with_reducible first | exact HB.out | apply below_alloc | apply pw_below_drewN | apply below_drew1) | exact HB.out)⟩

end Go.Proofs.Ytfnjbmpolggdeaa.MR
