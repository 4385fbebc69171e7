/-
  Texts that the proof in the last of these files needs: A proof's texts, gathered.
-/
import Derived.Lib.IndexAny
import Derived.Lib.IndexBytes
import Derived.Lib.Split
import Derived.Lib.SplitLaws
import Derived.Test.YtfnjbmpolggdeaaDoorQC5
section
namespace Go.Proofs.YtfnjbmpolggdeaaDoor.CC
open Go.RowKit Go.Proofs.YtfnjbmpolggdeaaDoorW.PrintWords Go.Proofs.YtfnjbmpolggdeaaDoorW.PrintLast Go.Proofs.YtfnjbmpolggdeaaDoorW.PrintMore
attribute [local go_sem] max2_int min2_int max_two min_two max_three min_three max_four min_four   -- for this text's walks alone
set_option linter.unusedVariables false
set_option linter.unusedSimpArgs false
def jvmcoreref2_Check.l0 : Nat → List (S39) → Int → List (S47) → Int → Int → Option (Int × Int)
  | 0, _, _, _, _, _ => none
  | k + 1, x1, x2, x10, x11, x12 => if x12 < x11 then (if 0 ≤ x12 then (if x12 < (x10.length : Int) then ((jvmcoreref2_room.f k ((rd_T47 x10 x12).f0) ((rd_T47 x10 x12).f1) ((rd_T47 x10 x12).f2) ((rd_T47 x10 x12).f3) ((rd_T47 x10 x12).f4) ((rd_T47 x10 x12).f5) ((rd_T47 x10 x12).f6) ((rd_T47 x10 x12).f7) x2).bind fun t225 => (if t225 = true then ((jvmcoreref2_operand.f k ((rd_T47 x10 x12).f0) ((rd_T47 x10 x12).f1) ((rd_T47 x10 x12).f2) ((rd_T47 x10 x12).f3) ((rd_T47 x10 x12).f4) ((rd_T47 x10 x12).f5) ((rd_T47 x10 x12).f6) ((rd_T47 x10 x12).f7) x1).bind fun t226 => (if t226 = true then (jvmcoreref2_Check.l0 k x1 x2 x10 x11 (wrap64 (x12 + 1))) else (some (15, (rd_T47 x10 x12).f0)))) else (some (15, (rd_T47 x10 x12).f0)))) else (none)) else (none)) else (some (0, 0))
def jvmcoreref2_Check.f (k : Nat) (l0 : List (S47)) (l1 : List (S39)) (a2 : Int) : Option (Int × Int) := jvmcoreref2_Check.l0 k l1 a2 l0 (l0.length : Int) 0
theorem jvmcoreref2_Check.mono_l : ∀ k, (∀ y0 y1 y2 y3 y4, LeO (jvmcoreref2_Check.l0 k y0 y1 y2 y3 y4) (jvmcoreref2_Check.l0 (k + 1) y0 y1 y2 y3 y4))
  | 0 => fun _ _ _ _ _ r h => by simp [jvmcoreref2_Check.l0] at h
  | k + 1 => by
    have ih0 := jvmcoreref2_Check.mono_l k
    · intro y0 y1 y2 y3 y4
      unfold jvmcoreref2_Check.l0
      repeat' first
      | (with_reducible exact ih0 _ _ _ _ _)
      | (with_reducible exact jvmcoreref2_operand.mono _ _ _ _ _ _ _ _ _ _)
      | (with_reducible exact jvmcoreref2_room.mono _ _ _ _ _ _ _ _ _ _)
      | (with_reducible exact LeO.refl _)
      | (with_reducible exact LeO.none _)
      | (with_reducible refine LeO.ite ?_ ?_)
      | (with_reducible refine LeO.bind ?_ (fun _ => ?_))
theorem jvmcoreref2_Check.mono : ∀ a0 a1 a2 k, LeO (jvmcoreref2_Check.f k a0 a1 a2) (jvmcoreref2_Check.f (k + 1) a0 a1 a2) := by
  intro a0 a1 a2 k
  have ih0 := jvmcoreref2_Check.mono_l k
  unfold jvmcoreref2_Check.f
  repeat' first
      | (with_reducible exact ih0 _ _ _ _ _)
      | (with_reducible exact jvmcoreref2_operand.mono _ _ _ _ _ _ _ _ _ _)
      | (with_reducible exact jvmcoreref2_room.mono _ _ _ _ _ _ _ _ _ _)
      | (with_reducible exact LeO.refl _)
      | (with_reducible exact LeO.none _)
      | (with_reducible refine LeO.ite ?_ ?_)
      | (with_reducible refine LeO.bind ?_ (fun _ => ?_))
set_option maxHeartbeats 8000000 in
set_option maxRecDepth 100000 in
theorem jvmcoreref2_Check.calls (k : Nat) (A0 : Option Addr) (c0 : Nat) (l0 : List (S47)) (A1 : Option Addr) (c1 : Nat) (l1 : List (S39)) (a2 : Int) (r1 : Int) (r2 : Int) (w : World) (hr0 : Kd.C k47 w A0 l0.length l0) (hc0 : l0.length ≤ c0) (hr1 : Kd.C k39 w A1 l1.length l1) (hc1 : l1.length ≤ c1) (h : jvmcoreref2_Check.f k l0 l1 a2 = some (r1, r2)) :
    Calls Tryd.prog 19 #[.slice A0 l0.length c0, .slice A1 l1.length c1, .int .i64 a2] w fun e w' => e = .returned (.tuple #[.int .i64 r1, .int .i64 r2]) ∧ Below w.heap.size w w' := by
  have hu47 := Tryd.underlying47
  have HR0 := Aside0.mk hr0
  have HC0 := Aside0.mk hc0
  clear hr0 hc0
  have HR1 := Aside0.mk hr1
  have HC1 := Aside0.mk hc1
  clear hr1 hc1
  have HB := Aside0.mk (Below.refl w.heap.size w)
  have H : (jvmcoreref2_Check.l0 k l1 a2 l0 (l0.length : Int) 0) = some (r1, r2) := h
  clear h
  have H' := Aside0.mk H
  clear H
  go_enter Tryd.func19, Tryd.ntmps19
  go_wp2
  repeat (go_quiet (fail); try go_wp2)
  go_loopg [12] k (fun kq v12 w' => ∃ (x12_1 : Int), v12 = .int .i64 x12_1 ∧ Aside0 (jvmcoreref2_Check.l0 kq l1 a2 l0 (l0.length : Int) x12_1 = some (r1, r2)) ∧ Aside0 (kq ≤ k) ∧ Aside0 (Below w.heap.size w w'))
  case atStart => exact ⟨(0), (by first | rfl | (simp; done) | (simp [*]; done)), H', ⟨Nat.le_refl _⟩, ⟨by repeat (first | (with_reducible first | exact HB.out | apply below_alloc | apply pw_below_drewN | apply below_drew1) | exact HB.out)⟩⟩
  case round =>
    clear H'
    try clear c1
    try clear p2
    obtain ⟨x12_1, rfl, HA, HK1, HB⟩ := hrel
    cases gk with
    | zero => exact absurd HA.out (by simp [jvmcoreref2_Check.l0])
    | succ k1 =>
      have H := HA.out
      clear HA
      simp only [jvmcoreref2_Check.l0] at H
      by_cases c4 : x12_1 < (l0.length : Int)
      · rw [if_pos c4] at H
        have c4b0 : decide (x12_1 < (l0.length : Int)) = true := decide_eq_true c4
        clear c4
        by_cases c5 : 0 ≤ x12_1
        · rw [if_pos c5] at H
          have c5b0 : decide (0 ≤ x12_1) = true := decide_eq_true c5
          clear c5
          by_cases c6 : x12_1 < (l0.length : Int)
          · rw [if_pos c6] at H
            have c6b0 : decide (x12_1 < (l0.length : Int)) = true := decide_eq_true c6
            clear c6
            replace H := Option.bind_eq_some_iff.mp H
            obtain ⟨t225, A70, H⟩ := H
            replace H : (if t225 = true then ((jvmcoreref2_operand.f k1 ((rd_T47 l0 x12_1).f0) ((rd_T47 l0 x12_1).f1) ((rd_T47 l0 x12_1).f2) ((rd_T47 l0 x12_1).f3) ((rd_T47 l0 x12_1).f4) ((rd_T47 l0 x12_1).f5) ((rd_T47 l0 x12_1).f6) ((rd_T47 l0 x12_1).f7) l1).bind fun t226 => (if t226 = true then (jvmcoreref2_Check.l0 k1 l1 a2 l0 (l0.length : Int) (wrap64 (x12_1 + 1))) else (some (15, (rd_T47 l0 x12_1).f0)))) else (some (15, (rd_T47 l0 x12_1).f0))) = some (r1, r2) := H
            have A7 := Aside0.mk A70
            clear A70
            by_cases c8 : t225 = true
            · subst c8
              have H1 : ((jvmcoreref2_operand.f k1 ((rd_T47 l0 x12_1).f0) ((rd_T47 l0 x12_1).f1) ((rd_T47 l0 x12_1).f2) ((rd_T47 l0 x12_1).f3) ((rd_T47 l0 x12_1).f4) ((rd_T47 l0 x12_1).f5) ((rd_T47 l0 x12_1).f6) ((rd_T47 l0 x12_1).f7) l1).bind fun t226 => (if t226 = true then (jvmcoreref2_Check.l0 k1 l1 a2 l0 (l0.length : Int) (wrap64 (x12_1 + 1))) else (some (15, (rd_T47 l0 x12_1).f0)))) = some (r1, r2) := by rw [if_pos rfl] at H; exact H
              clear H
              have H := H1
              clear H1
              replace H := Option.bind_eq_some_iff.mp H
              obtain ⟨t226, A90, H⟩ := H
              replace H : (if t226 = true then (jvmcoreref2_Check.l0 k1 l1 a2 l0 (l0.length : Int) (wrap64 (x12_1 + 1))) else (some (15, (rd_T47 l0 x12_1).f0))) = some (r1, r2) := H
              have A9 := Aside0.mk A90
              clear A90
              by_cases c10 : t226 = true
              · subst c10
                have H1 : (jvmcoreref2_Check.l0 k1 l1 a2 l0 (l0.length : Int) (wrap64 (x12_1 + 1))) = some (r1, r2) := by rw [if_pos rfl] at H; exact H
                clear H
                have H := H1
                clear H1
                have H' := Aside0.mk H
                clear H
                have p223 : 0 ≤ (x12_1 : Int) := of_decide_eq_true (by first | (with_reducible assumption) | assumption)
                have q223 : x12_1 < (l0.length : Int) := of_decide_eq_true (by first | (with_reducible assumption) | assumption)
                obtain ⟨ad223, A223_6, c223_6, A223_7, c223_7, e223, hx223_0, hx223_1, hx223_2, hx223_3, hx223_4, hx223_5, hx223_6, hx223_7, hl223_6, hi223_6, hl223_7, hi223_7⟩ := at_T47 HR0.out x12_1 p223 q223
                cases e223
                replace hx223_0 := (HB.out.cell (World.block_lt_of_cell? w _ hx223_0)).trans hx223_0
                replace hx223_1 := (HB.out.cell (World.block_lt_of_cell? w _ hx223_1)).trans hx223_1
                replace hx223_2 := (HB.out.cell (World.block_lt_of_cell? w _ hx223_2)).trans hx223_2
                replace hx223_3 := (HB.out.cell (World.block_lt_of_cell? w _ hx223_3)).trans hx223_3
                replace hx223_4 := (HB.out.cell (World.block_lt_of_cell? w _ hx223_4)).trans hx223_4
                replace hx223_5 := (HB.out.cell (World.block_lt_of_cell? w _ hx223_5)).trans hx223_5
                replace hx223_6 := (HB.out.cell (World.block_lt_of_cell? w _ hx223_6)).trans hx223_6
                replace hx223_7 := (HB.out.cell (World.block_lt_of_cell? w _ hx223_7)).trans hx223_7
                have HR223_6 := Aside0.mk hi223_6
                have HC223_6 := Aside0.mk hl223_6
                clear hi223_6 hl223_6
                have HR223_7 := Aside0.mk hi223_7
                have HC223_7 := Aside0.mk hl223_7
                clear hi223_7 hl223_7
                replace p223 := eq_true p223
                replace q223 := eq_true q223
                go_wp2_with (first | ((with_reducible refine gate_dst (N := 9) rfl ?_); refine box_event ?hg (N := 9) ?hd (cs := #[.int .i64 0, .int .u8 0, .bool false, .int .i64 0, .int .i64 0, .int .i64 0, .slice none 0 0, .slice none 0 0]) (t := 47) ?hr ?_; (case hd => rfl); (case hg => rfl); (case hr => first | (go_simp; done) | (go_simp; rfl)); intro gb224 hg w11 hbox hb; have n0_ := Aside0.mk (below_step (by repeat (first | (with_reducible first | exact HB.out | apply below_alloc | apply pw_below_drewN | apply below_drew1) | exact HB.out)) hb); have n1_ := Aside0.mk (hbox); have n2_ := Aside0.mk ((by rw [hg]; exact (below_size (by repeat (first | (with_reducible first | exact HB.out | apply below_alloc | apply pw_below_drewN | apply below_drew1) | exact HB.out))) : w.heap.size ≤ gb224)); have n3_ := Aside0.mk ((by rw [hg]; exact (below_size (by repeat (first | (with_reducible first | exact HB.out | apply below_alloc | apply pw_below_drewN | apply below_drew1) | exact HB.out))) : w.heap.size ≤ gb224)); clear HB; have HB := n0_; have BK224 := n1_; have GW224 := n2_; have GE224 := n3_; clear n0_ n1_ n2_ n3_; clear hb hbox hg; have hcz12_0 : w11.cell? ⟨gb224, 0, none⟩ = some (.int .i64 0) := (blk_cell BK224.out 0).trans rfl; have hcz12_1 : w11.cell? ⟨gb224, 1, none⟩ = some (.int .u8 0) := (blk_cell BK224.out 1).trans rfl; have hcz12_2 : w11.cell? ⟨gb224, 2, none⟩ = some (.bool false) := (blk_cell BK224.out 2).trans rfl; have hcz12_3 : w11.cell? ⟨gb224, 3, none⟩ = some (.int .i64 0) := (blk_cell BK224.out 3).trans rfl; have hcz12_4 : w11.cell? ⟨gb224, 4, none⟩ = some (.int .i64 0) := (blk_cell BK224.out 4).trans rfl; have hcz12_5 : w11.cell? ⟨gb224, 5, none⟩ = some (.int .i64 0) := (blk_cell BK224.out 5).trans rfl; have hcz12_6 : w11.cell? ⟨gb224, 6, none⟩ = some (.slice none 0 0) := (blk_cell BK224.out 6).trans rfl; have hcz12_7 : w11.cell? ⟨gb224, 7, none⟩ = some (.slice none 0 0) := (blk_cell BK224.out 7).trans rfl; have hfz12_0 := blk_frozen BK224.out 0; have hfz12_1 := blk_frozen BK224.out 1; have hfz12_2 := blk_frozen BK224.out 2; have hfz12_3 := blk_frozen BK224.out 3; have hfz12_4 := blk_frozen BK224.out 4; have hfz12_5 := blk_frozen BK224.out 5; have hfz12_6 := blk_frozen BK224.out 6; have hfz12_7 := blk_frozen BK224.out 7) | (go_at_call 31; (with_reducible refine (jvmcoreref2_room.calls k1 ((rd_T47 l0 x12_1).f0) ((rd_T47 l0 x12_1).f1) ((rd_T47 l0 x12_1).f2) ((rd_T47 l0 x12_1).f3) ((rd_T47 l0 x12_1).f4) ((rd_T47 l0 x12_1).f5) _ _ ((rd_T47 l0 x12_1).f6) _ _ ((rd_T47 l0 x12_1).f7) a2 true _ ?side1 ?side2 ?side3 ?side4 A7.out).mono ?_); (case side1 => exact Kd.C_below HR223_6.out (by repeat (first | (with_reducible first | exact HB.out | apply below_alloc | apply pw_below_drewN | apply below_drew1 | refine below_set ?_ GE224.out) | exact HB.out))); (case side2 => exact HC223_6.out); (case side3 => exact Kd.C_below HR223_7.out (by repeat (first | (with_reducible first | exact HB.out | apply below_alloc | apply pw_below_drewN | apply below_drew1 | refine below_set ?_ GE224.out) | exact HB.out))); (case side4 => exact HC223_7.out); rintro e w13 ⟨rfl, hb⟩; have n0_ := Aside0.mk (blk_below (g := gb224) (o := .cells #[.int .i64 ((rd_T47 l0 x12_1).f0), .int .u8 ((rd_T47 l0 x12_1).f1), .bool ((rd_T47 l0 x12_1).f2), .int .i64 ((rd_T47 l0 x12_1).f3), .int .i64 ((rd_T47 l0 x12_1).f4), .int .i64 ((rd_T47 l0 x12_1).f5), .slice A223_6 ((rd_T47 l0 x12_1).f6).length c223_6, .slice A223_7 ((rd_T47 l0 x12_1).f7).length c223_7] 47 (0, 0)) (by (with_reducible repeat (first | refine blk_drewN ?_ _ | refine blk_drew ?_ | refine blk_alloc ?_ _)); refine blk_put (cs := #[.int .i64 ((rd_T47 l0 x12_1).f0), .int .u8 ((rd_T47 l0 x12_1).f1), .bool ((rd_T47 l0 x12_1).f2), .int .i64 ((rd_T47 l0 x12_1).f3), .int .i64 ((rd_T47 l0 x12_1).f4), .int .i64 ((rd_T47 l0 x12_1).f5), .slice A223_6 ((rd_T47 l0 x12_1).f6).length c223_6, .slice none 0 0]) ?_ 7 _ rfl; (with_reducible repeat (first | refine blk_drewN ?_ _ | refine blk_drew ?_ | refine blk_alloc ?_ _)); refine blk_put (cs := #[.int .i64 ((rd_T47 l0 x12_1).f0), .int .u8 ((rd_T47 l0 x12_1).f1), .bool ((rd_T47 l0 x12_1).f2), .int .i64 ((rd_T47 l0 x12_1).f3), .int .i64 ((rd_T47 l0 x12_1).f4), .int .i64 ((rd_T47 l0 x12_1).f5), .slice none 0 0, .slice none 0 0]) ?_ 6 _ rfl; (with_reducible repeat (first | refine blk_drewN ?_ _ | refine blk_drew ?_ | refine blk_alloc ?_ _)); refine blk_put (cs := #[.int .i64 ((rd_T47 l0 x12_1).f0), .int .u8 ((rd_T47 l0 x12_1).f1), .bool ((rd_T47 l0 x12_1).f2), .int .i64 ((rd_T47 l0 x12_1).f3), .int .i64 ((rd_T47 l0 x12_1).f4), .int .i64 0, .slice none 0 0, .slice none 0 0]) ?_ 5 _ rfl; (with_reducible repeat (first | refine blk_drewN ?_ _ | refine blk_drew ?_ | refine blk_alloc ?_ _)); refine blk_put (cs := #[.int .i64 ((rd_T47 l0 x12_1).f0), .int .u8 ((rd_T47 l0 x12_1).f1), .bool ((rd_T47 l0 x12_1).f2), .int .i64 ((rd_T47 l0 x12_1).f3), .int .i64 0, .int .i64 0, .slice none 0 0, .slice none 0 0]) ?_ 4 _ rfl; (with_reducible repeat (first | refine blk_drewN ?_ _ | refine blk_drew ?_ | refine blk_alloc ?_ _)); refine blk_put (cs := #[.int .i64 ((rd_T47 l0 x12_1).f0), .int .u8 ((rd_T47 l0 x12_1).f1), .bool ((rd_T47 l0 x12_1).f2), .int .i64 0, .int .i64 0, .int .i64 0, .slice none 0 0, .slice none 0 0]) ?_ 3 _ rfl; (with_reducible repeat (first | refine blk_drewN ?_ _ | refine blk_drew ?_ | refine blk_alloc ?_ _)); refine blk_put (cs := #[.int .i64 ((rd_T47 l0 x12_1).f0), .int .u8 ((rd_T47 l0 x12_1).f1), .bool false, .int .i64 0, .int .i64 0, .int .i64 0, .slice none 0 0, .slice none 0 0]) ?_ 2 _ rfl; (with_reducible repeat (first | refine blk_drewN ?_ _ | refine blk_drew ?_ | refine blk_alloc ?_ _)); refine blk_put (cs := #[.int .i64 ((rd_T47 l0 x12_1).f0), .int .u8 0, .bool false, .int .i64 0, .int .i64 0, .int .i64 0, .slice none 0 0, .slice none 0 0]) ?_ 1 _ rfl; (with_reducible repeat (first | refine blk_drewN ?_ _ | refine blk_drew ?_ | refine blk_alloc ?_ _)); refine blk_put (cs := #[.int .i64 0, .int .u8 0, .bool false, .int .i64 0, .int .i64 0, .int .i64 0, .slice none 0 0, .slice none 0 0]) ?_ 0 _ rfl; (with_reducible repeat (first | refine blk_drewN ?_ _ | refine blk_drew ?_ | refine blk_alloc ?_ _)); exact BK224.out) hb); have n1_ := Aside0.mk (below_step (by repeat (first | (with_reducible first | exact HB.out | apply below_alloc | apply pw_below_drewN | apply below_drew1 | refine below_set ?_ GE224.out) | exact HB.out)) hb); clear BK224; clear HB; have BK224 := n0_; have HB := n1_; clear n0_ n1_; (try clear hb); (try clear hb2); (try clear hk); (try clear hi); have hcz14_0 : w13.cell? ⟨gb224, 0, none⟩ = some (.int .i64 ((rd_T47 l0 x12_1).f0)) := (blk_cell BK224.out 0).trans rfl; have hcz14_1 : w13.cell? ⟨gb224, 1, none⟩ = some (.int .u8 ((rd_T47 l0 x12_1).f1)) := (blk_cell BK224.out 1).trans rfl; have hcz14_2 : w13.cell? ⟨gb224, 2, none⟩ = some (.bool ((rd_T47 l0 x12_1).f2)) := (blk_cell BK224.out 2).trans rfl; have hcz14_3 : w13.cell? ⟨gb224, 3, none⟩ = some (.int .i64 ((rd_T47 l0 x12_1).f3)) := (blk_cell BK224.out 3).trans rfl; have hcz14_4 : w13.cell? ⟨gb224, 4, none⟩ = some (.int .i64 ((rd_T47 l0 x12_1).f4)) := (blk_cell BK224.out 4).trans rfl; have hcz14_5 : w13.cell? ⟨gb224, 5, none⟩ = some (.int .i64 ((rd_T47 l0 x12_1).f5)) := (blk_cell BK224.out 5).trans rfl; have hcz14_6 : w13.cell? ⟨gb224, 6, none⟩ = some (.slice A223_6 ((rd_T47 l0 x12_1).f6).length c223_6) := (blk_cell BK224.out 6).trans rfl; have hcz14_7 : w13.cell? ⟨gb224, 7, none⟩ = some (.slice A223_7 ((rd_T47 l0 x12_1).f7).length c223_7) := (blk_cell BK224.out 7).trans rfl; have hfz14_0 := blk_frozen BK224.out 0; have hfz14_1 := blk_frozen BK224.out 1; have hfz14_2 := blk_frozen BK224.out 2; have hfz14_3 := blk_frozen BK224.out 3; have hfz14_4 := blk_frozen BK224.out 4; have hfz14_5 := blk_frozen BK224.out 5; have hfz14_6 := blk_frozen BK224.out 6; have hfz14_7 := blk_frozen BK224.out 7) | (go_at_call 32; (with_reducible refine (jvmcoreref2_operand.calls k1 ((rd_T47 l0 x12_1).f0) ((rd_T47 l0 x12_1).f1) ((rd_T47 l0 x12_1).f2) ((rd_T47 l0 x12_1).f3) ((rd_T47 l0 x12_1).f4) ((rd_T47 l0 x12_1).f5) _ _ ((rd_T47 l0 x12_1).f6) _ _ ((rd_T47 l0 x12_1).f7) _ _ l1 true _ ?side1 ?side2 ?side3 ?side4 ?side5 ?side6 A9.out).mono ?_); (case side1 => repeat (first | exact (Kd.C_below HR223_6.out HB.out) | (with_reducible refine Kd.C_alloc ?_ _) | (with_reducible refine Kd.C_drewN ?_ _) | (with_reducible refine Kd.C_drew ?_))); (case side2 => exact HC223_6.out); (case side3 => repeat (first | exact (Kd.C_below HR223_7.out HB.out) | (with_reducible refine Kd.C_alloc ?_ _) | (with_reducible refine Kd.C_drewN ?_ _) | (with_reducible refine Kd.C_drew ?_))); (case side4 => exact HC223_7.out); (case side5 => repeat (first | exact (Kd.C_below HR1.out HB.out) | (with_reducible refine Kd.C_alloc ?_ _) | (with_reducible refine Kd.C_drewN ?_ _) | (with_reducible refine Kd.C_drew ?_))); (case side6 => exact HC1.out); rintro e w15 ⟨rfl, hb⟩; have n0_ := Aside0.mk (blk_below (g := gb224) (o := .cells #[.int .i64 ((rd_T47 l0 x12_1).f0), .int .u8 ((rd_T47 l0 x12_1).f1), .bool ((rd_T47 l0 x12_1).f2), .int .i64 ((rd_T47 l0 x12_1).f3), .int .i64 ((rd_T47 l0 x12_1).f4), .int .i64 ((rd_T47 l0 x12_1).f5), .slice A223_6 ((rd_T47 l0 x12_1).f6).length c223_6, .slice A223_7 ((rd_T47 l0 x12_1).f7).length c223_7] 47 (0, 0)) (by (with_reducible repeat (first | refine blk_drewN ?_ _ | refine blk_drew ?_ | refine blk_alloc ?_ _)); exact BK224.out) hb); have n1_ := Aside0.mk (below_step (by repeat (first | (with_reducible first | exact HB.out | apply below_alloc | apply pw_below_drewN | apply below_drew1 | refine below_set ?_ GE224.out) | exact HB.out)) hb); clear BK224; clear HB; have BK224 := n0_; have HB := n1_; clear n0_ n1_; (try clear hb); (try clear hb2); (try clear hk); (try clear hi)))
                go_roundg k1
                case measure => have := HK1.out; omega
                case rel => exact ⟨(wrap64 (x12_1 + 1)), (by first | rfl | (simp; done) | (simp [*]; done)), H', ⟨by have := HK1.out; omega⟩, ⟨by repeat (first | (with_reducible first | exact HB.out | apply below_alloc | apply pw_below_drewN | apply below_drew1 | refine below_set ?_ GE224.out) | exact HB.out)⟩⟩
              · replace c10 := Bool.eq_false_iff.mpr c10
                subst c10
                have H1 : (some (15, (rd_T47 l0 x12_1).f0)) = some (r1, r2) := by rw [if_neg (show ¬ (false = true) by decide)] at H; exact H
                clear H
                have H := H1
                clear H1
                simp only [Option.some.injEq, Prod.mk.injEq] at H
                obtain ⟨rfl, rfl⟩ := H
                have p223 : 0 ≤ (x12_1 : Int) := of_decide_eq_true (by first | (with_reducible assumption) | assumption)
                have q223 : x12_1 < (l0.length : Int) := of_decide_eq_true (by first | (with_reducible assumption) | assumption)
                obtain ⟨ad223, A223_6, c223_6, A223_7, c223_7, e223, hx223_0, hx223_1, hx223_2, hx223_3, hx223_4, hx223_5, hx223_6, hx223_7, hl223_6, hi223_6, hl223_7, hi223_7⟩ := at_T47 HR0.out x12_1 p223 q223
                cases e223
                replace hx223_0 := (HB.out.cell (World.block_lt_of_cell? w _ hx223_0)).trans hx223_0
                replace hx223_1 := (HB.out.cell (World.block_lt_of_cell? w _ hx223_1)).trans hx223_1
                replace hx223_2 := (HB.out.cell (World.block_lt_of_cell? w _ hx223_2)).trans hx223_2
                replace hx223_3 := (HB.out.cell (World.block_lt_of_cell? w _ hx223_3)).trans hx223_3
                replace hx223_4 := (HB.out.cell (World.block_lt_of_cell? w _ hx223_4)).trans hx223_4
                replace hx223_5 := (HB.out.cell (World.block_lt_of_cell? w _ hx223_5)).trans hx223_5
                replace hx223_6 := (HB.out.cell (World.block_lt_of_cell? w _ hx223_6)).trans hx223_6
                replace hx223_7 := (HB.out.cell (World.block_lt_of_cell? w _ hx223_7)).trans hx223_7
                have HR223_6 := Aside0.mk hi223_6
                have HC223_6 := Aside0.mk hl223_6
                clear hi223_6 hl223_6
                have HR223_7 := Aside0.mk hi223_7
                have HC223_7 := Aside0.mk hl223_7
                clear hi223_7 hl223_7
                replace p223 := eq_true p223
                replace q223 := eq_true q223
                go_wp2_with (first | ((with_reducible refine gate_dst (N := 9) rfl ?_); refine box_event ?hg (N := 9) ?hd (cs := #[.int .i64 0, .int .u8 0, .bool false, .int .i64 0, .int .i64 0, .int .i64 0, .slice none 0 0, .slice none 0 0]) (t := 47) ?hr ?_; (case hd => rfl); (case hg => rfl); (case hr => first | (go_simp; done) | (go_simp; rfl)); intro gb224 hg w16 hbox hb; have n0_ := Aside0.mk (below_step (by repeat (first | (with_reducible first | exact HB.out | apply below_alloc | apply pw_below_drewN | apply below_drew1) | exact HB.out)) hb); have n1_ := Aside0.mk (hbox); have n2_ := Aside0.mk ((by rw [hg]; exact (below_size (by repeat (first | (with_reducible first | exact HB.out | apply below_alloc | apply pw_below_drewN | apply below_drew1) | exact HB.out))) : w.heap.size ≤ gb224)); have n3_ := Aside0.mk ((by rw [hg]; exact (below_size (by repeat (first | (with_reducible first | exact HB.out | apply below_alloc | apply pw_below_drewN | apply below_drew1) | exact HB.out))) : w.heap.size ≤ gb224)); clear HB; have HB := n0_; have BK224 := n1_; have GW224 := n2_; have GE224 := n3_; clear n0_ n1_ n2_ n3_; clear hb hbox hg; have hcz17_0 : w16.cell? ⟨gb224, 0, none⟩ = some (.int .i64 0) := (blk_cell BK224.out 0).trans rfl; have hcz17_1 : w16.cell? ⟨gb224, 1, none⟩ = some (.int .u8 0) := (blk_cell BK224.out 1).trans rfl; have hcz17_2 : w16.cell? ⟨gb224, 2, none⟩ = some (.bool false) := (blk_cell BK224.out 2).trans rfl; have hcz17_3 : w16.cell? ⟨gb224, 3, none⟩ = some (.int .i64 0) := (blk_cell BK224.out 3).trans rfl; have hcz17_4 : w16.cell? ⟨gb224, 4, none⟩ = some (.int .i64 0) := (blk_cell BK224.out 4).trans rfl; have hcz17_5 : w16.cell? ⟨gb224, 5, none⟩ = some (.int .i64 0) := (blk_cell BK224.out 5).trans rfl; have hcz17_6 : w16.cell? ⟨gb224, 6, none⟩ = some (.slice none 0 0) := (blk_cell BK224.out 6).trans rfl; have hcz17_7 : w16.cell? ⟨gb224, 7, none⟩ = some (.slice none 0 0) := (blk_cell BK224.out 7).trans rfl; have hfz17_0 := blk_frozen BK224.out 0; have hfz17_1 := blk_frozen BK224.out 1; have hfz17_2 := blk_frozen BK224.out 2; have hfz17_3 := blk_frozen BK224.out 3; have hfz17_4 := blk_frozen BK224.out 4; have hfz17_5 := blk_frozen BK224.out 5; have hfz17_6 := blk_frozen BK224.out 6; have hfz17_7 := blk_frozen BK224.out 7) | (go_at_call 31; (with_reducible refine (jvmcoreref2_room.calls k1 ((rd_T47 l0 x12_1).f0) ((rd_T47 l0 x12_1).f1) ((rd_T47 l0 x12_1).f2) ((rd_T47 l0 x12_1).f3) ((rd_T47 l0 x12_1).f4) ((rd_T47 l0 x12_1).f5) _ _ ((rd_T47 l0 x12_1).f6) _ _ ((rd_T47 l0 x12_1).f7) a2 true _ ?side1 ?side2 ?side3 ?side4 A7.out).mono ?_); (case side1 => exact Kd.C_below HR223_6.out (by repeat (first | (with_reducible first | exact HB.out | apply below_alloc | apply pw_below_drewN | apply below_drew1 | refine below_set ?_ GE224.out) | exact HB.out))); (case side2 => exact HC223_6.out); (case side3 => exact Kd.C_below HR223_7.out (by repeat (first | (with_reducible first | exact HB.out | apply below_alloc | apply pw_below_drewN | apply below_drew1 | refine below_set ?_ GE224.out) | exact HB.out))); (case side4 => exact HC223_7.out); rintro e w18 ⟨rfl, hb⟩; have n0_ := Aside0.mk (blk_below (g := gb224) (o := .cells #[.int .i64 ((rd_T47 l0 x12_1).f0), .int .u8 ((rd_T47 l0 x12_1).f1), .bool ((rd_T47 l0 x12_1).f2), .int .i64 ((rd_T47 l0 x12_1).f3), .int .i64 ((rd_T47 l0 x12_1).f4), .int .i64 ((rd_T47 l0 x12_1).f5), .slice A223_6 ((rd_T47 l0 x12_1).f6).length c223_6, .slice A223_7 ((rd_T47 l0 x12_1).f7).length c223_7] 47 (0, 0)) (by (with_reducible repeat (first | refine blk_drewN ?_ _ | refine blk_drew ?_ | refine blk_alloc ?_ _)); refine blk_put (cs := #[.int .i64 ((rd_T47 l0 x12_1).f0), .int .u8 ((rd_T47 l0 x12_1).f1), .bool ((rd_T47 l0 x12_1).f2), .int .i64 ((rd_T47 l0 x12_1).f3), .int .i64 ((rd_T47 l0 x12_1).f4), .int .i64 ((rd_T47 l0 x12_1).f5), .slice A223_6 ((rd_T47 l0 x12_1).f6).length c223_6, .slice none 0 0]) ?_ 7 _ rfl; (with_reducible repeat (first | refine blk_drewN ?_ _ | refine blk_drew ?_ | refine blk_alloc ?_ _)); refine blk_put (cs := #[.int .i64 ((rd_T47 l0 x12_1).f0), .int .u8 ((rd_T47 l0 x12_1).f1), .bool ((rd_T47 l0 x12_1).f2), .int .i64 ((rd_T47 l0 x12_1).f3), .int .i64 ((rd_T47 l0 x12_1).f4), .int .i64 ((rd_T47 l0 x12_1).f5), .slice none 0 0, .slice none 0 0]) ?_ 6 _ rfl; (with_reducible repeat (first | refine blk_drewN ?_ _ | refine blk_drew ?_ | refine blk_alloc ?_ _)); refine blk_put (cs := #[.int .i64 ((rd_T47 l0 x12_1).f0), .int .u8 ((rd_T47 l0 x12_1).f1), .bool ((rd_T47 l0 x12_1).f2), .int .i64 ((rd_T47 l0 x12_1).f3), .int .i64 ((rd_T47 l0 x12_1).f4), .int .i64 0, .slice none 0 0, .slice none 0 0]) ?_ 5 _ rfl; (with_reducible repeat (first | refine blk_drewN ?_ _ | refine blk_drew ?_ | refine blk_alloc ?_ _)); refine blk_put (cs := #[.int .i64 ((rd_T47 l0 x12_1).f0), .int .u8 ((rd_T47 l0 x12_1).f1), .bool ((rd_T47 l0 x12_1).f2), .int .i64 ((rd_T47 l0 x12_1).f3), .int .i64 0, .int .i64 0, .slice none 0 0, .slice none 0 0]) ?_ 4 _ rfl; (with_reducible repeat (first | refine blk_drewN ?_ _ | refine blk_drew ?_ | refine blk_alloc ?_ _)); refine blk_put (cs := #[.int .i64 ((rd_T47 l0 x12_1).f0), .int .u8 ((rd_T47 l0 x12_1).f1), .bool ((rd_T47 l0 x12_1).f2), .int .i64 0, .int .i64 0, .int .i64 0, .slice none 0 0, .slice none 0 0]) ?_ 3 _ rfl; (with_reducible repeat (first | refine blk_drewN ?_ _ | refine blk_drew ?_ | refine blk_alloc ?_ _)); refine blk_put (cs := #[.int .i64 ((rd_T47 l0 x12_1).f0), .int .u8 ((rd_T47 l0 x12_1).f1), .bool false, .int .i64 0, .int .i64 0, .int .i64 0, .slice none 0 0, .slice none 0 0]) ?_ 2 _ rfl; (with_reducible repeat (first | refine blk_drewN ?_ _ | refine blk_drew ?_ | refine blk_alloc ?_ _)); refine blk_put (cs := #[.int .i64 ((rd_T47 l0 x12_1).f0), .int .u8 0, .bool false, .int .i64 0, .int .i64 0, .int .i64 0, .slice none 0 0, .slice none 0 0]) ?_ 1 _ rfl; (with_reducible repeat (first | refine blk_drewN ?_ _ | refine blk_drew ?_ | refine blk_alloc ?_ _)); refine blk_put (cs := #[.int .i64 0, .int .u8 0, .bool false, .int .i64 0, .int .i64 0, .int .i64 0, .slice none 0 0, .slice none 0 0]) ?_ 0 _ rfl; (with_reducible repeat (first | refine blk_drewN ?_ _ | refine blk_drew ?_ | refine blk_alloc ?_ _)); exact BK224.out) hb); have n1_ := Aside0.mk (below_step (by repeat (first | (with_reducible first | exact HB.out | apply below_alloc | apply pw_below_drewN | apply below_drew1 | refine below_set ?_ GE224.out) | exact HB.out)) hb); clear BK224; clear HB; have BK224 := n0_; have HB := n1_; clear n0_ n1_; (try clear hb); (try clear hb2); (try clear hk); (try clear hi); have hcz19_0 : w18.cell? ⟨gb224, 0, none⟩ = some (.int .i64 ((rd_T47 l0 x12_1).f0)) := (blk_cell BK224.out 0).trans rfl; have hcz19_1 : w18.cell? ⟨gb224, 1, none⟩ = some (.int .u8 ((rd_T47 l0 x12_1).f1)) := (blk_cell BK224.out 1).trans rfl; have hcz19_2 : w18.cell? ⟨gb224, 2, none⟩ = some (.bool ((rd_T47 l0 x12_1).f2)) := (blk_cell BK224.out 2).trans rfl; have hcz19_3 : w18.cell? ⟨gb224, 3, none⟩ = some (.int .i64 ((rd_T47 l0 x12_1).f3)) := (blk_cell BK224.out 3).trans rfl; have hcz19_4 : w18.cell? ⟨gb224, 4, none⟩ = some (.int .i64 ((rd_T47 l0 x12_1).f4)) := (blk_cell BK224.out 4).trans rfl; have hcz19_5 : w18.cell? ⟨gb224, 5, none⟩ = some (.int .i64 ((rd_T47 l0 x12_1).f5)) := (blk_cell BK224.out 5).trans rfl; have hcz19_6 : w18.cell? ⟨gb224, 6, none⟩ = some (.slice A223_6 ((rd_T47 l0 x12_1).f6).length c223_6) := (blk_cell BK224.out 6).trans rfl; have hcz19_7 : w18.cell? ⟨gb224, 7, none⟩ = some (.slice A223_7 ((rd_T47 l0 x12_1).f7).length c223_7) := (blk_cell BK224.out 7).trans rfl; have hfz19_0 := blk_frozen BK224.out 0; have hfz19_1 := blk_frozen BK224.out 1; have hfz19_2 := blk_frozen BK224.out 2; have hfz19_3 := blk_frozen BK224.out 3; have hfz19_4 := blk_frozen BK224.out 4; have hfz19_5 := blk_frozen BK224.out 5; have hfz19_6 := blk_frozen BK224.out 6; have hfz19_7 := blk_frozen BK224.out 7) | (go_at_call 32; (with_reducible refine (jvmcoreref2_operand.calls k1 ((rd_T47 l0 x12_1).f0) ((rd_T47 l0 x12_1).f1) ((rd_T47 l0 x12_1).f2) ((rd_T47 l0 x12_1).f3) ((rd_T47 l0 x12_1).f4) ((rd_T47 l0 x12_1).f5) _ _ ((rd_T47 l0 x12_1).f6) _ _ ((rd_T47 l0 x12_1).f7) _ _ l1 false _ ?side1 ?side2 ?side3 ?side4 ?side5 ?side6 A9.out).mono ?_); (case side1 => repeat (first | exact (Kd.C_below HR223_6.out HB.out) | (with_reducible refine Kd.C_alloc ?_ _) | (with_reducible refine Kd.C_drewN ?_ _) | (with_reducible refine Kd.C_drew ?_))); (case side2 => exact HC223_6.out); (case side3 => repeat (first | exact (Kd.C_below HR223_7.out HB.out) | (with_reducible refine Kd.C_alloc ?_ _) | (with_reducible refine Kd.C_drewN ?_ _) | (with_reducible refine Kd.C_drew ?_))); (case side4 => exact HC223_7.out); (case side5 => repeat (first | exact (Kd.C_below HR1.out HB.out) | (with_reducible refine Kd.C_alloc ?_ _) | (with_reducible refine Kd.C_drewN ?_ _) | (with_reducible refine Kd.C_drew ?_))); (case side6 => exact HC1.out); rintro e w20 ⟨rfl, hb⟩; have n0_ := Aside0.mk (blk_below (g := gb224) (o := .cells #[.int .i64 ((rd_T47 l0 x12_1).f0), .int .u8 ((rd_T47 l0 x12_1).f1), .bool ((rd_T47 l0 x12_1).f2), .int .i64 ((rd_T47 l0 x12_1).f3), .int .i64 ((rd_T47 l0 x12_1).f4), .int .i64 ((rd_T47 l0 x12_1).f5), .slice A223_6 ((rd_T47 l0 x12_1).f6).length c223_6, .slice A223_7 ((rd_T47 l0 x12_1).f7).length c223_7] 47 (0, 0)) (by (with_reducible repeat (first | refine blk_drewN ?_ _ | refine blk_drew ?_ | refine blk_alloc ?_ _)); exact BK224.out) hb); have n1_ := Aside0.mk (below_step (by repeat (first | (with_reducible first | exact HB.out | apply below_alloc | apply pw_below_drewN | apply below_drew1 | refine below_set ?_ GE224.out) | exact HB.out)) hb); clear BK224; clear HB; have BK224 := n0_; have HB := n1_; clear n0_ n1_; (try clear hb); (try clear hb2); (try clear hk); (try clear hi); have hcz21_0 : w20.cell? ⟨gb224, 0, none⟩ = some (.int .i64 ((rd_T47 l0 x12_1).f0)) := (blk_cell BK224.out 0).trans rfl; have hcz21_1 : w20.cell? ⟨gb224, 1, none⟩ = some (.int .u8 ((rd_T47 l0 x12_1).f1)) := (blk_cell BK224.out 1).trans rfl; have hcz21_2 : w20.cell? ⟨gb224, 2, none⟩ = some (.bool ((rd_T47 l0 x12_1).f2)) := (blk_cell BK224.out 2).trans rfl; have hcz21_3 : w20.cell? ⟨gb224, 3, none⟩ = some (.int .i64 ((rd_T47 l0 x12_1).f3)) := (blk_cell BK224.out 3).trans rfl; have hcz21_4 : w20.cell? ⟨gb224, 4, none⟩ = some (.int .i64 ((rd_T47 l0 x12_1).f4)) := (blk_cell BK224.out 4).trans rfl; have hcz21_5 : w20.cell? ⟨gb224, 5, none⟩ = some (.int .i64 ((rd_T47 l0 x12_1).f5)) := (blk_cell BK224.out 5).trans rfl; have hcz21_6 : w20.cell? ⟨gb224, 6, none⟩ = some (.slice A223_6 ((rd_T47 l0 x12_1).f6).length c223_6) := (blk_cell BK224.out 6).trans rfl; have hcz21_7 : w20.cell? ⟨gb224, 7, none⟩ = some (.slice A223_7 ((rd_T47 l0 x12_1).f7).length c223_7) := (blk_cell BK224.out 7).trans rfl; have hfz21_0 := blk_frozen BK224.out 0; have hfz21_1 := blk_frozen BK224.out 1; have hfz21_2 := blk_frozen BK224.out 2; have hfz21_3 := blk_frozen BK224.out 3; have hfz21_4 := blk_frozen BK224.out 4; have hfz21_5 := blk_frozen BK224.out 5; have hfz21_6 := blk_frozen BK224.out 6; have hfz21_7 := blk_frozen BK224.out 7))
                repeat (go_quiet (first | ((with_reducible refine gate_dst (N := 9) rfl ?_); refine box_event ?hg (N := 9) ?hd (cs := #[.int .i64 0, .int .u8 0, .bool false, .int .i64 0, .int .i64 0, .int .i64 0, .slice none 0 0, .slice none 0 0]) (t := 47) ?hr ?_; (case hd => rfl); (case hg => rfl); (case hr => first | (go_simp; done) | (go_simp; rfl)); intro gb224 hg w16 hbox hb; have n0_ := Aside0.mk (below_step (by repeat (first | (with_reducible first | exact HB.out | apply below_alloc | apply pw_below_drewN | apply below_drew1) | exact HB.out)) hb); have n1_ := Aside0.mk (hbox); have n2_ := Aside0.mk ((by rw [hg]; exact (below_size (by repeat (first | (with_reducible first | exact HB.out | apply below_alloc | apply pw_below_drewN | apply below_drew1) | exact HB.out))) : w.heap.size ≤ gb224)); have n3_ := Aside0.mk ((by rw [hg]; exact (below_size (by repeat (first | (with_reducible first | exact HB.out | apply below_alloc | apply pw_below_drewN | apply below_drew1) | exact HB.out))) : w.heap.size ≤ gb224)); clear HB; have HB := n0_; have BK224 := n1_; have GW224 := n2_; have GE224 := n3_; clear n0_ n1_ n2_ n3_; clear hb hbox hg; have hcz17_0 : w16.cell? ⟨gb224, 0, none⟩ = some (.int .i64 0) := (blk_cell BK224.out 0).trans rfl; have hcz17_1 : w16.cell? ⟨gb224, 1, none⟩ = some (.int .u8 0) := (blk_cell BK224.out 1).trans rfl; have hcz17_2 : w16.cell? ⟨gb224, 2, none⟩ = some (.bool false) := (blk_cell BK224.out 2).trans rfl; have hcz17_3 : w16.cell? ⟨gb224, 3, none⟩ = some (.int .i64 0) := (blk_cell BK224.out 3).trans rfl; have hcz17_4 : w16.cell? ⟨gb224, 4, none⟩ = some (.int .i64 0) := (blk_cell BK224.out 4).trans rfl; have hcz17_5 : w16.cell? ⟨gb224, 5, none⟩ = some (.int .i64 0) := (blk_cell BK224.out 5).trans rfl; have hcz17_6 : w16.cell? ⟨gb224, 6, none⟩ = some (.slice none 0 0) := (blk_cell BK224.out 6).trans rfl; have hcz17_7 : w16.cell? ⟨gb224, 7, none⟩ = some (.slice none 0 0) := (blk_cell BK224.out 7).trans rfl; have hfz17_0 := blk_frozen BK224.out 0; have hfz17_1 := blk_frozen BK224.out 1; have hfz17_2 := blk_frozen BK224.out 2; have hfz17_3 := blk_frozen BK224.out 3; have hfz17_4 := blk_frozen BK224.out 4; have hfz17_5 := blk_frozen BK224.out 5; have hfz17_6 := blk_frozen BK224.out 6; have hfz17_7 := blk_frozen BK224.out 7) | (go_at_call 31; (with_reducible refine (jvmcoreref2_room.calls k1 ((rd_T47 l0 x12_1).f0) ((rd_T47 l0 x12_1).f1) ((rd_T47 l0 x12_1).f2) ((rd_T47 l0 x12_1).f3) ((rd_T47 l0 x12_1).f4) ((rd_T47 l0 x12_1).f5) _ _ ((rd_T47 l0 x12_1).f6) _ _ ((rd_T47 l0 x12_1).f7) a2 true _ ?side1 ?side2 ?side3 ?side4 A7.out).mono ?_); (case side1 => exact Kd.C_below HR223_6.out (by repeat (first | (with_reducible first | exact HB.out | apply below_alloc | apply pw_below_drewN | apply below_drew1 | refine below_set ?_ GE224.out) | exact HB.out))); (case side2 => exact HC223_6.out); (case side3 => exact Kd.C_below HR223_7.out (by repeat (first | (with_reducible first | exact HB.out | apply below_alloc | apply pw_below_drewN | apply below_drew1 | refine below_set ?_ GE224.out) | exact HB.out))); (case side4 => exact HC223_7.out); rintro e w18 ⟨rfl, hb⟩; have n0_ := Aside0.mk (blk_below (g := gb224) (o := .cells #[.int .i64 ((rd_T47 l0 x12_1).f0), .int .u8 ((rd_T47 l0 x12_1).f1), .bool ((rd_T47 l0 x12_1).f2), .int .i64 ((rd_T47 l0 x12_1).f3), .int .i64 ((rd_T47 l0 x12_1).f4), .int .i64 ((rd_T47 l0 x12_1).f5), .slice A223_6 ((rd_T47 l0 x12_1).f6).length c223_6, .slice A223_7 ((rd_T47 l0 x12_1).f7).length c223_7] 47 (0, 0)) (by (with_reducible repeat (first | refine blk_drewN ?_ _ | refine blk_drew ?_ | refine blk_alloc ?_ _)); refine blk_put (cs := #[.int .i64 ((rd_T47 l0 x12_1).f0), .int .u8 ((rd_T47 l0 x12_1).f1), .bool ((rd_T47 l0 x12_1).f2), .int .i64 ((rd_T47 l0 x12_1).f3), .int .i64 ((rd_T47 l0 x12_1).f4), .int .i64 ((rd_T47 l0 x12_1).f5), .slice A223_6 ((rd_T47 l0 x12_1).f6).length c223_6, .slice none 0 0]) ?_ 7 _ rfl; (with_reducible repeat (first | refine blk_drewN ?_ _ | refine blk_drew ?_ | refine blk_alloc ?_ _)); refine blk_put (cs := #[.int .i64 ((rd_T47 l0 x12_1).f0), .int .u8 ((rd_T47 l0 x12_1).f1), .bool ((rd_T47 l0 x12_1).f2), .int .i64 ((rd_T47 l0 x12_1).f3), .int .i64 ((rd_T47 l0 x12_1).f4), .int .i64 ((rd_T47 l0 x12_1).f5), .slice none 0 0, .slice none 0 0]) ?_ 6 _ rfl; (with_reducible repeat (first | refine blk_drewN ?_ _ | refine blk_drew ?_ | refine blk_alloc ?_ _)); refine blk_put (cs := #[.int .i64 ((rd_T47 l0 x12_1).f0), .int .u8 ((rd_T47 l0 x12_1).f1), .bool ((rd_T47 l0 x12_1).f2), .int .i64 ((rd_T47 l0 x12_1).f3), .int .i64 ((rd_T47 l0 x12_1).f4), .int .i64 0, .slice none 0 0, .slice none 0 0]) ?_ 5 _ rfl; (with_reducible repeat (first | refine blk_drewN ?_ _ | refine blk_drew ?_ | refine blk_alloc ?_ _)); refine blk_put (cs := #[.int .i64 ((rd_T47 l0 x12_1).f0), .int .u8 ((rd_T47 l0 x12_1).f1), .bool ((rd_T47 l0 x12_1).f2), .int .i64 ((rd_T47 l0 x12_1).f3), .int .i64 0, .int .i64 0, .slice none 0 0, .slice none 0 0]) ?_ 4 _ rfl; (with_reducible repeat (first | refine blk_drewN ?_ _ | refine blk_drew ?_ | refine blk_alloc ?_ _)); refine blk_put (cs := #[.int .i64 ((rd_T47 l0 x12_1).f0), .int .u8 ((rd_T47 l0 x12_1).f1), .bool ((rd_T47 l0 x12_1).f2), .int .i64 0, .int .i64 0, .int .i64 0, .slice none 0 0, .slice none 0 0]) ?_ 3 _ rfl; (with_reducible repeat (first | refine blk_drewN ?_ _ | refine blk_drew ?_ | refine blk_alloc ?_ _)); refine blk_put (cs := #[.int .i64 ((rd_T47 l0 x12_1).f0), .int .u8 ((rd_T47 l0 x12_1).f1), .bool false, .int .i64 0, .int .i64 0, .int .i64 0, .slice none 0 0, .slice none 0 0]) ?_ 2 _ rfl; (with_reducible repeat (first | refine blk_drewN ?_ _ | refine blk_drew ?_ | refine blk_alloc ?_ _)); refine blk_put (cs := #[.int .i64 ((rd_T47 l0 x12_1).f0), .int .u8 0, .bool false, .int .i64 0, .int .i64 0, .int .i64 0, .slice none 0 0, .slice none 0 0]) ?_ 1 _ rfl; (with_reducible repeat (first | refine blk_drewN ?_ _ | refine blk_drew ?_ | refine blk_alloc ?_ _)); refine blk_put (cs := #[.int .i64 0, .int .u8 0, .bool false, .int .i64 0, .int .i64 0, .int .i64 0, .slice none 0 0, .slice none 0 0]) ?_ 0 _ rfl; (with_reducible repeat (first | refine blk_drewN ?_ _ | refine blk_drew ?_ | refine blk_alloc ?_ _)); exact BK224.out) hb); have n1_ := Aside0.mk (below_step (by repeat (first | (with_reducible first | exact HB.out | apply below_alloc | apply pw_below_drewN | apply below_drew1 | refine below_set ?_ GE224.out) | exact HB.out)) hb); clear BK224; clear HB; have BK224 := n0_; have HB := n1_; clear n0_ n1_; (try clear hb); (try clear hb2); (try clear hk); (try clear hi); have hcz19_0 : w18.cell? ⟨gb224, 0, none⟩ = some (.int .i64 ((rd_T47 l0 x12_1).f0)) := (blk_cell BK224.out 0).trans rfl; have hcz19_1 : w18.cell? ⟨gb224, 1, none⟩ = some (.int .u8 ((rd_T47 l0 x12_1).f1)) := (blk_cell BK224.out 1).trans rfl; have hcz19_2 : w18.cell? ⟨gb224, 2, none⟩ = some (.bool ((rd_T47 l0 x12_1).f2)) := (blk_cell BK224.out 2).trans rfl; have hcz19_3 : w18.cell? ⟨gb224, 3, none⟩ = some (.int .i64 ((rd_T47 l0 x12_1).f3)) := (blk_cell BK224.out 3).trans rfl; have hcz19_4 : w18.cell? ⟨gb224, 4, none⟩ = some (.int .i64 ((rd_T47 l0 x12_1).f4)) := (blk_cell BK224.out 4).trans rfl; have hcz19_5 : w18.cell? ⟨gb224, 5, none⟩ = some (.int .i64 ((rd_T47 l0 x12_1).f5)) := (blk_cell BK224.out 5).trans rfl; have hcz19_6 : w18.cell? ⟨gb224, 6, none⟩ = some (.slice A223_6 ((rd_T47 l0 x12_1).f6).length c223_6) := (blk_cell BK224.out 6).trans rfl; have hcz19_7 : w18.cell? ⟨gb224, 7, none⟩ = some (.slice A223_7 ((rd_T47 l0 x12_1).f7).length c223_7) := (blk_cell BK224.out 7).trans rfl; have hfz19_0 := blk_frozen BK224.out 0; have hfz19_1 := blk_frozen BK224.out 1; have hfz19_2 := blk_frozen BK224.out 2; have hfz19_3 := blk_frozen BK224.out 3; have hfz19_4 := blk_frozen BK224.out 4; have hfz19_5 := blk_frozen BK224.out 5; have hfz19_6 := blk_frozen BK224.out 6; have hfz19_7 := blk_frozen BK224.out 7) | (go_at_call 32; (with_reducible refine (jvmcoreref2_operand.calls k1 ((rd_T47 l0 x12_1).f0) ((rd_T47 l0 x12_1).f1) ((rd_T47 l0 x12_1).f2) ((rd_T47 l0 x12_1).f3) ((rd_T47 l0 x12_1).f4) ((rd_T47 l0 x12_1).f5) _ _ ((rd_T47 l0 x12_1).f6) _ _ ((rd_T47 l0 x12_1).f7) _ _ l1 false _ ?side1 ?side2 ?side3 ?side4 ?side5 ?side6 A9.out).mono ?_); (case side1 => repeat (first | exact (Kd.C_below HR223_6.out HB.out) | (with_reducible refine Kd.C_alloc ?_ _) | (with_reducible refine Kd.C_drewN ?_ _) | (with_reducible refine Kd.C_drew ?_))); (case side2 => exact HC223_6.out); (case side3 => repeat (first | exact (Kd.C_below HR223_7.out HB.out) | (with_reducible refine Kd.C_alloc ?_ _) | (with_reducible refine Kd.C_drewN ?_ _) | (with_reducible refine Kd.C_drew ?_))); (case side4 => exact HC223_7.out); (case side5 => repeat (first | exact (Kd.C_below HR1.out HB.out) | (with_reducible refine Kd.C_alloc ?_ _) | (with_reducible refine Kd.C_drewN ?_ _) | (with_reducible refine Kd.C_drew ?_))); (case side6 => exact HC1.out); rintro e w20 ⟨rfl, hb⟩; have n0_ := Aside0.mk (blk_below (g := gb224) (o := .cells #[.int .i64 ((rd_T47 l0 x12_1).f0), .int .u8 ((rd_T47 l0 x12_1).f1), .bool ((rd_T47 l0 x12_1).f2), .int .i64 ((rd_T47 l0 x12_1).f3), .int .i64 ((rd_T47 l0 x12_1).f4), .int .i64 ((rd_T47 l0 x12_1).f5), .slice A223_6 ((rd_T47 l0 x12_1).f6).length c223_6, .slice A223_7 ((rd_T47 l0 x12_1).f7).length c223_7] 47 (0, 0)) (by (with_reducible repeat (first | refine blk_drewN ?_ _ | refine blk_drew ?_ | refine blk_alloc ?_ _)); exact BK224.out) hb); have n1_ := Aside0.mk (below_step (by repeat (first | (with_reducible first | exact HB.out | apply below_alloc | apply pw_below_drewN | apply below_drew1 | refine below_set ?_ GE224.out) | exact HB.out)) hb); clear BK224; clear HB; have BK224 := n0_; have HB := n1_; clear n0_ n1_; (try clear hb); (try clear hb2); (try clear hk); (try clear hi); have hcz21_0 : w20.cell? ⟨gb224, 0, none⟩ = some (.int .i64 ((rd_T47 l0 x12_1).f0)) := (blk_cell BK224.out 0).trans rfl; have hcz21_1 : w20.cell? ⟨gb224, 1, none⟩ = some (.int .u8 ((rd_T47 l0 x12_1).f1)) := (blk_cell BK224.out 1).trans rfl; have hcz21_2 : w20.cell? ⟨gb224, 2, none⟩ = some (.bool ((rd_T47 l0 x12_1).f2)) := (blk_cell BK224.out 2).trans rfl; have hcz21_3 : w20.cell? ⟨gb224, 3, none⟩ = some (.int .i64 ((rd_T47 l0 x12_1).f3)) := (blk_cell BK224.out 3).trans rfl; have hcz21_4 : w20.cell? ⟨gb224, 4, none⟩ = some (.int .i64 ((rd_T47 l0 x12_1).f4)) := (blk_cell BK224.out 4).trans rfl; have hcz21_5 : w20.cell? ⟨gb224, 5, none⟩ = some (.int .i64 ((rd_T47 l0 x12_1).f5)) := (blk_cell BK224.out 5).trans rfl; have hcz21_6 : w20.cell? ⟨gb224, 6, none⟩ = some (.slice A223_6 ((rd_T47 l0 x12_1).f6).length c223_6) := (blk_cell BK224.out 6).trans rfl; have hcz21_7 : w20.cell? ⟨gb224, 7, none⟩ = some (.slice A223_7 ((rd_T47 l0 x12_1).f7).length c223_7) := (blk_cell BK224.out 7).trans rfl; have hfz21_0 := blk_frozen BK224.out 0; have hfz21_1 := blk_frozen BK224.out 1; have hfz21_2 := blk_frozen BK224.out 2; have hfz21_3 := blk_frozen BK224.out 3; have hfz21_4 := blk_frozen BK224.out 4; have hfz21_5 := blk_frozen BK224.out 5; have hfz21_6 := blk_frozen BK224.out 6; have hfz21_7 := blk_frozen BK224.out 7)); try go_wp2_with (first | ((with_reducible refine gate_dst (N := 9) rfl ?_); refine box_event ?hg (N := 9) ?hd (cs := #[.int .i64 0, .int .u8 0, .bool false, .int .i64 0, .int .i64 0, .int .i64 0, .slice none 0 0, .slice none 0 0]) (t := 47) ?hr ?_; (case hd => rfl); (case hg => rfl); (case hr => first | (go_simp; done) | (go_simp; rfl)); intro gb224 hg w16 hbox hb; have n0_ := Aside0.mk (below_step (by repeat (first | (with_reducible first | exact HB.out | apply below_alloc | apply pw_below_drewN | apply below_drew1) | exact HB.out)) hb); have n1_ := Aside0.mk (hbox); have n2_ := Aside0.mk ((by rw [hg]; exact (below_size (by repeat (first | (with_reducible first | exact HB.out | apply below_alloc | apply pw_below_drewN | apply below_drew1) | exact HB.out))) : w.heap.size ≤ gb224)); have n3_ := Aside0.mk ((by rw [hg]; exact (below_size (by repeat (first | (with_reducible first | exact HB.out | apply below_alloc | apply pw_below_drewN | apply below_drew1) | exact HB.out))) : w.heap.size ≤ gb224)); clear HB; have HB := n0_; have BK224 := n1_; have GW224 := n2_; have GE224 := n3_; clear n0_ n1_ n2_ n3_; clear hb hbox hg; have hcz17_0 : w16.cell? ⟨gb224, 0, none⟩ = some (.int .i64 0) := (blk_cell BK224.out 0).trans rfl; have hcz17_1 : w16.cell? ⟨gb224, 1, none⟩ = some (.int .u8 0) := (blk_cell BK224.out 1).trans rfl; have hcz17_2 : w16.cell? ⟨gb224, 2, none⟩ = some (.bool false) := (blk_cell BK224.out 2).trans rfl; have hcz17_3 : w16.cell? ⟨gb224, 3, none⟩ = some (.int .i64 0) := (blk_cell BK224.out 3).trans rfl; have hcz17_4 : w16.cell? ⟨gb224, 4, none⟩ = some (.int .i64 0) := (blk_cell BK224.out 4).trans rfl; have hcz17_5 : w16.cell? ⟨gb224, 5, none⟩ = some (.int .i64 0) := (blk_cell BK224.out 5).trans rfl; have hcz17_6 : w16.cell? ⟨gb224, 6, none⟩ = some (.slice none 0 0) := (blk_cell BK224.out 6).trans rfl; have hcz17_7 : w16.cell? ⟨gb224, 7, none⟩ = some (.slice none 0 0) := (blk_cell BK224.out 7).trans rfl; have hfz17_0 := blk_frozen BK224.out 0; have hfz17_1 := blk_frozen BK224.out 1; have hfz17_2 := blk_frozen BK224.out 2; have hfz17_3 := blk_frozen BK224.out 3; have hfz17_4 := blk_frozen BK224.out 4; have hfz17_5 := blk_frozen BK224.out 5; have hfz17_6 := blk_frozen BK224.out 6; have hfz17_7 := blk_frozen BK224.out 7) | (go_at_call 31; (with_reducible refine (jvmcoreref2_room.calls k1 ((rd_T47 l0 x12_1).f0) ((rd_T47 l0 x12_1).f1) ((rd_T47 l0 x12_1).f2) ((rd_T47 l0 x12_1).f3) ((rd_T47 l0 x12_1).f4) ((rd_T47 l0 x12_1).f5) _ _ ((rd_T47 l0 x12_1).f6) _ _ ((rd_T47 l0 x12_1).f7) a2 true _ ?side1 ?side2 ?side3 ?side4 A7.out).mono ?_); (case side1 => exact Kd.C_below HR223_6.out (by repeat (first | (with_reducible first | exact HB.out | apply below_alloc | apply pw_below_drewN | apply below_drew1 | refine below_set ?_ GE224.out) | exact HB.out))); (case side2 => exact HC223_6.out); (case side3 => exact Kd.C_below HR223_7.out (by repeat (first | (with_reducible first | exact HB.out | apply below_alloc | apply pw_below_drewN | apply below_drew1 | refine below_set ?_ GE224.out) | exact HB.out))); (case side4 => exact HC223_7.out); rintro e w18 ⟨rfl, hb⟩; have n0_ := Aside0.mk (blk_below (g := gb224) (o := .cells #[.int .i64 ((rd_T47 l0 x12_1).f0), .int .u8 ((rd_T47 l0 x12_1).f1), .bool ((rd_T47 l0 x12_1).f2), .int .i64 ((rd_T47 l0 x12_1).f3), .int .i64 ((rd_T47 l0 x12_1).f4), .int .i64 ((rd_T47 l0 x12_1).f5), .slice A223_6 ((rd_T47 l0 x12_1).f6).length c223_6, .slice A223_7 ((rd_T47 l0 x12_1).f7).length c223_7] 47 (0, 0)) (by (with_reducible repeat (first | refine blk_drewN ?_ _ | refine blk_drew ?_ | refine blk_alloc ?_ _)); refine blk_put (cs := #[.int .i64 ((rd_T47 l0 x12_1).f0), .int .u8 ((rd_T47 l0 x12_1).f1), .bool ((rd_T47 l0 x12_1).f2), .int .i64 ((rd_T47 l0 x12_1).f3), .int .i64 ((rd_T47 l0 x12_1).f4), .int .i64 ((rd_T47 l0 x12_1).f5), .slice A223_6 ((rd_T47 l0 x12_1).f6).length c223_6, .slice none 0 0]) ?_ 7 _ rfl; (with_reducible repeat (first | refine blk_drewN ?_ _ | refine blk_drew ?_ | refine blk_alloc ?_ _)); refine blk_put (cs := #[.int .i64 ((rd_T47 l0 x12_1).f0), .int .u8 ((rd_T47 l0 x12_1).f1), .bool ((rd_T47 l0 x12_1).f2), .int .i64 ((rd_T47 l0 x12_1).f3), .int .i64 ((rd_T47 l0 x12_1).f4), .int .i64 ((rd_T47 l0 x12_1).f5), .slice none 0 0, .slice none 0 0]) ?_ 6 _ rfl; (with_reducible repeat (first | refine blk_drewN ?_ _ | refine blk_drew ?_ | refine blk_alloc ?_ _)); refine blk_put (cs := #[.int .i64 ((rd_T47 l0 x12_1).f0), .int .u8 ((rd_T47 l0 x12_1).f1), .bool ((rd_T47 l0 x12_1).f2), .int .i64 ((rd_T47 l0 x12_1).f3), .int .i64 ((rd_T47 l0 x12_1).f4), .int .i64 0, .slice none 0 0, .slice none 0 0]) ?_ 5 _ rfl; (with_reducible repeat (first | refine blk_drewN ?_ _ | refine blk_drew ?_ | refine blk_alloc ?_ _)); refine blk_put (cs := #[.int .i64 ((rd_T47 l0 x12_1).f0), .int .u8 ((rd_T47 l0 x12_1).f1), .bool ((rd_T47 l0 x12_1).f2), .int .i64 ((rd_T47 l0 x12_1).f3), .int .i64 0, .int .i64 0, .slice none 0 0, .slice none 0 0]) ?_ 4 _ rfl; (with_reducible repeat (first | refine blk_drewN ?_ _ | refine blk_drew ?_ | refine blk_alloc ?_ _)); refine blk_put (cs := #[.int .i64 ((rd_T47 l0 x12_1).f0), .int .u8 ((rd_T47 l0 x12_1).f1), .bool ((rd_T47 l0 x12_1).f2), .int .i64 0, .int .i64 0, .int .i64 0, .slice none 0 0, .slice none 0 0]) ?_ 3 _ rfl; (with_reducible repeat (first | refine blk_drewN ?_ _ | refine blk_drew ?_ | refine blk_alloc ?_ _)); refine blk_put (cs := #[.int .i64 ((rd_T47 l0 x12_1).f0), .int .u8 ((rd_T47 l0 x12_1).f1), .bool false, .int .i64 0, .int .i64 0, .int .i64 0, .slice none 0 0, .slice none 0 0]) ?_ 2 _ rfl; (with_reducible repeat (first | refine blk_drewN ?_ _ | refine blk_drew ?_ | refine blk_alloc ?_ _)); refine blk_put (cs := #[.int .i64 ((rd_T47 l0 x12_1).f0), .int .u8 0, .bool false, .int .i64 0, .int .i64 0, .int .i64 0, .slice none 0 0, .slice none 0 0]) ?_ 1 _ rfl; (with_reducible repeat (first | refine blk_drewN ?_ _ | refine blk_drew ?_ | refine blk_alloc ?_ _)); refine blk_put (cs := #[.int .i64 0, .int .u8 0, .bool false, .int .i64 0, .int .i64 0, .int .i64 0, .slice none 0 0, .slice none 0 0]) ?_ 0 _ rfl; (with_reducible repeat (first | refine blk_drewN ?_ _ | refine blk_drew ?_ | refine blk_alloc ?_ _)); exact BK224.out) hb); have n1_ := Aside0.mk (below_step (by repeat (first | (with_reducible first | exact HB.out | apply below_alloc | apply pw_below_drewN | apply below_drew1 | refine below_set ?_ GE224.out) | exact HB.out)) hb); clear BK224; clear HB; have BK224 := n0_; have HB := n1_; clear n0_ n1_; (try clear hb); (try clear hb2); (try clear hk); (try clear hi); have hcz19_0 : w18.cell? ⟨gb224, 0, none⟩ = some (.int .i64 ((rd_T47 l0 x12_1).f0)) := (blk_cell BK224.out 0).trans rfl; have hcz19_1 : w18.cell? ⟨gb224, 1, none⟩ = some (.int .u8 ((rd_T47 l0 x12_1).f1)) := (blk_cell BK224.out 1).trans rfl; have hcz19_2 : w18.cell? ⟨gb224, 2, none⟩ = some (.bool ((rd_T47 l0 x12_1).f2)) := (blk_cell BK224.out 2).trans rfl; have hcz19_3 : w18.cell? ⟨gb224, 3, none⟩ = some (.int .i64 ((rd_T47 l0 x12_1).f3)) := (blk_cell BK224.out 3).trans rfl; have hcz19_4 : w18.cell? ⟨gb224, 4, none⟩ = some (.int .i64 ((rd_T47 l0 x12_1).f4)) := (blk_cell BK224.out 4).trans rfl; have hcz19_5 : w18.cell? ⟨gb224, 5, none⟩ = some (.int .i64 ((rd_T47 l0 x12_1).f5)) := (blk_cell BK224.out 5).trans rfl; have hcz19_6 : w18.cell? ⟨gb224, 6, none⟩ = some (.slice A223_6 ((rd_T47 l0 x12_1).f6).length c223_6) := (blk_cell BK224.out 6).trans rfl; have hcz19_7 : w18.cell? ⟨gb224, 7, none⟩ = some (.slice A223_7 ((rd_T47 l0 x12_1).f7).length c223_7) := (blk_cell BK224.out 7).trans rfl; have hfz19_0 := blk_frozen BK224.out 0; have hfz19_1 := blk_frozen BK224.out 1; have hfz19_2 := blk_frozen BK224.out 2; have hfz19_3 := blk_frozen BK224.out 3; have hfz19_4 := blk_frozen BK224.out 4; have hfz19_5 := blk_frozen BK224.out 5; have hfz19_6 := blk_frozen BK224.out 6; have hfz19_7 := blk_frozen BK224.out 7) | (go_at_call 32; (with_reducible refine (jvmcoreref2_operand.calls k1 ((rd_T47 l0 x12_1).f0) ((rd_T47 l0 x12_1).f1) ((rd_T47 l0 x12_1).f2) ((rd_T47 l0 x12_1).f3) ((rd_T47 l0 x12_1).f4) ((rd_T47 l0 x12_1).f5) _ _ ((rd_T47 l0 x12_1).f6) _ _ ((rd_T47 l0 x12_1).f7) _ _ l1 false _ ?side1 ?side2 ?side3 ?side4 ?side5 ?side6 A9.out).mono ?_); (case side1 => repeat (first | exact (Kd.C_below HR223_6.out HB.out) | (with_reducible refine Kd.C_alloc ?_ _) | (with_reducible refine Kd.C_drewN ?_ _) | (with_reducible refine Kd.C_drew ?_))); (case side2 => exact HC223_6.out); (case side3 => repeat (first | exact (Kd.C_below HR223_7.out HB.out) | (with_reducible refine Kd.C_alloc ?_ _) | (with_reducible refine Kd.C_drewN ?_ _) | (with_reducible refine Kd.C_drew ?_))); (case side4 => exact HC223_7.out); (case side5 => repeat (first | exact (Kd.C_below HR1.out HB.out) | (with_reducible refine Kd.C_alloc ?_ _) | (with_reducible refine Kd.C_drewN ?_ _) | (with_reducible refine Kd.C_drew ?_))); (case side6 => exact HC1.out); rintro e w20 ⟨rfl, hb⟩; have n0_ := Aside0.mk (blk_below (g := gb224) (o := .cells #[.int .i64 ((rd_T47 l0 x12_1).f0), .int .u8 ((rd_T47 l0 x12_1).f1), .bool ((rd_T47 l0 x12_1).f2), .int .i64 ((rd_T47 l0 x12_1).f3), .int .i64 ((rd_T47 l0 x12_1).f4), .int .i64 ((rd_T47 l0 x12_1).f5), .slice A223_6 ((rd_T47 l0 x12_1).f6).length c223_6, .slice A223_7 ((rd_T47 l0 x12_1).f7).length c223_7] 47 (0, 0)) (by (with_reducible repeat (first | refine blk_drewN ?_ _ | refine blk_drew ?_ | refine blk_alloc ?_ _)); exact BK224.out) hb); have n1_ := Aside0.mk (below_step (by repeat (first | (with_reducible first | exact HB.out | apply below_alloc | apply pw_below_drewN | apply below_drew1 | refine below_set ?_ GE224.out) | exact HB.out)) hb); clear BK224; clear HB; have BK224 := n0_; have HB := n1_; clear n0_ n1_; (try clear hb); (try clear hb2); (try clear hk); (try clear hi); have hcz21_0 : w20.cell? ⟨gb224, 0, none⟩ = some (.int .i64 ((rd_T47 l0 x12_1).f0)) := (blk_cell BK224.out 0).trans rfl; have hcz21_1 : w20.cell? ⟨gb224, 1, none⟩ = some (.int .u8 ((rd_T47 l0 x12_1).f1)) := (blk_cell BK224.out 1).trans rfl; have hcz21_2 : w20.cell? ⟨gb224, 2, none⟩ = some (.bool ((rd_T47 l0 x12_1).f2)) := (blk_cell BK224.out 2).trans rfl; have hcz21_3 : w20.cell? ⟨gb224, 3, none⟩ = some (.int .i64 ((rd_T47 l0 x12_1).f3)) := (blk_cell BK224.out 3).trans rfl; have hcz21_4 : w20.cell? ⟨gb224, 4, none⟩ = some (.int .i64 ((rd_T47 l0 x12_1).f4)) := (blk_cell BK224.out 4).trans rfl; have hcz21_5 : w20.cell? ⟨gb224, 5, none⟩ = some (.int .i64 ((rd_T47 l0 x12_1).f5)) := (blk_cell BK224.out 5).trans rfl; have hcz21_6 : w20.cell? ⟨gb224, 6, none⟩ = some (.slice A223_6 ((rd_T47 l0 x12_1).f6).length c223_6) := (blk_cell BK224.out 6).trans rfl; have hcz21_7 : w20.cell? ⟨gb224, 7, none⟩ = some (.slice A223_7 ((rd_T47 l0 x12_1).f7).length c223_7) := (blk_cell BK224.out 7).trans rfl; have hfz21_0 := blk_frozen BK224.out 0; have hfz21_1 := blk_frozen BK224.out 1; have hfz21_2 := blk_frozen BK224.out 2; have hfz21_3 := blk_frozen BK224.out 3; have hfz21_4 := blk_frozen BK224.out 4; have hfz21_5 := blk_frozen BK224.out 5; have hfz21_6 := blk_frozen BK224.out 6; have hfz21_7 := blk_frozen BK224.out 7)))
                go_ret2
                exact ⟨by first | rfl | (simp [errW_none, errW_some] <;> rfl) | (simp [*, errW_none, errW_some] <;> rfl), by repeat (first | (with_reducible first | exact HB.out | apply below_alloc | apply pw_below_drewN | apply below_drew1 | refine below_set ?_ GE224.out) | exact HB.out)⟩
            · replace c8 := Bool.eq_false_iff.mpr c8
              subst c8
              have H1 : (some (15, (rd_T47 l0 x12_1).f0)) = some (r1, r2) := by rw [if_neg (show ¬ (false = true) by decide)] at H; exact H
              clear H
              have H := H1
              clear H1
              simp only [Option.some.injEq, Prod.mk.injEq] at H
              obtain ⟨rfl, rfl⟩ := H
              have p223 : 0 ≤ (x12_1 : Int) := of_decide_eq_true (by first | (with_reducible assumption) | assumption)
              have q223 : x12_1 < (l0.length : Int) := of_decide_eq_true (by first | (with_reducible assumption) | assumption)
              obtain ⟨ad223, A223_6, c223_6, A223_7, c223_7, e223, hx223_0, hx223_1, hx223_2, hx223_3, hx223_4, hx223_5, hx223_6, hx223_7, hl223_6, hi223_6, hl223_7, hi223_7⟩ := at_T47 HR0.out x12_1 p223 q223
              cases e223
              replace hx223_0 := (HB.out.cell (World.block_lt_of_cell? w _ hx223_0)).trans hx223_0
              replace hx223_1 := (HB.out.cell (World.block_lt_of_cell? w _ hx223_1)).trans hx223_1
              replace hx223_2 := (HB.out.cell (World.block_lt_of_cell? w _ hx223_2)).trans hx223_2
              replace hx223_3 := (HB.out.cell (World.block_lt_of_cell? w _ hx223_3)).trans hx223_3
              replace hx223_4 := (HB.out.cell (World.block_lt_of_cell? w _ hx223_4)).trans hx223_4
              replace hx223_5 := (HB.out.cell (World.block_lt_of_cell? w _ hx223_5)).trans hx223_5
              replace hx223_6 := (HB.out.cell (World.block_lt_of_cell? w _ hx223_6)).trans hx223_6
              replace hx223_7 := (HB.out.cell (World.block_lt_of_cell? w _ hx223_7)).trans hx223_7
              have HR223_6 := Aside0.mk hi223_6
              have HC223_6 := Aside0.mk hl223_6
              clear hi223_6 hl223_6
              have HR223_7 := Aside0.mk hi223_7
              have HC223_7 := Aside0.mk hl223_7
              clear hi223_7 hl223_7
              replace p223 := eq_true p223
              replace q223 := eq_true q223
              go_wp2_with (first | ((with_reducible refine gate_dst (N := 9) rfl ?_); refine box_event ?hg (N := 9) ?hd (cs := #[.int .i64 0, .int .u8 0, .bool false, .int .i64 0, .int .i64 0, .int .i64 0, .slice none 0 0, .slice none 0 0]) (t := 47) ?hr ?_; (case hd => rfl); (case hg => rfl); (case hr => first | (go_simp; done) | (go_simp; rfl)); intro gb224 hg w22 hbox hb; have n0_ := Aside0.mk (below_step (by repeat (first | (with_reducible first | exact HB.out | apply below_alloc | apply pw_below_drewN | apply below_drew1) | exact HB.out)) hb); have n1_ := Aside0.mk (hbox); have n2_ := Aside0.mk ((by rw [hg]; exact (below_size (by repeat (first | (with_reducible first | exact HB.out | apply below_alloc | apply pw_below_drewN | apply below_drew1) | exact HB.out))) : w.heap.size ≤ gb224)); have n3_ := Aside0.mk ((by rw [hg]; exact (below_size (by repeat (first | (with_reducible first | exact HB.out | apply below_alloc | apply pw_below_drewN | apply below_drew1) | exact HB.out))) : w.heap.size ≤ gb224)); clear HB; have HB := n0_; have BK224 := n1_; have GW224 := n2_; have GE224 := n3_; clear n0_ n1_ n2_ n3_; clear hb hbox hg; have hcz23_0 : w22.cell? ⟨gb224, 0, none⟩ = some (.int .i64 0) := (blk_cell BK224.out 0).trans rfl; have hcz23_1 : w22.cell? ⟨gb224, 1, none⟩ = some (.int .u8 0) := (blk_cell BK224.out 1).trans rfl; have hcz23_2 : w22.cell? ⟨gb224, 2, none⟩ = some (.bool false) := (blk_cell BK224.out 2).trans rfl; have hcz23_3 : w22.cell? ⟨gb224, 3, none⟩ = some (.int .i64 0) := (blk_cell BK224.out 3).trans rfl; have hcz23_4 : w22.cell? ⟨gb224, 4, none⟩ = some (.int .i64 0) := (blk_cell BK224.out 4).trans rfl; have hcz23_5 : w22.cell? ⟨gb224, 5, none⟩ = some (.int .i64 0) := (blk_cell BK224.out 5).trans rfl; have hcz23_6 : w22.cell? ⟨gb224, 6, none⟩ = some (.slice none 0 0) := (blk_cell BK224.out 6).trans rfl; have hcz23_7 : w22.cell? ⟨gb224, 7, none⟩ = some (.slice none 0 0) := (blk_cell BK224.out 7).trans rfl; have hfz23_0 := blk_frozen BK224.out 0; have hfz23_1 := blk_frozen BK224.out 1; have hfz23_2 := blk_frozen BK224.out 2; have hfz23_3 := blk_frozen BK224.out 3; have hfz23_4 := blk_frozen BK224.out 4; have hfz23_5 := blk_frozen BK224.out 5; have hfz23_6 := blk_frozen BK224.out 6; have hfz23_7 := blk_frozen BK224.out 7) | (go_at_call 31; (with_reducible refine (jvmcoreref2_room.calls k1 ((rd_T47 l0 x12_1).f0) ((rd_T47 l0 x12_1).f1) ((rd_T47 l0 x12_1).f2) ((rd_T47 l0 x12_1).f3) ((rd_T47 l0 x12_1).f4) ((rd_T47 l0 x12_1).f5) _ _ ((rd_T47 l0 x12_1).f6) _ _ ((rd_T47 l0 x12_1).f7) a2 false _ ?side1 ?side2 ?side3 ?side4 A7.out).mono ?_); (case side1 => exact Kd.C_below HR223_6.out (by repeat (first | (with_reducible first | exact HB.out | apply below_alloc | apply pw_below_drewN | apply below_drew1 | refine below_set ?_ GE224.out) | exact HB.out))); (case side2 => exact HC223_6.out); (case side3 => exact Kd.C_below HR223_7.out (by repeat (first | (with_reducible first | exact HB.out | apply below_alloc | apply pw_below_drewN | apply below_drew1 | refine below_set ?_ GE224.out) | exact HB.out))); (case side4 => exact HC223_7.out); rintro e w24 ⟨rfl, hb⟩; have n0_ := Aside0.mk (blk_below (g := gb224) (o := .cells #[.int .i64 ((rd_T47 l0 x12_1).f0), .int .u8 ((rd_T47 l0 x12_1).f1), .bool ((rd_T47 l0 x12_1).f2), .int .i64 ((rd_T47 l0 x12_1).f3), .int .i64 ((rd_T47 l0 x12_1).f4), .int .i64 ((rd_T47 l0 x12_1).f5), .slice A223_6 ((rd_T47 l0 x12_1).f6).length c223_6, .slice A223_7 ((rd_T47 l0 x12_1).f7).length c223_7] 47 (0, 0)) (by (with_reducible repeat (first | refine blk_drewN ?_ _ | refine blk_drew ?_ | refine blk_alloc ?_ _)); refine blk_put (cs := #[.int .i64 ((rd_T47 l0 x12_1).f0), .int .u8 ((rd_T47 l0 x12_1).f1), .bool ((rd_T47 l0 x12_1).f2), .int .i64 ((rd_T47 l0 x12_1).f3), .int .i64 ((rd_T47 l0 x12_1).f4), .int .i64 ((rd_T47 l0 x12_1).f5), .slice A223_6 ((rd_T47 l0 x12_1).f6).length c223_6, .slice none 0 0]) ?_ 7 _ rfl; (with_reducible repeat (first | refine blk_drewN ?_ _ | refine blk_drew ?_ | refine blk_alloc ?_ _)); refine blk_put (cs := #[.int .i64 ((rd_T47 l0 x12_1).f0), .int .u8 ((rd_T47 l0 x12_1).f1), .bool ((rd_T47 l0 x12_1).f2), .int .i64 ((rd_T47 l0 x12_1).f3), .int .i64 ((rd_T47 l0 x12_1).f4), .int .i64 ((rd_T47 l0 x12_1).f5), .slice none 0 0, .slice none 0 0]) ?_ 6 _ rfl; (with_reducible repeat (first | refine blk_drewN ?_ _ | refine blk_drew ?_ | refine blk_alloc ?_ _)); refine blk_put (cs := #[.int .i64 ((rd_T47 l0 x12_1).f0), .int .u8 ((rd_T47 l0 x12_1).f1), .bool ((rd_T47 l0 x12_1).f2), .int .i64 ((rd_T47 l0 x12_1).f3), .int .i64 ((rd_T47 l0 x12_1).f4), .int .i64 0, .slice none 0 0, .slice none 0 0]) ?_ 5 _ rfl; (with_reducible repeat (first | refine blk_drewN ?_ _ | refine blk_drew ?_ | refine blk_alloc ?_ _)); refine blk_put (cs := #[.int .i64 ((rd_T47 l0 x12_1).f0), .int .u8 ((rd_T47 l0 x12_1).f1), .bool ((rd_T47 l0 x12_1).f2), .int .i64 ((rd_T47 l0 x12_1).f3), .int .i64 0, .int .i64 0, .slice none 0 0, .slice none 0 0]) ?_ 4 _ rfl; (with_reducible repeat (first | refine blk_drewN ?_ _ | refine blk_drew ?_ | refine blk_alloc ?_ _)); refine blk_put (cs := #[.int .i64 ((rd_T47 l0 x12_1).f0), .int .u8 ((rd_T47 l0 x12_1).f1), .bool ((rd_T47 l0 x12_1).f2), .int .i64 0, .int .i64 0, .int .i64 0, .slice none 0 0, .slice none 0 0]) ?_ 3 _ rfl; (with_reducible repeat (first | refine blk_drewN ?_ _ | refine blk_drew ?_ | refine blk_alloc ?_ _)); refine blk_put (cs := #[.int .i64 ((rd_T47 l0 x12_1).f0), .int .u8 ((rd_T47 l0 x12_1).f1), .bool false, .int .i64 0, .int .i64 0, .int .i64 0, .slice none 0 0, .slice none 0 0]) ?_ 2 _ rfl; (with_reducible repeat (first | refine blk_drewN ?_ _ | refine blk_drew ?_ | refine blk_alloc ?_ _)); refine blk_put (cs := #[.int .i64 ((rd_T47 l0 x12_1).f0), .int .u8 0, .bool false, .int .i64 0, .int .i64 0, .int .i64 0, .slice none 0 0, .slice none 0 0]) ?_ 1 _ rfl; (with_reducible repeat (first | refine blk_drewN ?_ _ | refine blk_drew ?_ | refine blk_alloc ?_ _)); refine blk_put (cs := #[.int .i64 0, .int .u8 0, .bool false, .int .i64 0, .int .i64 0, .int .i64 0, .slice none 0 0, .slice none 0 0]) ?_ 0 _ rfl; (with_reducible repeat (first | refine blk_drewN ?_ _ | refine blk_drew ?_ | refine blk_alloc ?_ _)); exact BK224.out) hb); have n1_ := Aside0.mk (below_step (by repeat (first | (with_reducible first | exact HB.out | apply below_alloc | apply pw_below_drewN | apply below_drew1 | refine below_set ?_ GE224.out) | exact HB.out)) hb); clear BK224; clear HB; have BK224 := n0_; have HB := n1_; clear n0_ n1_; (try clear hb); (try clear hb2); (try clear hk); (try clear hi); have hcz25_0 : w24.cell? ⟨gb224, 0, none⟩ = some (.int .i64 ((rd_T47 l0 x12_1).f0)) := (blk_cell BK224.out 0).trans rfl; have hcz25_1 : w24.cell? ⟨gb224, 1, none⟩ = some (.int .u8 ((rd_T47 l0 x12_1).f1)) := (blk_cell BK224.out 1).trans rfl; have hcz25_2 : w24.cell? ⟨gb224, 2, none⟩ = some (.bool ((rd_T47 l0 x12_1).f2)) := (blk_cell BK224.out 2).trans rfl; have hcz25_3 : w24.cell? ⟨gb224, 3, none⟩ = some (.int .i64 ((rd_T47 l0 x12_1).f3)) := (blk_cell BK224.out 3).trans rfl; have hcz25_4 : w24.cell? ⟨gb224, 4, none⟩ = some (.int .i64 ((rd_T47 l0 x12_1).f4)) := (blk_cell BK224.out 4).trans rfl; have hcz25_5 : w24.cell? ⟨gb224, 5, none⟩ = some (.int .i64 ((rd_T47 l0 x12_1).f5)) := (blk_cell BK224.out 5).trans rfl; have hcz25_6 : w24.cell? ⟨gb224, 6, none⟩ = some (.slice A223_6 ((rd_T47 l0 x12_1).f6).length c223_6) := (blk_cell BK224.out 6).trans rfl; have hcz25_7 : w24.cell? ⟨gb224, 7, none⟩ = some (.slice A223_7 ((rd_T47 l0 x12_1).f7).length c223_7) := (blk_cell BK224.out 7).trans rfl; have hfz25_0 := blk_frozen BK224.out 0; have hfz25_1 := blk_frozen BK224.out 1; have hfz25_2 := blk_frozen BK224.out 2; have hfz25_3 := blk_frozen BK224.out 3; have hfz25_4 := blk_frozen BK224.out 4; have hfz25_5 := blk_frozen BK224.out 5; have hfz25_6 := blk_frozen BK224.out 6; have hfz25_7 := blk_frozen BK224.out 7))
              repeat (go_quiet (first | ((with_reducible refine gate_dst (N := 9) rfl ?_); refine box_event ?hg (N := 9) ?hd (cs := #[.int .i64 0, .int .u8 0, .bool false, .int .i64 0, .int .i64 0, .int .i64 0, .slice none 0 0, .slice none 0 0]) (t := 47) ?hr ?_; (case hd => rfl); (case hg => rfl); (case hr => first | (go_simp; done) | (go_simp; rfl)); intro gb224 hg w22 hbox hb; have n0_ := Aside0.mk (below_step (by repeat (first | (with_reducible first | exact HB.out | apply below_alloc | apply pw_below_drewN | apply below_drew1) | exact HB.out)) hb); have n1_ := Aside0.mk (hbox); have n2_ := Aside0.mk ((by rw [hg]; exact (below_size (by repeat (first | (with_reducible first | exact HB.out | apply below_alloc | apply pw_below_drewN | apply below_drew1) | exact HB.out))) : w.heap.size ≤ gb224)); have n3_ := Aside0.mk ((by rw [hg]; exact (below_size (by repeat (first | (with_reducible first | exact HB.out | apply below_alloc | apply pw_below_drewN | apply below_drew1) | exact HB.out))) : w.heap.size ≤ gb224)); clear HB; have HB := n0_; have BK224 := n1_; have GW224 := n2_; have GE224 := n3_; clear n0_ n1_ n2_ n3_; clear hb hbox hg; have hcz23_0 : w22.cell? ⟨gb224, 0, none⟩ = some (.int .i64 0) := (blk_cell BK224.out 0).trans rfl; have hcz23_1 : w22.cell? ⟨gb224, 1, none⟩ = some (.int .u8 0) := (blk_cell BK224.out 1).trans rfl; have hcz23_2 : w22.cell? ⟨gb224, 2, none⟩ = some (.bool false) := (blk_cell BK224.out 2).trans rfl; have hcz23_3 : w22.cell? ⟨gb224, 3, none⟩ = some (.int .i64 0) := (blk_cell BK224.out 3).trans rfl; have hcz23_4 : w22.cell? ⟨gb224, 4, none⟩ = some (.int .i64 0) := (blk_cell BK224.out 4).trans rfl; have hcz23_5 : w22.cell? ⟨gb224, 5, none⟩ = some (.int .i64 0) := (blk_cell BK224.out 5).trans rfl; have hcz23_6 : w22.cell? ⟨gb224, 6, none⟩ = some (.slice none 0 0) := (blk_cell BK224.out 6).trans rfl; have hcz23_7 : w22.cell? ⟨gb224, 7, none⟩ = some (.slice none 0 0) := (blk_cell BK224.out 7).trans rfl; have hfz23_0 := blk_frozen BK224.out 0; have hfz23_1 := blk_frozen BK224.out 1; have hfz23_2 := blk_frozen BK224.out 2; have hfz23_3 := blk_frozen BK224.out 3; have hfz23_4 := blk_frozen BK224.out 4; have hfz23_5 := blk_frozen BK224.out 5; have hfz23_6 := blk_frozen BK224.out 6; have hfz23_7 := blk_frozen BK224.out 7) | (go_at_call 31; (with_reducible refine (jvmcoreref2_room.calls k1 ((rd_T47 l0 x12_1).f0) ((rd_T47 l0 x12_1).f1) ((rd_T47 l0 x12_1).f2) ((rd_T47 l0 x12_1).f3) ((rd_T47 l0 x12_1).f4) ((rd_T47 l0 x12_1).f5) _ _ ((rd_T47 l0 x12_1).f6) _ _ ((rd_T47 l0 x12_1).f7) a2 false _ ?side1 ?side2 ?side3 ?side4 A7.out).mono ?_); (case side1 => exact Kd.C_below HR223_6.out (by repeat (first | (with_reducible first | exact HB.out | apply below_alloc | apply pw_below_drewN | apply below_drew1 | refine below_set ?_ GE224.out) | exact HB.out))); (case side2 => exact HC223_6.out); (case side3 => exact Kd.C_below HR223_7.out (by repeat (first | (with_reducible first | exact HB.out | apply below_alloc | apply pw_below_drewN | apply below_drew1 | refine below_set ?_ GE224.out) | exact HB.out))); (case side4 => exact HC223_7.out); rintro e w24 ⟨rfl, hb⟩; have n0_ := Aside0.mk (blk_below (g := gb224) (o := .cells #[.int .i64 ((rd_T47 l0 x12_1).f0), .int .u8 ((rd_T47 l0 x12_1).f1), .bool ((rd_T47 l0 x12_1).f2), .int .i64 ((rd_T47 l0 x12_1).f3), .int .i64 ((rd_T47 l0 x12_1).f4), .int .i64 ((rd_T47 l0 x12_1).f5), .slice A223_6 ((rd_T47 l0 x12_1).f6).length c223_6, .slice A223_7 ((rd_T47 l0 x12_1).f7).length c223_7] 47 (0, 0)) (by (with_reducible repeat (first | refine blk_drewN ?_ _ | refine blk_drew ?_ | refine blk_alloc ?_ _)); refine blk_put (cs := #[.int .i64 ((rd_T47 l0 x12_1).f0), .int .u8 ((rd_T47 l0 x12_1).f1), .bool ((rd_T47 l0 x12_1).f2), .int .i64 ((rd_T47 l0 x12_1).f3), .int .i64 ((rd_T47 l0 x12_1).f4), .int .i64 ((rd_T47 l0 x12_1).f5), .slice A223_6 ((rd_T47 l0 x12_1).f6).length c223_6, .slice none 0 0]) ?_ 7 _ rfl; (with_reducible repeat (first | refine blk_drewN ?_ _ | refine blk_drew ?_ | refine blk_alloc ?_ _)); refine blk_put (cs := #[.int .i64 ((rd_T47 l0 x12_1).f0), .int .u8 ((rd_T47 l0 x12_1).f1), .bool ((rd_T47 l0 x12_1).f2), .int .i64 ((rd_T47 l0 x12_1).f3), .int .i64 ((rd_T47 l0 x12_1).f4), .int .i64 ((rd_T47 l0 x12_1).f5), .slice none 0 0, .slice none 0 0]) ?_ 6 _ rfl; (with_reducible repeat (first | refine blk_drewN ?_ _ | refine blk_drew ?_ | refine blk_alloc ?_ _)); refine blk_put (cs := #[.int .i64 ((rd_T47 l0 x12_1).f0), .int .u8 ((rd_T47 l0 x12_1).f1), .bool ((rd_T47 l0 x12_1).f2), .int .i64 ((rd_T47 l0 x12_1).f3), .int .i64 ((rd_T47 l0 x12_1).f4), .int .i64 0, .slice none 0 0, .slice none 0 0]) ?_ 5 _ rfl; (with_reducible repeat (first | refine blk_drewN ?_ _ | refine blk_drew ?_ | refine blk_alloc ?_ _)); refine blk_put (cs := #[.int .i64 ((rd_T47 l0 x12_1).f0), .int .u8 ((rd_T47 l0 x12_1).f1), .bool ((rd_T47 l0 x12_1).f2), .int .i64 ((rd_T47 l0 x12_1).f3), .int .i64 0, .int .i64 0, .slice none 0 0, .slice none 0 0]) ?_ 4 _ rfl; (with_reducible repeat (first | refine blk_drewN ?_ _ | refine blk_drew ?_ | refine blk_alloc ?_ _)); refine blk_put (cs := #[.int .i64 ((rd_T47 l0 x12_1).f0), .int .u8 ((rd_T47 l0 x12_1).f1), .bool ((rd_T47 l0 x12_1).f2), .int .i64 0, .int .i64 0, .int .i64 0, .slice none 0 0, .slice none 0 0]) ?_ 3 _ rfl; (with_reducible repeat (first | refine blk_drewN ?_ _ | refine blk_drew ?_ | refine blk_alloc ?_ _)); refine blk_put (cs := #[.int .i64 ((rd_T47 l0 x12_1).f0), .int .u8 ((rd_T47 l0 x12_1).f1), .bool false, .int .i64 0, .int .i64 0, .int .i64 0, .slice none 0 0, .slice none 0 0]) ?_ 2 _ rfl; (with_reducible repeat (first | refine blk_drewN ?_ _ | refine blk_drew ?_ | refine blk_alloc ?_ _)); refine blk_put (cs := #[.int .i64 ((rd_T47 l0 x12_1).f0), .int .u8 0, .bool false, .int .i64 0, .int .i64 0, .int .i64 0, .slice none 0 0, .slice none 0 0]) ?_ 1 _ rfl; (with_reducible repeat (first | refine blk_drewN ?_ _ | refine blk_drew ?_ | refine blk_alloc ?_ _)); refine blk_put (cs := #[.int .i64 0, .int .u8 0, .bool false, .int .i64 0, .int .i64 0, .int .i64 0, .slice none 0 0, .slice none 0 0]) ?_ 0 _ rfl; (with_reducible repeat (first | refine blk_drewN ?_ _ | refine blk_drew ?_ | refine blk_alloc ?_ _)); exact BK224.out) hb); have n1_ := Aside0.mk (below_step (by repeat (first | (with_reducible first | exact HB.out | apply below_alloc | apply pw_below_drewN | apply below_drew1 | refine below_set ?_ GE224.out) | exact HB.out)) hb); clear BK224; clear HB; have BK224 := n0_; have HB := n1_; clear n0_ n1_; (try clear hb); (try clear hb2); (try clear hk); (try clear hi); have hcz25_0 : w24.cell? ⟨gb224, 0, none⟩ = some (.int .i64 ((rd_T47 l0 x12_1).f0)) := (blk_cell BK224.out 0).trans rfl; have hcz25_1 : w24.cell? ⟨gb224, 1, none⟩ = some (.int .u8 ((rd_T47 l0 x12_1).f1)) := (blk_cell BK224.out 1).trans rfl; have hcz25_2 : w24.cell? ⟨gb224, 2, none⟩ = some (.bool ((rd_T47 l0 x12_1).f2)) := (blk_cell BK224.out 2).trans rfl; have hcz25_3 : w24.cell? ⟨gb224, 3, none⟩ = some (.int .i64 ((rd_T47 l0 x12_1).f3)) := (blk_cell BK224.out 3).trans rfl; have hcz25_4 : w24.cell? ⟨gb224, 4, none⟩ = some (.int .i64 ((rd_T47 l0 x12_1).f4)) := (blk_cell BK224.out 4).trans rfl; have hcz25_5 : w24.cell? ⟨gb224, 5, none⟩ = some (.int .i64 ((rd_T47 l0 x12_1).f5)) := (blk_cell BK224.out 5).trans rfl; have hcz25_6 : w24.cell? ⟨gb224, 6, none⟩ = some (.slice A223_6 ((rd_T47 l0 x12_1).f6).length c223_6) := (blk_cell BK224.out 6).trans rfl; have hcz25_7 : w24.cell? ⟨gb224, 7, none⟩ = some (.slice A223_7 ((rd_T47 l0 x12_1).f7).length c223_7) := (blk_cell BK224.out 7).trans rfl; have hfz25_0 := blk_frozen BK224.out 0; have hfz25_1 := blk_frozen BK224.out 1; have hfz25_2 := blk_frozen BK224.out 2; have hfz25_3 := blk_frozen BK224.out 3; have hfz25_4 := blk_frozen BK224.out 4; have hfz25_5 := blk_frozen BK224.out 5; have hfz25_6 := blk_frozen BK224.out 6; have hfz25_7 := blk_frozen BK224.out 7)); try go_wp2_with (first | ((with_reducible refine gate_dst (N := 9) rfl ?_); refine box_event ?hg (N := 9) ?hd (cs := #[.int .i64 0, .int .u8 0, .bool false, .int .i64 0, .int .i64 0, .int .i64 0, .slice none 0 0, .slice none 0 0]) (t := 47) ?hr ?_; (case hd => rfl); (case hg => rfl); (case hr => first | (go_simp; done) | (go_simp; rfl)); intro gb224 hg w22 hbox hb; have n0_ := Aside0.mk (below_step (by repeat (first | (with_reducible first | exact HB.out | apply below_alloc | apply pw_below_drewN | apply below_drew1) | exact HB.out)) hb); have n1_ := Aside0.mk (hbox); have n2_ := Aside0.mk ((by rw [hg]; exact (below_size (by repeat (first | (with_reducible first | exact HB.out | apply below_alloc | apply pw_below_drewN | apply below_drew1) | exact HB.out))) : w.heap.size ≤ gb224)); have n3_ := Aside0.mk ((by rw [hg]; exact (below_size (by repeat (first | (with_reducible first | exact HB.out | apply below_alloc | apply pw_below_drewN | apply below_drew1) | exact HB.out))) : w.heap.size ≤ gb224)); clear HB; have HB := n0_; have BK224 := n1_; have GW224 := n2_; have GE224 := n3_; clear n0_ n1_ n2_ n3_; clear hb hbox hg; have hcz23_0 : w22.cell? ⟨gb224, 0, none⟩ = some (.int .i64 0) := (blk_cell BK224.out 0).trans rfl; have hcz23_1 : w22.cell? ⟨gb224, 1, none⟩ = some (.int .u8 0) := (blk_cell BK224.out 1).trans rfl; have hcz23_2 : w22.cell? ⟨gb224, 2, none⟩ = some (.bool false) := (blk_cell BK224.out 2).trans rfl; have hcz23_3 : w22.cell? ⟨gb224, 3, none⟩ = some (.int .i64 0) := (blk_cell BK224.out 3).trans rfl; have hcz23_4 : w22.cell? ⟨gb224, 4, none⟩ = some (.int .i64 0) := (blk_cell BK224.out 4).trans rfl; have hcz23_5 : w22.cell? ⟨gb224, 5, none⟩ = some (.int .i64 0) := (blk_cell BK224.out 5).trans rfl; have hcz23_6 : w22.cell? ⟨gb224, 6, none⟩ = some (.slice none 0 0) := (blk_cell BK224.out 6).trans rfl; have hcz23_7 : w22.cell? ⟨gb224, 7, none⟩ = some (.slice none 0 0) := (blk_cell BK224.out 7).trans rfl; have hfz23_0 := blk_frozen BK224.out 0; have hfz23_1 := blk_frozen BK224.out 1; have hfz23_2 := blk_frozen BK224.out 2; have hfz23_3 := blk_frozen BK224.out 3; have hfz23_4 := blk_frozen BK224.out 4; have hfz23_5 := blk_frozen BK224.out 5; have hfz23_6 := blk_frozen BK224.out 6; have hfz23_7 := blk_frozen BK224.out 7) | (go_at_call 31; (with_reducible refine (jvmcoreref2_room.calls k1 ((rd_T47 l0 x12_1).f0) ((rd_T47 l0 x12_1).f1) ((rd_T47 l0 x12_1).f2) ((rd_T47 l0 x12_1).f3) ((rd_T47 l0 x12_1).f4) ((rd_T47 l0 x12_1).f5) _ _ ((rd_T47 l0 x12_1).f6) _ _ ((rd_T47 l0 x12_1).f7) a2 false _ ?side1 ?side2 ?side3 ?side4 A7.out).mono ?_); (case side1 => exact Kd.C_below HR223_6.out (by repeat (first | (with_reducible first | exact HB.out | apply below_alloc | apply pw_below_drewN | apply below_drew1 | refine below_set ?_ GE224.out) | exact HB.out))); (case side2 => exact HC223_6.out); (case side3 => exact Kd.C_below HR223_7.out (by repeat (first | (with_reducible first | exact HB.out | apply below_alloc | apply pw_below_drewN | apply below_drew1 | refine below_set ?_ GE224.out) | exact HB.out))); (case side4 => exact HC223_7.out); rintro e w24 ⟨rfl, hb⟩; have n0_ := Aside0.mk (blk_below (g := gb224) (o := .cells #[.int .i64 ((rd_T47 l0 x12_1).f0), .int .u8 ((rd_T47 l0 x12_1).f1), .bool ((rd_T47 l0 x12_1).f2), .int .i64 ((rd_T47 l0 x12_1).f3), .int .i64 ((rd_T47 l0 x12_1).f4), .int .i64 ((rd_T47 l0 x12_1).f5), .slice A223_6 ((rd_T47 l0 x12_1).f6).length c223_6, .slice A223_7 ((rd_T47 l0 x12_1).f7).length c223_7] 47 (0, 0)) (by (with_reducible repeat (first | refine blk_drewN ?_ _ | refine blk_drew ?_ | refine blk_alloc ?_ _)); refine blk_put (cs := #[.int .i64 ((rd_T47 l0 x12_1).f0), .int .u8 ((rd_T47 l0 x12_1).f1), .bool ((rd_T47 l0 x12_1).f2), .int .i64 ((rd_T47 l0 x12_1).f3), .int .i64 ((rd_T47 l0 x12_1).f4), .int .i64 ((rd_T47 l0 x12_1).f5), .slice A223_6 ((rd_T47 l0 x12_1).f6).length c223_6, .slice none 0 0]) ?_ 7 _ rfl; (with_reducible repeat (first | refine blk_drewN ?_ _ | refine blk_drew ?_ | refine blk_alloc ?_ _)); refine blk_put (cs := #[.int .i64 ((rd_T47 l0 x12_1).f0), .int .u8 ((rd_T47 l0 x12_1).f1), .bool ((rd_T47 l0 x12_1).f2), .int .i64 ((rd_T47 l0 x12_1).f3), .int .i64 ((rd_T47 l0 x12_1).f4), .int .i64 ((rd_T47 l0 x12_1).f5), .slice none 0 0, .slice none 0 0]) ?_ 6 _ rfl; (with_reducible repeat (first | refine blk_drewN ?_ _ | refine blk_drew ?_ | refine blk_alloc ?_ _)); refine blk_put (cs := #[.int .i64 ((rd_T47 l0 x12_1).f0), .int .u8 ((rd_T47 l0 x12_1).f1), .bool ((rd_T47 l0 x12_1).f2), .int .i64 ((rd_T47 l0 x12_1).f3), .int .i64 ((rd_T47 l0 x12_1).f4), .int .i64 0, .slice none 0 0, .slice none 0 0]) ?_ 5 _ rfl; (with_reducible repeat (first | refine blk_drewN ?_ _ | refine blk_drew ?_ | refine blk_alloc ?_ _)); refine blk_put (cs := #[.int .i64 ((rd_T47 l0 x12_1).f0), .int .u8 ((rd_T47 l0 x12_1).f1), .bool ((rd_T47 l0 x12_1).f2), .int .i64 ((rd_T47 l0 x12_1).f3), .int .i64 0, .int .i64 0, .slice none 0 0, .slice none 0 0]) ?_ 4 _ rfl; (with_reducible repeat (first | refine blk_drewN ?_ _ | refine blk_drew ?_ | refine blk_alloc ?_ _)); refine blk_put (cs := #[.int .i64 ((rd_T47 l0 x12_1).f0), .int .u8 ((rd_T47 l0 x12_1).f1), .bool ((rd_T47 l0 x12_1).f2), .int .i64 0, .int .i64 0, .int .i64 0, .slice none 0 0, .slice none 0 0]) ?_ 3 _ rfl; (with_reducible repeat (first | refine blk_drewN ?_ _ | refine blk_drew ?_ | refine blk_alloc ?_ _)); refine blk_put (cs := #[.int .i64 ((rd_T47 l0 x12_1).f0), .int .u8 ((rd_T47 l0 x12_1).f1), .bool false, .int .i64 0, .int .i64 0, .int .i64 0, .slice none 0 0, .slice none 0 0]) ?_ 2 _ rfl; (with_reducible repeat (first | refine blk_drewN ?_ _ | refine blk_drew ?_ | refine blk_alloc ?_ _)); refine blk_put (cs := #[.int .i64 ((rd_T47 l0 x12_1).f0), .int .u8 0, .bool false, .int .i64 0, .int .i64 0, .int .i64 0, .slice none 0 0, .slice none 0 0]) ?_ 1 _ rfl; (with_reducible repeat (first | refine blk_drewN ?_ _ | refine blk_drew ?_ | refine blk_alloc ?_ _)); refine blk_put (cs := #[.int .i64 0, .int .u8 0, .bool false, .int .i64 0, .int .i64 0, .int .i64 0, .slice none 0 0, .slice none 0 0]) ?_ 0 _ rfl; (with_reducible repeat (first | refine blk_drewN ?_ _ | refine blk_drew ?_ | refine blk_alloc ?_ _)); exact BK224.out) hb); have n1_ := Aside0.mk (below_step (by repeat (first | (with_reducible first | exact HB.out | apply below_alloc | apply pw_below_drewN | apply below_drew1 | refine below_set ?_ GE224.out) | exact HB.out)) hb); clear BK224; clear HB; have BK224 := n0_; have HB := n1_; clear n0_ n1_; (try clear hb); (try clear hb2); (try clear hk); (try clear hi); have hcz25_0 : w24.cell? ⟨gb224, 0, none⟩ = some (.int .i64 ((rd_T47 l0 x12_1).f0)) := (blk_cell BK224.out 0).trans rfl; have hcz25_1 : w24.cell? ⟨gb224, 1, none⟩ = some (.int .u8 ((rd_T47 l0 x12_1).f1)) := (blk_cell BK224.out 1).trans rfl; have hcz25_2 : w24.cell? ⟨gb224, 2, none⟩ = some (.bool ((rd_T47 l0 x12_1).f2)) := (blk_cell BK224.out 2).trans rfl; have hcz25_3 : w24.cell? ⟨gb224, 3, none⟩ = some (.int .i64 ((rd_T47 l0 x12_1).f3)) := (blk_cell BK224.out 3).trans rfl; have hcz25_4 : w24.cell? ⟨gb224, 4, none⟩ = some (.int .i64 ((rd_T47 l0 x12_1).f4)) := (blk_cell BK224.out 4).trans rfl; have hcz25_5 : w24.cell? ⟨gb224, 5, none⟩ = some (.int .i64 ((rd_T47 l0 x12_1).f5)) := (blk_cell BK224.out 5).trans rfl; have hcz25_6 : w24.cell? ⟨gb224, 6, none⟩ = some (.slice A223_6 ((rd_T47 l0 x12_1).f6).length c223_6) := (blk_cell BK224.out 6).trans rfl; have hcz25_7 : w24.cell? ⟨gb224, 7, none⟩ = some (.slice A223_7 ((rd_T47 l0 x12_1).f7).length c223_7) := (blk_cell BK224.out 7).trans rfl; have hfz25_0 := blk_frozen BK224.out 0; have hfz25_1 := blk_frozen BK224.out 1; have hfz25_2 := blk_frozen BK224.out 2; have hfz25_3 := blk_frozen BK224.out 3; have hfz25_4 := blk_frozen BK224.out 4; have hfz25_5 := blk_frozen BK224.out 5; have hfz25_6 := blk_frozen BK224.out 6; have hfz25_7 := blk_frozen BK224.out 7)))
              go_ret2
              exact ⟨by first | rfl | (simp [errW_none, errW_some] <;> rfl) | (simp [*, errW_none, errW_some] <;> rfl), by repeat (first | (with_reducible first | exact HB.out | apply below_alloc | apply pw_below_drewN | apply below_drew1 | refine below_set ?_ GE224.out) | exact HB.out)⟩
          · rw [if_neg c6] at H
            exact absurd H (by simp)
        · rw [if_neg c5] at H
          exact absurd H (by simp)
      · rw [if_neg c4] at H
        have c4b0 : decide (x12_1 < (l0.length : Int)) = false := decide_eq_false c4
        clear c4
        simp only [Option.some.injEq, Prod.mk.injEq] at H
        obtain ⟨rfl, rfl⟩ := H
        go_wp2
        repeat (go_quiet (fail); try go_wp2)
        go_ret2
        exact ⟨by first | rfl | (simp [errW_none, errW_some] <;> rfl) | (simp [*, errW_none, errW_some] <;> rfl), by repeat (first | (with_reducible first | exact HB.out | apply below_alloc | apply pw_below_drewN | apply below_drew1) | exact HB.out)⟩
def jvmcorelaw2_sameInts.l0 : Nat → List Int → List Int → Int → Int → Option (Bool)
  | 0, _, _, _, _ => none
  | k + 1, x0, x1, x12, x13 => if x13 < x12 then (if 0 ≤ x13 then (if x13 < (x0.length : Int) then (if x13 < (x1.length : Int) then (if (rd x0 x13) = (rd x1 x13) then (jvmcorelaw2_sameInts.l0 k x0 x1 x12 (wrap64 (x13 + 1))) else (some false)) else (none)) else (none)) else (none)) else (some true)
def jvmcorelaw2_sameInts.f (k : Nat) (l0 : List Int) (l1 : List Int) : Option (Bool) := if (l0.length : Int) = (l1.length : Int) then (jvmcorelaw2_sameInts.l0 k l0 l1 (l0.length : Int) 0) else (some false)
theorem jvmcorelaw2_sameInts.mono_l : ∀ k, (∀ y0 y1 y2 y3, LeO (jvmcorelaw2_sameInts.l0 k y0 y1 y2 y3) (jvmcorelaw2_sameInts.l0 (k + 1) y0 y1 y2 y3))
  | 0 => fun _ _ _ _ r h => by simp [jvmcorelaw2_sameInts.l0] at h
  | k + 1 => by
    have ih0 := jvmcorelaw2_sameInts.mono_l k
    · intro y0 y1 y2 y3
      unfold jvmcorelaw2_sameInts.l0
      repeat' first
      | (with_reducible exact ih0 _ _ _ _)
      | (with_reducible exact LeO.refl _)
      | (with_reducible exact LeO.none _)
      | (with_reducible refine LeO.ite ?_ ?_)
      | (with_reducible refine LeO.bind ?_ (fun _ => ?_))
theorem jvmcorelaw2_sameInts.mono : ∀ a0 a1 k, LeO (jvmcorelaw2_sameInts.f k a0 a1) (jvmcorelaw2_sameInts.f (k + 1) a0 a1) := by
  intro a0 a1 k
  have ih0 := jvmcorelaw2_sameInts.mono_l k
  unfold jvmcorelaw2_sameInts.f
  repeat' first
      | (with_reducible exact ih0 _ _ _ _)
      | (with_reducible exact LeO.refl _)
      | (with_reducible exact LeO.none _)
      | (with_reducible refine LeO.ite ?_ ?_)
      | (with_reducible refine LeO.bind ?_ (fun _ => ?_))
set_option maxHeartbeats 8000000 in
set_option maxRecDepth 100000 in
theorem jvmcorelaw2_sameInts.calls (k : Nat) (A0 : Option Addr) (c0 : Nat) (l0 : List Int) (A1 : Option Addr) (c1 : Nat) (l1 : List Int) (r : Bool) (w : World) (hr0 : Kd.C (Kd.int .i64) w A0 l0.length l0) (hc0 : l0.length ≤ c0) (hr1 : Kd.C (Kd.int .i64) w A1 l1.length l1) (hc1 : l1.length ≤ c1) (h : jvmcorelaw2_sameInts.f k l0 l1 = some r) :
    Calls Tryd.prog 33 #[.slice A0 l0.length c0, .slice A1 l1.length c1] w fun e w' => e = .returned (.bool r) ∧ Drawn0 w w' := by
  have HR0 := Aside0.mk hr0
  have HC0 := Aside0.mk hc0
  clear hr0 hc0
  have HR1 := Aside0.mk hr1
  have HC1 := Aside0.mk hc1
  clear hr1 hc1
  have H : (if (l0.length : Int) = (l1.length : Int) then (jvmcorelaw2_sameInts.l0 k l0 l1 (l0.length : Int) 0) else (some false)) = some r := h
  clear h
  by_cases c3 : (l0.length : Int) = (l1.length : Int)
  · rw [if_pos c3] at H
    have c3b0 : ((l0.length : Int) == (l1.length : Int)) = true := beq_iff_eq.mpr c3
    have c3b1 : ((l0.length : Int) != (l1.length : Int)) = false := bne_eq_false_iff_eq.mpr c3
    have c3b2 : (l0.length == l1.length) = true := by first | simpa using c3 | (simp at c3 ⊢; omega)
    clear c3
    have H' := Aside0.mk H
    clear H
    go_enter Tryd.func33, Tryd.ntmps33
    go_wp2
    repeat (go_quiet (fail); try go_wp2)
    go_loopg [13] k (fun kq v13 w' => ∃ (x13_1 : Int), v13 = .int .i64 x13_1 ∧ Aside0 (jvmcorelaw2_sameInts.l0 kq l0 l1 (l0.length : Int) x13_1 = some r) ∧ Aside0 (kq ≤ k) ∧ Drawn0 w w')
    case atStart => exact ⟨(0), (by first | rfl | (simp; done) | (simp [*]; done)), H', ⟨Nat.le_refl _⟩, by repeat (first | exact Drawn0.refl _ | apply Drawn0.step)⟩
    case round =>
      clear H'
      try clear c1
      try clear p2
      try clear c3
      try clear c3b0
      try clear c3b1
      try clear c3b2
      obtain ⟨x13_1, rfl, HA, HK1, ⟨m1, rfl⟩⟩ := hrel
      cases gk with
      | zero => exact absurd HA.out (by simp [jvmcorelaw2_sameInts.l0])
      | succ k1 =>
        have H := HA.out
        clear HA
        simp only [jvmcorelaw2_sameInts.l0] at H
        by_cases c4 : x13_1 < (l0.length : Int)
        · rw [if_pos c4] at H
          have c4b0 : decide (x13_1 < (l0.length : Int)) = true := decide_eq_true c4
          clear c4
          by_cases c5 : 0 ≤ x13_1
          · rw [if_pos c5] at H
            have c5b0 : decide (0 ≤ x13_1) = true := decide_eq_true c5
            clear c5
            by_cases c6 : x13_1 < (l0.length : Int)
            · rw [if_pos c6] at H
              have c6b0 : decide (x13_1 < (l0.length : Int)) = true := decide_eq_true c6
              clear c6
              by_cases c7 : x13_1 < (l1.length : Int)
              · rw [if_pos c7] at H
                have c7b0 : decide (x13_1 < (l1.length : Int)) = true := decide_eq_true c7
                clear c7
                by_cases c8 : (rd l0 x13_1) = (rd l1 x13_1)
                · rw [if_pos c8] at H
                  have c8b0 : ((rd l0 x13_1) == (rd l1 x13_1)) = true := beq_iff_eq.mpr c8
                  have c8b1 : ((rd l0 x13_1) != (rd l1 x13_1)) = false := bne_eq_false_iff_eq.mpr c8
                  clear c8
                  have H' := Aside0.mk H
                  clear H
                  have p227 : 0 ≤ (x13_1 : Int) := of_decide_eq_true (by first | (with_reducible assumption) | assumption)
                  have q227 : x13_1 < (l0.length : Int) := of_decide_eq_true (by first | (with_reducible assumption) | assumption)
                  obtain ⟨ad227, e227, hx227_0⟩ := Kd.at_int HR0.out x13_1 p227 q227
                  cases e227
                  replace p227 := eq_true p227
                  replace q227 := eq_true q227
                  have p228 : 0 ≤ (x13_1 : Int) := of_decide_eq_true (by first | (with_reducible assumption) | assumption)
                  have q228 : x13_1 < (l1.length : Int) := of_decide_eq_true (by first | (with_reducible assumption) | assumption)
                  obtain ⟨ad228, e228, hx228_0⟩ := Kd.at_int HR1.out x13_1 p228 q228
                  cases e228
                  replace p228 := eq_true p228
                  replace q228 := eq_true q228
                  go_wp2
                  repeat (go_quiet (fail); try go_wp2)
                  go_roundg k1
                  case measure => have := HK1.out; omega
                  case rel => exact ⟨(wrap64 (x13_1 + 1)), (by first | rfl | (simp; done) | (simp [*]; done)), H', ⟨by have := HK1.out; omega⟩, by repeat (first | exact Drawn0.refl _ | apply Drawn0.step)⟩
                · rw [if_neg c8] at H
                  have c8b0 : ((rd l0 x13_1) == (rd l1 x13_1)) = false := beq_eq_false_iff_ne.mpr c8
                  have c8b1 : ((rd l0 x13_1) != (rd l1 x13_1)) = true := bne_iff_ne.mpr c8
                  obtain rfl := Option.some.inj H
                  have p227 : 0 ≤ (x13_1 : Int) := of_decide_eq_true (by first | (with_reducible assumption) | assumption)
                  have q227 : x13_1 < (l0.length : Int) := of_decide_eq_true (by first | (with_reducible assumption) | assumption)
                  obtain ⟨ad227, e227, hx227_0⟩ := Kd.at_int HR0.out x13_1 p227 q227
                  cases e227
                  replace p227 := eq_true p227
                  replace q227 := eq_true q227
                  have p228 : 0 ≤ (x13_1 : Int) := of_decide_eq_true (by first | (with_reducible assumption) | assumption)
                  have q228 : x13_1 < (l1.length : Int) := of_decide_eq_true (by first | (with_reducible assumption) | assumption)
                  obtain ⟨ad228, e228, hx228_0⟩ := Kd.at_int HR1.out x13_1 p228 q228
                  cases e228
                  replace p228 := eq_true p228
                  replace q228 := eq_true q228
                  go_wp2
                  repeat (go_quiet (fail); try go_wp2)
                  go_ret
                  exact ⟨by first | rfl | (simp; done) | (simp [*]; done), by repeat (first | exact Drawn0.refl _ | apply Drawn0.step)⟩
              · rw [if_neg c7] at H
                exact absurd H (by simp)
            · rw [if_neg c6] at H
              exact absurd H (by simp)
          · rw [if_neg c5] at H
            exact absurd H (by simp)
        · rw [if_neg c4] at H
          have c4b0 : decide (x13_1 < (l0.length : Int)) = false := decide_eq_false c4
          clear c4
          obtain rfl := Option.some.inj H
          go_wp2
          repeat (go_quiet (fail); try go_wp2)
          go_ret
          exact ⟨by first | rfl | (simp; done) | (simp [*]; done), by repeat (first | exact Drawn0.refl _ | apply Drawn0.step)⟩
  · rw [if_neg c3] at H
    have c3b0 : ((l0.length : Int) == (l1.length : Int)) = false := beq_eq_false_iff_ne.mpr c3
    have c3b1 : ((l0.length : Int) != (l1.length : Int)) = true := bne_iff_ne.mpr c3
    have c3b2 : (l0.length == l1.length) = false := by first | simpa using c3 | (simp at c3 ⊢; omega)
    obtain rfl := Option.some.inj H
    go_enter Tryd.func33, Tryd.ntmps33
    go_wp2
    repeat (go_quiet (fail); try go_wp2)
    go_ret
    exact ⟨by first | rfl | (simp; done) | (simp [*]; done), by repeat (first | exact Drawn0.refl _ | apply Drawn0.step)⟩
end Go.Proofs.YtfnjbmpolggdeaaDoor.CC
end
section
namespace Go.Proofs.YtfnjbmpolggdeaaDoor.CC
open Go.RowKit Go.Proofs.YtfnjbmpolggdeaaDoorW.PrintWords Go.Proofs.YtfnjbmpolggdeaaDoorW.PrintLast Go.Proofs.YtfnjbmpolggdeaaDoorW.PrintMore
attribute [local go_sem] max2_int min2_int max_two min_two max_three min_three max_four min_four   -- for this text's walks alone
set_option linter.unusedVariables false
set_option linter.unusedSimpArgs false
def jvmcorelaw2_same.l0 : Nat → List (S47) → List (S47) → Int → Int → Option (Bool)
  | 0, _, _, _, _ => none
  | k + 1, x0, x1, x14, x15 => if x15 < x14 then (if 0 ≤ x15 then (if x15 < (x0.length : Int) then (if x15 < (x1.length : Int) then (if ((rd_T47 x0 x15).f0) = ((rd_T47 x1 x15).f0) then (if ((rd_T47 x0 x15).f1) = ((rd_T47 x1 x15).f1) then (if (((rd_T47 x0 x15).f2) != ((rd_T47 x1 x15).f2)) = true then (some false) else (if ((rd_T47 x0 x15).f3) = ((rd_T47 x1 x15).f3) then (if ((rd_T47 x0 x15).f4) = ((rd_T47 x1 x15).f4) then (if ((rd_T47 x0 x15).f5) = ((rd_T47 x1 x15).f5) then ((jvmcorelaw2_sameInts.f k ((rd_T47 x0 x15).f6) ((rd_T47 x1 x15).f6)).bind fun t224 => (if t224 = true then ((jvmcorelaw2_sameInts.f k ((rd_T47 x0 x15).f7) ((rd_T47 x1 x15).f7)).bind fun t225 => (if t225 = true then (jvmcorelaw2_same.l0 k x0 x1 x14 (wrap64 (x15 + 1))) else (some false))) else (some false))) else (some false)) else (some false)) else (some false))) else (some false)) else (some false)) else (none)) else (none)) else (none)) else (some true)
def jvmcorelaw2_same.g (k : Nat) (l0 : List (S47)) (l1 : List (S47)) : Option (Bool) := if (l0.length : Int) = (l1.length : Int) then (jvmcorelaw2_same.l0 k l0 l1 (l0.length : Int) 0) else (some false)
theorem jvmcorelaw2_same.mono_l : ∀ k, (∀ y0 y1 y2 y3, LeO (jvmcorelaw2_same.l0 k y0 y1 y2 y3) (jvmcorelaw2_same.l0 (k + 1) y0 y1 y2 y3))
  | 0 => fun _ _ _ _ r h => by simp [jvmcorelaw2_same.l0] at h
  | k + 1 => by
    have ih0 := jvmcorelaw2_same.mono_l k
    · intro y0 y1 y2 y3
      unfold jvmcorelaw2_same.l0
      repeat' first
      | (with_reducible exact ih0 _ _ _ _)
      | (with_reducible exact jvmcorelaw2_sameInts.mono _ _ _)
      | (with_reducible exact LeO.refl _)
      | (with_reducible exact LeO.none _)
      | (with_reducible refine LeO.ite ?_ ?_)
      | (with_reducible refine LeO.bind ?_ (fun _ => ?_))
      | exact ih0 _ _ _ _
      | exact jvmcorelaw2_sameInts.mono _ _ _
      | exact LeO.none _
      | refine LeO.ite ?_ ?_
      | refine LeO.bind ?_ (fun _ => ?_)
theorem jvmcorelaw2_same.monog : ∀ a0 a1 k, LeO (jvmcorelaw2_same.g k a0 a1) (jvmcorelaw2_same.g (k + 1) a0 a1) := by
  intro a0 a1 k
  have ih0 := jvmcorelaw2_same.mono_l k
  unfold jvmcorelaw2_same.g
  repeat' first
      | (with_reducible exact ih0 _ _ _ _)
      | (with_reducible exact jvmcorelaw2_sameInts.mono _ _ _)
      | (with_reducible exact LeO.refl _)
      | (with_reducible exact LeO.none _)
      | (with_reducible refine LeO.ite ?_ ?_)
      | (with_reducible refine LeO.bind ?_ (fun _ => ?_))
      | exact ih0 _ _ _ _
      | exact jvmcorelaw2_sameInts.mono _ _ _
      | exact LeO.none _
      | refine LeO.ite ?_ ?_
      | refine LeO.bind ?_ (fun _ => ?_)
set_option maxHeartbeats 8000000 in
set_option maxRecDepth 100000 in
theorem jvmcorelaw2_same.callsT (k : Nat) (A0 : Option Addr) (c0 : Nat) (l0 : List (S47)) (A1 : Option Addr) (c1 : Nat) (l1 : List (S47)) (w : World) (hr0 : Kd.C k47 w A0 l0.length l0) (hc0 : l0.length ≤ c0) (hr1 : Kd.C k47 w A1 l1.length l1) (hc1 : l1.length ≤ c1) (h : jvmcorelaw2_same.g k l0 l1 = some true) :
    Calls Tryd.prog 20 #[.slice A0 l0.length c0, .slice A1 l1.length c1] w fun e w' => e = .returned (.bool true) ∧ Below w.heap.size w w' := by
  have hu47 := Tryd.underlying47
  have HR0 := Aside0.mk hr0
  have HC0 := Aside0.mk hc0
  clear hr0 hc0
  have HR1 := Aside0.mk hr1
  have HC1 := Aside0.mk hc1
  clear hr1 hc1
  have HB := Aside0.mk (Below.refl w.heap.size w)
  have H : (if (l0.length : Int) = (l1.length : Int) then (jvmcorelaw2_same.l0 k l0 l1 (l0.length : Int) 0) else (some false)) = some true := h
  clear h
  by_cases c3 : (l0.length : Int) = (l1.length : Int)
  · rw [if_pos c3] at H
    have c3b0 : ((l0.length : Int) == (l1.length : Int)) = true := beq_iff_eq.mpr c3
    have c3b1 : ((l0.length : Int) != (l1.length : Int)) = false := bne_eq_false_iff_eq.mpr c3
    have c3b2 : (l0.length == l1.length) = true := by first | simpa using c3 | (simp at c3 ⊢; omega)
    clear c3
    have H' := Aside0.mk H
    clear H
    go_enter Tryd.func20, Tryd.ntmps20
    go_wp2
    go_loopg [15] k (fun kq v15 w' => ∃ (x15_1 : Int), v15 = .int .i64 x15_1 ∧ Aside0 (jvmcorelaw2_same.l0 kq l0 l1 (l0.length : Int) x15_1 = some true) ∧ Aside0 (kq ≤ k) ∧ Aside0 (Below w.heap.size w w'))
    case atStart => exact ⟨(0), (by first | rfl | (simp; done) | (simp [*]; done)), H', ⟨Nat.le_refl _⟩, ⟨by repeat (first | (with_reducible first | exact HB.out | apply below_alloc | apply pw_below_drewN | apply below_drew1) | exact HB.out)⟩⟩
    case round =>
      clear H'
      try clear c1
      try clear c2
      try clear p2
      try clear c3
      try clear c3b0
      try clear c3b1
      try clear c3b2
      obtain ⟨x15_1, rfl, HA, HK1, HB⟩ := hrel
      cases gk with
      | zero => exact absurd HA.out (by simp [jvmcorelaw2_same.l0])
      | succ k1 =>
        have H := HA.out
        clear HA
        simp only [jvmcorelaw2_same.l0] at H
        by_cases c4 : x15_1 < (l0.length : Int)
        · rw [if_pos c4] at H
          have c4b0 : decide (x15_1 < (l0.length : Int)) = true := decide_eq_true c4
          clear c4
          by_cases c5 : 0 ≤ x15_1
          · rw [if_pos c5] at H
            have c5b0 : decide (0 ≤ x15_1) = true := decide_eq_true c5
            clear c5
            by_cases c6 : x15_1 < (l0.length : Int)
            · rw [if_pos c6] at H
              have c6b0 : decide (x15_1 < (l0.length : Int)) = true := decide_eq_true c6
              clear c6
              by_cases c7 : x15_1 < (l1.length : Int)
              · rw [if_pos c7] at H
                have c7b0 : decide (x15_1 < (l1.length : Int)) = true := decide_eq_true c7
                clear c7
                by_cases c8 : ((rd_T47 l0 x15_1).f0) = ((rd_T47 l1 x15_1).f0)
                · rw [if_pos c8] at H
                  have c8b0 : (((rd_T47 l0 x15_1).f0) == ((rd_T47 l1 x15_1).f0)) = true := beq_iff_eq.mpr c8
                  have c8b1 : (((rd_T47 l0 x15_1).f0) != ((rd_T47 l1 x15_1).f0)) = false := bne_eq_false_iff_eq.mpr c8
                  clear c8
                  by_cases c9 : ((rd_T47 l0 x15_1).f1) = ((rd_T47 l1 x15_1).f1)
                  · rw [if_pos c9] at H
                    have c9b0 : (((rd_T47 l0 x15_1).f1) == ((rd_T47 l1 x15_1).f1)) = true := beq_iff_eq.mpr c9
                    have c9b1 : (((rd_T47 l0 x15_1).f1) != ((rd_T47 l1 x15_1).f1)) = false := bne_eq_false_iff_eq.mpr c9
                    clear c9
                    by_cases c10 : (((rd_T47 l0 x15_1).f2) != ((rd_T47 l1 x15_1).f2)) = true
                    · rw [if_pos c10] at H
                      have c10b0 : (((rd_T47 l0 x15_1).f2) != ((rd_T47 l1 x15_1).f2)) = true := c10
                      (try (have c10b1 : decide (((rd_T47 l0 x15_1).f2) = ((rd_T47 l1 x15_1).f2)) = false := by simpa using c10))
                      (try (have c10b2 : (((rd_T47 l0 x15_1).f2) == ((rd_T47 l1 x15_1).f2)) = false := by simpa using c10))
                      (try (have c10b3 : ¬ (((rd_T47 l0 x15_1).f2) = ((rd_T47 l1 x15_1).f2)) := by simpa using c10))
                      clear c10
                      exact absurd H (by simp)
                    · rw [if_neg c10] at H
                      have c10b0 : (((rd_T47 l0 x15_1).f2) != ((rd_T47 l1 x15_1).f2)) = false := by simpa using c10
                      (try (have c10b1 : decide (((rd_T47 l0 x15_1).f2) = ((rd_T47 l1 x15_1).f2)) = true := by simpa using c10))
                      (try (have c10b2 : (((rd_T47 l0 x15_1).f2) == ((rd_T47 l1 x15_1).f2)) = true := by simpa using c10))
                      clear c10
                      by_cases c17 : ((rd_T47 l0 x15_1).f3) = ((rd_T47 l1 x15_1).f3)
                      · rw [if_pos c17] at H
                        have c17b0 : (((rd_T47 l0 x15_1).f3) == ((rd_T47 l1 x15_1).f3)) = true := beq_iff_eq.mpr c17
                        have c17b1 : (((rd_T47 l0 x15_1).f3) != ((rd_T47 l1 x15_1).f3)) = false := bne_eq_false_iff_eq.mpr c17
                        clear c17
                        by_cases c18 : ((rd_T47 l0 x15_1).f4) = ((rd_T47 l1 x15_1).f4)
                        · rw [if_pos c18] at H
                          have c18b0 : (((rd_T47 l0 x15_1).f4) == ((rd_T47 l1 x15_1).f4)) = true := beq_iff_eq.mpr c18
                          have c18b1 : (((rd_T47 l0 x15_1).f4) != ((rd_T47 l1 x15_1).f4)) = false := bne_eq_false_iff_eq.mpr c18
                          clear c18
                          by_cases c19 : ((rd_T47 l0 x15_1).f5) = ((rd_T47 l1 x15_1).f5)
                          · rw [if_pos c19] at H
                            have c19b0 : (((rd_T47 l0 x15_1).f5) == ((rd_T47 l1 x15_1).f5)) = true := beq_iff_eq.mpr c19
                            have c19b1 : (((rd_T47 l0 x15_1).f5) != ((rd_T47 l1 x15_1).f5)) = false := bne_eq_false_iff_eq.mpr c19
                            clear c19
                            replace H := Option.bind_eq_some_iff.mp H
                            obtain ⟨t224, A200, H⟩ := H
                            replace H : (if t224 = true then ((jvmcorelaw2_sameInts.f k1 ((rd_T47 l0 x15_1).f7) ((rd_T47 l1 x15_1).f7)).bind fun t225 => (if t225 = true then (jvmcorelaw2_same.l0 k1 l0 l1 (l0.length : Int) (wrap64 (x15_1 + 1))) else (some false))) else (some false)) = some true := H
                            have A20 := Aside0.mk A200
                            clear A200
                            by_cases c21 : t224 = true
                            · subst c21
                              have H1 : ((jvmcorelaw2_sameInts.f k1 ((rd_T47 l0 x15_1).f7) ((rd_T47 l1 x15_1).f7)).bind fun t225 => (if t225 = true then (jvmcorelaw2_same.l0 k1 l0 l1 (l0.length : Int) (wrap64 (x15_1 + 1))) else (some false))) = some true := by rw [if_pos rfl] at H; exact H
                              clear H
                              have H := H1
                              clear H1
                              replace H := Option.bind_eq_some_iff.mp H
                              obtain ⟨t225, A220, H⟩ := H
                              replace H : (if t225 = true then (jvmcorelaw2_same.l0 k1 l0 l1 (l0.length : Int) (wrap64 (x15_1 + 1))) else (some false)) = some true := H
                              have A22 := Aside0.mk A220
                              clear A220
                              by_cases c23 : t225 = true
                              · subst c23
                                have H1 : (jvmcorelaw2_same.l0 k1 l0 l1 (l0.length : Int) (wrap64 (x15_1 + 1))) = some true := by rw [if_pos rfl] at H; exact H
                                clear H
                                have H := H1
                                clear H1
                                have H' := Aside0.mk H
                                clear H
                                have p220 : 0 ≤ (x15_1 : Int) := of_decide_eq_true (by first | (with_reducible assumption) | assumption)
                                have q220 : x15_1 < (l0.length : Int) := of_decide_eq_true (by first | (with_reducible assumption) | assumption)
                                obtain ⟨ad220, A220_6, c220_6, A220_7, c220_7, e220, hx220_0, hx220_1, hx220_2, hx220_3, hx220_4, hx220_5, hx220_6, hx220_7, hl220_6, hi220_6, hl220_7, hi220_7⟩ := at_T47 HR0.out x15_1 p220 q220
                                cases e220
                                replace hx220_0 := (HB.out.cell (World.block_lt_of_cell? w _ hx220_0)).trans hx220_0
                                replace hx220_1 := (HB.out.cell (World.block_lt_of_cell? w _ hx220_1)).trans hx220_1
                                replace hx220_2 := (HB.out.cell (World.block_lt_of_cell? w _ hx220_2)).trans hx220_2
                                replace hx220_3 := (HB.out.cell (World.block_lt_of_cell? w _ hx220_3)).trans hx220_3
                                replace hx220_4 := (HB.out.cell (World.block_lt_of_cell? w _ hx220_4)).trans hx220_4
                                replace hx220_5 := (HB.out.cell (World.block_lt_of_cell? w _ hx220_5)).trans hx220_5
                                replace hx220_6 := (HB.out.cell (World.block_lt_of_cell? w _ hx220_6)).trans hx220_6
                                replace hx220_7 := (HB.out.cell (World.block_lt_of_cell? w _ hx220_7)).trans hx220_7
                                have HR220_6 := Aside0.mk hi220_6
                                have HC220_6 := Aside0.mk hl220_6
                                clear hi220_6 hl220_6
                                have HR220_7 := Aside0.mk hi220_7
                                have HC220_7 := Aside0.mk hl220_7
                                clear hi220_7 hl220_7
                                replace p220 := eq_true p220
                                replace q220 := eq_true q220
                                go_wp2_with (first | ((with_reducible refine gate_dst (N := 6) rfl ?_); refine box_event ?hg (N := 6) ?hd (cs := #[.int .i64 0, .int .u8 0, .bool false, .int .i64 0, .int .i64 0, .int .i64 0, .slice none 0 0, .slice none 0 0]) (t := 47) ?hr ?_; (case hd => rfl); (case hg => rfl); (case hr => first | (go_simp; done) | (go_simp; rfl)); intro gb221 hg w24 hbox hb; have n0_ := Aside0.mk (below_step (by repeat (first | (with_reducible first | exact HB.out | apply below_alloc | apply pw_below_drewN | apply below_drew1) | exact HB.out)) hb); have n1_ := Aside0.mk (hbox); have n2_ := Aside0.mk ((by rw [hg]; exact (below_size (by repeat (first | (with_reducible first | exact HB.out | apply below_alloc | apply pw_below_drewN | apply below_drew1) | exact HB.out))) : w.heap.size ≤ gb221)); have n3_ := Aside0.mk ((by rw [hg]; exact (below_size (by repeat (first | (with_reducible first | exact HB.out | apply below_alloc | apply pw_below_drewN | apply below_drew1) | exact HB.out))) : w.heap.size ≤ gb221)); clear HB; have HB := n0_; have BK221 := n1_; have GW221 := n2_; have GE221 := n3_; clear n0_ n1_ n2_ n3_; clear hb hbox hg; have hcz25_0 : w24.cell? ⟨gb221, 0, none⟩ = some (.int .i64 0) := (blk_cell BK221.out 0).trans rfl; have hcz25_1 : w24.cell? ⟨gb221, 1, none⟩ = some (.int .u8 0) := (blk_cell BK221.out 1).trans rfl; have hcz25_2 : w24.cell? ⟨gb221, 2, none⟩ = some (.bool false) := (blk_cell BK221.out 2).trans rfl; have hcz25_3 : w24.cell? ⟨gb221, 3, none⟩ = some (.int .i64 0) := (blk_cell BK221.out 3).trans rfl; have hcz25_4 : w24.cell? ⟨gb221, 4, none⟩ = some (.int .i64 0) := (blk_cell BK221.out 4).trans rfl; have hcz25_5 : w24.cell? ⟨gb221, 5, none⟩ = some (.int .i64 0) := (blk_cell BK221.out 5).trans rfl; have hcz25_6 : w24.cell? ⟨gb221, 6, none⟩ = some (.slice none 0 0) := (blk_cell BK221.out 6).trans rfl; have hcz25_7 : w24.cell? ⟨gb221, 7, none⟩ = some (.slice none 0 0) := (blk_cell BK221.out 7).trans rfl; have hfz25_0 := blk_frozen BK221.out 0; have hfz25_1 := blk_frozen BK221.out 1; have hfz25_2 := blk_frozen BK221.out 2; have hfz25_3 := blk_frozen BK221.out 3; have hfz25_4 := blk_frozen BK221.out 4; have hfz25_5 := blk_frozen BK221.out 5; have hfz25_6 := blk_frozen BK221.out 6; have hfz25_7 := blk_frozen BK221.out 7; have p222 : 0 ≤ (x15_1 : Int) := of_decide_eq_true (by first | (with_reducible assumption) | assumption); have q222 : x15_1 < (l1.length : Int) := of_decide_eq_true (by first | (with_reducible assumption) | assumption); obtain ⟨ad222, A222_6, c222_6, A222_7, c222_7, e222, hx222_0, hx222_1, hx222_2, hx222_3, hx222_4, hx222_5, hx222_6, hx222_7, hl222_6, hi222_6, hl222_7, hi222_7⟩ := at_T47 HR1.out x15_1 p222 q222; cases e222; have hn222_0 : ad222.block ≠ gb221 := Nat.ne_of_lt (Nat.lt_of_lt_of_le (by have := World.block_lt_of_cell? _ _ hx222_0; first | rwa [add_block] at this | exact this) GW221.out); have hn222_1 : ad222.block ≠ gb221 := Nat.ne_of_lt (Nat.lt_of_lt_of_le (by have := World.block_lt_of_cell? _ _ hx222_0; first | rwa [add_block] at this | exact this) GW221.out); have hn222_2 : ad222.block ≠ gb221 := Nat.ne_of_lt (Nat.lt_of_lt_of_le (by have := World.block_lt_of_cell? _ _ hx222_0; first | rwa [add_block] at this | exact this) GW221.out); have hn222_3 : ad222.block ≠ gb221 := Nat.ne_of_lt (Nat.lt_of_lt_of_le (by have := World.block_lt_of_cell? _ _ hx222_0; first | rwa [add_block] at this | exact this) GW221.out); have hn222_4 : ad222.block ≠ gb221 := Nat.ne_of_lt (Nat.lt_of_lt_of_le (by have := World.block_lt_of_cell? _ _ hx222_0; first | rwa [add_block] at this | exact this) GW221.out); have hn222_5 : ad222.block ≠ gb221 := Nat.ne_of_lt (Nat.lt_of_lt_of_le (by have := World.block_lt_of_cell? _ _ hx222_0; first | rwa [add_block] at this | exact this) GW221.out); have hn222_6 : ad222.block ≠ gb221 := Nat.ne_of_lt (Nat.lt_of_lt_of_le (by have := World.block_lt_of_cell? _ _ hx222_0; first | rwa [add_block] at this | exact this) GW221.out); have hn222_7 : ad222.block ≠ gb221 := Nat.ne_of_lt (Nat.lt_of_lt_of_le (by have := World.block_lt_of_cell? _ _ hx222_0; first | rwa [add_block] at this | exact this) GW221.out); replace hx222_0 := (HB.out.cell (World.block_lt_of_cell? w _ hx222_0)).trans hx222_0; replace hx222_1 := (HB.out.cell (World.block_lt_of_cell? w _ hx222_1)).trans hx222_1; replace hx222_2 := (HB.out.cell (World.block_lt_of_cell? w _ hx222_2)).trans hx222_2; replace hx222_3 := (HB.out.cell (World.block_lt_of_cell? w _ hx222_3)).trans hx222_3; replace hx222_4 := (HB.out.cell (World.block_lt_of_cell? w _ hx222_4)).trans hx222_4; replace hx222_5 := (HB.out.cell (World.block_lt_of_cell? w _ hx222_5)).trans hx222_5; replace hx222_6 := (HB.out.cell (World.block_lt_of_cell? w _ hx222_6)).trans hx222_6; replace hx222_7 := (HB.out.cell (World.block_lt_of_cell? w _ hx222_7)).trans hx222_7; have HR222_6 := Aside0.mk hi222_6; have HC222_6 := Aside0.mk hl222_6; clear hi222_6 hl222_6; have HR222_7 := Aside0.mk hi222_7; have HC222_7 := Aside0.mk hl222_7; clear hi222_7 hl222_7; replace hx222_0 := (cell_far (p := ⟨gb221, 0, none⟩) (by first | (rw [add_block]; exact hn222_0) | (show (Addr.add _ _).block ≠ _; rw [add_block]; exact hn222_0) | exact hn222_0) (.int .i64 ((rd_T47 l0 x15_1).f0))).trans hx222_0; replace hx222_1 := (cell_far (p := ⟨gb221, 0, none⟩) (by first | (rw [add_block]; exact hn222_0) | (show (Addr.add _ _).block ≠ _; rw [add_block]; exact hn222_0) | exact hn222_0) (.int .i64 ((rd_T47 l0 x15_1).f0))).trans hx222_1; replace hx222_2 := (cell_far (p := ⟨gb221, 0, none⟩) (by first | (rw [add_block]; exact hn222_0) | (show (Addr.add _ _).block ≠ _; rw [add_block]; exact hn222_0) | exact hn222_0) (.int .i64 ((rd_T47 l0 x15_1).f0))).trans hx222_2; replace hx222_3 := (cell_far (p := ⟨gb221, 0, none⟩) (by first | (rw [add_block]; exact hn222_0) | (show (Addr.add _ _).block ≠ _; rw [add_block]; exact hn222_0) | exact hn222_0) (.int .i64 ((rd_T47 l0 x15_1).f0))).trans hx222_3; replace hx222_4 := (cell_far (p := ⟨gb221, 0, none⟩) (by first | (rw [add_block]; exact hn222_0) | (show (Addr.add _ _).block ≠ _; rw [add_block]; exact hn222_0) | exact hn222_0) (.int .i64 ((rd_T47 l0 x15_1).f0))).trans hx222_4; replace hx222_5 := (cell_far (p := ⟨gb221, 0, none⟩) (by first | (rw [add_block]; exact hn222_0) | (show (Addr.add _ _).block ≠ _; rw [add_block]; exact hn222_0) | exact hn222_0) (.int .i64 ((rd_T47 l0 x15_1).f0))).trans hx222_5; replace hx222_6 := (cell_far (p := ⟨gb221, 0, none⟩) (by first | (rw [add_block]; exact hn222_0) | (show (Addr.add _ _).block ≠ _; rw [add_block]; exact hn222_0) | exact hn222_0) (.int .i64 ((rd_T47 l0 x15_1).f0))).trans hx222_6; replace hx222_7 := (cell_far (p := ⟨gb221, 0, none⟩) (by first | (rw [add_block]; exact hn222_0) | (show (Addr.add _ _).block ≠ _; rw [add_block]; exact hn222_0) | exact hn222_0) (.int .i64 ((rd_T47 l0 x15_1).f0))).trans hx222_7; replace hx222_0 := (cell_far (p := ⟨gb221, 1, none⟩) (by first | (rw [add_block]; exact hn222_1) | (show (Addr.add _ _).block ≠ _; rw [add_block]; exact hn222_1) | exact hn222_1) (.int .u8 ((rd_T47 l0 x15_1).f1))).trans hx222_0; replace hx222_1 := (cell_far (p := ⟨gb221, 1, none⟩) (by first | (rw [add_block]; exact hn222_1) | (show (Addr.add _ _).block ≠ _; rw [add_block]; exact hn222_1) | exact hn222_1) (.int .u8 ((rd_T47 l0 x15_1).f1))).trans hx222_1; replace hx222_2 := (cell_far (p := ⟨gb221, 1, none⟩) (by first | (rw [add_block]; exact hn222_1) | (show (Addr.add _ _).block ≠ _; rw [add_block]; exact hn222_1) | exact hn222_1) (.int .u8 ((rd_T47 l0 x15_1).f1))).trans hx222_2; replace hx222_3 := (cell_far (p := ⟨gb221, 1, none⟩) (by first | (rw [add_block]; exact hn222_1) | (show (Addr.add _ _).block ≠ _; rw [add_block]; exact hn222_1) | exact hn222_1) (.int .u8 ((rd_T47 l0 x15_1).f1))).trans hx222_3; replace hx222_4 := (cell_far (p := ⟨gb221, 1, none⟩) (by first | (rw [add_block]; exact hn222_1) | (show (Addr.add _ _).block ≠ _; rw [add_block]; exact hn222_1) | exact hn222_1) (.int .u8 ((rd_T47 l0 x15_1).f1))).trans hx222_4; replace hx222_5 := (cell_far (p := ⟨gb221, 1, none⟩) (by first | (rw [add_block]; exact hn222_1) | (show (Addr.add _ _).block ≠ _; rw [add_block]; exact hn222_1) | exact hn222_1) (.int .u8 ((rd_T47 l0 x15_1).f1))).trans hx222_5; replace hx222_6 := (cell_far (p := ⟨gb221, 1, none⟩) (by first | (rw [add_block]; exact hn222_1) | (show (Addr.add _ _).block ≠ _; rw [add_block]; exact hn222_1) | exact hn222_1) (.int .u8 ((rd_T47 l0 x15_1).f1))).trans hx222_6; replace hx222_7 := (cell_far (p := ⟨gb221, 1, none⟩) (by first | (rw [add_block]; exact hn222_1) | (show (Addr.add _ _).block ≠ _; rw [add_block]; exact hn222_1) | exact hn222_1) (.int .u8 ((rd_T47 l0 x15_1).f1))).trans hx222_7; replace hx222_0 := (cell_far (p := ⟨gb221, 2, none⟩) (by first | (rw [add_block]; exact hn222_2) | (show (Addr.add _ _).block ≠ _; rw [add_block]; exact hn222_2) | exact hn222_2) (.bool ((rd_T47 l0 x15_1).f2))).trans hx222_0; replace hx222_1 := (cell_far (p := ⟨gb221, 2, none⟩) (by first | (rw [add_block]; exact hn222_2) | (show (Addr.add _ _).block ≠ _; rw [add_block]; exact hn222_2) | exact hn222_2) (.bool ((rd_T47 l0 x15_1).f2))).trans hx222_1; replace hx222_2 := (cell_far (p := ⟨gb221, 2, none⟩) (by first | (rw [add_block]; exact hn222_2) | (show (Addr.add _ _).block ≠ _; rw [add_block]; exact hn222_2) | exact hn222_2) (.bool ((rd_T47 l0 x15_1).f2))).trans hx222_2; replace hx222_3 := (cell_far (p := ⟨gb221, 2, none⟩) (by first | (rw [add_block]; exact hn222_2) | (show (Addr.add _ _).block ≠ _; rw [add_block]; exact hn222_2) | exact hn222_2) (.bool ((rd_T47 l0 x15_1).f2))).trans hx222_3; replace hx222_4 := (cell_far (p := ⟨gb221, 2, none⟩) (by first | (rw [add_block]; exact hn222_2) | (show (Addr.add _ _).block ≠ _; rw [add_block]; exact hn222_2) | exact hn222_2) (.bool ((rd_T47 l0 x15_1).f2))).trans hx222_4; replace hx222_5 := (cell_far (p := ⟨gb221, 2, none⟩) (by first | (rw [add_block]; exact hn222_2) | (show (Addr.add _ _).block ≠ _; rw [add_block]; exact hn222_2) | exact hn222_2) (.bool ((rd_T47 l0 x15_1).f2))).trans hx222_5; replace hx222_6 := (cell_far (p := ⟨gb221, 2, none⟩) (by first | (rw [add_block]; exact hn222_2) | (show (Addr.add _ _).block ≠ _; rw [add_block]; exact hn222_2) | exact hn222_2) (.bool ((rd_T47 l0 x15_1).f2))).trans hx222_6; replace hx222_7 := (cell_far (p := ⟨gb221, 2, none⟩) (by first | (rw [add_block]; exact hn222_2) | (show (Addr.add _ _).block ≠ _; rw [add_block]; exact hn222_2) | exact hn222_2) (.bool ((rd_T47 l0 x15_1).f2))).trans hx222_7; replace hx222_0 := (cell_far (p := ⟨gb221, 3, none⟩) (by first | (rw [add_block]; exact hn222_3) | (show (Addr.add _ _).block ≠ _; rw [add_block]; exact hn222_3) | exact hn222_3) (.int .i64 ((rd_T47 l0 x15_1).f3))).trans hx222_0; replace hx222_1 := (cell_far (p := ⟨gb221, 3, none⟩) (by first | (rw [add_block]; exact hn222_3) | (show (Addr.add _ _).block ≠ _; rw [add_block]; exact hn222_3) | exact hn222_3) (.int .i64 ((rd_T47 l0 x15_1).f3))).trans hx222_1; replace hx222_2 := (cell_far (p := ⟨gb221, 3, none⟩) (by first | (rw [add_block]; exact hn222_3) | (show (Addr.add _ _).block ≠ _; rw [add_block]; exact hn222_3) | exact hn222_3) (.int .i64 ((rd_T47 l0 x15_1).f3))).trans hx222_2; replace hx222_3 := (cell_far (p := ⟨gb221, 3, none⟩) (by first | (rw [add_block]; exact hn222_3) | (show (Addr.add _ _).block ≠ _; rw [add_block]; exact hn222_3) | exact hn222_3) (.int .i64 ((rd_T47 l0 x15_1).f3))).trans hx222_3; replace hx222_4 := (cell_far (p := ⟨gb221, 3, none⟩) (by first | (rw [add_block]; exact hn222_3) | (show (Addr.add _ _).block ≠ _; rw [add_block]; exact hn222_3) | exact hn222_3) (.int .i64 ((rd_T47 l0 x15_1).f3))).trans hx222_4; replace hx222_5 := (cell_far (p := ⟨gb221, 3, none⟩) (by first | (rw [add_block]; exact hn222_3) | (show (Addr.add _ _).block ≠ _; rw [add_block]; exact hn222_3) | exact hn222_3) (.int .i64 ((rd_T47 l0 x15_1).f3))).trans hx222_5; replace hx222_6 := (cell_far (p := ⟨gb221, 3, none⟩) (by first | (rw [add_block]; exact hn222_3) | (show (Addr.add _ _).block ≠ _; rw [add_block]; exact hn222_3) | exact hn222_3) (.int .i64 ((rd_T47 l0 x15_1).f3))).trans hx222_6; replace hx222_7 := (cell_far (p := ⟨gb221, 3, none⟩) (by first | (rw [add_block]; exact hn222_3) | (show (Addr.add _ _).block ≠ _; rw [add_block]; exact hn222_3) | exact hn222_3) (.int .i64 ((rd_T47 l0 x15_1).f3))).trans hx222_7; replace hx222_0 := (cell_far (p := ⟨gb221, 4, none⟩) (by first | (rw [add_block]; exact hn222_4) | (show (Addr.add _ _).block ≠ _; rw [add_block]; exact hn222_4) | exact hn222_4) (.int .i64 ((rd_T47 l0 x15_1).f4))).trans hx222_0; replace hx222_1 := (cell_far (p := ⟨gb221, 4, none⟩) (by first | (rw [add_block]; exact hn222_4) | (show (Addr.add _ _).block ≠ _; rw [add_block]; exact hn222_4) | exact hn222_4) (.int .i64 ((rd_T47 l0 x15_1).f4))).trans hx222_1; replace hx222_2 := (cell_far (p := ⟨gb221, 4, none⟩) (by first | (rw [add_block]; exact hn222_4) | (show (Addr.add _ _).block ≠ _; rw [add_block]; exact hn222_4) | exact hn222_4) (.int .i64 ((rd_T47 l0 x15_1).f4))).trans hx222_2; replace hx222_3 := (cell_far (p := ⟨gb221, 4, none⟩) (by first | (rw [add_block]; exact hn222_4) | (show (Addr.add _ _).block ≠ _; rw [add_block]; exact hn222_4) | exact hn222_4) (.int .i64 ((rd_T47 l0 x15_1).f4))).trans hx222_3; replace hx222_4 := (cell_far (p := ⟨gb221, 4, none⟩) (by first | (rw [add_block]; exact hn222_4) | (show (Addr.add _ _).block ≠ _; rw [add_block]; exact hn222_4) | exact hn222_4) (.int .i64 ((rd_T47 l0 x15_1).f4))).trans hx222_4; replace hx222_5 := (cell_far (p := ⟨gb221, 4, none⟩) (by first | (rw [add_block]; exact hn222_4) | (show (Addr.add _ _).block ≠ _; rw [add_block]; exact hn222_4) | exact hn222_4) (.int .i64 ((rd_T47 l0 x15_1).f4))).trans hx222_5; replace hx222_6 := (cell_far (p := ⟨gb221, 4, none⟩) (by first | (rw [add_block]; exact hn222_4) | (show (Addr.add _ _).block ≠ _; rw [add_block]; exact hn222_4) | exact hn222_4) (.int .i64 ((rd_T47 l0 x15_1).f4))).trans hx222_6; replace hx222_7 := (cell_far (p := ⟨gb221, 4, none⟩) (by first | (rw [add_block]; exact hn222_4) | (show (Addr.add _ _).block ≠ _; rw [add_block]; exact hn222_4) | exact hn222_4) (.int .i64 ((rd_T47 l0 x15_1).f4))).trans hx222_7; replace hx222_0 := (cell_far (p := ⟨gb221, 5, none⟩) (by first | (rw [add_block]; exact hn222_5) | (show (Addr.add _ _).block ≠ _; rw [add_block]; exact hn222_5) | exact hn222_5) (.int .i64 ((rd_T47 l0 x15_1).f5))).trans hx222_0; replace hx222_1 := (cell_far (p := ⟨gb221, 5, none⟩) (by first | (rw [add_block]; exact hn222_5) | (show (Addr.add _ _).block ≠ _; rw [add_block]; exact hn222_5) | exact hn222_5) (.int .i64 ((rd_T47 l0 x15_1).f5))).trans hx222_1; replace hx222_2 := (cell_far (p := ⟨gb221, 5, none⟩) (by first | (rw [add_block]; exact hn222_5) | (show (Addr.add _ _).block ≠ _; rw [add_block]; exact hn222_5) | exact hn222_5) (.int .i64 ((rd_T47 l0 x15_1).f5))).trans hx222_2; replace hx222_3 := (cell_far (p := ⟨gb221, 5, none⟩) (by first | (rw [add_block]; exact hn222_5) | (show (Addr.add _ _).block ≠ _; rw [add_block]; exact hn222_5) | exact hn222_5) (.int .i64 ((rd_T47 l0 x15_1).f5))).trans hx222_3; replace hx222_4 := (cell_far (p := ⟨gb221, 5, none⟩) (by first | (rw [add_block]; exact hn222_5) | (show (Addr.add _ _).block ≠ _; rw [add_block]; exact hn222_5) | exact hn222_5) (.int .i64 ((rd_T47 l0 x15_1).f5))).trans hx222_4; replace hx222_5 := (cell_far (p := ⟨gb221, 5, none⟩) (by first | (rw [add_block]; exact hn222_5) | (show (Addr.add _ _).block ≠ _; rw [add_block]; exact hn222_5) | exact hn222_5) (.int .i64 ((rd_T47 l0 x15_1).f5))).trans hx222_5; replace hx222_6 := (cell_far (p := ⟨gb221, 5, none⟩) (by first | (rw [add_block]; exact hn222_5) | (show (Addr.add _ _).block ≠ _; rw [add_block]; exact hn222_5) | exact hn222_5) (.int .i64 ((rd_T47 l0 x15_1).f5))).trans hx222_6; replace hx222_7 := (cell_far (p := ⟨gb221, 5, none⟩) (by first | (rw [add_block]; exact hn222_5) | (show (Addr.add _ _).block ≠ _; rw [add_block]; exact hn222_5) | exact hn222_5) (.int .i64 ((rd_T47 l0 x15_1).f5))).trans hx222_7; replace hx222_0 := (cell_far (p := ⟨gb221, 6, none⟩) (by first | (rw [add_block]; exact hn222_6) | (show (Addr.add _ _).block ≠ _; rw [add_block]; exact hn222_6) | exact hn222_6) (.slice A220_6 ((rd_T47 l0 x15_1).f6).length c220_6)).trans hx222_0; replace hx222_1 := (cell_far (p := ⟨gb221, 6, none⟩) (by first | (rw [add_block]; exact hn222_6) | (show (Addr.add _ _).block ≠ _; rw [add_block]; exact hn222_6) | exact hn222_6) (.slice A220_6 ((rd_T47 l0 x15_1).f6).length c220_6)).trans hx222_1; replace hx222_2 := (cell_far (p := ⟨gb221, 6, none⟩) (by first | (rw [add_block]; exact hn222_6) | (show (Addr.add _ _).block ≠ _; rw [add_block]; exact hn222_6) | exact hn222_6) (.slice A220_6 ((rd_T47 l0 x15_1).f6).length c220_6)).trans hx222_2; replace hx222_3 := (cell_far (p := ⟨gb221, 6, none⟩) (by first | (rw [add_block]; exact hn222_6) | (show (Addr.add _ _).block ≠ _; rw [add_block]; exact hn222_6) | exact hn222_6) (.slice A220_6 ((rd_T47 l0 x15_1).f6).length c220_6)).trans hx222_3; replace hx222_4 := (cell_far (p := ⟨gb221, 6, none⟩) (by first | (rw [add_block]; exact hn222_6) | (show (Addr.add _ _).block ≠ _; rw [add_block]; exact hn222_6) | exact hn222_6) (.slice A220_6 ((rd_T47 l0 x15_1).f6).length c220_6)).trans hx222_4; replace hx222_5 := (cell_far (p := ⟨gb221, 6, none⟩) (by first | (rw [add_block]; exact hn222_6) | (show (Addr.add _ _).block ≠ _; rw [add_block]; exact hn222_6) | exact hn222_6) (.slice A220_6 ((rd_T47 l0 x15_1).f6).length c220_6)).trans hx222_5; replace hx222_6 := (cell_far (p := ⟨gb221, 6, none⟩) (by first | (rw [add_block]; exact hn222_6) | (show (Addr.add _ _).block ≠ _; rw [add_block]; exact hn222_6) | exact hn222_6) (.slice A220_6 ((rd_T47 l0 x15_1).f6).length c220_6)).trans hx222_6; replace hx222_7 := (cell_far (p := ⟨gb221, 6, none⟩) (by first | (rw [add_block]; exact hn222_6) | (show (Addr.add _ _).block ≠ _; rw [add_block]; exact hn222_6) | exact hn222_6) (.slice A220_6 ((rd_T47 l0 x15_1).f6).length c220_6)).trans hx222_7; replace hx222_0 := (cell_far (p := ⟨gb221, 7, none⟩) (by first | (rw [add_block]; exact hn222_7) | (show (Addr.add _ _).block ≠ _; rw [add_block]; exact hn222_7) | exact hn222_7) (.slice A220_7 ((rd_T47 l0 x15_1).f7).length c220_7)).trans hx222_0; replace hx222_1 := (cell_far (p := ⟨gb221, 7, none⟩) (by first | (rw [add_block]; exact hn222_7) | (show (Addr.add _ _).block ≠ _; rw [add_block]; exact hn222_7) | exact hn222_7) (.slice A220_7 ((rd_T47 l0 x15_1).f7).length c220_7)).trans hx222_1; replace hx222_2 := (cell_far (p := ⟨gb221, 7, none⟩) (by first | (rw [add_block]; exact hn222_7) | (show (Addr.add _ _).block ≠ _; rw [add_block]; exact hn222_7) | exact hn222_7) (.slice A220_7 ((rd_T47 l0 x15_1).f7).length c220_7)).trans hx222_2; replace hx222_3 := (cell_far (p := ⟨gb221, 7, none⟩) (by first | (rw [add_block]; exact hn222_7) | (show (Addr.add _ _).block ≠ _; rw [add_block]; exact hn222_7) | exact hn222_7) (.slice A220_7 ((rd_T47 l0 x15_1).f7).length c220_7)).trans hx222_3; replace hx222_4 := (cell_far (p := ⟨gb221, 7, none⟩) (by first | (rw [add_block]; exact hn222_7) | (show (Addr.add _ _).block ≠ _; rw [add_block]; exact hn222_7) | exact hn222_7) (.slice A220_7 ((rd_T47 l0 x15_1).f7).length c220_7)).trans hx222_4; replace hx222_5 := (cell_far (p := ⟨gb221, 7, none⟩) (by first | (rw [add_block]; exact hn222_7) | (show (Addr.add _ _).block ≠ _; rw [add_block]; exact hn222_7) | exact hn222_7) (.slice A220_7 ((rd_T47 l0 x15_1).f7).length c220_7)).trans hx222_5; replace hx222_6 := (cell_far (p := ⟨gb221, 7, none⟩) (by first | (rw [add_block]; exact hn222_7) | (show (Addr.add _ _).block ≠ _; rw [add_block]; exact hn222_7) | exact hn222_7) (.slice A220_7 ((rd_T47 l0 x15_1).f7).length c220_7)).trans hx222_6; replace hx222_7 := (cell_far (p := ⟨gb221, 7, none⟩) (by first | (rw [add_block]; exact hn222_7) | (show (Addr.add _ _).block ≠ _; rw [add_block]; exact hn222_7) | exact hn222_7) (.slice A220_7 ((rd_T47 l0 x15_1).f7).length c220_7)).trans hx222_7; clear hn222_0; clear hn222_1; clear hn222_2; clear hn222_3; clear hn222_4; clear hn222_5; clear hn222_6; clear hn222_7; replace p222 := eq_true p222; replace q222 := eq_true q222) | ((with_reducible refine gate_dst (N := 7) rfl ?_); refine box_event ?hg (N := 7) ?hd (cs := #[.int .i64 0, .int .u8 0, .bool false, .int .i64 0, .int .i64 0, .int .i64 0, .slice none 0 0, .slice none 0 0]) (t := 47) ?hr ?_; (case hd => rfl); (case hg => rfl); (case hr => first | (go_simp; done) | (go_simp; rfl)); intro gb223 hg w26 hbox hb; have n0_ := Aside0.mk (blk_below (g := gb221) (o := .cells #[.int .i64 ((rd_T47 l0 x15_1).f0), .int .u8 ((rd_T47 l0 x15_1).f1), .bool ((rd_T47 l0 x15_1).f2), .int .i64 ((rd_T47 l0 x15_1).f3), .int .i64 ((rd_T47 l0 x15_1).f4), .int .i64 ((rd_T47 l0 x15_1).f5), .slice A220_6 ((rd_T47 l0 x15_1).f6).length c220_6, .slice A220_7 ((rd_T47 l0 x15_1).f7).length c220_7] 47 (0, 0)) (by (with_reducible repeat (first | refine blk_drewN ?_ _ | refine blk_drew ?_ | refine blk_alloc ?_ _)); refine blk_put (cs := #[.int .i64 ((rd_T47 l0 x15_1).f0), .int .u8 ((rd_T47 l0 x15_1).f1), .bool ((rd_T47 l0 x15_1).f2), .int .i64 ((rd_T47 l0 x15_1).f3), .int .i64 ((rd_T47 l0 x15_1).f4), .int .i64 ((rd_T47 l0 x15_1).f5), .slice A220_6 ((rd_T47 l0 x15_1).f6).length c220_6, .slice none 0 0]) ?_ 7 _ rfl; (with_reducible repeat (first | refine blk_drewN ?_ _ | refine blk_drew ?_ | refine blk_alloc ?_ _)); refine blk_put (cs := #[.int .i64 ((rd_T47 l0 x15_1).f0), .int .u8 ((rd_T47 l0 x15_1).f1), .bool ((rd_T47 l0 x15_1).f2), .int .i64 ((rd_T47 l0 x15_1).f3), .int .i64 ((rd_T47 l0 x15_1).f4), .int .i64 ((rd_T47 l0 x15_1).f5), .slice none 0 0, .slice none 0 0]) ?_ 6 _ rfl; (with_reducible repeat (first | refine blk_drewN ?_ _ | refine blk_drew ?_ | refine blk_alloc ?_ _)); refine blk_put (cs := #[.int .i64 ((rd_T47 l0 x15_1).f0), .int .u8 ((rd_T47 l0 x15_1).f1), .bool ((rd_T47 l0 x15_1).f2), .int .i64 ((rd_T47 l0 x15_1).f3), .int .i64 ((rd_T47 l0 x15_1).f4), .int .i64 0, .slice none 0 0, .slice none 0 0]) ?_ 5 _ rfl; (with_reducible repeat (first | refine blk_drewN ?_ _ | refine blk_drew ?_ | refine blk_alloc ?_ _)); refine blk_put (cs := #[.int .i64 ((rd_T47 l0 x15_1).f0), .int .u8 ((rd_T47 l0 x15_1).f1), .bool ((rd_T47 l0 x15_1).f2), .int .i64 ((rd_T47 l0 x15_1).f3), .int .i64 0, .int .i64 0, .slice none 0 0, .slice none 0 0]) ?_ 4 _ rfl; (with_reducible repeat (first | refine blk_drewN ?_ _ | refine blk_drew ?_ | refine blk_alloc ?_ _)); refine blk_put (cs := #[.int .i64 ((rd_T47 l0 x15_1).f0), .int .u8 ((rd_T47 l0 x15_1).f1), .bool ((rd_T47 l0 x15_1).f2), .int .i64 0, .int .i64 0, .int .i64 0, .slice none 0 0, .slice none 0 0]) ?_ 3 _ rfl; (with_reducible repeat (first | refine blk_drewN ?_ _ | refine blk_drew ?_ | refine blk_alloc ?_ _)); refine blk_put (cs := #[.int .i64 ((rd_T47 l0 x15_1).f0), .int .u8 ((rd_T47 l0 x15_1).f1), .bool false, .int .i64 0, .int .i64 0, .int .i64 0, .slice none 0 0, .slice none 0 0]) ?_ 2 _ rfl; (with_reducible repeat (first | refine blk_drewN ?_ _ | refine blk_drew ?_ | refine blk_alloc ?_ _)); refine blk_put (cs := #[.int .i64 ((rd_T47 l0 x15_1).f0), .int .u8 0, .bool false, .int .i64 0, .int .i64 0, .int .i64 0, .slice none 0 0, .slice none 0 0]) ?_ 1 _ rfl; (with_reducible repeat (first | refine blk_drewN ?_ _ | refine blk_drew ?_ | refine blk_alloc ?_ _)); refine blk_put (cs := #[.int .i64 0, .int .u8 0, .bool false, .int .i64 0, .int .i64 0, .int .i64 0, .slice none 0 0, .slice none 0 0]) ?_ 0 _ rfl; (with_reducible repeat (first | refine blk_drewN ?_ _ | refine blk_drew ?_ | refine blk_alloc ?_ _)); exact BK221.out) hb); have n1_ := Aside0.mk (below_step (by repeat (first | (with_reducible first | exact HB.out | apply below_alloc | apply pw_below_drewN | apply below_drew1 | refine below_set ?_ GE221.out) | exact HB.out)) hb); have n2_ := Aside0.mk (hbox); have n3_ := Aside0.mk ((by rw [hg]; exact (below_size (by repeat (first | (with_reducible first | exact HB.out | apply below_alloc | apply pw_below_drewN | apply below_drew1 | refine below_set ?_ GE221.out) | exact HB.out))) : w.heap.size ≤ gb223)); have n4_ := Aside0.mk ((by rw [hg]; exact (below_size (by repeat (first | (with_reducible first | exact HB.out | apply below_alloc | apply pw_below_drewN | apply below_drew1 | refine below_set ?_ GE221.out) | exact HB.out))) : w.heap.size ≤ gb223)); have n5_ := Aside0.mk ((by rw [hg]; exact Nat.ne_of_lt (blk_lt (g := gb221) (o := .cells #[.int .i64 ((rd_T47 l0 x15_1).f0), .int .u8 ((rd_T47 l0 x15_1).f1), .bool ((rd_T47 l0 x15_1).f2), .int .i64 ((rd_T47 l0 x15_1).f3), .int .i64 ((rd_T47 l0 x15_1).f4), .int .i64 ((rd_T47 l0 x15_1).f5), .slice A220_6 ((rd_T47 l0 x15_1).f6).length c220_6, .slice A220_7 ((rd_T47 l0 x15_1).f7).length c220_7] 47 (0, 0)) (by (with_reducible repeat (first | refine blk_drewN ?_ _ | refine blk_drew ?_ | refine blk_alloc ?_ _)); refine blk_put (cs := #[.int .i64 ((rd_T47 l0 x15_1).f0), .int .u8 ((rd_T47 l0 x15_1).f1), .bool ((rd_T47 l0 x15_1).f2), .int .i64 ((rd_T47 l0 x15_1).f3), .int .i64 ((rd_T47 l0 x15_1).f4), .int .i64 ((rd_T47 l0 x15_1).f5), .slice A220_6 ((rd_T47 l0 x15_1).f6).length c220_6, .slice none 0 0]) ?_ 7 _ rfl; (with_reducible repeat (first | refine blk_drewN ?_ _ | refine blk_drew ?_ | refine blk_alloc ?_ _)); refine blk_put (cs := #[.int .i64 ((rd_T47 l0 x15_1).f0), .int .u8 ((rd_T47 l0 x15_1).f1), .bool ((rd_T47 l0 x15_1).f2), .int .i64 ((rd_T47 l0 x15_1).f3), .int .i64 ((rd_T47 l0 x15_1).f4), .int .i64 ((rd_T47 l0 x15_1).f5), .slice none 0 0, .slice none 0 0]) ?_ 6 _ rfl; (with_reducible repeat (first | refine blk_drewN ?_ _ | refine blk_drew ?_ | refine blk_alloc ?_ _)); refine blk_put (cs := #[.int .i64 ((rd_T47 l0 x15_1).f0), .int .u8 ((rd_T47 l0 x15_1).f1), .bool ((rd_T47 l0 x15_1).f2), .int .i64 ((rd_T47 l0 x15_1).f3), .int .i64 ((rd_T47 l0 x15_1).f4), .int .i64 0, .slice none 0 0, .slice none 0 0]) ?_ 5 _ rfl; (with_reducible repeat (first | refine blk_drewN ?_ _ | refine blk_drew ?_ | refine blk_alloc ?_ _)); refine blk_put (cs := #[.int .i64 ((rd_T47 l0 x15_1).f0), .int .u8 ((rd_T47 l0 x15_1).f1), .bool ((rd_T47 l0 x15_1).f2), .int .i64 ((rd_T47 l0 x15_1).f3), .int .i64 0, .int .i64 0, .slice none 0 0, .slice none 0 0]) ?_ 4 _ rfl; (with_reducible repeat (first | refine blk_drewN ?_ _ | refine blk_drew ?_ | refine blk_alloc ?_ _)); refine blk_put (cs := #[.int .i64 ((rd_T47 l0 x15_1).f0), .int .u8 ((rd_T47 l0 x15_1).f1), .bool ((rd_T47 l0 x15_1).f2), .int .i64 0, .int .i64 0, .int .i64 0, .slice none 0 0, .slice none 0 0]) ?_ 3 _ rfl; (with_reducible repeat (first | refine blk_drewN ?_ _ | refine blk_drew ?_ | refine blk_alloc ?_ _)); refine blk_put (cs := #[.int .i64 ((rd_T47 l0 x15_1).f0), .int .u8 ((rd_T47 l0 x15_1).f1), .bool false, .int .i64 0, .int .i64 0, .int .i64 0, .slice none 0 0, .slice none 0 0]) ?_ 2 _ rfl; (with_reducible repeat (first | refine blk_drewN ?_ _ | refine blk_drew ?_ | refine blk_alloc ?_ _)); refine blk_put (cs := #[.int .i64 ((rd_T47 l0 x15_1).f0), .int .u8 0, .bool false, .int .i64 0, .int .i64 0, .int .i64 0, .slice none 0 0, .slice none 0 0]) ?_ 1 _ rfl; (with_reducible repeat (first | refine blk_drewN ?_ _ | refine blk_drew ?_ | refine blk_alloc ?_ _)); refine blk_put (cs := #[.int .i64 0, .int .u8 0, .bool false, .int .i64 0, .int .i64 0, .int .i64 0, .slice none 0 0, .slice none 0 0]) ?_ 0 _ rfl; (with_reducible repeat (first | refine blk_drewN ?_ _ | refine blk_drew ?_ | refine blk_alloc ?_ _)); exact BK221.out)) : gb221 ≠ gb223)); have n6_ := Aside0.mk ((by rw [hg]; exact Nat.ne_of_gt (blk_lt (g := gb221) (o := .cells #[.int .i64 ((rd_T47 l0 x15_1).f0), .int .u8 ((rd_T47 l0 x15_1).f1), .bool ((rd_T47 l0 x15_1).f2), .int .i64 ((rd_T47 l0 x15_1).f3), .int .i64 ((rd_T47 l0 x15_1).f4), .int .i64 ((rd_T47 l0 x15_1).f5), .slice A220_6 ((rd_T47 l0 x15_1).f6).length c220_6, .slice A220_7 ((rd_T47 l0 x15_1).f7).length c220_7] 47 (0, 0)) (by (with_reducible repeat (first | refine blk_drewN ?_ _ | refine blk_drew ?_ | refine blk_alloc ?_ _)); refine blk_put (cs := #[.int .i64 ((rd_T47 l0 x15_1).f0), .int .u8 ((rd_T47 l0 x15_1).f1), .bool ((rd_T47 l0 x15_1).f2), .int .i64 ((rd_T47 l0 x15_1).f3), .int .i64 ((rd_T47 l0 x15_1).f4), .int .i64 ((rd_T47 l0 x15_1).f5), .slice A220_6 ((rd_T47 l0 x15_1).f6).length c220_6, .slice none 0 0]) ?_ 7 _ rfl; (with_reducible repeat (first | refine blk_drewN ?_ _ | refine blk_drew ?_ | refine blk_alloc ?_ _)); refine blk_put (cs := #[.int .i64 ((rd_T47 l0 x15_1).f0), .int .u8 ((rd_T47 l0 x15_1).f1), .bool ((rd_T47 l0 x15_1).f2), .int .i64 ((rd_T47 l0 x15_1).f3), .int .i64 ((rd_T47 l0 x15_1).f4), .int .i64 ((rd_T47 l0 x15_1).f5), .slice none 0 0, .slice none 0 0]) ?_ 6 _ rfl; (with_reducible repeat (first | refine blk_drewN ?_ _ | refine blk_drew ?_ | refine blk_alloc ?_ _)); refine blk_put (cs := #[.int .i64 ((rd_T47 l0 x15_1).f0), .int .u8 ((rd_T47 l0 x15_1).f1), .bool ((rd_T47 l0 x15_1).f2), .int .i64 ((rd_T47 l0 x15_1).f3), .int .i64 ((rd_T47 l0 x15_1).f4), .int .i64 0, .slice none 0 0, .slice none 0 0]) ?_ 5 _ rfl; (with_reducible repeat (first | refine blk_drewN ?_ _ | refine blk_drew ?_ | refine blk_alloc ?_ _)); refine blk_put (cs := #[.int .i64 ((rd_T47 l0 x15_1).f0), .int .u8 ((rd_T47 l0 x15_1).f1), .bool ((rd_T47 l0 x15_1).f2), .int .i64 ((rd_T47 l0 x15_1).f3), .int .i64 0, .int .i64 0, .slice none 0 0, .slice none 0 0]) ?_ 4 _ rfl; (with_reducible repeat (first | refine blk_drewN ?_ _ | refine blk_drew ?_ | refine blk_alloc ?_ _)); refine blk_put (cs := #[.int .i64 ((rd_T47 l0 x15_1).f0), .int .u8 ((rd_T47 l0 x15_1).f1), .bool ((rd_T47 l0 x15_1).f2), .int .i64 0, .int .i64 0, .int .i64 0, .slice none 0 0, .slice none 0 0]) ?_ 3 _ rfl; (with_reducible repeat (first | refine blk_drewN ?_ _ | refine blk_drew ?_ | refine blk_alloc ?_ _)); refine blk_put (cs := #[.int .i64 ((rd_T47 l0 x15_1).f0), .int .u8 ((rd_T47 l0 x15_1).f1), .bool false, .int .i64 0, .int .i64 0, .int .i64 0, .slice none 0 0, .slice none 0 0]) ?_ 2 _ rfl; (with_reducible repeat (first | refine blk_drewN ?_ _ | refine blk_drew ?_ | refine blk_alloc ?_ _)); refine blk_put (cs := #[.int .i64 ((rd_T47 l0 x15_1).f0), .int .u8 0, .bool false, .int .i64 0, .int .i64 0, .int .i64 0, .slice none 0 0, .slice none 0 0]) ?_ 1 _ rfl; (with_reducible repeat (first | refine blk_drewN ?_ _ | refine blk_drew ?_ | refine blk_alloc ?_ _)); refine blk_put (cs := #[.int .i64 0, .int .u8 0, .bool false, .int .i64 0, .int .i64 0, .int .i64 0, .slice none 0 0, .slice none 0 0]) ?_ 0 _ rfl; (with_reducible repeat (first | refine blk_drewN ?_ _ | refine blk_drew ?_ | refine blk_alloc ?_ _)); exact BK221.out)) : gb223 ≠ gb221)); clear BK221; clear HB; have BK221 := n0_; have HB := n1_; have BK223 := n2_; have GW223 := n3_; have GE223 := n4_; have NB221_223 := n5_; have NB223_221 := n6_; clear n0_ n1_ n2_ n3_ n4_ n5_ n6_; clear hb hbox hg; have hnb27 := NB223_221.out; have hnc27 := NB221_223.out; have hcz28_0 : w26.cell? ⟨gb223, 0, none⟩ = some (.int .i64 0) := (blk_cell BK223.out 0).trans rfl; have hcz28_1 : w26.cell? ⟨gb223, 1, none⟩ = some (.int .u8 0) := (blk_cell BK223.out 1).trans rfl; have hcz28_2 : w26.cell? ⟨gb223, 2, none⟩ = some (.bool false) := (blk_cell BK223.out 2).trans rfl; have hcz28_3 : w26.cell? ⟨gb223, 3, none⟩ = some (.int .i64 0) := (blk_cell BK223.out 3).trans rfl; have hcz28_4 : w26.cell? ⟨gb223, 4, none⟩ = some (.int .i64 0) := (blk_cell BK223.out 4).trans rfl; have hcz28_5 : w26.cell? ⟨gb223, 5, none⟩ = some (.int .i64 0) := (blk_cell BK223.out 5).trans rfl; have hcz28_6 : w26.cell? ⟨gb223, 6, none⟩ = some (.slice none 0 0) := (blk_cell BK223.out 6).trans rfl; have hcz28_7 : w26.cell? ⟨gb223, 7, none⟩ = some (.slice none 0 0) := (blk_cell BK223.out 7).trans rfl; have hfz28_0 := blk_frozen BK223.out 0; have hfz28_1 := blk_frozen BK223.out 1; have hfz28_2 := blk_frozen BK223.out 2; have hfz28_3 := blk_frozen BK223.out 3; have hfz28_4 := blk_frozen BK223.out 4; have hfz28_5 := blk_frozen BK223.out 5; have hfz28_6 := blk_frozen BK223.out 6; have hfz28_7 := blk_frozen BK223.out 7; have hcz29_0 : w26.cell? ⟨gb221, 0, none⟩ = some (.int .i64 ((rd_T47 l0 x15_1).f0)) := (blk_cell BK221.out 0).trans rfl; have hcz29_1 : w26.cell? ⟨gb221, 1, none⟩ = some (.int .u8 ((rd_T47 l0 x15_1).f1)) := (blk_cell BK221.out 1).trans rfl; have hcz29_2 : w26.cell? ⟨gb221, 2, none⟩ = some (.bool ((rd_T47 l0 x15_1).f2)) := (blk_cell BK221.out 2).trans rfl; have hcz29_3 : w26.cell? ⟨gb221, 3, none⟩ = some (.int .i64 ((rd_T47 l0 x15_1).f3)) := (blk_cell BK221.out 3).trans rfl; have hcz29_4 : w26.cell? ⟨gb221, 4, none⟩ = some (.int .i64 ((rd_T47 l0 x15_1).f4)) := (blk_cell BK221.out 4).trans rfl; have hcz29_5 : w26.cell? ⟨gb221, 5, none⟩ = some (.int .i64 ((rd_T47 l0 x15_1).f5)) := (blk_cell BK221.out 5).trans rfl; have hcz29_6 : w26.cell? ⟨gb221, 6, none⟩ = some (.slice A220_6 ((rd_T47 l0 x15_1).f6).length c220_6) := (blk_cell BK221.out 6).trans rfl; have hcz29_7 : w26.cell? ⟨gb221, 7, none⟩ = some (.slice A220_7 ((rd_T47 l0 x15_1).f7).length c220_7) := (blk_cell BK221.out 7).trans rfl; have hfz29_0 := blk_frozen BK221.out 0; have hfz29_1 := blk_frozen BK221.out 1; have hfz29_2 := blk_frozen BK221.out 2; have hfz29_3 := blk_frozen BK221.out 3; have hfz29_4 := blk_frozen BK221.out 4; have hfz29_5 := blk_frozen BK221.out 5; have hfz29_6 := blk_frozen BK221.out 6; have hfz29_7 := blk_frozen BK221.out 7) | (go_at_call 33; (with_reducible refine (jvmcorelaw2_sameInts.calls k1 _ _ ((rd_T47 l0 x15_1).f6) _ _ ((rd_T47 l1 x15_1).f6) true _ ?side1 ?side2 ?side3 ?side4 A20.out).mono ?_); (case side1 => exact Kd.C_below HR220_6.out (by repeat (first | (with_reducible first | exact HB.out | apply below_alloc | apply pw_below_drewN | apply below_drew1 | refine below_set ?_ GE221.out | refine below_set ?_ GE223.out) | exact HB.out))); (case side2 => exact HC220_6.out); (case side3 => exact Kd.C_below HR222_6.out (by repeat (first | (with_reducible first | exact HB.out | apply below_alloc | apply pw_below_drewN | apply below_drew1 | refine below_set ?_ GE221.out | refine below_set ?_ GE223.out) | exact HB.out))); (case side4 => exact HC222_6.out); rintro e w' ⟨rfl, ⟨nd, rfl⟩⟩) | (go_at_call 33; (with_reducible refine (jvmcorelaw2_sameInts.calls k1 _ _ ((rd_T47 l0 x15_1).f7) _ _ ((rd_T47 l1 x15_1).f7) true _ ?side1 ?side2 ?side3 ?side4 A22.out).mono ?_); (case side1 => exact Kd.C_below HR220_7.out (by repeat (first | (with_reducible first | exact HB.out | apply below_alloc | apply pw_below_drewN | apply below_drew1 | refine below_set ?_ GE221.out | refine below_set ?_ GE223.out) | exact HB.out))); (case side2 => exact HC220_7.out); (case side3 => exact Kd.C_below HR222_7.out (by repeat (first | (with_reducible first | exact HB.out | apply below_alloc | apply pw_below_drewN | apply below_drew1 | refine below_set ?_ GE221.out | refine below_set ?_ GE223.out) | exact HB.out))); (case side4 => exact HC222_7.out); rintro e w' ⟨rfl, ⟨nd, rfl⟩⟩))
                                go_roundg k1
                                case measure => have := HK1.out; omega
                                case rel => exact ⟨(wrap64 (x15_1 + 1)), (by first | rfl | (simp; done) | (simp [*]; done)), H', ⟨by have := HK1.out; omega⟩, ⟨by repeat (first | (with_reducible first | exact HB.out | apply below_alloc | apply pw_below_drewN | apply below_drew1 | refine below_set ?_ GE221.out | refine below_set ?_ GE223.out) | exact HB.out)⟩⟩
                              · replace c23 := Bool.eq_false_iff.mpr c23
                                subst c23
                                have H1 : (some false) = some true := by rw [if_neg (show ¬ (false = true) by decide)] at H; exact H
                                clear H
                                have H := H1
                                clear H1
                                exact absurd H (by simp)
                            · replace c21 := Bool.eq_false_iff.mpr c21
                              subst c21
                              have H1 : (some false) = some true := by rw [if_neg (show ¬ (false = true) by decide)] at H; exact H
                              clear H
                              have H := H1
                              clear H1
                              exact absurd H (by simp)
                          · rw [if_neg c19] at H
                            have c19b0 : (((rd_T47 l0 x15_1).f5) == ((rd_T47 l1 x15_1).f5)) = false := beq_eq_false_iff_ne.mpr c19
                            have c19b1 : (((rd_T47 l0 x15_1).f5) != ((rd_T47 l1 x15_1).f5)) = true := bne_iff_ne.mpr c19
                            exact absurd H (by simp)
                        · rw [if_neg c18] at H
                          have c18b0 : (((rd_T47 l0 x15_1).f4) == ((rd_T47 l1 x15_1).f4)) = false := beq_eq_false_iff_ne.mpr c18
                          have c18b1 : (((rd_T47 l0 x15_1).f4) != ((rd_T47 l1 x15_1).f4)) = true := bne_iff_ne.mpr c18
                          exact absurd H (by simp)
                      · rw [if_neg c17] at H
                        have c17b0 : (((rd_T47 l0 x15_1).f3) == ((rd_T47 l1 x15_1).f3)) = false := beq_eq_false_iff_ne.mpr c17
                        have c17b1 : (((rd_T47 l0 x15_1).f3) != ((rd_T47 l1 x15_1).f3)) = true := bne_iff_ne.mpr c17
                        exact absurd H (by simp)
                  · rw [if_neg c9] at H
                    have c9b0 : (((rd_T47 l0 x15_1).f1) == ((rd_T47 l1 x15_1).f1)) = false := beq_eq_false_iff_ne.mpr c9
                    have c9b1 : (((rd_T47 l0 x15_1).f1) != ((rd_T47 l1 x15_1).f1)) = true := bne_iff_ne.mpr c9
                    exact absurd H (by simp)
                · rw [if_neg c8] at H
                  have c8b0 : (((rd_T47 l0 x15_1).f0) == ((rd_T47 l1 x15_1).f0)) = false := beq_eq_false_iff_ne.mpr c8
                  have c8b1 : (((rd_T47 l0 x15_1).f0) != ((rd_T47 l1 x15_1).f0)) = true := bne_iff_ne.mpr c8
                  exact absurd H (by simp)
              · rw [if_neg c7] at H
                exact absurd H (by simp)
            · rw [if_neg c6] at H
              exact absurd H (by simp)
          · rw [if_neg c5] at H
            exact absurd H (by simp)
        · rw [if_neg c4] at H
          have c4b0 : decide (x15_1 < (l0.length : Int)) = false := decide_eq_false c4
          clear c4
          clear H
          go_wp2
          go_ret
          exact ⟨by first | rfl | (simp [errW_none, errW_some] <;> rfl) | (simp [*, errW_none, errW_some] <;> rfl), by repeat (first | (with_reducible first | exact HB.out | apply below_alloc | apply pw_below_drewN | apply below_drew1) | exact HB.out)⟩
  · rw [if_neg c3] at H
    have c3b0 : ((l0.length : Int) == (l1.length : Int)) = false := beq_eq_false_iff_ne.mpr c3
    have c3b1 : ((l0.length : Int) != (l1.length : Int)) = true := bne_iff_ne.mpr c3
    have c3b2 : (l0.length == l1.length) = false := by first | simpa using c3 | (simp at c3 ⊢; omega)
    exact absurd H (by simp)
def jvmcorelaw2_same.f (k : Nat) (l0 : List (S47)) (l1 : List (S47)) : Option (Bool) := if jvmcorelaw2_same.g k l0 l1 = some true then some true else none
theorem jvmcorelaw2_same.mono : ∀ a0 a1 k, LeO (jvmcorelaw2_same.f k a0 a1) (jvmcorelaw2_same.f (k + 1) a0 a1) := by
  intro a0 a1 k r h
  unfold jvmcorelaw2_same.f at h ⊢
  by_cases hk : jvmcorelaw2_same.g k a0 a1 = some true
  · rw [if_pos hk] at h
    rw [if_pos (jvmcorelaw2_same.monog a0 a1 k _ hk)]
    exact h
  · rw [if_neg hk] at h; cases h
theorem jvmcorelaw2_same.calls (k : Nat) (A0 : Option Addr) (c0 : Nat) (l0 : List (S47)) (A1 : Option Addr) (c1 : Nat) (l1 : List (S47)) (r : Bool) (w : World) (hr0 : Kd.C k47 w A0 l0.length l0) (hc0 : l0.length ≤ c0) (hr1 : Kd.C k47 w A1 l1.length l1) (hc1 : l1.length ≤ c1) (h : jvmcorelaw2_same.f k l0 l1 = some r) :
    Calls Tryd.prog 20 #[.slice A0 l0.length c0, .slice A1 l1.length c1] w fun e w' => e = .returned (.bool r) ∧ Below w.heap.size w w' := by
  unfold jvmcorelaw2_same.f at h
  by_cases hk : jvmcorelaw2_same.g k l0 l1 = some true
  · rw [if_pos hk] at h
    obtain rfl := Option.some.inj h
    exact jvmcorelaw2_same.callsT k A0 c0 l0 A1 c1 l1 w hr0 hc0 hr1 hc1 hk
  · rw [if_neg hk] at h; cases h
end Go.Proofs.YtfnjbmpolggdeaaDoor.CC
end
section
namespace Go.Proofs.YtfnjbmpolggdeaaDoor.CC
open Go.RowKit Go.Proofs.YtfnjbmpolggdeaaDoorW.PrintWords Go.Proofs.YtfnjbmpolggdeaaDoorW.PrintLast Go.Proofs.YtfnjbmpolggdeaaDoorW.PrintMore
attribute [local go_sem] max2_int min2_int max_two min_two max_three min_three max_four min_four   -- for this text's walks alone
set_option linter.unusedVariables false
set_option linter.unusedSimpArgs false
attribute [local go_sem high] eqA39
def jvmcorelaw2_CodeChecks.l0 : Nat → List (S47) → List (S39) → List (S47) → List (S39) → Int → Int → Int → Int → Int → Int → Option (Bool)
  | 0, _, _, _, _, _, _, _, _, _, _ => none
  | k + 1, x0, x1, x7, x8, x9, x10, x11, x12, x39, x40 => if x40 < x39 then (if 0 ≤ x40 then (if x40 < (x1.length : Int) then (if x40 < (x8.length : Int) then (if (!(((rd_T39 x1 x40).f0) == ((rd_T39 x8 x40).f0)) || (!((((rd_T39 x1 x40).f1).toList) == (((rd_T39 x8 x40).f1).toList)) || (!(((rd_T39 x1 x40).f2) == ((rd_T39 x8 x40).f2)) || (!(((rd_T39 x1 x40).f3) == ((rd_T39 x8 x40).f3)) || (!(((rd_T39 x1 x40).f4) == ((rd_T39 x8 x40).f4))))))) = true then (some false) else (jvmcorelaw2_CodeChecks.l0 k x0 x1 x7 x8 x9 x10 x11 x12 x39 (wrap64 (x40 + 1)))) else (none)) else (none)) else (none)) else (if x9 = x11 then (if x10 = x12 then ((jvmcorelaw2_same.f k x0 x7).bind fun t242 => (some t242)) else (some false)) else (some false))
def jvmcorelaw2_CodeChecks.f (k : Nat) (l0 : List (S47)) (l1 : List (S39)) (a2 : Int) : Option (Bool) := (jvmcorelaw2_weight.f k l0).bind fun t229 => (if (wrap64 (t229 + (l1.length : Int))) > 32768 then (some true) else ((jvmcorelaw2_twin.f k l0).bind fun t230 => (if ([] : List (S39)).length + l1.length < 3518437208883 then ((some (([] : List (S39)) ++ l1 : List (S39))).bind fun y233 => ((code_Check.f k l0 l1 a2).bind fun bt236 => ((jvmcoreref2_Check.f k t230 y233 a2).bind fun bt238 => (jvmcorelaw2_CodeChecks.l0 k l0 l1 t230 y233 bt236.1 bt236.2 bt238.1 bt238.2 (y233.length : Int) 0)))) else (none))))
theorem jvmcorelaw2_CodeChecks.mono_l : ∀ k, (∀ y0 y1 y2 y3 y4 y5 y6 y7 y8 y9, LeO (jvmcorelaw2_CodeChecks.l0 k y0 y1 y2 y3 y4 y5 y6 y7 y8 y9) (jvmcorelaw2_CodeChecks.l0 (k + 1) y0 y1 y2 y3 y4 y5 y6 y7 y8 y9))
  | 0 => fun _ _ _ _ _ _ _ _ _ _ r h => by simp [jvmcorelaw2_CodeChecks.l0] at h
  | k + 1 => by
    have ih0 := jvmcorelaw2_CodeChecks.mono_l k
    · intro y0 y1 y2 y3 y4 y5 y6 y7 y8 y9
      unfold jvmcorelaw2_CodeChecks.l0
      repeat' first
      | (with_reducible exact ih0 _ _ _ _ _ _ _ _ _ _)
      | (with_reducible exact code_Check.mono _ _ _ _)
      | (with_reducible exact jvmcorelaw2_same.mono _ _ _)
      | (with_reducible exact jvmcorelaw2_twin.mono _ _)
      | (with_reducible exact jvmcorelaw2_weight.mono _ _)
      | (with_reducible exact jvmcoreref2_Check.mono _ _ _ _)
      | (with_reducible exact LeO.refl _)
      | (with_reducible exact LeO.none _)
      | (with_reducible refine LeO.ite ?_ ?_)
      | (with_reducible refine LeO.bind ?_ (fun _ => ?_))
theorem jvmcorelaw2_CodeChecks.mono : ∀ a0 a1 a2 k, LeO (jvmcorelaw2_CodeChecks.f k a0 a1 a2) (jvmcorelaw2_CodeChecks.f (k + 1) a0 a1 a2) := by
  intro a0 a1 a2 k
  have ih0 := jvmcorelaw2_CodeChecks.mono_l k
  unfold jvmcorelaw2_CodeChecks.f
  repeat' first
      | (with_reducible exact ih0 _ _ _ _ _ _ _ _ _ _)
      | (with_reducible exact code_Check.mono _ _ _ _)
      | (with_reducible exact jvmcorelaw2_same.mono _ _ _)
      | (with_reducible exact jvmcorelaw2_twin.mono _ _)
      | (with_reducible exact jvmcorelaw2_weight.mono _ _)
      | (with_reducible exact jvmcoreref2_Check.mono _ _ _ _)
      | (with_reducible exact LeO.refl _)
      | (with_reducible exact LeO.none _)
      | (with_reducible refine LeO.ite ?_ ?_)
      | (with_reducible refine LeO.bind ?_ (fun _ => ?_))
set_option maxHeartbeats 8000000 in
set_option maxRecDepth 100000 in
theorem jvmcorelaw2_CodeChecks.calls (k : Nat) (A0 : Option Addr) (c0 : Nat) (l0 : List (S47)) (A1 : Option Addr) (c1 : Nat) (l1 : List (S39)) (a2 : Int) (r : Bool) (w : World) (hr0 : Kd.C k47 w A0 l0.length l0) (hc0 : l0.length ≤ c0) (hr1 : Kd.C k39 w A1 l1.length l1) (hc1 : l1.length ≤ c1) (h : jvmcorelaw2_CodeChecks.f k l0 l1 a2 = some r) :
    Calls Tryd.prog 5 #[.slice A0 l0.length c0, .slice A1 l1.length c1, .int .i64 a2] w fun e w' => e = .returned (.bool r) ∧ Below w.heap.size w w' := by
  have hu39 := Tryd.underlying39
  have HR0 := Aside0.mk hr0
  have HC0 := Aside0.mk hc0
  clear hr0 hc0
  have HR1 := Aside0.mk hr1
  have HC1 := Aside0.mk hc1
  clear hr1 hc1
  have HB := Aside0.mk (Below.refl w.heap.size w)
  have H : ((jvmcorelaw2_weight.f k l0).bind fun t229 => (if (wrap64 (t229 + (l1.length : Int))) > 32768 then (some true) else ((jvmcorelaw2_twin.f k l0).bind fun t230 => (if ([] : List (S39)).length + l1.length < 3518437208883 then ((some (([] : List (S39)) ++ l1 : List (S39))).bind fun y233 => ((code_Check.f k l0 l1 a2).bind fun bt236 => ((jvmcoreref2_Check.f k t230 y233 a2).bind fun bt238 => (jvmcorelaw2_CodeChecks.l0 k l0 l1 t230 y233 bt236.1 bt236.2 bt238.1 bt238.2 (y233.length : Int) 0)))) else (none))))) = some r := h
  clear h
  replace H := Option.bind_eq_some_iff.mp H
  obtain ⟨t229, A40, H⟩ := H
  replace H : (if (wrap64 (t229 + (l1.length : Int))) > 32768 then (some true) else ((jvmcorelaw2_twin.f k l0).bind fun t230 => (if ([] : List (S39)).length + l1.length < 3518437208883 then ((some (([] : List (S39)) ++ l1 : List (S39))).bind fun y233 => ((code_Check.f k l0 l1 a2).bind fun bt236 => ((jvmcoreref2_Check.f k t230 y233 a2).bind fun bt238 => (jvmcorelaw2_CodeChecks.l0 k l0 l1 t230 y233 bt236.1 bt236.2 bt238.1 bt238.2 (y233.length : Int) 0)))) else (none)))) = some r := H
  have A4 := Aside0.mk A40
  clear A40
  by_cases c5 : (wrap64 (t229 + (l1.length : Int))) > 32768
  · rw [if_pos c5] at H
    have c5b0 : decide (32768 < (wrap64 (t229 + (l1.length : Int)))) = true := decide_eq_true c5
    clear c5
    obtain rfl := Option.some.inj H
    go_enter Tryd.func5, Tryd.ntmps5
    go_wp2_with (first | (go_at_call 16; (with_reducible refine (jvmcorelaw2_weight.calls k _ _ l0 t229 _ ?side1 ?side2 A4.out).mono ?_); (case side1 => repeat (first | exact HR0.out | (with_reducible refine Kd.C_alloc ?_ _) | (with_reducible refine Kd.C_drewN ?_ _) | (with_reducible refine Kd.C_drew ?_))); (case side2 => exact HC0.out); rintro e w6 ⟨rfl, hb⟩; have n0_ := Aside0.mk (below_step (by repeat (first | (with_reducible first | exact HB.out | apply below_alloc | apply pw_below_drewN | apply below_drew1) | exact HB.out)) hb); clear HB; have HB := n0_; clear n0_; (try clear hb); (try clear hb2); (try clear hk); (try clear hi)))
    repeat (go_quiet (first | (go_at_call 16; (with_reducible refine (jvmcorelaw2_weight.calls k _ _ l0 t229 _ ?side1 ?side2 A4.out).mono ?_); (case side1 => repeat (first | exact HR0.out | (with_reducible refine Kd.C_alloc ?_ _) | (with_reducible refine Kd.C_drewN ?_ _) | (with_reducible refine Kd.C_drew ?_))); (case side2 => exact HC0.out); rintro e w6 ⟨rfl, hb⟩; have n0_ := Aside0.mk (below_step (by repeat (first | (with_reducible first | exact HB.out | apply below_alloc | apply pw_below_drewN | apply below_drew1) | exact HB.out)) hb); clear HB; have HB := n0_; clear n0_; (try clear hb); (try clear hb2); (try clear hk); (try clear hi))); try go_wp2_with (first | (go_at_call 16; (with_reducible refine (jvmcorelaw2_weight.calls k _ _ l0 t229 _ ?side1 ?side2 A4.out).mono ?_); (case side1 => repeat (first | exact HR0.out | (with_reducible refine Kd.C_alloc ?_ _) | (with_reducible refine Kd.C_drewN ?_ _) | (with_reducible refine Kd.C_drew ?_))); (case side2 => exact HC0.out); rintro e w6 ⟨rfl, hb⟩; have n0_ := Aside0.mk (below_step (by repeat (first | (with_reducible first | exact HB.out | apply below_alloc | apply pw_below_drewN | apply below_drew1) | exact HB.out)) hb); clear HB; have HB := n0_; clear n0_; (try clear hb); (try clear hb2); (try clear hk); (try clear hi))))
    go_ret
    exact ⟨by first | rfl | (simp [errW_none, errW_some] <;> rfl) | (simp [*, errW_none, errW_some] <;> rfl), by repeat (first | (with_reducible first | exact HB.out | apply below_alloc | apply pw_below_drewN | apply below_drew1) | exact HB.out)⟩
  · rw [if_neg c5] at H
    have c5b0 : decide (32768 < (wrap64 (t229 + (l1.length : Int)))) = false := decide_eq_false c5
    clear c5
    replace H := Option.bind_eq_some_iff.mp H
    obtain ⟨t230, A70, H⟩ := H
    replace H : (if ([] : List (S39)).length + l1.length < 3518437208883 then ((some (([] : List (S39)) ++ l1 : List (S39))).bind fun y233 => ((code_Check.f k l0 l1 a2).bind fun bt236 => ((jvmcoreref2_Check.f k t230 y233 a2).bind fun bt238 => (jvmcorelaw2_CodeChecks.l0 k l0 l1 t230 y233 bt236.1 bt236.2 bt238.1 bt238.2 (y233.length : Int) 0)))) else (none)) = some r := H
    have A7 := Aside0.mk A70
    clear A70
    by_cases c8 : ([] : List (S39)).length + l1.length < 3518437208883
    · rw [if_pos c8] at H
      have LMc8 := Aside0.mk c8
      clear c8
      obtain ⟨y233, hy233⟩ : ∃ y_ : List (S39), y_ = (([] : List (S39)) ++ l1) := ⟨_, rfl⟩
      replace H : ((code_Check.f k l0 l1 a2).bind fun bt236 => ((jvmcoreref2_Check.f k t230 y233 a2).bind fun bt238 => (jvmcorelaw2_CodeChecks.l0 k l0 l1 t230 y233 bt236.1 bt236.2 bt238.1 bt238.2 (y233.length : Int) 0))) = some r := by first | (rw [hy233]; with_reducible exact H) | (have H2_ := (Option.bind_some _ _).symm.trans H; rw [hy233]; with_reducible exact H2_) | (have H2_ := (Option.bind_some _ _).symm.trans H; with_reducible exact H2_) | with_reducible exact H | (rw [hy233]; exact H) | exact H
      have Ny233 := Aside0.mk hy233
      clear hy233
      replace H := Option.bind_eq_some_iff.mp H
      obtain ⟨⟨t236, t237⟩, A90, H⟩ := H
      replace H : ((jvmcoreref2_Check.f k t230 y233 a2).bind fun bt238 => (jvmcorelaw2_CodeChecks.l0 k l0 l1 t230 y233 t236 t237 bt238.1 bt238.2 (y233.length : Int) 0)) = some r := H
      have A9 := Aside0.mk A90
      clear A90
      replace H := Option.bind_eq_some_iff.mp H
      obtain ⟨⟨t238, t239⟩, A100, H⟩ := H
      replace H : (jvmcorelaw2_CodeChecks.l0 k l0 l1 t230 y233 t236 t237 t238 t239 (y233.length : Int) 0) = some r := H
      have A10 := Aside0.mk A100
      clear A100
      have H' := Aside0.mk H
      clear H
      go_enter Tryd.func5, Tryd.ntmps5
      go_wp2_with (first | (go_at_call 16; (with_reducible refine (jvmcorelaw2_weight.calls k _ _ l0 t229 _ ?side1 ?side2 A4.out).mono ?_); (case side1 => repeat (first | exact HR0.out | (with_reducible refine Kd.C_alloc ?_ _) | (with_reducible refine Kd.C_drewN ?_ _) | (with_reducible refine Kd.C_drew ?_))); (case side2 => exact HC0.out); rintro e w11 ⟨rfl, hb⟩; have n0_ := Aside0.mk (below_step (by repeat (first | (with_reducible first | exact HB.out | apply below_alloc | apply pw_below_drewN | apply below_drew1) | exact HB.out)) hb); clear HB; have HB := n0_; clear n0_; (try clear hb); (try clear hb2); (try clear hk); (try clear hi)) | (go_at_call 17; (with_reducible refine (jvmcorelaw2_twin.calls k _ _ l0 t230 _ ?side1 ?side2 A7.out).mono ?_); (case side1 => repeat (first | exact (Kd.C_below HR0.out HB.out) | (with_reducible refine Kd.C_alloc ?_ _) | (with_reducible refine Kd.C_drewN ?_ _) | (with_reducible refine Kd.C_drew ?_))); (case side2 => exact HC0.out); rintro e w12 ⟨v231, rfl, ho0, hb⟩; have n0_ := Aside0.mk (Kd.S_lower ho0 (below_size (by repeat (first | (with_reducible first | exact HB.out | apply below_alloc | apply pw_below_drewN | apply below_drew1) | exact HB.out)))); have n1_ := Aside0.mk (below_step (by repeat (first | (with_reducible first | exact HB.out | apply below_alloc | apply pw_below_drewN | apply below_drew1) | exact HB.out)) hb); clear HB; have HO232 := n0_; have HB := n1_; clear n0_ n1_; (try clear hb); (try clear hb2); (try clear hk); (try clear hi); (try clear ho0)) | ((with_reducible refine gate_builtin (b := .append) (xs := #[.const (.slice none 0 0), .tmp 22]) rfl ?_); at_builtin; refine Kd.R_append_rows k39 (w0 := w) w.heap.size rfl (.const (.slice none 0 0)) (.tmp 22) 30 39 (.agg #[(.int .u8 0), (.string ⟨#[]⟩), (.int .u64 0), (.int .u16 0), (.int .u16 0)]) 40 rfl Tryd.underlying30 info39 rfl (by decide) (by omega) (.slice none 0 0) ([] : List (S39)) l1 _ _ _ (fun _ => True) (fun _ => False) rfl rfl ?aO ?aR (fun _ _ h => h) (fun _ h => h.elim) ?aF ?aB ?aS ?aL ?_; (case aR => repeat (first | exact (Kd.C_below HR1.out HB.out) | (with_reducible refine Kd.C_alloc ?_ _) | (with_reducible refine Kd.C_drewN ?_ _) | (with_reducible refine Kd.C_drew ?_))); (case aB => exact (by repeat (first | (with_reducible first | exact HB.out | apply below_alloc | apply pw_below_drewN | apply below_drew1) | exact HB.out))); (case aF => exact (fun _ _ => trivial)); (case aO => exact ((Kd.R_nil _ _ _ _ (fun _ => True)))); (case aS => exact (below_size (by repeat (first | (with_reducible first | exact HB.out | apply below_alloc | apply pw_below_drewN | apply below_drew1) | exact HB.out)))); (case aL => have := LMc8.out; omega); intro v234 w13 ho hb hg hat; rw [← Ny233.out] at ho; have n0_ := Aside0.mk (Kd.S_grown (by (with_reducible repeat (first | apply Kd.S_alloc | apply Kd.S_drewN | apply Kd.S_drew)); exact HO232.out) hg (fun _ _ => by simp [Value.ownBlock])); have n1_ := Aside0.mk (hb); have n2_ := Aside0.mk (ho); clear HO232; clear HB; have HO232 := n0_; have HB := n1_; have HO235 := n2_; clear n0_ n1_ n2_; clear ho hb hg hat) | (go_at_call 18; (with_reducible refine (code_Check.calls k _ _ l0 _ _ l1 a2 t236 t237 _ ?side1 ?side2 ?side3 ?side4 A9.out).mono ?_); (case side1 => repeat (first | exact (Kd.C_below HR0.out HB.out) | (with_reducible refine Kd.C_alloc ?_ _) | (with_reducible refine Kd.C_drewN ?_ _) | (with_reducible refine Kd.C_drew ?_))); (case side2 => exact HC0.out); (case side3 => repeat (first | exact (Kd.C_below HR1.out HB.out) | (with_reducible refine Kd.C_alloc ?_ _) | (with_reducible refine Kd.C_drewN ?_ _) | (with_reducible refine Kd.C_drew ?_))); (case side4 => exact HC1.out); rintro e w14 ⟨rfl, hb⟩; have n0_ := Aside0.mk (Kd.S_below (by (with_reducible repeat (first | apply Kd.S_alloc | apply Kd.S_drewN | apply Kd.S_drew)); exact HO232.out) hb); have n1_ := Aside0.mk (Kd.R_below (by (with_reducible repeat (first | apply Kd.R_alloc | apply Kd.R_drewN | apply Kd.R_drew)); exact HO235.out) hb); have n2_ := Aside0.mk (below_step (by repeat (first | (with_reducible first | exact HB.out | apply below_alloc | apply pw_below_drewN | apply below_drew1) | exact HB.out)) hb); clear HO232; clear HO235; clear HB; have HO232 := n0_; have HO235 := n1_; have HB := n2_; clear n0_ n1_ n2_; (try clear hb); (try clear hb2); (try clear hk); (try clear hi); obtain ⟨Ao15, co15, eo15⟩ := Kd.S_slice HO232.out; subst eo15; obtain ⟨Ao16, co16, eo16⟩ := Kd.R_slice HO235.out; subst eo16) | (go_at_call 19; (with_reducible refine (jvmcoreref2_Check.calls k _ _ t230 _ _ y233 a2 t238 t239 _ ?side1 ?side2 ?side3 ?side4 A10.out).mono ?_); (case side1 => repeat (first | exact (Kd.S_reads' HO232.out).2.2 | (with_reducible refine Kd.C_alloc ?_ _) | (with_reducible refine Kd.C_drewN ?_ _) | (with_reducible refine Kd.C_drew ?_))); (case side2 => exact (Kd.S_reads' HO232.out).2.1); (case side3 => repeat (first | exact (Kd.R_reads' HO235.out).2.2 | (with_reducible refine Kd.C_alloc ?_ _) | (with_reducible refine Kd.C_drewN ?_ _) | (with_reducible refine Kd.C_drew ?_))); (case side4 => exact (Kd.R_reads' HO235.out).2.1); rintro e w17 ⟨rfl, hb⟩; have n0_ := Aside0.mk (Kd.S_below (by (with_reducible repeat (first | apply Kd.S_alloc | apply Kd.S_drewN | apply Kd.S_drew)); exact HO232.out) hb); have n1_ := Aside0.mk (Kd.R_below (by (with_reducible repeat (first | apply Kd.R_alloc | apply Kd.R_drewN | apply Kd.R_drew)); exact HO235.out) hb); have n2_ := Aside0.mk (below_step (by repeat (first | (with_reducible first | exact HB.out | apply below_alloc | apply pw_below_drewN | apply below_drew1) | exact HB.out)) hb); clear HO232; clear HO235; clear HB; have HO232 := n0_; have HO235 := n1_; have HB := n2_; clear n0_ n1_ n2_; (try clear hb); (try clear hb2); (try clear hk); (try clear hi)))
      go_loopg [40] k (fun kq v40 w' => ∃ (x40_1 : Int), v40 = .int .i64 x40_1 ∧ Aside0 (jvmcorelaw2_CodeChecks.l0 kq l0 l1 t230 y233 t236 t237 t238 t239 (y233.length : Int) x40_1 = some r) ∧ Aside0 (kq ≤ k) ∧ Aside0 (Kd.S k47 47 w' w.heap.size (fun _ => True) (.slice Ao15 t230.length co15) t230) ∧ Aside0 (Kd.R k39 39 w' w.heap.size (fun _ => True) (.slice Ao16 y233.length co16) y233) ∧ Aside0 (Below w.heap.size w w'))
      case atStart => exact ⟨(0), (by first | rfl | (simp; done) | (simp [*]; done)), H', ⟨Nat.le_refl _⟩, ⟨by (with_reducible repeat (first | apply Kd.S_alloc | apply Kd.S_drewN | apply Kd.S_drew)); exact HO232.out⟩, ⟨by (with_reducible repeat (first | apply Kd.R_alloc | apply Kd.R_drewN | apply Kd.R_drew)); exact HO235.out⟩, ⟨by repeat (first | (with_reducible first | exact HB.out | apply below_alloc | apply pw_below_drewN | apply below_drew1) | exact HB.out)⟩⟩
      case round =>
        clear H'
        try clear c1
        try clear p2
        try clear c5
        try clear c5b0
        try clear p6
        try clear c8
        obtain ⟨x40_1, rfl, HA, HK1, HO_7, HO_8, HB⟩ := hrel
        cases gk with
        | zero => exact absurd HA.out (by simp [jvmcorelaw2_CodeChecks.l0])
        | succ k1 =>
          have H := HA.out
          clear HA
          simp only [jvmcorelaw2_CodeChecks.l0] at H
          by_cases c18 : x40_1 < (y233.length : Int)
          · rw [if_pos c18] at H
            have c18b0 : decide (x40_1 < (y233.length : Int)) = true := decide_eq_true c18
            clear c18
            by_cases c19 : 0 ≤ x40_1
            · rw [if_pos c19] at H
              have c19b0 : decide (0 ≤ x40_1) = true := decide_eq_true c19
              clear c19
              by_cases c20 : x40_1 < (l1.length : Int)
              · rw [if_pos c20] at H
                have c20b0 : decide (x40_1 < (l1.length : Int)) = true := decide_eq_true c20
                clear c20
                by_cases c21 : x40_1 < (y233.length : Int)
                · rw [if_pos c21] at H
                  have c21b0 : decide (x40_1 < (y233.length : Int)) = true := decide_eq_true c21
                  clear c21
                  by_cases c22 : (!(((rd_T39 l1 x40_1).f0) == ((rd_T39 y233 x40_1).f0)) || (!((((rd_T39 l1 x40_1).f1).toList) == (((rd_T39 y233 x40_1).f1).toList)) || (!(((rd_T39 l1 x40_1).f2) == ((rd_T39 y233 x40_1).f2)) || (!(((rd_T39 l1 x40_1).f3) == ((rd_T39 y233 x40_1).f3)) || (!(((rd_T39 l1 x40_1).f4) == ((rd_T39 y233 x40_1).f4))))))) = true
                  · rw [if_pos c22] at H
                    have c22b0 : (!(((rd_T39 l1 x40_1).f0) == ((rd_T39 y233 x40_1).f0)) || (!((((rd_T39 l1 x40_1).f1).toList) == (((rd_T39 y233 x40_1).f1).toList)) || (!(((rd_T39 l1 x40_1).f2) == ((rd_T39 y233 x40_1).f2)) || (!(((rd_T39 l1 x40_1).f3) == ((rd_T39 y233 x40_1).f3)) || (!(((rd_T39 l1 x40_1).f4) == ((rd_T39 y233 x40_1).f4))))))) = true := c22
                    clear c22
                    obtain rfl := Option.some.inj H
                    have p240 : 0 ≤ (x40_1 : Int) := of_decide_eq_true (by first | (with_reducible assumption) | assumption)
                    have q240 : x40_1 < (l1.length : Int) := of_decide_eq_true (by first | (with_reducible assumption) | assumption)
                    obtain ⟨ad240, e240, hx240_0, hx240_1, hx240_2, hx240_3, hx240_4⟩ := at_T39 HR1.out x40_1 p240 q240
                    cases e240
                    replace hx240_0 := (HB.out.cell (World.block_lt_of_cell? w _ hx240_0)).trans hx240_0
                    replace hx240_1 := (HB.out.cell (World.block_lt_of_cell? w _ hx240_1)).trans hx240_1
                    replace hx240_2 := (HB.out.cell (World.block_lt_of_cell? w _ hx240_2)).trans hx240_2
                    replace hx240_3 := (HB.out.cell (World.block_lt_of_cell? w _ hx240_3)).trans hx240_3
                    replace hx240_4 := (HB.out.cell (World.block_lt_of_cell? w _ hx240_4)).trans hx240_4
                    replace p240 := eq_true p240
                    replace q240 := eq_true q240
                    have p241 : 0 ≤ (x40_1 : Int) := of_decide_eq_true (by first | (with_reducible assumption) | assumption)
                    have q241 : x40_1 < (y233.length : Int) := of_decide_eq_true (by first | (with_reducible assumption) | assumption)
                    obtain ⟨ad241, e241, hx241_0, hx241_1, hx241_2, hx241_3, hx241_4⟩ := at_T39 (Kd.R_reads' HO_8.out).2.2 x40_1 p241 q241
                    cases e241
                    replace p241 := eq_true p241
                    replace q241 := eq_true q241
                    go_wp2
                    repeat (go_quiet (fail); try go_wp2)
                    go_ret
                    exact ⟨by first | rfl | (simp [errW_none, errW_some] <;> rfl) | (simp [*, errW_none, errW_some] <;> rfl), by repeat (first | (with_reducible first | exact HB.out | apply below_alloc | apply pw_below_drewN | apply below_drew1) | exact HB.out)⟩
                  · rw [if_neg c22] at H
                    have c22b0 : (!(((rd_T39 l1 x40_1).f0) == ((rd_T39 y233 x40_1).f0)) || (!((((rd_T39 l1 x40_1).f1).toList) == (((rd_T39 y233 x40_1).f1).toList)) || (!(((rd_T39 l1 x40_1).f2) == ((rd_T39 y233 x40_1).f2)) || (!(((rd_T39 l1 x40_1).f3) == ((rd_T39 y233 x40_1).f3)) || (!(((rd_T39 l1 x40_1).f4) == ((rd_T39 y233 x40_1).f4))))))) = false := by simpa using c22
                    clear c22
                    have H' := Aside0.mk H
                    clear H
                    have p240 : 0 ≤ (x40_1 : Int) := of_decide_eq_true (by first | (with_reducible assumption) | assumption)
                    have q240 : x40_1 < (l1.length : Int) := of_decide_eq_true (by first | (with_reducible assumption) | assumption)
                    obtain ⟨ad240, e240, hx240_0, hx240_1, hx240_2, hx240_3, hx240_4⟩ := at_T39 HR1.out x40_1 p240 q240
                    cases e240
                    replace hx240_0 := (HB.out.cell (World.block_lt_of_cell? w _ hx240_0)).trans hx240_0
                    replace hx240_1 := (HB.out.cell (World.block_lt_of_cell? w _ hx240_1)).trans hx240_1
                    replace hx240_2 := (HB.out.cell (World.block_lt_of_cell? w _ hx240_2)).trans hx240_2
                    replace hx240_3 := (HB.out.cell (World.block_lt_of_cell? w _ hx240_3)).trans hx240_3
                    replace hx240_4 := (HB.out.cell (World.block_lt_of_cell? w _ hx240_4)).trans hx240_4
                    replace p240 := eq_true p240
                    replace q240 := eq_true q240
                    have p241 : 0 ≤ (x40_1 : Int) := of_decide_eq_true (by first | (with_reducible assumption) | assumption)
                    have q241 : x40_1 < (y233.length : Int) := of_decide_eq_true (by first | (with_reducible assumption) | assumption)
                    obtain ⟨ad241, e241, hx241_0, hx241_1, hx241_2, hx241_3, hx241_4⟩ := at_T39 (Kd.R_reads' HO_8.out).2.2 x40_1 p241 q241
                    cases e241
                    replace p241 := eq_true p241
                    replace q241 := eq_true q241
                    go_wp2
                    repeat (go_quiet (fail); try go_wp2)
                    go_roundg k1
                    case measure => have := HK1.out; omega
                    case rel => exact ⟨(wrap64 (x40_1 + 1)), (by first | rfl | (simp; done) | (simp [*]; done)), H', ⟨by have := HK1.out; omega⟩, ⟨by (with_reducible repeat (first | apply Kd.S_alloc | apply Kd.S_drewN | apply Kd.S_drew)); exact HO_7.out⟩, ⟨by (with_reducible repeat (first | apply Kd.R_alloc | apply Kd.R_drewN | apply Kd.R_drew)); exact HO_8.out⟩, ⟨by repeat (first | (with_reducible first | exact HB.out | apply below_alloc | apply pw_below_drewN | apply below_drew1) | exact HB.out)⟩⟩
                · rw [if_neg c21] at H
                  exact absurd H (by simp)
              · rw [if_neg c20] at H
                exact absurd H (by simp)
            · rw [if_neg c19] at H
              exact absurd H (by simp)
          · rw [if_neg c18] at H
            have c18b0 : decide (x40_1 < (y233.length : Int)) = false := decide_eq_false c18
            clear c18
            by_cases c23 : t236 = t238
            · rw [if_pos c23] at H
              have c23b0 : (t236 == t238) = true := beq_iff_eq.mpr c23
              have c23b1 : (t236 != t238) = false := bne_eq_false_iff_eq.mpr c23
              clear c23
              by_cases c24 : t237 = t239
              · rw [if_pos c24] at H
                have c24b0 : (t237 == t239) = true := beq_iff_eq.mpr c24
                have c24b1 : (t237 != t239) = false := bne_eq_false_iff_eq.mpr c24
                clear c24
                replace H := Option.bind_eq_some_iff.mp H
                obtain ⟨t242, A250, H⟩ := H
                replace H : (some t242) = some r := H
                have A25 := Aside0.mk A250
                clear A250
                obtain rfl := Option.some.inj H
                go_wp2_with (first | (go_at_call 20; (with_reducible refine (jvmcorelaw2_same.calls k1 _ _ l0 _ _ t230 t242 _ ?side1 ?side2 ?side3 ?side4 A25.out).mono ?_); (case side1 => repeat (first | exact (Kd.C_below HR0.out HB.out) | (with_reducible refine Kd.C_alloc ?_ _) | (with_reducible refine Kd.C_drewN ?_ _) | (with_reducible refine Kd.C_drew ?_))); (case side2 => exact HC0.out); (case side3 => repeat (first | exact (Kd.S_reads' HO_7.out).2.2 | (with_reducible refine Kd.C_alloc ?_ _) | (with_reducible refine Kd.C_drewN ?_ _) | (with_reducible refine Kd.C_drew ?_))); (case side4 => exact (Kd.S_reads' HO_7.out).2.1); rintro e w26 ⟨rfl, hb⟩; have n0_ := Aside0.mk (Kd.S_below (by (with_reducible repeat (first | apply Kd.S_alloc | apply Kd.S_drewN | apply Kd.S_drew)); exact HO_7.out) hb); have n1_ := Aside0.mk (Kd.R_below (by (with_reducible repeat (first | apply Kd.R_alloc | apply Kd.R_drewN | apply Kd.R_drew)); exact HO_8.out) hb); have n2_ := Aside0.mk (below_step (by repeat (first | (with_reducible first | exact HB.out | apply below_alloc | apply pw_below_drewN | apply below_drew1) | exact HB.out)) hb); clear HO_7; clear HO_8; clear HB; have HO_7 := n0_; have HO_8 := n1_; have HB := n2_; clear n0_ n1_ n2_; (try clear hb); (try clear hb2); (try clear hk); (try clear hi)))
                repeat (go_quiet (first | (go_at_call 20; (with_reducible refine (jvmcorelaw2_same.calls k1 _ _ l0 _ _ t230 t242 _ ?side1 ?side2 ?side3 ?side4 A25.out).mono ?_); (case side1 => repeat (first | exact (Kd.C_below HR0.out HB.out) | (with_reducible refine Kd.C_alloc ?_ _) | (with_reducible refine Kd.C_drewN ?_ _) | (with_reducible refine Kd.C_drew ?_))); (case side2 => exact HC0.out); (case side3 => repeat (first | exact (Kd.S_reads' HO_7.out).2.2 | (with_reducible refine Kd.C_alloc ?_ _) | (with_reducible refine Kd.C_drewN ?_ _) | (with_reducible refine Kd.C_drew ?_))); (case side4 => exact (Kd.S_reads' HO_7.out).2.1); rintro e w26 ⟨rfl, hb⟩; have n0_ := Aside0.mk (Kd.S_below (by (with_reducible repeat (first | apply Kd.S_alloc | apply Kd.S_drewN | apply Kd.S_drew)); exact HO_7.out) hb); have n1_ := Aside0.mk (Kd.R_below (by (with_reducible repeat (first | apply Kd.R_alloc | apply Kd.R_drewN | apply Kd.R_drew)); exact HO_8.out) hb); have n2_ := Aside0.mk (below_step (by repeat (first | (with_reducible first | exact HB.out | apply below_alloc | apply pw_below_drewN | apply below_drew1) | exact HB.out)) hb); clear HO_7; clear HO_8; clear HB; have HO_7 := n0_; have HO_8 := n1_; have HB := n2_; clear n0_ n1_ n2_; (try clear hb); (try clear hb2); (try clear hk); (try clear hi))); try go_wp2_with (first | (go_at_call 20; (with_reducible refine (jvmcorelaw2_same.calls k1 _ _ l0 _ _ t230 t242 _ ?side1 ?side2 ?side3 ?side4 A25.out).mono ?_); (case side1 => repeat (first | exact (Kd.C_below HR0.out HB.out) | (with_reducible refine Kd.C_alloc ?_ _) | (with_reducible refine Kd.C_drewN ?_ _) | (with_reducible refine Kd.C_drew ?_))); (case side2 => exact HC0.out); (case side3 => repeat (first | exact (Kd.S_reads' HO_7.out).2.2 | (with_reducible refine Kd.C_alloc ?_ _) | (with_reducible refine Kd.C_drewN ?_ _) | (with_reducible refine Kd.C_drew ?_))); (case side4 => exact (Kd.S_reads' HO_7.out).2.1); rintro e w26 ⟨rfl, hb⟩; have n0_ := Aside0.mk (Kd.S_below (by (with_reducible repeat (first | apply Kd.S_alloc | apply Kd.S_drewN | apply Kd.S_drew)); exact HO_7.out) hb); have n1_ := Aside0.mk (Kd.R_below (by (with_reducible repeat (first | apply Kd.R_alloc | apply Kd.R_drewN | apply Kd.R_drew)); exact HO_8.out) hb); have n2_ := Aside0.mk (below_step (by repeat (first | (with_reducible first | exact HB.out | apply below_alloc | apply pw_below_drewN | apply below_drew1) | exact HB.out)) hb); clear HO_7; clear HO_8; clear HB; have HO_7 := n0_; have HO_8 := n1_; have HB := n2_; clear n0_ n1_ n2_; (try clear hb); (try clear hb2); (try clear hk); (try clear hi))))
                go_ret
                exact ⟨by first | rfl | (simp [errW_none, errW_some] <;> rfl) | (simp [*, errW_none, errW_some] <;> rfl), by repeat (first | (with_reducible first | exact HB.out | apply below_alloc | apply pw_below_drewN | apply below_drew1) | exact HB.out)⟩
              · rw [if_neg c24] at H
                have c24b0 : (t237 == t239) = false := beq_eq_false_iff_ne.mpr c24
                have c24b1 : (t237 != t239) = true := bne_iff_ne.mpr c24
                obtain rfl := Option.some.inj H
                go_wp2
                repeat (go_quiet (fail); try go_wp2)
                go_ret
                exact ⟨by first | rfl | (simp [errW_none, errW_some] <;> rfl) | (simp [*, errW_none, errW_some] <;> rfl), by repeat (first | (with_reducible first | exact HB.out | apply below_alloc | apply pw_below_drewN | apply below_drew1) | exact HB.out)⟩
            · rw [if_neg c23] at H
              have c23b0 : (t236 == t238) = false := beq_eq_false_iff_ne.mpr c23
              have c23b1 : (t236 != t238) = true := bne_iff_ne.mpr c23
              obtain rfl := Option.some.inj H
              go_wp2
              repeat (go_quiet (fail); try go_wp2)
              go_ret
              exact ⟨by first | rfl | (simp [errW_none, errW_some] <;> rfl) | (simp [*, errW_none, errW_some] <;> rfl), by repeat (first | (with_reducible first | exact HB.out | apply below_alloc | apply pw_below_drewN | apply below_drew1) | exact HB.out)⟩
    · rw [if_neg c8] at H
      exact absurd H (by simp)
end Go.Proofs.YtfnjbmpolggdeaaDoor.CC
end
section
namespace Go.Proofs.YtfnjbmpolggdeaaDoor
open Go.Lib
set_option linter.unusedVariables false
set_option linter.unusedSimpArgs false
theorem indexAny_iff (c : List UInt8) : ∀ l : List UInt8, (0 ≤ indexAny l c) ↔ l.any (fun b => c.contains b) = true
  | [] => by simp [indexAny]
  | b :: l => by
    have ih := indexAny_iff c l
    have hg := indexAny_ge c l
    unfold indexAny
    rw [List.any_cons]
    cases h : c.contains b with
    | true => simp
    | false =>
      rw [if_neg (by simp), Bool.false_or, ← ih]
      split
      · rename_i h1; have := beq_iff_eq.1 h1; constructor <;> intro h2 <;> omega
      · rename_i h1
        have : ¬ indexAny l c = -1 := fun e => h1 (by rw [e]; rfl)
        constructor <;> intro h2 <;> omega
def hasB (l c : List UInt8) : Bool := l.any fun b => c.contains b
def partL (l : List UInt8) : Bool := !l.isEmpty && !hasB l [46, 59, 91, 47]
def segs : List UInt8 → List (List UInt8)
  | [] => [[]]
  | c :: l => if c = 47 then [] :: segs l else match segs l with | [] => [[c]] | p :: ps => (c :: p) :: ps
theorem segs_ne (l : List UInt8) : segs l ≠ [] := by
  cases l with
  | nil => simp [segs]
  | cons c l => unfold segs; split; simp; split <;> simp
theorem segs_slash (l : List UInt8) : segs (47 :: l) = [] :: segs l := by simp [segs]
theorem segs_app {a l : List UInt8} (ha : ∀ b ∈ a, b ≠ 47) : ∀ p ps, segs l = p :: ps → segs (a ++ l) = (a ++ p) :: ps := by
  induction a with
  | nil => intro p ps h; exact h
  | cons c a ih =>
    intro p ps h
    have := ih (fun b hb => ha b (by simp [hb])) p ps h
    rw [List.cons_append, segs, if_neg (ha c (by simp)), this]; rfl
theorem segs_one {a : List UInt8} (ha : ∀ b ∈ a, b ≠ 47) : segs a = [a] := by
  have := segs_app (l := []) ha [] [] rfl
  rwa [List.append_nil] at this
theorem segs_cut {a l : List UInt8} (ha : ∀ b ∈ a, b ≠ 47) : segs (a ++ 47 :: l) = a :: segs l := by
  have := segs_app (l := 47 :: l) ha [] (segs l) (segs_slash l)
  rwa [List.append_nil] at this
theorem indexByte_cases (l : List UInt8) (c : UInt8) : (indexByte l c = -1 ∧ ∀ b ∈ l, b ≠ c) ∨ ∃ m : Nat, indexByte l c = m ∧ m < l.length ∧ (∀ b ∈ l.take m, b ≠ c) ∧ l.drop m = c :: l.drop (m + 1) := by
  induction l with
  | nil => exact .inl ⟨rfl, by simp⟩
  | cons b l ih =>
    unfold indexByte
    by_cases h : b = c
    · subst h
      exact .inr ⟨0, by simp, by simp, by simp, by simp⟩
    · rw [if_neg (by simpa using h)]
      rcases ih with ⟨h1, h2⟩ | ⟨m, h1, h2, h3, h4⟩
      · left
        rw [h1]
        refine ⟨rfl, fun x hx => ?_⟩
        rcases List.mem_cons.1 hx with rfl | hx
        · exact h
        · exact h2 x hx
      · right
        refine ⟨m + 1, ?_, by simp; omega, fun x hx => ?_, by simpa using h4⟩
        · rw [h1, if_neg (by simp)]; simp
        · rw [List.take_succ_cons] at hx
          rcases List.mem_cons.1 hx with rfl | hx
          · exact h
          · exact h3 x hx
theorem splitK_segs : ∀ (k : Nat) (l : List UInt8), l.count 47 = k → splitK [47] 0 k l = segs l
  | 0, l, h => by
    rw [splitK, segs_one (fun b hb e => by subst e; exact (Nat.ne_of_gt (List.count_pos_iff.2 hb)) h)]
  | k + 1, l, h => by
    rcases indexByte_cases l 47 with ⟨h1, h2⟩ | ⟨m, h1, h2, h3, h4⟩
    · exact absurd (List.count_eq_zero.2 (fun hb => h2 47 hb rfl)) (by omega)
    · have hl : l = l.take m ++ 47 :: l.drop (m + 1) := by rw [← h4, List.take_append_drop]
      have hc : (l.drop (m + 1)).count 47 = k := by
        have h5 : (l.take m).count 47 = 0 := List.count_eq_zero.2 (fun hb => h3 47 hb rfl)
        have h6 : l.count 47 = (l.take m).count 47 + (47 :: l.drop (m + 1)).count 47 := by
          conv => lhs; rw [hl]
          rw [List.count_append]
        rw [List.count_cons_self] at h6
        omega
      rw [splitK, index_one, h1, if_neg (by simp)]
      have e1 : ((m : Int)).toNat = m := by omega
      rw [e1, Nat.add_zero, show m + ([47] : List UInt8).length = m + 1 from rfl, splitK_segs k _ hc]
      conv => rhs; rw [hl]
      rw [segs_cut h3]
theorem split_segs (l : List UInt8) : splitK [47] 0 (l.count 47) l = segs l := splitK_segs _ l rfl
def pathL (l : List UInt8) : Bool := (segs l).all partL
theorem partL_noslash {l : List UInt8} (h : ∀ b ∈ l, b ≠ 47) : partL l = ((l.all fun b => !([46, 59, 91] : List UInt8).contains b) && !l.isEmpty) := by
  have e : hasB l [46, 59, 91, 47] = hasB l [46, 59, 91] := by
    unfold hasB
    rw [Bool.eq_iff_iff, List.any_eq_true, List.any_eq_true]
    constructor
    · rintro ⟨b, hb, hc⟩
      refine ⟨b, hb, ?_⟩
      have := h b hb
      simp at hc ⊢
      rcases hc with hc | hc | hc | hc
      · exact .inl hc
      · exact .inr (.inl hc)
      · exact .inr (.inr hc)
      · exact absurd hc this
    · rintro ⟨b, hb, hc⟩
      refine ⟨b, hb, ?_⟩
      simp at hc ⊢
      rcases hc with hc | hc | hc
      · exact .inl hc
      · exact .inr (.inl hc)
      · exact .inr (.inr (.inl hc))
  have e2 : (l.all fun b => !([46, 59, 91] : List UInt8).contains b) = !hasB l [46, 59, 91] := by
    unfold hasB
    rw [Bool.eq_iff_iff]
    simp [List.any_eq_true, List.all_eq_true]
  unfold partL
  rw [e, e2, Bool.and_comm]
def valB (b : UInt8) : Bool := ([66, 67, 68, 70, 73, 74, 83, 90] : List UInt8).contains b
def lenL (l : List UInt8) : Nat := match indexByte l 59 with | .ofNat m => if pathL (l.take m) then m + 2 else 0 | _ => 0
theorem lenL_none {l : List UInt8} (h : indexByte l 59 = -1) : lenL l = 0 := by unfold lenL; rw [h]; rfl
theorem lenL_some {l : List UInt8} {m : Nat} (h : indexByte l 59 = m) : lenL l = if pathL (l.take m) then m + 2 else 0 := by unfold lenL; rw [h]
def oneL : List UInt8 → Nat → Nat
  | [], d => 0
  | b :: l, d =>
    if 255 < d then 0
    else if valB b then 1
    else if b = 91 then (if oneL l (d + 1) = 0 then 0 else oneL l (d + 1) + 1)
    else if b = 76 then lenL l
    else 0
theorem oneL_le : ∀ (l : List UInt8) (d : Nat), oneL l d ≤ l.length
  | [], _ => Nat.le_refl _
  | b :: l, d => by
    have ih := oneL_le l (d + 1)
    unfold oneL
    split
    · simp
    · split
      · simp
      · split
        · split <;> simp <;> omega
        · split
          · rcases indexByte_cases l 59 with ⟨h1, _⟩ | ⟨m, h1, h2, _⟩
            · rw [lenL_none h1]; exact Nat.zero_le _
            · rw [lenL_some h1]
              split <;> simp <;> omega
          · simp
def fieldL (l : List UInt8) : Bool := !l.isEmpty && (oneL l 0 == l.length)
def brs : List UInt8 → Nat
  | [] => 0
  | b :: l => if b = 91 then brs l + 1 else 0
theorem brs_le (l : List UInt8) : brs l ≤ l.length := by
  induction l with
  | nil => exact Nat.le_refl _
  | cons b l ih => unfold brs; split <;> simp <;> omega
def tailL (l : List UInt8) : Nat :=
  match l with
  | [] => 0
  | b :: l => if valB b then 1 else if b = 76 then lenL l else 0
theorem tailL_cons (b : UInt8) (l : List UInt8) : tailL (b :: l) = if valB b then 1 else if b = 76 then lenL l else 0 := rfl
theorem oneL_brs : ∀ (l : List UInt8) (d : Nat), oneL l d = if 255 < d + brs l ∨ brs l = l.length then 0 else if tailL (l.drop (brs l)) = 0 then 0 else brs l + tailL (l.drop (brs l))
  | [], d => by simp [oneL, brs]
  | b :: l, d => by
    have ih := oneL_brs l (d + 1)
    have hv : valB 91 = false := by decide
    by_cases hb : b = 91
    · subst hb
      have e : brs (91 :: l) = brs l + 1 := by simp [brs]
      rw [e, List.length_cons, List.drop_succ_cons]
      unfold oneL
      rw [hv]
      by_cases h1 : 255 < d
      · rw [if_pos h1, if_pos (.inl (by omega))]
      · rw [if_neg h1, if_neg (by simp), if_pos rfl, ih]
        by_cases h2 : 255 < d + 1 + brs l ∨ brs l = l.length
        · rw [if_pos h2, if_pos rfl, if_pos (by rcases h2 with h2 | h2; exact .inl (by omega); exact .inr (by omega))]
        · rw [if_neg h2, if_neg (c := 255 < d + (brs l + 1) ∨ brs l + 1 = l.length + 1) (fun h => h2 (by rcases h with h | h; exact .inl (by omega); exact .inr (by omega)))]
          by_cases h3 : tailL (l.drop (brs l)) = 0
          · simp only [if_pos h3, if_pos trivial]
          · simp only [if_neg h3]; rw [if_neg (by omega)]; omega
    · have e : brs (b :: l) = 0 := by simp [brs, hb]
      rw [e, List.drop_zero]
      unfold oneL
      by_cases h1 : 255 < d
      · rw [if_pos h1, if_pos (.inl (by omega))]
      · rw [if_neg h1, if_neg (c := 255 < d + 0 ∨ 0 = (b :: l).length) (by simp; omega), if_neg hb]
        have : tailL (b :: l) = (if valB b then 1 else if b = 76 then lenL l else 0) := rfl
        rw [← this]
        split <;> omega
theorem segs_le : ∀ (l : List UInt8), ∀ p ∈ segs l, p.length ≤ l.length
  | [], p, h => by simp [segs] at h; subst h; simp
  | c :: l, p, h => by
    have ih := segs_le l
    unfold segs at h
    split at h
    · rcases List.mem_cons.1 h with rfl | h
      · simp
      · have := ih p h; simp; omega
    · cases hs : segs l with
      | nil => exact absurd hs (segs_ne l)
      | cons q qs =>
        rw [hs] at h ih
        rcases List.mem_cons.1 h with rfl | h
        · have := ih q (by simp); simp; omega
        · have := ih p (by simp [h]); simp; omega
end Go.Proofs.YtfnjbmpolggdeaaDoor
end
section
namespace Go.Proofs.YtfnjbmpolggdeaaDoor.CC
open Go.RowKit Go.Proofs.YtfnjbmpolggdeaaDoorW.PrintWords
set_option linter.unusedVariables false
set_option linter.unusedSimpArgs false
set_option maxRecDepth 10000
abbrev L (s : ByteArray) : List UInt8 := s.data.toList
theorem L_size (s : ByteArray) : (L s).length = s.size := (Lib.size_eq s).symm
theorem L_ext (s : ByteArray) (a b : Nat) : L (s.extract a b) = ((L s).drop a).take (b - a) := Lib.extract_data s a b
theorem L_to (s : ByteArray) : s.toList = L s := Lib.toList_data s
theorem wr {x : Int} (h0 : -9223372036854775808 ≤ x) (h1 : x < 9223372036854775808) : wrap64 x = x := by unfold wrap64; omega
theorem u8_iff (b c : UInt8) (z : Int) (hc : (c.toNat : Int) = z) : ((b.toNat : Int) = z) ↔ b = c := by
  constructor
  · intro h; apply UInt8.toNat_inj.1; omega
  · rintro rfl; exact hc
theorem bt_nat {s : ByteArray} {i : Nat} {b : UInt8} (hb : (L s)[i]? = some b) : bt s (i : Int) = (b.toNat : Int) := by
  have h : i < s.size := by rw [← L_size]; exact (List.getElem?_eq_some_iff.1 hb).1
  have h2 : ((i : Int)).toNat < s.size := by simpa using h
  rw [← bt_at s i h2]
  have h3 := Lib.data_getElem? s i h
  have h4 : s[i]'h = b := Option.some.inj (h3.symm.trans hb)
  simp only [Int.toNat_natCast, h4]
theorem L_get {s : ByteArray} {i : Nat} (h : i < s.size) : ∃ b, (L s)[i]? = some b ∧ (L s).drop i = b :: (L s).drop (i + 1) := by
  have h2 : i < (L s).length := by rw [L_size]; exact h
  exact ⟨(L s)[i], List.getElem?_eq_getElem h2, List.drop_eq_getElem_cons h2⟩
theorem any_eq {s : ByteArray} (c : ByteArray) (hs : s.size < 4294967281) (hc : 2 ≤ c.size ∧ c.size ≤ 1000 ∧ asciiB c) : strings_ContainsAny.f s c = some (hasB (L s) (L c)) := by
  unfold strings_ContainsAny.f strings_IndexAny.f
  rw [if_pos ⟨hs, hc.1, hc.2.1, hc.2.2⟩]
  simp only [Option.bind_some, Option.some.injEq]
  rw [Bool.eq_iff_iff, decide_eq_true_eq]
  exact indexAny_iff (L c) (L s)
theorem part_eq {s : ByteArray} (hs : s.size < 4294967281) : desc_part.f s = some (partL (L s)) := by
  unfold desc_part.f partL
  rw [L_to]
  by_cases h : L s = []
  · rw [if_pos h, h]; rfl
  · have : (L s).isEmpty = false := by cases hh : L s with | nil => exact absurd hh h | cons _ _ => rfl
    rw [if_neg h, any_eq ⟨#[46, 59, 91, 47]⟩ hs (by decide), this]; rfl
theorem slashes_segs (s : ByteArray) : (slashes s).map L = segs (L s) := by
  unfold slashes
  rw [Lib.splitB_data, countB_slash]
  exact split_segs (L s)
theorem path_l0 (ps : List ByteArray) (hp : ∀ p ∈ ps, p.size < 4294967281) (hn : ps.length ≤ 4294967296) : ∀ (d i : Nat), i ≤ ps.length → ps.length - i = d →
    Ev (fun k => desc_path.l0 k ps (ps.length : Int) (i : Int)) ((ps.drop i).all fun p => partL (L p)) := by
  intro d
  induction d with
  | zero =>
    intro i hi hd
    rw [List.drop_of_length_le (by omega)]
    refine Ev.step (f := fun _ => some true) (fun k => ?_) (Ev.now true)
    simp only [desc_path.l0]; rw [if_neg (by omega)]
  | succ d ih =>
    intro i hi hd
    have hlt : i < ps.length := by omega
    have hget : rdOf ByteArray.empty ps (i : Int) = ps[i] := by
      unfold rdOf; simp [List.getD_eq_getElem?_getD, List.getElem?_eq_getElem hlt]
    have hpe := part_eq (hp ps[i] (List.getElem_mem hlt))
    rw [List.drop_eq_getElem_cons hlt, List.all_cons]
    have h1 := ih (i + 1) (by omega) (by omega)
    cases hv : partL (L ps[i]) with
    | true =>
      rw [Bool.true_and]
      refine Ev.step (fun k => ?_) h1
      simp only [desc_path.l0]
      rw [if_pos (by omega), if_pos (by omega), if_pos (by omega), hget, hpe, hv]
      simp only [Option.bind_some, if_true]
      rw [wr (by omega) (by omega)]; rfl
    | false =>
      rw [Bool.false_and]
      refine Ev.step (f := fun _ => some false) (fun k => ?_) (Ev.now false)
      simp only [desc_path.l0]
      rw [if_pos (by omega), if_pos (by omega), if_pos (by omega), hget, hpe, hv]
      rfl
theorem slashes_small {s : ByteArray} : ∀ p ∈ slashes s, p.size ≤ s.size := by
  intro p hp
  have : L p ∈ segs (L s) := by rw [← slashes_segs]; exact List.mem_map_of_mem hp
  have := segs_le _ _ this
  rwa [L_size, L_size] at this
theorem path_ev (s : ByteArray) (hs : s.size < 4294967281) : Ev (fun k => desc_path.f k s) (pathL (L s)) := by
  have h1 : strings_Split.f s ⟨#[47]⟩ = some (slashes s) := by
    unfold strings_Split.f strings_genSplit.f
    rw [if_pos ⟨hs, rfl, rfl, rfl⟩]; rfl
  have hl : (slashes s).length ≤ 4294967296 := by
    have := slashes_le s
    have := countB_le_size s
    omega
  have h2 := path_l0 (slashes s) (fun p hp => Nat.lt_of_le_of_lt (slashes_small p hp) hs) hl _ 0 (Nat.zero_le _) rfl
  have h3 : ((slashes s).drop 0).all (fun p => partL (L p)) = pathL (L s) := by
    unfold pathL; rw [← slashes_segs, List.all_map]; rfl
  rw [h3] at h2
  refine Ev.congr (fun k => ?_) h2
  unfold desc_path.f
  rw [h1]; rfl
theorem without_eq {s : ByteArray} (c : ByteArray) (hs : s.size ≤ 1099511627776) (hc : c.size ≤ 1000) : jvmcoreref1_without.f s c = some (((L s).all fun b => !(L c).contains b) && !(L s).isEmpty) := by
  unfold jvmcoreref1_without.f
  rw [if_pos ⟨hs, by omega⟩]; rfl
theorem ref_path_l0 (s : ByteArray) (hs : s.size ≤ 1000000000) : ∀ (d i a : Nat), a ≤ i → i ≤ s.size → s.size - i = d → (∀ b ∈ ((L s).drop a).take (i - a), b ≠ 47) →
    Ev (fun k => jvmcoreref1_path.l0 k s (a : Int) (i : Int)) ((segs ((L s).drop a)).all partL) := by
  intro d
  induction d with
  | zero =>
    intro i a ha hi hd hno
    obtain rfl : i = s.size := by omega
    have hseg : L (s.extract a s.size) = (L s).drop a := by
      rw [L_ext, List.take_of_length_le (by rw [List.length_drop, L_size]; exact Nat.le_refl _)]
    rw [List.take_of_length_le (by rw [List.length_drop, L_size]; exact Nat.le_refl _)] at hno
    rw [segs_one hno]
    have hw := without_eq (s := s.extract a s.size) ⟨#[46, 59, 91]⟩ (by rw [ByteArray.size_extract]; omega) (by decide)
    rw [hseg] at hw
    have hp := partL_noslash hno
    rw [show L ⟨#[46, 59, 91]⟩ = [46, 59, 91] from rfl, ← hp] at hw
    refine Ev.step (f := fun k => jvmcoreref1_path.j1 k s (a : Int) (s.size : Int) true) (fun k => ?_) ?_
    · simp only [jvmcoreref1_path.l0]; rw [if_pos (Int.le_refl _), if_pos trivial]
    · simp only [List.all_cons, List.all_nil, Bool.and_true]
      cases hv : partL ((L s).drop a) with
      | true =>
        refine Ev.step (f := fun k => jvmcoreref1_path.l0 k s ((s.size + 1 : Nat) : Int) ((s.size + 1 : Nat) : Int)) (fun k => ?_) ?_
        · simp only [jvmcoreref1_path.j1]
          rw [if_pos trivial, if_pos (by omega), if_pos (by omega), if_pos (Int.le_refl _)]
          simp only [Int.toNat_natCast]
          rw [hw, hv]
          simp only [Option.bind_some, if_true]
          rw [wr (by omega) (by omega)]; rfl
        · refine Ev.step (f := fun _ => some true) (fun k => ?_) (Ev.now true)
          simp only [jvmcoreref1_path.l0]; rw [if_neg (by omega)]
      | false =>
        refine Ev.step (f := fun _ => some false) (fun k => ?_) (Ev.now false)
        simp only [jvmcoreref1_path.j1]
        rw [if_pos trivial, if_pos (by omega), if_pos (by omega), if_pos (Int.le_refl _)]
        simp only [Int.toNat_natCast]
        rw [hw, hv]
        rfl
  | succ d ih =>
    intro i a ha hi hd hno
    have hlt : i < s.size := by omega
    obtain ⟨b, hb, hdr⟩ := L_get hlt
    have hbt := bt_nat hb
    have hcut : (L s).drop a = ((L s).drop a).take (i - a) ++ b :: (L s).drop (i + 1) := by
      conv => lhs; rw [← List.take_append_drop (i - a) ((L s).drop a)]
      rw [List.drop_drop, show a + (i - a) = i by omega, hdr]
    by_cases hsl : b = 47
    · subst hsl
      have hseg : L (s.extract a i) = ((L s).drop a).take (i - a) := L_ext s a i
      have hw := without_eq (s := s.extract a i) ⟨#[46, 59, 91]⟩ (by rw [ByteArray.size_extract]; omega) (by decide)
      rw [hseg] at hw
      have hp := partL_noslash hno
      rw [show L ⟨#[46, 59, 91]⟩ = [46, 59, 91] from rfl, ← hp] at hw
      have h1 := ih (i + 1) (i + 1) (Nat.le_refl _) (by omega) (by omega) (by rw [Nat.sub_self, List.take_zero]; simp)
      rw [hcut, segs_cut hno, List.all_cons]
      refine Ev.step (f := fun k => jvmcoreref1_path.j1 k s (a : Int) (i : Int) true) (fun k => ?_) ?_
      · simp only [jvmcoreref1_path.l0]; rw [if_pos (by omega), if_neg (by omega), if_pos (by omega), if_pos (by omega), hbt]; rfl
      · cases hv : partL (((L s).drop a).take (i - a)) with
        | true =>
          rw [Bool.true_and]
          refine Ev.step (fun k => ?_) h1
          simp only [jvmcoreref1_path.j1]
          rw [if_pos trivial, if_pos (by omega), if_pos (by omega), if_pos (by omega)]
          simp only [Int.toNat_natCast]
          rw [hw, hv]
          simp only [Option.bind_some, if_true]
          rw [wr (by omega) (by omega)]; rfl
        | false =>
          rw [Bool.false_and]
          refine Ev.step (f := fun _ => some false) (fun k => ?_) (Ev.now false)
          simp only [jvmcoreref1_path.j1]
          rw [if_pos trivial, if_pos (by omega), if_pos (by omega), if_pos (by omega)]
          simp only [Int.toNat_natCast]
          rw [hw, hv]
          rfl
    · have h1 := ih (i + 1) a (by omega) (by omega) (by omega) (by
        intro x hx
        rw [show i + 1 - a = (i - a) + 1 by omega, List.take_add_one, List.getElem?_drop, show a + (i - a) = i by omega, hb] at hx
        rcases List.mem_append.1 hx with hx | hx
        · exact hno x hx
        · simp at hx; rw [hx]; exact hsl)
      have hne : ((b.toNat : Int) == 47) = false := by
        rw [beq_eq_false_iff_ne]; intro h; exact hsl ((u8_iff b 47 47 rfl).1 h)
      refine Ev.step (f := fun k => jvmcoreref1_path.j1 k s (a : Int) (i : Int) false) (fun k => ?_) ?_
      · simp only [jvmcoreref1_path.l0]; rw [if_pos (by omega), if_neg (by omega), if_pos (by omega), if_pos (by omega), hbt, hne]
      · refine Ev.step (fun k => ?_) h1
        simp only [jvmcoreref1_path.j1]
        rw [if_neg (by simp), wr (by omega) (by omega)]; rfl
theorem ref_path_ev (s : ByteArray) (hs : s.size ≤ 1000000000) : Ev (fun k => jvmcoreref1_path.f k s) (pathL (L s)) := by
  have h := ref_path_l0 s hs _ 0 0 (Nat.le_refl _) (Nat.zero_le _) rfl (by simp)
  rw [List.drop_zero] at h
  exact h
theorem brs_at : ∀ (l : List UInt8) (n : Nat), n < brs l → l[n]? = some 91
  | [], n, h => by simp [brs] at h
  | b :: l, n, h => by
    unfold brs at h
    split at h
    · rename_i hb
      cases n with
      | zero => simp [hb]
      | succ n => simpa using brs_at l n (by omega)
    · omega
theorem brs_end : ∀ (l : List UInt8) (b : UInt8), l[brs l]? = some b → b ≠ 91
  | [], b, h => by simp [brs] at h
  | c :: l, b, h => by
    unfold brs at h
    split at h
    · exact brs_end l b (by simpa using h)
    · rename_i hc; simp at h; subst h; exact hc
theorem lits_eq (b : UInt8) : decide (Lib.indexByte (L ⟨#[66, 67, 68, 70, 73, 74, 83, 90]⟩) b ≥ 0) = valB b := (Lib.contains_iff_indexByte _ b).symm
theorem back_u8 (b : UInt8) : ((b.toNat : Int)).toNat.toUInt8 = b := by simp
theorem indexByte_cons_ne {b c : UInt8} {l : List UInt8} (h : b ≠ c) : Lib.indexByte (b :: l) c = if Lib.indexByte l c = -1 then -1 else Lib.indexByte l c + 1 := by
  conv => lhs; unfold Lib.indexByte
  rw [if_neg (by simpa using h)]
  by_cases h2 : Lib.indexByte l c = -1
  · rw [if_pos h2, if_pos (by simp [h2])]
  · rw [if_neg h2, if_neg (by simpa using h2)]
theorem wr_succ {n : Nat} (h : n ≤ 1000000000) : wrap64 ((n : Int) + 1) = ((n + 1 : Nat) : Int) := (wr (by omega) (by omega)).trans (by omega)
theorem wr_len {n m : Nat} (h : n + m ≤ 1000000000) : wrap64 ((n : Int) + ((m : Int) + 1)) = ((n + 1 + m : Nat) : Int) := (wr (by omega) (by omega)).trans (by omega)
theorem lit_ev (b : UInt8) : strings_IndexByte.f ⟨#[66, 67, 68, 70, 73, 74, 83, 90]⟩ (b.toNat : Int) = some (Lib.indexByte (L ⟨#[66, 67, 68, 70, 73, 74, 83, 90]⟩) b) := by
  unfold strings_IndexByte.f; rw [back_u8]
theorem j2_val (s : ByteArray) (hs : s.size ≤ 1000000000) (n : Nat) (hn : n < s.size) (b : UInt8) (hb : (L s)[n]? = some b) (hv : valB b = true) (k : Nat) : desc_next.j2 (k + 1) s (n : Int) false = some ((n + 1 : Nat) : Int) := by
  have hle : Lib.indexByte (L ⟨#[66, 67, 68, 70, 73, 74, 83, 90]⟩) b ≥ 0 := of_decide_eq_true ((lits_eq b).trans hv)
  have c5 : (0 : Int) ≤ (n : Int) := by omega
  have c6 : (n : Int) < (s.size : Int) := by omega
  have e1 := wr_succ (n := n) (by omega)
  simp only [desc_next.j2, if_neg (show ¬ (false = true) by simp), if_pos c5, if_pos c6, bt_nat hb, lit_ev, Option.bind_some, if_pos hle, e1]
theorem j2_other (s : ByteArray) (n : Nat) (hn : n < s.size) (b : UInt8) (hb : (L s)[n]? = some b) (hv : valB b = false) (h76 : b ≠ 76) (k : Nat) : desc_next.j2 (k + 1) s (n : Int) false = some 0 := by
  have hle : ¬ Lib.indexByte (L ⟨#[66, 67, 68, 70, 73, 74, 83, 90]⟩) b ≥ 0 := of_decide_eq_false ((lits_eq b).trans hv)
  have c5 : (0 : Int) ≤ (n : Int) := by omega
  have c6 : (n : Int) < (s.size : Int) := by omega
  have c8 : ¬ ((b.toNat : Int) = 76) := fun h => h76 ((u8_iff b 76 76 rfl).1 h)
  simp only [desc_next.j2, if_neg (show ¬ (false = true) by simp), if_pos c5, if_pos c6, bt_nat hb, lit_ev, Option.bind_some, if_neg hle, if_neg c8]
theorem ix_eq (s : ByteArray) (n : Nat) (hdr : (L s).drop n = 76 :: (L s).drop (n + 1)) : strings_IndexByte.f (s.extract n s.size) 59 = some (if Lib.indexByte ((L s).drop (n + 1)) 59 = -1 then -1 else Lib.indexByte ((L s).drop (n + 1)) 59 + 1) := by
  unfold strings_IndexByte.f
  have : L (s.extract n s.size) = 76 :: (L s).drop (n + 1) := by
    rw [L_ext, List.take_of_length_le (by rw [List.length_drop, L_size]; exact Nat.le_refl _), hdr]
  rw [show (s.extract n s.size).data.toList = 76 :: (L s).drop (n + 1) from this, show ((59 : Int)).toNat.toUInt8 = 59 from rfl, indexByte_cons_ne (by decide)]
theorem j2_none (s : ByteArray) (n : Nat) (hn : n < s.size) (hb : (L s)[n]? = some 76) (hdr : (L s).drop n = 76 :: (L s).drop (n + 1)) (h1 : Lib.indexByte ((L s).drop (n + 1)) 59 = -1) (k : Nat) : desc_next.j2 (k + 1) s (n : Int) false = some 0 := by
  have hle : ¬ Lib.indexByte (L ⟨#[66, 67, 68, 70, 73, 74, 83, 90]⟩) 76 ≥ 0 := of_decide_eq_false (lits_eq 76)
  have c5 : (0 : Int) ≤ (n : Int) := by omega
  have c6 : (n : Int) < (s.size : Int) := by omega
  have c7 : (n : Int) ≤ (s.size : Int) := by omega
  have c8 : (((76 : UInt8).toNat : Nat) : Int) = 76 := rfl
  have hix := ix_eq s n hdr
  rw [h1, if_pos rfl] at hix
  simp only [desc_next.j2, if_neg (show ¬ (false = true) by simp), if_pos c5, if_pos c6, bt_nat hb, lit_ev, Option.bind_some, if_neg hle, if_pos c8, if_pos c7, Int.toNat_natCast, hix, if_pos (show (-1 : Int) < 0 by decide)]
theorem j2_some (s : ByteArray) (hs : s.size ≤ 1000000000) (n : Nat) (hb : (L s)[n]? = some 76) (hdr : (L s).drop n = 76 :: (L s).drop (n + 1)) (m : Nat) (h1 : Lib.indexByte ((L s).drop (n + 1)) 59 = m) (hmz : n + 1 + m < s.size) (k : Nat) (p : Option Bool) (hp : desc_path.f k (s.extract (n + 1) (n + 1 + m)) = p) (z : Int) (hz : wrap64 (((n + 1 + m : Nat) : Int) + 1) = z) :
    desc_next.j2 (k + 1) s (n : Int) false = p.bind fun t120 => (if t120 = true then (some z) else (some 0)) := by
  have hle : ¬ Lib.indexByte (L ⟨#[66, 67, 68, 70, 73, 74, 83, 90]⟩) 76 ≥ 0 := of_decide_eq_false (lits_eq 76)
  have c1 : ¬ ((m : Int) + 1 < 0) := by omega
  have c2 : (0 : Int) ≤ ((n + 1 : Nat) : Int) := by omega
  have c3 : ((n + 1 : Nat) : Int) ≤ ((n + 1 + m : Nat) : Int) := by omega
  have c4 : ((n + 1 + m : Nat) : Int) ≤ (s.size : Int) := by omega
  have c5 : (0 : Int) ≤ (n : Int) := by omega
  have c6 : (n : Int) < (s.size : Int) := by omega
  have c7 : (n : Int) ≤ (s.size : Int) := by omega
  have c8 : (((76 : UInt8).toNat : Nat) : Int) = 76 := rfl
  have hix := ix_eq s n hdr
  rw [h1, if_neg (by omega)] at hix
  have b1 : n ≤ 1000000000 := by omega
  have b2 : n + m ≤ 1000000000 := by omega
  have e1 := wr_succ b1
  have e2 := wr_len b2
  have f2 : 0 ≤ wrap64 ((n : Int) + 1) := by rw [e1]; exact c2
  have f3 : wrap64 ((n : Int) + 1) ≤ wrap64 ((n : Int) + ((m : Int) + 1)) := by rw [e1, e2]; exact c3
  have f4 : wrap64 ((n : Int) + ((m : Int) + 1)) ≤ (s.size : Int) := by rw [e2]; exact c4
  clear c2 c3 c4
  have hp2 : desc_path.f k (s.extract (wrap64 ((n : Int) + 1)).toNat (wrap64 ((n : Int) + ((m : Int) + 1))).toNat) = p := by
    rw [e1, e2]; exact hp
  have hz2 : wrap64 (wrap64 ((n : Int) + ((m : Int) + 1)) + 1) = z := by rw [e2]; exact hz
  clear e1 e2 hp hz
  simp only [desc_next.j2, if_neg (show ¬ (false = true) by simp), if_pos c5, if_pos c6, bt_nat hb, lit_ev, Option.bind_some, if_neg hle, if_pos c8]
  refine (if_pos c7).trans ?_
  rw [Int.toNat_natCast, hix, Option.bind_some]
  refine (if_neg c1).trans ?_
  refine (if_pos f2).trans ?_
  refine (if_pos f3).trans ?_
  refine (if_pos f4).trans ?_
  rw [hp2, hz2]
theorem next_j2 (s : ByteArray) (hs : s.size ≤ 1000000000) (n : Nat) (hn : n < s.size) :
    Ev (fun k => desc_next.j2 k s (n : Int) false) (if tailL ((L s).drop n) = 0 then 0 else ((n + tailL ((L s).drop n) : Nat) : Int)) := by
  obtain ⟨b, hb, hdr⟩ := L_get hn
  rw [hdr]
  cases hv : valB b with
  | true =>
    have ht : tailL (b :: (L s).drop (n + 1)) = 1 := by rw [tailL_cons, if_pos hv]
    rw [ht, if_neg (by decide)]
    exact Ev.step (f := fun _ => some ((n + 1 : Nat) : Int)) (j2_val s hs n hn b hb hv) (Ev.now _)
  | false =>
    by_cases h76 : b = 76
    · subst h76
      have ht : tailL (76 :: (L s).drop (n + 1)) = lenL ((L s).drop (n + 1)) := by rw [tailL_cons, if_neg (by decide), if_pos rfl]
      rcases indexByte_cases ((L s).drop (n + 1)) 59 with ⟨h1, _⟩ | ⟨m, h1, h2, _⟩
      · rw [ht, lenL_none h1, if_pos rfl]
        exact Ev.step (f := fun _ => some 0) (j2_none s n hn hb hdr h1) (Ev.now _)
      · have hmz : n + 1 + m < s.size := by rw [List.length_drop, L_size] at h2; omega
        have hseg : L (s.extract (n + 1) (n + 1 + m)) = ((L s).drop (n + 1)).take m := by rw [L_ext, show n + 1 + m - (n + 1) = m by omega]
        have hp := path_ev (s.extract (n + 1) (n + 1 + m)) (by rw [ByteArray.size_extract]; omega)
        rw [hseg] at hp
        rw [ht, lenL_some h1]
        have e3 : wrap64 (((n + 1 + m : Nat) : Int) + 1) = ((n + (m + 2) : Nat) : Int) := (wr_succ (n := n + 1 + m) (by omega)).trans (by omega)
        refine Ev.step (f := fun k => (desc_path.f k (s.extract (n + 1) (n + 1 + m))).bind fun t => if t = true then (some ((n + (m + 2) : Nat) : Int)) else some 0) (fun k => j2_some s hs n hb hdr m h1 hmz k _ rfl _ e3) ?_
        clear e3
        refine Ev.bind (f := fun k t => if t = true then (some ((n + (m + 2) : Nat) : Int)) else (some 0)) hp ?_
        cases pathL (((L s).drop (n + 1)).take m) with
        | true => exact Ev.now _
        | false => exact Ev.now (0 : Int)
    · have ht : tailL (b :: (L s).drop (n + 1)) = 0 := by rw [tailL_cons, if_neg (by simp [hv]), if_neg h76]
      rw [ht, if_pos rfl]
      exact Ev.step (f := fun _ => some 0) (j2_other s n hn b hb hv h76) (Ev.now _)
theorem next_j1 (s : ByteArray) (hs : s.size ≤ 1000000000) : Ev (fun k => desc_next.j1 k s ((brs (L s) : Nat) : Int)) ((oneL (L s) 0 : Nat) : Int) := by
  have hl := brs_le (L s)
  rw [L_size] at hl
  have h2t : ∀ r : Int, r = 0 → Ev (fun k => desc_next.j2 k s ((brs (L s) : Nat) : Int) true) r := fun r hr => by
    rw [hr]
    refine Ev.step (f := fun _ => some 0) (fun k => ?_) (Ev.now _)
    simp only [desc_next.j2]; rw [if_pos trivial]
  rw [oneL_brs, L_size, Nat.zero_add]
  by_cases h1 : 255 < brs (L s)
  · refine Ev.step (f := fun k => desc_next.j2 k s ((brs (L s) : Nat) : Int) true) (fun k => ?_) (h2t _ ?_)
    · simp only [desc_next.j1]; rw [if_pos (by omega)]
    · rw [if_pos (.inl h1)]; rfl
  · by_cases h2 : brs (L s) = s.size
    · refine Ev.step (f := fun k => desc_next.j2 k s ((brs (L s) : Nat) : Int) true) (fun k => ?_) (h2t _ ?_)
      · simp only [desc_next.j1]; rw [if_neg (by omega), h2]; simp
      · rw [if_pos (.inr h2)]; rfl
    · have := next_j2 s hs (brs (L s)) (by omega)
      rw [if_neg (by omega)]
      have e : (((if tailL ((L s).drop (brs (L s))) = 0 then 0 else brs (L s) + tailL ((L s).drop (brs (L s)))) : Nat) : Int) = (if tailL ((L s).drop (brs (L s))) = 0 then 0 else ((brs (L s) + tailL ((L s).drop (brs (L s))) : Nat) : Int)) := by split <;> rfl
      rw [e]
      refine Ev.step (fun k => ?_) this
      simp only [desc_next.j1]; rw [if_neg (by omega)]
      have : (((brs (L s) : Nat) : Int) == (s.size : Int)) = false := by rw [beq_eq_false_iff_ne]; omega
      rw [this]
theorem next_l0 (s : ByteArray) (hs : s.size ≤ 1000000000) : ∀ (d n : Nat), n ≤ brs (L s) → brs (L s) - n = d → Ev (fun k => desc_next.l0 k s (n : Int)) ((oneL (L s) 0 : Nat) : Int) := by
  intro d
  have hl := brs_le (L s)
  rw [L_size] at hl
  induction d with
  | zero =>
    intro n hn hd
    obtain rfl : n = brs (L s) := by omega
    refine Ev.step (fun k => ?_) (next_j1 s hs)
    simp only [desc_next.l0]
    by_cases h2 : brs (L s) < s.size
    · obtain ⟨b, hb, _⟩ := L_get h2
      have hbt := bt_nat hb
      have hne := brs_end (L s) b hb
      rw [if_pos (by omega), if_pos (by omega), hbt, if_neg (fun h => hne ((u8_iff b 91 91 rfl).1 h))]
    · rw [if_neg (by omega)]
  | succ d ih =>
    intro n hn hd
    have hb := brs_at (L s) n (by omega)
    have hbt := bt_nat hb
    refine Ev.step (fun k => ?_) (ih (n + 1) (by omega) (by omega))
    simp only [desc_next.l0]
    rw [if_pos (by omega), if_pos (by omega), hbt, if_pos (by rfl), wr (by omega) (by omega)]; rfl
theorem next_ev (s : ByteArray) (hs : s.size ≤ 1000000000) : Ev (fun k => desc_next.f k s) ((oneL (L s) 0 : Nat) : Int) := next_l0 s hs _ 0 (Nat.zero_le _) rfl
theorem field_ev (s : ByteArray) (hs : s.size ≤ 1000000000) : Ev (fun k => desc_Field.f k s) (fieldL (L s)) := by
  by_cases h : L s = []
  · refine Ev.congr (f := fun _ => some (fieldL (L s))) (fun k => ?_) (Ev.now _)
    unfold desc_Field.f
    rw [L_to, if_pos h, h]; rfl
  · have he : (L s).isEmpty = false := by cases hh : L s with | nil => exact absurd hh h | cons _ _ => rfl
    have := Ev.bind (f := fun _ t => some (t == (s.size : Int))) (r := fieldL (L s)) (next_ev s hs) (by
      have e : (((oneL (L s) 0 : Nat) : Int) == (s.size : Int)) = fieldL (L s) := by
        unfold fieldL; rw [he, L_size, Bool.not_false, Bool.true_and, Bool.eq_iff_iff, beq_iff_eq, beq_iff_eq]; omega
      rw [e]; exact Ev.now _)
    refine Ev.congr (fun k => ?_) this
    unfold desc_Field.f
    rw [L_to, if_neg h]
end Go.Proofs.YtfnjbmpolggdeaaDoor.CC
end
section
namespace Go.Proofs.YtfnjbmpolggdeaaDoor.CC
open Go.RowKit Go.Proofs.YtfnjbmpolggdeaaDoorW.PrintWords
set_option linter.unusedVariables false
set_option linter.unusedSimpArgs false
set_option maxRecDepth 10000
def initL : List UInt8 := [60, 105, 110, 105, 116, 62]
def clinitL : List UInt8 := [60, 99, 108, 105, 110, 105, 116, 62]
def restL (l : List UInt8) (m : Bool) : Int := if partL l = true then (if m = true then (if hasB l [60, 62] = true then 0 else 1) else 1) else 0
def memberL (l : List UInt8) (m : Bool) : Int := if m = true then (if l = initL then 2 else if l = clinitL then 3 else restL l true) else restL l false
theorem desc_j1 (s : ByteArray) (hs : s.size < 4294967281) (m : Bool) : Ev (fun k => desc_Member.j1 k s m false) (restL (L s) m) := by
  refine Ev.step (f := fun _ => some (restL (L s) m)) (fun k => ?_) (Ev.now _)
  simp only [desc_Member.j1]
  rw [if_neg (by simp), part_eq hs, any_eq ⟨#[60, 62]⟩ hs (by decide)]
  unfold restL
  cases partL (L s) with
  | false => rfl
  | true =>
    cases m with
    | false => rfl
    | true =>
      show (if hasB (L s) [60, 62] = true then some (0 : Int) else some 1) = some (if hasB (L s) [60, 62] = true then 0 else 1)
      split <;> rfl
theorem member_ev (s : ByteArray) (hs : s.size < 4294967281) (m : Bool) : Ev (fun k => desc_Member.f k s m) (memberL (L s) m) := by
  have h1 := desc_j1 s hs m
  cases m with
  | false =>
    refine Ev.congr (f := fun k => desc_Member.j0 k s false false) (fun k => ?_) (Ev.step (fun k => ?_) h1)
    · unfold desc_Member.f; exact if_neg (by simp)
    · simp only [desc_Member.j0]; rw [if_neg (by simp), if_neg (by simp)]
  | true =>
    by_cases hi : L s = initL
    · rw [show memberL (L s) true = 2 by unfold memberL; rw [if_pos rfl, if_pos hi]]
      refine Ev.congr (f := fun k => desc_Member.j0 k s true true) (fun k => ?_) (Ev.step (f := fun _ => some 2) (fun k => ?_) (Ev.now _))
      · unfold desc_Member.f; rw [if_pos rfl, L_to, hi]; rfl
      · simp only [desc_Member.j0]; rw [if_pos trivial]
    · have hif : (L s == ([60, 105, 110, 105, 116, 62] : List UInt8)) = false := beq_eq_false_iff_ne.2 hi
      have hf : ∀ k, desc_Member.f k s true = desc_Member.j0 k s true false := fun k => by
        unfold desc_Member.f; rw [if_pos rfl, L_to, hif]
      refine Ev.congr hf ?_
      by_cases hc : L s = clinitL
      · rw [show memberL (L s) true = 3 by unfold memberL; rw [if_pos rfl, if_neg hi, if_pos hc]]
        refine Ev.step (f := fun k => desc_Member.j1 k s true true) (fun k => ?_) (Ev.step (f := fun _ => some 3) (fun k => ?_) (Ev.now _))
        · simp only [desc_Member.j0]; rw [if_neg (by simp), if_pos trivial, L_to, hc]; rfl
        · simp only [desc_Member.j1]; rw [if_pos trivial]
      · have hcf : (L s == ([60, 99, 108, 105, 110, 105, 116, 62] : List UInt8)) = false := beq_eq_false_iff_ne.2 hc
        rw [show memberL (L s) true = restL (L s) true by unfold memberL; rw [if_pos rfl, if_neg hi, if_neg hc]]
        refine Ev.step (fun k => ?_) h1
        simp only [desc_Member.j0]; rw [if_neg (by simp), if_pos trivial, L_to, hcf]
end Go.Proofs.YtfnjbmpolggdeaaDoor.CC
end
section
namespace Go.Proofs.YtfnjbmpolggdeaaDoor.CC
open Go.RowKit Go.Proofs.YtfnjbmpolggdeaaDoorW.PrintWords
set_option linter.unusedVariables false
set_option linter.unusedSimpArgs false
set_option maxRecDepth 10000
abbrev One := ByteArray × ByteArray × Bool
def OneR (s : ByteArray) (d : Nat) (r : One) : Prop :=
  r.2.2 = decide (oneL (L s) d ≠ 0) ∧ r.1.size ≤ s.size ∧ (oneL (L s) d ≠ 0 → r.1 = s.extract 0 (oneL (L s) d) ∧ r.2.1 = s.extract (oneL (L s) d) s.size)
def none3 : One := ((⟨#[]⟩ : ByteArray), (⟨#[]⟩ : ByteArray), false)
theorem oneR_none {s : ByteArray} {d : Nat} (h : oneL (L s) d = 0) : OneR s d none3 :=
  ⟨by rw [h]; rfl, Nat.zero_le _, fun h2 => absurd h h2⟩
theorem semi_none (s : ByteArray) (hs : s.size ≤ 1000000000) (hno : ∀ b ∈ (L s).drop 1, b ≠ 59) : ∀ (d i : Nat), 1 ≤ i → i ≤ s.size → s.size - i = d → Ev (fun k => jvmcoreref1_one.l0 k s (i : Int)) none3 := by
  intro d
  induction d with
  | zero =>
    intro i h1 h2 h3
    refine Ev.step (f := fun _ => some none3) (fun k => ?_) (Ev.now _)
    simp only [jvmcoreref1_one.l0]
    exact if_neg (by omega)
  | succ d ih =>
    intro i h1 h2 h3
    have hlt : i < s.size := by omega
    obtain ⟨b, hb, _⟩ := L_get hlt
    have hne : b ≠ 59 := hno b (by
      rw [List.mem_iff_getElem?]; exact ⟨i - 1, by rw [List.getElem?_drop, show 1 + (i - 1) = i by omega]; exact hb⟩)
    have c1 : (i : Int) < (s.size : Int) := by omega
    have c2 : (0 : Int) ≤ (i : Int) := by omega
    have c3 : ¬ (bt s (i : Int) = 59) := by rw [bt_nat hb]; exact fun h => hne ((u8_iff b 59 59 rfl).1 h)
    have h4 := ih (i + 1) (by omega) (by omega) (by omega)
    have e1 := wr_succ (n := i) (by omega)
    refine Ev.step (fun k => ?_) h4
    simp only [jvmcoreref1_one.l0]
    refine (if_pos c1).trans ?_
    refine (if_pos c2).trans ?_
    refine (if_neg c3).trans ?_
    rw [e1]
def pick3 (s : ByteArray) (n : Nat) (p : Bool) : One := (s.extract 0 n, s.extract n s.size, p)
theorem semi_hit (s : ByteArray) (i : Nat) (h1 : 1 ≤ i) (hlt : i < s.size) (hb : (L s)[i]? = some 59) (z : Int) (hz : wrap64 ((i : Int) + 1) = z) (hz2 : z = ((i + 1 : Nat) : Int)) (k : Nat) :
    jvmcoreref1_one.l0 (k + 1) s (i : Int) = (jvmcoreref1_path.f k (s.extract 1 i)).bind fun p => some (pick3 s (i + 1) p) := by
  have c1 : (i : Int) < (s.size : Int) := by omega
  have c2 : (0 : Int) ≤ (i : Int) := by omega
  have c3 : bt s (i : Int) = 59 := by rw [bt_nat hb]; rfl
  have c4 : (0 : Int) ≤ z := by omega
  have c5 : z ≤ (s.size : Int) := by omega
  have c6 : (1 : Int) ≤ (i : Int) := by omega
  have c7 : (i : Int) ≤ (s.size : Int) := by omega
  have e2 : z.toNat = i + 1 := by omega
  simp only [jvmcoreref1_one.l0]
  refine (if_pos c1).trans ?_
  refine (if_pos c2).trans ?_
  refine (if_pos c3).trans ?_
  rw [hz]
  refine (if_pos c4).trans ?_
  refine (if_pos c5).trans ?_
  refine (if_pos c6).trans ?_
  refine (if_pos c7).trans ?_
  rw [e2, Int.toNat_natCast]
  rfl
theorem semi_some (s : ByteArray) (hs : s.size ≤ 1000000000) (m : Nat) (hm : 1 + m < s.size) (hno : ∀ b ∈ ((L s).drop 1).take m, b ≠ 59) (hb : (L s)[1 + m]? = some 59) : ∀ (d j : Nat), j ≤ m → m - j = d →
    Ev (fun k => jvmcoreref1_one.l0 k s ((1 + j : Nat) : Int)) (pick3 s (m + 2) (pathL (((L s).drop 1).take m))) := by
  intro d
  induction d with
  | zero =>
    intro j h1 h2
    obtain rfl : j = m := by omega
    have hseg : L (s.extract 1 (1 + j)) = ((L s).drop 1).take j := by rw [L_ext, show 1 + j - 1 = j by omega]
    have hp := ref_path_ev (s.extract 1 (1 + j)) (by rw [ByteArray.size_extract]; omega)
    rw [hseg] at hp
    have hz := wr_succ (n := 1 + j) (by omega)
    refine Ev.step (semi_hit s (1 + j) (by omega) hm hb _ hz rfl) ?_
    clear hz
    rw [show j + 2 = 1 + j + 1 by omega]
    exact Ev.bind (f := fun _ p => some (pick3 s (1 + j + 1) p)) hp (Ev.now _)
  | succ d ih =>
    intro j h1 h2
    have hlt : 1 + j < s.size := by omega
    obtain ⟨b, hb2, _⟩ := L_get hlt
    have hne : b ≠ 59 := hno b (by
      rw [List.mem_iff_getElem?]; exact ⟨j, by rw [List.getElem?_take, if_pos (by omega), List.getElem?_drop]; exact hb2⟩)
    have c1 : ((1 + j : Nat) : Int) < (s.size : Int) := by omega
    have c2 : (0 : Int) ≤ ((1 + j : Nat) : Int) := by omega
    have c3 : ¬ (bt s ((1 + j : Nat) : Int) = 59) := by rw [bt_nat hb2]; exact fun h => hne ((u8_iff b 59 59 rfl).1 h)
    have h4 := ih (j + 1) (by omega) (by omega)
    have e1 := wr_succ (n := 1 + j) (by omega)
    refine Ev.step (fun k => ?_) h4
    simp only [jvmcoreref1_one.l0]
    refine (if_pos c1).trans ?_
    refine (if_pos c2).trans ?_
    refine (if_neg c3).trans ?_
    rw [e1]; rfl
theorem chain (b : UInt8) (f : Int → Bool → Option One) :
    (if ((b.toNat : Int)) = 66 then f b.toNat ((b.toNat : Int) == 66) else (if ((b.toNat : Int)) = 67 then f b.toNat ((b.toNat : Int) == 67) else (if ((b.toNat : Int)) = 68 then f b.toNat ((b.toNat : Int) == 68) else (if ((b.toNat : Int)) = 70 then f b.toNat ((b.toNat : Int) == 70) else (if ((b.toNat : Int)) = 73 then f b.toNat ((b.toNat : Int) == 73) else (if ((b.toNat : Int)) = 74 then f b.toNat ((b.toNat : Int) == 74) else (if ((b.toNat : Int)) = 83 then f b.toNat ((b.toNat : Int) == 83) else f b.toNat ((b.toNat : Int) == 90)))))))) = f b.toNat (valB b) := by
  have hv : valB b = true ↔ (b = 66 ∨ b = 67 ∨ b = 68 ∨ b = 70 ∨ b = 73 ∨ b = 74 ∨ b = 83 ∨ b = 90) := by simp [valB]
  have e (z : Int) (c : UInt8) (hc : (c.toNat : Int) = z) (h : (b.toNat : Int) = z) (hcv : valB c = true) : ((b.toNat : Int) == z) = valB b := by
    have := (u8_iff b c z hc).1 h; subst this; rw [hcv]; exact beq_iff_eq.2 h
  split
  · rename_i h; rw [e 66 66 rfl h (by decide)]
  · rename_i h1; split
    · rename_i h; rw [e 67 67 rfl h (by decide)]
    · rename_i h2; split
      · rename_i h; rw [e 68 68 rfl h (by decide)]
      · rename_i h3; split
        · rename_i h; rw [e 70 70 rfl h (by decide)]
        · rename_i h4; split
          · rename_i h; rw [e 73 73 rfl h (by decide)]
          · rename_i h5; split
            · rename_i h; rw [e 74 74 rfl h (by decide)]
            · rename_i h6; split
              · rename_i h; rw [e 83 83 rfl h (by decide)]
              · rename_i h7
                have : ((b.toNat : Int) == 90) = valB b := by
                  rw [Bool.eq_iff_iff, hv, beq_iff_eq, u8_iff b 90 90 rfl]
                  constructor
                  · intro h; simp [h]
                  · rintro (h | h | h | h | h | h | h | h)
                    · exact absurd ((u8_iff b 66 66 rfl).2 h) h1
                    · exact absurd ((u8_iff b 67 67 rfl).2 h) h2
                    · exact absurd ((u8_iff b 68 68 rfl).2 h) h3
                    · exact absurd ((u8_iff b 70 70 rfl).2 h) h4
                    · exact absurd ((u8_iff b 73 73 rfl).2 h) h5
                    · exact absurd ((u8_iff b 74 74 rfl).2 h) h6
                    · exact absurd ((u8_iff b 83 83 rfl).2 h) h7
                    · exact h
                rw [this]
theorem ext_L {a b : ByteArray} (h : L a = L b) : a = b := by
  cases a with | mk x => cases b with | mk y => exact congrArg ByteArray.mk (Array.toList_inj.1 h)
theorem L_append (a b : ByteArray) : L (a ++ b) = L a ++ L b := by simp [L, ByteArray.data_append]
theorem bra_take {s : ByteArray} {n : Nat} (h0 : (L s)[0]? = some 91) (h1 : 1 ≤ s.size) : (⟨#[91]⟩ : ByteArray) ++ (s.extract 1 s.size).extract 0 n = s.extract 0 (n + 1) := by
  apply ext_L
  rw [L_append, L_ext, L_ext, L_ext, List.drop_zero, List.drop_zero, Nat.sub_zero, Nat.sub_zero]
  rw [List.take_of_length_le (l := (L s).drop 1) (by rw [List.length_drop, L_size]; exact Nat.le_refl _)]
  cases hl : L s with
  | nil => rw [hl] at h0; simp at h0
  | cons c l =>
    rw [hl] at h0
    have : c = 91 := by simpa using h0
    subst this
    rfl
theorem ext_ext {s : ByteArray} {n : Nat} : (s.extract 1 s.size).extract n (s.extract 1 s.size).size = s.extract (n + 1) s.size := by
  apply ext_L
  rw [L_ext, L_ext, L_ext, ByteArray.size_extract, Nat.min_self]
  rw [List.take_of_length_le (l := (L s).drop 1) (by rw [List.length_drop, L_size]; exact Nat.le_refl _)]
  rw [List.drop_drop, List.take_of_length_le (by rw [List.length_drop, L_size]; omega), List.take_of_length_le (by rw [List.length_drop, L_size]; exact Nat.le_refl _), Nat.add_comm 1 n]
theorem ref_one_j1 (s : ByteArray) (hs : s.size ≤ 1000000000) (d : Nat) (hd : d ≤ 255) (b : UInt8) (l : List UInt8) (hl : L s = b :: l)
    (ih : b = 91 → ∃ r, Ev (fun k => jvmcoreref1_one.f k (s.extract 1 s.size) ((d + 1 : Nat) : Int)) r ∧ OneR (s.extract 1 s.size) (d + 1) r) :
    ∃ r, Ev (fun k => jvmcoreref1_one.j1 k s (d : Int) (b.toNat : Int) (valB b)) r ∧ OneR s d r := by
  have hsz : s.size = l.length + 1 := by rw [← L_size, hl]; rfl
  have hd2 : ¬ 255 < d := by omega
  have hdr : (L s).drop 1 = l := by rw [hl]; rfl
  cases hv : valB b with
  | true =>
    have ho : oneL (L s) d = 1 := by rw [hl]; unfold oneL; rw [if_neg hd2, if_pos hv]
    refine ⟨pick3 s 1 true, Ev.step (f := fun _ => some (pick3 s 1 true)) (fun k => ?_) (Ev.now _), ?_⟩
    · simp only [jvmcoreref1_one.j1]
      rw [if_pos trivial, if_pos (by omega), if_pos (by omega)]; rfl
    · unfold OneR; rw [ho]
      exact ⟨rfl, by show (s.extract 0 1).size ≤ _; rw [ByteArray.size_extract]; omega, fun _ => ⟨rfl, rfl⟩⟩
  | false =>
    by_cases h91 : b = 91
    · subst h91
      obtain ⟨r, hr, h1, h2, h3⟩ := ih rfl
      have hLe : L (s.extract 1 s.size) = l := by
        rw [L_ext, hdr, List.take_of_length_le (by omega)]
      rw [hLe] at h1 h3
      rw [ByteArray.size_extract] at h2
      have ho : oneL (L s) d = if oneL l (d + 1) = 0 then 0 else oneL l (d + 1) + 1 := by
        rw [hl]; conv => lhs; unfold oneL
        rw [if_neg hd2, hv, if_neg (by simp), if_pos rfl]
      have e1 : wrap64 ((d : Int) + 1) = ((d + 1 : Nat) : Int) := wr_succ (by omega)
      refine ⟨((⟨#[91]⟩ : ByteArray) ++ r.1, r.2.1, r.2.2), ?_, ?_⟩
      · refine Ev.step (f := fun k => (jvmcoreref1_one.f k (s.extract 1 s.size) ((d + 1 : Nat) : Int)).bind fun t => if 1 + t.1.size ≤ 9223372036854775807 then some ((⟨#[91]⟩ : ByteArray) ++ t.1, t.2.1, t.2.2) else none) (fun k => ?_) ?_
        · simp only [jvmcoreref1_one.j1]
          have c2 : (1 : Int) ≤ (s.size : Int) := by clear e1; omega
          have c3 : (((91 : UInt8).toNat : Nat) : Int) = 91 := rfl
          rw [if_neg (by simp), if_pos c3, if_pos c2, e1]
        · clear e1
          refine Ev.bind (f := fun _ t => if 1 + t.1.size ≤ 9223372036854775807 then some ((⟨#[91]⟩ : ByteArray) ++ t.1, t.2.1, t.2.2) else none) hr ?_
          have c : 1 + r.1.size ≤ 9223372036854775807 := by omega
          exact Ev.congr (fun k => if_pos c) (Ev.now _)
      · clear e1
        unfold OneR; rw [ho]
        by_cases hz : oneL l (d + 1) = 0
        · rw [if_pos hz]
          refine ⟨by rw [h1, hz], ?_, fun h => absurd rfl h⟩
          rw [ByteArray.size_append]
          show 1 + r.1.size ≤ _
          omega
        · rw [if_neg hz]
          obtain ⟨h4, h5⟩ := h3 hz
          refine ⟨by rw [h1]; simp [hz], ?_, fun _ => ⟨?_, ?_⟩⟩
          · rw [ByteArray.size_append]
            show 1 + r.1.size ≤ _
            omega
          · show (⟨#[91]⟩ : ByteArray) ++ r.1 = _
            rw [h4]; exact bra_take (by rw [hl]; rfl) (by omega)
          · show r.2.1 = _
            rw [h5]; exact ext_ext
    · have c91 : ¬ ((b.toNat : Int) = 91) := fun h => h91 ((u8_iff b 91 91 rfl).1 h)
      by_cases h76 : b = 76
      · subst h76
        have ho : oneL (L s) d = lenL l := by
          rw [hl]; conv => lhs; unfold oneL
          rw [if_neg hd2, hv, if_neg (by simp), if_neg (by decide), if_pos rfl]
        have hj : ∀ k, jvmcoreref1_one.j1 (k + 1) s (d : Int) ((76 : UInt8).toNat : Int) false = jvmcoreref1_one.l0 k s ((1 + 0 : Nat) : Int) := fun k => by
          simp only [jvmcoreref1_one.j1]
          rw [if_neg (by simp), if_neg c91]; exact if_pos rfl
        rcases indexByte_cases l 59 with ⟨h1, h2⟩ | ⟨m, h1, h2, h3, h4⟩
        · exact ⟨none3, Ev.step hj (semi_none s hs (by rw [hdr]; exact h2) _ 1 (Nat.le_refl _) (by omega) rfl), oneR_none (ho.trans (lenL_none h1))⟩
        · have hb : (L s)[1 + m]? = some 59 := by
            rw [← List.getElem?_drop, hdr]
            have := congrArg (fun x : List UInt8 => x[0]?) h4
            simpa using this
          have := semi_some s hs m (by omega) (by rw [hdr]; exact h3) hb _ 0 (Nat.zero_le _) rfl
          rw [hdr] at this
          refine ⟨_, Ev.step hj this, ?_⟩
          unfold OneR; rw [ho, lenL_some h1]
          cases hp : pathL (l.take m) with
          | true =>
            refine ⟨rfl, ?_, fun _ => ⟨rfl, rfl⟩⟩
            show (s.extract 0 (m + 2)).size ≤ _
            rw [ByteArray.size_extract]; omega
          | false =>
            refine ⟨rfl, ?_, fun h => absurd rfl h⟩
            show (s.extract 0 (m + 2)).size ≤ _
            rw [ByteArray.size_extract]; omega
      · have ho : oneL (L s) d = 0 := by
          rw [hl]; conv => lhs; unfold oneL
          rw [if_neg hd2, hv, if_neg (by simp), if_neg h91, if_neg h76]
        have c76 : ¬ ((b.toNat : Int) = 76) := fun h => h76 ((u8_iff b 76 76 rfl).1 h)
        refine ⟨none3, Ev.step (f := fun _ => some none3) (fun k => ?_) (Ev.now _), oneR_none ho⟩
        simp only [jvmcoreref1_one.j1]
        rw [if_neg (by simp), if_neg c91, if_neg c76]; rfl
theorem ref_one : ∀ (n : Nat) (s : ByteArray), s.size = n → n ≤ 1000000000 → ∀ d : Nat, d ≤ 256 →
    ∃ r, Ev (fun k => jvmcoreref1_one.f k s (d : Int)) r ∧ OneR s d r := by
  intro n
  induction n with
  | zero =>
    intro s hz _ d _
    have hl : L s = [] := List.eq_nil_of_length_eq_zero (by rw [L_size]; exact hz)
    refine ⟨none3, Ev.step (f := fun k => jvmcoreref1_one.j0 k s (d : Int) true) (fun k => ?_) (Ev.step (f := fun _ => some none3) (fun k => ?_) (Ev.now _)), oneR_none (by rw [hl]; rfl)⟩
    · simp only [jvmcoreref1_one.f]; rw [L_to, if_pos hl]
    · simp only [jvmcoreref1_one.j0]; rw [if_pos trivial]; rfl
  | succ n ih =>
    intro s hz hn d hd
    cases hl : L s with
    | nil => have := congrArg List.length hl; rw [L_size, hz] at this; simp at this
    | cons b l =>
      have hne : ¬ s.toList = ([] : List UInt8) := by rw [L_to, hl]; simp
      by_cases hbig : 255 < d
      · have ho : oneL (L s) d = 0 := by rw [hl]; unfold oneL; rw [if_pos hbig]
        refine ⟨none3, Ev.step (f := fun k => jvmcoreref1_one.j0 k s (d : Int) true) (fun k => ?_) (Ev.step (f := fun _ => some none3) (fun k => ?_) (Ev.now _)), oneR_none ho⟩
        · simp only [jvmcoreref1_one.f]; rw [if_neg hne, decide_eq_true (by omega)]
        · simp only [jvmcoreref1_one.j0]; rw [if_pos trivial]; rfl
      · obtain ⟨r, hr, hR⟩ := ref_one_j1 s (by omega) d (by omega) b l hl (fun _ => ih (s.extract 1 s.size) (by rw [ByteArray.size_extract]; omega) (by omega) (d + 1) (by omega))
        refine ⟨r, Ev.step (f := fun k => jvmcoreref1_one.j0 k s (d : Int) false) (fun k => ?_) (Ev.step (fun k => ?_) hr), hR⟩
        · simp only [jvmcoreref1_one.f]; rw [if_neg hne, decide_eq_false (by omega)]
        · have hb : bt s 0 = (b.toNat : Int) := bt_nat (i := 0) (by rw [hl]; rfl)
          simp only [jvmcoreref1_one.j0]
          rw [if_neg (by simp), if_pos (by omega), hb]
          exact chain b (jvmcoreref1_one.j1 k s (d : Int))
theorem ref_one_ev (s : ByteArray) (hs : s.size ≤ 1000000000) : ∃ r, Ev (fun k => jvmcoreref1_one.f k s 0) r ∧ OneR s 0 r := ref_one _ s rfl hs 0 (by omega)
theorem ref_field_ev (s : ByteArray) (hs : s.size ≤ 1000000000) : Ev (fun k => jvmcoreref1_Field.f k s) (fieldL (L s)) := by
  obtain ⟨r, hr, h1, h2, h3⟩ := ref_one_ev s hs
  refine Ev.bind (f := fun _ t => if t.2.2 = true then (some (t.2.1.toList == ([] : List UInt8))) else some false) hr ?_
  have hle := oneL_le (L s) 0
  by_cases hz : oneL (L s) 0 = 0
  · rw [h1, hz]
    have : fieldL (L s) = false := by
      unfold fieldL; rw [hz]
      cases L s <;> simp
    rw [this]
    exact Ev.now _
  · rw [h1, decide_eq_true hz, (h3 hz).2, L_to, L_ext]
    have : (((L s).drop (oneL (L s) 0)).take (s.size - oneL (L s) 0) == ([] : List UInt8)) = fieldL (L s) := by
      rw [List.take_of_length_le (by rw [List.length_drop, L_size]; exact Nat.le_refl _)]
      unfold fieldL
      rw [Bool.eq_iff_iff, beq_iff_eq, List.drop_eq_nil_iff]
      cases hl : L s with
      | nil => rw [hl] at hz; exact absurd rfl hz
      | cons b l =>
        rw [hl] at hle
        simp only [List.isEmpty_cons, Bool.not_false, Bool.true_and, beq_iff_eq]
        constructor <;> intro h <;> omega
    rw [this]
    exact Ev.now _
theorem prefix_eq (s : ByteArray) (c : UInt8) : strings_HasPrefix.f s ⟨#[c]⟩ = some ((L s).head? == some c) := by
  unfold strings_HasPrefix.f stringslite_HasPrefix.f
  have e1 : (((⟨#[c]⟩ : ByteArray).size : Nat) : Int) = 1 := rfl
  rw [e1]
  cases hl : L s with
  | nil =>
    have hz : s.size = 0 := by rw [← L_size, hl]; rfl
    rw [if_neg (by omega)]; rfl
  | cons b l =>
    have hz : s.size = l.length + 1 := by rw [← L_size, hl]; rfl
    rw [if_pos (by omega), if_pos (by omega), if_pos (by omega), L_to, L_to, L_ext, hl]
    show (some ([b] == [c])).bind _ = _
    have : ([b] == [c]) = (some b == some c) := by rw [Bool.eq_iff_iff, beq_iff_eq, beq_iff_eq]; simp
    rw [this]; rfl
end Go.Proofs.YtfnjbmpolggdeaaDoor.CC
end
section
namespace Go.Proofs.YtfnjbmpolggdeaaDoor.CC
open Go.RowKit Go.Proofs.YtfnjbmpolggdeaaDoorW.PrintWords
set_option linter.unusedVariables false
set_option linter.unusedSimpArgs false
set_option maxRecDepth 10000
def slotsN (l : List UInt8) : Nat := if l = [86] then 0 else if l = [74] then 2 else if l = [68] then 2 else 1
theorem slotsN_le (l : List UInt8) : slotsN l ≤ 2 := by unfold slotsN; (repeat' split) <;> omega
theorem slots_eq (s : ByteArray) : desc_Slots.f s = some ((slotsN (L s) : Nat) : Int) := by
  unfold desc_Slots.f slotsN
  rw [L_to]
  by_cases h1 : L s = [86]
  · rw [if_pos h1, if_pos h1]; rfl
  · rw [if_neg h1, if_neg h1]
    by_cases h2 : L s = [74]
    · rw [if_pos h2, if_pos h2]; rfl
    · rw [if_neg h2, if_neg h2]
      by_cases h3 : L s = [68]
      · rw [if_pos h3, if_pos h3]; rfl
      · rw [if_neg h3, if_neg h3]; rfl
theorem ref_slots_ev (s : ByteArray) : Ev (fun k => jvmcoreref1_Slots.f k s) ((slotsN (L s) : Nat) : Int) := by
  have hj1 : Ev (fun k => jvmcoreref1_Slots.j0 k s true) 2 :=
    Ev.step (f := fun _ => some 2) (fun k => by simp only [jvmcoreref1_Slots.j0]; rw [if_pos trivial]) (Ev.now _)
  by_cases h2 : L s = [74]
  · have e : slotsN (L s) = 2 := by rw [h2]; rfl
    rw [e]
    refine Ev.congr (fun k => ?_) hj1
    unfold jvmcoreref1_Slots.f; rw [L_to, if_pos h2]
  · by_cases h3 : L s = [68]
    · have e : slotsN (L s) = 2 := by rw [h3]; rfl
      rw [e]
      refine Ev.congr (fun k => ?_) hj1
      unfold jvmcoreref1_Slots.f; rw [L_to, if_neg h2, h3]; rfl
    · have e3 : (L s == [68]) = false := beq_eq_false_iff_ne.2 h3
      refine Ev.congr (f := fun k => jvmcoreref1_Slots.j0 k s false) (fun k => ?_) (Ev.step (f := fun _ => some ((slotsN (L s) : Nat) : Int)) (fun k => ?_) (Ev.now _))
      · unfold jvmcoreref1_Slots.f; rw [L_to, if_neg h2, e3]
      · simp only [jvmcoreref1_Slots.j0]
        rw [if_neg (by simp), L_to]
        unfold slotsN
        by_cases h1 : L s = [86]
        · rw [if_pos h1, if_pos h1]; rfl
        · rw [if_neg h1, if_neg h1, if_neg h2, if_neg h3]; rfl
abbrev Res := List ByteArray × ByteArray × Bool
def flat (ps : List ByteArray) : List UInt8 := ps.flatMap L
theorem flat_snoc (ps : List ByteArray) (p : ByteArray) : flat (ps ++ [p]) = flat ps ++ L p := by simp [flat]
def bad : Res := (([] : List ByteArray), (⟨#[]⟩ : ByteArray), false)
def MethR (x5 : List ByteArray) (s : ByteArray) (r : Res) : Prop :=
  (r.2.2 = true → flat r.1 ++ 41 :: L r.2.1 = flat x5 ++ L s) ∧ (r.2.2 = false → r.1 = []) ∧ r.1.length ≤ x5.length + s.size
theorem methR_bad (x5 : List ByteArray) (s : ByteArray) : MethR x5 s bad := ⟨fun h => (by cases h), fun _ => rfl, Nat.zero_le _⟩
def closeR (s : ByteArray) (x5 : List ByteArray) (x6 : Nat) (l : List UInt8) : Res :=
  if 254 < x6 then bad else if l = [86] then (x5, s.extract 1 s.size, true) else if fieldL l = true then (x5, s.extract 1 s.size, true) else bad
theorem tail_L {s : ByteArray} {b : UInt8} {l : List UInt8} (hl : L s = b :: l) : L (s.extract 1 s.size) = l := by
  have hsz : s.size = l.length + 1 := by rw [← L_size, hl]; rfl
  rw [L_ext, hl, List.drop_succ_cons, List.drop_zero, List.take_of_length_le (by omega)]
theorem close_desc (s : ByteArray) (hs : s.size ≤ 30000000) (l : List UInt8) (hl : L s = 41 :: l) (x5 : List ByteArray) (x6 : Nat) : Ev (fun k => desc_Method.j1 k s x5 (x6 : Int) false) (closeR s x5 x6 l) := by
  have ht := tail_L hl
  have hsz : s.size = l.length + 1 := by rw [← L_size, hl]; rfl
  have hne : ¬ L s = [] := by rw [hl]; simp
  unfold closeR
  by_cases h1 : 254 < x6
  · rw [if_pos h1]
    refine Ev.step (f := fun _ => some bad) (fun k => ?_) (Ev.now _)
    simp only [desc_Method.j1]
    rw [if_neg (by simp), L_to, if_neg hne, if_pos (by omega)]; rfl
  · rw [if_neg h1]
    by_cases h2 : l = [86]
    · rw [if_pos h2]
      refine Ev.step (f := fun _ => some (x5, s.extract 1 s.size, true)) (fun k => ?_) (Ev.now _)
      simp only [desc_Method.j1]
      rw [if_neg (by simp), L_to, if_neg hne, if_neg (by omega), if_pos (by omega), L_to, ht, if_pos h2]
    · rw [if_neg h2]
      have hf := field_ev (s.extract 1 s.size) (by rw [ByteArray.size_extract]; omega)
      rw [ht] at hf
      refine Ev.step (f := fun k => (desc_Field.f k (s.extract 1 s.size)).bind fun t => if t = true then some (x5, s.extract 1 s.size, true) else some bad) (fun k => ?_) (Ev.bind (f := fun _ t => if t = true then some (x5, s.extract 1 s.size, true) else some bad) hf ?_)
      · simp only [desc_Method.j1]
        rw [if_neg (by simp), L_to, if_neg hne, if_neg (by omega), if_pos (by omega), L_to, ht, if_neg h2]; rfl
      · cases fieldL l <;> exact Ev.now _
theorem close_ref (s : ByteArray) (hs : s.size ≤ 30000000) (l : List UInt8) (hl : L s = 41 :: l) (x5 : List ByteArray) (x6 : Nat) : Ev (fun k => jvmcoreref1_Method.j2 k s x5 (x6 : Int) false) (closeR s x5 x6 l) := by
  have ht := tail_L hl
  have hsz : s.size = l.length + 1 := by rw [← L_size, hl]; rfl
  have hne : ¬ L s = [] := by rw [hl]; simp
  unfold closeR
  by_cases h1 : 254 < x6
  · rw [if_pos h1]
    refine Ev.step (f := fun _ => some bad) (fun k => ?_) (Ev.now _)
    simp only [jvmcoreref1_Method.j2]
    rw [if_neg (by simp), L_to, if_neg hne, if_pos (by omega)]; rfl
  · rw [if_neg h1]
    by_cases h2 : l = [86]
    · rw [if_pos h2]
      refine Ev.step (f := fun _ => some (x5, s.extract 1 s.size, true)) (fun k => ?_) (Ev.now _)
      simp only [jvmcoreref1_Method.j2]
      rw [if_neg (by simp), L_to, if_neg hne, if_neg (by omega), if_pos (by rw [hl, h2]), if_pos (by omega)]
    · rw [if_neg h2]
      have hf := ref_field_ev (s.extract 1 s.size) (by rw [ByteArray.size_extract]; omega)
      rw [ht] at hf
      refine Ev.step (f := fun k => (jvmcoreref1_Field.f k (s.extract 1 s.size)).bind fun t => if t = true then some (x5, s.extract 1 s.size, true) else some bad) (fun k => ?_) (Ev.bind (f := fun _ t => if t = true then some (x5, s.extract 1 s.size, true) else some bad) hf ?_)
      · simp only [jvmcoreref1_Method.j2]
        rw [if_neg (by simp), L_to, if_neg hne, if_neg (by omega), if_neg (by rw [hl]; simp [h2]), if_pos (by omega)]; rfl
      · cases fieldL l <;> exact Ev.now _
theorem closeR_ok (s : ByteArray) (l : List UInt8) (hl : L s = 41 :: l) (x5 : List ByteArray) (x6 : Nat) : MethR x5 s (closeR s x5 x6 l) := by
  have ht := tail_L hl
  have good : MethR x5 s (x5, s.extract 1 s.size, true) := ⟨fun _ => by show flat x5 ++ 41 :: L (s.extract 1 s.size) = _; rw [ht, hl], fun h => (by cases h), Nat.le_add_right _ _⟩
  unfold closeR
  split
  · exact methR_bad _ _
  · split
    · exact good
    · split
      · exact good
      · exact methR_bad _ _
theorem wr_add {a b : Nat} (h : a + b ≤ 1000000000) : wrap64 ((a : Int) + (b : Int)) = ((a + b : Nat) : Int) := (wr (by omega) (by omega)).trans (by omega)
theorem step_desc (s : ByteArray) (n : Nat) (h0 : n ≠ 0) (hn : n ≤ s.size) (x5 : List ByteArray) (h5 : x5.length ≤ 30000000) (x6 : Nat) (z : Int) (hz : wrap64 ((x6 : Int) + ((slotsN (L (s.extract 0 n)) : Nat) : Int)) = z) (k : Nat) :
    (if (n : Int) = 0 then (some (([] : List ByteArray), (⟨#[]⟩ : ByteArray), false)) else (if 0 ≤ (n : Int) then (if (n : Int) ≤ (s.size : Int) then (if x5.length < 8796093022208 then ((desc_Slots.f (s.extract 0 ((n : Int) : Int).toNat)).bind fun t146 => (desc_Method.l0 k (s.extract ((n : Int) : Int).toNat s.size) (x5 ++ [s.extract 0 ((n : Int) : Int).toNat]) (wrap64 ((x6 : Int) + t146)))) else (none)) else (none)) else (none))) =
      desc_Method.l0 k (s.extract n s.size) (x5 ++ [s.extract 0 n]) z := by
  have c1 : ¬ ((n : Int) = 0) := by omega
  have c2 : (0 : Int) ≤ (n : Int) := by omega
  have c3 : (n : Int) ≤ (s.size : Int) := by omega
  have c4 : x5.length < 8796093022208 := by omega
  refine (if_neg c1).trans ?_
  refine (if_pos c2).trans ?_
  refine (if_pos c3).trans ?_
  refine (if_pos c4).trans ?_
  rw [Int.toNat_natCast, slots_eq, Option.bind_some, hz]
theorem meth_loop : ∀ (n : Nat) (s : ByteArray), s.size ≤ n → n ≤ 2000000 → ∀ (x5 : List ByteArray) (x6 : Nat), x5.length + n ≤ 30000000 → x6 + 2 * n ≤ 30000000 →
    ∃ r, Ev (fun k => desc_Method.l0 k s x5 (x6 : Int)) r ∧ Ev (fun k => jvmcoreref1_Method.l0 k s x5 (x6 : Int)) r ∧ MethR x5 s r := by
  intro n
  induction n with
  | zero =>
    intro s hz _ x5 x6 _ _
    have hl : L s = [] := List.eq_nil_of_length_eq_zero (by rw [L_size]; omega)
    refine ⟨bad, Ev.step (f := fun k => desc_Method.j1 k s x5 (x6 : Int) false) (fun k => ?_) (Ev.step (f := fun _ => some bad) (fun k => ?_) (Ev.now _)), Ev.step (f := fun k => jvmcoreref1_Method.j2 k s x5 (x6 : Int) false) (fun k => ?_) (Ev.step (f := fun _ => some bad) (fun k => ?_) (Ev.now _)), methR_bad _ _⟩
    · simp only [desc_Method.l0]; rw [L_to, if_pos hl]
    · simp only [desc_Method.j1]; rw [if_neg (by simp), L_to, if_pos hl]; rfl
    · simp only [jvmcoreref1_Method.l0]; rw [L_to, if_pos hl]
    · simp only [jvmcoreref1_Method.j2]; rw [if_neg (by simp), L_to, if_pos hl]; rfl
  | succ n ih =>
    intro s hz hn x5 x6 h5 h6
    cases hl : L s with
    | nil =>
      have hz0 : s.size = 0 := by rw [← L_size, hl]; rfl
      exact ih s (by omega) (by omega) x5 x6 (by omega) (by omega)
    | cons b l =>
      have hsz : s.size = l.length + 1 := by rw [← L_size, hl]; rfl
      have hne : ¬ L s = [] := by rw [hl]; simp
      have hb : bt s 0 = (b.toNat : Int) := bt_nat (i := 0) (by rw [hl]; rfl)
      have c0 : (0 : Int) < (s.size : Int) := by omega
      have hd : ∀ k, desc_Method.l0 (k + 1) s x5 (x6 : Int) = desc_Method.j1 k s x5 (x6 : Int) ((b.toNat : Int) != 41) := fun k => by
        simp only [desc_Method.l0]; rw [L_to, if_neg hne, if_pos c0, hb]
      have hr : ∀ k, jvmcoreref1_Method.l0 (k + 1) s x5 (x6 : Int) = jvmcoreref1_Method.j2 k s x5 (x6 : Int) ((b.toNat : Int) != 41) := fun k => by
        simp only [jvmcoreref1_Method.l0]; rw [L_to, if_neg hne, if_pos c0, hb]
      by_cases h41 : b = 41
      · subst h41
        exact ⟨_, Ev.step hd (close_desc s (by omega) l hl x5 x6), Ev.step hr (close_ref s (by omega) l hl x5 x6), closeR_ok s l hl x5 x6⟩
      · have e41 : ((b.toNat : Int) != 41) = true := by
          rw [bne_iff_ne]; exact fun h => h41 ((u8_iff b 41 41 rfl).1 h)
        rw [e41] at hd hr
        have hnx := next_ev s (by omega)
        obtain ⟨r1, hr1, o1, o2, o3⟩ := ref_one_ev s (by omega)
        have hle := oneL_le (L s) 0
        rw [L_size] at hle
        have hd2 : ∀ k, desc_Method.j1 (k + 1) s x5 (x6 : Int) true = (desc_next.f k s).bind fun t142 => (if t142 = 0 then (some (([] : List ByteArray), (⟨#[]⟩ : ByteArray), false)) else (if 0 ≤ t142 then (if t142 ≤ (s.size : Int) then (if x5.length < 8796093022208 then ((desc_Slots.f (s.extract 0 (t142 : Int).toNat)).bind fun t146 => (desc_Method.l0 k (s.extract (t142 : Int).toNat s.size) (x5 ++ [s.extract 0 (t142 : Int).toNat]) (wrap64 ((x6 : Int) + t146)))) else (none)) else (none)) else (none))) := fun k => by
          simp only [desc_Method.j1]; rw [if_pos trivial]
        have hr2 : ∀ k, jvmcoreref1_Method.j2 (k + 1) s x5 (x6 : Int) true = (jvmcoreref1_one.f k s 0).bind fun bt148 => (if bt148.2.2 = true then (if x5.length < 8796093022208 then ((jvmcoreref1_Slots.f k bt148.1).bind fun t154 => (jvmcoreref1_Method.l0 k bt148.2.1 (x5 ++ [bt148.1]) (wrap64 ((x6 : Int) + t154)))) else (none)) else (some (([] : List ByteArray), (⟨#[]⟩ : ByteArray), false))) := fun k => by
          simp only [jvmcoreref1_Method.j2]; rw [if_pos trivial]
        generalize hg : oneL (L s) 0 = m at *
        by_cases h0 : m = 0
        · subst h0
          refine ⟨bad, Ev.step hd (Ev.step hd2 (Ev.bind hnx ?_)), Ev.step hr (Ev.step hr2 (Ev.bind hr1 ?_)), methR_bad _ _⟩
          · exact Ev.congr (f := fun _ => some bad) (fun k => if_pos rfl) (Ev.now _)
          · exact Ev.congr (f := fun _ => some bad) (fun k => by rw [o1, if_neg (by simp)]; rfl) (Ev.now _)
        · obtain ⟨o4, o5⟩ := o3 h0
          have hsl := slotsN_le (L (s.extract 0 m))
          obtain ⟨r, g1, g2, g3, g4, g5⟩ := ih (s.extract m s.size) (by rw [ByteArray.size_extract]; omega) (by omega) (x5 ++ [s.extract 0 m]) (x6 + slotsN (L (s.extract 0 m))) (by rw [List.length_append, List.length_singleton]; omega) (by omega)
          have hR : MethR x5 s r := by
            refine ⟨fun h => ?_, g4, ?_⟩
            · rw [g3 h, flat_snoc, List.append_assoc, L_ext, L_ext, List.drop_zero, Nat.sub_zero, List.take_of_length_le (l := (L s).drop m) (by rw [List.length_drop, L_size]; exact Nat.le_refl _), List.take_append_drop]
            · rw [List.length_append, List.length_singleton, ByteArray.size_extract] at g5; omega
          have c4 : x5.length < 8796093022208 := by omega
          have c5 : x5.length ≤ 30000000 := by omega
          have hw := wr_add (a := x6) (b := slotsN (L (s.extract 0 m))) (by omega)
          refine ⟨r, Ev.step hd (Ev.step hd2 (Ev.bind hnx ?_)), Ev.step hr (Ev.step hr2 (Ev.bind hr1 ?_)), hR⟩
          · exact Ev.congr (fun k => step_desc s m h0 hle x5 c5 x6 _ hw k) g1
          · have e1 : r1.2.2 = true := by rw [o1]; exact decide_eq_true h0
            rw [o4, o5]
            refine Ev.congr (f := fun k => (jvmcoreref1_Slots.f k (s.extract 0 m)).bind fun t154 => (jvmcoreref1_Method.l0 k (s.extract m s.size) (x5 ++ [s.extract 0 m]) (wrap64 ((x6 : Int) + t154)))) (fun k => ?_) ?_
            · exact (if_pos e1).trans (if_pos c4)
            · refine Ev.bind (f := fun k t154 => (jvmcoreref1_Method.l0 k (s.extract m s.size) (x5 ++ [s.extract 0 m]) (wrap64 ((x6 : Int) + t154)))) (ref_slots_ev (s.extract 0 m)) ?_
              rw [hw]; exact g2
def MethF (s : ByteArray) (r : Res) : Prop :=
  (r.2.2 = true → 40 :: (flat r.1 ++ 41 :: L r.2.1) = L s) ∧ (r.2.2 = false → r.1 = []) ∧ r.1.length ≤ s.size
theorem methF_bad (s : ByteArray) : MethF s bad := ⟨fun h => (by cases h), fun _ => rfl, Nat.zero_le _⟩
theorem meth_ev (s : ByteArray) (hs : s.size ≤ 2000000) : ∃ r, Ev (fun k => desc_Method.f k s) r ∧ Ev (fun k => jvmcoreref1_Method.f k s) r ∧ MethF s r := by
  have hjt : Ev (fun k => jvmcoreref1_Method.j0 k s true) bad := Ev.step (f := fun _ => some bad) (fun k => by simp only [jvmcoreref1_Method.j0]; rw [if_pos trivial]; rfl) (Ev.now _)
  cases hl : L s with
  | nil =>
    refine ⟨bad, Ev.congr (f := fun _ => some bad) (fun k => ?_) (Ev.now _), Ev.congr (fun k => ?_) hjt, methF_bad s⟩
    · unfold desc_Method.f; rw [prefix_eq, hl]; rfl
    · unfold jvmcoreref1_Method.f; rw [L_to, if_pos hl]
  | cons b l =>
    have hsz : s.size = l.length + 1 := by rw [← L_size, hl]; rfl
    have hne : ¬ L s = [] := by rw [hl]; simp
    have hb : bt s 0 = (b.toNat : Int) := bt_nat (i := 0) (by rw [hl]; rfl)
    have c0 : (0 : Int) < (s.size : Int) := by omega
    have c1 : (1 : Int) ≤ (s.size : Int) := by omega
    have hr : ∀ k, jvmcoreref1_Method.f k s = jvmcoreref1_Method.j0 k s ((b.toNat : Int) != 40) := fun k => by
      unfold jvmcoreref1_Method.f; rw [L_to, if_neg hne, if_pos c0, hb]
    by_cases h40 : b = 40
    · subst h40
      obtain ⟨r, g1, g2, g3, g4, g5⟩ := meth_loop 2000000 (s.extract 1 s.size) (by rw [ByteArray.size_extract]; omega) (Nat.le_refl _) [] 0 (by simp) (by omega)
      have ht := tail_L hl
      refine ⟨r, Ev.congr (fun k => ?_) g1, Ev.congr hr (Ev.step (fun k => ?_) g2), fun h => ?_, g4, ?_⟩
      · unfold desc_Method.f; rw [prefix_eq, hl, Option.bind_some, if_pos (by rfl), if_pos c1]; rfl
      · simp only [jvmcoreref1_Method.j0]; rw [if_neg (by decide), if_pos c1]; rfl
      · rw [g3 h, ht, hl]; rfl
      · rw [ByteArray.size_extract] at g5
        simp at g5; omega
    · have e40 : ((b.toNat : Int) != 40) = true := by
        rw [bne_iff_ne]; exact fun h => h40 ((u8_iff b 40 40 rfl).1 h)
      rw [e40] at hr
      refine ⟨bad, Ev.congr (f := fun _ => some bad) (fun k => ?_) (Ev.now _), Ev.congr hr hjt, methF_bad s⟩
      unfold desc_Method.f
      have e : ((b :: l).head? == some 40) = false := by rw [beq_eq_false_iff_ne]; simpa using h40
      rw [prefix_eq, hl, e, Option.bind_some, if_neg (by simp)]; rfl
end Go.Proofs.YtfnjbmpolggdeaaDoor.CC
end
section
namespace Go.Proofs.YtfnjbmpolggdeaaDoor.CC
open Go.RowKit Go.Proofs.YtfnjbmpolggdeaaDoorW.PrintWords
set_option linter.unusedVariables false
set_option linter.unusedSimpArgs false
set_option maxRecDepth 100000
theorem Ev.yes {α : Type} {c : Prop} [Decidable c] {f g : Nat → Option α} {r : α} (h : c) (k : Ev f r) : Ev (fun n => if c then f n else g n) r := Ev.congr (fun _ => if_pos h) k
theorem Ev.no {α : Type} {c : Prop} [Decidable c] {f g : Nat → Option α} {r : α} (h : ¬ c) (k : Ev g r) : Ev (fun n => if c then f n else g n) r := Ev.congr (fun _ => if_neg h) k
def isF (n : Nat) : Bool := (decide (21 ≤ n) && decide (n ≤ 25)) || (decide (54 ≤ n) && decide (n ≤ 58))
def locV (n : Nat) (A : Int) : Int := if isF n = true then A else if n = 132 then A else if 26 ≤ n ∧ n ≤ 45 then ((n - 26) % 4 : Nat) else if 59 ≤ n ∧ n ≤ 78 then ((n - 59) % 4 : Nat) else -1
def two (n : Nat) : Bool := n == 22 || n == 24 || n == 55 || n == 57 || (decide (30 ≤ n) && decide (n ≤ 33)) || (decide (38 ≤ n) && decide (n ≤ 41)) || (decide (63 ≤ n) && decide (n ≤ 66)) || (decide (71 ≤ n) && decide (n ≤ 74))
def inR (n : Nat) : Bool := (decide (26 ≤ n) && decide (n ≤ 45)) || (decide (59 ≤ n) && decide (n ≤ 78))
def hasLoc (n : Nat) : Bool := isF n || n == 132 || inR n
def roomV (n : Nat) (A locals : Int) : Bool := !hasLoc n || (decide (0 ≤ locV n A) && decide (locV n A < locals) && (!two n || decide (locV n A < locals - 1)))
theorem form_tab : ((List.range 256).all fun n => match code_form.f 4 (n : Int) with | some f => ((f == 6) == isF n) && ((f == 7) == (n == 132)) | none => false) = true := by kernel_rfl
theorem refform_tab : ((List.range 256).all fun n => match jvmcoreref2_form.f (wrap64 (n : Int)) with | some s => ((s.data.toList == ([108] : List UInt8)) == isF n) && ((s.data.toList == ([110] : List UInt8)) == (n == 132)) | none => false) = true := by kernel_rfl
theorem wide_tab : ((List.range 256).all fun n => code_wideLocal.f (n : Int) == some (two n)) = true := by kernel_rfl
theorem form_ev {n : Nat} (h : n < 256) : ∃ f, Ev (fun k => code_form.f k (n : Int)) f ∧ (f = 6 ↔ isF n = true) ∧ (f = 7 ↔ n = 132) := by
  have := List.all_eq_true.1 form_tab n (List.mem_range.2 h)
  cases hf : code_form.f 4 (n : Int) with
  | none => rw [hf] at this; cases this
  | some f =>
    rw [hf] at this
    simp only [Bool.and_eq_true, beq_iff_eq] at this
    refine ⟨f, Ev.of (g := fun k => code_form.f k (n : Int)) (fun k => code_form.mono _ _) hf, ?_, ?_⟩
    · rw [← this.1]; exact beq_iff_eq.symm
    · rw [← beq_iff_eq (a := f), this.2]; exact beq_iff_eq
theorem refform {n : Nat} (h : n < 256) : ∃ s, jvmcoreref2_form.f (wrap64 (n : Int)) = some s ∧ (s.toList = ([108] : List UInt8) ↔ isF n = true) ∧ (s.toList = ([110] : List UInt8) ↔ n = 132) := by
  have := List.all_eq_true.1 refform_tab n (List.mem_range.2 h)
  cases hf : jvmcoreref2_form.f (wrap64 (n : Int)) with
  | none => rw [hf] at this; cases this
  | some s =>
    rw [hf] at this
    simp only [Bool.and_eq_true, beq_iff_eq] at this
    refine ⟨s, rfl, ?_, ?_⟩
    · rw [L_to, ← this.1]; exact beq_iff_eq.symm
    · rw [L_to]; show s.data.toList = _ ↔ _; rw [← beq_iff_eq (a := s.data.toList), this.2]; exact beq_iff_eq
theorem wide_eq {n : Nat} (h : n < 256) : code_wideLocal.f (n : Int) = some (two n) := beq_iff_eq.1 (List.all_eq_true.1 wide_tab n (List.mem_range.2 h))
theorem refLocal_tab (a0 : Int) (a2 : Bool) (A a4 a5 : Int) (l6 l7 : List Int) : ∀ n : Nat, n < 256 → jvmcoreref2_Local.f 5 a0 (n : Int) a2 A a4 a5 l6 l7 = some (locV n A, two n)
  | 0, _ => by kernel_rfl
  | 1, _ => by kernel_rfl
  | 2, _ => by kernel_rfl
  | 3, _ => by kernel_rfl
  | 4, _ => by kernel_rfl
  | 5, _ => by kernel_rfl
  | 6, _ => by kernel_rfl
  | 7, _ => by kernel_rfl
  | 8, _ => by kernel_rfl
  | 9, _ => by kernel_rfl
  | 10, _ => by kernel_rfl
  | 11, _ => by kernel_rfl
  | 12, _ => by kernel_rfl
  | 13, _ => by kernel_rfl
  | 14, _ => by kernel_rfl
  | 15, _ => by kernel_rfl
  | 16, _ => by kernel_rfl
  | 17, _ => by kernel_rfl
  | 18, _ => by kernel_rfl
  | 19, _ => by kernel_rfl
  | 20, _ => by kernel_rfl
  | 21, _ => by kernel_rfl
  | 22, _ => by kernel_rfl
  | 23, _ => by kernel_rfl
  | 24, _ => by kernel_rfl
  | 25, _ => by kernel_rfl
  | 26, _ => by kernel_rfl
  | 27, _ => by kernel_rfl
  | 28, _ => by kernel_rfl
  | 29, _ => by kernel_rfl
  | 30, _ => by kernel_rfl
  | 31, _ => by kernel_rfl
  | 32, _ => by kernel_rfl
  | 33, _ => by kernel_rfl
  | 34, _ => by kernel_rfl
  | 35, _ => by kernel_rfl
  | 36, _ => by kernel_rfl
  | 37, _ => by kernel_rfl
  | 38, _ => by kernel_rfl
  | 39, _ => by kernel_rfl
  | 40, _ => by kernel_rfl
  | 41, _ => by kernel_rfl
  | 42, _ => by kernel_rfl
  | 43, _ => by kernel_rfl
  | 44, _ => by kernel_rfl
  | 45, _ => by kernel_rfl
  | 46, _ => by kernel_rfl
  | 47, _ => by kernel_rfl
  | 48, _ => by kernel_rfl
  | 49, _ => by kernel_rfl
  | 50, _ => by kernel_rfl
  | 51, _ => by kernel_rfl
  | 52, _ => by kernel_rfl
  | 53, _ => by kernel_rfl
  | 54, _ => by kernel_rfl
  | 55, _ => by kernel_rfl
  | 56, _ => by kernel_rfl
  | 57, _ => by kernel_rfl
  | 58, _ => by kernel_rfl
  | 59, _ => by kernel_rfl
  | 60, _ => by kernel_rfl
  | 61, _ => by kernel_rfl
  | 62, _ => by kernel_rfl
  | 63, _ => by kernel_rfl
  | 64, _ => by kernel_rfl
  | 65, _ => by kernel_rfl
  | 66, _ => by kernel_rfl
  | 67, _ => by kernel_rfl
  | 68, _ => by kernel_rfl
  | 69, _ => by kernel_rfl
  | 70, _ => by kernel_rfl
  | 71, _ => by kernel_rfl
  | 72, _ => by kernel_rfl
  | 73, _ => by kernel_rfl
  | 74, _ => by kernel_rfl
  | 75, _ => by kernel_rfl
  | 76, _ => by kernel_rfl
  | 77, _ => by kernel_rfl
  | 78, _ => by kernel_rfl
  | 79, _ => by kernel_rfl
  | 80, _ => by kernel_rfl
  | 81, _ => by kernel_rfl
  | 82, _ => by kernel_rfl
  | 83, _ => by kernel_rfl
  | 84, _ => by kernel_rfl
  | 85, _ => by kernel_rfl
  | 86, _ => by kernel_rfl
  | 87, _ => by kernel_rfl
  | 88, _ => by kernel_rfl
  | 89, _ => by kernel_rfl
  | 90, _ => by kernel_rfl
  | 91, _ => by kernel_rfl
  | 92, _ => by kernel_rfl
  | 93, _ => by kernel_rfl
  | 94, _ => by kernel_rfl
  | 95, _ => by kernel_rfl
  | 96, _ => by kernel_rfl
  | 97, _ => by kernel_rfl
  | 98, _ => by kernel_rfl
  | 99, _ => by kernel_rfl
  | 100, _ => by kernel_rfl
  | 101, _ => by kernel_rfl
  | 102, _ => by kernel_rfl
  | 103, _ => by kernel_rfl
  | 104, _ => by kernel_rfl
  | 105, _ => by kernel_rfl
  | 106, _ => by kernel_rfl
  | 107, _ => by kernel_rfl
  | 108, _ => by kernel_rfl
  | 109, _ => by kernel_rfl
  | 110, _ => by kernel_rfl
  | 111, _ => by kernel_rfl
  | 112, _ => by kernel_rfl
  | 113, _ => by kernel_rfl
  | 114, _ => by kernel_rfl
  | 115, _ => by kernel_rfl
  | 116, _ => by kernel_rfl
  | 117, _ => by kernel_rfl
  | 118, _ => by kernel_rfl
  | 119, _ => by kernel_rfl
  | 120, _ => by kernel_rfl
  | 121, _ => by kernel_rfl
  | 122, _ => by kernel_rfl
  | 123, _ => by kernel_rfl
  | 124, _ => by kernel_rfl
  | 125, _ => by kernel_rfl
  | 126, _ => by kernel_rfl
  | 127, _ => by kernel_rfl
  | 128, _ => by kernel_rfl
  | 129, _ => by kernel_rfl
  | 130, _ => by kernel_rfl
  | 131, _ => by kernel_rfl
  | 132, _ => by kernel_rfl
  | 133, _ => by kernel_rfl
  | 134, _ => by kernel_rfl
  | 135, _ => by kernel_rfl
  | 136, _ => by kernel_rfl
  | 137, _ => by kernel_rfl
  | 138, _ => by kernel_rfl
  | 139, _ => by kernel_rfl
  | 140, _ => by kernel_rfl
  | 141, _ => by kernel_rfl
  | 142, _ => by kernel_rfl
  | 143, _ => by kernel_rfl
  | 144, _ => by kernel_rfl
  | 145, _ => by kernel_rfl
  | 146, _ => by kernel_rfl
  | 147, _ => by kernel_rfl
  | 148, _ => by kernel_rfl
  | 149, _ => by kernel_rfl
  | 150, _ => by kernel_rfl
  | 151, _ => by kernel_rfl
  | 152, _ => by kernel_rfl
  | 153, _ => by kernel_rfl
  | 154, _ => by kernel_rfl
  | 155, _ => by kernel_rfl
  | 156, _ => by kernel_rfl
  | 157, _ => by kernel_rfl
  | 158, _ => by kernel_rfl
  | 159, _ => by kernel_rfl
  | 160, _ => by kernel_rfl
  | 161, _ => by kernel_rfl
  | 162, _ => by kernel_rfl
  | 163, _ => by kernel_rfl
  | 164, _ => by kernel_rfl
  | 165, _ => by kernel_rfl
  | 166, _ => by kernel_rfl
  | 167, _ => by kernel_rfl
  | 168, _ => by kernel_rfl
  | 169, _ => by kernel_rfl
  | 170, _ => by kernel_rfl
  | 171, _ => by kernel_rfl
  | 172, _ => by kernel_rfl
  | 173, _ => by kernel_rfl
  | 174, _ => by kernel_rfl
  | 175, _ => by kernel_rfl
  | 176, _ => by kernel_rfl
  | 177, _ => by kernel_rfl
  | 178, _ => by kernel_rfl
  | 179, _ => by kernel_rfl
  | 180, _ => by kernel_rfl
  | 181, _ => by kernel_rfl
  | 182, _ => by kernel_rfl
  | 183, _ => by kernel_rfl
  | 184, _ => by kernel_rfl
  | 185, _ => by kernel_rfl
  | 186, _ => by kernel_rfl
  | 187, _ => by kernel_rfl
  | 188, _ => by kernel_rfl
  | 189, _ => by kernel_rfl
  | 190, _ => by kernel_rfl
  | 191, _ => by kernel_rfl
  | 192, _ => by kernel_rfl
  | 193, _ => by kernel_rfl
  | 194, _ => by kernel_rfl
  | 195, _ => by kernel_rfl
  | 196, _ => by kernel_rfl
  | 197, _ => by kernel_rfl
  | 198, _ => by kernel_rfl
  | 199, _ => by kernel_rfl
  | 200, _ => by kernel_rfl
  | 201, _ => by kernel_rfl
  | 202, _ => by kernel_rfl
  | 203, _ => by kernel_rfl
  | 204, _ => by kernel_rfl
  | 205, _ => by kernel_rfl
  | 206, _ => by kernel_rfl
  | 207, _ => by kernel_rfl
  | 208, _ => by kernel_rfl
  | 209, _ => by kernel_rfl
  | 210, _ => by kernel_rfl
  | 211, _ => by kernel_rfl
  | 212, _ => by kernel_rfl
  | 213, _ => by kernel_rfl
  | 214, _ => by kernel_rfl
  | 215, _ => by kernel_rfl
  | 216, _ => by kernel_rfl
  | 217, _ => by kernel_rfl
  | 218, _ => by kernel_rfl
  | 219, _ => by kernel_rfl
  | 220, _ => by kernel_rfl
  | 221, _ => by kernel_rfl
  | 222, _ => by kernel_rfl
  | 223, _ => by kernel_rfl
  | 224, _ => by kernel_rfl
  | 225, _ => by kernel_rfl
  | 226, _ => by kernel_rfl
  | 227, _ => by kernel_rfl
  | 228, _ => by kernel_rfl
  | 229, _ => by kernel_rfl
  | 230, _ => by kernel_rfl
  | 231, _ => by kernel_rfl
  | 232, _ => by kernel_rfl
  | 233, _ => by kernel_rfl
  | 234, _ => by kernel_rfl
  | 235, _ => by kernel_rfl
  | 236, _ => by kernel_rfl
  | 237, _ => by kernel_rfl
  | 238, _ => by kernel_rfl
  | 239, _ => by kernel_rfl
  | 240, _ => by kernel_rfl
  | 241, _ => by kernel_rfl
  | 242, _ => by kernel_rfl
  | 243, _ => by kernel_rfl
  | 244, _ => by kernel_rfl
  | 245, _ => by kernel_rfl
  | 246, _ => by kernel_rfl
  | 247, _ => by kernel_rfl
  | 248, _ => by kernel_rfl
  | 249, _ => by kernel_rfl
  | 250, _ => by kernel_rfl
  | 251, _ => by kernel_rfl
  | 252, _ => by kernel_rfl
  | 253, _ => by kernel_rfl
  | 254, _ => by kernel_rfl
  | 255, _ => by kernel_rfl
  | n + 256, h => absurd h (by omega)
theorem refLocal_ev {n : Nat} (h : n < 256) (a0 : Int) (a2 : Bool) (A a4 a5 : Int) (l6 l7 : List Int) : Ev (fun k => jvmcoreref2_Local.f k a0 (n : Int) a2 A a4 a5 l6 l7) (locV n A, two n) :=
  Ev.of (g := fun k => jvmcoreref2_Local.f k a0 (n : Int) a2 A a4 a5 l6 l7) (fun k => jvmcoreref2_Local.mono _ _ _ _ _ _ _ _ _) (refLocal_tab a0 a2 A a4 a5 l6 l7 n h)
theorem localj_tab (a0 : Int) (a2 : Bool) (A a4 a5 : Int) (l6 l7 : List Int) : ∀ n : Nat, n < 256 → isF n = false → n ≠ 132 → code_Local.j0 3 false a0 (n : Int) a2 A a4 a5 l6 l7 = some (locV n A)
  | 0, _, _, _ => by kernel_rfl
  | 1, _, _, _ => by kernel_rfl
  | 2, _, _, _ => by kernel_rfl
  | 3, _, _, _ => by kernel_rfl
  | 4, _, _, _ => by kernel_rfl
  | 5, _, _, _ => by kernel_rfl
  | 6, _, _, _ => by kernel_rfl
  | 7, _, _, _ => by kernel_rfl
  | 8, _, _, _ => by kernel_rfl
  | 9, _, _, _ => by kernel_rfl
  | 10, _, _, _ => by kernel_rfl
  | 11, _, _, _ => by kernel_rfl
  | 12, _, _, _ => by kernel_rfl
  | 13, _, _, _ => by kernel_rfl
  | 14, _, _, _ => by kernel_rfl
  | 15, _, _, _ => by kernel_rfl
  | 16, _, _, _ => by kernel_rfl
  | 17, _, _, _ => by kernel_rfl
  | 18, _, _, _ => by kernel_rfl
  | 19, _, _, _ => by kernel_rfl
  | 20, _, _, _ => by kernel_rfl
  | 21, _, h, _ => absurd h (by decide)
  | 22, _, h, _ => absurd h (by decide)
  | 23, _, h, _ => absurd h (by decide)
  | 24, _, h, _ => absurd h (by decide)
  | 25, _, h, _ => absurd h (by decide)
  | 26, _, _, _ => by kernel_rfl
  | 27, _, _, _ => by kernel_rfl
  | 28, _, _, _ => by kernel_rfl
  | 29, _, _, _ => by kernel_rfl
  | 30, _, _, _ => by kernel_rfl
  | 31, _, _, _ => by kernel_rfl
  | 32, _, _, _ => by kernel_rfl
  | 33, _, _, _ => by kernel_rfl
  | 34, _, _, _ => by kernel_rfl
  | 35, _, _, _ => by kernel_rfl
  | 36, _, _, _ => by kernel_rfl
  | 37, _, _, _ => by kernel_rfl
  | 38, _, _, _ => by kernel_rfl
  | 39, _, _, _ => by kernel_rfl
  | 40, _, _, _ => by kernel_rfl
  | 41, _, _, _ => by kernel_rfl
  | 42, _, _, _ => by kernel_rfl
  | 43, _, _, _ => by kernel_rfl
  | 44, _, _, _ => by kernel_rfl
  | 45, _, _, _ => by kernel_rfl
  | 46, _, _, _ => by kernel_rfl
  | 47, _, _, _ => by kernel_rfl
  | 48, _, _, _ => by kernel_rfl
  | 49, _, _, _ => by kernel_rfl
  | 50, _, _, _ => by kernel_rfl
  | 51, _, _, _ => by kernel_rfl
  | 52, _, _, _ => by kernel_rfl
  | 53, _, _, _ => by kernel_rfl
  | 54, _, h, _ => absurd h (by decide)
  | 55, _, h, _ => absurd h (by decide)
  | 56, _, h, _ => absurd h (by decide)
  | 57, _, h, _ => absurd h (by decide)
  | 58, _, h, _ => absurd h (by decide)
  | 59, _, _, _ => by kernel_rfl
  | 60, _, _, _ => by kernel_rfl
  | 61, _, _, _ => by kernel_rfl
  | 62, _, _, _ => by kernel_rfl
  | 63, _, _, _ => by kernel_rfl
  | 64, _, _, _ => by kernel_rfl
  | 65, _, _, _ => by kernel_rfl
  | 66, _, _, _ => by kernel_rfl
  | 67, _, _, _ => by kernel_rfl
  | 68, _, _, _ => by kernel_rfl
  | 69, _, _, _ => by kernel_rfl
  | 70, _, _, _ => by kernel_rfl
  | 71, _, _, _ => by kernel_rfl
  | 72, _, _, _ => by kernel_rfl
  | 73, _, _, _ => by kernel_rfl
  | 74, _, _, _ => by kernel_rfl
  | 75, _, _, _ => by kernel_rfl
  | 76, _, _, _ => by kernel_rfl
  | 77, _, _, _ => by kernel_rfl
  | 78, _, _, _ => by kernel_rfl
  | 79, _, _, _ => by kernel_rfl
  | 80, _, _, _ => by kernel_rfl
  | 81, _, _, _ => by kernel_rfl
  | 82, _, _, _ => by kernel_rfl
  | 83, _, _, _ => by kernel_rfl
  | 84, _, _, _ => by kernel_rfl
  | 85, _, _, _ => by kernel_rfl
  | 86, _, _, _ => by kernel_rfl
  | 87, _, _, _ => by kernel_rfl
  | 88, _, _, _ => by kernel_rfl
  | 89, _, _, _ => by kernel_rfl
  | 90, _, _, _ => by kernel_rfl
  | 91, _, _, _ => by kernel_rfl
  | 92, _, _, _ => by kernel_rfl
  | 93, _, _, _ => by kernel_rfl
  | 94, _, _, _ => by kernel_rfl
  | 95, _, _, _ => by kernel_rfl
  | 96, _, _, _ => by kernel_rfl
  | 97, _, _, _ => by kernel_rfl
  | 98, _, _, _ => by kernel_rfl
  | 99, _, _, _ => by kernel_rfl
  | 100, _, _, _ => by kernel_rfl
  | 101, _, _, _ => by kernel_rfl
  | 102, _, _, _ => by kernel_rfl
  | 103, _, _, _ => by kernel_rfl
  | 104, _, _, _ => by kernel_rfl
  | 105, _, _, _ => by kernel_rfl
  | 106, _, _, _ => by kernel_rfl
  | 107, _, _, _ => by kernel_rfl
  | 108, _, _, _ => by kernel_rfl
  | 109, _, _, _ => by kernel_rfl
  | 110, _, _, _ => by kernel_rfl
  | 111, _, _, _ => by kernel_rfl
  | 112, _, _, _ => by kernel_rfl
  | 113, _, _, _ => by kernel_rfl
  | 114, _, _, _ => by kernel_rfl
  | 115, _, _, _ => by kernel_rfl
  | 116, _, _, _ => by kernel_rfl
  | 117, _, _, _ => by kernel_rfl
  | 118, _, _, _ => by kernel_rfl
  | 119, _, _, _ => by kernel_rfl
  | 120, _, _, _ => by kernel_rfl
  | 121, _, _, _ => by kernel_rfl
  | 122, _, _, _ => by kernel_rfl
  | 123, _, _, _ => by kernel_rfl
  | 124, _, _, _ => by kernel_rfl
  | 125, _, _, _ => by kernel_rfl
  | 126, _, _, _ => by kernel_rfl
  | 127, _, _, _ => by kernel_rfl
  | 128, _, _, _ => by kernel_rfl
  | 129, _, _, _ => by kernel_rfl
  | 130, _, _, _ => by kernel_rfl
  | 131, _, _, _ => by kernel_rfl
  | 132, _, _, h => absurd h (by decide)
  | 133, _, _, _ => by kernel_rfl
  | 134, _, _, _ => by kernel_rfl
  | 135, _, _, _ => by kernel_rfl
  | 136, _, _, _ => by kernel_rfl
  | 137, _, _, _ => by kernel_rfl
  | 138, _, _, _ => by kernel_rfl
  | 139, _, _, _ => by kernel_rfl
  | 140, _, _, _ => by kernel_rfl
  | 141, _, _, _ => by kernel_rfl
  | 142, _, _, _ => by kernel_rfl
  | 143, _, _, _ => by kernel_rfl
  | 144, _, _, _ => by kernel_rfl
  | 145, _, _, _ => by kernel_rfl
  | 146, _, _, _ => by kernel_rfl
  | 147, _, _, _ => by kernel_rfl
  | 148, _, _, _ => by kernel_rfl
  | 149, _, _, _ => by kernel_rfl
  | 150, _, _, _ => by kernel_rfl
  | 151, _, _, _ => by kernel_rfl
  | 152, _, _, _ => by kernel_rfl
  | 153, _, _, _ => by kernel_rfl
  | 154, _, _, _ => by kernel_rfl
  | 155, _, _, _ => by kernel_rfl
  | 156, _, _, _ => by kernel_rfl
  | 157, _, _, _ => by kernel_rfl
  | 158, _, _, _ => by kernel_rfl
  | 159, _, _, _ => by kernel_rfl
  | 160, _, _, _ => by kernel_rfl
  | 161, _, _, _ => by kernel_rfl
  | 162, _, _, _ => by kernel_rfl
  | 163, _, _, _ => by kernel_rfl
  | 164, _, _, _ => by kernel_rfl
  | 165, _, _, _ => by kernel_rfl
  | 166, _, _, _ => by kernel_rfl
  | 167, _, _, _ => by kernel_rfl
  | 168, _, _, _ => by kernel_rfl
  | 169, _, _, _ => by kernel_rfl
  | 170, _, _, _ => by kernel_rfl
  | 171, _, _, _ => by kernel_rfl
  | 172, _, _, _ => by kernel_rfl
  | 173, _, _, _ => by kernel_rfl
  | 174, _, _, _ => by kernel_rfl
  | 175, _, _, _ => by kernel_rfl
  | 176, _, _, _ => by kernel_rfl
  | 177, _, _, _ => by kernel_rfl
  | 178, _, _, _ => by kernel_rfl
  | 179, _, _, _ => by kernel_rfl
  | 180, _, _, _ => by kernel_rfl
  | 181, _, _, _ => by kernel_rfl
  | 182, _, _, _ => by kernel_rfl
  | 183, _, _, _ => by kernel_rfl
  | 184, _, _, _ => by kernel_rfl
  | 185, _, _, _ => by kernel_rfl
  | 186, _, _, _ => by kernel_rfl
  | 187, _, _, _ => by kernel_rfl
  | 188, _, _, _ => by kernel_rfl
  | 189, _, _, _ => by kernel_rfl
  | 190, _, _, _ => by kernel_rfl
  | 191, _, _, _ => by kernel_rfl
  | 192, _, _, _ => by kernel_rfl
  | 193, _, _, _ => by kernel_rfl
  | 194, _, _, _ => by kernel_rfl
  | 195, _, _, _ => by kernel_rfl
  | 196, _, _, _ => by kernel_rfl
  | 197, _, _, _ => by kernel_rfl
  | 198, _, _, _ => by kernel_rfl
  | 199, _, _, _ => by kernel_rfl
  | 200, _, _, _ => by kernel_rfl
  | 201, _, _, _ => by kernel_rfl
  | 202, _, _, _ => by kernel_rfl
  | 203, _, _, _ => by kernel_rfl
  | 204, _, _, _ => by kernel_rfl
  | 205, _, _, _ => by kernel_rfl
  | 206, _, _, _ => by kernel_rfl
  | 207, _, _, _ => by kernel_rfl
  | 208, _, _, _ => by kernel_rfl
  | 209, _, _, _ => by kernel_rfl
  | 210, _, _, _ => by kernel_rfl
  | 211, _, _, _ => by kernel_rfl
  | 212, _, _, _ => by kernel_rfl
  | 213, _, _, _ => by kernel_rfl
  | 214, _, _, _ => by kernel_rfl
  | 215, _, _, _ => by kernel_rfl
  | 216, _, _, _ => by kernel_rfl
  | 217, _, _, _ => by kernel_rfl
  | 218, _, _, _ => by kernel_rfl
  | 219, _, _, _ => by kernel_rfl
  | 220, _, _, _ => by kernel_rfl
  | 221, _, _, _ => by kernel_rfl
  | 222, _, _, _ => by kernel_rfl
  | 223, _, _, _ => by kernel_rfl
  | 224, _, _, _ => by kernel_rfl
  | 225, _, _, _ => by kernel_rfl
  | 226, _, _, _ => by kernel_rfl
  | 227, _, _, _ => by kernel_rfl
  | 228, _, _, _ => by kernel_rfl
  | 229, _, _, _ => by kernel_rfl
  | 230, _, _, _ => by kernel_rfl
  | 231, _, _, _ => by kernel_rfl
  | 232, _, _, _ => by kernel_rfl
  | 233, _, _, _ => by kernel_rfl
  | 234, _, _, _ => by kernel_rfl
  | 235, _, _, _ => by kernel_rfl
  | 236, _, _, _ => by kernel_rfl
  | 237, _, _, _ => by kernel_rfl
  | 238, _, _, _ => by kernel_rfl
  | 239, _, _, _ => by kernel_rfl
  | 240, _, _, _ => by kernel_rfl
  | 241, _, _, _ => by kernel_rfl
  | 242, _, _, _ => by kernel_rfl
  | 243, _, _, _ => by kernel_rfl
  | 244, _, _, _ => by kernel_rfl
  | 245, _, _, _ => by kernel_rfl
  | 246, _, _, _ => by kernel_rfl
  | 247, _, _, _ => by kernel_rfl
  | 248, _, _, _ => by kernel_rfl
  | 249, _, _, _ => by kernel_rfl
  | 250, _, _, _ => by kernel_rfl
  | 251, _, _, _ => by kernel_rfl
  | 252, _, _, _ => by kernel_rfl
  | 253, _, _, _ => by kernel_rfl
  | 254, _, _, _ => by kernel_rfl
  | 255, _, _, _ => by kernel_rfl
  | n + 256, h, _, _ => absurd h (by omega)
theorem local_ev {n : Nat} (h : n < 256) (a0 : Int) (a2 : Bool) (A a4 a5 : Int) (l6 l7 : List Int) : Ev (fun k => code_Local.f k a0 (n : Int) a2 A a4 a5 l6 l7) (locV n A) := by
  obtain ⟨f, hf, h6, h7⟩ := form_ev h
  refine Ev.bind hf ?_
  have ht : isF n = true ∨ n = 132 → Ev (fun k => code_Local.j0 k true a0 (n : Int) a2 A a4 a5 l6 l7) (locV n A) := fun hh => by
    have e : locV n A = A := by unfold locV; rcases hh with hh | hh; rw [if_pos hh]; rw [if_pos hh]; split <;> rfl
    rw [e]
    exact Ev.step (f := fun _ => some A) (fun k => by simp only [code_Local.j0]; rw [if_pos trivial]) (Ev.now _)
  by_cases c6 : f = 6
  · refine Ev.congr (fun k => if_pos c6) (ht (.inl (h6.1 c6)))
  · refine Ev.congr (fun k => if_neg c6) ?_
    by_cases c7 : f = 7
    · rw [show (f == 7) = true from beq_iff_eq.2 c7]
      exact ht (.inr (h7.1 c7))
    · rw [show (f == 7) = false from beq_eq_false_iff_ne.2 c7]
      have g6 : isF n = false := by cases hh : isF n with | false => rfl | true => exact absurd (h6.2 hh) c6
      have g7 : n ≠ 132 := fun hh => c7 (h7.2 hh)
      refine ⟨3, fun k hk => ?_⟩
      exact at_rounds (g := fun k => code_Local.j0 k false a0 (n : Int) a2 A a4 a5 l6 l7) (fun k => (code_Local.mono_l k).1 _ _ _ _ _ _ _ _ _) hk (localj_tab a0 a2 A a4 a5 l6 l7 n h g6 g7)
theorem room_j0 {n : Nat} (h : n < 256) (a0 : Int) (a2 : Bool) (A a4 a5 : Int) (l6 l7 : List Int) (x1 : Int) (h1 : -9223372036854775808 ≤ x1) (h2 : x1 < 9223372036854775808) (hh : hasLoc n = true) :
    Ev (fun k => code_room.j0 k x1 false a0 (n : Int) a2 A a4 a5 l6 l7) (roomV n A x1) := by
  refine Ev.step (fun k => by simp only [code_room.j0]; rw [if_neg (by simp)]) (Ev.bind (local_ev h a0 a2 A a4 a5 l6 l7) ?_)
  unfold roomV
  rw [hh, wide_eq h]
  generalize locV n A = v
  by_cases c0 : v ≥ 0
  · refine Ev.congr (fun k => if_pos c0) ?_
    by_cases c1 : v < x1
    · refine Ev.congr (fun k => if_pos c1) ?_
      rw [wr (x := x1 - 1) (by omega) (by omega), decide_eq_true (show 0 ≤ v from c0), decide_eq_true c1]
      cases two n with
      | true => exact Ev.now _
      | false => exact Ev.now _
    · refine Ev.congr (fun k => if_neg c1) ?_
      rw [decide_eq_false c1, Bool.and_false, Bool.false_and]
      exact Ev.now _
  · refine Ev.congr (fun k => if_neg c0) ?_
    rw [decide_eq_false (show ¬ 0 ≤ v from c0), Bool.false_and, Bool.false_and]
    exact Ev.now _
theorem room_ev {n : Nat} (h : n < 256) (a0 : Int) (a2 : Bool) (A a4 a5 : Int) (l6 l7 : List Int) (x1 : Int) (h1 : -9223372036854775808 ≤ x1) (h2 : x1 < 9223372036854775808) :
    Ev (fun k => code_room.f k a0 (n : Int) a2 A a4 a5 l6 l7 x1) (roomV n A x1) := by
  have hj := fun hh => room_j0 h a0 a2 A a4 a5 l6 l7 x1 h1 h2 hh
  have ht : hasLoc n = false → Ev (fun k => code_room.j0 k x1 true a0 (n : Int) a2 A a4 a5 l6 l7) (roomV n A x1) := fun hh => by
    rw [show roomV n A x1 = true by unfold roomV; rw [hh]; rfl]
    exact Ev.step (f := fun _ => some true) (fun k => by simp only [code_room.j0]; rw [if_pos trivial]) (Ev.now _)
  obtain ⟨f, hf, h6, h7⟩ := form_ev h
  refine Ev.bind hf ?_
  by_cases c6 : f = 6
  · exact Ev.congr (fun k => if_pos c6) (hj (by unfold hasLoc; rw [h6.1 c6]; rfl))
  refine Ev.congr (fun k => if_neg c6) ?_
  by_cases c7 : f = 7
  · exact Ev.congr (fun k => if_pos c7) (hj (by unfold hasLoc; rw [h7.1 c7]; rfl))
  refine Ev.congr (fun k => if_neg c7) ?_
  have g6 : isF n = false := by cases hh : isF n with | false => rfl | true => exact absurd (h6.2 hh) c6
  have g7 : (n == 132) = false := beq_eq_false_iff_ne.2 (fun hh => c7 (h7.2 hh))
  have hl : hasLoc n = inR n := by unfold hasLoc; rw [g6, g7]; rfl
  rw [hl] at hj ht
  by_cases a : (n : Int) < 26
  · refine Ev.congr (fun k => if_pos a) ?_
    refine Ev.yes (show (n : Int) < 59 by omega) ?_
    exact ht (by unfold inR; simp; omega)
  refine Ev.no a ?_
  by_cases b : (n : Int) > 45
  · refine Ev.yes b ?_
    by_cases c : (n : Int) < 59
    · refine Ev.yes c ?_; exact ht (by unfold inR; simp; omega)
    · refine Ev.no c ?_
      by_cases d : (n : Int) > 78
      · rw [decide_eq_true d]; exact ht (by unfold inR; simp; omega)
      · rw [decide_eq_false d]; exact hj (by unfold inR; simp; omega)
  · refine Ev.no b ?_; exact hj (by unfold inR; simp; omega)
theorem refroom_j0 {n : Nat} (h : n < 256) (a0 : Int) (a2 : Bool) (A a4 a5 : Int) (l6 l7 : List Int) (x1 : Int) (h1 : -9223372036854775808 ≤ x1) (h2 : x1 < 9223372036854775808) (hh : hasLoc n = true) :
    Ev (fun k => jvmcoreref2_room.j0 k x1 false a0 (n : Int) a2 A a4 a5 l6 l7) (roomV n A x1) := by
  refine Ev.step (fun k => by simp only [jvmcoreref2_room.j0]; rw [if_neg (by simp)]) (Ev.bind (refLocal_ev h a0 a2 A a4 a5 l6 l7) ?_)
  unfold roomV
  rw [hh]
  dsimp only
  generalize locV n A = v
  by_cases c0 : v < 0
  · refine Ev.congr (fun k => if_pos c0) ?_
    rw [decide_eq_false (show ¬ 0 ≤ v by omega), Bool.false_and, Bool.false_and]
    exact Ev.now _
  · refine Ev.congr (fun k => if_neg c0) ?_
    by_cases c1 : v ≥ x1
    · refine Ev.congr (fun k => if_pos c1) ?_
      rw [decide_eq_false (show ¬ v < x1 by omega), Bool.and_false, Bool.false_and]
      exact Ev.now _
    · refine Ev.congr (fun k => if_neg c1) ?_
      rw [wr (x := x1 - v) (by omega) (by omega), decide_eq_true (show 0 ≤ v by omega), decide_eq_true (show v < x1 by omega)]
      have e : decide (x1 - v > 1) = decide (v < x1 - 1) := by rw [decide_eq_decide]; omega
      rw [e]
      cases two n with
      | true => exact Ev.now _
      | false => exact Ev.now _
theorem refroom_ev {n : Nat} (h : n < 256) (a0 : Int) (a2 : Bool) (A a4 a5 : Int) (l6 l7 : List Int) (x1 : Int) (h1 : -9223372036854775808 ≤ x1) (h2 : x1 < 9223372036854775808) :
    Ev (fun k => jvmcoreref2_room.f k a0 (n : Int) a2 A a4 a5 l6 l7 x1) (roomV n A x1) := by
  have hj := fun hh => refroom_j0 h a0 a2 A a4 a5 l6 l7 x1 h1 h2 hh
  have ht : hasLoc n = false → Ev (fun k => jvmcoreref2_room.j0 k x1 true a0 (n : Int) a2 A a4 a5 l6 l7) (roomV n A x1) := fun hh => by
    rw [show roomV n A x1 = true by unfold roomV; rw [hh]; rfl]
    exact Ev.step (f := fun _ => some true) (fun k => by simp only [jvmcoreref2_room.j0]; rw [if_pos trivial]) (Ev.now _)
  obtain ⟨s, hf, h6, h7⟩ := refform h
  unfold jvmcoreref2_room.f
  rw [hf, wr (x := (n : Int)) (by omega) (by omega)]
  simp only [Option.bind_some]
  by_cases c6 : s.toList = ([108] : List UInt8)
  · refine Ev.yes c6 ?_; exact hj (by unfold hasLoc; rw [h6.1 c6]; rfl)
  refine Ev.no c6 ?_
  by_cases c7 : s.toList = ([110] : List UInt8)
  · refine Ev.yes c7 ?_; exact hj (by unfold hasLoc; rw [h7.1 c7]; rfl)
  refine Ev.no c7 ?_
  have g6 : isF n = false := by cases hh : isF n with | false => rfl | true => exact absurd (h6.2 hh) c6
  have g7 : (n == 132) = false := beq_eq_false_iff_ne.2 (fun hh => c7 (h7.2 hh))
  have hl : hasLoc n = inR n := by unfold hasLoc; rw [g6, g7]; rfl
  rw [hl] at hj ht
  by_cases a : (n : Int) ≥ 26
  · refine Ev.yes a ?_
    by_cases b : (n : Int) ≤ 45
    · refine Ev.yes b ?_; exact hj (by unfold inR; simp; omega)
    · refine Ev.no b ?_
      by_cases c : (n : Int) ≥ 59
      · refine Ev.yes c ?_
        by_cases d : (n : Int) ≤ 78
        · rw [decide_eq_true d]; exact hj (by unfold inR; simp; omega)
        · rw [decide_eq_false d]; exact ht (by unfold inR; simp; omega)
      · refine Ev.no c ?_; exact ht (by unfold inR; simp; omega)
  · refine Ev.no a (Ev.no (show ¬ (n : Int) ≥ 59 by omega) ?_); exact ht (by unfold inR; simp; omega)
end Go.Proofs.YtfnjbmpolggdeaaDoor.CC
end
