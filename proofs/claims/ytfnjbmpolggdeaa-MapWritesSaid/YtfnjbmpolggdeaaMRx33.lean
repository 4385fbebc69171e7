-- Written by a program (my copy of the print's, with functions given by hand): began as a printed text.
import Derived.Test.YtfnjbmpolggdeaaMRx0
namespace Go.Proofs.Ytfnjbmpolggdeaa.MR
open Go.RowKit Go.Proofs.YtfnjbmpolggdeaaW.PrintWords Go.Proofs.YtfnjbmpolggdeaaW.PrintLast Go.Proofs.YtfnjbmpolggdeaaW.PrintMore
attribute [local go_sem] max2_int min2_int max_two min_two max_three min_three max_four min_four   -- for this text's walks alone
set_option linter.unusedVariables false
set_option linter.unusedSimpArgs false

/-! ### jvmcorelaw3_twin: function 26 -/
def jvmcorelaw3_twin.l0 : Nat → List (S80) → List (S80) → Int → Int → Option ((List (S80)))
  | 0, _, _, _, _ => none
  | k + 1, x3, x6, x7, x8 => if x8 < x7 then (if 0 ≤ x8 then (if x8 < (x6.length : Int) then (if ([] : List (S54)).length + ((rd_T80 x6 x8).f1).length < 4398046511104 then (if ([] : List (S54)).length + ((rd_T80 x6 x8).f2).length < 4398046511104 then (if x3.length < 2513169434916 then (jvmcorelaw3_twin.l0 k (x3 ++ [(⟨(rd_T80 x6 x8).f0, (([] : List (S54)) ++ ((rd_T80 x6 x8).f1)), (([] : List (S54)) ++ ((rd_T80 x6 x8).f2))⟩ : S80)]) x6 x7 (wrap64 (x8 + 1))) else (none)) else (none)) else (none)) else (none)) else (none)) else (some x3)
def jvmcorelaw3_twin.f (k : Nat) (l0 : List (S80)) : Option ((List (S80))) := jvmcorelaw3_twin.l0 k ([] : List (S80)) l0 (l0.length : Int) 0
theorem jvmcorelaw3_twin.mono_l : ∀ k, (∀ y0 y1 y2 y3, LeO (jvmcorelaw3_twin.l0 k y0 y1 y2 y3) (jvmcorelaw3_twin.l0 (k + 1) y0 y1 y2 y3))
  | 0 => fun _ _ _ _ r h => by simp [jvmcorelaw3_twin.l0] at h
  | k + 1 => by
    have ih0 := jvmcorelaw3_twin.mono_l k
    · intro y0 y1 y2 y3
      unfold jvmcorelaw3_twin.l0
      repeat' first
      | (with_reducible exact ih0 _ _ _ _)
      | (with_reducible exact LeO.refl _)
      | (with_reducible exact LeO.none _)
      | (with_reducible refine LeO.ite ?_ ?_)
      | (with_reducible refine LeO.bind ?_ (fun _ => ?_))
      | exact ih0 _ _ _ _
      | exact LeO.none _
      | refine LeO.ite ?_ ?_
      | refine LeO.bind ?_ (fun _ => ?_)
theorem jvmcorelaw3_twin.mono : ∀ a0 k, LeO (jvmcorelaw3_twin.f k a0) (jvmcorelaw3_twin.f (k + 1) a0) := by
  intro a0 k
  have ih0 := jvmcorelaw3_twin.mono_l k
  unfold jvmcorelaw3_twin.f
  repeat' first
      | (with_reducible exact ih0 _ _ _ _)
      | (with_reducible exact LeO.refl _)
      | (with_reducible exact LeO.none _)
      | (with_reducible refine LeO.ite ?_ ?_)
      | (with_reducible refine LeO.bind ?_ (fun _ => ?_))
      | exact ih0 _ _ _ _
      | exact LeO.none _
      | refine LeO.ite ?_ ?_
      | refine LeO.bind ?_ (fun _ => ?_)
set_option maxHeartbeats 8000000 in
set_option maxRecDepth 100000 in
theorem jvmcorelaw3_twin.calls (k : Nat) (A0 : Option Addr) (c0 : Nat) (l0 : List (S80)) (r : List (S80)) (w : World) (hr0 : Kd.C k80 w A0 l0.length l0) (hc0 : l0.length ≤ c0) (h : jvmcorelaw3_twin.f k l0 = some r) :
    Calls Try.prog 26 #[.slice A0 l0.length c0] w fun e w' => ∃ v0_ : Value, e = .returned (v0_) ∧ Kd.S k80 80 w' w.heap.size (fun _ => True) v0_ r ∧ Below w.heap.size w w' := by
  have hu80 := Try.underlying80
  have HR0 := Aside0.mk hr0
  have HC0 := Aside0.mk hc0
  clear hr0 hc0
  have HB := Aside0.mk (Below.refl w.heap.size w)
  have H : (jvmcorelaw3_twin.l0 k ([] : List (S80)) l0 (l0.length : Int) 0) = some r := h
  clear h
  have H' := Aside0.mk H
  clear H
  go_enter Try.func26, Try.ntmps26
  go_wp2
  go_loopg [3, 8] k (fun kq v3 v8 w' => ∃ (x3_1 : List (S80)) (x8_1 : Int), v8 = .int .i64 x8_1 ∧ Aside0 (jvmcorelaw3_twin.l0 kq x3_1 l0 (l0.length : Int) x8_1 = some r) ∧ Aside0 (kq ≤ k) ∧ Aside0 (Kd.S k80 80 w' w.heap.size (fun _ => True) v3 x3_1) ∧ Aside0 (Below w.heap.size w w'))
  case atStart => exact ⟨(([] : List (S80))), (0), (by first | rfl | (simp; done) | (simp [*]; done)), H', ⟨Nat.le_refl _⟩, ⟨by first | exact Kd.S_nil _ _ _ _ _ | exact Kd.N_nil _ _ _ _ _ | exact Kd.V_nil _ _ _ _ _ | exact Kd.Q_nil _ _ _ _ _ | exact Kd.R_nil _ _ _ _ _⟩, ⟨by repeat (first | (with_reducible first | exact HB.out | apply below_alloc | apply pw_below_drewN | apply below_drew1) | exact HB.out)⟩⟩
  case round =>
    clear H'
    obtain ⟨x3_1, x8_1, rfl, HA, HK1, HO_3, HB⟩ := hrel
    cases gk with
    | zero => exact absurd HA.out (by simp [jvmcorelaw3_twin.l0])
    | succ k1 =>
      have H := HA.out
      clear HA
      simp only [jvmcorelaw3_twin.l0] at H
      by_cases c2 : x8_1 < (l0.length : Int)
      · rw [if_pos c2] at H
        have c2b0 : decide (x8_1 < (l0.length : Int)) = true := decide_eq_true c2
        clear c2
        by_cases c3 : 0 ≤ x8_1
        · rw [if_pos c3] at H
          have c3b0 : decide (0 ≤ x8_1) = true := decide_eq_true c3
          clear c3
          by_cases c4 : x8_1 < (l0.length : Int)
          · rw [if_pos c4] at H
            have c4b0 : decide (x8_1 < (l0.length : Int)) = true := decide_eq_true c4
            clear c4
            by_cases c5 : ([] : List (S54)).length + ((rd_T80 l0 x8_1).f1).length < 4398046511104
            · rw [if_pos c5] at H
              have LMc5 := Aside0.mk c5
              clear c5
              obtain ⟨y374, hy374⟩ : ∃ y_ : List (S54), y_ = (([] : List (S54)) ++ ((rd_T80 l0 x8_1).f1)) := ⟨_, rfl⟩
              replace H : (if ([] : List (S54)).length + ((rd_T80 l0 x8_1).f2).length < 4398046511104 then (if x3_1.length < 2513169434916 then (jvmcorelaw3_twin.l0 k1 (x3_1 ++ [(⟨(rd_T80 l0 x8_1).f0, y374, (([] : List (S54)) ++ ((rd_T80 l0 x8_1).f2))⟩ : S80)]) l0 (l0.length : Int) (wrap64 (x8_1 + 1))) else (none)) else (none)) = some r := by first | (rw [hy374]; with_reducible exact H) | (have H2_ := (Option.bind_some _ _).symm.trans H; rw [hy374]; with_reducible exact H2_) | (have H2_ := (Option.bind_some _ _).symm.trans H; with_reducible exact H2_) | with_reducible exact H | (rw [hy374]; exact H) | exact H
              have Ny374 := Aside0.mk hy374
              clear hy374
              by_cases c6 : ([] : List (S54)).length + ((rd_T80 l0 x8_1).f2).length < 4398046511104
              · rw [if_pos c6] at H
                have LMc6 := Aside0.mk c6
                clear c6
                obtain ⟨y377, hy377⟩ : ∃ y_ : List (S54), y_ = (([] : List (S54)) ++ ((rd_T80 l0 x8_1).f2)) := ⟨_, rfl⟩
                replace H : (if x3_1.length < 2513169434916 then (jvmcorelaw3_twin.l0 k1 (x3_1 ++ [(⟨(rd_T80 l0 x8_1).f0, y374, y377⟩ : S80)]) l0 (l0.length : Int) (wrap64 (x8_1 + 1))) else (none)) = some r := by first | (rw [hy377]; with_reducible exact H) | (have H2_ := (Option.bind_some _ _).symm.trans H; rw [hy377]; with_reducible exact H2_) | (have H2_ := (Option.bind_some _ _).symm.trans H; with_reducible exact H2_) | with_reducible exact H | (rw [hy377]; exact H) | exact H
                have Ny377 := Aside0.mk hy377
                clear hy377
                by_cases c7 : x3_1.length < 2513169434916
                · rw [if_pos c7] at H
                  have LMc7 := Aside0.mk c7
                  clear c7
                  obtain ⟨y380, hy380⟩ : ∃ y_ : List (S80), y_ = (x3_1 ++ [(⟨(rd_T80 l0 x8_1).f0, y374, y377⟩ : S80)]) := ⟨_, rfl⟩
                  replace H : (jvmcorelaw3_twin.l0 k1 y380 l0 (l0.length : Int) (wrap64 (x8_1 + 1))) = some r := by first | (rw [hy380]; with_reducible exact H) | (have H2_ := (Option.bind_some _ _).symm.trans H; rw [hy380]; with_reducible exact H2_) | (have H2_ := (Option.bind_some _ _).symm.trans H; with_reducible exact H2_) | with_reducible exact H | (rw [hy380]; exact H) | exact H
                  have Ny380 := Aside0.mk hy380
                  clear hy380
                  have H' := Aside0.mk H
                  clear H
                  have p372 : 0 ≤ (x8_1 : Int) := of_decide_eq_true (by first | (with_reducible assumption) | assumption)
                  have q372 : x8_1 < (l0.length : Int) := of_decide_eq_true (by first | (with_reducible assumption) | assumption)
                  obtain ⟨ad372, A372_1, c372_1, A372_2, c372_2, e372, hx372_0, hx372_1, hx372_2, hl372_1, hi372_1, hl372_2, hi372_2⟩ := at_T80 HR0.out x8_1 p372 q372
                  cases e372
                  replace hx372_0 := (HB.out.cell (World.block_lt_of_cell? w _ hx372_0)).trans hx372_0
                  replace hx372_1 := (HB.out.cell (World.block_lt_of_cell? w _ hx372_1)).trans hx372_1
                  replace hx372_2 := (HB.out.cell (World.block_lt_of_cell? w _ hx372_2)).trans hx372_2
                  have HR372_1 := Aside0.mk hi372_1
                  have HC372_1 := Aside0.mk hl372_1
                  clear hi372_1 hl372_1
                  have HR372_2 := Aside0.mk hi372_2
                  have HC372_2 := Aside0.mk hl372_2
                  clear hi372_2 hl372_2
                  replace p372 := eq_true p372
                  replace q372 := eq_true q372
                  go_wp2_with (first | ((with_reducible refine gate_dst (N := 5) rfl ?_); refine box_event ?hg (N := 5) ?hd (cs := #[.int .i64 0, .slice none 0 0, .slice none 0 0]) (t := 80) ?hr ?_; (case hd => rfl); (case hg => rfl); (case hr => first | (go_simp; done) | (go_simp; rfl)); intro gb373 hg w8 hbox hb; have n0_ := Aside0.mk (Kd.S_below (Kd.S_elderB (by (with_reducible repeat (first | apply Kd.S_alloc | apply Kd.S_drewN | apply Kd.S_drew)); exact HO_3.out) gb373 (Nat.le_of_eq hg.symm)) hb); have n1_ := Aside0.mk (below_step (by repeat (first | (with_reducible first | exact HB.out | apply below_alloc | apply pw_below_drewN | apply below_drew1) | exact HB.out)) hb); have n2_ := Aside0.mk (hbox); have n3_ := Aside0.mk ((by rw [hg]; exact (below_size (by repeat (first | (with_reducible first | exact HB.out | apply below_alloc | apply pw_below_drewN | apply below_drew1) | exact HB.out))) : w.heap.size ≤ gb373)); have n4_ := Aside0.mk ((by rw [hg]; exact (below_size (by repeat (first | (with_reducible first | exact HB.out | apply below_alloc | apply pw_below_drewN | apply below_drew1) | exact HB.out))) : w.heap.size ≤ gb373)); clear HO_3; clear HB; have HO_3 := n0_; have HB := n1_; have BK373 := n2_; have GW373 := n3_; have GE373 := n4_; clear n0_ n1_ n2_ n3_ n4_; clear hb hbox hg; have hcz9_0 : w8.cell? ⟨gb373, 0, none⟩ = some (.int .i64 0) := (blk_cell BK373.out 0).trans rfl; have hcz9_1 : w8.cell? ⟨gb373, 1, none⟩ = some (.slice none 0 0) := (blk_cell BK373.out 1).trans rfl; have hcz9_2 : w8.cell? ⟨gb373, 2, none⟩ = some (.slice none 0 0) := (blk_cell BK373.out 2).trans rfl; have hfz9_0 := blk_frozen BK373.out 0; have hfz9_1 := blk_frozen BK373.out 1; have hfz9_2 := blk_frozen BK373.out 2) | ((with_reducible refine gate_builtin (b := .append) (xs := #[.const (.slice none 0 0), .tmp 13]) rfl ?_); at_builtin; refine Kd.R_append_rows k54 (w0 := w) w.heap.size rfl (.const (.slice none 0 0)) (.tmp 13) 44 54 (.agg #[(.int .u8 0), (.string ⟨#[]⟩), (.int .i64 0)]) 32 rfl Try.underlying44 info54 rfl (by decide) (by omega) (.slice none 0 0) ([] : List (S54)) ((rd_T80 l0 x8_1).f1) _ _ _ (fun _ => True) (fun _ => False) rfl rfl ?aO ?aR (fun _ _ h => h) (fun _ h => h.elim) ?aF ?aB ?aS ?aL ?_; (case aR => exact Kd.C_below HR372_1.out (by repeat (first | (with_reducible first | exact HB.out | apply below_alloc | apply pw_below_drewN | apply below_drew1 | refine below_set ?_ GE373.out) | exact HB.out))); (case aB => exact (by repeat (first | (with_reducible first | exact HB.out | apply below_alloc | apply pw_below_drewN | apply below_drew1 | refine below_set ?_ GE373.out) | exact HB.out))); (case aF => exact (fun _ _ => trivial)); (case aO => exact ((Kd.R_nil _ _ _ _ (fun _ => True)))); (case aS => exact (below_size (by repeat (first | (with_reducible first | exact HB.out | apply below_alloc | apply pw_below_drewN | apply below_drew1 | refine below_set ?_ GE373.out) | exact HB.out)))); (case aL => have := LMc5.out; omega); intro v375 w10 ho hb hg hat; rw [← Ny374.out] at ho; have n0_ := Aside0.mk (Kd.S_after (Kd.S_apart_nil (by (with_reducible repeat (first | apply Kd.S_alloc | apply Kd.S_drewN | apply Kd.S_drew)); exact (Kd.S_mono (Kd.S_far (p := ⟨gb373, 2, none⟩) (Kd.S_far (p := ⟨gb373, 1, none⟩) (Kd.S_far (p := ⟨gb373, 0, none⟩) (Kd.S_mono HO_3.out (fun k_ hk => (⟨hk, hk.2⟩ : _ ∧ k_ ≠ gb373))) (fun _ hk => hk.2) (.int .i64 ((rd_T80 l0 x8_1).f0))) (fun _ hk => hk.2) (.slice A372_1 ((rd_T80 l0 x8_1).f1).length c372_1)) (fun _ hk => hk.2) (.slice A372_2 ((rd_T80 l0 x8_1).f2).length c372_2)) (fun _ h_ => h_.1)))) hg hat); have n1_ := Aside0.mk (blk_grown (g := gb373) (o := .cells #[.int .i64 ((rd_T80 l0 x8_1).f0), .slice A372_1 ((rd_T80 l0 x8_1).f1).length c372_1, .slice A372_2 ((rd_T80 l0 x8_1).f2).length c372_2] 80 (0, 0)) (by (with_reducible repeat (first | refine blk_drewN ?_ _ | refine blk_drew ?_ | refine blk_alloc ?_ _)); refine blk_put (cs := #[.int .i64 ((rd_T80 l0 x8_1).f0), .slice A372_1 ((rd_T80 l0 x8_1).f1).length c372_1, .slice none 0 0]) ?_ 2 _ rfl; (with_reducible repeat (first | refine blk_drewN ?_ _ | refine blk_drew ?_ | refine blk_alloc ?_ _)); refine blk_put (cs := #[.int .i64 ((rd_T80 l0 x8_1).f0), .slice none 0 0, .slice none 0 0]) ?_ 1 _ rfl; (with_reducible repeat (first | refine blk_drewN ?_ _ | refine blk_drew ?_ | refine blk_alloc ?_ _)); refine blk_put (cs := #[.int .i64 0, .slice none 0 0, .slice none 0 0]) ?_ 0 _ rfl; (with_reducible repeat (first | refine blk_drewN ?_ _ | refine blk_drew ?_ | refine blk_alloc ?_ _)); exact BK373.out) hg (by simp [Value.ownBlock])); have n2_ := Aside0.mk (hb); have n3_ := Aside0.mk (ho); clear HO_3; clear BK373; clear HB; have HO_3 := n0_; have BK373 := n1_; have HB := n2_; have HO376 := n3_; clear n0_ n1_ n2_ n3_; clear ho hb hg hat; obtain ⟨Ao11, co11, eo11⟩ := Kd.R_slice HO376.out; subst eo11; have hcz12_0 : w10.cell? ⟨gb373, 0, none⟩ = some (.int .i64 ((rd_T80 l0 x8_1).f0)) := (blk_cell BK373.out 0).trans rfl; have hcz12_1 : w10.cell? ⟨gb373, 1, none⟩ = some (.slice A372_1 ((rd_T80 l0 x8_1).f1).length c372_1) := (blk_cell BK373.out 1).trans rfl; have hcz12_2 : w10.cell? ⟨gb373, 2, none⟩ = some (.slice A372_2 ((rd_T80 l0 x8_1).f2).length c372_2) := (blk_cell BK373.out 2).trans rfl; have hfz12_0 := blk_frozen BK373.out 0; have hfz12_1 := blk_frozen BK373.out 1; have hfz12_2 := blk_frozen BK373.out 2) | ((with_reducible refine gate_builtin (b := .append) (xs := #[.const (.slice none 0 0), .tmp 17]) rfl ?_); at_builtin; refine Kd.R_append_rows k54 (w0 := w) w.heap.size rfl (.const (.slice none 0 0)) (.tmp 17) 44 54 (.agg #[(.int .u8 0), (.string ⟨#[]⟩), (.int .i64 0)]) 32 rfl Try.underlying44 info54 rfl (by decide) (by omega) (.slice none 0 0) ([] : List (S54)) ((rd_T80 l0 x8_1).f2) _ _ _ (fun k_ => some k_ ≠ (.slice Ao11 y374.length co11 : Value).ownBlock) (fun _ => False) rfl rfl ?aO ?aR (fun _ _ h => h) (fun _ h => h.elim) ?aF ?aB ?aS ?aL ?_; (case aR => exact Kd.C_below HR372_2.out (by repeat (first | (with_reducible first | exact HB.out | apply below_alloc | apply pw_below_drewN | apply below_drew1 | refine below_set ?_ GE373.out) | exact HB.out))); (case aB => exact (by repeat (first | (with_reducible first | exact HB.out | apply below_alloc | apply pw_below_drewN | apply below_drew1 | refine below_set ?_ GE373.out) | exact HB.out))); (case aF => exact (fun k_ hk => Kd.fresh' (Kd.R_lt (by (with_reducible repeat (first | apply Kd.R_alloc | apply Kd.R_drewN | apply Kd.R_drew)); exact (Kd.R_mono (Kd.R_far (p := ⟨gb373, 1, none⟩) (Kd.R_types HO376.out BK373.out (by decide)) (fun _ hk => hk.2) (.slice Ao11 y374.length co11)) (fun _ h_ => h_.1)))) k_ hk)); (case aO => exact ((Kd.R_nil _ _ _ _ (fun k_ => some k_ ≠ (.slice Ao11 y374.length co11 : Value).ownBlock)))); (case aS => exact (below_size (by repeat (first | (with_reducible first | exact HB.out | apply below_alloc | apply pw_below_drewN | apply below_drew1 | refine below_set ?_ GE373.out) | exact HB.out)))); (case aL => have := LMc6.out; omega); intro v378 w13 ho hb hg hat; rw [← Ny377.out] at ho; have n0_ := Aside0.mk (Kd.S_after (Kd.S_apart_nil (by (with_reducible repeat (first | apply Kd.S_alloc | apply Kd.S_drewN | apply Kd.S_drew)); exact (Kd.S_mono (Kd.S_far (p := ⟨gb373, 1, none⟩) (Kd.S_mono HO_3.out (fun k_ hk => (⟨hk, hk.1.2⟩ : _ ∧ k_ ≠ gb373))) (fun _ hk => hk.2) (.slice Ao11 y374.length co11)) (fun _ h_ => h_.1)))) hg hat); have n1_ := Aside0.mk (blk_grown (g := gb373) (o := .cells #[.int .i64 ((rd_T80 l0 x8_1).f0), .slice Ao11 y374.length co11, .slice A372_2 ((rd_T80 l0 x8_1).f2).length c372_2] 80 (0, 0)) (by (with_reducible repeat (first | refine blk_drewN ?_ _ | refine blk_drew ?_ | refine blk_alloc ?_ _)); refine blk_put (cs := #[.int .i64 ((rd_T80 l0 x8_1).f0), .slice A372_1 ((rd_T80 l0 x8_1).f1).length c372_1, .slice A372_2 ((rd_T80 l0 x8_1).f2).length c372_2]) ?_ 1 _ rfl; (with_reducible repeat (first | refine blk_drewN ?_ _ | refine blk_drew ?_ | refine blk_alloc ?_ _)); exact BK373.out) hg (by simp [Value.ownBlock])); have n2_ := Aside0.mk (Kd.R_after (Kd.R_apart_nil (by (with_reducible repeat (first | apply Kd.R_alloc | apply Kd.R_drewN | apply Kd.R_drew)); exact (Kd.R_mono (Kd.R_far (p := ⟨gb373, 1, none⟩) (Kd.R_types HO376.out BK373.out (by decide)) (fun _ hk => hk.2) (.slice Ao11 y374.length co11)) (fun _ h_ => h_.1)))) hg hat); have n3_ := Aside0.mk (hb); have n4_ := Aside0.mk (ho); clear HO_3; clear BK373; clear HO376; clear HB; have HO_3 := n0_; have BK373 := n1_; have HO376 := n2_; have HB := n3_; have HO379 := n4_; clear n0_ n1_ n2_ n3_ n4_; clear ho hb hg hat; obtain ⟨Ao14, co14, eo14⟩ := Kd.R_slice HO379.out; subst eo14; have hcz15_0 : w13.cell? ⟨gb373, 0, none⟩ = some (.int .i64 ((rd_T80 l0 x8_1).f0)) := (blk_cell BK373.out 0).trans rfl; have hcz15_1 : w13.cell? ⟨gb373, 1, none⟩ = some (.slice Ao11 y374.length co11) := (blk_cell BK373.out 1).trans rfl; have hcz15_2 : w13.cell? ⟨gb373, 2, none⟩ = some (.slice A372_2 ((rd_T80 l0 x8_1).f2).length c372_2) := (blk_cell BK373.out 2).trans rfl; have hfz15_0 := blk_frozen BK373.out 0; have hfz15_1 := blk_frozen BK373.out 1; have hfz15_2 := blk_frozen BK373.out 2) | ((with_reducible refine gate_store (t := 44) (p := 19) rfl ?_); refine store_event (t := 44) (p := 19) (v := ?vo_w16) (w1 := (w13.setCell ⟨gb373, 2, none⟩ (.slice Ao14 y377.length co14))) ?hg ?ho ?hn ?hr ?_; (case ho => rfl); (case hg => rfl); (case hn => rfl); (case hr => first | (go_simp; done) | (go_simp; rfl)); intro w16 hw; have n0_ : Aside0 (Kd.S k80 80 w16 w.heap.size (fun k_ => some k_ ≠ (.slice Ao11 y374.length co11 : Value).ownBlock ∧ some k_ ≠ (.slice Ao14 y377.length co14 : Value).ownBlock ∧ k_ ≠ gb373) u3 x3_1) := ⟨(by rw [hw]; exact (by (with_reducible repeat (first | apply Kd.S_alloc | apply Kd.S_drewN | apply Kd.S_drew)); exact Kd.S_mono (Kd.S_far (p := ⟨gb373, 2, none⟩) (Kd.S_mono HO_3.out (fun k_ hk => (⟨hk, hk.1.1.2⟩ : _ ∧ k_ ≠ gb373))) (fun _ hk => hk.2) (.slice Ao14 y377.length co14)) (fun _ hk => ⟨hk.1.1.2, ⟨hk.1.2, hk.1.1.1.2⟩⟩)))⟩; have n1_ : Aside0 (Kd.R k54 54 w16 w.heap.size (fun k_ => some k_ ≠ (.slice Ao14 y377.length co14 : Value).ownBlock) (.slice Ao11 y374.length co11) y374) := ⟨(by rw [hw]; exact (by (with_reducible repeat (first | apply Kd.R_alloc | apply Kd.R_drewN | apply Kd.R_drew)); exact Kd.R_mono (Kd.R_far (p := ⟨gb373, 2, none⟩) (Kd.R_types HO376.out BK373.out (by decide)) (fun _ hk => hk.2) (.slice Ao14 y377.length co14)) (fun _ hk => hk.1.2)))⟩; have n2_ : Aside0 (Kd.R k54 54 w16 w.heap.size (fun k_ => some k_ ≠ (.slice Ao11 y374.length co11 : Value).ownBlock) (.slice Ao14 y377.length co14) y377) := ⟨(by rw [hw]; exact (by (with_reducible repeat (first | apply Kd.R_alloc | apply Kd.R_drewN | apply Kd.R_drew)); exact Kd.R_mono (Kd.R_far (p := ⟨gb373, 2, none⟩) (Kd.R_types HO379.out BK373.out (by decide)) (fun _ hk => hk.2) (.slice Ao14 y377.length co14)) (fun _ hk => hk.1)))⟩; have n3_ : Aside0 (w16.heap[gb373]? = some (.cells #[.int .i64 ((rd_T80 l0 x8_1).f0), .slice Ao11 y374.length co11, .slice Ao14 y377.length co14] 80 (0, 0))) := ⟨(by rw [hw]; exact (by (with_reducible repeat (first | refine blk_drewN ?_ _ | refine blk_drew ?_ | refine blk_alloc ?_ _)); refine blk_put (cs := #[.int .i64 ((rd_T80 l0 x8_1).f0), .slice Ao11 y374.length co11, .slice A372_2 ((rd_T80 l0 x8_1).f2).length c372_2]) ?_ 2 _ rfl; (with_reducible repeat (first | refine blk_drewN ?_ _ | refine blk_drew ?_ | refine blk_alloc ?_ _)); exact BK373.out))⟩; have n4_ : Aside0 (Below w.heap.size w w16) := ⟨(by rw [hw]; exact (by repeat (first | (with_reducible first | exact HB.out | apply below_alloc | apply pw_below_drewN | apply below_drew1 | refine below_set ?_ GE373.out) | exact HB.out)))⟩; clear hw; clear HO_3; clear HO376; clear HO379; clear BK373; clear HB; have HO_3 := n0_; have HO376 := n1_; have HO379 := n2_; have BK373 := n3_; have HB := n4_; clear n0_ n1_ n2_ n3_ n4_; have hcz17_0 : w16.cell? ⟨gb373, 0, none⟩ = some (.int .i64 ((rd_T80 l0 x8_1).f0)) := (blk_cell BK373.out 0).trans rfl; have hcz17_1 : w16.cell? ⟨gb373, 1, none⟩ = some (.slice Ao11 y374.length co11) := (blk_cell BK373.out 1).trans rfl; have hcz17_2 : w16.cell? ⟨gb373, 2, none⟩ = some (.slice Ao14 y377.length co14) := (blk_cell BK373.out 2).trans rfl; have hfz17_0 := blk_frozen BK373.out 0; have hfz17_1 := blk_frozen BK373.out 1; have hfz17_2 := blk_frozen BK373.out 2) | ((with_reducible refine gate_builtin (b := .append) (xs := #[.tmp 20, .tmp 22]) rfl ?_); at_builtin; refine Kd.S_append k80 (w0 := w) w.heap.size rfl (.tmp 20) (.tmp 22) 43 80 (.agg #[(.int .i64 0), (.slice none 0 0), (.slice none 0 0)]) 56 rfl Try.underlying43 info80 rfl (by decide) (by omega) u3 x3_1 (⟨(rd_T80 l0 x8_1).f0, y374, y377⟩ : S80) [.int .i64 ((rd_T80 l0 x8_1).f0), .slice Ao11 y374.length co11, .slice Ao14 y377.length co14] (fun k_ => k_ ≠ gb373) (fun k_ => some k_ = (.slice Ao11 y374.length co11 : Value).ownBlock ∨ some k_ = (.slice Ao14 y377.length co14 : Value).ownBlock) rfl rfl ?aP (fun k_ hk_ => hk_.elim (fun h_ => ((Kd.R_mono (ok' := fun k_ => ((fun k_ => k_ ≠ gb373)) k_ ∧ some k_ ≠ (u3 : Value).ownBlock) (Kd.R_types (Kd.R_apart' (HO376.out) (Kd.S_typed HO_3.out) (by decide)) BK373.out (by decide)) (fun k_ hk => ⟨hk.2, hk.1.2⟩))).1 k_ h_.symm) (fun h_ => ((Kd.R_mono (ok' := fun k_ => ((fun k_ => k_ ≠ gb373)) k_ ∧ some k_ ≠ (u3 : Value).ownBlock) (Kd.R_types (Kd.R_apart' (HO379.out) (Kd.S_typed HO_3.out) (by decide)) BK373.out (by decide)) (fun k_ hk => ⟨hk.2, hk.1.2⟩))).1 k_ h_.symm)) ?aF ?aO ?aB ?aS ?aL ?_; (case aP => exact k80_mkM _ _ _ (⟨(rd_T80 l0 x8_1).f0, y374, y377⟩ : S80) (Kd.R_mono (Kd.R_tight rfl (Kd.R_mono (ok' := fun k_ => ((fun k_ => k_ ≠ gb373)) k_ ∧ some k_ ≠ (u3 : Value).ownBlock) (Kd.R_types (Kd.R_apart' (HO376.out) (Kd.S_typed HO_3.out) (by decide)) BK373.out (by decide)) (fun k_ hk => ⟨hk.2, hk.1.2⟩))) (fun _ h_ => Or.inl h_)) (Kd.R_mono (Kd.R_tight rfl (Kd.R_mono (ok' := fun k_ => ((fun k_ => k_ ≠ gb373)) k_ ∧ some k_ ≠ (u3 : Value).ownBlock) (Kd.R_types (Kd.R_apart' (HO379.out) (Kd.S_typed HO_3.out) (by decide)) BK373.out (by decide)) (fun k_ hk => ⟨hk.2, hk.1.2⟩))) (fun _ h_ => Or.inr (h_)))); (case aB => exact (by repeat (first | (with_reducible first | exact HB.out | apply below_alloc | apply pw_below_drewN | apply below_drew1 | refine below_set ?_ GE373.out) | exact HB.out))); (case aF => exact (fun k_ hk => Kd.freshB (g := gb373) (o := .cells #[.int .i64 ((rd_T80 l0 x8_1).f0), .slice Ao11 y374.length co11, .slice Ao14 y377.length co14] 80 (0, 0)) (by (with_reducible repeat (first | refine blk_drewN ?_ _ | refine blk_drew ?_ | refine blk_alloc ?_ _)); exact BK373.out) k_ hk)); (case aO => exact (by (with_reducible repeat (first | apply Kd.S_alloc | apply Kd.S_drewN | apply Kd.S_drew)); exact Kd.S_mono HO_3.out (fun k_ hk => ⟨hk.2.2, fun e_ => e_.elim (fun h_ => hk.1 h_) (fun h_ => hk.2.1 h_)⟩))); (case aS => exact (below_size (by repeat (first | (with_reducible first | exact HB.out | apply below_alloc | apply pw_below_drewN | apply below_drew1 | refine below_set ?_ GE373.out) | exact HB.out)))); (case aL => have := LMc7.out; omega); intro v381 w18 ho hb hg hat; rw [← Ny380.out] at ho; have n0_ := Aside0.mk (blk_grown (g := gb373) (o := .cells #[.int .i64 ((rd_T80 l0 x8_1).f0), .slice Ao11 y374.length co11, .slice Ao14 y377.length co14] 80 (0, 0)) (by (with_reducible repeat (first | refine blk_drewN ?_ _ | refine blk_drew ?_ | refine blk_alloc ?_ _)); exact BK373.out) hg (Kd.S_away HO_3.out (fun _ hk => hk.2.2))); have n1_ := Aside0.mk (hb); have n2_ := Aside0.mk (ho); clear BK373; clear HB; clear HO_3; clear HO376; clear HO379; have BK373 := n0_; have HB := n1_; have HO382 := n2_; clear n0_ n1_ n2_; clear ho hb hg hat))
                  go_roundg k1
                  case measure => have := HK1.out; omega
                  case rel => exact ⟨(y380), (wrap64 (x8_1 + 1)), (by first | rfl | (simp; done) | (simp [*]; done)), H', ⟨by have := HK1.out; omega⟩, ⟨by (with_reducible repeat (first | apply Kd.S_alloc | apply Kd.S_drewN | apply Kd.S_drew)); exact Kd.S_mono HO382.out (fun _ hk => trivial)⟩, ⟨by repeat (first | (with_reducible first | exact HB.out | apply below_alloc | apply pw_below_drewN | apply below_drew1 | refine below_set ?_ GE373.out) | exact HB.out)⟩⟩
                · rw [if_neg c7] at H
                  exact absurd H (by simp)
              · rw [if_neg c6] at H
                exact absurd H (by simp)
            · rw [if_neg c5] at H
              exact absurd H (by simp)
          · rw [if_neg c4] at H
            exact absurd H (by simp)
        · rw [if_neg c3] at H
          exact absurd H (by simp)
      · rw [if_neg c2] at H
        have c2b0 : decide (x8_1 < (l0.length : Int)) = false := decide_eq_false c2
        clear c2
        obtain rfl := Option.some.inj H
        go_wp2
        go_ret
        exact ⟨_, by first | rfl | (simp [errW_none, errW_some] <;> rfl) | (simp [*, errW_none, errW_some] <;> rfl), by (with_reducible repeat (first | apply Kd.S_alloc | apply Kd.S_drewN | apply Kd.S_drew)); exact HO_3.out, by repeat (first | (with_reducible first | exact HB.out | apply below_alloc | apply pw_below_drewN | apply below_drew1) | exact HB.out)⟩

end Go.Proofs.Ytfnjbmpolggdeaa.MR
