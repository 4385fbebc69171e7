-- Written by a program (my copy of the print's, with functions given by hand): began as a printed text.
import Derived.Test.YtfnjbmpolggdeaaPRx0
import Derived.Test.YtfnjbmpolggdeaaPRx1
import Derived.Test.YtfnjbmpolggdeaaPRGRead
namespace Go.Proofs.Ytfnjbmpolggdeaa.PR
open Go.RowKit Go.Proofs.YtfnjbmpolggdeaaW.PrintWords Go.Proofs.YtfnjbmpolggdeaaW.PrintLast Go.Proofs.YtfnjbmpolggdeaaW.PrintMore
attribute [local go_sem] max2_int min2_int max_two min_two max_three min_three max_four min_four   -- for this text's walks alone
set_option linter.unusedVariables false
set_option linter.unusedSimpArgs false

attribute [local go_sem high] eqA37
/-! ### jvmcorelaw1_poolWorks: function 42 -/
def jvmcorelaw1_poolWorks.f  : Option (Bool) := (pool_Read.f (⟨#[0, 2, 1, 0, 1, 97]⟩ : ByteArray)).bind fun bt249 => (if bt249.2.2.1 = 0 then (if bt249.2.1 = 6 then (if (bt249.1.length : Int) = 2 then (if 1 < (bt249.1.length : Int) then (some (((rd_T37 bt249.1 1).f0) == 1 && ((((rd_T37 bt249.1 1).f1).toList) == ([97] : List UInt8) && (((rd_T37 bt249.1 1).f2) == 0 && (((rd_T37 bt249.1 1).f3) == 0 && (((rd_T37 bt249.1 1).f4) == 0)))))) else (none)) else (some false)) else (some false)) else (some false))
set_option maxHeartbeats 8000000 in
set_option maxRecDepth 100000 in
theorem jvmcorelaw1_poolWorks.calls  (r : Bool) (w : World) (h : jvmcorelaw1_poolWorks.f  = some r) :
    Calls Try.prog 42 #[] w fun e w' => e = .returned (.bool r) ∧ Below w.heap.size w w' := by
  have hu37 := Try.underlying37
  have HB := Aside0.mk (Below.refl w.heap.size w)
  have H : ((pool_Read.f (⟨#[0, 2, 1, 0, 1, 97]⟩ : ByteArray)).bind fun bt249 => (if bt249.2.2.1 = 0 then (if bt249.2.1 = 6 then (if (bt249.1.length : Int) = 2 then (if 1 < (bt249.1.length : Int) then (some (((rd_T37 bt249.1 1).f0) == 1 && ((((rd_T37 bt249.1 1).f1).toList) == ([97] : List UInt8) && (((rd_T37 bt249.1 1).f2) == 0 && (((rd_T37 bt249.1 1).f3) == 0 && (((rd_T37 bt249.1 1).f4) == 0)))))) else (none)) else (some false)) else (some false)) else (some false))) = some r := h
  clear h
  replace H := Option.bind_eq_some_iff.mp H
  obtain ⟨⟨t249, t250, t251, t252⟩, A10, H⟩ := H
  replace H : (if t251 = 0 then (if t250 = 6 then (if (t249.length : Int) = 2 then (if 1 < (t249.length : Int) then (some (((rd_T37 t249 1).f0) == 1 && ((((rd_T37 t249 1).f1).toList) == ([97] : List UInt8) && (((rd_T37 t249 1).f2) == 0 && (((rd_T37 t249 1).f3) == 0 && (((rd_T37 t249 1).f4) == 0)))))) else (none)) else (some false)) else (some false)) else (some false)) = some r := H
  have A1 := Aside0.mk A10
  clear A10
  by_cases c2 : t251 = 0
  · rw [if_pos c2] at H
    have c2b0 : (t251 == 0) = true := beq_iff_eq.mpr c2
    have c2b1 : (t251 != 0) = false := bne_eq_false_iff_eq.mpr c2
    clear c2
    by_cases c3 : t250 = 6
    · rw [if_pos c3] at H
      have c3b0 : (t250 == 6) = true := beq_iff_eq.mpr c3
      have c3b1 : (t250 != 6) = false := bne_eq_false_iff_eq.mpr c3
      clear c3
      by_cases c4 : (t249.length : Int) = 2
      · rw [if_pos c4] at H
        have c4b0 : ((t249.length : Int) == 2) = true := beq_iff_eq.mpr c4
        have c4b1 : ((t249.length : Int) != 2) = false := bne_eq_false_iff_eq.mpr c4
        clear c4
        by_cases c5 : 1 < (t249.length : Int)
        · rw [if_pos c5] at H
          have c5b0 : decide (1 < (t249.length : Int)) = true := decide_eq_true c5
          have c5b1 : decide (1 < t249.length) = true := decide_eq_true (by omega)
          clear c5
          obtain rfl := Option.some.inj H
          go_enter Try.func42, Try.ntmps42
          go_wp2_with (first | ((with_reducible refine gate_callee (f := 32) rfl ?_); refine goesL_ (some 6) rfl rfl Try.func32 (by kernel_rfl) rfl #[.string (⟨#[0, 2, 1, 0, 1, 97]⟩ : ByteArray)] rfl (by (try simp only [List.map_toArray, List.map_cons, List.map_nil]); first | done | rfl | (simp only [List.length_drop, List.length_take]; rfl)) ?_; (with_reducible refine (pool_Read.calls (⟨#[0, 2, 1, 0, 1, 97]⟩ : ByteArray) t249 t250 t251 t252 _ A1.out).mono ?_); rintro e w6 ⟨v253, rfl, ho0, hb⟩; refine ⟨_, rfl, ?_⟩; have n0_ := Aside0.mk (Kd.R_lower ho0 (below_size (by repeat (first | (with_reducible first | exact HB.out | apply below_alloc | apply pw_below_drewN | apply below_drew1) | exact HB.out)))); have n1_ := Aside0.mk (below_step (by repeat (first | (with_reducible first | exact HB.out | apply below_alloc | apply pw_below_drewN | apply below_drew1) | exact HB.out)) hb); clear HB; have HO254 := n0_; have HB := n1_; clear n0_ n1_; (try clear hb); (try clear hb2); (try clear hk); (try clear hi); (try clear ho0); obtain ⟨Ao7, co7, eo7⟩ := Kd.R_slice HO254.out; subst eo7; have p255 : 0 ≤ (1 : Int) := (by omega); have q255 : 1 < (t249.length : Int) := of_decide_eq_true (by first | (with_reducible assumption) | assumption); obtain ⟨ad255, e255, hx255_0, hx255_1, hx255_2, hx255_3, hx255_4⟩ := at_T37 (Kd.R_reads' HO254.out).2.2 1 p255 q255; cases e255; (try simp only [show (1 : Int).toNat = 1 from rfl, Nat.reduceMul, Nat.reduceEqDiff, Go.Addr.add, ↓reduceIte] at hx255_0); (try simp only [show (1 : Int).toNat = 1 from rfl, Nat.reduceMul, Nat.reduceEqDiff, Go.Addr.add, ↓reduceIte] at hx255_1); (try simp only [show (1 : Int).toNat = 1 from rfl, Nat.reduceMul, Nat.reduceEqDiff, Go.Addr.add, ↓reduceIte] at hx255_2); (try simp only [show (1 : Int).toNat = 1 from rfl, Nat.reduceMul, Nat.reduceEqDiff, Go.Addr.add, ↓reduceIte] at hx255_3); (try simp only [show (1 : Int).toNat = 1 from rfl, Nat.reduceMul, Nat.reduceEqDiff, Go.Addr.add, ↓reduceIte] at hx255_4); have qi255 : (1 < t249.length) = True := eq_true (by omega); (try rw [show ((1 : Int)).toNat = 1 from rfl] at hx255_0); (try rw [show 1 * 5 = 5 from rfl] at hx255_0); (try rw [show ((1 : Int)).toNat = 1 from rfl] at hx255_1); (try rw [show 1 * 5 = 5 from rfl] at hx255_1); (try rw [show ((1 : Int)).toNat = 1 from rfl] at hx255_2); (try rw [show 1 * 5 = 5 from rfl] at hx255_2); (try rw [show ((1 : Int)).toNat = 1 from rfl] at hx255_3); (try rw [show 1 * 5 = 5 from rfl] at hx255_3); (try rw [show ((1 : Int)).toNat = 1 from rfl] at hx255_4); (try rw [show 1 * 5 = 5 from rfl] at hx255_4); replace p255 := eq_true p255; replace q255 := eq_true q255))
          go_ret
          exact ⟨by first | rfl | (simp [errW_none, errW_some] <;> rfl) | (simp [*, errW_none, errW_some] <;> rfl), by repeat (first | (with_reducible first | exact HB.out | apply below_alloc | apply pw_below_drewN | apply below_drew1) | exact HB.out)⟩
        · rw [if_neg c5] at H
          exact absurd H (by simp)
      · rw [if_neg c4] at H
        have c4b0 : ((t249.length : Int) == 2) = false := beq_eq_false_iff_ne.mpr c4
        have c4b1 : ((t249.length : Int) != 2) = true := bne_iff_ne.mpr c4
        obtain rfl := Option.some.inj H
        go_enter Try.func42, Try.ntmps42
        go_wp2_with (first | ((with_reducible refine gate_callee (f := 32) rfl ?_); refine goesL_ (some 6) rfl rfl Try.func32 (by kernel_rfl) rfl #[.string (⟨#[0, 2, 1, 0, 1, 97]⟩ : ByteArray)] rfl (by (try simp only [List.map_toArray, List.map_cons, List.map_nil]); first | done | rfl | (simp only [List.length_drop, List.length_take]; rfl)) ?_; (with_reducible refine (pool_Read.calls (⟨#[0, 2, 1, 0, 1, 97]⟩ : ByteArray) t249 t250 t251 t252 _ A1.out).mono ?_); rintro e w8 ⟨v253, rfl, ho0, hb⟩; refine ⟨_, rfl, ?_⟩; have n0_ := Aside0.mk (Kd.R_lower ho0 (below_size (by repeat (first | (with_reducible first | exact HB.out | apply below_alloc | apply pw_below_drewN | apply below_drew1) | exact HB.out)))); have n1_ := Aside0.mk (below_step (by repeat (first | (with_reducible first | exact HB.out | apply below_alloc | apply pw_below_drewN | apply below_drew1) | exact HB.out)) hb); clear HB; have HO254 := n0_; have HB := n1_; clear n0_ n1_; (try clear hb); (try clear hb2); (try clear hk); (try clear hi); (try clear ho0); obtain ⟨Ao9, co9, eo9⟩ := Kd.R_slice HO254.out; subst eo9))
        go_ret
        exact ⟨by first | rfl | (simp [errW_none, errW_some] <;> rfl) | (simp [*, errW_none, errW_some] <;> rfl), by repeat (first | (with_reducible first | exact HB.out | apply below_alloc | apply pw_below_drewN | apply below_drew1) | exact HB.out)⟩
    · rw [if_neg c3] at H
      have c3b0 : (t250 == 6) = false := beq_eq_false_iff_ne.mpr c3
      have c3b1 : (t250 != 6) = true := bne_iff_ne.mpr c3
      obtain rfl := Option.some.inj H
      go_enter Try.func42, Try.ntmps42
      go_wp2_with (first | ((with_reducible refine gate_callee (f := 32) rfl ?_); refine goesL_ (some 6) rfl rfl Try.func32 (by kernel_rfl) rfl #[.string (⟨#[0, 2, 1, 0, 1, 97]⟩ : ByteArray)] rfl (by (try simp only [List.map_toArray, List.map_cons, List.map_nil]); first | done | rfl | (simp only [List.length_drop, List.length_take]; rfl)) ?_; (with_reducible refine (pool_Read.calls (⟨#[0, 2, 1, 0, 1, 97]⟩ : ByteArray) t249 t250 t251 t252 _ A1.out).mono ?_); rintro e w10 ⟨v253, rfl, ho0, hb⟩; refine ⟨_, rfl, ?_⟩; have n0_ := Aside0.mk (Kd.R_lower ho0 (below_size (by repeat (first | (with_reducible first | exact HB.out | apply below_alloc | apply pw_below_drewN | apply below_drew1) | exact HB.out)))); have n1_ := Aside0.mk (below_step (by repeat (first | (with_reducible first | exact HB.out | apply below_alloc | apply pw_below_drewN | apply below_drew1) | exact HB.out)) hb); clear HB; have HO254 := n0_; have HB := n1_; clear n0_ n1_; (try clear hb); (try clear hb2); (try clear hk); (try clear hi); (try clear ho0)))
      go_ret
      exact ⟨by first | rfl | (simp [errW_none, errW_some] <;> rfl) | (simp [*, errW_none, errW_some] <;> rfl), by repeat (first | (with_reducible first | exact HB.out | apply below_alloc | apply pw_below_drewN | apply below_drew1) | exact HB.out)⟩
  · rw [if_neg c2] at H
    have c2b0 : (t251 == 0) = false := beq_eq_false_iff_ne.mpr c2
    have c2b1 : (t251 != 0) = true := bne_iff_ne.mpr c2
    obtain rfl := Option.some.inj H
    go_enter Try.func42, Try.ntmps42
    go_wp2_with (first | ((with_reducible refine gate_callee (f := 32) rfl ?_); refine goesL_ (some 6) rfl rfl Try.func32 (by kernel_rfl) rfl #[.string (⟨#[0, 2, 1, 0, 1, 97]⟩ : ByteArray)] rfl (by (try simp only [List.map_toArray, List.map_cons, List.map_nil]); first | done | rfl | (simp only [List.length_drop, List.length_take]; rfl)) ?_; (with_reducible refine (pool_Read.calls (⟨#[0, 2, 1, 0, 1, 97]⟩ : ByteArray) t249 t250 t251 t252 _ A1.out).mono ?_); rintro e w11 ⟨v253, rfl, ho0, hb⟩; refine ⟨_, rfl, ?_⟩; have n0_ := Aside0.mk (Kd.R_lower ho0 (below_size (by repeat (first | (with_reducible first | exact HB.out | apply below_alloc | apply pw_below_drewN | apply below_drew1) | exact HB.out)))); have n1_ := Aside0.mk (below_step (by repeat (first | (with_reducible first | exact HB.out | apply below_alloc | apply pw_below_drewN | apply below_drew1) | exact HB.out)) hb); clear HB; have HO254 := n0_; have HB := n1_; clear n0_ n1_; (try clear hb); (try clear hb2); (try clear hk); (try clear hi); (try clear ho0)))
    go_ret
    exact ⟨by first | rfl | (simp [errW_none, errW_some] <;> rfl) | (simp [*, errW_none, errW_some] <;> rfl), by repeat (first | (with_reducible first | exact HB.out | apply below_alloc | apply pw_below_drewN | apply below_drew1) | exact HB.out)⟩

end Go.Proofs.Ytfnjbmpolggdeaa.PR
