/-
  Texts that the proof in the last of these files needs: CodeRounds of jvmcorelaw2: whatever the bytes are, what code.Decode makes of them is encoded by code.Encode as the same bytes; nothing is assumed.
-/
import Derived.Deep.RegionLaw
import Derived.Deep.QuietTactic
import Derived.BigQuiet
import Derived.BigRegion
import Derived.Test.YtfnjbmpolggdeaaQR1
section
namespace Go.Proofs.Ytfnjbmpolggdeaa.CW
open Go.RowKit Go.Proofs.YtfnjbmpolggdeaaW.PrintWords Go.Proofs.YtfnjbmpolggdeaaW.PrintLast Go.Proofs.YtfnjbmpolggdeaaW.PrintMore
attribute [local go_sem] max2_int min2_int max_two min_two max_three min_three max_four min_four   -- for this text's walks alone
set_option linter.unusedVariables false
set_option linter.unusedSimpArgs false
mutual
def code_form.j0 : Nat → Int → Bool → Option (Int)
  | 0, _, _ => none
  | k + 1, x0, x12 => if x12 = true then (some 5) else (if x0 ≥ 21 then (if x0 ≤ 25 then (code_form.j1 k x0 true) else (if x0 ≥ 54 then (code_form.j1 k x0 (decide (x0 ≤ 58))) else (code_form.j1 k x0 false))) else (if x0 ≥ 54 then (code_form.j1 k x0 (decide (x0 ≤ 58))) else (code_form.j1 k x0 false)))
def code_form.j1 : Nat → Int → Bool → Option (Int)
  | 0, _, _ => none
  | k + 1, x0, x43 => if x43 = true then (some 6) else (if x0 = 132 then (some 7) else (if x0 ≥ 153 then (if x0 ≤ 167 then (code_form.j2 k x0 true) else (if x0 = 198 then (code_form.j2 k x0 true) else (code_form.j2 k x0 (x0 == 199)))) else (if x0 = 198 then (code_form.j2 k x0 true) else (code_form.j2 k x0 (x0 == 199)))))
def code_form.j2 : Nat → Int → Bool → Option (Int)
  | 0, _, _ => none
  | k + 1, x0, x61 => if x61 = true then (some 8) else (if x0 = 200 then (some 9) else (if x0 = 170 then (some 10) else (if x0 = 171 then (some 11) else (if x0 = 185 then (some 12) else (if x0 = 188 then (some 13) else (if x0 = 197 then (some 14) else (if x0 = 196 then (some 15) else (if x0 = 168 then (some 1) else (if x0 = 169 then (some 1) else (if x0 = 186 then (some 1) else (if x0 > 200 then (some 1) else (some 0))))))))))))
end
def code_form.f (k : Nat) (a0 : Int) : Option (Int) := if a0 = 16 then (some 2) else (if a0 = 17 then (some 3) else (if a0 = 18 then (some 4) else (if a0 = 19 then (code_form.j0 k a0 true) else (if a0 = 20 then (code_form.j0 k a0 true) else (if a0 ≥ 178 then (if a0 ≤ 184 then (code_form.j0 k a0 true) else (if a0 = 187 then (code_form.j0 k a0 true) else (if a0 = 189 then (code_form.j0 k a0 true) else (if a0 = 192 then (code_form.j0 k a0 true) else (code_form.j0 k a0 (a0 == 193)))))) else (if a0 = 187 then (code_form.j0 k a0 true) else (if a0 = 189 then (code_form.j0 k a0 true) else (if a0 = 192 then (code_form.j0 k a0 true) else (code_form.j0 k a0 (a0 == 193))))))))))
theorem code_form.mono_l : ∀ k, (∀ y0 y1, LeO (code_form.j0 k y0 y1) (code_form.j0 (k + 1) y0 y1)) ∧ (∀ y0 y1, LeO (code_form.j1 k y0 y1) (code_form.j1 (k + 1) y0 y1)) ∧ (∀ y0 y1, LeO (code_form.j2 k y0 y1) (code_form.j2 (k + 1) y0 y1))
  | 0 => ⟨fun _ _ r h => by simp [code_form.j0] at h, fun _ _ r h => by simp [code_form.j1] at h, fun _ _ r h => by simp [code_form.j2] at h⟩
  | k + 1 => by
    obtain ⟨ih0, ih1, ih2⟩ := code_form.mono_l k
    refine ⟨?_, ?_, ?_⟩
    · intro y0 y1
      unfold code_form.j0
      repeat' first
      | (with_reducible exact ih0 _ _)
      | (with_reducible exact ih1 _ _)
      | (with_reducible exact ih2 _ _)
      | (with_reducible exact LeO.refl _)
      | (with_reducible exact LeO.none _)
      | (with_reducible refine LeO.ite ?_ ?_)
      | (with_reducible refine LeO.bind ?_ (fun _ => ?_))
    · intro y0 y1
      unfold code_form.j1
      repeat' first
      | (with_reducible exact ih0 _ _)
      | (with_reducible exact ih1 _ _)
      | (with_reducible exact ih2 _ _)
      | (with_reducible exact LeO.refl _)
      | (with_reducible exact LeO.none _)
      | (with_reducible refine LeO.ite ?_ ?_)
      | (with_reducible refine LeO.bind ?_ (fun _ => ?_))
    · intro y0 y1
      unfold code_form.j2
      repeat' first
      | (with_reducible exact ih0 _ _)
      | (with_reducible exact ih1 _ _)
      | (with_reducible exact ih2 _ _)
      | (with_reducible exact LeO.refl _)
      | (with_reducible exact LeO.none _)
      | (with_reducible refine LeO.ite ?_ ?_)
      | (with_reducible refine LeO.bind ?_ (fun _ => ?_))
theorem code_form.mono : ∀ a0 k, LeO (code_form.f k a0) (code_form.f (k + 1) a0) := by
  intro a0 k
  obtain ⟨ih0, ih1, ih2⟩ := code_form.mono_l k
  unfold code_form.f
  repeat' first
      | (with_reducible exact ih0 _ _)
      | (with_reducible exact ih1 _ _)
      | (with_reducible exact ih2 _ _)
      | (with_reducible exact LeO.refl _)
      | (with_reducible exact LeO.none _)
      | (with_reducible refine LeO.ite ?_ ?_)
      | (with_reducible refine LeO.bind ?_ (fun _ => ?_))
set_option maxHeartbeats 8000000 in
set_option maxRecDepth 100000 in
theorem code_form.calls (k : Nat) (a0 : Int) (r : Int) (w : World) (h : code_form.f k a0 = some r) :
    Calls Try.prog 78 #[.int .u8 a0] w fun e w' => e = .returned (.int .i64 r) ∧ Drawn0 w w' := by
  have H : (if a0 = 16 then (some 2) else (if a0 = 17 then (some 3) else (if a0 = 18 then (some 4) else (if a0 = 19 then (code_form.j0 k a0 true) else (if a0 = 20 then (code_form.j0 k a0 true) else (if a0 ≥ 178 then (if a0 ≤ 184 then (code_form.j0 k a0 true) else (if a0 = 187 then (code_form.j0 k a0 true) else (if a0 = 189 then (code_form.j0 k a0 true) else (if a0 = 192 then (code_form.j0 k a0 true) else (code_form.j0 k a0 (a0 == 193)))))) else (if a0 = 187 then (code_form.j0 k a0 true) else (if a0 = 189 then (code_form.j0 k a0 true) else (if a0 = 192 then (code_form.j0 k a0 true) else (code_form.j0 k a0 (a0 == 193))))))))))) = some r := h
  clear h
  by_cases c2 : a0 = 16
  · rw [if_pos c2] at H
    have c2b0 : (a0 == 16) = true := beq_iff_eq.mpr c2
    have c2b1 : (a0 != 16) = false := bne_eq_false_iff_eq.mpr c2
    clear c2
    obtain rfl := Option.some.inj H
    go_enter Try.func78, Try.ntmps78
    go_wp2
    go_ret
    exact ⟨by first | rfl | (simp; done) | (simp [*]; done), by repeat (first | exact Drawn0.refl _ | apply Drawn0.step)⟩
  · rw [if_neg c2] at H
    have c2b0 : (a0 == 16) = false := beq_eq_false_iff_ne.mpr c2
    have c2b1 : (a0 != 16) = true := bne_iff_ne.mpr c2
    by_cases c3 : a0 = 17
    · rw [if_pos c3] at H
      have c3b0 : (a0 == 17) = true := beq_iff_eq.mpr c3
      have c3b1 : (a0 != 17) = false := bne_eq_false_iff_eq.mpr c3
      clear c3
      obtain rfl := Option.some.inj H
      go_enter Try.func78, Try.ntmps78
      go_wp2
      go_ret
      exact ⟨by first | rfl | (simp; done) | (simp [*]; done), by repeat (first | exact Drawn0.refl _ | apply Drawn0.step)⟩
    · rw [if_neg c3] at H
      have c3b0 : (a0 == 17) = false := beq_eq_false_iff_ne.mpr c3
      have c3b1 : (a0 != 17) = true := bne_iff_ne.mpr c3
      by_cases c4 : a0 = 18
      · rw [if_pos c4] at H
        have c4b0 : (a0 == 18) = true := beq_iff_eq.mpr c4
        have c4b1 : (a0 != 18) = false := bne_eq_false_iff_eq.mpr c4
        clear c4
        obtain rfl := Option.some.inj H
        go_enter Try.func78, Try.ntmps78
        go_wp2
        go_ret
        exact ⟨by first | rfl | (simp; done) | (simp [*]; done), by repeat (first | exact Drawn0.refl _ | apply Drawn0.step)⟩
      · rw [if_neg c4] at H
        have c4b0 : (a0 == 18) = false := beq_eq_false_iff_ne.mpr c4
        have c4b1 : (a0 != 18) = true := bne_iff_ne.mpr c4
        have HC5 := Aside0.mk H
        clear H
        go_enter Try.func78, Try.ntmps78
        go_upto_region 7 with (fail)
        go_cut [12] (fun v12 wc => ∃ (kq : Nat) (x12_4 : Bool), v12 = .bool x12_4 ∧ Aside0 (code_form.j0 kq a0 x12_4 = some r) ∧ Aside0 (kq ≤ k) ∧ Drawn0 w wc)
        case first =>
          have H := HC5.out
          clear HC5
          by_cases c6 : a0 = 19
          · rw [if_pos c6] at H
            have c6b0 : (a0 == 19) = true := beq_iff_eq.mpr c6
            have c6b1 : (a0 != 19) = false := bne_eq_false_iff_eq.mpr c6
            clear c6
            (first | rw [c6b0] | (simp only [i64_w, i32_w]; rw [c6b0]) | skip)
            have H' := Aside0.mk H
            clear H
            go_wp2
            go_meet
            case rel => exact ⟨_, (true), (by first | rfl | (simp; done) | (simp [*]; done)), H', ⟨by first | omega | exact Nat.le_refl _⟩, by repeat (first | exact Drawn0.refl _ | apply Drawn0.step)⟩
          · rw [if_neg c6] at H
            have c6b0 : (a0 == 19) = false := beq_eq_false_iff_ne.mpr c6
            have c6b1 : (a0 != 19) = true := bne_iff_ne.mpr c6
            (first | rw [c6b0] | (simp only [i64_w, i32_w]; rw [c6b0]) | skip)
            by_cases c7 : a0 = 20
            · rw [if_pos c7] at H
              have c7b0 : (a0 == 20) = true := beq_iff_eq.mpr c7
              have c7b1 : (a0 != 20) = false := bne_eq_false_iff_eq.mpr c7
              clear c7
              have H' := Aside0.mk H
              clear H
              go_wp2
              go_meet
              case rel => exact ⟨_, (true), (by first | rfl | (simp; done) | (simp [*]; done)), H', ⟨by first | omega | exact Nat.le_refl _⟩, by repeat (first | exact Drawn0.refl _ | apply Drawn0.step)⟩
            · rw [if_neg c7] at H
              have c7b0 : (a0 == 20) = false := beq_eq_false_iff_ne.mpr c7
              have c7b1 : (a0 != 20) = true := bne_iff_ne.mpr c7
              by_cases c8 : a0 ≥ 178
              · rw [if_pos c8] at H
                have c8b0 : decide (178 ≤ a0) = true := decide_eq_true c8
                clear c8
                by_cases c9 : a0 ≤ 184
                · rw [if_pos c9] at H
                  have c9b0 : decide (a0 ≤ 184) = true := decide_eq_true c9
                  clear c9
                  have H' := Aside0.mk H
                  clear H
                  go_wp2
                  go_meet
                  case rel => exact ⟨_, (true), (by first | rfl | (simp; done) | (simp [*]; done)), H', ⟨by first | omega | exact Nat.le_refl _⟩, by repeat (first | exact Drawn0.refl _ | apply Drawn0.step)⟩
                · rw [if_neg c9] at H
                  have c9b0 : decide (a0 ≤ 184) = false := decide_eq_false c9
                  clear c9
                  by_cases c10 : a0 = 187
                  · rw [if_pos c10] at H
                    have c10b0 : (a0 == 187) = true := beq_iff_eq.mpr c10
                    have c10b1 : (a0 != 187) = false := bne_eq_false_iff_eq.mpr c10
                    clear c10
                    have H' := Aside0.mk H
                    clear H
                    go_wp2
                    go_meet
                    case rel => exact ⟨_, (true), (by first | rfl | (simp; done) | (simp [*]; done)), H', ⟨by first | omega | exact Nat.le_refl _⟩, by repeat (first | exact Drawn0.refl _ | apply Drawn0.step)⟩
                  · rw [if_neg c10] at H
                    have c10b0 : (a0 == 187) = false := beq_eq_false_iff_ne.mpr c10
                    have c10b1 : (a0 != 187) = true := bne_iff_ne.mpr c10
                    by_cases c11 : a0 = 189
                    · rw [if_pos c11] at H
                      have c11b0 : (a0 == 189) = true := beq_iff_eq.mpr c11
                      have c11b1 : (a0 != 189) = false := bne_eq_false_iff_eq.mpr c11
                      clear c11
                      have H' := Aside0.mk H
                      clear H
                      go_wp2
                      go_meet
                      case rel => exact ⟨_, (true), (by first | rfl | (simp; done) | (simp [*]; done)), H', ⟨by first | omega | exact Nat.le_refl _⟩, by repeat (first | exact Drawn0.refl _ | apply Drawn0.step)⟩
                    · rw [if_neg c11] at H
                      have c11b0 : (a0 == 189) = false := beq_eq_false_iff_ne.mpr c11
                      have c11b1 : (a0 != 189) = true := bne_iff_ne.mpr c11
                      by_cases c12 : a0 = 192
                      · rw [if_pos c12] at H
                        have c12b0 : (a0 == 192) = true := beq_iff_eq.mpr c12
                        have c12b1 : (a0 != 192) = false := bne_eq_false_iff_eq.mpr c12
                        clear c12
                        have H' := Aside0.mk H
                        clear H
                        go_wp2
                        go_meet
                        case rel => exact ⟨_, (true), (by first | rfl | (simp; done) | (simp [*]; done)), H', ⟨by first | omega | exact Nat.le_refl _⟩, by repeat (first | exact Drawn0.refl _ | apply Drawn0.step)⟩
                      · rw [if_neg c12] at H
                        have c12b0 : (a0 == 192) = false := beq_eq_false_iff_ne.mpr c12
                        have c12b1 : (a0 != 192) = true := bne_iff_ne.mpr c12
                        have H' := Aside0.mk H
                        clear H
                        go_wp2
                        go_meet
                        case rel => exact ⟨_, ((a0 == 193)), (by first | rfl | (simp; done) | (simp [*]; done)), H', ⟨by first | omega | exact Nat.le_refl _⟩, by repeat (first | exact Drawn0.refl _ | apply Drawn0.step)⟩
              · rw [if_neg c8] at H
                have c8b0 : decide (178 ≤ a0) = false := decide_eq_false c8
                clear c8
                by_cases c13 : a0 = 187
                · rw [if_pos c13] at H
                  have c13b0 : (a0 == 187) = true := beq_iff_eq.mpr c13
                  have c13b1 : (a0 != 187) = false := bne_eq_false_iff_eq.mpr c13
                  clear c13
                  have H' := Aside0.mk H
                  clear H
                  go_wp2
                  go_meet
                  case rel => exact ⟨_, (true), (by first | rfl | (simp; done) | (simp [*]; done)), H', ⟨by first | omega | exact Nat.le_refl _⟩, by repeat (first | exact Drawn0.refl _ | apply Drawn0.step)⟩
                · rw [if_neg c13] at H
                  have c13b0 : (a0 == 187) = false := beq_eq_false_iff_ne.mpr c13
                  have c13b1 : (a0 != 187) = true := bne_iff_ne.mpr c13
                  by_cases c14 : a0 = 189
                  · rw [if_pos c14] at H
                    have c14b0 : (a0 == 189) = true := beq_iff_eq.mpr c14
                    have c14b1 : (a0 != 189) = false := bne_eq_false_iff_eq.mpr c14
                    clear c14
                    have H' := Aside0.mk H
                    clear H
                    go_wp2
                    go_meet
                    case rel => exact ⟨_, (true), (by first | rfl | (simp; done) | (simp [*]; done)), H', ⟨by first | omega | exact Nat.le_refl _⟩, by repeat (first | exact Drawn0.refl _ | apply Drawn0.step)⟩
                  · rw [if_neg c14] at H
                    have c14b0 : (a0 == 189) = false := beq_eq_false_iff_ne.mpr c14
                    have c14b1 : (a0 != 189) = true := bne_iff_ne.mpr c14
                    by_cases c15 : a0 = 192
                    · rw [if_pos c15] at H
                      have c15b0 : (a0 == 192) = true := beq_iff_eq.mpr c15
                      have c15b1 : (a0 != 192) = false := bne_eq_false_iff_eq.mpr c15
                      clear c15
                      have H' := Aside0.mk H
                      clear H
                      go_wp2
                      go_meet
                      case rel => exact ⟨_, (true), (by first | rfl | (simp; done) | (simp [*]; done)), H', ⟨by first | omega | exact Nat.le_refl _⟩, by repeat (first | exact Drawn0.refl _ | apply Drawn0.step)⟩
                    · rw [if_neg c15] at H
                      have c15b0 : (a0 == 192) = false := beq_eq_false_iff_ne.mpr c15
                      have c15b1 : (a0 != 192) = true := bne_iff_ne.mpr c15
                      have H' := Aside0.mk H
                      clear H
                      go_wp2
                      go_meet
                      case rel => exact ⟨_, ((a0 == 193)), (by first | rfl | (simp; done) | (simp [*]; done)), H', ⟨by first | omega | exact Nat.le_refl _⟩, by repeat (first | exact Drawn0.refl _ | apply Drawn0.step)⟩
        case rest =>
          clear HC5
          try clear c1
          try clear c2
          try clear c2b0
          try clear c2b1
          try clear p2
          try clear c3
          try clear c3b0
          try clear c3b1
          try clear c4
          try clear c4b0
          try clear c4b1
          try clear c6
          try clear c6b0
          try clear c6b1
          try clear c7
          try clear c7b0
          try clear c7b1
          try clear c8
          try clear c8b0
          try clear c9
          try clear c9b0
          try clear c10
          try clear c10b0
          try clear c10b1
          try clear c11
          try clear c11b0
          try clear c11b1
          try clear c12
          try clear c12b0
          try clear c12b1
          try clear c13
          try clear c13b0
          try clear c13b1
          try clear c14
          try clear c14b0
          try clear c14b1
          try clear c15
          try clear c15b0
          try clear c15b1
          obtain ⟨kq, x12_4, rfl, HA, HJ4, ⟨mc4, rfl⟩⟩ := hcut
          cases kq with
          | zero => exact absurd HA.out (by simp [code_form.j0])
          | succ kj4 =>
            have H := HA.out
            clear HA
            simp only [code_form.j0] at H
            by_cases c16 : x12_4 = true
            · subst c16
              have H1 : (some 5) = some r := by rw [if_pos rfl] at H; exact H
              clear H
              have H := H1
              clear H1
              obtain rfl := Option.some.inj H
              go_wp2
              go_ret
              exact ⟨by first | rfl | (simp; done) | (simp [*]; done), by repeat (first | exact Drawn0.refl _ | apply Drawn0.step)⟩
            · replace c16 := Bool.eq_false_iff.mpr c16
              subst c16
              have H1 : (if a0 ≥ 21 then (if a0 ≤ 25 then (code_form.j1 kj4 a0 true) else (if a0 ≥ 54 then (code_form.j1 kj4 a0 (decide (a0 ≤ 58))) else (code_form.j1 kj4 a0 false))) else (if a0 ≥ 54 then (code_form.j1 kj4 a0 (decide (a0 ≤ 58))) else (code_form.j1 kj4 a0 false))) = some r := by rw [if_neg (show ¬ (false = true) by decide)] at H; exact H
              clear H
              have H := H1
              clear H1
              have HC17 := Aside0.mk H
              clear H
              go_upto_region 9 with (fail)
              go_cut [43] (fun v43 wc => ∃ (kq : Nat) (x43_16 : Bool), v43 = .bool x43_16 ∧ Aside0 (code_form.j1 kq a0 x43_16 = some r) ∧ Aside0 (kq ≤ kj4) ∧ Drawn0 w wc)
              case first =>
                have H := HC17.out
                clear HC17
                by_cases c18 : a0 ≥ 21
                · rw [if_pos c18] at H
                  have c18b0 : decide (21 ≤ a0) = true := decide_eq_true c18
                  clear c18
                  (first | rw [c18b0] | (simp only [i64_w, i32_w]; rw [c18b0]) | skip)
                  by_cases c19 : a0 ≤ 25
                  · rw [if_pos c19] at H
                    have c19b0 : decide (a0 ≤ 25) = true := decide_eq_true c19
                    clear c19
                    have H' := Aside0.mk H
                    clear H
                    go_wp2
                    go_meet
                    case rel => exact ⟨_, (true), (by first | rfl | (simp; done) | (simp [*]; done)), H', ⟨by have := HJ4.out; first | omega | exact Nat.le_refl _⟩, by repeat (first | exact Drawn0.refl _ | apply Drawn0.step)⟩
                  · rw [if_neg c19] at H
                    have c19b0 : decide (a0 ≤ 25) = false := decide_eq_false c19
                    clear c19
                    by_cases c20 : a0 ≥ 54
                    · rw [if_pos c20] at H
                      have c20b0 : decide (54 ≤ a0) = true := decide_eq_true c20
                      clear c20
                      have H' := Aside0.mk H
                      clear H
                      go_wp2
                      go_meet
                      case rel => exact ⟨_, (decide (a0 ≤ 58)), (by first | rfl | (simp; done) | (simp [*]; done)), H', ⟨by have := HJ4.out; first | omega | exact Nat.le_refl _⟩, by repeat (first | exact Drawn0.refl _ | apply Drawn0.step)⟩
                    · rw [if_neg c20] at H
                      have c20b0 : decide (54 ≤ a0) = false := decide_eq_false c20
                      clear c20
                      have H' := Aside0.mk H
                      clear H
                      go_wp2
                      go_meet
                      case rel => exact ⟨_, (false), (by first | rfl | (simp; done) | (simp [*]; done)), H', ⟨by have := HJ4.out; first | omega | exact Nat.le_refl _⟩, by repeat (first | exact Drawn0.refl _ | apply Drawn0.step)⟩
                · rw [if_neg c18] at H
                  have c18b0 : decide (21 ≤ a0) = false := decide_eq_false c18
                  clear c18
                  (first | rw [c18b0] | (simp only [i64_w, i32_w]; rw [c18b0]) | skip)
                  by_cases c21 : a0 ≥ 54
                  · rw [if_pos c21] at H
                    have c21b0 : decide (54 ≤ a0) = true := decide_eq_true c21
                    clear c21
                    have H' := Aside0.mk H
                    clear H
                    go_wp2
                    go_meet
                    case rel => exact ⟨_, (decide (a0 ≤ 58)), (by first | rfl | (simp; done) | (simp [*]; done)), H', ⟨by have := HJ4.out; first | omega | exact Nat.le_refl _⟩, by repeat (first | exact Drawn0.refl _ | apply Drawn0.step)⟩
                  · rw [if_neg c21] at H
                    have c21b0 : decide (54 ≤ a0) = false := decide_eq_false c21
                    clear c21
                    have H' := Aside0.mk H
                    clear H
                    go_wp2
                    go_meet
                    case rel => exact ⟨_, (false), (by first | rfl | (simp; done) | (simp [*]; done)), H', ⟨by have := HJ4.out; first | omega | exact Nat.le_refl _⟩, by repeat (first | exact Drawn0.refl _ | apply Drawn0.step)⟩
              case rest =>
                clear HC17
                try clear c1
                try clear c2
                try clear c2b0
                try clear c2b1
                try clear p2
                try clear c3
                try clear c3b0
                try clear c3b1
                try clear c4
                try clear c4b0
                try clear c4b1
                try clear c6
                try clear c6b0
                try clear c6b1
                try clear c7
                try clear c7b0
                try clear c7b1
                try clear c8
                try clear c8b0
                try clear c9
                try clear c9b0
                try clear c10
                try clear c10b0
                try clear c10b1
                try clear c11
                try clear c11b0
                try clear c11b1
                try clear c12
                try clear c12b0
                try clear c12b1
                try clear c13
                try clear c13b0
                try clear c13b1
                try clear c14
                try clear c14b0
                try clear c14b1
                try clear c15
                try clear c15b0
                try clear c15b1
                try clear c16
                try clear c18
                try clear c18b0
                try clear c19
                try clear c19b0
                try clear c20
                try clear c20b0
                try clear c21
                try clear c21b0
                try clear p2
                obtain ⟨kq, x43_16, rfl, HA, HJ16, ⟨mc16, rfl⟩⟩ := hcut
                cases kq with
                | zero => exact absurd HA.out (by simp [code_form.j1])
                | succ kj16 =>
                  have H := HA.out
                  clear HA
                  simp only [code_form.j1] at H
                  by_cases c22 : x43_16 = true
                  · subst c22
                    have H1 : (some 6) = some r := by rw [if_pos rfl] at H; exact H
                    clear H
                    have H := H1
                    clear H1
                    obtain rfl := Option.some.inj H
                    go_wp2
                    go_ret
                    exact ⟨by first | rfl | (simp; done) | (simp [*]; done), by repeat (first | exact Drawn0.refl _ | apply Drawn0.step)⟩
                  · replace c22 := Bool.eq_false_iff.mpr c22
                    subst c22
                    have H1 : (if a0 = 132 then (some 7) else (if a0 ≥ 153 then (if a0 ≤ 167 then (code_form.j2 kj16 a0 true) else (if a0 = 198 then (code_form.j2 kj16 a0 true) else (code_form.j2 kj16 a0 (a0 == 199)))) else (if a0 = 198 then (code_form.j2 kj16 a0 true) else (code_form.j2 kj16 a0 (a0 == 199))))) = some r := by rw [if_neg (show ¬ (false = true) by decide)] at H; exact H
                    clear H
                    have H := H1
                    clear H1
                    by_cases c23 : a0 = 132
                    · rw [if_pos c23] at H
                      have c23b0 : (a0 == 132) = true := beq_iff_eq.mpr c23
                      have c23b1 : (a0 != 132) = false := bne_eq_false_iff_eq.mpr c23
                      clear c23
                      obtain rfl := Option.some.inj H
                      go_wp2
                      go_ret
                      exact ⟨by first | rfl | (simp; done) | (simp [*]; done), by repeat (first | exact Drawn0.refl _ | apply Drawn0.step)⟩
                    · rw [if_neg c23] at H
                      have c23b0 : (a0 == 132) = false := beq_eq_false_iff_ne.mpr c23
                      have c23b1 : (a0 != 132) = true := bne_iff_ne.mpr c23
                      have HC24 := Aside0.mk H
                      clear H
                      go_upto_region 13 with (fail)
                      go_cut [61] (fun v61 wc => ∃ (kq : Nat) (x61_23 : Bool), v61 = .bool x61_23 ∧ Aside0 (code_form.j2 kq a0 x61_23 = some r) ∧ Aside0 (kq ≤ kj16) ∧ Drawn0 w wc)
                      case first =>
                        have H := HC24.out
                        clear HC24
                        by_cases c25 : a0 ≥ 153
                        · rw [if_pos c25] at H
                          have c25b0 : decide (153 ≤ a0) = true := decide_eq_true c25
                          clear c25
                          (first | rw [c25b0] | (simp only [i64_w, i32_w]; rw [c25b0]) | skip)
                          by_cases c26 : a0 ≤ 167
                          · rw [if_pos c26] at H
                            have c26b0 : decide (a0 ≤ 167) = true := decide_eq_true c26
                            clear c26
                            have H' := Aside0.mk H
                            clear H
                            go_wp2
                            go_meet
                            case rel => exact ⟨_, (true), (by first | rfl | (simp; done) | (simp [*]; done)), H', ⟨by have := HJ4.out; have := HJ16.out; first | omega | exact Nat.le_refl _⟩, by repeat (first | exact Drawn0.refl _ | apply Drawn0.step)⟩
                          · rw [if_neg c26] at H
                            have c26b0 : decide (a0 ≤ 167) = false := decide_eq_false c26
                            clear c26
                            by_cases c27 : a0 = 198
                            · rw [if_pos c27] at H
                              have c27b0 : (a0 == 198) = true := beq_iff_eq.mpr c27
                              have c27b1 : (a0 != 198) = false := bne_eq_false_iff_eq.mpr c27
                              clear c27
                              have H' := Aside0.mk H
                              clear H
                              go_wp2
                              go_meet
                              case rel => exact ⟨_, (true), (by first | rfl | (simp; done) | (simp [*]; done)), H', ⟨by have := HJ4.out; have := HJ16.out; first | omega | exact Nat.le_refl _⟩, by repeat (first | exact Drawn0.refl _ | apply Drawn0.step)⟩
                            · rw [if_neg c27] at H
                              have c27b0 : (a0 == 198) = false := beq_eq_false_iff_ne.mpr c27
                              have c27b1 : (a0 != 198) = true := bne_iff_ne.mpr c27
                              have H' := Aside0.mk H
                              clear H
                              go_wp2
                              go_meet
                              case rel => exact ⟨_, ((a0 == 199)), (by first | rfl | (simp; done) | (simp [*]; done)), H', ⟨by have := HJ4.out; have := HJ16.out; first | omega | exact Nat.le_refl _⟩, by repeat (first | exact Drawn0.refl _ | apply Drawn0.step)⟩
                        · rw [if_neg c25] at H
                          have c25b0 : decide (153 ≤ a0) = false := decide_eq_false c25
                          clear c25
                          (first | rw [c25b0] | (simp only [i64_w, i32_w]; rw [c25b0]) | skip)
                          by_cases c28 : a0 = 198
                          · rw [if_pos c28] at H
                            have c28b0 : (a0 == 198) = true := beq_iff_eq.mpr c28
                            have c28b1 : (a0 != 198) = false := bne_eq_false_iff_eq.mpr c28
                            clear c28
                            have H' := Aside0.mk H
                            clear H
                            go_wp2
                            go_meet
                            case rel => exact ⟨_, (true), (by first | rfl | (simp; done) | (simp [*]; done)), H', ⟨by have := HJ4.out; have := HJ16.out; first | omega | exact Nat.le_refl _⟩, by repeat (first | exact Drawn0.refl _ | apply Drawn0.step)⟩
                          · rw [if_neg c28] at H
                            have c28b0 : (a0 == 198) = false := beq_eq_false_iff_ne.mpr c28
                            have c28b1 : (a0 != 198) = true := bne_iff_ne.mpr c28
                            have H' := Aside0.mk H
                            clear H
                            go_wp2
                            go_meet
                            case rel => exact ⟨_, ((a0 == 199)), (by first | rfl | (simp; done) | (simp [*]; done)), H', ⟨by have := HJ4.out; have := HJ16.out; first | omega | exact Nat.le_refl _⟩, by repeat (first | exact Drawn0.refl _ | apply Drawn0.step)⟩
                      case rest =>
                        clear HC24
                        try clear c1
                        try clear c2
                        try clear c2b0
                        try clear c2b1
                        try clear p2
                        try clear c3
                        try clear c3b0
                        try clear c3b1
                        try clear c4
                        try clear c4b0
                        try clear c4b1
                        try clear c6
                        try clear c6b0
                        try clear c6b1
                        try clear c7
                        try clear c7b0
                        try clear c7b1
                        try clear c8
                        try clear c8b0
                        try clear c9
                        try clear c9b0
                        try clear c10
                        try clear c10b0
                        try clear c10b1
                        try clear c11
                        try clear c11b0
                        try clear c11b1
                        try clear c12
                        try clear c12b0
                        try clear c12b1
                        try clear c13
                        try clear c13b0
                        try clear c13b1
                        try clear c14
                        try clear c14b0
                        try clear c14b1
                        try clear c15
                        try clear c15b0
                        try clear c15b1
                        try clear c16
                        try clear c18
                        try clear c18b0
                        try clear c19
                        try clear c19b0
                        try clear c20
                        try clear c20b0
                        try clear c21
                        try clear c21b0
                        try clear c22
                        try clear c23
                        try clear c23b0
                        try clear c23b1
                        try clear c25
                        try clear c25b0
                        try clear c26
                        try clear c26b0
                        try clear c27
                        try clear c27b0
                        try clear c27b1
                        try clear c28
                        try clear c28b0
                        try clear c28b1
                        try clear p2
                        obtain ⟨kq, x61_23, rfl, HA, HJ23, ⟨mc23, rfl⟩⟩ := hcut
                        cases kq with
                        | zero => exact absurd HA.out (by simp [code_form.j2])
                        | succ kj23 =>
                          have H := HA.out
                          clear HA
                          simp only [code_form.j2] at H
                          by_cases c29 : x61_23 = true
                          · subst c29
                            have H1 : (some 8) = some r := by rw [if_pos rfl] at H; exact H
                            clear H
                            have H := H1
                            clear H1
                            obtain rfl := Option.some.inj H
                            go_wp2
                            go_ret
                            exact ⟨by first | rfl | (simp; done) | (simp [*]; done), by repeat (first | exact Drawn0.refl _ | apply Drawn0.step)⟩
                          · replace c29 := Bool.eq_false_iff.mpr c29
                            subst c29
                            have H1 : (if a0 = 200 then (some 9) else (if a0 = 170 then (some 10) else (if a0 = 171 then (some 11) else (if a0 = 185 then (some 12) else (if a0 = 188 then (some 13) else (if a0 = 197 then (some 14) else (if a0 = 196 then (some 15) else (if a0 = 168 then (some 1) else (if a0 = 169 then (some 1) else (if a0 = 186 then (some 1) else (if a0 > 200 then (some 1) else (some 0)))))))))))) = some r := by rw [if_neg (show ¬ (false = true) by decide)] at H; exact H
                            clear H
                            have H := H1
                            clear H1
                            by_cases c30 : a0 = 200
                            · rw [if_pos c30] at H
                              have c30b0 : (a0 == 200) = true := beq_iff_eq.mpr c30
                              have c30b1 : (a0 != 200) = false := bne_eq_false_iff_eq.mpr c30
                              clear c30
                              obtain rfl := Option.some.inj H
                              go_wp2
                              go_ret
                              exact ⟨by first | rfl | (simp; done) | (simp [*]; done), by repeat (first | exact Drawn0.refl _ | apply Drawn0.step)⟩
                            · rw [if_neg c30] at H
                              have c30b0 : (a0 == 200) = false := beq_eq_false_iff_ne.mpr c30
                              have c30b1 : (a0 != 200) = true := bne_iff_ne.mpr c30
                              by_cases c31 : a0 = 170
                              · rw [if_pos c31] at H
                                have c31b0 : (a0 == 170) = true := beq_iff_eq.mpr c31
                                have c31b1 : (a0 != 170) = false := bne_eq_false_iff_eq.mpr c31
                                clear c31
                                obtain rfl := Option.some.inj H
                                go_wp2
                                go_ret
                                exact ⟨by first | rfl | (simp; done) | (simp [*]; done), by repeat (first | exact Drawn0.refl _ | apply Drawn0.step)⟩
                              · rw [if_neg c31] at H
                                have c31b0 : (a0 == 170) = false := beq_eq_false_iff_ne.mpr c31
                                have c31b1 : (a0 != 170) = true := bne_iff_ne.mpr c31
                                by_cases c32 : a0 = 171
                                · rw [if_pos c32] at H
                                  have c32b0 : (a0 == 171) = true := beq_iff_eq.mpr c32
                                  have c32b1 : (a0 != 171) = false := bne_eq_false_iff_eq.mpr c32
                                  clear c32
                                  obtain rfl := Option.some.inj H
                                  go_wp2
                                  go_ret
                                  exact ⟨by first | rfl | (simp; done) | (simp [*]; done), by repeat (first | exact Drawn0.refl _ | apply Drawn0.step)⟩
                                · rw [if_neg c32] at H
                                  have c32b0 : (a0 == 171) = false := beq_eq_false_iff_ne.mpr c32
                                  have c32b1 : (a0 != 171) = true := bne_iff_ne.mpr c32
                                  by_cases c33 : a0 = 185
                                  · rw [if_pos c33] at H
                                    have c33b0 : (a0 == 185) = true := beq_iff_eq.mpr c33
                                    have c33b1 : (a0 != 185) = false := bne_eq_false_iff_eq.mpr c33
                                    clear c33
                                    obtain rfl := Option.some.inj H
                                    go_wp2
                                    go_ret
                                    exact ⟨by first | rfl | (simp; done) | (simp [*]; done), by repeat (first | exact Drawn0.refl _ | apply Drawn0.step)⟩
                                  · rw [if_neg c33] at H
                                    have c33b0 : (a0 == 185) = false := beq_eq_false_iff_ne.mpr c33
                                    have c33b1 : (a0 != 185) = true := bne_iff_ne.mpr c33
                                    by_cases c34 : a0 = 188
                                    · rw [if_pos c34] at H
                                      have c34b0 : (a0 == 188) = true := beq_iff_eq.mpr c34
                                      have c34b1 : (a0 != 188) = false := bne_eq_false_iff_eq.mpr c34
                                      clear c34
                                      obtain rfl := Option.some.inj H
                                      go_wp2
                                      go_ret
                                      exact ⟨by first | rfl | (simp; done) | (simp [*]; done), by repeat (first | exact Drawn0.refl _ | apply Drawn0.step)⟩
                                    · rw [if_neg c34] at H
                                      have c34b0 : (a0 == 188) = false := beq_eq_false_iff_ne.mpr c34
                                      have c34b1 : (a0 != 188) = true := bne_iff_ne.mpr c34
                                      by_cases c35 : a0 = 197
                                      · rw [if_pos c35] at H
                                        have c35b0 : (a0 == 197) = true := beq_iff_eq.mpr c35
                                        have c35b1 : (a0 != 197) = false := bne_eq_false_iff_eq.mpr c35
                                        clear c35
                                        obtain rfl := Option.some.inj H
                                        go_wp2
                                        go_ret
                                        exact ⟨by first | rfl | (simp; done) | (simp [*]; done), by repeat (first | exact Drawn0.refl _ | apply Drawn0.step)⟩
                                      · rw [if_neg c35] at H
                                        have c35b0 : (a0 == 197) = false := beq_eq_false_iff_ne.mpr c35
                                        have c35b1 : (a0 != 197) = true := bne_iff_ne.mpr c35
                                        by_cases c36 : a0 = 196
                                        · rw [if_pos c36] at H
                                          have c36b0 : (a0 == 196) = true := beq_iff_eq.mpr c36
                                          have c36b1 : (a0 != 196) = false := bne_eq_false_iff_eq.mpr c36
                                          clear c36
                                          obtain rfl := Option.some.inj H
                                          go_wp2
                                          go_ret
                                          exact ⟨by first | rfl | (simp; done) | (simp [*]; done), by repeat (first | exact Drawn0.refl _ | apply Drawn0.step)⟩
                                        · rw [if_neg c36] at H
                                          have c36b0 : (a0 == 196) = false := beq_eq_false_iff_ne.mpr c36
                                          have c36b1 : (a0 != 196) = true := bne_iff_ne.mpr c36
                                          by_cases c37 : a0 = 168
                                          · rw [if_pos c37] at H
                                            have c37b0 : (a0 == 168) = true := beq_iff_eq.mpr c37
                                            have c37b1 : (a0 != 168) = false := bne_eq_false_iff_eq.mpr c37
                                            clear c37
                                            obtain rfl := Option.some.inj H
                                            go_wp2
                                            go_ret
                                            exact ⟨by first | rfl | (simp; done) | (simp [*]; done), by repeat (first | exact Drawn0.refl _ | apply Drawn0.step)⟩
                                          · rw [if_neg c37] at H
                                            have c37b0 : (a0 == 168) = false := beq_eq_false_iff_ne.mpr c37
                                            have c37b1 : (a0 != 168) = true := bne_iff_ne.mpr c37
                                            by_cases c38 : a0 = 169
                                            · rw [if_pos c38] at H
                                              have c38b0 : (a0 == 169) = true := beq_iff_eq.mpr c38
                                              have c38b1 : (a0 != 169) = false := bne_eq_false_iff_eq.mpr c38
                                              clear c38
                                              obtain rfl := Option.some.inj H
                                              go_wp2
                                              go_ret
                                              exact ⟨by first | rfl | (simp; done) | (simp [*]; done), by repeat (first | exact Drawn0.refl _ | apply Drawn0.step)⟩
                                            · rw [if_neg c38] at H
                                              have c38b0 : (a0 == 169) = false := beq_eq_false_iff_ne.mpr c38
                                              have c38b1 : (a0 != 169) = true := bne_iff_ne.mpr c38
                                              by_cases c39 : a0 = 186
                                              · rw [if_pos c39] at H
                                                have c39b0 : (a0 == 186) = true := beq_iff_eq.mpr c39
                                                have c39b1 : (a0 != 186) = false := bne_eq_false_iff_eq.mpr c39
                                                clear c39
                                                obtain rfl := Option.some.inj H
                                                go_wp2
                                                go_ret
                                                exact ⟨by first | rfl | (simp; done) | (simp [*]; done), by repeat (first | exact Drawn0.refl _ | apply Drawn0.step)⟩
                                              · rw [if_neg c39] at H
                                                have c39b0 : (a0 == 186) = false := beq_eq_false_iff_ne.mpr c39
                                                have c39b1 : (a0 != 186) = true := bne_iff_ne.mpr c39
                                                by_cases c40 : a0 > 200
                                                · rw [if_pos c40] at H
                                                  have c40b0 : decide (200 < a0) = true := decide_eq_true c40
                                                  clear c40
                                                  obtain rfl := Option.some.inj H
                                                  go_wp2
                                                  go_ret
                                                  exact ⟨by first | rfl | (simp; done) | (simp [*]; done), by repeat (first | exact Drawn0.refl _ | apply Drawn0.step)⟩
                                                · rw [if_neg c40] at H
                                                  have c40b0 : decide (200 < a0) = false := decide_eq_false c40
                                                  clear c40
                                                  obtain rfl := Option.some.inj H
                                                  go_wp2
                                                  go_ret
                                                  exact ⟨by first | rfl | (simp; done) | (simp [*]; done), by repeat (first | exact Drawn0.refl _ | apply Drawn0.step)⟩
end Go.Proofs.Ytfnjbmpolggdeaa.CW
end
section
namespace Go.Proofs.Ytfnjbmpolggdeaa.CW
open Go.RowKit Go.Proofs.YtfnjbmpolggdeaaW.PrintWords Go.Proofs.YtfnjbmpolggdeaaW.PrintLast Go.Proofs.YtfnjbmpolggdeaaW.PrintMore
attribute [local go_sem] max2_int min2_int max_two min_two max_three min_three max_four min_four   -- for this text's walks alone
set_option linter.unusedVariables false
set_option linter.unusedSimpArgs false
def jvmcorelaw2_weight.l0 : Nat → Int → List (S82) → Int → Int → Option (Int)
  | 0, _, _, _, _ => none
  | k + 1, x3, x8, x9, x10 => if x10 < x9 then (if 0 ≤ x10 then (if x10 < (x8.length : Int) then (if (wrap64 (x3 + (wrap64 ((((rd_T82 x8 x10).f6).length : Int) + (((rd_T82 x8 x10).f7).length : Int))))) > 32768 then (some (wrap64 (x3 + (wrap64 ((((rd_T82 x8 x10).f6).length : Int) + (((rd_T82 x8 x10).f7).length : Int)))))) else (jvmcorelaw2_weight.l0 k (wrap64 (x3 + (wrap64 ((((rd_T82 x8 x10).f6).length : Int) + (((rd_T82 x8 x10).f7).length : Int))))) x8 x9 (wrap64 (x10 + 1)))) else (none)) else (none)) else (some x3)
def jvmcorelaw2_weight.f (k : Nat) (l0 : List (S82)) : Option (Int) := jvmcorelaw2_weight.l0 k (l0.length : Int) l0 (l0.length : Int) 0
theorem jvmcorelaw2_weight.mono_l : ∀ k, (∀ y0 y1 y2 y3, LeO (jvmcorelaw2_weight.l0 k y0 y1 y2 y3) (jvmcorelaw2_weight.l0 (k + 1) y0 y1 y2 y3))
  | 0 => fun _ _ _ _ r h => by simp [jvmcorelaw2_weight.l0] at h
  | k + 1 => by
    have ih0 := jvmcorelaw2_weight.mono_l k
    · intro y0 y1 y2 y3
      unfold jvmcorelaw2_weight.l0
      repeat' first
      | (with_reducible exact ih0 _ _ _ _)
      | (with_reducible exact LeO.refl _)
      | (with_reducible exact LeO.none _)
      | (with_reducible refine LeO.ite ?_ ?_)
      | (with_reducible refine LeO.bind ?_ (fun _ => ?_))
theorem jvmcorelaw2_weight.mono : ∀ a0 k, LeO (jvmcorelaw2_weight.f k a0) (jvmcorelaw2_weight.f (k + 1) a0) := by
  intro a0 k
  have ih0 := jvmcorelaw2_weight.mono_l k
  unfold jvmcorelaw2_weight.f
  repeat' first
      | (with_reducible exact ih0 _ _ _ _)
      | (with_reducible exact LeO.refl _)
      | (with_reducible exact LeO.none _)
      | (with_reducible refine LeO.ite ?_ ?_)
      | (with_reducible refine LeO.bind ?_ (fun _ => ?_))
end Go.Proofs.Ytfnjbmpolggdeaa.CW
end
section
namespace Go.Proofs.Ytfnjbmpolggdeaa
open Go.RowKit Go.Lib Go.Proofs.YtfnjbmpolggdeaaW.PrintWords
set_option linter.unusedVariables false
set_option linter.unusedSimpArgs false
theorem mrow.step {w w' : World} {base e n} {v : Value} {xs : List Value} (h : mrow w base e v n xs) (hm : ∀ k, v.ownBlock = some k → w'.heap[k]? = w.heap[k]?) : mrow w' base e v n xs := by
  refine ⟨h.1, ?_⟩
  rcases h.2 with h2 | ⟨g, cap, cur, fr, hv, hbg, hg, r⟩
  · exact .inl h2
  · exact .inr ⟨g, cap, cur, fr, hv, hbg, (hm g (by rw [hv]; rfl)).trans hg, r⟩
theorem mrow.typed {w : World} {base e n} {v : Value} {xs : List Value} (h : mrow w base e v n xs) : ∀ k, v.ownBlock = some k → ∃ cur fr, w.heap[k]? = some (.cells cur e fr) := by
  intro k hk
  rcases h.2 with ⟨rfl, _⟩ | ⟨g, cap, cur, fr, rfl, hb, hg, _⟩
  · simp [Value.ownBlock] at hk
  · simp [Value.ownBlock] at hk
    subst hk
    exact ⟨cur, fr, hg⟩
theorem str_step {P : Program} {ops : Array Oper} {o : Oper} {a : Act} {Q : Exit → Act → World → Prop} {K : Act → World → Prop} {w : World} (hw : Region.wanted o (yielded ops a.tmps) = true) (s x : Operand) (t u : TypeId)
    (ho : o.op = .call { callee := .builtin .append, args := #[s, x], argTypes := #[t, u] })
    (e : TypeId) (ht : P.underlying t = some (.slice e)) (hu : P.underlying u = some .string) (hI : (P.info? e).map (fun i => (i.zero, i.size, i.bytes)) = some (some (.int .u8 0), 1, 1))
    (base : Nat) {v : Value} {n : Nat} {xs : List Value} (hown : mrow w base e v n xs) (hs : a.eval s = v)
    (str : ByteArray) (hx : a.eval x = .string str) (hn : n + str.size ≤ 140737488355328) (hbase : base ≤ w.heap.size)
    (h : ∀ v' w', mrow w' base e v' (n + str.size) (xs ++ u8s (bs str)) → w.grownBy w' v.ownBlock → (v'.ownBlock = v.ownBlock ∨ v'.ownBlock = some w.heap.size) → K (a.put o.dst v') w') :
    if Region.wanted o (yielded ops a.tmps) = true then Oper.wp P o a w K Q else K (a.put o.dst undef) w := by
  obtain ⟨i, hi, hz, hsize, hby⟩ := info_parts hI
  obtain ⟨v', w', hr, h2, hg, h4⟩ := run_append_mrow_str (P := P) base t u o.type e i ht hu hi hz hsize hby v n xs hown str (by unfold maxLen; omega) hn hbase
  rw [strCells_bs] at h2
  rw [if_pos hw]
  unfold Oper.wp execOp
  simp only [ho, resolve, invoke, builtin, Sem.run_bind, Sem.run_pure, Result.andThen_ok, List.map_toArray, List.map_cons, List.map_nil, hs, hx, hr]
  exact h v' w' h2 hg h4
def BW (base : Nat) (W : World) (g : Nat) (T : TypeId) (cells : Value → Array Value) (v : Value) (l : List Nat) : Prop :=
  W.heap[g]? = some (.cells (cells v) T (0, 0)) ∧ base ≤ g ∧ mrow W base 5 v l.length (u8s l)
def BS (w : World) (g : Nat) (v : Value) (w' : World) (v' : Value) : Prop :=
  Kept w w' (fun k => k = g ∨ v.ownBlock = some k) ∧ (v'.ownBlock = v.ownBlock ∨ ∃ b, v'.ownBlock = some b ∧ w.heap.size ≤ b)
theorem BS.trans {w w1 w2 : World} {g : Nat} {v v1 v2 : Value} (h : BS w g v w1 v1) (k : BS w1 g v1 w2 v2) : BS w g v w2 v2 := by
  refine ⟨h.1.then_ k.1 (fun q hq => ?_), ?_⟩
  · rcases hq with rfl | hq
    · exact .inl (.inl rfl)
    · rcases h.2 with h2 | ⟨b, hb, hbs⟩
      · exact .inl (.inr (h2 ▸ hq))
      · rw [hb] at hq; injection hq with hq; exact .inr (by omega)
  · rcases k.2 with k2 | ⟨b, hb, hbs⟩
    · rcases h.2 with h2 | h2
      · exact .inl (k2.trans h2)
      · rw [k2]; exact .inr h2
    · exact .inr ⟨b, hb, Nat.le_trans h.1.1 hbs⟩
theorem BS.below {w w1 : World} {g : Nat} {v : Value} (hb : Below w.heap.size w w1) : BS w g v w1 v := ⟨Kept.of_below hb _, .inl rfl⟩
theorem BS.blk {w w' : World} {g k : Nat} {v v' : Value} {o : Obj} (h : BS w g v w' v') (hk : w.heap[k]? = some o) (h1 : k ≠ g) (h2 : v.ownBlock ≠ some k) : w'.heap[k]? = some o :=
  blk_kept hk h.1 (fun hh => hh.elim h1 h2)
section
variable {base : Nat} {W W1 : World} {g : Nat} {T : TypeId} {cells : Value → Array Value} {v : Value} {l : List Nat}
theorem BW.ne (h : BW base W g T cells v l) (hT : T ≠ 5) : v.ownBlock ≠ some g := fun he => by
  obtain ⟨cur, fr, hc⟩ := h.2.2.typed g he
  rw [h.1] at hc
  injection hc with hc
  injection hc with _ ht
  exact hT ht
theorem BW.below (h : BW base W g T cells v l) (hb : Below W.heap.size W W1) : BW base W1 g T cells v l :=
  ⟨(hb.block g (blk_lt h.1)).trans h.1, h.2.1, h.2.2.below hb⟩
theorem BW.lt (h : BW base W g T cells v l) : g < W.heap.size := blk_lt h.1
theorem BW.ge (h : BW base W g T cells v l) : ∀ k, v.ownBlock = some k → base ≤ k := fun k hk => (h.2.2.ge k hk).1
theorem BW.old (h : BW base W g T cells v l) {k : Nat} (hk : k < base) : k ≠ g ∧ v.ownBlock ≠ some k :=
  ⟨fun e => by have := h.2.1; omega, fun e => by have := h.ge k e; omega⟩
theorem BW.put (h : BW base W g T cells v l) (hT : T ≠ 5) {v1 : Value} {l1 : List Nat} (hg : W.grownBy W1 v.ownBlock) (hm : mrow W1 base 5 v1 l1.length (u8s l1)) (hat : v1.ownBlock = v.ownBlock ∨ ∃ b, v1.ownBlock = some b ∧ W.heap.size ≤ b) (hc : ∀ u, (cells u).size = (cells v).size ∧ ((cells v).setIfInBounds 0 u) = cells u) :
    BW base (W1.setCell ⟨g, 0, none⟩ v1) g T cells v1 l1 ∧ BS W g v (W1.setCell ⟨g, 0, none⟩ v1) v1 := by
  have hgg : W1.heap[g]? = some (.cells (cells v) T (0, 0)) := (hg.block g (blk_lt h.1) (fun e => h.ne hT e.symm)).trans h.1
  have hne : v1.ownBlock ≠ some g := by
    rcases hat with e | ⟨b, e, hb⟩
    · rw [e]; exact h.ne hT
    · rw [e]; intro he; injection he with he; have := blk_lt h.1; omega
  refine ⟨⟨?_, h.2.1, hm.step (fun k hk => Below.heap_setCell W1 _ v1 k (fun e => hne (by rw [hk]; exact congrArg some e)))⟩, ?_, hat⟩
  · have := blk_set hgg 0 v1
    rw [this, (hc v1).2]
  · exact ((Kept.refl W _).of_grown hg (fun k hk => .inl (.inr hk))).setCell (.inl (.inl rfl)) v1
end
end Go.Proofs.Ytfnjbmpolggdeaa
end
section
namespace Go.Proofs.Ytfnjbmpolggdeaa
open Go.RowKit Go.Lib Go.Proofs.YtfnjbmpolggdeaaW.PrintWords
set_option linter.unusedVariables false
set_option linter.unusedSimpArgs false
def U64 (x : Int) : Nat := (IntKind.u64.wrap x).toNat
theorem u64_nat (x : Int) : IntKind.u64.wrap x = (U64 x : Nat) := by
  unfold U64
  have : 0 ≤ IntKind.u64.wrap x := by simp only [IntKind.wrap, IntKind.bits, IntKind.signed]; simp; omega
  omega
theorem u64_lt (x : Int) : U64 x < 18446744073709551616 := by
  unfold U64
  have : IntKind.u64.wrap x < 18446744073709551616 := by simp only [IntKind.wrap, IntKind.bits, IntKind.signed]; simp; omega
  omega
theorem below_drew0 {w w1 : World} (h : Below w.drew.heap.size w.drew w1) : Below w.heap.size w w1 := ⟨h.os, h.tape, h.output, h.size, h.block⟩
theorem mrow_slice {w : World} {base e n} {v : Value} {xs : List Value} (h : mrow w base e v n xs) : ∃ A c, v = .slice A n c := by
  rcases h.2 with ⟨rfl, rfl⟩ | ⟨g, cap, cur, fr, rfl, _⟩
  · exact ⟨_, _, rfl⟩
  · exact ⟨_, _, rfl⟩
def NumPost (w0 w : World) (g : Nat) (v : Value) (cells : Value → Array Value) (T : TypeId) (l1 : List Nat) (e : Ending) (w' : World) : Prop :=
  e = .returned (.tuple #[]) ∧ Below w0.heap.size w0 w' ∧ ∃ v', BW w0.heap.size w' g T cells v' l1 ∧ BS w g v w' v'
end Go.Proofs.Ytfnjbmpolggdeaa
end
section
namespace Go.Proofs.Ytfnjbmpolggdeaa
open Go.RowKit Go.Lib Go.Proofs.YtfnjbmpolggdeaaW.PrintWords
set_option linter.unusedVariables false
set_option linter.unusedSimpArgs false
def ewC (ok : Bool) (v : Value) : Array Value := #[v, .bool ok]
abbrev EncPost (w0 w : World) (g : Nat) (v : Value) (s : List Nat × Bool) : Ending → World → Prop := NumPost w0 w g v (ewC s.2) 114 s.1
def putS (x : Int) (m : Nat) (lo hi : Int) (s : List Nat × Bool) : List Nat × Bool := (s.1 ++ bigB (U64 x) m, s.2 && (decide (lo ≤ x) && decide (x ≤ hi)))
theorem ew_grown {base : Nat} {W W1 : World} {g : Nat} {ok : Bool} {v : Value} {l : List Nat} (hg : W.grownBy W1 v.ownBlock) (h : BW base W g 114 (ewC ok) v l) : W1.heap[g]? = some (.cells (ewC ok v) 114 (0, 0)) :=
  (hg.block g (blk_lt h.1) (fun e => h.ne (by decide) e.symm)).trans h.1
theorem ew_cell {base : Nat} {W W1 : World} {g : Nat} {ok : Bool} {v : Value} {l : List Nat} (hg : W.grownBy W1 v.ownBlock) (h : BW base W g 114 (ewC ok) v l) : W1.cell? ⟨g, 0, none⟩ = some v := blk_cell (ew_grown hg h) 0
theorem ew_frozen {base : Nat} {W W1 : World} {g : Nat} {ok : Bool} {v : Value} {l : List Nat} (hg : W.grownBy W1 v.ownBlock) (h : BW base W g 114 (ewC ok) v l) : W1.frozen? ⟨g, 0, none⟩ = false := blk_frozen (ew_grown hg h) 0
theorem ew_set {base : Nat} {W : World} {g : Nat} {ok : Bool} {v : Value} {l : List Nat} (h : BW base W g 114 (ewC ok) v l) (b : Bool) : BW base (W.setCell ⟨g, 1, none⟩ (.bool b)) g 114 (ewC b) v l ∧ BS W g v (W.setCell ⟨g, 1, none⟩ (.bool b)) v := by
  refine ⟨⟨(blk_set h.1 1 _).trans rfl, h.2.1, h.2.2.step (fun k hk => Below.heap_setCell W _ _ k (fun e => h.ne (by decide) (by rw [hk]; exact congrArg some e)))⟩, (Kept.refl W _).setCell (.inl (.inl rfl)) _, .inl rfl⟩
theorem put_end {w0 w1 w2 : World} {g : Nat} {ok : Bool} {v v' : Value} {l : List Nat} {x : Int} {m : Nat} (h1 : BW w0.heap.size w1 g 114 (ewC ok) v l) (hB1 : Below w0.heap.size w0 w1) (hg' : w1.grownBy w2 v.ownBlock)
    (hm' : mrow w2 w0.heap.size 5 v' (l.length + (sb (bigB (U64 x) m)).size) (u8s l ++ u8s (bs (sb (bigB (U64 x) m))))) (hat' : v'.ownBlock = v.ownBlock ∨ v'.ownBlock = some w1.heap.size) :
    Below w0.heap.size w0 (w2.setCell ⟨g, 0, none⟩ v') ∧ BW w0.heap.size (w2.setCell ⟨g, 0, none⟩ v') g 114 (ewC ok) v' (l ++ bigB (U64 x) m) ∧ BS w1 g v (w2.setCell ⟨g, 0, none⟩ v') v' := by
  have hlen : l.length + (sb (bigB (U64 x) m)).size = (l ++ bigB (U64 x) m).length := by rw [sb_size, List.length_append]
  rw [hlen, bs_sb (bigB_lt m _), ← u8s_append] at hm'
  have hP := h1.put (by decide) hg' hm' (by rcases hat' with h | h; exact .inl h; exact .inr ⟨_, h, Nat.le_refl _⟩) (fun u => ⟨rfl, rfl⟩)
  exact ⟨(pw_below_grown hB1 _ hB1.size hg' (fun k hk => h1.ge k hk)).setCell h1.2.1 _, hP.1, hP.2⟩
set_option maxHeartbeats 4000000 in
set_option maxRecDepth 100000 in
theorem put_any (w0 w : World) (g : Nat) (v : Value) (s : List Nat × Bool) (x : Int) (j : Int) (m : Nat) (hj : j = m) (hm : m ≤ 8) (lo hi : Int) (hW : BW w0.heap.size w g 114 (ewC s.2) v s.1) (hB : Below w0.heap.size w0 w) (hl : s.1.length + 8 ≤ 140737488355328) :
    Calls Try.prog 120 #[.pointer (some ⟨g, 0, none⟩), .int .i64 x, .int .i64 j, .int .i64 lo, .int .i64 hi] w (EncPost w0 w g v (putS x m lo hi s)) := by
  obtain ⟨l, ok⟩ := s
  dsimp only [putS, EncPost] at *
  have hc1 : w.cell? ⟨g, 1, none⟩ = some (.bool ok) := blk_cell hW.1 1
  have hf1 : w.frozen? ⟨g, 1, none⟩ = false := blk_frozen hW.1 1
  have HM := Lib.hid hW
  have HB := Lib.hid hB
  have HL := Lib.hid hl
  have HJ := Lib.hid hj
  have HMM := Lib.hid hm
  clear hW hB hl hj hm
  cases ok with
  | false =>
    have hW1 := Lib.hid (ew_set HM.out false).1
    have hS1 := Lib.hid (ew_set HM.out false).2
    have hB1 := Lib.hid (HB.out.setCell (p := ⟨g, 1, none⟩) HM.out.2.1 (.bool false))
    have hc0 : (w.setCell ⟨g, 1, none⟩ (.bool false)).cell? ⟨g, 0, none⟩ = some v := blk_cell hW1.out.1 0
    have HR : Aside0 ((false && (decide (lo ≤ x) && decide (x ≤ hi))) = false) := ⟨by simp [Bool.false_and]⟩
    go_enter Try.func120, Try.ntmps120
    go_wp2_with fail
    generalize w.setCell ⟨g, 1, none⟩ (.bool false) = w1 at *
    go_region_law (first
      | (refine str_step (by rfl) (.tmp 31) (.tmp 35) 87 9 rfl 5 Try.underlying87 Try.underlying9 Try.infoB w0.heap.size (hW1.out.below (below_drew0 hbx)).2.2 rfl (sb (bigB (U64 x) m)) rfl (by rw [sb_size, bigB_length]; have := HL.out; have := HMM.out; omega) (by have := hB1.out.size; have := (below_drew0 hbx).size; omega) ?_; intro v' w2 hm' hg' hat'; obtain ⟨A', c', rfl⟩ := mrow_slice hm'; have hc2 := ew_cell hg' (hW1.out.below (below_drew0 hbx)); have hf2 := ew_frozen hg' (hW1.out.below (below_drew0 hbx)))
      | (go_simp; refine (Big_any (U64 x) m _ (u64_nat x) j HJ.out _ (u64_lt x) HMM.out).mono ?_; rintro e w' ⟨rfl, hbx⟩; dsimp only; have hcx := pw_cell_below (below_drew0 hbx) hc0))
    all_goals
      go_end0
      have hE := put_end (hW1.out.below (below_drew0 hbx)) (below_then hB1.out hB1.out.size (below_drew0 hbx)) hg' hm' hat'
      rw [HR.out]
      have hlen : l.length + (sb (bigB (U64 x) m)).size = (l ++ bigB (U64 x) m).length := by rw [sb_size, List.length_append]
      rw [← hlen] at *
      exact ⟨rfl, hE.1, _, hE.2.1, hS1.out.trans ((BS.below (below_drew0 hbx)).trans hE.2.2)⟩
  | true =>
    by_cases h1 : lo ≤ x
    · have b1 : decide (lo ≤ x) = true := decide_eq_true h1
      have b1' : decide (x ≥ lo) = true := decide_eq_true h1
      by_cases h2 : x ≤ hi
      · have b2 : decide (x ≤ hi) = true := decide_eq_true h2
        clear h1 h2

        have hW1 := Lib.hid (ew_set HM.out true).1
        have hS1 := Lib.hid (ew_set HM.out true).2
        have hB1 := Lib.hid (HB.out.setCell (p := ⟨g, 1, none⟩) HM.out.2.1 (.bool true))
        have hc0 : (w.setCell ⟨g, 1, none⟩ (.bool true)).cell? ⟨g, 0, none⟩ = some v := blk_cell hW1.out.1 0
        have HR : Aside0 ((true && (decide (lo ≤ x) && decide (x ≤ hi))) = true) := ⟨by simp [b1, b2]⟩
        go_enter Try.func120, Try.ntmps120
        go_wp2_with fail
        generalize w.setCell ⟨g, 1, none⟩ (.bool true) = w1 at *
        go_region_law (first
          | (refine str_step (by rfl) (.tmp 31) (.tmp 35) 87 9 rfl 5 Try.underlying87 Try.underlying9 Try.infoB w0.heap.size (hW1.out.below (below_drew0 hbx)).2.2 rfl (sb (bigB (U64 x) m)) rfl (by rw [sb_size, bigB_length]; have := HL.out; have := HMM.out; omega) (by have := hB1.out.size; have := (below_drew0 hbx).size; omega) ?_; intro v' w2 hm' hg' hat'; obtain ⟨A', c', rfl⟩ := mrow_slice hm'; have hc2 := ew_cell hg' (hW1.out.below (below_drew0 hbx)); have hf2 := ew_frozen hg' (hW1.out.below (below_drew0 hbx)))
          | (go_simp; refine (Big_any (U64 x) m _ (u64_nat x) j HJ.out _ (u64_lt x) HMM.out).mono ?_; rintro e w' ⟨rfl, hbx⟩; dsimp only; have hcx := pw_cell_below (below_drew0 hbx) hc0))
        all_goals
          go_end0
          have hE := put_end (hW1.out.below (below_drew0 hbx)) (below_then hB1.out hB1.out.size (below_drew0 hbx)) hg' hm' hat'
          rw [HR.out]
          have hlen : l.length + (sb (bigB (U64 x) m)).size = (l ++ bigB (U64 x) m).length := by rw [sb_size, List.length_append]
          rw [← hlen] at *
          exact ⟨rfl, hE.1, _, hE.2.1, hS1.out.trans ((BS.below (below_drew0 hbx)).trans hE.2.2)⟩

      · have b2 : decide (x ≤ hi) = false := decide_eq_false h2
        clear h1 h2

        have hW1 := Lib.hid (ew_set HM.out false).1
        have hS1 := Lib.hid (ew_set HM.out false).2
        have hB1 := Lib.hid (HB.out.setCell (p := ⟨g, 1, none⟩) HM.out.2.1 (.bool false))
        have hc0 : (w.setCell ⟨g, 1, none⟩ (.bool false)).cell? ⟨g, 0, none⟩ = some v := blk_cell hW1.out.1 0
        have HR : Aside0 ((true && (decide (lo ≤ x) && decide (x ≤ hi))) = false) := ⟨by simp [b1, b2]⟩
        go_enter Try.func120, Try.ntmps120
        go_wp2_with fail
        generalize w.setCell ⟨g, 1, none⟩ (.bool false) = w1 at *
        go_region_law (first
          | (refine str_step (by rfl) (.tmp 31) (.tmp 35) 87 9 rfl 5 Try.underlying87 Try.underlying9 Try.infoB w0.heap.size (hW1.out.below (below_drew0 hbx)).2.2 rfl (sb (bigB (U64 x) m)) rfl (by rw [sb_size, bigB_length]; have := HL.out; have := HMM.out; omega) (by have := hB1.out.size; have := (below_drew0 hbx).size; omega) ?_; intro v' w2 hm' hg' hat'; obtain ⟨A', c', rfl⟩ := mrow_slice hm'; have hc2 := ew_cell hg' (hW1.out.below (below_drew0 hbx)); have hf2 := ew_frozen hg' (hW1.out.below (below_drew0 hbx)))
          | (go_simp; refine (Big_any (U64 x) m _ (u64_nat x) j HJ.out _ (u64_lt x) HMM.out).mono ?_; rintro e w' ⟨rfl, hbx⟩; dsimp only; have hcx := pw_cell_below (below_drew0 hbx) hc0))
        all_goals
          go_end0
          have hE := put_end (hW1.out.below (below_drew0 hbx)) (below_then hB1.out hB1.out.size (below_drew0 hbx)) hg' hm' hat'
          rw [HR.out]
          have hlen : l.length + (sb (bigB (U64 x) m)).size = (l ++ bigB (U64 x) m).length := by rw [sb_size, List.length_append]
          rw [← hlen] at *
          exact ⟨rfl, hE.1, _, hE.2.1, hS1.out.trans ((BS.below (below_drew0 hbx)).trans hE.2.2)⟩

    · have b1 : decide (lo ≤ x) = false := decide_eq_false h1
      have b1' : decide (x ≥ lo) = false := decide_eq_false h1
      clear h1

      have hW1 := Lib.hid (ew_set HM.out false).1
      have hS1 := Lib.hid (ew_set HM.out false).2
      have hB1 := Lib.hid (HB.out.setCell (p := ⟨g, 1, none⟩) HM.out.2.1 (.bool false))
      have hc0 : (w.setCell ⟨g, 1, none⟩ (.bool false)).cell? ⟨g, 0, none⟩ = some v := blk_cell hW1.out.1 0
      have HR : Aside0 ((true && (decide (lo ≤ x) && decide (x ≤ hi))) = false) := ⟨by simp [b1]⟩
      go_enter Try.func120, Try.ntmps120
      go_wp2_with fail
      generalize w.setCell ⟨g, 1, none⟩ (.bool false) = w1 at *
      go_region_law (first
        | (refine str_step (by rfl) (.tmp 31) (.tmp 35) 87 9 rfl 5 Try.underlying87 Try.underlying9 Try.infoB w0.heap.size (hW1.out.below (below_drew0 hbx)).2.2 rfl (sb (bigB (U64 x) m)) rfl (by rw [sb_size, bigB_length]; have := HL.out; have := HMM.out; omega) (by have := hB1.out.size; have := (below_drew0 hbx).size; omega) ?_; intro v' w2 hm' hg' hat'; obtain ⟨A', c', rfl⟩ := mrow_slice hm'; have hc2 := ew_cell hg' (hW1.out.below (below_drew0 hbx)); have hf2 := ew_frozen hg' (hW1.out.below (below_drew0 hbx)))
        | (go_simp; refine (Big_any (U64 x) m _ (u64_nat x) j HJ.out _ (u64_lt x) HMM.out).mono ?_; rintro e w' ⟨rfl, hbx⟩; dsimp only; have hcx := pw_cell_below (below_drew0 hbx) hc0))
      all_goals
        go_end0
        have hE := put_end (hW1.out.below (below_drew0 hbx)) (below_then hB1.out hB1.out.size (below_drew0 hbx)) hg' hm' hat'
        rw [HR.out]
        have hlen : l.length + (sb (bigB (U64 x) m)).size = (l ++ bigB (U64 x) m).length := by rw [sb_size, List.length_append]
        rw [← hlen] at *
        exact ⟨rfl, hE.1, _, hE.2.1, hS1.out.trans ((BS.below (below_drew0 hbx)).trans hE.2.2)⟩
end Go.Proofs.Ytfnjbmpolggdeaa
end
section
namespace Go.Proofs.Ytfnjbmpolggdeaa
open Go.RowKit Go.Lib Go.Proofs.YtfnjbmpolggdeaaW.PrintWords
set_option linter.unusedVariables false
set_option linter.unusedSimpArgs false
def sgnS (x : Int) (m : Nat) (s : List Nat × Bool) : List Nat × Bool := putS x m (-(2 ^ (8 * m - 1) : Nat)) ((2 ^ (8 * m - 1) : Nat) - 1) s
def unsS (x : Int) (m : Nat) (s : List Nat × Bool) : List Nat × Bool := putS x m 0 ((2 ^ (8 * m) : Nat) - 1) s
set_option maxHeartbeats 4000000 in
set_option maxRecDepth 100000 in
theorem signed_any (w0 w : World) (g : Nat) (v : Value) (s : List Nat × Bool) (x : Int) (j : Int) (m : Nat) (hj : j = m) (hm : m = 1 ∨ m = 2 ∨ m = 4) (hW : BW w0.heap.size w g 114 (ewC s.2) v s.1) (hB : Below w0.heap.size w0 w) (hl : s.1.length + 8 ≤ 140737488355328) :
    Calls Try.prog 117 #[.pointer (some ⟨g, 0, none⟩), .int .i64 x, .int .i64 j] w (EncPost w0 w g v (sgnS x m s)) := by
  have HM := Lib.hid hW
  have HB := Lib.hid hB
  have HL := Lib.hid hl
  clear hW hB hl
  rcases hm with rfl | rfl | rfl
  · obtain rfl : j = 1 := hj
    have wa : IntKind.i64.wrap (8 * 1) = 8 := by decide
    have wa' : IntKind.i64.wrap 8 = 8 := by decide
    have wb : IntKind.i64.wrap (8 - 1) = 7 := by decide
    have wb' : IntKind.i64.wrap 7 = 7 := by decide
    have s1 : ∀ W : World, (Op.shift BinOp.shl IntKind.i64 (-1) IntKind.i64 7).run Try.prog W = .ok (.int .i64 (-128)) W := fun W => by rfl
    have s2 : ∀ W : World, (Op.shift BinOp.shl IntKind.i64 1 IntKind.i64 7).run Try.prog W = .ok (.int .i64 128) W := fun W => by rfl
    have wd : IntKind.i64.wrap (128 - 1) = 127 := by decide
    have we : IntKind.i64.wrap 128 = 128 := by decide
    have we' : IntKind.i64.wrap (-128) = -128 := by decide
    have wd' : IntKind.i64.wrap 127 = 127 := by decide
    go_enter Try.func117, Try.ntmps117
    go_region_law (first | (go_simp; refine (put_any w0 _ g v s x 1 1 rfl (by omega) (-128) 127 (HM.out.below (below_drew0 (Below.refl _ _))) (pw_below_drewN HB.out 1) HL.out).mono ?_; rintro e w' ⟨rfl, hb, v', h1, h2⟩; dsimp only))
    all_goals
      go_end0
      exact ⟨rfl, hb, v', h1, (BS.below (below_drew0 (Below.refl _ _))).trans h2⟩
  · obtain rfl : j = 2 := hj
    have wa : IntKind.i64.wrap (8 * 2) = 16 := by decide
    have wa' : IntKind.i64.wrap 16 = 16 := by decide
    have wb : IntKind.i64.wrap (16 - 1) = 15 := by decide
    have wb' : IntKind.i64.wrap 15 = 15 := by decide
    have s1 : ∀ W : World, (Op.shift BinOp.shl IntKind.i64 (-1) IntKind.i64 15).run Try.prog W = .ok (.int .i64 (-32768)) W := fun W => by rfl
    have s2 : ∀ W : World, (Op.shift BinOp.shl IntKind.i64 1 IntKind.i64 15).run Try.prog W = .ok (.int .i64 32768) W := fun W => by rfl
    have wd : IntKind.i64.wrap (32768 - 1) = 32767 := by decide
    have we : IntKind.i64.wrap 32768 = 32768 := by decide
    have we' : IntKind.i64.wrap (-32768) = -32768 := by decide
    have wd' : IntKind.i64.wrap 32767 = 32767 := by decide
    go_enter Try.func117, Try.ntmps117
    go_region_law (first | (go_simp; refine (put_any w0 _ g v s x 2 2 rfl (by omega) (-32768) 32767 (HM.out.below (below_drew0 (Below.refl _ _))) (pw_below_drewN HB.out 1) HL.out).mono ?_; rintro e w' ⟨rfl, hb, v', h1, h2⟩; dsimp only))
    all_goals
      go_end0
      exact ⟨rfl, hb, v', h1, (BS.below (below_drew0 (Below.refl _ _))).trans h2⟩
  · obtain rfl : j = 4 := hj
    have wa : IntKind.i64.wrap (8 * 4) = 32 := by decide
    have wa' : IntKind.i64.wrap 32 = 32 := by decide
    have wb : IntKind.i64.wrap (32 - 1) = 31 := by decide
    have wb' : IntKind.i64.wrap 31 = 31 := by decide
    have s1 : ∀ W : World, (Op.shift BinOp.shl IntKind.i64 (-1) IntKind.i64 31).run Try.prog W = .ok (.int .i64 (-2147483648)) W := fun W => by rfl
    have s2 : ∀ W : World, (Op.shift BinOp.shl IntKind.i64 1 IntKind.i64 31).run Try.prog W = .ok (.int .i64 2147483648) W := fun W => by rfl
    have wd : IntKind.i64.wrap (2147483648 - 1) = 2147483647 := by decide
    have we : IntKind.i64.wrap 2147483648 = 2147483648 := by decide
    have we' : IntKind.i64.wrap (-2147483648) = -2147483648 := by decide
    have wd' : IntKind.i64.wrap 2147483647 = 2147483647 := by decide
    go_enter Try.func117, Try.ntmps117
    go_region_law (first | (go_simp; refine (put_any w0 _ g v s x 4 4 rfl (by omega) (-2147483648) 2147483647 (HM.out.below (below_drew0 (Below.refl _ _))) (pw_below_drewN HB.out 1) HL.out).mono ?_; rintro e w' ⟨rfl, hb, v', h1, h2⟩; dsimp only))
    all_goals
      go_end0
      exact ⟨rfl, hb, v', h1, (BS.below (below_drew0 (Below.refl _ _))).trans h2⟩
set_option maxHeartbeats 4000000 in
set_option maxRecDepth 100000 in
theorem unsigned_any (w0 w : World) (g : Nat) (v : Value) (s : List Nat × Bool) (x : Int) (j : Int) (m : Nat) (hj : j = m) (hm : m = 1 ∨ m = 2) (hW : BW w0.heap.size w g 114 (ewC s.2) v s.1) (hB : Below w0.heap.size w0 w) (hl : s.1.length + 8 ≤ 140737488355328) :
    Calls Try.prog 118 #[.pointer (some ⟨g, 0, none⟩), .int .i64 x, .int .i64 j] w (EncPost w0 w g v (unsS x m s)) := by
  have HM := Lib.hid hW
  have HB := Lib.hid hB
  have HL := Lib.hid hl
  clear hW hB hl
  rcases hm with rfl | rfl
  · obtain rfl : j = 1 := hj
    have wa : IntKind.i64.wrap (8 * 1) = 8 := by decide
    have wa' : IntKind.i64.wrap 8 = 8 := by decide
    have s2 : ∀ W : World, (Op.shift BinOp.shl IntKind.i64 1 IntKind.i64 8).run Try.prog W = .ok (.int .i64 256) W := fun W => by rfl
    have wd : IntKind.i64.wrap (256 - 1) = 255 := by decide
    have we : IntKind.i64.wrap 256 = 256 := by decide
    have we' : IntKind.i64.wrap (-256) = -256 := by decide
    have wd' : IntKind.i64.wrap 255 = 255 := by decide
    go_enter Try.func118, Try.ntmps118
    go_wp2_with fail
    refine (put_any w0 _ g v s x 1 1 rfl (by omega) 0 255 HM.out HB.out HL.out).mono ?_
    rintro e w' ⟨rfl, hb, v', h1, h2⟩
    go_wp2
    go_end0
    exact ⟨rfl, hb, v', h1, h2⟩
  · obtain rfl : j = 2 := hj
    have wa : IntKind.i64.wrap (8 * 2) = 16 := by decide
    have wa' : IntKind.i64.wrap 16 = 16 := by decide
    have s2 : ∀ W : World, (Op.shift BinOp.shl IntKind.i64 1 IntKind.i64 16).run Try.prog W = .ok (.int .i64 65536) W := fun W => by rfl
    have wd : IntKind.i64.wrap (65536 - 1) = 65535 := by decide
    have we : IntKind.i64.wrap 65536 = 65536 := by decide
    have we' : IntKind.i64.wrap (-65536) = -65536 := by decide
    have wd' : IntKind.i64.wrap 65535 = 65535 := by decide
    go_enter Try.func118, Try.ntmps118
    go_wp2_with fail
    refine (put_any w0 _ g v s x 2 2 rfl (by omega) 0 65535 HM.out HB.out HL.out).mono ?_
    rintro e w' ⟨rfl, hb, v', h1, h2⟩
    go_wp2
    go_end0
    exact ⟨rfl, hb, v', h1, h2⟩
end Go.Proofs.Ytfnjbmpolggdeaa
end
section
namespace Go.Proofs.Ytfnjbmpolggdeaa
open Go.RowKit Go.Lib Go.Proofs.YtfnjbmpolggdeaaW.PrintWords
set_option linter.unusedVariables false
set_option linter.unusedSimpArgs false
theorem grown_of_alloc {w w' : World} {o : Obj} {r : Option Nat} (h3 : (w.alloc o).grownBy w' r) : w.grownBy w' r := by
  have ha := World.grownBy_alloc w o r
  refine ⟨h3.os.trans ha.os, h3.tape.trans ha.tape, h3.output.trans ha.output, Nat.le_trans ha.size h3.size, fun k hk hne => ?_⟩
  rw [h3.block k (by simp; omega) hne, ha.block k hk hne]
theorem run_app_e {w : World} (base : Nat) (t ty : TypeId) (ht : Try.prog.underlying t = some (.slice 5)) (v : Value) (n : Nat) (xs : List Value) (hown : mrow w base 5 v n xs) (b : Int) (cap : Nat)
    (hn : n + 1 ≤ 140737488355328) (hbase : base ≤ w.heap.size) :
    ∃ v' w', (Builtin.append_ #[t, t] ty #[v, .slice (some ⟨w.heap.size, 0, none⟩) 1 cap]).run Try.prog (w.alloc (.cells #[.int .u8 b] 5)) = .ok v' w' ∧ mrow w' base 5 v' (n + 1) (xs ++ [.int .u8 b]) ∧ w.grownBy w' v.ownBlock ∧ (v'.ownBlock = v.ownBlock ∨ ∃ k, v'.ownBlock = some k ∧ w.heap.size ≤ k) := by
  obtain ⟨i, hi, hz, hsize, hby⟩ := info_parts Try.infoB
  have hown' : mrow (w.alloc (.cells #[.int .u8 b] 5)) base 5 v n xs := hown.kept (row := none) (World.grownBy_alloc w _ none) (by cases v.ownBlock <;> simp)
  obtain ⟨v', w', hr, h2, h3, h4⟩ := run_append_mrow (P := Try.prog) base t ty 5 i (.int .u8 0) 1 ht hi hz hsize hby rfl v n xs hown' ⟨w.heap.size, 0, none⟩ 1 cap [.int .u8 b] rfl (cells_new (w := w) (cs := [.int .u8 b])) (by simp [Value.oneCell']) (by unfold maxLen; omega) (by omega) (by simp; omega)
  refine ⟨v', w', hr, h2, grown_of_alloc h3, ?_⟩
  rcases h4 with h | h
  · exact .inl h
  · exact .inr ⟨_, h, by simp⟩
theorem app_e {w w1 : World} {ops : Array Oper} {rest : List Oper} {o : Oper} {a : Act} {Q : Exit → Act → World → Prop} (hgd : o.guard = none) (s x : Operand) (t : TypeId)
    (ho : o.op = .call { callee := .builtin .append, args := #[s, x], argTypes := #[t, t] }) (ht : Try.prog.underlying t = some (.slice 5)) (base : Nat) {v : Value} {n : Nat} {xs : List Value} (hown : mrow w base 5 v n xs) (hs : a.eval s = v)
    (b : Int) (cap : Nat) (hx : a.eval x = .slice (some ⟨w.heap.size, 0, none⟩) 1 cap) (hn : n + 1 ≤ 140737488355328) (hbase : base ≤ w.heap.size)
    (h : ∀ v' w', mrow w' base 5 v' (n + 1) (xs ++ [.int .u8 b]) → w.grownBy w' v.ownBlock → (v'.ownBlock = v.ownBlock ∨ ∃ k, v'.ownBlock = some k ∧ w.heap.size ≤ k) → wpList Try.prog ops Q rest (a.put o.dst v') w') (hw1 : w1 = w.alloc (.cells #[.int .u8 b] 5)) :
    wpList Try.prog ops Q (o :: rest) a w1 := by
  subst hw1
  obtain ⟨v', w', hr, h2, h3, h4⟩ := run_app_e base t o.type ht v n xs hown b cap hn hbase
  refine wpList_plain hgd fun K hK => ?_
  unfold Oper.wp execOp
  simp only [ho, resolve, invoke, builtin, Sem.run_bind, Sem.run_pure, Result.andThen_ok, List.map_toArray, List.map_cons, List.map_nil, hs, hx, hr]
  exact hK _ _ (h v' w' h2 h3 h4)
theorem elem_step {ops : Array Oper} {o : Oper} {a : Act} {Q : Exit → Act → World → Prop} {K : Act → World → Prop} {w w1 : World} (hw : Region.wanted o (yielded ops a.tmps) = true) (s x : Operand) (t : TypeId)
    (ho : o.op = .call { callee := .builtin .append, args := #[s, x], argTypes := #[t, t] }) (ht : Try.prog.underlying t = some (.slice 5)) (base : Nat) {v : Value} {n : Nat} {xs : List Value} (hown : mrow w base 5 v n xs) (hs : a.eval s = v)
    (b : Int) (cap : Nat) (hx : a.eval x = .slice (some ⟨w.heap.size, 0, none⟩) 1 cap) (hn : n + 1 ≤ 140737488355328) (hbase : base ≤ w.heap.size)
    (h : ∀ v' w', mrow w' base 5 v' (n + 1) (xs ++ [.int .u8 b]) → w.grownBy w' v.ownBlock → (v'.ownBlock = v.ownBlock ∨ ∃ k, v'.ownBlock = some k ∧ w.heap.size ≤ k) → K (a.put o.dst v') w') (hw1 : w1 = w.alloc (.cells #[.int .u8 b] 5)) :
    if Region.wanted o (yielded ops a.tmps) = true then Oper.wp Try.prog o a w1 K Q else K (a.put o.dst undef) w1 := by
  subst hw1
  obtain ⟨v', w', hr, h2, h3, h4⟩ := run_app_e base t o.type ht v n xs hown b cap hn hbase
  rw [if_pos hw]
  unfold Oper.wp execOp
  simp only [ho, resolve, invoke, builtin, Sem.run_bind, Sem.run_pure, Result.andThen_ok, List.map_toArray, List.map_cons, List.map_nil, hs, hx, hr]
  exact h v' w' h2 h3 h4
theorem byte_put {w0 w w' : World} {g : Nat} {ok : Bool} {v v' : Value} {l : List Nat} {b : Nat} {i : Int} (hi : i = b) (h : BW w0.heap.size w g 114 (ewC ok) v l) (hB : Below w0.heap.size w0 w) (hm : mrow w' w0.heap.size 5 v' (l.length + 1) (u8s l ++ [.int .u8 i])) (hg : w.grownBy w' v.ownBlock) (hat : v'.ownBlock = v.ownBlock ∨ ∃ k, v'.ownBlock = some k ∧ w.heap.size ≤ k) :
    BW w0.heap.size (w'.setCell ⟨g, 0, none⟩ v') g 114 (ewC ok) v' (l ++ [b]) ∧ BS w g v (w'.setCell ⟨g, 0, none⟩ v') v' ∧ Below w0.heap.size w0 (w'.setCell ⟨g, 0, none⟩ v') := by
  subst hi
  have hl : (l ++ [b]).length = l.length + 1 := by simp
  have hP := h.put (by decide) hg (l1 := l ++ [b]) (by rw [hl, u8s_append]; exact hm) hat (fun u => ⟨rfl, rfl⟩)
  exact ⟨hP.1, hP.2, (pw_below_grown hB _ hB.size hg (fun k hk => h.ge k hk)).setCell h.2.1 _⟩
theorem mrow_nb {w : World} {base e n} {v : Value} {xs : List Value} {b : Nat} {c : Array Value} {T : TypeId} {fr : Nat × Nat} (h : mrow w base e v n xs) (hb : w.heap[b]? = some (.cells c T fr)) (hT : e ≠ T) : v.ownBlock ≠ some b := fun he => by
  obtain ⟨cur, fr', hc⟩ := h.typed b he
  rw [hb] at hc
  injection hc with hc
  injection hc with _ ht
  exact hT ht.symm
end Go.Proofs.Ytfnjbmpolggdeaa
end
section
namespace Go.Proofs.Ytfnjbmpolggdeaa.CW
open Go.RowKit Go.Lib Go.Proofs.YtfnjbmpolggdeaaW.PrintWords Go.Proofs.YtfnjbmpolggdeaaW.PrintLast Go.Proofs.YtfnjbmpolggdeaaW.PrintMore
set_option linter.unusedVariables false
set_option linter.unusedSimpArgs false
def tgtS (x7 : List Int) (n : Int) (s : List Nat × Bool) : List Nat × Bool := (s.1, s.2 && ((x7.length : Int) == n))
def TgtPost (w0 w : World) (g : Nat) (v : Value) (s : List Nat × Bool) (e : Ending) (w' : World) : Prop :=
  e = .returned (.bool s.2) ∧ Below w0.heap.size w0 w' ∧ BW w0.heap.size w' g 114 (ewC s.2) v s.1 ∧ BS w g v w' v
set_option maxHeartbeats 4000000 in
set_option maxRecDepth 100000 in
theorem targets_any (w0 w : World) (g : Nat) (v : Value) (s : List Nat × Bool) (x0 x1 : Int) (x2 : Bool) (x3 x4 x5 : Int) (A6 : Option Addr) (c6 : Nat) (x6 : List Int) (A7 : Option Addr) (c7 : Nat) (x7 : List Int) (n : Int) (hW : BW w0.heap.size w g 114 (ewC s.2) v s.1) (hB : Below w0.heap.size w0 w) :
    Calls Try.prog 116 #[.pointer (some ⟨g, 0, none⟩), .agg #[.int .i64 x0, .int .u8 x1, .bool x2, .int .i64 x3, .int .i64 x4, .int .i64 x5, .slice A6 x6.length c6, .slice A7 x7.length c7], .int .i64 n] w (TgtPost w0 w g v (tgtS x7 n s)) := by
  obtain ⟨l, ok⟩ := s
  dsimp only [tgtS] at *
  have hbx := below_alloc (Below.refl w.heap.size w) (.cells #[.int .i64 x0, .int .u8 x1, .bool x2, .int .i64 x3, .int .i64 x4, .int .i64 x5, .slice A6 x6.length c6, .slice A7 x7.length c7] 82)
  have hW1 := hW.below hbx
  have hc1 : (w.alloc (.cells #[.int .i64 x0, .int .u8 x1, .bool x2, .int .i64 x3, .int .i64 x4, .int .i64 x5, .slice A6 x6.length c6, .slice A7 x7.length c7] 82)).cell? ⟨g, 1, none⟩ = some (.bool ok) := blk_cell hW1.1 1
  have hf1 : (w.alloc (.cells #[.int .i64 x0, .int .u8 x1, .bool x2, .int .i64 x3, .int .i64 x4, .int .i64 x5, .slice A6 x6.length c6, .slice A7 x7.length c7] 82)).frozen? ⟨g, 1, none⟩ = false := blk_frozen hW1.1 1
  have HW := Lib.hid hW1
  have HB := Lib.hid (below_then hB hB.size hbx)
  have HX := Lib.hid hbx
  clear hW hB hW1 hbx
  cases ok with
  | false =>
    have hS := Lib.hid (ew_set HW.out false)
    have hc2 : ((w.alloc (.cells #[.int .i64 x0, .int .u8 x1, .bool x2, .int .i64 x3, .int .i64 x4, .int .i64 x5, .slice A6 x6.length c6, .slice A7 x7.length c7] 82)).setCell ⟨g, 1, none⟩ (.bool false)).cell? ⟨g, 1, none⟩ = some (.bool false) := blk_cell hS.out.1.1 1
    go_enter Try.func116, Try.ntmps116
    go_wp2
    go_ret
    exact ⟨by simp, HB.out.setCell (p := ⟨g, 1, none⟩) HW.out.2.1 _, by simpa using hS.out.1, (BS.below HX.out).trans hS.out.2⟩
  | true =>
    have hS := Lib.hid (ew_set HW.out ((x7.length : Int) == n))
    have hc2 : ((w.alloc (.cells #[.int .i64 x0, .int .u8 x1, .bool x2, .int .i64 x3, .int .i64 x4, .int .i64 x5, .slice A6 x6.length c6, .slice A7 x7.length c7] 82)).setCell ⟨g, 1, none⟩ (.bool ((x7.length : Int) == n))).cell? ⟨g, 1, none⟩ = some (.bool ((x7.length : Int) == n)) := blk_cell hS.out.1.1 1
    go_enter Try.func116, Try.ntmps116
    go_wp2
    go_ret
    exact ⟨by simp, HB.out.setCell (p := ⟨g, 1, none⟩) HW.out.2.1 _, by simpa using hS.out.1, (BS.below HX.out).trans hS.out.2⟩
end Go.Proofs.Ytfnjbmpolggdeaa.CW
end
section
namespace Go.Proofs.Ytfnjbmpolggdeaa.CW
open Go.RowKit Go.Lib Go.Proofs.YtfnjbmpolggdeaaW.PrintWords Go.Proofs.YtfnjbmpolggdeaaW.PrintLast Go.Proofs.YtfnjbmpolggdeaaW.PrintMore
set_option linter.unusedVariables false
set_option linter.unusedSimpArgs false
theorem box8 {W : World} {b : Nat} {x0 x1 : Int} {x2 : Bool} {x3 x4 x5 : Int} {A6 : Option Addr} {c6 : Nat} {x6 : List Int} {A7 : Option Addr} {c7 : Nat} {x7 : List Int} (h : W.heap[b]? = some (.cells #[.int .i64 x0, .int .u8 x1, .bool x2, .int .i64 x3, .int .i64 x4, .int .i64 x5, .slice A6 x6.length c6, .slice A7 x7.length c7] 82 (0, 0))) :
    W.cell? ⟨b, 0, none⟩ = some (.int .i64 x0) ∧ W.cell? ⟨b, 1, none⟩ = some (.int .u8 x1) ∧ W.cell? ⟨b, 2, none⟩ = some (.bool x2) ∧ W.cell? ⟨b, 3, none⟩ = some (.int .i64 x3) ∧ W.cell? ⟨b, 4, none⟩ = some (.int .i64 x4) ∧ W.cell? ⟨b, 5, none⟩ = some (.int .i64 x5) ∧
    W.cell? ⟨b, 6, none⟩ = some (.slice A6 x6.length c6) ∧ W.cell? ⟨b, 7, none⟩ = some (.slice A7 x7.length c7) :=
  ⟨blk_cell h 0, blk_cell h 1, blk_cell h 2, blk_cell h 3, blk_cell h 4, blk_cell h 5, blk_cell h 6, blk_cell h 7⟩
def szI (x2 : Bool) : Nat := if x2 = true then 2 else 1
def opS (x1 : Int) (x2 : Bool) (s : List Nat × Bool) : List Nat × Bool := ((if x2 = true then s.1 ++ [196] else s.1) ++ [x1.toNat], s.2)
def St (w0 w : World) (g : Nat) (v : Value) (bx : Nat) (o : Obj) (s : List Nat × Bool) (W : World) (V : Value) : Prop :=
  BW w0.heap.size W g 114 (ewC s.2) V s.1 ∧ Below w0.heap.size w0 W ∧ BS w g v W V ∧ W.heap[bx]? = some o
theorem St.call {w0 w W W1 : World} {g bx : Nat} {v V V1 : Value} {c : Array Value} {s s1 : List Nat × Bool} (h : St w0 w g v bx (.cells c 82 (0, 0)) s W V) (hbx : bx ≠ g)
    (h1 : BW w0.heap.size W1 g 114 (ewC s1.2) V1 s1.1) (h2 : Below w0.heap.size w0 W1) (h3 : BS W g V W1 V1) : St w0 w g v bx (.cells c 82 (0, 0)) s1 W1 V1 :=
  ⟨h1, h2, h.2.2.1.trans h3, h3.blk h.2.2.2 hbx (mrow_nb h.1.2.2 h.2.2.2 (by decide))⟩
theorem St.quiet {w0 w W W1 : World} {g bx : Nat} {v V : Value} {c : Array Value} {s : List Nat × Bool} (h : St w0 w g v bx (.cells c 82 (0, 0)) s W V) (hbx : bx ≠ g) (hb : Below W.heap.size W W1) : St w0 w g v bx (.cells c 82 (0, 0)) s W1 V :=
  h.call hbx (h.1.below hb) (below_then h.2.1 h.2.1.size hb) (BS.below hb)
theorem St.start {w0 w : World} {g : Nat} {v : Value} {c : Array Value} {s : List Nat × Bool} (hW : BW w0.heap.size w g 114 (ewC s.2) v s.1) (hB : Below w0.heap.size w0 w) : St w0 w g v w.heap.size (.cells c 82 (0, 0)) s (w.alloc (.cells c 82)) v :=
  ⟨hW.below (below_alloc (Below.refl _ _) _), below_then hB hB.size (below_alloc (Below.refl _ _) _), BS.below (below_alloc (Below.refl _ _) _), Array.getElem?_push_size⟩
theorem St.post {w0 w W : World} {g bx : Nat} {v V : Value} {o : Obj} {s : List Nat × Bool} (h : St w0 w g v bx o s W V) : EncPost w0 w g v s (.returned (.tuple #[])) W := ⟨rfl, h.2.1, V, h.1, h.2.2.1⟩
theorem St.byte {w0 w W W1 : World} {g bx : Nat} {v V V1 : Value} {c : Array Value} {s : List Nat × Bool} (h : St w0 w g v bx (.cells c 82 (0, 0)) s W V) (hbx : bx ≠ g) {b : Nat} {i : Int} (hi : i = b)
    (hm : mrow W1 w0.heap.size 5 V1 (s.1.length + 1) (u8s s.1 ++ [.int .u8 i])) (hg : W.grownBy W1 V.ownBlock) (hat : V1.ownBlock = V.ownBlock ∨ ∃ k, V1.ownBlock = some k ∧ W.heap.size ≤ k) :
    St w0 w g v bx (.cells c 82 (0, 0)) (s.1 ++ [b], s.2) (W1.setCell ⟨g, 0, none⟩ V1) V1 := by
  have hP := byte_put hi h.1 h.2.1 hm hg hat
  exact h.call hbx (s1 := (s.1 ++ [b], s.2)) hP.1 hP.2.2 hP.2.1
theorem St.c0 {w0 w W : World} {g bx : Nat} {v V : Value} {o : Obj} {s : List Nat × Bool} (h : St w0 w g v bx o s W V) : W.cell? ⟨g, 0, none⟩ = some V := blk_cell h.1.1 0
theorem St.c1 {w0 w W : World} {g bx : Nat} {v V : Value} {o : Obj} {s : List Nat × Bool} (h : St w0 w g v bx o s W V) : W.cell? ⟨g, 1, none⟩ = some (.bool s.2) := blk_cell h.1.1 1
theorem St.f0 {w0 w W : World} {g bx : Nat} {v V : Value} {o : Obj} {s : List Nat × Bool} (h : St w0 w g v bx o s W V) : W.frozen? ⟨g, 0, none⟩ = false := blk_frozen h.1.1 0
theorem mrow_sl {w : World} {base e n} {v : Value} {xs : List Value} (h : mrow w base e v n xs) : ∃ A m c, v = .slice A m c := by
  obtain ⟨A, c, h⟩ := mrow_slice h
  exact ⟨A, n, c, h⟩
theorem drewB (W : World) : Below W.heap.size W W.drew := below_drew0 (Below.refl _ _)
theorem drewNB (W : World) (n : Nat) : Below W.heap.size W (W.drewN n) := pw_below_drewN (Below.refl _ _) n
end Go.Proofs.Ytfnjbmpolggdeaa.CW
end
section
namespace Go.Proofs.Ytfnjbmpolggdeaa.CW
open Go.RowKit Go.Lib Go.Proofs.YtfnjbmpolggdeaaW.PrintWords Go.Proofs.YtfnjbmpolggdeaaW.PrintLast Go.Proofs.YtfnjbmpolggdeaaW.PrintMore
set_option linter.unusedVariables false
set_option linter.unusedSimpArgs false
attribute [local go_sem] max2_int min2_int max_two min_two max_three min_three max_four min_four
def oneF2 (x0 x1 : Int) (x2 : Bool) (x3 x4 x5 : Int) (x6 x7 : List Int) (s : List Nat × Bool) : List Nat × Bool := sgnS x3 1 (tgtS x7 0 (opS x1 x2 s))
set_option maxHeartbeats 8000000 in
set_option maxRecDepth 100000 in
theorem one_f2 (w0 w : World) (g : Nat) (v : Value) (s : List Nat × Bool) (x0 x1 : Int) (x2 : Bool) (x3 x4 x5 : Int) (A6 : Option Addr) (c6 : Nat) (x6 : List Int) (A7 : Option Addr) (c7 : Nat) (x7 : List Int) (hx1 : 0 ≤ x1 ∧ x1 < 256) (hW : BW w0.heap.size w g 114 (ewC s.2) v s.1) (hB : Below w0.heap.size w0 w) (hl : s.1.length + 100 ≤ 140737488355328) :
    Calls Try.prog 79 #[.pointer (some ⟨g, 0, none⟩), .agg #[.int .i64 x0, .int .u8 x1, .bool x2, .int .i64 x3, .int .i64 x4, .int .i64 x5, .slice A6 x6.length c6, .slice A7 x7.length c7], .int .i64 2] w (EncPost w0 w g v (oneF2 x0 x1 x2 x3 x4 x5 x6 x7 s)) := by
  unfold oneF2
  have HX1 := Lib.hid hx1
  have HW := Lib.hid hW
  have HB := Lib.hid hB
  have HL := Lib.hid hl
  clear hx1 hW hB hl
  cases x2 with
  | false =>
    have H0 := Lib.hid (St.start (c := #[.int .i64 x0, .int .u8 x1, .bool false, .int .i64 x3, .int .i64 x4, .int .i64 x5, .slice A6 x6.length c6, .slice A7 x7.length c7]) HW.out HB.out)
    have HG := Lib.hid (show w.heap.size ≠ g by have := HW.out.lt; omega)
    obtain ⟨b0_0, b1_0, b2_0, b3_0, b4_0, b5_0, b6_0, b7_0⟩ := box8 H0.out.2.2.2
    have c0_0 := H0.out.c0
    have c1_0 := H0.out.c1
    have f0_0 := H0.out.f0
    go_enter Try.func79, Try.ntmps79
    go_wp2_with fail
    generalize w.alloc (.cells #[.int .i64 x0, .int .u8 x1, .bool false, .int .i64 x3, .int .i64 x4, .int .i64 x5, .slice A6 x6.length c6, .slice A7 x7.length c7] 82) = W0 at *
    have ca : ∀ o, (W0.alloc o).cell? ⟨g, 0, none⟩ = some _ := fun o => pw_cell_below (below_alloc (Below.refl _ _) o) c0_0
    have cb : ∀ o, (W0.alloc o).cell? ⟨w.heap.size, 1, none⟩ = some _ := fun o => pw_cell_below (below_alloc (Below.refl _ _) o) b1_0
    go_region_law (first | (refine elem_step (by rfl) (.tmp 22) (.tmp 25) 87 rfl Try.underlying87 w0.heap.size (H0.out.1.below (drewB _)).2.2 rfl x1 1 (by first | rfl | (go_simp; done) | (simp [World.alloc]; done)) (by have := HL.out; omega) (Nat.le_trans H0.out.2.1.size (drewB _).size) ?_ rfl; intro v9 w9 hm9 hg9 hat9; obtain ⟨A9, m9, c9, rfl⟩ := mrow_sl hm9; have k9 := ew_cell hg9 (H0.out.1.below (drewB _)); have k8 := ew_frozen hg9 (H0.out.1.below (drewB _))))
    all_goals
      have H9 := Lib.hid ((H0.out.quiet HG.out (drewB _)).byte HG.out (b := x1.toNat) (by have := HX1.out; omega) hm9 hg9 hat9)
      clear b0_0 b1_0 b2_0 b3_0 b4_0 b5_0 b6_0 b7_0 c0_0 c1_0 f0_0
      clear hm9 hg9 hat9 k9 k8 ca cb H0
      generalize w9.setCell ⟨g, 0, none⟩ _ = W9 at *
      obtain ⟨b0_9, b1_9, b2_9, b3_9, b4_9, b5_9, b6_9, b7_9⟩ := box8 H9.out.2.2.2
      have c0_9 := H9.out.c0
      have c1_9 := H9.out.c1
      have f0_9 := H9.out.f0
      go_wp2_with fail
      refine (targets_any w0 _ g _ (opS x1 false s) x0 x1 false x3 x4 x5 A6 c6 x6 A7 c7 x7 0 H9.out.1 H9.out.2.1).mono ?_
      rintro e10 w10 ⟨rfl, hb10, hw10, hs10⟩
      have H10 := Lib.hid (H9.out.call HG.out hw10 hb10 hs10)
      clear b0_9 b1_9 b2_9 b3_9 b4_9 b5_9 b6_9 b7_9 c0_9 c1_9 f0_9
      clear hb10 hw10 hs10 H9
      obtain ⟨b0_10, b1_10, b2_10, b3_10, b4_10, b5_10, b6_10, b7_10⟩ := box8 H10.out.2.2.2
      have c0_10 := H10.out.c0
      have c1_10 := H10.out.c1
      have f0_10 := H10.out.f0
      go_wp2_with fail
      refine (signed_any w0 _ g _ (tgtS x7 0 (opS x1 false s)) x3 1 1 rfl (by omega) H10.out.1 H10.out.2.1 (by have := HL.out; simp only [opS, tgtS, sgnS, unsS, putS, Bool.false_eq_true, ↓reduceIte, List.length_append, List.length_cons, List.length_nil, bigB_length]; omega)).mono ?_
      rintro e11 w11 ⟨rfl, hb11, v11, hw11, hs11⟩
      have H11 := Lib.hid (H10.out.call HG.out hw11 hb11 hs11)
      clear b0_10 b1_10 b2_10 b3_10 b4_10 b5_10 b6_10 b7_10 c0_10 c1_10 f0_10
      clear hb11 hw11 hs11 H10
      obtain ⟨b0_11, b1_11, b2_11, b3_11, b4_11, b5_11, b6_11, b7_11⟩ := box8 H11.out.2.2.2
      have c0_11 := H11.out.c0
      have c1_11 := H11.out.c1
      have f0_11 := H11.out.f0
      go_wp2
      go_end0
      exact H11.out.post
  | true =>
    have H0 := Lib.hid (St.start (c := #[.int .i64 x0, .int .u8 x1, .bool true, .int .i64 x3, .int .i64 x4, .int .i64 x5, .slice A6 x6.length c6, .slice A7 x7.length c7]) HW.out HB.out)
    have HG := Lib.hid (show w.heap.size ≠ g by have := HW.out.lt; omega)
    obtain ⟨b0_0, b1_0, b2_0, b3_0, b4_0, b5_0, b6_0, b7_0⟩ := box8 H0.out.2.2.2
    have c0_0 := H0.out.c0
    have c1_0 := H0.out.c1
    have f0_0 := H0.out.f0
    go_enter Try.func79, Try.ntmps79
    go_wp2_with (at_builtin; refine app_e rfl _ _ 87 rfl Try.underlying87 w0.heap.size H0.out.1.2.2 rfl 196 1 (by first | rfl | (go_simp; done) | (simp [World.alloc]; done)) (by have := HL.out; omega) H0.out.2.1.size ?_ rfl; intro v1 w1 hm1 hg1 hat1; obtain ⟨A1, m1, c1, rfl⟩ := mrow_sl hm1; have k0 := ew_cell hg1 H0.out.1; have k1 := ew_frozen hg1 H0.out.1)
    have H1 := Lib.hid (H0.out.byte HG.out (b := 196) rfl hm1 hg1 hat1)
    clear b0_0 b1_0 b2_0 b3_0 b4_0 b5_0 b6_0 b7_0 c0_0 c1_0 f0_0
    clear hm1 hg1 hat1 k0 k1 H0
    generalize w1.setCell ⟨g, 0, none⟩ _ = W1 at *
    obtain ⟨b0_1, b1_1, b2_1, b3_1, b4_1, b5_1, b6_1, b7_1⟩ := box8 H1.out.2.2.2
    have c0_1 := H1.out.c0
    have c1_1 := H1.out.c1
    have f0_1 := H1.out.f0
    have ca : ∀ o, (W1.alloc o).cell? ⟨g, 0, none⟩ = some _ := fun o => pw_cell_below (below_alloc (Below.refl _ _) o) c0_1
    have cb : ∀ o, (W1.alloc o).cell? ⟨w.heap.size, 1, none⟩ = some _ := fun o => pw_cell_below (below_alloc (Below.refl _ _) o) b1_1
    go_region_law (first | (refine elem_step (by rfl) (.tmp 22) (.tmp 25) 87 rfl Try.underlying87 w0.heap.size (H1.out.1.below (drewB _)).2.2 rfl x1 1 (by first | rfl | (go_simp; done) | (simp [World.alloc]; done)) (by have := HL.out; simp only [List.length_append, List.length_cons, List.length_nil]; omega) (Nat.le_trans H1.out.2.1.size (drewB _).size) ?_ rfl; intro v9 w9 hm9 hg9 hat9; obtain ⟨A9, m9, c9, rfl⟩ := mrow_sl hm9; have k9 := ew_cell hg9 (H1.out.1.below (drewB _)); have k8 := ew_frozen hg9 (H1.out.1.below (drewB _))))
    all_goals
      have H9 := Lib.hid ((H1.out.quiet HG.out (drewB _)).byte HG.out (b := x1.toNat) (by have := HX1.out; omega) hm9 hg9 hat9)
      clear b0_1 b1_1 b2_1 b3_1 b4_1 b5_1 b6_1 b7_1 c0_1 c1_1 f0_1
      clear hm9 hg9 hat9 k9 k8 ca cb H1
      generalize w9.setCell ⟨g, 0, none⟩ _ = W9 at *
      obtain ⟨b0_9, b1_9, b2_9, b3_9, b4_9, b5_9, b6_9, b7_9⟩ := box8 H9.out.2.2.2
      have c0_9 := H9.out.c0
      have c1_9 := H9.out.c1
      have f0_9 := H9.out.f0
      go_wp2_with fail
      refine (targets_any w0 _ g _ (opS x1 true s) x0 x1 true x3 x4 x5 A6 c6 x6 A7 c7 x7 0 H9.out.1 H9.out.2.1).mono ?_
      rintro e10 w10 ⟨rfl, hb10, hw10, hs10⟩
      have H10 := Lib.hid (H9.out.call HG.out hw10 hb10 hs10)
      clear b0_9 b1_9 b2_9 b3_9 b4_9 b5_9 b6_9 b7_9 c0_9 c1_9 f0_9
      clear hb10 hw10 hs10 H9
      obtain ⟨b0_10, b1_10, b2_10, b3_10, b4_10, b5_10, b6_10, b7_10⟩ := box8 H10.out.2.2.2
      have c0_10 := H10.out.c0
      have c1_10 := H10.out.c1
      have f0_10 := H10.out.f0
      go_wp2_with fail
      refine (signed_any w0 _ g _ (tgtS x7 0 (opS x1 true s)) x3 1 1 rfl (by omega) H10.out.1 H10.out.2.1 (by have := HL.out; simp only [opS, tgtS, sgnS, unsS, putS, Bool.false_eq_true, ↓reduceIte, List.length_append, List.length_cons, List.length_nil, bigB_length]; omega)).mono ?_
      rintro e11 w11 ⟨rfl, hb11, v11, hw11, hs11⟩
      have H11 := Lib.hid (H10.out.call HG.out hw11 hb11 hs11)
      clear b0_10 b1_10 b2_10 b3_10 b4_10 b5_10 b6_10 b7_10 c0_10 c1_10 f0_10
      clear hb11 hw11 hs11 H10
      obtain ⟨b0_11, b1_11, b2_11, b3_11, b4_11, b5_11, b6_11, b7_11⟩ := box8 H11.out.2.2.2
      have c0_11 := H11.out.c0
      have c1_11 := H11.out.c1
      have f0_11 := H11.out.f0
      go_wp2
      go_end0
      exact H11.out.post
def oneF3 (x0 x1 : Int) (x2 : Bool) (x3 x4 x5 : Int) (x6 x7 : List Int) (s : List Nat × Bool) : List Nat × Bool := sgnS x3 2 (tgtS x7 0 (opS x1 x2 s))
set_option maxHeartbeats 8000000 in
set_option maxRecDepth 100000 in
theorem one_f3 (w0 w : World) (g : Nat) (v : Value) (s : List Nat × Bool) (x0 x1 : Int) (x2 : Bool) (x3 x4 x5 : Int) (A6 : Option Addr) (c6 : Nat) (x6 : List Int) (A7 : Option Addr) (c7 : Nat) (x7 : List Int) (hx1 : 0 ≤ x1 ∧ x1 < 256) (hW : BW w0.heap.size w g 114 (ewC s.2) v s.1) (hB : Below w0.heap.size w0 w) (hl : s.1.length + 100 ≤ 140737488355328) :
    Calls Try.prog 79 #[.pointer (some ⟨g, 0, none⟩), .agg #[.int .i64 x0, .int .u8 x1, .bool x2, .int .i64 x3, .int .i64 x4, .int .i64 x5, .slice A6 x6.length c6, .slice A7 x7.length c7], .int .i64 3] w (EncPost w0 w g v (oneF3 x0 x1 x2 x3 x4 x5 x6 x7 s)) := by
  unfold oneF3
  have HX1 := Lib.hid hx1
  have HW := Lib.hid hW
  have HB := Lib.hid hB
  have HL := Lib.hid hl
  clear hx1 hW hB hl
  cases x2 with
  | false =>
    have H0 := Lib.hid (St.start (c := #[.int .i64 x0, .int .u8 x1, .bool false, .int .i64 x3, .int .i64 x4, .int .i64 x5, .slice A6 x6.length c6, .slice A7 x7.length c7]) HW.out HB.out)
    have HG := Lib.hid (show w.heap.size ≠ g by have := HW.out.lt; omega)
    obtain ⟨b0_0, b1_0, b2_0, b3_0, b4_0, b5_0, b6_0, b7_0⟩ := box8 H0.out.2.2.2
    have c0_0 := H0.out.c0
    have c1_0 := H0.out.c1
    have f0_0 := H0.out.f0
    go_enter Try.func79, Try.ntmps79
    go_wp2_with fail
    generalize w.alloc (.cells #[.int .i64 x0, .int .u8 x1, .bool false, .int .i64 x3, .int .i64 x4, .int .i64 x5, .slice A6 x6.length c6, .slice A7 x7.length c7] 82) = W0 at *
    have ca : ∀ o, (W0.alloc o).cell? ⟨g, 0, none⟩ = some _ := fun o => pw_cell_below (below_alloc (Below.refl _ _) o) c0_0
    have cb : ∀ o, (W0.alloc o).cell? ⟨w.heap.size, 1, none⟩ = some _ := fun o => pw_cell_below (below_alloc (Below.refl _ _) o) b1_0
    go_region_law (first | (refine elem_step (by rfl) (.tmp 22) (.tmp 25) 87 rfl Try.underlying87 w0.heap.size (H0.out.1.below (drewB _)).2.2 rfl x1 1 (by first | rfl | (go_simp; done) | (simp [World.alloc]; done)) (by have := HL.out; omega) (Nat.le_trans H0.out.2.1.size (drewB _).size) ?_ rfl; intro v9 w9 hm9 hg9 hat9; obtain ⟨A9, m9, c9, rfl⟩ := mrow_sl hm9; have k9 := ew_cell hg9 (H0.out.1.below (drewB _)); have k8 := ew_frozen hg9 (H0.out.1.below (drewB _))))
    all_goals
      have H9 := Lib.hid ((H0.out.quiet HG.out (drewB _)).byte HG.out (b := x1.toNat) (by have := HX1.out; omega) hm9 hg9 hat9)
      clear b0_0 b1_0 b2_0 b3_0 b4_0 b5_0 b6_0 b7_0 c0_0 c1_0 f0_0
      clear hm9 hg9 hat9 k9 k8 ca cb H0
      generalize w9.setCell ⟨g, 0, none⟩ _ = W9 at *
      obtain ⟨b0_9, b1_9, b2_9, b3_9, b4_9, b5_9, b6_9, b7_9⟩ := box8 H9.out.2.2.2
      have c0_9 := H9.out.c0
      have c1_9 := H9.out.c1
      have f0_9 := H9.out.f0
      go_wp2_with fail
      refine (targets_any w0 _ g _ (opS x1 false s) x0 x1 false x3 x4 x5 A6 c6 x6 A7 c7 x7 0 H9.out.1 H9.out.2.1).mono ?_
      rintro e10 w10 ⟨rfl, hb10, hw10, hs10⟩
      have H10 := Lib.hid (H9.out.call HG.out hw10 hb10 hs10)
      clear b0_9 b1_9 b2_9 b3_9 b4_9 b5_9 b6_9 b7_9 c0_9 c1_9 f0_9
      clear hb10 hw10 hs10 H9
      obtain ⟨b0_10, b1_10, b2_10, b3_10, b4_10, b5_10, b6_10, b7_10⟩ := box8 H10.out.2.2.2
      have c0_10 := H10.out.c0
      have c1_10 := H10.out.c1
      have f0_10 := H10.out.f0
      go_wp2_with fail
      refine (signed_any w0 _ g _ (tgtS x7 0 (opS x1 false s)) x3 2 2 rfl (by omega) H10.out.1 H10.out.2.1 (by have := HL.out; simp only [opS, tgtS, sgnS, unsS, putS, Bool.false_eq_true, ↓reduceIte, List.length_append, List.length_cons, List.length_nil, bigB_length]; omega)).mono ?_
      rintro e11 w11 ⟨rfl, hb11, v11, hw11, hs11⟩
      have H11 := Lib.hid (H10.out.call HG.out hw11 hb11 hs11)
      clear b0_10 b1_10 b2_10 b3_10 b4_10 b5_10 b6_10 b7_10 c0_10 c1_10 f0_10
      clear hb11 hw11 hs11 H10
      obtain ⟨b0_11, b1_11, b2_11, b3_11, b4_11, b5_11, b6_11, b7_11⟩ := box8 H11.out.2.2.2
      have c0_11 := H11.out.c0
      have c1_11 := H11.out.c1
      have f0_11 := H11.out.f0
      go_wp2
      go_end0
      exact H11.out.post
  | true =>
    have H0 := Lib.hid (St.start (c := #[.int .i64 x0, .int .u8 x1, .bool true, .int .i64 x3, .int .i64 x4, .int .i64 x5, .slice A6 x6.length c6, .slice A7 x7.length c7]) HW.out HB.out)
    have HG := Lib.hid (show w.heap.size ≠ g by have := HW.out.lt; omega)
    obtain ⟨b0_0, b1_0, b2_0, b3_0, b4_0, b5_0, b6_0, b7_0⟩ := box8 H0.out.2.2.2
    have c0_0 := H0.out.c0
    have c1_0 := H0.out.c1
    have f0_0 := H0.out.f0
    go_enter Try.func79, Try.ntmps79
    go_wp2_with (at_builtin; refine app_e rfl _ _ 87 rfl Try.underlying87 w0.heap.size H0.out.1.2.2 rfl 196 1 (by first | rfl | (go_simp; done) | (simp [World.alloc]; done)) (by have := HL.out; omega) H0.out.2.1.size ?_ rfl; intro v1 w1 hm1 hg1 hat1; obtain ⟨A1, m1, c1, rfl⟩ := mrow_sl hm1; have k0 := ew_cell hg1 H0.out.1; have k1 := ew_frozen hg1 H0.out.1)
    have H1 := Lib.hid (H0.out.byte HG.out (b := 196) rfl hm1 hg1 hat1)
    clear b0_0 b1_0 b2_0 b3_0 b4_0 b5_0 b6_0 b7_0 c0_0 c1_0 f0_0
    clear hm1 hg1 hat1 k0 k1 H0
    generalize w1.setCell ⟨g, 0, none⟩ _ = W1 at *
    obtain ⟨b0_1, b1_1, b2_1, b3_1, b4_1, b5_1, b6_1, b7_1⟩ := box8 H1.out.2.2.2
    have c0_1 := H1.out.c0
    have c1_1 := H1.out.c1
    have f0_1 := H1.out.f0
    have ca : ∀ o, (W1.alloc o).cell? ⟨g, 0, none⟩ = some _ := fun o => pw_cell_below (below_alloc (Below.refl _ _) o) c0_1
    have cb : ∀ o, (W1.alloc o).cell? ⟨w.heap.size, 1, none⟩ = some _ := fun o => pw_cell_below (below_alloc (Below.refl _ _) o) b1_1
    go_region_law (first | (refine elem_step (by rfl) (.tmp 22) (.tmp 25) 87 rfl Try.underlying87 w0.heap.size (H1.out.1.below (drewB _)).2.2 rfl x1 1 (by first | rfl | (go_simp; done) | (simp [World.alloc]; done)) (by have := HL.out; simp only [List.length_append, List.length_cons, List.length_nil]; omega) (Nat.le_trans H1.out.2.1.size (drewB _).size) ?_ rfl; intro v9 w9 hm9 hg9 hat9; obtain ⟨A9, m9, c9, rfl⟩ := mrow_sl hm9; have k9 := ew_cell hg9 (H1.out.1.below (drewB _)); have k8 := ew_frozen hg9 (H1.out.1.below (drewB _))))
    all_goals
      have H9 := Lib.hid ((H1.out.quiet HG.out (drewB _)).byte HG.out (b := x1.toNat) (by have := HX1.out; omega) hm9 hg9 hat9)
      clear b0_1 b1_1 b2_1 b3_1 b4_1 b5_1 b6_1 b7_1 c0_1 c1_1 f0_1
      clear hm9 hg9 hat9 k9 k8 ca cb H1
      generalize w9.setCell ⟨g, 0, none⟩ _ = W9 at *
      obtain ⟨b0_9, b1_9, b2_9, b3_9, b4_9, b5_9, b6_9, b7_9⟩ := box8 H9.out.2.2.2
      have c0_9 := H9.out.c0
      have c1_9 := H9.out.c1
      have f0_9 := H9.out.f0
      go_wp2_with fail
      refine (targets_any w0 _ g _ (opS x1 true s) x0 x1 true x3 x4 x5 A6 c6 x6 A7 c7 x7 0 H9.out.1 H9.out.2.1).mono ?_
      rintro e10 w10 ⟨rfl, hb10, hw10, hs10⟩
      have H10 := Lib.hid (H9.out.call HG.out hw10 hb10 hs10)
      clear b0_9 b1_9 b2_9 b3_9 b4_9 b5_9 b6_9 b7_9 c0_9 c1_9 f0_9
      clear hb10 hw10 hs10 H9
      obtain ⟨b0_10, b1_10, b2_10, b3_10, b4_10, b5_10, b6_10, b7_10⟩ := box8 H10.out.2.2.2
      have c0_10 := H10.out.c0
      have c1_10 := H10.out.c1
      have f0_10 := H10.out.f0
      go_wp2_with fail
      refine (signed_any w0 _ g _ (tgtS x7 0 (opS x1 true s)) x3 2 2 rfl (by omega) H10.out.1 H10.out.2.1 (by have := HL.out; simp only [opS, tgtS, sgnS, unsS, putS, Bool.false_eq_true, ↓reduceIte, List.length_append, List.length_cons, List.length_nil, bigB_length]; omega)).mono ?_
      rintro e11 w11 ⟨rfl, hb11, v11, hw11, hs11⟩
      have H11 := Lib.hid (H10.out.call HG.out hw11 hb11 hs11)
      clear b0_10 b1_10 b2_10 b3_10 b4_10 b5_10 b6_10 b7_10 c0_10 c1_10 f0_10
      clear hb11 hw11 hs11 H10
      obtain ⟨b0_11, b1_11, b2_11, b3_11, b4_11, b5_11, b6_11, b7_11⟩ := box8 H11.out.2.2.2
      have c0_11 := H11.out.c0
      have c1_11 := H11.out.c1
      have f0_11 := H11.out.f0
      go_wp2
      go_end0
      exact H11.out.post
def oneF4 (x0 x1 : Int) (x2 : Bool) (x3 x4 x5 : Int) (x6 x7 : List Int) (s : List Nat × Bool) : List Nat × Bool := unsS x3 1 (tgtS x7 0 (opS x1 x2 s))
set_option maxHeartbeats 8000000 in
set_option maxRecDepth 100000 in
theorem one_f4 (w0 w : World) (g : Nat) (v : Value) (s : List Nat × Bool) (x0 x1 : Int) (x2 : Bool) (x3 x4 x5 : Int) (A6 : Option Addr) (c6 : Nat) (x6 : List Int) (A7 : Option Addr) (c7 : Nat) (x7 : List Int) (hx1 : 0 ≤ x1 ∧ x1 < 256) (hW : BW w0.heap.size w g 114 (ewC s.2) v s.1) (hB : Below w0.heap.size w0 w) (hl : s.1.length + 100 ≤ 140737488355328) :
    Calls Try.prog 79 #[.pointer (some ⟨g, 0, none⟩), .agg #[.int .i64 x0, .int .u8 x1, .bool x2, .int .i64 x3, .int .i64 x4, .int .i64 x5, .slice A6 x6.length c6, .slice A7 x7.length c7], .int .i64 4] w (EncPost w0 w g v (oneF4 x0 x1 x2 x3 x4 x5 x6 x7 s)) := by
  unfold oneF4
  have HX1 := Lib.hid hx1
  have HW := Lib.hid hW
  have HB := Lib.hid hB
  have HL := Lib.hid hl
  clear hx1 hW hB hl
  cases x2 with
  | false =>
    have H0 := Lib.hid (St.start (c := #[.int .i64 x0, .int .u8 x1, .bool false, .int .i64 x3, .int .i64 x4, .int .i64 x5, .slice A6 x6.length c6, .slice A7 x7.length c7]) HW.out HB.out)
    have HG := Lib.hid (show w.heap.size ≠ g by have := HW.out.lt; omega)
    obtain ⟨b0_0, b1_0, b2_0, b3_0, b4_0, b5_0, b6_0, b7_0⟩ := box8 H0.out.2.2.2
    have c0_0 := H0.out.c0
    have c1_0 := H0.out.c1
    have f0_0 := H0.out.f0
    go_enter Try.func79, Try.ntmps79
    go_wp2_with fail
    generalize w.alloc (.cells #[.int .i64 x0, .int .u8 x1, .bool false, .int .i64 x3, .int .i64 x4, .int .i64 x5, .slice A6 x6.length c6, .slice A7 x7.length c7] 82) = W0 at *
    have ca : ∀ o, (W0.alloc o).cell? ⟨g, 0, none⟩ = some _ := fun o => pw_cell_below (below_alloc (Below.refl _ _) o) c0_0
    have cb : ∀ o, (W0.alloc o).cell? ⟨w.heap.size, 1, none⟩ = some _ := fun o => pw_cell_below (below_alloc (Below.refl _ _) o) b1_0
    go_region_law (first | (refine elem_step (by rfl) (.tmp 22) (.tmp 25) 87 rfl Try.underlying87 w0.heap.size (H0.out.1.below (drewB _)).2.2 rfl x1 1 (by first | rfl | (go_simp; done) | (simp [World.alloc]; done)) (by have := HL.out; omega) (Nat.le_trans H0.out.2.1.size (drewB _).size) ?_ rfl; intro v9 w9 hm9 hg9 hat9; obtain ⟨A9, m9, c9, rfl⟩ := mrow_sl hm9; have k9 := ew_cell hg9 (H0.out.1.below (drewB _)); have k8 := ew_frozen hg9 (H0.out.1.below (drewB _))))
    all_goals
      have H9 := Lib.hid ((H0.out.quiet HG.out (drewB _)).byte HG.out (b := x1.toNat) (by have := HX1.out; omega) hm9 hg9 hat9)
      clear b0_0 b1_0 b2_0 b3_0 b4_0 b5_0 b6_0 b7_0 c0_0 c1_0 f0_0
      clear hm9 hg9 hat9 k9 k8 ca cb H0
      generalize w9.setCell ⟨g, 0, none⟩ _ = W9 at *
      obtain ⟨b0_9, b1_9, b2_9, b3_9, b4_9, b5_9, b6_9, b7_9⟩ := box8 H9.out.2.2.2
      have c0_9 := H9.out.c0
      have c1_9 := H9.out.c1
      have f0_9 := H9.out.f0
      go_wp2_with fail
      refine (targets_any w0 _ g _ (opS x1 false s) x0 x1 false x3 x4 x5 A6 c6 x6 A7 c7 x7 0 H9.out.1 H9.out.2.1).mono ?_
      rintro e10 w10 ⟨rfl, hb10, hw10, hs10⟩
      have H10 := Lib.hid (H9.out.call HG.out hw10 hb10 hs10)
      clear b0_9 b1_9 b2_9 b3_9 b4_9 b5_9 b6_9 b7_9 c0_9 c1_9 f0_9
      clear hb10 hw10 hs10 H9
      obtain ⟨b0_10, b1_10, b2_10, b3_10, b4_10, b5_10, b6_10, b7_10⟩ := box8 H10.out.2.2.2
      have c0_10 := H10.out.c0
      have c1_10 := H10.out.c1
      have f0_10 := H10.out.f0
      go_wp2_with fail
      refine (unsigned_any w0 _ g _ (tgtS x7 0 (opS x1 false s)) x3 1 1 rfl (by omega) H10.out.1 H10.out.2.1 (by have := HL.out; simp only [opS, tgtS, sgnS, unsS, putS, Bool.false_eq_true, ↓reduceIte, List.length_append, List.length_cons, List.length_nil, bigB_length]; omega)).mono ?_
      rintro e11 w11 ⟨rfl, hb11, v11, hw11, hs11⟩
      have H11 := Lib.hid (H10.out.call HG.out hw11 hb11 hs11)
      clear b0_10 b1_10 b2_10 b3_10 b4_10 b5_10 b6_10 b7_10 c0_10 c1_10 f0_10
      clear hb11 hw11 hs11 H10
      obtain ⟨b0_11, b1_11, b2_11, b3_11, b4_11, b5_11, b6_11, b7_11⟩ := box8 H11.out.2.2.2
      have c0_11 := H11.out.c0
      have c1_11 := H11.out.c1
      have f0_11 := H11.out.f0
      go_wp2
      go_end0
      exact H11.out.post
  | true =>
    have H0 := Lib.hid (St.start (c := #[.int .i64 x0, .int .u8 x1, .bool true, .int .i64 x3, .int .i64 x4, .int .i64 x5, .slice A6 x6.length c6, .slice A7 x7.length c7]) HW.out HB.out)
    have HG := Lib.hid (show w.heap.size ≠ g by have := HW.out.lt; omega)
    obtain ⟨b0_0, b1_0, b2_0, b3_0, b4_0, b5_0, b6_0, b7_0⟩ := box8 H0.out.2.2.2
    have c0_0 := H0.out.c0
    have c1_0 := H0.out.c1
    have f0_0 := H0.out.f0
    go_enter Try.func79, Try.ntmps79
    go_wp2_with (at_builtin; refine app_e rfl _ _ 87 rfl Try.underlying87 w0.heap.size H0.out.1.2.2 rfl 196 1 (by first | rfl | (go_simp; done) | (simp [World.alloc]; done)) (by have := HL.out; omega) H0.out.2.1.size ?_ rfl; intro v1 w1 hm1 hg1 hat1; obtain ⟨A1, m1, c1, rfl⟩ := mrow_sl hm1; have k0 := ew_cell hg1 H0.out.1; have k1 := ew_frozen hg1 H0.out.1)
    have H1 := Lib.hid (H0.out.byte HG.out (b := 196) rfl hm1 hg1 hat1)
    clear b0_0 b1_0 b2_0 b3_0 b4_0 b5_0 b6_0 b7_0 c0_0 c1_0 f0_0
    clear hm1 hg1 hat1 k0 k1 H0
    generalize w1.setCell ⟨g, 0, none⟩ _ = W1 at *
    obtain ⟨b0_1, b1_1, b2_1, b3_1, b4_1, b5_1, b6_1, b7_1⟩ := box8 H1.out.2.2.2
    have c0_1 := H1.out.c0
    have c1_1 := H1.out.c1
    have f0_1 := H1.out.f0
    have ca : ∀ o, (W1.alloc o).cell? ⟨g, 0, none⟩ = some _ := fun o => pw_cell_below (below_alloc (Below.refl _ _) o) c0_1
    have cb : ∀ o, (W1.alloc o).cell? ⟨w.heap.size, 1, none⟩ = some _ := fun o => pw_cell_below (below_alloc (Below.refl _ _) o) b1_1
    go_region_law (first | (refine elem_step (by rfl) (.tmp 22) (.tmp 25) 87 rfl Try.underlying87 w0.heap.size (H1.out.1.below (drewB _)).2.2 rfl x1 1 (by first | rfl | (go_simp; done) | (simp [World.alloc]; done)) (by have := HL.out; simp only [List.length_append, List.length_cons, List.length_nil]; omega) (Nat.le_trans H1.out.2.1.size (drewB _).size) ?_ rfl; intro v9 w9 hm9 hg9 hat9; obtain ⟨A9, m9, c9, rfl⟩ := mrow_sl hm9; have k9 := ew_cell hg9 (H1.out.1.below (drewB _)); have k8 := ew_frozen hg9 (H1.out.1.below (drewB _))))
    all_goals
      have H9 := Lib.hid ((H1.out.quiet HG.out (drewB _)).byte HG.out (b := x1.toNat) (by have := HX1.out; omega) hm9 hg9 hat9)
      clear b0_1 b1_1 b2_1 b3_1 b4_1 b5_1 b6_1 b7_1 c0_1 c1_1 f0_1
      clear hm9 hg9 hat9 k9 k8 ca cb H1
      generalize w9.setCell ⟨g, 0, none⟩ _ = W9 at *
      obtain ⟨b0_9, b1_9, b2_9, b3_9, b4_9, b5_9, b6_9, b7_9⟩ := box8 H9.out.2.2.2
      have c0_9 := H9.out.c0
      have c1_9 := H9.out.c1
      have f0_9 := H9.out.f0
      go_wp2_with fail
      refine (targets_any w0 _ g _ (opS x1 true s) x0 x1 true x3 x4 x5 A6 c6 x6 A7 c7 x7 0 H9.out.1 H9.out.2.1).mono ?_
      rintro e10 w10 ⟨rfl, hb10, hw10, hs10⟩
      have H10 := Lib.hid (H9.out.call HG.out hw10 hb10 hs10)
      clear b0_9 b1_9 b2_9 b3_9 b4_9 b5_9 b6_9 b7_9 c0_9 c1_9 f0_9
      clear hb10 hw10 hs10 H9
      obtain ⟨b0_10, b1_10, b2_10, b3_10, b4_10, b5_10, b6_10, b7_10⟩ := box8 H10.out.2.2.2
      have c0_10 := H10.out.c0
      have c1_10 := H10.out.c1
      have f0_10 := H10.out.f0
      go_wp2_with fail
      refine (unsigned_any w0 _ g _ (tgtS x7 0 (opS x1 true s)) x3 1 1 rfl (by omega) H10.out.1 H10.out.2.1 (by have := HL.out; simp only [opS, tgtS, sgnS, unsS, putS, Bool.false_eq_true, ↓reduceIte, List.length_append, List.length_cons, List.length_nil, bigB_length]; omega)).mono ?_
      rintro e11 w11 ⟨rfl, hb11, v11, hw11, hs11⟩
      have H11 := Lib.hid (H10.out.call HG.out hw11 hb11 hs11)
      clear b0_10 b1_10 b2_10 b3_10 b4_10 b5_10 b6_10 b7_10 c0_10 c1_10 f0_10
      clear hb11 hw11 hs11 H10
      obtain ⟨b0_11, b1_11, b2_11, b3_11, b4_11, b5_11, b6_11, b7_11⟩ := box8 H11.out.2.2.2
      have c0_11 := H11.out.c0
      have c1_11 := H11.out.c1
      have f0_11 := H11.out.f0
      go_wp2
      go_end0
      exact H11.out.post
def oneF5 (x0 x1 : Int) (x2 : Bool) (x3 x4 x5 : Int) (x6 x7 : List Int) (s : List Nat × Bool) : List Nat × Bool := unsS x3 2 (tgtS x7 0 (opS x1 x2 s))
set_option maxHeartbeats 8000000 in
set_option maxRecDepth 100000 in
theorem one_f5 (w0 w : World) (g : Nat) (v : Value) (s : List Nat × Bool) (x0 x1 : Int) (x2 : Bool) (x3 x4 x5 : Int) (A6 : Option Addr) (c6 : Nat) (x6 : List Int) (A7 : Option Addr) (c7 : Nat) (x7 : List Int) (hx1 : 0 ≤ x1 ∧ x1 < 256) (hW : BW w0.heap.size w g 114 (ewC s.2) v s.1) (hB : Below w0.heap.size w0 w) (hl : s.1.length + 100 ≤ 140737488355328) :
    Calls Try.prog 79 #[.pointer (some ⟨g, 0, none⟩), .agg #[.int .i64 x0, .int .u8 x1, .bool x2, .int .i64 x3, .int .i64 x4, .int .i64 x5, .slice A6 x6.length c6, .slice A7 x7.length c7], .int .i64 5] w (EncPost w0 w g v (oneF5 x0 x1 x2 x3 x4 x5 x6 x7 s)) := by
  unfold oneF5
  have HX1 := Lib.hid hx1
  have HW := Lib.hid hW
  have HB := Lib.hid hB
  have HL := Lib.hid hl
  clear hx1 hW hB hl
  cases x2 with
  | false =>
    have H0 := Lib.hid (St.start (c := #[.int .i64 x0, .int .u8 x1, .bool false, .int .i64 x3, .int .i64 x4, .int .i64 x5, .slice A6 x6.length c6, .slice A7 x7.length c7]) HW.out HB.out)
    have HG := Lib.hid (show w.heap.size ≠ g by have := HW.out.lt; omega)
    obtain ⟨b0_0, b1_0, b2_0, b3_0, b4_0, b5_0, b6_0, b7_0⟩ := box8 H0.out.2.2.2
    have c0_0 := H0.out.c0
    have c1_0 := H0.out.c1
    have f0_0 := H0.out.f0
    go_enter Try.func79, Try.ntmps79
    go_wp2_with fail
    generalize w.alloc (.cells #[.int .i64 x0, .int .u8 x1, .bool false, .int .i64 x3, .int .i64 x4, .int .i64 x5, .slice A6 x6.length c6, .slice A7 x7.length c7] 82) = W0 at *
    have ca : ∀ o, (W0.alloc o).cell? ⟨g, 0, none⟩ = some _ := fun o => pw_cell_below (below_alloc (Below.refl _ _) o) c0_0
    have cb : ∀ o, (W0.alloc o).cell? ⟨w.heap.size, 1, none⟩ = some _ := fun o => pw_cell_below (below_alloc (Below.refl _ _) o) b1_0
    go_region_law (first | (refine elem_step (by rfl) (.tmp 22) (.tmp 25) 87 rfl Try.underlying87 w0.heap.size (H0.out.1.below (drewB _)).2.2 rfl x1 1 (by first | rfl | (go_simp; done) | (simp [World.alloc]; done)) (by have := HL.out; omega) (Nat.le_trans H0.out.2.1.size (drewB _).size) ?_ rfl; intro v9 w9 hm9 hg9 hat9; obtain ⟨A9, m9, c9, rfl⟩ := mrow_sl hm9; have k9 := ew_cell hg9 (H0.out.1.below (drewB _)); have k8 := ew_frozen hg9 (H0.out.1.below (drewB _))))
    all_goals
      have H9 := Lib.hid ((H0.out.quiet HG.out (drewB _)).byte HG.out (b := x1.toNat) (by have := HX1.out; omega) hm9 hg9 hat9)
      clear b0_0 b1_0 b2_0 b3_0 b4_0 b5_0 b6_0 b7_0 c0_0 c1_0 f0_0
      clear hm9 hg9 hat9 k9 k8 ca cb H0
      generalize w9.setCell ⟨g, 0, none⟩ _ = W9 at *
      obtain ⟨b0_9, b1_9, b2_9, b3_9, b4_9, b5_9, b6_9, b7_9⟩ := box8 H9.out.2.2.2
      have c0_9 := H9.out.c0
      have c1_9 := H9.out.c1
      have f0_9 := H9.out.f0
      go_wp2_with fail
      refine (targets_any w0 _ g _ (opS x1 false s) x0 x1 false x3 x4 x5 A6 c6 x6 A7 c7 x7 0 H9.out.1 H9.out.2.1).mono ?_
      rintro e10 w10 ⟨rfl, hb10, hw10, hs10⟩
      have H10 := Lib.hid (H9.out.call HG.out hw10 hb10 hs10)
      clear b0_9 b1_9 b2_9 b3_9 b4_9 b5_9 b6_9 b7_9 c0_9 c1_9 f0_9
      clear hb10 hw10 hs10 H9
      obtain ⟨b0_10, b1_10, b2_10, b3_10, b4_10, b5_10, b6_10, b7_10⟩ := box8 H10.out.2.2.2
      have c0_10 := H10.out.c0
      have c1_10 := H10.out.c1
      have f0_10 := H10.out.f0
      go_wp2_with fail
      refine (unsigned_any w0 _ g _ (tgtS x7 0 (opS x1 false s)) x3 2 2 rfl (by omega) H10.out.1 H10.out.2.1 (by have := HL.out; simp only [opS, tgtS, sgnS, unsS, putS, Bool.false_eq_true, ↓reduceIte, List.length_append, List.length_cons, List.length_nil, bigB_length]; omega)).mono ?_
      rintro e11 w11 ⟨rfl, hb11, v11, hw11, hs11⟩
      have H11 := Lib.hid (H10.out.call HG.out hw11 hb11 hs11)
      clear b0_10 b1_10 b2_10 b3_10 b4_10 b5_10 b6_10 b7_10 c0_10 c1_10 f0_10
      clear hb11 hw11 hs11 H10
      obtain ⟨b0_11, b1_11, b2_11, b3_11, b4_11, b5_11, b6_11, b7_11⟩ := box8 H11.out.2.2.2
      have c0_11 := H11.out.c0
      have c1_11 := H11.out.c1
      have f0_11 := H11.out.f0
      go_wp2
      go_end0
      exact H11.out.post
  | true =>
    have H0 := Lib.hid (St.start (c := #[.int .i64 x0, .int .u8 x1, .bool true, .int .i64 x3, .int .i64 x4, .int .i64 x5, .slice A6 x6.length c6, .slice A7 x7.length c7]) HW.out HB.out)
    have HG := Lib.hid (show w.heap.size ≠ g by have := HW.out.lt; omega)
    obtain ⟨b0_0, b1_0, b2_0, b3_0, b4_0, b5_0, b6_0, b7_0⟩ := box8 H0.out.2.2.2
    have c0_0 := H0.out.c0
    have c1_0 := H0.out.c1
    have f0_0 := H0.out.f0
    go_enter Try.func79, Try.ntmps79
    go_wp2_with (at_builtin; refine app_e rfl _ _ 87 rfl Try.underlying87 w0.heap.size H0.out.1.2.2 rfl 196 1 (by first | rfl | (go_simp; done) | (simp [World.alloc]; done)) (by have := HL.out; omega) H0.out.2.1.size ?_ rfl; intro v1 w1 hm1 hg1 hat1; obtain ⟨A1, m1, c1, rfl⟩ := mrow_sl hm1; have k0 := ew_cell hg1 H0.out.1; have k1 := ew_frozen hg1 H0.out.1)
    have H1 := Lib.hid (H0.out.byte HG.out (b := 196) rfl hm1 hg1 hat1)
    clear b0_0 b1_0 b2_0 b3_0 b4_0 b5_0 b6_0 b7_0 c0_0 c1_0 f0_0
    clear hm1 hg1 hat1 k0 k1 H0
    generalize w1.setCell ⟨g, 0, none⟩ _ = W1 at *
    obtain ⟨b0_1, b1_1, b2_1, b3_1, b4_1, b5_1, b6_1, b7_1⟩ := box8 H1.out.2.2.2
    have c0_1 := H1.out.c0
    have c1_1 := H1.out.c1
    have f0_1 := H1.out.f0
    have ca : ∀ o, (W1.alloc o).cell? ⟨g, 0, none⟩ = some _ := fun o => pw_cell_below (below_alloc (Below.refl _ _) o) c0_1
    have cb : ∀ o, (W1.alloc o).cell? ⟨w.heap.size, 1, none⟩ = some _ := fun o => pw_cell_below (below_alloc (Below.refl _ _) o) b1_1
    go_region_law (first | (refine elem_step (by rfl) (.tmp 22) (.tmp 25) 87 rfl Try.underlying87 w0.heap.size (H1.out.1.below (drewB _)).2.2 rfl x1 1 (by first | rfl | (go_simp; done) | (simp [World.alloc]; done)) (by have := HL.out; simp only [List.length_append, List.length_cons, List.length_nil]; omega) (Nat.le_trans H1.out.2.1.size (drewB _).size) ?_ rfl; intro v9 w9 hm9 hg9 hat9; obtain ⟨A9, m9, c9, rfl⟩ := mrow_sl hm9; have k9 := ew_cell hg9 (H1.out.1.below (drewB _)); have k8 := ew_frozen hg9 (H1.out.1.below (drewB _))))
    all_goals
      have H9 := Lib.hid ((H1.out.quiet HG.out (drewB _)).byte HG.out (b := x1.toNat) (by have := HX1.out; omega) hm9 hg9 hat9)
      clear b0_1 b1_1 b2_1 b3_1 b4_1 b5_1 b6_1 b7_1 c0_1 c1_1 f0_1
      clear hm9 hg9 hat9 k9 k8 ca cb H1
      generalize w9.setCell ⟨g, 0, none⟩ _ = W9 at *
      obtain ⟨b0_9, b1_9, b2_9, b3_9, b4_9, b5_9, b6_9, b7_9⟩ := box8 H9.out.2.2.2
      have c0_9 := H9.out.c0
      have c1_9 := H9.out.c1
      have f0_9 := H9.out.f0
      go_wp2_with fail
      refine (targets_any w0 _ g _ (opS x1 true s) x0 x1 true x3 x4 x5 A6 c6 x6 A7 c7 x7 0 H9.out.1 H9.out.2.1).mono ?_
      rintro e10 w10 ⟨rfl, hb10, hw10, hs10⟩
      have H10 := Lib.hid (H9.out.call HG.out hw10 hb10 hs10)
      clear b0_9 b1_9 b2_9 b3_9 b4_9 b5_9 b6_9 b7_9 c0_9 c1_9 f0_9
      clear hb10 hw10 hs10 H9
      obtain ⟨b0_10, b1_10, b2_10, b3_10, b4_10, b5_10, b6_10, b7_10⟩ := box8 H10.out.2.2.2
      have c0_10 := H10.out.c0
      have c1_10 := H10.out.c1
      have f0_10 := H10.out.f0
      go_wp2_with fail
      refine (unsigned_any w0 _ g _ (tgtS x7 0 (opS x1 true s)) x3 2 2 rfl (by omega) H10.out.1 H10.out.2.1 (by have := HL.out; simp only [opS, tgtS, sgnS, unsS, putS, Bool.false_eq_true, ↓reduceIte, List.length_append, List.length_cons, List.length_nil, bigB_length]; omega)).mono ?_
      rintro e11 w11 ⟨rfl, hb11, v11, hw11, hs11⟩
      have H11 := Lib.hid (H10.out.call HG.out hw11 hb11 hs11)
      clear b0_10 b1_10 b2_10 b3_10 b4_10 b5_10 b6_10 b7_10 c0_10 c1_10 f0_10
      clear hb11 hw11 hs11 H10
      obtain ⟨b0_11, b1_11, b2_11, b3_11, b4_11, b5_11, b6_11, b7_11⟩ := box8 H11.out.2.2.2
      have c0_11 := H11.out.c0
      have c1_11 := H11.out.c1
      have f0_11 := H11.out.f0
      go_wp2
      go_end0
      exact H11.out.post
end Go.Proofs.Ytfnjbmpolggdeaa.CW
end
section
namespace Go.Proofs.Ytfnjbmpolggdeaa.CW
open Go.RowKit Go.Lib Go.Proofs.YtfnjbmpolggdeaaW.PrintWords Go.Proofs.YtfnjbmpolggdeaaW.PrintLast Go.Proofs.YtfnjbmpolggdeaaW.PrintMore
set_option linter.unusedVariables false
set_option linter.unusedSimpArgs false
attribute [local go_sem] max2_int min2_int max_two min_two max_three min_three max_four min_four
def oneF6 (x0 x1 : Int) (x2 : Bool) (x3 x4 x5 : Int) (x6 x7 : List Int) (s : List Nat × Bool) : List Nat × Bool := unsS x3 (szI x2) (tgtS x7 0 (opS x1 x2 s))
set_option maxHeartbeats 8000000 in
set_option maxRecDepth 100000 in
theorem one_f6 (w0 w : World) (g : Nat) (v : Value) (s : List Nat × Bool) (x0 x1 : Int) (x2 : Bool) (x3 x4 x5 : Int) (A6 : Option Addr) (c6 : Nat) (x6 : List Int) (A7 : Option Addr) (c7 : Nat) (x7 : List Int) (hx1 : 0 ≤ x1 ∧ x1 < 256) (hW : BW w0.heap.size w g 114 (ewC s.2) v s.1) (hB : Below w0.heap.size w0 w) (hl : s.1.length + 100 ≤ 140737488355328) :
    Calls Try.prog 79 #[.pointer (some ⟨g, 0, none⟩), .agg #[.int .i64 x0, .int .u8 x1, .bool x2, .int .i64 x3, .int .i64 x4, .int .i64 x5, .slice A6 x6.length c6, .slice A7 x7.length c7], .int .i64 6] w (EncPost w0 w g v (oneF6 x0 x1 x2 x3 x4 x5 x6 x7 s)) := by
  unfold oneF6
  have HX1 := Lib.hid hx1
  have HW := Lib.hid hW
  have HB := Lib.hid hB
  have HL := Lib.hid hl
  clear hx1 hW hB hl
  cases x2 with
  | false =>
    have H0 := Lib.hid (St.start (c := #[.int .i64 x0, .int .u8 x1, .bool false, .int .i64 x3, .int .i64 x4, .int .i64 x5, .slice A6 x6.length c6, .slice A7 x7.length c7]) HW.out HB.out)
    have HG := Lib.hid (show w.heap.size ≠ g by have := HW.out.lt; omega)
    obtain ⟨b0_0, b1_0, b2_0, b3_0, b4_0, b5_0, b6_0, b7_0⟩ := box8 H0.out.2.2.2
    have c0_0 := H0.out.c0
    have c1_0 := H0.out.c1
    have f0_0 := H0.out.f0
    go_enter Try.func79, Try.ntmps79
    go_wp2_with fail
    generalize w.alloc (.cells #[.int .i64 x0, .int .u8 x1, .bool false, .int .i64 x3, .int .i64 x4, .int .i64 x5, .slice A6 x6.length c6, .slice A7 x7.length c7] 82) = W0 at *
    have ca : ∀ o, (W0.alloc o).cell? ⟨g, 0, none⟩ = some _ := fun o => pw_cell_below (below_alloc (Below.refl _ _) o) c0_0
    have cb : ∀ o, (W0.alloc o).cell? ⟨w.heap.size, 1, none⟩ = some _ := fun o => pw_cell_below (below_alloc (Below.refl _ _) o) b1_0
    go_region_law (first | (refine elem_step (by rfl) (.tmp 22) (.tmp 25) 87 rfl Try.underlying87 w0.heap.size (H0.out.1.below (drewB _)).2.2 rfl x1 1 (by first | rfl | (go_simp; done) | (simp [World.alloc]; done)) (by have := HL.out; omega) (Nat.le_trans H0.out.2.1.size (drewB _).size) ?_ rfl; intro v9 w9 hm9 hg9 hat9; obtain ⟨A9, m9, c9, rfl⟩ := mrow_sl hm9; have k9 := ew_cell hg9 (H0.out.1.below (drewB _)); have k8 := ew_frozen hg9 (H0.out.1.below (drewB _))))
    all_goals
      have H9 := Lib.hid ((H0.out.quiet HG.out (drewB _)).byte HG.out (b := x1.toNat) (by have := HX1.out; omega) hm9 hg9 hat9)
      clear b0_0 b1_0 b2_0 b3_0 b4_0 b5_0 b6_0 b7_0 c0_0 c1_0 f0_0
      clear hm9 hg9 hat9 k9 k8 ca cb H0
      generalize w9.setCell ⟨g, 0, none⟩ _ = W9 at *
      obtain ⟨b0_9, b1_9, b2_9, b3_9, b4_9, b5_9, b6_9, b7_9⟩ := box8 H9.out.2.2.2
      have c0_9 := H9.out.c0
      have c1_9 := H9.out.c1
      have f0_9 := H9.out.f0
      go_wp2_with fail
      refine (targets_any w0 _ g _ (opS x1 false s) x0 x1 false x3 x4 x5 A6 c6 x6 A7 c7 x7 0 H9.out.1 H9.out.2.1).mono ?_
      rintro e10 w10 ⟨rfl, hb10, hw10, hs10⟩
      have H10 := Lib.hid (H9.out.call HG.out hw10 hb10 hs10)
      clear b0_9 b1_9 b2_9 b3_9 b4_9 b5_9 b6_9 b7_9 c0_9 c1_9 f0_9
      clear hb10 hw10 hs10 H9
      obtain ⟨b0_10, b1_10, b2_10, b3_10, b4_10, b5_10, b6_10, b7_10⟩ := box8 H10.out.2.2.2
      have c0_10 := H10.out.c0
      have c1_10 := H10.out.c1
      have f0_10 := H10.out.f0
      go_wp2_with fail
      refine (unsigned_any w0 _ g _ (tgtS x7 0 (opS x1 false s)) x3 1 1 rfl (by omega) H10.out.1 H10.out.2.1 (by have := HL.out; simp only [opS, tgtS, sgnS, unsS, putS, Bool.false_eq_true, ↓reduceIte, List.length_append, List.length_cons, List.length_nil, bigB_length]; omega)).mono ?_
      rintro e11 w11 ⟨rfl, hb11, v11, hw11, hs11⟩
      have H11 := Lib.hid (H10.out.call HG.out hw11 hb11 hs11)
      clear b0_10 b1_10 b2_10 b3_10 b4_10 b5_10 b6_10 b7_10 c0_10 c1_10 f0_10
      clear hb11 hw11 hs11 H10
      obtain ⟨b0_11, b1_11, b2_11, b3_11, b4_11, b5_11, b6_11, b7_11⟩ := box8 H11.out.2.2.2
      have c0_11 := H11.out.c0
      have c1_11 := H11.out.c1
      have f0_11 := H11.out.f0
      go_wp2
      go_end0
      exact H11.out.post
  | true =>
    have H0 := Lib.hid (St.start (c := #[.int .i64 x0, .int .u8 x1, .bool true, .int .i64 x3, .int .i64 x4, .int .i64 x5, .slice A6 x6.length c6, .slice A7 x7.length c7]) HW.out HB.out)
    have HG := Lib.hid (show w.heap.size ≠ g by have := HW.out.lt; omega)
    obtain ⟨b0_0, b1_0, b2_0, b3_0, b4_0, b5_0, b6_0, b7_0⟩ := box8 H0.out.2.2.2
    have c0_0 := H0.out.c0
    have c1_0 := H0.out.c1
    have f0_0 := H0.out.f0
    go_enter Try.func79, Try.ntmps79
    go_wp2_with (at_builtin; refine app_e rfl _ _ 87 rfl Try.underlying87 w0.heap.size H0.out.1.2.2 rfl 196 1 (by first | rfl | (go_simp; done) | (simp [World.alloc]; done)) (by have := HL.out; omega) H0.out.2.1.size ?_ rfl; intro v1 w1 hm1 hg1 hat1; obtain ⟨A1, m1, c1, rfl⟩ := mrow_sl hm1; have k0 := ew_cell hg1 H0.out.1; have k1 := ew_frozen hg1 H0.out.1)
    have H1 := Lib.hid (H0.out.byte HG.out (b := 196) rfl hm1 hg1 hat1)
    clear b0_0 b1_0 b2_0 b3_0 b4_0 b5_0 b6_0 b7_0 c0_0 c1_0 f0_0
    clear hm1 hg1 hat1 k0 k1 H0
    generalize w1.setCell ⟨g, 0, none⟩ _ = W1 at *
    obtain ⟨b0_1, b1_1, b2_1, b3_1, b4_1, b5_1, b6_1, b7_1⟩ := box8 H1.out.2.2.2
    have c0_1 := H1.out.c0
    have c1_1 := H1.out.c1
    have f0_1 := H1.out.f0
    have ca : ∀ o, (W1.alloc o).cell? ⟨g, 0, none⟩ = some _ := fun o => pw_cell_below (below_alloc (Below.refl _ _) o) c0_1
    have cb : ∀ o, (W1.alloc o).cell? ⟨w.heap.size, 1, none⟩ = some _ := fun o => pw_cell_below (below_alloc (Below.refl _ _) o) b1_1
    go_region_law (first | (refine elem_step (by rfl) (.tmp 22) (.tmp 25) 87 rfl Try.underlying87 w0.heap.size (H1.out.1.below (drewB _)).2.2 rfl x1 1 (by first | rfl | (go_simp; done) | (simp [World.alloc]; done)) (by have := HL.out; simp only [List.length_append, List.length_cons, List.length_nil]; omega) (Nat.le_trans H1.out.2.1.size (drewB _).size) ?_ rfl; intro v9 w9 hm9 hg9 hat9; obtain ⟨A9, m9, c9, rfl⟩ := mrow_sl hm9; have k9 := ew_cell hg9 (H1.out.1.below (drewB _)); have k8 := ew_frozen hg9 (H1.out.1.below (drewB _))))
    all_goals
      have H9 := Lib.hid ((H1.out.quiet HG.out (drewB _)).byte HG.out (b := x1.toNat) (by have := HX1.out; omega) hm9 hg9 hat9)
      clear b0_1 b1_1 b2_1 b3_1 b4_1 b5_1 b6_1 b7_1 c0_1 c1_1 f0_1
      clear hm9 hg9 hat9 k9 k8 ca cb H1
      generalize w9.setCell ⟨g, 0, none⟩ _ = W9 at *
      obtain ⟨b0_9, b1_9, b2_9, b3_9, b4_9, b5_9, b6_9, b7_9⟩ := box8 H9.out.2.2.2
      have c0_9 := H9.out.c0
      have c1_9 := H9.out.c1
      have f0_9 := H9.out.f0
      go_wp2_with fail
      refine (targets_any w0 _ g _ (opS x1 true s) x0 x1 true x3 x4 x5 A6 c6 x6 A7 c7 x7 0 H9.out.1 H9.out.2.1).mono ?_
      rintro e10 w10 ⟨rfl, hb10, hw10, hs10⟩
      have H10 := Lib.hid (H9.out.call HG.out hw10 hb10 hs10)
      clear b0_9 b1_9 b2_9 b3_9 b4_9 b5_9 b6_9 b7_9 c0_9 c1_9 f0_9
      clear hb10 hw10 hs10 H9
      obtain ⟨b0_10, b1_10, b2_10, b3_10, b4_10, b5_10, b6_10, b7_10⟩ := box8 H10.out.2.2.2
      have c0_10 := H10.out.c0
      have c1_10 := H10.out.c1
      have f0_10 := H10.out.f0
      go_wp2_with fail
      refine (unsigned_any w0 _ g _ (tgtS x7 0 (opS x1 true s)) x3 2 2 rfl (by omega) H10.out.1 H10.out.2.1 (by have := HL.out; simp only [opS, tgtS, sgnS, unsS, putS, Bool.false_eq_true, ↓reduceIte, List.length_append, List.length_cons, List.length_nil, bigB_length]; omega)).mono ?_
      rintro e11 w11 ⟨rfl, hb11, v11, hw11, hs11⟩
      have H11 := Lib.hid (H10.out.call HG.out hw11 hb11 hs11)
      clear b0_10 b1_10 b2_10 b3_10 b4_10 b5_10 b6_10 b7_10 c0_10 c1_10 f0_10
      clear hb11 hw11 hs11 H10
      obtain ⟨b0_11, b1_11, b2_11, b3_11, b4_11, b5_11, b6_11, b7_11⟩ := box8 H11.out.2.2.2
      have c0_11 := H11.out.c0
      have c1_11 := H11.out.c1
      have f0_11 := H11.out.f0
      go_wp2
      go_end0
      exact H11.out.post
def oneF7 (x0 x1 : Int) (x2 : Bool) (x3 x4 x5 : Int) (x6 x7 : List Int) (s : List Nat × Bool) : List Nat × Bool := sgnS x4 (szI x2) (unsS x3 (szI x2) (tgtS x7 0 (opS x1 x2 s)))
set_option maxHeartbeats 8000000 in
set_option maxRecDepth 100000 in
theorem one_f7 (w0 w : World) (g : Nat) (v : Value) (s : List Nat × Bool) (x0 x1 : Int) (x2 : Bool) (x3 x4 x5 : Int) (A6 : Option Addr) (c6 : Nat) (x6 : List Int) (A7 : Option Addr) (c7 : Nat) (x7 : List Int) (hx1 : 0 ≤ x1 ∧ x1 < 256) (hW : BW w0.heap.size w g 114 (ewC s.2) v s.1) (hB : Below w0.heap.size w0 w) (hl : s.1.length + 100 ≤ 140737488355328) :
    Calls Try.prog 79 #[.pointer (some ⟨g, 0, none⟩), .agg #[.int .i64 x0, .int .u8 x1, .bool x2, .int .i64 x3, .int .i64 x4, .int .i64 x5, .slice A6 x6.length c6, .slice A7 x7.length c7], .int .i64 7] w (EncPost w0 w g v (oneF7 x0 x1 x2 x3 x4 x5 x6 x7 s)) := by
  unfold oneF7
  have HX1 := Lib.hid hx1
  have HW := Lib.hid hW
  have HB := Lib.hid hB
  have HL := Lib.hid hl
  clear hx1 hW hB hl
  cases x2 with
  | false =>
    have H0 := Lib.hid (St.start (c := #[.int .i64 x0, .int .u8 x1, .bool false, .int .i64 x3, .int .i64 x4, .int .i64 x5, .slice A6 x6.length c6, .slice A7 x7.length c7]) HW.out HB.out)
    have HG := Lib.hid (show w.heap.size ≠ g by have := HW.out.lt; omega)
    obtain ⟨b0_0, b1_0, b2_0, b3_0, b4_0, b5_0, b6_0, b7_0⟩ := box8 H0.out.2.2.2
    have c0_0 := H0.out.c0
    have c1_0 := H0.out.c1
    have f0_0 := H0.out.f0
    go_enter Try.func79, Try.ntmps79
    go_wp2_with fail
    generalize w.alloc (.cells #[.int .i64 x0, .int .u8 x1, .bool false, .int .i64 x3, .int .i64 x4, .int .i64 x5, .slice A6 x6.length c6, .slice A7 x7.length c7] 82) = W0 at *
    have ca : ∀ o, (W0.alloc o).cell? ⟨g, 0, none⟩ = some _ := fun o => pw_cell_below (below_alloc (Below.refl _ _) o) c0_0
    have cb : ∀ o, (W0.alloc o).cell? ⟨w.heap.size, 1, none⟩ = some _ := fun o => pw_cell_below (below_alloc (Below.refl _ _) o) b1_0
    go_region_law (first | (refine elem_step (by rfl) (.tmp 22) (.tmp 25) 87 rfl Try.underlying87 w0.heap.size (H0.out.1.below (drewB _)).2.2 rfl x1 1 (by first | rfl | (go_simp; done) | (simp [World.alloc]; done)) (by have := HL.out; omega) (Nat.le_trans H0.out.2.1.size (drewB _).size) ?_ rfl; intro v9 w9 hm9 hg9 hat9; obtain ⟨A9, m9, c9, rfl⟩ := mrow_sl hm9; have k9 := ew_cell hg9 (H0.out.1.below (drewB _)); have k8 := ew_frozen hg9 (H0.out.1.below (drewB _))))
    all_goals
      have H9 := Lib.hid ((H0.out.quiet HG.out (drewB _)).byte HG.out (b := x1.toNat) (by have := HX1.out; omega) hm9 hg9 hat9)
      clear b0_0 b1_0 b2_0 b3_0 b4_0 b5_0 b6_0 b7_0 c0_0 c1_0 f0_0
      clear hm9 hg9 hat9 k9 k8 ca cb H0
      generalize w9.setCell ⟨g, 0, none⟩ _ = W9 at *
      obtain ⟨b0_9, b1_9, b2_9, b3_9, b4_9, b5_9, b6_9, b7_9⟩ := box8 H9.out.2.2.2
      have c0_9 := H9.out.c0
      have c1_9 := H9.out.c1
      have f0_9 := H9.out.f0
      go_wp2_with fail
      refine (targets_any w0 _ g _ (opS x1 false s) x0 x1 false x3 x4 x5 A6 c6 x6 A7 c7 x7 0 H9.out.1 H9.out.2.1).mono ?_
      rintro e10 w10 ⟨rfl, hb10, hw10, hs10⟩
      have H10 := Lib.hid (H9.out.call HG.out hw10 hb10 hs10)
      clear b0_9 b1_9 b2_9 b3_9 b4_9 b5_9 b6_9 b7_9 c0_9 c1_9 f0_9
      clear hb10 hw10 hs10 H9
      obtain ⟨b0_10, b1_10, b2_10, b3_10, b4_10, b5_10, b6_10, b7_10⟩ := box8 H10.out.2.2.2
      have c0_10 := H10.out.c0
      have c1_10 := H10.out.c1
      have f0_10 := H10.out.f0
      go_wp2_with fail
      refine (unsigned_any w0 _ g _ (tgtS x7 0 (opS x1 false s)) x3 1 1 rfl (by omega) H10.out.1 H10.out.2.1 (by have := HL.out; simp only [opS, tgtS, sgnS, unsS, putS, Bool.false_eq_true, ↓reduceIte, List.length_append, List.length_cons, List.length_nil, bigB_length]; omega)).mono ?_
      rintro e11 w11 ⟨rfl, hb11, v11, hw11, hs11⟩
      have H11 := Lib.hid (H10.out.call HG.out hw11 hb11 hs11)
      clear b0_10 b1_10 b2_10 b3_10 b4_10 b5_10 b6_10 b7_10 c0_10 c1_10 f0_10
      clear hb11 hw11 hs11 H10
      obtain ⟨b0_11, b1_11, b2_11, b3_11, b4_11, b5_11, b6_11, b7_11⟩ := box8 H11.out.2.2.2
      have c0_11 := H11.out.c0
      have c1_11 := H11.out.c1
      have f0_11 := H11.out.f0
      go_wp2_with fail
      refine (signed_any w0 _ g _ (unsS x3 1 (tgtS x7 0 (opS x1 false s))) x4 1 1 rfl (by omega) H11.out.1 H11.out.2.1 (by have := HL.out; simp only [opS, tgtS, sgnS, unsS, putS, Bool.false_eq_true, ↓reduceIte, List.length_append, List.length_cons, List.length_nil, bigB_length]; omega)).mono ?_
      rintro e12 w12 ⟨rfl, hb12, v12, hw12, hs12⟩
      have H12 := Lib.hid (H11.out.call HG.out hw12 hb12 hs12)
      clear b0_11 b1_11 b2_11 b3_11 b4_11 b5_11 b6_11 b7_11 c0_11 c1_11 f0_11
      clear hb12 hw12 hs12 H11
      obtain ⟨b0_12, b1_12, b2_12, b3_12, b4_12, b5_12, b6_12, b7_12⟩ := box8 H12.out.2.2.2
      have c0_12 := H12.out.c0
      have c1_12 := H12.out.c1
      have f0_12 := H12.out.f0
      go_wp2
      go_end0
      exact H12.out.post
  | true =>
    have H0 := Lib.hid (St.start (c := #[.int .i64 x0, .int .u8 x1, .bool true, .int .i64 x3, .int .i64 x4, .int .i64 x5, .slice A6 x6.length c6, .slice A7 x7.length c7]) HW.out HB.out)
    have HG := Lib.hid (show w.heap.size ≠ g by have := HW.out.lt; omega)
    obtain ⟨b0_0, b1_0, b2_0, b3_0, b4_0, b5_0, b6_0, b7_0⟩ := box8 H0.out.2.2.2
    have c0_0 := H0.out.c0
    have c1_0 := H0.out.c1
    have f0_0 := H0.out.f0
    go_enter Try.func79, Try.ntmps79
    go_wp2_with (at_builtin; refine app_e rfl _ _ 87 rfl Try.underlying87 w0.heap.size H0.out.1.2.2 rfl 196 1 (by first | rfl | (go_simp; done) | (simp [World.alloc]; done)) (by have := HL.out; omega) H0.out.2.1.size ?_ rfl; intro v1 w1 hm1 hg1 hat1; obtain ⟨A1, m1, c1, rfl⟩ := mrow_sl hm1; have k0 := ew_cell hg1 H0.out.1; have k1 := ew_frozen hg1 H0.out.1)
    have H1 := Lib.hid (H0.out.byte HG.out (b := 196) rfl hm1 hg1 hat1)
    clear b0_0 b1_0 b2_0 b3_0 b4_0 b5_0 b6_0 b7_0 c0_0 c1_0 f0_0
    clear hm1 hg1 hat1 k0 k1 H0
    generalize w1.setCell ⟨g, 0, none⟩ _ = W1 at *
    obtain ⟨b0_1, b1_1, b2_1, b3_1, b4_1, b5_1, b6_1, b7_1⟩ := box8 H1.out.2.2.2
    have c0_1 := H1.out.c0
    have c1_1 := H1.out.c1
    have f0_1 := H1.out.f0
    have ca : ∀ o, (W1.alloc o).cell? ⟨g, 0, none⟩ = some _ := fun o => pw_cell_below (below_alloc (Below.refl _ _) o) c0_1
    have cb : ∀ o, (W1.alloc o).cell? ⟨w.heap.size, 1, none⟩ = some _ := fun o => pw_cell_below (below_alloc (Below.refl _ _) o) b1_1
    go_region_law (first | (refine elem_step (by rfl) (.tmp 22) (.tmp 25) 87 rfl Try.underlying87 w0.heap.size (H1.out.1.below (drewB _)).2.2 rfl x1 1 (by first | rfl | (go_simp; done) | (simp [World.alloc]; done)) (by have := HL.out; simp only [List.length_append, List.length_cons, List.length_nil]; omega) (Nat.le_trans H1.out.2.1.size (drewB _).size) ?_ rfl; intro v9 w9 hm9 hg9 hat9; obtain ⟨A9, m9, c9, rfl⟩ := mrow_sl hm9; have k9 := ew_cell hg9 (H1.out.1.below (drewB _)); have k8 := ew_frozen hg9 (H1.out.1.below (drewB _))))
    all_goals
      have H9 := Lib.hid ((H1.out.quiet HG.out (drewB _)).byte HG.out (b := x1.toNat) (by have := HX1.out; omega) hm9 hg9 hat9)
      clear b0_1 b1_1 b2_1 b3_1 b4_1 b5_1 b6_1 b7_1 c0_1 c1_1 f0_1
      clear hm9 hg9 hat9 k9 k8 ca cb H1
      generalize w9.setCell ⟨g, 0, none⟩ _ = W9 at *
      obtain ⟨b0_9, b1_9, b2_9, b3_9, b4_9, b5_9, b6_9, b7_9⟩ := box8 H9.out.2.2.2
      have c0_9 := H9.out.c0
      have c1_9 := H9.out.c1
      have f0_9 := H9.out.f0
      go_wp2_with fail
      refine (targets_any w0 _ g _ (opS x1 true s) x0 x1 true x3 x4 x5 A6 c6 x6 A7 c7 x7 0 H9.out.1 H9.out.2.1).mono ?_
      rintro e10 w10 ⟨rfl, hb10, hw10, hs10⟩
      have H10 := Lib.hid (H9.out.call HG.out hw10 hb10 hs10)
      clear b0_9 b1_9 b2_9 b3_9 b4_9 b5_9 b6_9 b7_9 c0_9 c1_9 f0_9
      clear hb10 hw10 hs10 H9
      obtain ⟨b0_10, b1_10, b2_10, b3_10, b4_10, b5_10, b6_10, b7_10⟩ := box8 H10.out.2.2.2
      have c0_10 := H10.out.c0
      have c1_10 := H10.out.c1
      have f0_10 := H10.out.f0
      go_wp2_with fail
      refine (unsigned_any w0 _ g _ (tgtS x7 0 (opS x1 true s)) x3 2 2 rfl (by omega) H10.out.1 H10.out.2.1 (by have := HL.out; simp only [opS, tgtS, sgnS, unsS, putS, Bool.false_eq_true, ↓reduceIte, List.length_append, List.length_cons, List.length_nil, bigB_length]; omega)).mono ?_
      rintro e11 w11 ⟨rfl, hb11, v11, hw11, hs11⟩
      have H11 := Lib.hid (H10.out.call HG.out hw11 hb11 hs11)
      clear b0_10 b1_10 b2_10 b3_10 b4_10 b5_10 b6_10 b7_10 c0_10 c1_10 f0_10
      clear hb11 hw11 hs11 H10
      obtain ⟨b0_11, b1_11, b2_11, b3_11, b4_11, b5_11, b6_11, b7_11⟩ := box8 H11.out.2.2.2
      have c0_11 := H11.out.c0
      have c1_11 := H11.out.c1
      have f0_11 := H11.out.f0
      go_wp2_with fail
      refine (signed_any w0 _ g _ (unsS x3 2 (tgtS x7 0 (opS x1 true s))) x4 2 2 rfl (by omega) H11.out.1 H11.out.2.1 (by have := HL.out; simp only [opS, tgtS, sgnS, unsS, putS, Bool.false_eq_true, ↓reduceIte, List.length_append, List.length_cons, List.length_nil, bigB_length]; omega)).mono ?_
      rintro e12 w12 ⟨rfl, hb12, v12, hw12, hs12⟩
      have H12 := Lib.hid (H11.out.call HG.out hw12 hb12 hs12)
      clear b0_11 b1_11 b2_11 b3_11 b4_11 b5_11 b6_11 b7_11 c0_11 c1_11 f0_11
      clear hb12 hw12 hs12 H11
      obtain ⟨b0_12, b1_12, b2_12, b3_12, b4_12, b5_12, b6_12, b7_12⟩ := box8 H12.out.2.2.2
      have c0_12 := H12.out.c0
      have c1_12 := H12.out.c1
      have f0_12 := H12.out.f0
      go_wp2
      go_end0
      exact H12.out.post
def oneF13 (x0 x1 : Int) (x2 : Bool) (x3 x4 x5 : Int) (x6 x7 : List Int) (s : List Nat × Bool) : List Nat × Bool := putS x3 1 4 11 (tgtS x7 0 (opS x1 x2 s))
set_option maxHeartbeats 8000000 in
set_option maxRecDepth 100000 in
theorem one_f13 (w0 w : World) (g : Nat) (v : Value) (s : List Nat × Bool) (x0 x1 : Int) (x2 : Bool) (x3 x4 x5 : Int) (A6 : Option Addr) (c6 : Nat) (x6 : List Int) (A7 : Option Addr) (c7 : Nat) (x7 : List Int) (hx1 : 0 ≤ x1 ∧ x1 < 256) (hW : BW w0.heap.size w g 114 (ewC s.2) v s.1) (hB : Below w0.heap.size w0 w) (hl : s.1.length + 100 ≤ 140737488355328) :
    Calls Try.prog 79 #[.pointer (some ⟨g, 0, none⟩), .agg #[.int .i64 x0, .int .u8 x1, .bool x2, .int .i64 x3, .int .i64 x4, .int .i64 x5, .slice A6 x6.length c6, .slice A7 x7.length c7], .int .i64 13] w (EncPost w0 w g v (oneF13 x0 x1 x2 x3 x4 x5 x6 x7 s)) := by
  unfold oneF13
  have HX1 := Lib.hid hx1
  have HW := Lib.hid hW
  have HB := Lib.hid hB
  have HL := Lib.hid hl
  clear hx1 hW hB hl
  cases x2 with
  | false =>
    have H0 := Lib.hid (St.start (c := #[.int .i64 x0, .int .u8 x1, .bool false, .int .i64 x3, .int .i64 x4, .int .i64 x5, .slice A6 x6.length c6, .slice A7 x7.length c7]) HW.out HB.out)
    have HG := Lib.hid (show w.heap.size ≠ g by have := HW.out.lt; omega)
    obtain ⟨b0_0, b1_0, b2_0, b3_0, b4_0, b5_0, b6_0, b7_0⟩ := box8 H0.out.2.2.2
    have c0_0 := H0.out.c0
    have c1_0 := H0.out.c1
    have f0_0 := H0.out.f0
    go_enter Try.func79, Try.ntmps79
    go_wp2_with fail
    generalize w.alloc (.cells #[.int .i64 x0, .int .u8 x1, .bool false, .int .i64 x3, .int .i64 x4, .int .i64 x5, .slice A6 x6.length c6, .slice A7 x7.length c7] 82) = W0 at *
    have ca : ∀ o, (W0.alloc o).cell? ⟨g, 0, none⟩ = some _ := fun o => pw_cell_below (below_alloc (Below.refl _ _) o) c0_0
    have cb : ∀ o, (W0.alloc o).cell? ⟨w.heap.size, 1, none⟩ = some _ := fun o => pw_cell_below (below_alloc (Below.refl _ _) o) b1_0
    go_region_law (first | (refine elem_step (by rfl) (.tmp 22) (.tmp 25) 87 rfl Try.underlying87 w0.heap.size (H0.out.1.below (drewB _)).2.2 rfl x1 1 (by first | rfl | (go_simp; done) | (simp [World.alloc]; done)) (by have := HL.out; omega) (Nat.le_trans H0.out.2.1.size (drewB _).size) ?_ rfl; intro v9 w9 hm9 hg9 hat9; obtain ⟨A9, m9, c9, rfl⟩ := mrow_sl hm9; have k9 := ew_cell hg9 (H0.out.1.below (drewB _)); have k8 := ew_frozen hg9 (H0.out.1.below (drewB _))))
    all_goals
      have H9 := Lib.hid ((H0.out.quiet HG.out (drewB _)).byte HG.out (b := x1.toNat) (by have := HX1.out; omega) hm9 hg9 hat9)
      clear b0_0 b1_0 b2_0 b3_0 b4_0 b5_0 b6_0 b7_0 c0_0 c1_0 f0_0
      clear hm9 hg9 hat9 k9 k8 ca cb H0
      generalize w9.setCell ⟨g, 0, none⟩ _ = W9 at *
      obtain ⟨b0_9, b1_9, b2_9, b3_9, b4_9, b5_9, b6_9, b7_9⟩ := box8 H9.out.2.2.2
      have c0_9 := H9.out.c0
      have c1_9 := H9.out.c1
      have f0_9 := H9.out.f0
      go_wp2_with fail
      refine (targets_any w0 _ g _ (opS x1 false s) x0 x1 false x3 x4 x5 A6 c6 x6 A7 c7 x7 0 H9.out.1 H9.out.2.1).mono ?_
      rintro e10 w10 ⟨rfl, hb10, hw10, hs10⟩
      have H10 := Lib.hid (H9.out.call HG.out hw10 hb10 hs10)
      clear b0_9 b1_9 b2_9 b3_9 b4_9 b5_9 b6_9 b7_9 c0_9 c1_9 f0_9
      clear hb10 hw10 hs10 H9
      obtain ⟨b0_10, b1_10, b2_10, b3_10, b4_10, b5_10, b6_10, b7_10⟩ := box8 H10.out.2.2.2
      have c0_10 := H10.out.c0
      have c1_10 := H10.out.c1
      have f0_10 := H10.out.f0
      go_wp2_with fail
      refine (put_any w0 _ g _ (tgtS x7 0 (opS x1 false s)) x3 1 1 rfl (by omega) 4 11 H10.out.1 H10.out.2.1 (by have := HL.out; simp only [opS, tgtS, sgnS, unsS, putS, Bool.false_eq_true, ↓reduceIte, List.length_append, List.length_cons, List.length_nil, bigB_length]; omega)).mono ?_
      rintro e11 w11 ⟨rfl, hb11, v11, hw11, hs11⟩
      have H11 := Lib.hid (H10.out.call HG.out hw11 hb11 hs11)
      clear b0_10 b1_10 b2_10 b3_10 b4_10 b5_10 b6_10 b7_10 c0_10 c1_10 f0_10
      clear hb11 hw11 hs11 H10
      obtain ⟨b0_11, b1_11, b2_11, b3_11, b4_11, b5_11, b6_11, b7_11⟩ := box8 H11.out.2.2.2
      have c0_11 := H11.out.c0
      have c1_11 := H11.out.c1
      have f0_11 := H11.out.f0
      go_wp2
      go_end0
      exact H11.out.post
  | true =>
    have H0 := Lib.hid (St.start (c := #[.int .i64 x0, .int .u8 x1, .bool true, .int .i64 x3, .int .i64 x4, .int .i64 x5, .slice A6 x6.length c6, .slice A7 x7.length c7]) HW.out HB.out)
    have HG := Lib.hid (show w.heap.size ≠ g by have := HW.out.lt; omega)
    obtain ⟨b0_0, b1_0, b2_0, b3_0, b4_0, b5_0, b6_0, b7_0⟩ := box8 H0.out.2.2.2
    have c0_0 := H0.out.c0
    have c1_0 := H0.out.c1
    have f0_0 := H0.out.f0
    go_enter Try.func79, Try.ntmps79
    go_wp2_with (at_builtin; refine app_e rfl _ _ 87 rfl Try.underlying87 w0.heap.size H0.out.1.2.2 rfl 196 1 (by first | rfl | (go_simp; done) | (simp [World.alloc]; done)) (by have := HL.out; omega) H0.out.2.1.size ?_ rfl; intro v1 w1 hm1 hg1 hat1; obtain ⟨A1, m1, c1, rfl⟩ := mrow_sl hm1; have k0 := ew_cell hg1 H0.out.1; have k1 := ew_frozen hg1 H0.out.1)
    have H1 := Lib.hid (H0.out.byte HG.out (b := 196) rfl hm1 hg1 hat1)
    clear b0_0 b1_0 b2_0 b3_0 b4_0 b5_0 b6_0 b7_0 c0_0 c1_0 f0_0
    clear hm1 hg1 hat1 k0 k1 H0
    generalize w1.setCell ⟨g, 0, none⟩ _ = W1 at *
    obtain ⟨b0_1, b1_1, b2_1, b3_1, b4_1, b5_1, b6_1, b7_1⟩ := box8 H1.out.2.2.2
    have c0_1 := H1.out.c0
    have c1_1 := H1.out.c1
    have f0_1 := H1.out.f0
    have ca : ∀ o, (W1.alloc o).cell? ⟨g, 0, none⟩ = some _ := fun o => pw_cell_below (below_alloc (Below.refl _ _) o) c0_1
    have cb : ∀ o, (W1.alloc o).cell? ⟨w.heap.size, 1, none⟩ = some _ := fun o => pw_cell_below (below_alloc (Below.refl _ _) o) b1_1
    go_region_law (first | (refine elem_step (by rfl) (.tmp 22) (.tmp 25) 87 rfl Try.underlying87 w0.heap.size (H1.out.1.below (drewB _)).2.2 rfl x1 1 (by first | rfl | (go_simp; done) | (simp [World.alloc]; done)) (by have := HL.out; simp only [List.length_append, List.length_cons, List.length_nil]; omega) (Nat.le_trans H1.out.2.1.size (drewB _).size) ?_ rfl; intro v9 w9 hm9 hg9 hat9; obtain ⟨A9, m9, c9, rfl⟩ := mrow_sl hm9; have k9 := ew_cell hg9 (H1.out.1.below (drewB _)); have k8 := ew_frozen hg9 (H1.out.1.below (drewB _))))
    all_goals
      have H9 := Lib.hid ((H1.out.quiet HG.out (drewB _)).byte HG.out (b := x1.toNat) (by have := HX1.out; omega) hm9 hg9 hat9)
      clear b0_1 b1_1 b2_1 b3_1 b4_1 b5_1 b6_1 b7_1 c0_1 c1_1 f0_1
      clear hm9 hg9 hat9 k9 k8 ca cb H1
      generalize w9.setCell ⟨g, 0, none⟩ _ = W9 at *
      obtain ⟨b0_9, b1_9, b2_9, b3_9, b4_9, b5_9, b6_9, b7_9⟩ := box8 H9.out.2.2.2
      have c0_9 := H9.out.c0
      have c1_9 := H9.out.c1
      have f0_9 := H9.out.f0
      go_wp2_with fail
      refine (targets_any w0 _ g _ (opS x1 true s) x0 x1 true x3 x4 x5 A6 c6 x6 A7 c7 x7 0 H9.out.1 H9.out.2.1).mono ?_
      rintro e10 w10 ⟨rfl, hb10, hw10, hs10⟩
      have H10 := Lib.hid (H9.out.call HG.out hw10 hb10 hs10)
      clear b0_9 b1_9 b2_9 b3_9 b4_9 b5_9 b6_9 b7_9 c0_9 c1_9 f0_9
      clear hb10 hw10 hs10 H9
      obtain ⟨b0_10, b1_10, b2_10, b3_10, b4_10, b5_10, b6_10, b7_10⟩ := box8 H10.out.2.2.2
      have c0_10 := H10.out.c0
      have c1_10 := H10.out.c1
      have f0_10 := H10.out.f0
      go_wp2_with fail
      refine (put_any w0 _ g _ (tgtS x7 0 (opS x1 true s)) x3 1 1 rfl (by omega) 4 11 H10.out.1 H10.out.2.1 (by have := HL.out; simp only [opS, tgtS, sgnS, unsS, putS, Bool.false_eq_true, ↓reduceIte, List.length_append, List.length_cons, List.length_nil, bigB_length]; omega)).mono ?_
      rintro e11 w11 ⟨rfl, hb11, v11, hw11, hs11⟩
      have H11 := Lib.hid (H10.out.call HG.out hw11 hb11 hs11)
      clear b0_10 b1_10 b2_10 b3_10 b4_10 b5_10 b6_10 b7_10 c0_10 c1_10 f0_10
      clear hb11 hw11 hs11 H10
      obtain ⟨b0_11, b1_11, b2_11, b3_11, b4_11, b5_11, b6_11, b7_11⟩ := box8 H11.out.2.2.2
      have c0_11 := H11.out.c0
      have c1_11 := H11.out.c1
      have f0_11 := H11.out.f0
      go_wp2
      go_end0
      exact H11.out.post
def oneF0 (x0 x1 : Int) (x2 : Bool) (x3 x4 x5 : Int) (x6 x7 : List Int) (s : List Nat × Bool) : List Nat × Bool := tgtS x7 0 (opS x1 x2 s)
set_option maxHeartbeats 8000000 in
set_option maxRecDepth 100000 in
theorem one_f0 (w0 w : World) (g : Nat) (v : Value) (s : List Nat × Bool) (x0 x1 : Int) (x2 : Bool) (x3 x4 x5 : Int) (A6 : Option Addr) (c6 : Nat) (x6 : List Int) (A7 : Option Addr) (c7 : Nat) (x7 : List Int) (hx1 : 0 ≤ x1 ∧ x1 < 256) (hW : BW w0.heap.size w g 114 (ewC s.2) v s.1) (hB : Below w0.heap.size w0 w) (hl : s.1.length + 100 ≤ 140737488355328) :
    Calls Try.prog 79 #[.pointer (some ⟨g, 0, none⟩), .agg #[.int .i64 x0, .int .u8 x1, .bool x2, .int .i64 x3, .int .i64 x4, .int .i64 x5, .slice A6 x6.length c6, .slice A7 x7.length c7], .int .i64 0] w (EncPost w0 w g v (oneF0 x0 x1 x2 x3 x4 x5 x6 x7 s)) := by
  unfold oneF0
  have HX1 := Lib.hid hx1
  have HW := Lib.hid hW
  have HB := Lib.hid hB
  have HL := Lib.hid hl
  clear hx1 hW hB hl
  cases x2 with
  | false =>
    have H0 := Lib.hid (St.start (c := #[.int .i64 x0, .int .u8 x1, .bool false, .int .i64 x3, .int .i64 x4, .int .i64 x5, .slice A6 x6.length c6, .slice A7 x7.length c7]) HW.out HB.out)
    have HG := Lib.hid (show w.heap.size ≠ g by have := HW.out.lt; omega)
    obtain ⟨b0_0, b1_0, b2_0, b3_0, b4_0, b5_0, b6_0, b7_0⟩ := box8 H0.out.2.2.2
    have c0_0 := H0.out.c0
    have c1_0 := H0.out.c1
    have f0_0 := H0.out.f0
    go_enter Try.func79, Try.ntmps79
    go_wp2_with fail
    generalize w.alloc (.cells #[.int .i64 x0, .int .u8 x1, .bool false, .int .i64 x3, .int .i64 x4, .int .i64 x5, .slice A6 x6.length c6, .slice A7 x7.length c7] 82) = W0 at *
    have ca : ∀ o, (W0.alloc o).cell? ⟨g, 0, none⟩ = some _ := fun o => pw_cell_below (below_alloc (Below.refl _ _) o) c0_0
    have cb : ∀ o, (W0.alloc o).cell? ⟨w.heap.size, 1, none⟩ = some _ := fun o => pw_cell_below (below_alloc (Below.refl _ _) o) b1_0
    go_region_law (first | (refine elem_step (by rfl) (.tmp 22) (.tmp 25) 87 rfl Try.underlying87 w0.heap.size (H0.out.1.below (drewB _)).2.2 rfl x1 1 (by first | rfl | (go_simp; done) | (simp [World.alloc]; done)) (by have := HL.out; omega) (Nat.le_trans H0.out.2.1.size (drewB _).size) ?_ rfl; intro v9 w9 hm9 hg9 hat9; obtain ⟨A9, m9, c9, rfl⟩ := mrow_sl hm9; have k9 := ew_cell hg9 (H0.out.1.below (drewB _)); have k8 := ew_frozen hg9 (H0.out.1.below (drewB _))))
    all_goals
      have H9 := Lib.hid ((H0.out.quiet HG.out (drewB _)).byte HG.out (b := x1.toNat) (by have := HX1.out; omega) hm9 hg9 hat9)
      clear b0_0 b1_0 b2_0 b3_0 b4_0 b5_0 b6_0 b7_0 c0_0 c1_0 f0_0
      clear hm9 hg9 hat9 k9 k8 ca cb H0
      generalize w9.setCell ⟨g, 0, none⟩ _ = W9 at *
      obtain ⟨b0_9, b1_9, b2_9, b3_9, b4_9, b5_9, b6_9, b7_9⟩ := box8 H9.out.2.2.2
      have c0_9 := H9.out.c0
      have c1_9 := H9.out.c1
      have f0_9 := H9.out.f0
      go_wp2_with fail
      refine (targets_any w0 _ g _ (opS x1 false s) x0 x1 false x3 x4 x5 A6 c6 x6 A7 c7 x7 0 H9.out.1 H9.out.2.1).mono ?_
      rintro e10 w10 ⟨rfl, hb10, hw10, hs10⟩
      have H10 := Lib.hid (H9.out.call HG.out hw10 hb10 hs10)
      clear b0_9 b1_9 b2_9 b3_9 b4_9 b5_9 b6_9 b7_9 c0_9 c1_9 f0_9
      clear hb10 hw10 hs10 H9
      obtain ⟨b0_10, b1_10, b2_10, b3_10, b4_10, b5_10, b6_10, b7_10⟩ := box8 H10.out.2.2.2
      have c0_10 := H10.out.c0
      have c1_10 := H10.out.c1
      have f0_10 := H10.out.f0
      go_wp2
      go_end0
      exact H10.out.post
  | true =>
    have H0 := Lib.hid (St.start (c := #[.int .i64 x0, .int .u8 x1, .bool true, .int .i64 x3, .int .i64 x4, .int .i64 x5, .slice A6 x6.length c6, .slice A7 x7.length c7]) HW.out HB.out)
    have HG := Lib.hid (show w.heap.size ≠ g by have := HW.out.lt; omega)
    obtain ⟨b0_0, b1_0, b2_0, b3_0, b4_0, b5_0, b6_0, b7_0⟩ := box8 H0.out.2.2.2
    have c0_0 := H0.out.c0
    have c1_0 := H0.out.c1
    have f0_0 := H0.out.f0
    go_enter Try.func79, Try.ntmps79
    go_wp2_with (at_builtin; refine app_e rfl _ _ 87 rfl Try.underlying87 w0.heap.size H0.out.1.2.2 rfl 196 1 (by first | rfl | (go_simp; done) | (simp [World.alloc]; done)) (by have := HL.out; omega) H0.out.2.1.size ?_ rfl; intro v1 w1 hm1 hg1 hat1; obtain ⟨A1, m1, c1, rfl⟩ := mrow_sl hm1; have k0 := ew_cell hg1 H0.out.1; have k1 := ew_frozen hg1 H0.out.1)
    have H1 := Lib.hid (H0.out.byte HG.out (b := 196) rfl hm1 hg1 hat1)
    clear b0_0 b1_0 b2_0 b3_0 b4_0 b5_0 b6_0 b7_0 c0_0 c1_0 f0_0
    clear hm1 hg1 hat1 k0 k1 H0
    generalize w1.setCell ⟨g, 0, none⟩ _ = W1 at *
    obtain ⟨b0_1, b1_1, b2_1, b3_1, b4_1, b5_1, b6_1, b7_1⟩ := box8 H1.out.2.2.2
    have c0_1 := H1.out.c0
    have c1_1 := H1.out.c1
    have f0_1 := H1.out.f0
    have ca : ∀ o, (W1.alloc o).cell? ⟨g, 0, none⟩ = some _ := fun o => pw_cell_below (below_alloc (Below.refl _ _) o) c0_1
    have cb : ∀ o, (W1.alloc o).cell? ⟨w.heap.size, 1, none⟩ = some _ := fun o => pw_cell_below (below_alloc (Below.refl _ _) o) b1_1
    go_region_law (first | (refine elem_step (by rfl) (.tmp 22) (.tmp 25) 87 rfl Try.underlying87 w0.heap.size (H1.out.1.below (drewB _)).2.2 rfl x1 1 (by first | rfl | (go_simp; done) | (simp [World.alloc]; done)) (by have := HL.out; simp only [List.length_append, List.length_cons, List.length_nil]; omega) (Nat.le_trans H1.out.2.1.size (drewB _).size) ?_ rfl; intro v9 w9 hm9 hg9 hat9; obtain ⟨A9, m9, c9, rfl⟩ := mrow_sl hm9; have k9 := ew_cell hg9 (H1.out.1.below (drewB _)); have k8 := ew_frozen hg9 (H1.out.1.below (drewB _))))
    all_goals
      have H9 := Lib.hid ((H1.out.quiet HG.out (drewB _)).byte HG.out (b := x1.toNat) (by have := HX1.out; omega) hm9 hg9 hat9)
      clear b0_1 b1_1 b2_1 b3_1 b4_1 b5_1 b6_1 b7_1 c0_1 c1_1 f0_1
      clear hm9 hg9 hat9 k9 k8 ca cb H1
      generalize w9.setCell ⟨g, 0, none⟩ _ = W9 at *
      obtain ⟨b0_9, b1_9, b2_9, b3_9, b4_9, b5_9, b6_9, b7_9⟩ := box8 H9.out.2.2.2
      have c0_9 := H9.out.c0
      have c1_9 := H9.out.c1
      have f0_9 := H9.out.f0
      go_wp2_with fail
      refine (targets_any w0 _ g _ (opS x1 true s) x0 x1 true x3 x4 x5 A6 c6 x6 A7 c7 x7 0 H9.out.1 H9.out.2.1).mono ?_
      rintro e10 w10 ⟨rfl, hb10, hw10, hs10⟩
      have H10 := Lib.hid (H9.out.call HG.out hw10 hb10 hs10)
      clear b0_9 b1_9 b2_9 b3_9 b4_9 b5_9 b6_9 b7_9 c0_9 c1_9 f0_9
      clear hb10 hw10 hs10 H9
      obtain ⟨b0_10, b1_10, b2_10, b3_10, b4_10, b5_10, b6_10, b7_10⟩ := box8 H10.out.2.2.2
      have c0_10 := H10.out.c0
      have c1_10 := H10.out.c1
      have f0_10 := H10.out.f0
      go_wp2
      go_end0
      exact H10.out.post
end Go.Proofs.Ytfnjbmpolggdeaa.CW
end
section
namespace Go.Proofs.Ytfnjbmpolggdeaa.CW
open Go.RowKit Go.Lib Go.Proofs.YtfnjbmpolggdeaaW.PrintWords Go.Proofs.YtfnjbmpolggdeaaW.PrintLast Go.Proofs.YtfnjbmpolggdeaaW.PrintMore
set_option linter.unusedVariables false
set_option linter.unusedSimpArgs false
attribute [local go_sem] max2_int min2_int max_two min_two max_three min_three max_four min_four
def oneF12 (x0 x1 : Int) (x2 : Bool) (x3 x4 x5 : Int) (x6 x7 : List Int) (s : List Nat × Bool) : List Nat × Bool := ((putS x4 1 1 255 (unsS x3 2 (tgtS x7 0 (opS x1 x2 s)))).1 ++ [0], (putS x4 1 1 255 (unsS x3 2 (tgtS x7 0 (opS x1 x2 s)))).2)
set_option maxHeartbeats 8000000 in
set_option maxRecDepth 100000 in
theorem one_f12 (w0 w : World) (g : Nat) (v : Value) (s : List Nat × Bool) (x0 x1 : Int) (x2 : Bool) (x3 x4 x5 : Int) (A6 : Option Addr) (c6 : Nat) (x6 : List Int) (A7 : Option Addr) (c7 : Nat) (x7 : List Int) (hx1 : 0 ≤ x1 ∧ x1 < 256) (hW : BW w0.heap.size w g 114 (ewC s.2) v s.1) (hB : Below w0.heap.size w0 w) (hl : s.1.length + 100 ≤ 140737488355328) :
    Calls Try.prog 79 #[.pointer (some ⟨g, 0, none⟩), .agg #[.int .i64 x0, .int .u8 x1, .bool x2, .int .i64 x3, .int .i64 x4, .int .i64 x5, .slice A6 x6.length c6, .slice A7 x7.length c7], .int .i64 12] w (EncPost w0 w g v (oneF12 x0 x1 x2 x3 x4 x5 x6 x7 s)) := by
  unfold oneF12
  have HX1 := Lib.hid hx1
  have HW := Lib.hid hW
  have HB := Lib.hid hB
  have HL := Lib.hid hl
  clear hx1 hW hB hl
  cases x2 with
  | false =>
    have H0 := Lib.hid (St.start (c := #[.int .i64 x0, .int .u8 x1, .bool false, .int .i64 x3, .int .i64 x4, .int .i64 x5, .slice A6 x6.length c6, .slice A7 x7.length c7]) HW.out HB.out)
    have HG := Lib.hid (show w.heap.size ≠ g by have := HW.out.lt; omega)
    obtain ⟨b0_0, b1_0, b2_0, b3_0, b4_0, b5_0, b6_0, b7_0⟩ := box8 H0.out.2.2.2
    have c0_0 := H0.out.c0
    have c1_0 := H0.out.c1
    have f0_0 := H0.out.f0
    go_enter Try.func79, Try.ntmps79
    go_wp2_with fail
    generalize w.alloc (.cells #[.int .i64 x0, .int .u8 x1, .bool false, .int .i64 x3, .int .i64 x4, .int .i64 x5, .slice A6 x6.length c6, .slice A7 x7.length c7] 82) = W0 at *
    have ca : ∀ o, (W0.alloc o).cell? ⟨g, 0, none⟩ = some _ := fun o => pw_cell_below (below_alloc (Below.refl _ _) o) c0_0
    have cb : ∀ o, (W0.alloc o).cell? ⟨w.heap.size, 1, none⟩ = some _ := fun o => pw_cell_below (below_alloc (Below.refl _ _) o) b1_0
    go_region_law (first | (refine elem_step (by rfl) (.tmp 22) (.tmp 25) 87 rfl Try.underlying87 w0.heap.size (H0.out.1.below (drewB _)).2.2 rfl x1 1 (by first | rfl | (go_simp; done) | (simp [World.alloc]; done)) (by have := HL.out; omega) (Nat.le_trans H0.out.2.1.size (drewB _).size) ?_ rfl; intro v9 w9 hm9 hg9 hat9; obtain ⟨A9, m9, c9, rfl⟩ := mrow_sl hm9; have k9 := ew_cell hg9 (H0.out.1.below (drewB _)); have k8 := ew_frozen hg9 (H0.out.1.below (drewB _))))
    all_goals
      have H9 := Lib.hid ((H0.out.quiet HG.out (drewB _)).byte HG.out (b := x1.toNat) (by have := HX1.out; omega) hm9 hg9 hat9)
      clear b0_0 b1_0 b2_0 b3_0 b4_0 b5_0 b6_0 b7_0 c0_0 c1_0 f0_0
      clear hm9 hg9 hat9 k9 k8 ca cb H0
      generalize w9.setCell ⟨g, 0, none⟩ _ = W9 at *
      obtain ⟨b0_9, b1_9, b2_9, b3_9, b4_9, b5_9, b6_9, b7_9⟩ := box8 H9.out.2.2.2
      have c0_9 := H9.out.c0
      have c1_9 := H9.out.c1
      have f0_9 := H9.out.f0
      go_wp2_with fail
      refine (targets_any w0 _ g _ (opS x1 false s) x0 x1 false x3 x4 x5 A6 c6 x6 A7 c7 x7 0 H9.out.1 H9.out.2.1).mono ?_
      rintro e10 w10 ⟨rfl, hb10, hw10, hs10⟩
      have H10 := Lib.hid (H9.out.call HG.out hw10 hb10 hs10)
      clear b0_9 b1_9 b2_9 b3_9 b4_9 b5_9 b6_9 b7_9 c0_9 c1_9 f0_9
      clear hb10 hw10 hs10 H9
      obtain ⟨b0_10, b1_10, b2_10, b3_10, b4_10, b5_10, b6_10, b7_10⟩ := box8 H10.out.2.2.2
      have c0_10 := H10.out.c0
      have c1_10 := H10.out.c1
      have f0_10 := H10.out.f0
      go_wp2_with fail
      refine (unsigned_any w0 _ g _ (tgtS x7 0 (opS x1 false s)) x3 2 2 rfl (by omega) H10.out.1 H10.out.2.1 (by have := HL.out; simp only [opS, tgtS, sgnS, unsS, putS, Bool.false_eq_true, ↓reduceIte, List.length_append, List.length_cons, List.length_nil, bigB_length]; omega)).mono ?_
      rintro e11 w11 ⟨rfl, hb11, v11, hw11, hs11⟩
      have H11 := Lib.hid (H10.out.call HG.out hw11 hb11 hs11)
      clear b0_10 b1_10 b2_10 b3_10 b4_10 b5_10 b6_10 b7_10 c0_10 c1_10 f0_10
      clear hb11 hw11 hs11 H10
      obtain ⟨b0_11, b1_11, b2_11, b3_11, b4_11, b5_11, b6_11, b7_11⟩ := box8 H11.out.2.2.2
      have c0_11 := H11.out.c0
      have c1_11 := H11.out.c1
      have f0_11 := H11.out.f0
      go_wp2_with fail
      refine (put_any w0 _ g _ (unsS x3 2 (tgtS x7 0 (opS x1 false s))) x4 1 1 rfl (by omega) 1 255 H11.out.1 H11.out.2.1 (by have := HL.out; simp only [opS, tgtS, sgnS, unsS, putS, Bool.false_eq_true, ↓reduceIte, List.length_append, List.length_cons, List.length_nil, bigB_length]; omega)).mono ?_
      rintro e12 w12 ⟨rfl, hb12, v12, hw12, hs12⟩
      have H12 := Lib.hid (H11.out.call HG.out hw12 hb12 hs12)
      clear b0_11 b1_11 b2_11 b3_11 b4_11 b5_11 b6_11 b7_11 c0_11 c1_11 f0_11
      clear hb12 hw12 hs12 H11
      obtain ⟨b0_12, b1_12, b2_12, b3_12, b4_12, b5_12, b6_12, b7_12⟩ := box8 H12.out.2.2.2
      have c0_12 := H12.out.c0
      have c1_12 := H12.out.c1
      have f0_12 := H12.out.f0
      go_wp2_with (at_builtin; refine app_e rfl _ _ 87 rfl Try.underlying87 w0.heap.size H12.out.1.2.2 rfl 0 _ rfl (by have := HL.out; simp only [opS, tgtS, sgnS, unsS, putS, Bool.false_eq_true, ↓reduceIte, List.length_append, List.length_cons, List.length_nil, bigB_length]; omega) H12.out.2.1.size ?_ rfl; intro v13 w13 hm13 hg13 hat13; obtain ⟨A13, m13, c13, rfl⟩ := mrow_sl hm13; have k0 := ew_cell hg13 H12.out.1; have k1 := ew_frozen hg13 H12.out.1)
      have H13 := Lib.hid (H12.out.byte HG.out (b := 0) rfl hm13 hg13 hat13)
      go_end0
      exact H13.out.post
  | true =>
    have H0 := Lib.hid (St.start (c := #[.int .i64 x0, .int .u8 x1, .bool true, .int .i64 x3, .int .i64 x4, .int .i64 x5, .slice A6 x6.length c6, .slice A7 x7.length c7]) HW.out HB.out)
    have HG := Lib.hid (show w.heap.size ≠ g by have := HW.out.lt; omega)
    obtain ⟨b0_0, b1_0, b2_0, b3_0, b4_0, b5_0, b6_0, b7_0⟩ := box8 H0.out.2.2.2
    have c0_0 := H0.out.c0
    have c1_0 := H0.out.c1
    have f0_0 := H0.out.f0
    go_enter Try.func79, Try.ntmps79
    go_wp2_with (at_builtin; refine app_e rfl _ _ 87 rfl Try.underlying87 w0.heap.size H0.out.1.2.2 rfl 196 1 (by first | rfl | (go_simp; done) | (simp [World.alloc]; done)) (by have := HL.out; omega) H0.out.2.1.size ?_ rfl; intro v1 w1 hm1 hg1 hat1; obtain ⟨A1, m1, c1, rfl⟩ := mrow_sl hm1; have k0 := ew_cell hg1 H0.out.1; have k1 := ew_frozen hg1 H0.out.1)
    have H1 := Lib.hid (H0.out.byte HG.out (b := 196) rfl hm1 hg1 hat1)
    clear b0_0 b1_0 b2_0 b3_0 b4_0 b5_0 b6_0 b7_0 c0_0 c1_0 f0_0
    clear hm1 hg1 hat1 k0 k1 H0
    generalize w1.setCell ⟨g, 0, none⟩ _ = W1 at *
    obtain ⟨b0_1, b1_1, b2_1, b3_1, b4_1, b5_1, b6_1, b7_1⟩ := box8 H1.out.2.2.2
    have c0_1 := H1.out.c0
    have c1_1 := H1.out.c1
    have f0_1 := H1.out.f0
    have ca : ∀ o, (W1.alloc o).cell? ⟨g, 0, none⟩ = some _ := fun o => pw_cell_below (below_alloc (Below.refl _ _) o) c0_1
    have cb : ∀ o, (W1.alloc o).cell? ⟨w.heap.size, 1, none⟩ = some _ := fun o => pw_cell_below (below_alloc (Below.refl _ _) o) b1_1
    go_region_law (first | (refine elem_step (by rfl) (.tmp 22) (.tmp 25) 87 rfl Try.underlying87 w0.heap.size (H1.out.1.below (drewB _)).2.2 rfl x1 1 (by first | rfl | (go_simp; done) | (simp [World.alloc]; done)) (by have := HL.out; simp only [List.length_append, List.length_cons, List.length_nil]; omega) (Nat.le_trans H1.out.2.1.size (drewB _).size) ?_ rfl; intro v9 w9 hm9 hg9 hat9; obtain ⟨A9, m9, c9, rfl⟩ := mrow_sl hm9; have k9 := ew_cell hg9 (H1.out.1.below (drewB _)); have k8 := ew_frozen hg9 (H1.out.1.below (drewB _))))
    all_goals
      have H9 := Lib.hid ((H1.out.quiet HG.out (drewB _)).byte HG.out (b := x1.toNat) (by have := HX1.out; omega) hm9 hg9 hat9)
      clear b0_1 b1_1 b2_1 b3_1 b4_1 b5_1 b6_1 b7_1 c0_1 c1_1 f0_1
      clear hm9 hg9 hat9 k9 k8 ca cb H1
      generalize w9.setCell ⟨g, 0, none⟩ _ = W9 at *
      obtain ⟨b0_9, b1_9, b2_9, b3_9, b4_9, b5_9, b6_9, b7_9⟩ := box8 H9.out.2.2.2
      have c0_9 := H9.out.c0
      have c1_9 := H9.out.c1
      have f0_9 := H9.out.f0
      go_wp2_with fail
      refine (targets_any w0 _ g _ (opS x1 true s) x0 x1 true x3 x4 x5 A6 c6 x6 A7 c7 x7 0 H9.out.1 H9.out.2.1).mono ?_
      rintro e10 w10 ⟨rfl, hb10, hw10, hs10⟩
      have H10 := Lib.hid (H9.out.call HG.out hw10 hb10 hs10)
      clear b0_9 b1_9 b2_9 b3_9 b4_9 b5_9 b6_9 b7_9 c0_9 c1_9 f0_9
      clear hb10 hw10 hs10 H9
      obtain ⟨b0_10, b1_10, b2_10, b3_10, b4_10, b5_10, b6_10, b7_10⟩ := box8 H10.out.2.2.2
      have c0_10 := H10.out.c0
      have c1_10 := H10.out.c1
      have f0_10 := H10.out.f0
      go_wp2_with fail
      refine (unsigned_any w0 _ g _ (tgtS x7 0 (opS x1 true s)) x3 2 2 rfl (by omega) H10.out.1 H10.out.2.1 (by have := HL.out; simp only [opS, tgtS, sgnS, unsS, putS, Bool.false_eq_true, ↓reduceIte, List.length_append, List.length_cons, List.length_nil, bigB_length]; omega)).mono ?_
      rintro e11 w11 ⟨rfl, hb11, v11, hw11, hs11⟩
      have H11 := Lib.hid (H10.out.call HG.out hw11 hb11 hs11)
      clear b0_10 b1_10 b2_10 b3_10 b4_10 b5_10 b6_10 b7_10 c0_10 c1_10 f0_10
      clear hb11 hw11 hs11 H10
      obtain ⟨b0_11, b1_11, b2_11, b3_11, b4_11, b5_11, b6_11, b7_11⟩ := box8 H11.out.2.2.2
      have c0_11 := H11.out.c0
      have c1_11 := H11.out.c1
      have f0_11 := H11.out.f0
      go_wp2_with fail
      refine (put_any w0 _ g _ (unsS x3 2 (tgtS x7 0 (opS x1 true s))) x4 1 1 rfl (by omega) 1 255 H11.out.1 H11.out.2.1 (by have := HL.out; simp only [opS, tgtS, sgnS, unsS, putS, Bool.false_eq_true, ↓reduceIte, List.length_append, List.length_cons, List.length_nil, bigB_length]; omega)).mono ?_
      rintro e12 w12 ⟨rfl, hb12, v12, hw12, hs12⟩
      have H12 := Lib.hid (H11.out.call HG.out hw12 hb12 hs12)
      clear b0_11 b1_11 b2_11 b3_11 b4_11 b5_11 b6_11 b7_11 c0_11 c1_11 f0_11
      clear hb12 hw12 hs12 H11
      obtain ⟨b0_12, b1_12, b2_12, b3_12, b4_12, b5_12, b6_12, b7_12⟩ := box8 H12.out.2.2.2
      have c0_12 := H12.out.c0
      have c1_12 := H12.out.c1
      have f0_12 := H12.out.f0
      go_wp2_with (at_builtin; refine app_e rfl _ _ 87 rfl Try.underlying87 w0.heap.size H12.out.1.2.2 rfl 0 _ rfl (by have := HL.out; simp only [opS, tgtS, sgnS, unsS, putS, Bool.false_eq_true, ↓reduceIte, List.length_append, List.length_cons, List.length_nil, bigB_length]; omega) H12.out.2.1.size ?_ rfl; intro v13 w13 hm13 hg13 hat13; obtain ⟨A13, m13, c13, rfl⟩ := mrow_sl hm13; have k0 := ew_cell hg13 H12.out.1; have k1 := ew_frozen hg13 H12.out.1)
      have H13 := Lib.hid (H12.out.byte HG.out (b := 0) rfl hm13 hg13 hat13)
      go_end0
      exact H13.out.post
def oneF14 (x0 x1 : Int) (x2 : Bool) (x3 x4 x5 : Int) (x6 x7 : List Int) (s : List Nat × Bool) : List Nat × Bool := putS x4 1 1 255 (unsS x3 2 (tgtS x7 0 (opS x1 x2 s)))
set_option maxHeartbeats 8000000 in
set_option maxRecDepth 100000 in
theorem one_f14 (w0 w : World) (g : Nat) (v : Value) (s : List Nat × Bool) (x0 x1 : Int) (x2 : Bool) (x3 x4 x5 : Int) (A6 : Option Addr) (c6 : Nat) (x6 : List Int) (A7 : Option Addr) (c7 : Nat) (x7 : List Int) (hx1 : 0 ≤ x1 ∧ x1 < 256) (hW : BW w0.heap.size w g 114 (ewC s.2) v s.1) (hB : Below w0.heap.size w0 w) (hl : s.1.length + 100 ≤ 140737488355328) :
    Calls Try.prog 79 #[.pointer (some ⟨g, 0, none⟩), .agg #[.int .i64 x0, .int .u8 x1, .bool x2, .int .i64 x3, .int .i64 x4, .int .i64 x5, .slice A6 x6.length c6, .slice A7 x7.length c7], .int .i64 14] w (EncPost w0 w g v (oneF14 x0 x1 x2 x3 x4 x5 x6 x7 s)) := by
  unfold oneF14
  have HX1 := Lib.hid hx1
  have HW := Lib.hid hW
  have HB := Lib.hid hB
  have HL := Lib.hid hl
  clear hx1 hW hB hl
  cases x2 with
  | false =>
    have H0 := Lib.hid (St.start (c := #[.int .i64 x0, .int .u8 x1, .bool false, .int .i64 x3, .int .i64 x4, .int .i64 x5, .slice A6 x6.length c6, .slice A7 x7.length c7]) HW.out HB.out)
    have HG := Lib.hid (show w.heap.size ≠ g by have := HW.out.lt; omega)
    obtain ⟨b0_0, b1_0, b2_0, b3_0, b4_0, b5_0, b6_0, b7_0⟩ := box8 H0.out.2.2.2
    have c0_0 := H0.out.c0
    have c1_0 := H0.out.c1
    have f0_0 := H0.out.f0
    go_enter Try.func79, Try.ntmps79
    go_wp2_with fail
    generalize w.alloc (.cells #[.int .i64 x0, .int .u8 x1, .bool false, .int .i64 x3, .int .i64 x4, .int .i64 x5, .slice A6 x6.length c6, .slice A7 x7.length c7] 82) = W0 at *
    have ca : ∀ o, (W0.alloc o).cell? ⟨g, 0, none⟩ = some _ := fun o => pw_cell_below (below_alloc (Below.refl _ _) o) c0_0
    have cb : ∀ o, (W0.alloc o).cell? ⟨w.heap.size, 1, none⟩ = some _ := fun o => pw_cell_below (below_alloc (Below.refl _ _) o) b1_0
    go_region_law (first | (refine elem_step (by rfl) (.tmp 22) (.tmp 25) 87 rfl Try.underlying87 w0.heap.size (H0.out.1.below (drewB _)).2.2 rfl x1 1 (by first | rfl | (go_simp; done) | (simp [World.alloc]; done)) (by have := HL.out; omega) (Nat.le_trans H0.out.2.1.size (drewB _).size) ?_ rfl; intro v9 w9 hm9 hg9 hat9; obtain ⟨A9, m9, c9, rfl⟩ := mrow_sl hm9; have k9 := ew_cell hg9 (H0.out.1.below (drewB _)); have k8 := ew_frozen hg9 (H0.out.1.below (drewB _))))
    all_goals
      have H9 := Lib.hid ((H0.out.quiet HG.out (drewB _)).byte HG.out (b := x1.toNat) (by have := HX1.out; omega) hm9 hg9 hat9)
      clear b0_0 b1_0 b2_0 b3_0 b4_0 b5_0 b6_0 b7_0 c0_0 c1_0 f0_0
      clear hm9 hg9 hat9 k9 k8 ca cb H0
      generalize w9.setCell ⟨g, 0, none⟩ _ = W9 at *
      obtain ⟨b0_9, b1_9, b2_9, b3_9, b4_9, b5_9, b6_9, b7_9⟩ := box8 H9.out.2.2.2
      have c0_9 := H9.out.c0
      have c1_9 := H9.out.c1
      have f0_9 := H9.out.f0
      go_wp2_with fail
      refine (targets_any w0 _ g _ (opS x1 false s) x0 x1 false x3 x4 x5 A6 c6 x6 A7 c7 x7 0 H9.out.1 H9.out.2.1).mono ?_
      rintro e10 w10 ⟨rfl, hb10, hw10, hs10⟩
      have H10 := Lib.hid (H9.out.call HG.out hw10 hb10 hs10)
      clear b0_9 b1_9 b2_9 b3_9 b4_9 b5_9 b6_9 b7_9 c0_9 c1_9 f0_9
      clear hb10 hw10 hs10 H9
      obtain ⟨b0_10, b1_10, b2_10, b3_10, b4_10, b5_10, b6_10, b7_10⟩ := box8 H10.out.2.2.2
      have c0_10 := H10.out.c0
      have c1_10 := H10.out.c1
      have f0_10 := H10.out.f0
      go_wp2_with fail
      refine (unsigned_any w0 _ g _ (tgtS x7 0 (opS x1 false s)) x3 2 2 rfl (by omega) H10.out.1 H10.out.2.1 (by have := HL.out; simp only [opS, tgtS, sgnS, unsS, putS, Bool.false_eq_true, ↓reduceIte, List.length_append, List.length_cons, List.length_nil, bigB_length]; omega)).mono ?_
      rintro e11 w11 ⟨rfl, hb11, v11, hw11, hs11⟩
      have H11 := Lib.hid (H10.out.call HG.out hw11 hb11 hs11)
      clear b0_10 b1_10 b2_10 b3_10 b4_10 b5_10 b6_10 b7_10 c0_10 c1_10 f0_10
      clear hb11 hw11 hs11 H10
      obtain ⟨b0_11, b1_11, b2_11, b3_11, b4_11, b5_11, b6_11, b7_11⟩ := box8 H11.out.2.2.2
      have c0_11 := H11.out.c0
      have c1_11 := H11.out.c1
      have f0_11 := H11.out.f0
      go_wp2_with fail
      refine (put_any w0 _ g _ (unsS x3 2 (tgtS x7 0 (opS x1 false s))) x4 1 1 rfl (by omega) 1 255 H11.out.1 H11.out.2.1 (by have := HL.out; simp only [opS, tgtS, sgnS, unsS, putS, Bool.false_eq_true, ↓reduceIte, List.length_append, List.length_cons, List.length_nil, bigB_length]; omega)).mono ?_
      rintro e12 w12 ⟨rfl, hb12, v12, hw12, hs12⟩
      have H12 := Lib.hid (H11.out.call HG.out hw12 hb12 hs12)
      clear b0_11 b1_11 b2_11 b3_11 b4_11 b5_11 b6_11 b7_11 c0_11 c1_11 f0_11
      clear hb12 hw12 hs12 H11
      obtain ⟨b0_12, b1_12, b2_12, b3_12, b4_12, b5_12, b6_12, b7_12⟩ := box8 H12.out.2.2.2
      have c0_12 := H12.out.c0
      have c1_12 := H12.out.c1
      have f0_12 := H12.out.f0
      go_wp2
      go_end0
      exact H12.out.post
  | true =>
    have H0 := Lib.hid (St.start (c := #[.int .i64 x0, .int .u8 x1, .bool true, .int .i64 x3, .int .i64 x4, .int .i64 x5, .slice A6 x6.length c6, .slice A7 x7.length c7]) HW.out HB.out)
    have HG := Lib.hid (show w.heap.size ≠ g by have := HW.out.lt; omega)
    obtain ⟨b0_0, b1_0, b2_0, b3_0, b4_0, b5_0, b6_0, b7_0⟩ := box8 H0.out.2.2.2
    have c0_0 := H0.out.c0
    have c1_0 := H0.out.c1
    have f0_0 := H0.out.f0
    go_enter Try.func79, Try.ntmps79
    go_wp2_with (at_builtin; refine app_e rfl _ _ 87 rfl Try.underlying87 w0.heap.size H0.out.1.2.2 rfl 196 1 (by first | rfl | (go_simp; done) | (simp [World.alloc]; done)) (by have := HL.out; omega) H0.out.2.1.size ?_ rfl; intro v1 w1 hm1 hg1 hat1; obtain ⟨A1, m1, c1, rfl⟩ := mrow_sl hm1; have k0 := ew_cell hg1 H0.out.1; have k1 := ew_frozen hg1 H0.out.1)
    have H1 := Lib.hid (H0.out.byte HG.out (b := 196) rfl hm1 hg1 hat1)
    clear b0_0 b1_0 b2_0 b3_0 b4_0 b5_0 b6_0 b7_0 c0_0 c1_0 f0_0
    clear hm1 hg1 hat1 k0 k1 H0
    generalize w1.setCell ⟨g, 0, none⟩ _ = W1 at *
    obtain ⟨b0_1, b1_1, b2_1, b3_1, b4_1, b5_1, b6_1, b7_1⟩ := box8 H1.out.2.2.2
    have c0_1 := H1.out.c0
    have c1_1 := H1.out.c1
    have f0_1 := H1.out.f0
    have ca : ∀ o, (W1.alloc o).cell? ⟨g, 0, none⟩ = some _ := fun o => pw_cell_below (below_alloc (Below.refl _ _) o) c0_1
    have cb : ∀ o, (W1.alloc o).cell? ⟨w.heap.size, 1, none⟩ = some _ := fun o => pw_cell_below (below_alloc (Below.refl _ _) o) b1_1
    go_region_law (first | (refine elem_step (by rfl) (.tmp 22) (.tmp 25) 87 rfl Try.underlying87 w0.heap.size (H1.out.1.below (drewB _)).2.2 rfl x1 1 (by first | rfl | (go_simp; done) | (simp [World.alloc]; done)) (by have := HL.out; simp only [List.length_append, List.length_cons, List.length_nil]; omega) (Nat.le_trans H1.out.2.1.size (drewB _).size) ?_ rfl; intro v9 w9 hm9 hg9 hat9; obtain ⟨A9, m9, c9, rfl⟩ := mrow_sl hm9; have k9 := ew_cell hg9 (H1.out.1.below (drewB _)); have k8 := ew_frozen hg9 (H1.out.1.below (drewB _))))
    all_goals
      have H9 := Lib.hid ((H1.out.quiet HG.out (drewB _)).byte HG.out (b := x1.toNat) (by have := HX1.out; omega) hm9 hg9 hat9)
      clear b0_1 b1_1 b2_1 b3_1 b4_1 b5_1 b6_1 b7_1 c0_1 c1_1 f0_1
      clear hm9 hg9 hat9 k9 k8 ca cb H1
      generalize w9.setCell ⟨g, 0, none⟩ _ = W9 at *
      obtain ⟨b0_9, b1_9, b2_9, b3_9, b4_9, b5_9, b6_9, b7_9⟩ := box8 H9.out.2.2.2
      have c0_9 := H9.out.c0
      have c1_9 := H9.out.c1
      have f0_9 := H9.out.f0
      go_wp2_with fail
      refine (targets_any w0 _ g _ (opS x1 true s) x0 x1 true x3 x4 x5 A6 c6 x6 A7 c7 x7 0 H9.out.1 H9.out.2.1).mono ?_
      rintro e10 w10 ⟨rfl, hb10, hw10, hs10⟩
      have H10 := Lib.hid (H9.out.call HG.out hw10 hb10 hs10)
      clear b0_9 b1_9 b2_9 b3_9 b4_9 b5_9 b6_9 b7_9 c0_9 c1_9 f0_9
      clear hb10 hw10 hs10 H9
      obtain ⟨b0_10, b1_10, b2_10, b3_10, b4_10, b5_10, b6_10, b7_10⟩ := box8 H10.out.2.2.2
      have c0_10 := H10.out.c0
      have c1_10 := H10.out.c1
      have f0_10 := H10.out.f0
      go_wp2_with fail
      refine (unsigned_any w0 _ g _ (tgtS x7 0 (opS x1 true s)) x3 2 2 rfl (by omega) H10.out.1 H10.out.2.1 (by have := HL.out; simp only [opS, tgtS, sgnS, unsS, putS, Bool.false_eq_true, ↓reduceIte, List.length_append, List.length_cons, List.length_nil, bigB_length]; omega)).mono ?_
      rintro e11 w11 ⟨rfl, hb11, v11, hw11, hs11⟩
      have H11 := Lib.hid (H10.out.call HG.out hw11 hb11 hs11)
      clear b0_10 b1_10 b2_10 b3_10 b4_10 b5_10 b6_10 b7_10 c0_10 c1_10 f0_10
      clear hb11 hw11 hs11 H10
      obtain ⟨b0_11, b1_11, b2_11, b3_11, b4_11, b5_11, b6_11, b7_11⟩ := box8 H11.out.2.2.2
      have c0_11 := H11.out.c0
      have c1_11 := H11.out.c1
      have f0_11 := H11.out.f0
      go_wp2_with fail
      refine (put_any w0 _ g _ (unsS x3 2 (tgtS x7 0 (opS x1 true s))) x4 1 1 rfl (by omega) 1 255 H11.out.1 H11.out.2.1 (by have := HL.out; simp only [opS, tgtS, sgnS, unsS, putS, Bool.false_eq_true, ↓reduceIte, List.length_append, List.length_cons, List.length_nil, bigB_length]; omega)).mono ?_
      rintro e12 w12 ⟨rfl, hb12, v12, hw12, hs12⟩
      have H12 := Lib.hid (H11.out.call HG.out hw12 hb12 hs12)
      clear b0_11 b1_11 b2_11 b3_11 b4_11 b5_11 b6_11 b7_11 c0_11 c1_11 f0_11
      clear hb12 hw12 hs12 H11
      obtain ⟨b0_12, b1_12, b2_12, b3_12, b4_12, b5_12, b6_12, b7_12⟩ := box8 H12.out.2.2.2
      have c0_12 := H12.out.c0
      have c1_12 := H12.out.c1
      have f0_12 := H12.out.f0
      go_wp2
      go_end0
      exact H12.out.post
end Go.Proofs.Ytfnjbmpolggdeaa.CW
end
section
namespace Go.Proofs.Ytfnjbmpolggdeaa.CW
open Go.RowKit Go.Lib Go.Proofs.YtfnjbmpolggdeaaW.PrintWords Go.Proofs.YtfnjbmpolggdeaaW.PrintLast Go.Proofs.YtfnjbmpolggdeaaW.PrintMore
set_option linter.unusedVariables false
set_option linter.unusedSimpArgs false
attribute [local go_sem] max2_int min2_int max_two min_two max_three min_three max_four min_four
def oneF8 (x0 x1 : Int) (x2 : Bool) (x3 x4 x5 : Int) (x6 x7 : List Int) (s : List Nat × Bool) : List Nat × Bool := if (tgtS x7 1 (opS x1 x2 s)).2 = true then sgnS (IntKind.i64.wrap (rd x7 0 - x0)) 2 (tgtS x7 1 (opS x1 x2 s)) else tgtS x7 1 (opS x1 x2 s)
set_option maxHeartbeats 8000000 in
set_option maxRecDepth 100000 in
theorem one_f8 (w0 w : World) (g : Nat) (v : Value) (s : List Nat × Bool) (x0 x1 : Int) (x2 : Bool) (x3 x4 x5 : Int) (A6 : Option Addr) (c6 : Nat) (x6 : List Int) (A7 : Option Addr) (c7 : Nat) (x7 : List Int) (hx1 : 0 ≤ x1 ∧ x1 < 256) (hr7 : Kd.C (Kd.int .i64) w0 A7 x7.length x7) (hW : BW w0.heap.size w g 114 (ewC s.2) v s.1) (hB : Below w0.heap.size w0 w) (hl : s.1.length + 100 ≤ 140737488355328) :
    Calls Try.prog 79 #[.pointer (some ⟨g, 0, none⟩), .agg #[.int .i64 x0, .int .u8 x1, .bool x2, .int .i64 x3, .int .i64 x4, .int .i64 x5, .slice A6 x6.length c6, .slice A7 x7.length c7], .int .i64 8] w (EncPost w0 w g v (oneF8 x0 x1 x2 x3 x4 x5 x6 x7 s)) := by

  have HX1 := Lib.hid hx1
  have HW := Lib.hid hW
  have HB := Lib.hid hB
  have HL := Lib.hid hl
  clear hx1 hW hB hl
  have H7 := Lib.hid hr7
  clear hr7
  cases x2 with
  | false =>
    have H0 := Lib.hid (St.start (c := #[.int .i64 x0, .int .u8 x1, .bool false, .int .i64 x3, .int .i64 x4, .int .i64 x5, .slice A6 x6.length c6, .slice A7 x7.length c7]) HW.out HB.out)
    have HG := Lib.hid (show w.heap.size ≠ g by have := HW.out.lt; omega)
    obtain ⟨b0_0, b1_0, b2_0, b3_0, b4_0, b5_0, b6_0, b7_0⟩ := box8 H0.out.2.2.2
    have c0_0 := H0.out.c0
    have c1_0 := H0.out.c1
    have f0_0 := H0.out.f0
    go_enter Try.func79, Try.ntmps79
    go_wp2_with fail
    generalize w.alloc (.cells #[.int .i64 x0, .int .u8 x1, .bool false, .int .i64 x3, .int .i64 x4, .int .i64 x5, .slice A6 x6.length c6, .slice A7 x7.length c7] 82) = W0 at *
    have ca : ∀ o, (W0.alloc o).cell? ⟨g, 0, none⟩ = some _ := fun o => pw_cell_below (below_alloc (Below.refl _ _) o) c0_0
    have cb : ∀ o, (W0.alloc o).cell? ⟨w.heap.size, 1, none⟩ = some _ := fun o => pw_cell_below (below_alloc (Below.refl _ _) o) b1_0
    go_region_law (first | (refine elem_step (by rfl) (.tmp 22) (.tmp 25) 87 rfl Try.underlying87 w0.heap.size (H0.out.1.below (drewB _)).2.2 rfl x1 1 (by first | rfl | (go_simp; done) | (simp [World.alloc]; done)) (by have := HL.out; omega) (Nat.le_trans H0.out.2.1.size (drewB _).size) ?_ rfl; intro v9 w9 hm9 hg9 hat9; obtain ⟨A9, m9, c9, rfl⟩ := mrow_sl hm9; have k9 := ew_cell hg9 (H0.out.1.below (drewB _)); have k8 := ew_frozen hg9 (H0.out.1.below (drewB _))))
    all_goals
      have H9 := Lib.hid ((H0.out.quiet HG.out (drewB _)).byte HG.out (b := x1.toNat) (by have := HX1.out; omega) hm9 hg9 hat9)
      clear b0_0 b1_0 b2_0 b3_0 b4_0 b5_0 b6_0 b7_0 c0_0 c1_0 f0_0
      clear hm9 hg9 hat9 k9 k8 ca cb H0
      generalize w9.setCell ⟨g, 0, none⟩ _ = W9 at *
      obtain ⟨b0_9, b1_9, b2_9, b3_9, b4_9, b5_9, b6_9, b7_9⟩ := box8 H9.out.2.2.2
      have c0_9 := H9.out.c0
      have c1_9 := H9.out.c1
      have f0_9 := H9.out.f0
      go_wp2_with fail
      refine (targets_any w0 _ g _ (opS x1 false s) x0 x1 false x3 x4 x5 A6 c6 x6 A7 c7 x7 1 H9.out.1 H9.out.2.1).mono ?_
      rintro e10 w10 ⟨rfl, hb10, hw10, hs10⟩
      have H10 := Lib.hid (H9.out.call HG.out hw10 hb10 hs10)
      clear b0_9 b1_9 b2_9 b3_9 b4_9 b5_9 b6_9 b7_9 c0_9 c1_9 f0_9
      clear hb10 hw10 hs10 H9
      obtain ⟨b0_10, b1_10, b2_10, b3_10, b4_10, b5_10, b6_10, b7_10⟩ := box8 H10.out.2.2.2
      have c0_10 := H10.out.c0
      have c1_10 := H10.out.c1
      have f0_10 := H10.out.f0
      cases hq : (tgtS x7 1 (opS x1 false s)).2 with
      | false =>
        have HQ := Lib.hid hq
        clear hq
        go_wp2
        go_end0
        unfold oneF8
        rw [if_neg (by rw [HQ.out]; simp)]
        exact H10.out.post
      | true =>
        have hlen : x7.length = 1 := by have := hq; simp only [tgtS, Bool.and_eq_true, beq_iff_eq] at this; omega
        obtain ⟨ad, e7, y0⟩ := Kd.at_int H7.out 0 (by omega) (by omega)
        subst e7
        have y1 := pw_cell_below H10.out.2.1 y0
        have y2 := pw_cell_below (drewB _) y1
        have e0 : ad.add 0 = ad := by cases ad; unfold Addr.add; split <;> simp_all
        simp only [Int.toNat_zero, e0] at y1 y2
        have z0 : (0 : Int) < (x7.length : Int) := by omega
        have z1 : 0 < x7.length := by omega
        have HQ := Lib.hid hq
        clear y0 hlen hq
        go_wp2_with fail
        go_region_law (first | (go_simp; refine (signed_any w0 _ g _ (tgtS x7 1 (opS x1 false s)) (IntKind.i64.wrap (rd x7 0 - x0)) 2 2 rfl (by omega) (H10.out.1.below (drewB _)) (below_then H10.out.2.1 H10.out.2.1.size (drewB _)) (by have := HL.out; simp only [opS, tgtS, Bool.false_eq_true, ↓reduceIte, List.length_append, List.length_cons, List.length_nil]; omega)).mono ?_; rintro e11 w11 ⟨rfl, hb11, v11, hw11, hs11⟩; dsimp only))
        all_goals
          go_wp2
          go_end0
          unfold oneF8
          rw [if_pos HQ.out]
          exact ((H10.out.quiet HG.out (drewB _)).call HG.out hw11 hb11 hs11).post
  | true =>
    have H0 := Lib.hid (St.start (c := #[.int .i64 x0, .int .u8 x1, .bool true, .int .i64 x3, .int .i64 x4, .int .i64 x5, .slice A6 x6.length c6, .slice A7 x7.length c7]) HW.out HB.out)
    have HG := Lib.hid (show w.heap.size ≠ g by have := HW.out.lt; omega)
    obtain ⟨b0_0, b1_0, b2_0, b3_0, b4_0, b5_0, b6_0, b7_0⟩ := box8 H0.out.2.2.2
    have c0_0 := H0.out.c0
    have c1_0 := H0.out.c1
    have f0_0 := H0.out.f0
    go_enter Try.func79, Try.ntmps79
    go_wp2_with (at_builtin; refine app_e rfl _ _ 87 rfl Try.underlying87 w0.heap.size H0.out.1.2.2 rfl 196 1 (by first | rfl | (go_simp; done) | (simp [World.alloc]; done)) (by have := HL.out; omega) H0.out.2.1.size ?_ rfl; intro v1 w1 hm1 hg1 hat1; obtain ⟨A1, m1, c1, rfl⟩ := mrow_sl hm1; have k0 := ew_cell hg1 H0.out.1; have k1 := ew_frozen hg1 H0.out.1)
    have H1 := Lib.hid (H0.out.byte HG.out (b := 196) rfl hm1 hg1 hat1)
    clear b0_0 b1_0 b2_0 b3_0 b4_0 b5_0 b6_0 b7_0 c0_0 c1_0 f0_0
    clear hm1 hg1 hat1 k0 k1 H0
    generalize w1.setCell ⟨g, 0, none⟩ _ = W1 at *
    obtain ⟨b0_1, b1_1, b2_1, b3_1, b4_1, b5_1, b6_1, b7_1⟩ := box8 H1.out.2.2.2
    have c0_1 := H1.out.c0
    have c1_1 := H1.out.c1
    have f0_1 := H1.out.f0
    have ca : ∀ o, (W1.alloc o).cell? ⟨g, 0, none⟩ = some _ := fun o => pw_cell_below (below_alloc (Below.refl _ _) o) c0_1
    have cb : ∀ o, (W1.alloc o).cell? ⟨w.heap.size, 1, none⟩ = some _ := fun o => pw_cell_below (below_alloc (Below.refl _ _) o) b1_1
    go_region_law (first | (refine elem_step (by rfl) (.tmp 22) (.tmp 25) 87 rfl Try.underlying87 w0.heap.size (H1.out.1.below (drewB _)).2.2 rfl x1 1 (by first | rfl | (go_simp; done) | (simp [World.alloc]; done)) (by have := HL.out; simp only [List.length_append, List.length_cons, List.length_nil]; omega) (Nat.le_trans H1.out.2.1.size (drewB _).size) ?_ rfl; intro v9 w9 hm9 hg9 hat9; obtain ⟨A9, m9, c9, rfl⟩ := mrow_sl hm9; have k9 := ew_cell hg9 (H1.out.1.below (drewB _)); have k8 := ew_frozen hg9 (H1.out.1.below (drewB _))))
    all_goals
      have H9 := Lib.hid ((H1.out.quiet HG.out (drewB _)).byte HG.out (b := x1.toNat) (by have := HX1.out; omega) hm9 hg9 hat9)
      clear b0_1 b1_1 b2_1 b3_1 b4_1 b5_1 b6_1 b7_1 c0_1 c1_1 f0_1
      clear hm9 hg9 hat9 k9 k8 ca cb H1
      generalize w9.setCell ⟨g, 0, none⟩ _ = W9 at *
      obtain ⟨b0_9, b1_9, b2_9, b3_9, b4_9, b5_9, b6_9, b7_9⟩ := box8 H9.out.2.2.2
      have c0_9 := H9.out.c0
      have c1_9 := H9.out.c1
      have f0_9 := H9.out.f0
      go_wp2_with fail
      refine (targets_any w0 _ g _ (opS x1 true s) x0 x1 true x3 x4 x5 A6 c6 x6 A7 c7 x7 1 H9.out.1 H9.out.2.1).mono ?_
      rintro e10 w10 ⟨rfl, hb10, hw10, hs10⟩
      have H10 := Lib.hid (H9.out.call HG.out hw10 hb10 hs10)
      clear b0_9 b1_9 b2_9 b3_9 b4_9 b5_9 b6_9 b7_9 c0_9 c1_9 f0_9
      clear hb10 hw10 hs10 H9
      obtain ⟨b0_10, b1_10, b2_10, b3_10, b4_10, b5_10, b6_10, b7_10⟩ := box8 H10.out.2.2.2
      have c0_10 := H10.out.c0
      have c1_10 := H10.out.c1
      have f0_10 := H10.out.f0
      cases hq : (tgtS x7 1 (opS x1 true s)).2 with
      | false =>
        have HQ := Lib.hid hq
        clear hq
        go_wp2
        go_end0
        unfold oneF8
        rw [if_neg (by rw [HQ.out]; simp)]
        exact H10.out.post
      | true =>
        have hlen : x7.length = 1 := by have := hq; simp only [tgtS, Bool.and_eq_true, beq_iff_eq] at this; omega
        obtain ⟨ad, e7, y0⟩ := Kd.at_int H7.out 0 (by omega) (by omega)
        subst e7
        have y1 := pw_cell_below H10.out.2.1 y0
        have y2 := pw_cell_below (drewB _) y1
        have e0 : ad.add 0 = ad := by cases ad; unfold Addr.add; split <;> simp_all
        simp only [Int.toNat_zero, e0] at y1 y2
        have z0 : (0 : Int) < (x7.length : Int) := by omega
        have z1 : 0 < x7.length := by omega
        have HQ := Lib.hid hq
        clear y0 hlen hq
        go_wp2_with fail
        go_region_law (first | (go_simp; refine (signed_any w0 _ g _ (tgtS x7 1 (opS x1 true s)) (IntKind.i64.wrap (rd x7 0 - x0)) 2 2 rfl (by omega) (H10.out.1.below (drewB _)) (below_then H10.out.2.1 H10.out.2.1.size (drewB _)) (by have := HL.out; simp only [opS, tgtS, Bool.false_eq_true, ↓reduceIte, List.length_append, List.length_cons, List.length_nil]; omega)).mono ?_; rintro e11 w11 ⟨rfl, hb11, v11, hw11, hs11⟩; dsimp only))
        all_goals
          go_wp2
          go_end0
          unfold oneF8
          rw [if_pos HQ.out]
          exact ((H10.out.quiet HG.out (drewB _)).call HG.out hw11 hb11 hs11).post
def oneF9 (x0 x1 : Int) (x2 : Bool) (x3 x4 x5 : Int) (x6 x7 : List Int) (s : List Nat × Bool) : List Nat × Bool := if (tgtS x7 1 (opS x1 x2 s)).2 = true then sgnS (IntKind.i64.wrap (rd x7 0 - x0)) 4 (tgtS x7 1 (opS x1 x2 s)) else tgtS x7 1 (opS x1 x2 s)
set_option maxHeartbeats 8000000 in
set_option maxRecDepth 100000 in
theorem one_f9 (w0 w : World) (g : Nat) (v : Value) (s : List Nat × Bool) (x0 x1 : Int) (x2 : Bool) (x3 x4 x5 : Int) (A6 : Option Addr) (c6 : Nat) (x6 : List Int) (A7 : Option Addr) (c7 : Nat) (x7 : List Int) (hx1 : 0 ≤ x1 ∧ x1 < 256) (hr7 : Kd.C (Kd.int .i64) w0 A7 x7.length x7) (hW : BW w0.heap.size w g 114 (ewC s.2) v s.1) (hB : Below w0.heap.size w0 w) (hl : s.1.length + 100 ≤ 140737488355328) :
    Calls Try.prog 79 #[.pointer (some ⟨g, 0, none⟩), .agg #[.int .i64 x0, .int .u8 x1, .bool x2, .int .i64 x3, .int .i64 x4, .int .i64 x5, .slice A6 x6.length c6, .slice A7 x7.length c7], .int .i64 9] w (EncPost w0 w g v (oneF9 x0 x1 x2 x3 x4 x5 x6 x7 s)) := by

  have HX1 := Lib.hid hx1
  have HW := Lib.hid hW
  have HB := Lib.hid hB
  have HL := Lib.hid hl
  clear hx1 hW hB hl
  have H7 := Lib.hid hr7
  clear hr7
  cases x2 with
  | false =>
    have H0 := Lib.hid (St.start (c := #[.int .i64 x0, .int .u8 x1, .bool false, .int .i64 x3, .int .i64 x4, .int .i64 x5, .slice A6 x6.length c6, .slice A7 x7.length c7]) HW.out HB.out)
    have HG := Lib.hid (show w.heap.size ≠ g by have := HW.out.lt; omega)
    obtain ⟨b0_0, b1_0, b2_0, b3_0, b4_0, b5_0, b6_0, b7_0⟩ := box8 H0.out.2.2.2
    have c0_0 := H0.out.c0
    have c1_0 := H0.out.c1
    have f0_0 := H0.out.f0
    go_enter Try.func79, Try.ntmps79
    go_wp2_with fail
    generalize w.alloc (.cells #[.int .i64 x0, .int .u8 x1, .bool false, .int .i64 x3, .int .i64 x4, .int .i64 x5, .slice A6 x6.length c6, .slice A7 x7.length c7] 82) = W0 at *
    have ca : ∀ o, (W0.alloc o).cell? ⟨g, 0, none⟩ = some _ := fun o => pw_cell_below (below_alloc (Below.refl _ _) o) c0_0
    have cb : ∀ o, (W0.alloc o).cell? ⟨w.heap.size, 1, none⟩ = some _ := fun o => pw_cell_below (below_alloc (Below.refl _ _) o) b1_0
    go_region_law (first | (refine elem_step (by rfl) (.tmp 22) (.tmp 25) 87 rfl Try.underlying87 w0.heap.size (H0.out.1.below (drewB _)).2.2 rfl x1 1 (by first | rfl | (go_simp; done) | (simp [World.alloc]; done)) (by have := HL.out; omega) (Nat.le_trans H0.out.2.1.size (drewB _).size) ?_ rfl; intro v9 w9 hm9 hg9 hat9; obtain ⟨A9, m9, c9, rfl⟩ := mrow_sl hm9; have k9 := ew_cell hg9 (H0.out.1.below (drewB _)); have k8 := ew_frozen hg9 (H0.out.1.below (drewB _))))
    all_goals
      have H9 := Lib.hid ((H0.out.quiet HG.out (drewB _)).byte HG.out (b := x1.toNat) (by have := HX1.out; omega) hm9 hg9 hat9)
      clear b0_0 b1_0 b2_0 b3_0 b4_0 b5_0 b6_0 b7_0 c0_0 c1_0 f0_0
      clear hm9 hg9 hat9 k9 k8 ca cb H0
      generalize w9.setCell ⟨g, 0, none⟩ _ = W9 at *
      obtain ⟨b0_9, b1_9, b2_9, b3_9, b4_9, b5_9, b6_9, b7_9⟩ := box8 H9.out.2.2.2
      have c0_9 := H9.out.c0
      have c1_9 := H9.out.c1
      have f0_9 := H9.out.f0
      go_wp2_with fail
      refine (targets_any w0 _ g _ (opS x1 false s) x0 x1 false x3 x4 x5 A6 c6 x6 A7 c7 x7 1 H9.out.1 H9.out.2.1).mono ?_
      rintro e10 w10 ⟨rfl, hb10, hw10, hs10⟩
      have H10 := Lib.hid (H9.out.call HG.out hw10 hb10 hs10)
      clear b0_9 b1_9 b2_9 b3_9 b4_9 b5_9 b6_9 b7_9 c0_9 c1_9 f0_9
      clear hb10 hw10 hs10 H9
      obtain ⟨b0_10, b1_10, b2_10, b3_10, b4_10, b5_10, b6_10, b7_10⟩ := box8 H10.out.2.2.2
      have c0_10 := H10.out.c0
      have c1_10 := H10.out.c1
      have f0_10 := H10.out.f0
      cases hq : (tgtS x7 1 (opS x1 false s)).2 with
      | false =>
        have HQ := Lib.hid hq
        clear hq
        go_wp2
        go_end0
        unfold oneF9
        rw [if_neg (by rw [HQ.out]; simp)]
        exact H10.out.post
      | true =>
        have hlen : x7.length = 1 := by have := hq; simp only [tgtS, Bool.and_eq_true, beq_iff_eq] at this; omega
        obtain ⟨ad, e7, y0⟩ := Kd.at_int H7.out 0 (by omega) (by omega)
        subst e7
        have y1 := pw_cell_below H10.out.2.1 y0
        have y2 := pw_cell_below (drewB _) y1
        have e0 : ad.add 0 = ad := by cases ad; unfold Addr.add; split <;> simp_all
        simp only [Int.toNat_zero, e0] at y1 y2
        have z0 : (0 : Int) < (x7.length : Int) := by omega
        have z1 : 0 < x7.length := by omega
        have HQ := Lib.hid hq
        clear y0 hlen hq
        go_wp2_with fail
        go_region_law (first | (go_simp; refine (signed_any w0 _ g _ (tgtS x7 1 (opS x1 false s)) (IntKind.i64.wrap (rd x7 0 - x0)) 4 4 rfl (by omega) (H10.out.1.below (drewB _)) (below_then H10.out.2.1 H10.out.2.1.size (drewB _)) (by have := HL.out; simp only [opS, tgtS, Bool.false_eq_true, ↓reduceIte, List.length_append, List.length_cons, List.length_nil]; omega)).mono ?_; rintro e11 w11 ⟨rfl, hb11, v11, hw11, hs11⟩; dsimp only))
        all_goals
          go_wp2
          go_end0
          unfold oneF9
          rw [if_pos HQ.out]
          exact ((H10.out.quiet HG.out (drewB _)).call HG.out hw11 hb11 hs11).post
  | true =>
    have H0 := Lib.hid (St.start (c := #[.int .i64 x0, .int .u8 x1, .bool true, .int .i64 x3, .int .i64 x4, .int .i64 x5, .slice A6 x6.length c6, .slice A7 x7.length c7]) HW.out HB.out)
    have HG := Lib.hid (show w.heap.size ≠ g by have := HW.out.lt; omega)
    obtain ⟨b0_0, b1_0, b2_0, b3_0, b4_0, b5_0, b6_0, b7_0⟩ := box8 H0.out.2.2.2
    have c0_0 := H0.out.c0
    have c1_0 := H0.out.c1
    have f0_0 := H0.out.f0
    go_enter Try.func79, Try.ntmps79
    go_wp2_with (at_builtin; refine app_e rfl _ _ 87 rfl Try.underlying87 w0.heap.size H0.out.1.2.2 rfl 196 1 (by first | rfl | (go_simp; done) | (simp [World.alloc]; done)) (by have := HL.out; omega) H0.out.2.1.size ?_ rfl; intro v1 w1 hm1 hg1 hat1; obtain ⟨A1, m1, c1, rfl⟩ := mrow_sl hm1; have k0 := ew_cell hg1 H0.out.1; have k1 := ew_frozen hg1 H0.out.1)
    have H1 := Lib.hid (H0.out.byte HG.out (b := 196) rfl hm1 hg1 hat1)
    clear b0_0 b1_0 b2_0 b3_0 b4_0 b5_0 b6_0 b7_0 c0_0 c1_0 f0_0
    clear hm1 hg1 hat1 k0 k1 H0
    generalize w1.setCell ⟨g, 0, none⟩ _ = W1 at *
    obtain ⟨b0_1, b1_1, b2_1, b3_1, b4_1, b5_1, b6_1, b7_1⟩ := box8 H1.out.2.2.2
    have c0_1 := H1.out.c0
    have c1_1 := H1.out.c1
    have f0_1 := H1.out.f0
    have ca : ∀ o, (W1.alloc o).cell? ⟨g, 0, none⟩ = some _ := fun o => pw_cell_below (below_alloc (Below.refl _ _) o) c0_1
    have cb : ∀ o, (W1.alloc o).cell? ⟨w.heap.size, 1, none⟩ = some _ := fun o => pw_cell_below (below_alloc (Below.refl _ _) o) b1_1
    go_region_law (first | (refine elem_step (by rfl) (.tmp 22) (.tmp 25) 87 rfl Try.underlying87 w0.heap.size (H1.out.1.below (drewB _)).2.2 rfl x1 1 (by first | rfl | (go_simp; done) | (simp [World.alloc]; done)) (by have := HL.out; simp only [List.length_append, List.length_cons, List.length_nil]; omega) (Nat.le_trans H1.out.2.1.size (drewB _).size) ?_ rfl; intro v9 w9 hm9 hg9 hat9; obtain ⟨A9, m9, c9, rfl⟩ := mrow_sl hm9; have k9 := ew_cell hg9 (H1.out.1.below (drewB _)); have k8 := ew_frozen hg9 (H1.out.1.below (drewB _))))
    all_goals
      have H9 := Lib.hid ((H1.out.quiet HG.out (drewB _)).byte HG.out (b := x1.toNat) (by have := HX1.out; omega) hm9 hg9 hat9)
      clear b0_1 b1_1 b2_1 b3_1 b4_1 b5_1 b6_1 b7_1 c0_1 c1_1 f0_1
      clear hm9 hg9 hat9 k9 k8 ca cb H1
      generalize w9.setCell ⟨g, 0, none⟩ _ = W9 at *
      obtain ⟨b0_9, b1_9, b2_9, b3_9, b4_9, b5_9, b6_9, b7_9⟩ := box8 H9.out.2.2.2
      have c0_9 := H9.out.c0
      have c1_9 := H9.out.c1
      have f0_9 := H9.out.f0
      go_wp2_with fail
      refine (targets_any w0 _ g _ (opS x1 true s) x0 x1 true x3 x4 x5 A6 c6 x6 A7 c7 x7 1 H9.out.1 H9.out.2.1).mono ?_
      rintro e10 w10 ⟨rfl, hb10, hw10, hs10⟩
      have H10 := Lib.hid (H9.out.call HG.out hw10 hb10 hs10)
      clear b0_9 b1_9 b2_9 b3_9 b4_9 b5_9 b6_9 b7_9 c0_9 c1_9 f0_9
      clear hb10 hw10 hs10 H9
      obtain ⟨b0_10, b1_10, b2_10, b3_10, b4_10, b5_10, b6_10, b7_10⟩ := box8 H10.out.2.2.2
      have c0_10 := H10.out.c0
      have c1_10 := H10.out.c1
      have f0_10 := H10.out.f0
      cases hq : (tgtS x7 1 (opS x1 true s)).2 with
      | false =>
        have HQ := Lib.hid hq
        clear hq
        go_wp2
        go_end0
        unfold oneF9
        rw [if_neg (by rw [HQ.out]; simp)]
        exact H10.out.post
      | true =>
        have hlen : x7.length = 1 := by have := hq; simp only [tgtS, Bool.and_eq_true, beq_iff_eq] at this; omega
        obtain ⟨ad, e7, y0⟩ := Kd.at_int H7.out 0 (by omega) (by omega)
        subst e7
        have y1 := pw_cell_below H10.out.2.1 y0
        have y2 := pw_cell_below (drewB _) y1
        have e0 : ad.add 0 = ad := by cases ad; unfold Addr.add; split <;> simp_all
        simp only [Int.toNat_zero, e0] at y1 y2
        have z0 : (0 : Int) < (x7.length : Int) := by omega
        have z1 : 0 < x7.length := by omega
        have HQ := Lib.hid hq
        clear y0 hlen hq
        go_wp2_with fail
        go_region_law (first | (go_simp; refine (signed_any w0 _ g _ (tgtS x7 1 (opS x1 true s)) (IntKind.i64.wrap (rd x7 0 - x0)) 4 4 rfl (by omega) (H10.out.1.below (drewB _)) (below_then H10.out.2.1 H10.out.2.1.size (drewB _)) (by have := HL.out; simp only [opS, tgtS, Bool.false_eq_true, ↓reduceIte, List.length_append, List.length_cons, List.length_nil]; omega)).mono ?_; rintro e11 w11 ⟨rfl, hb11, v11, hw11, hs11⟩; dsimp only))
        all_goals
          go_wp2
          go_end0
          unfold oneF9
          rw [if_pos HQ.out]
          exact ((H10.out.quiet HG.out (drewB _)).call HG.out hw11 hb11 hs11).post
end Go.Proofs.Ytfnjbmpolggdeaa.CW
end
section
namespace Go.Proofs.Ytfnjbmpolggdeaa.CW
open Go.RowKit Go.Lib Go.Proofs.YtfnjbmpolggdeaaW.PrintWords Go.Proofs.YtfnjbmpolggdeaaW.PrintLast Go.Proofs.YtfnjbmpolggdeaaW.PrintMore
set_option linter.unusedVariables false
set_option linter.unusedSimpArgs false
def padN (n : Nat) : Nat := (4 - n % 4) % 4
def padB (l : List Nat) : List Nat := l ++ List.replicate (padN l.length) 0
def rndS (x0 : Int) (x6 x7 : List Int) (f : Int) (k : Nat) (s : List Nat × Bool) : List Nat × Bool :=
  sgnS (wrap64 (rd x7 ((k : Int) + 1) - x0)) 4 (if f = 11 then sgnS (rd x6 k) 4 (s.1, s.2 && ((k : Int) == 0 || decide (rd x6 ((k : Int) - 1) < rd x6 k))) else s)
def rowsS (x0 : Int) (x6 x7 : List Int) (f : Int) : Nat → List Nat × Bool → List Nat × Bool
  | 0, s => s
  | k + 1, s => rndS x0 x6 x7 f k (rowsS x0 x6 x7 f k s)
def headS (x0 x5 : Int) (x7 : List Int) (f : Int) (s : List Nat × Bool) : List Nat × Bool :=
  if f = 10 then sgnS (wrap64 (wrap64 (x5 + ((x7.length : Int) - 1)) - 1)) 4 (sgnS x5 4 (sgnS (wrap64 (rd x7 0 - x0)) 4 (padB s.1, s.2)))
  else sgnS ((x7.length : Int) - 1) 4 (sgnS (wrap64 (rd x7 0 - x0)) 4 (padB s.1, s.2))
def choS (x0 x5 : Int) (x6 x7 : List Int) (f : Int) (s : List Nat × Bool) : List Nat × Bool :=
  if x7.length = 0 ∨ (f = 10 ∧ x7.length = 1) ∨ (f = 11 ∧ x7.length ≠ x6.length + 1) then (padB s.1, false) else rowsS x0 x6 x7 f (x7.length - 1) (headS x0 x5 x7 f s)
theorem sgn_len (x : Int) (m : Nat) (s : List Nat × Bool) : (sgnS x m s).1.length = s.1.length + m := by simp [sgnS, putS, bigB_length]
theorem rnd_len (x0 : Int) (x6 x7 : List Int) (f : Int) (k : Nat) (s : List Nat × Bool) : (rndS x0 x6 x7 f k s).1.length ≤ s.1.length + 8 := by
  unfold rndS
  rw [sgn_len]
  split
  · rw [sgn_len]; show s.1.length + 4 + 4 ≤ _; omega
  · omega
theorem wk_of {k N n m : Nat} (h1 : k < N) (h2 : n = N + 1) (h3 : m + 103 + 8 * n ≤ 140737488355328) : wrap64 ((k : Int) + 1) = ((k + 1 : Nat) : Int) := by unfold wrap64; omega
theorem ms_of {k N : Nat} (h : k < N) : N - (k + 1) < N - k := by omega
theorem ms_val {k N : Nat} {v : Value} (h : k < N) (hv : v = .int .i64 ((k + 1 : Nat) : Int)) : N - (intOf v).toNat < N - (intOf (.int .i64 (k : Int))).toNat := by
  subst hv
  show N - (((k + 1 : Nat) : Int)).toNat < N - ((k : Int)).toNat
  rw [Int.toNat_natCast, Int.toNat_natCast]; omega
theorem rows10 (x0 : Int) (x6 x7 : List Int) (k : Nat) (t : List Nat × Bool) : rowsS x0 x6 x7 10 (k + 1) t = sgnS (wrap64 (rd x7 ((k : Int) + 1) - x0)) 4 (rowsS x0 x6 x7 10 k t) := by
  simp only [rowsS, rndS]
  rw [if_neg (by decide)]
theorem rows11 (x0 : Int) (x6 x7 : List Int) (k : Nat) (t : List Nat × Bool) : rowsS x0 x6 x7 11 (k + 1) t = sgnS (wrap64 (rd x7 ((k : Int) + 1) - x0)) 4 (sgnS (rd x6 k) 4 ((rowsS x0 x6 x7 11 k t).1, (rowsS x0 x6 x7 11 k t).2 && ((k : Int) == 0 || decide (rd x6 ((k : Int) - 1) < rd x6 k)))) := by
  simp only [rowsS, rndS, if_true]
theorem rows_len (x0 : Int) (x6 x7 : List Int) (f : Int) : ∀ (k : Nat) (s : List Nat × Bool), (rowsS x0 x6 x7 f k s).1.length ≤ s.1.length + 8 * k
  | 0, s => by simp [rowsS]
  | k + 1, s => by
    have := rnd_len x0 x6 x7 f k (rowsS x0 x6 x7 f k s)
    have := rows_len x0 x6 x7 f k s
    simp only [rowsS]
    omega
theorem pad_len (l : List Nat) : (padB l).length ≤ l.length + 3 := by unfold padB padN; rw [List.length_append, List.length_replicate]; omega
theorem head_len (x0 x5 : Int) (x7 : List Int) (f : Int) (s : List Nat × Bool) : (headS x0 x5 x7 f s).1.length ≤ s.1.length + 15 := by
  have := pad_len s.1
  unfold headS
  split
  · simp only [sgn_len]; omega
  · simp only [sgn_len]; omega
theorem St.f1 {w0 w W : World} {g bx : Nat} {v V : Value} {o : Obj} {s : List Nat × Bool} (h : St w0 w g v bx o s W V) : W.frozen? ⟨g, 1, none⟩ = false := blk_frozen h.1.1 1
theorem St.setok {w0 w W : World} {g bx : Nat} {v V : Value} {c : Array Value} {s : List Nat × Bool} (h : St w0 w g v bx (.cells c 82 (0, 0)) s W V) (hbx : bx ≠ g) (b : Bool) : St w0 w g v bx (.cells c 82 (0, 0)) (s.1, b) (W.setCell ⟨g, 1, none⟩ (.bool b)) V :=
  h.call hbx (s1 := (s.1, b)) (ew_set h.1 b).1 (h.2.1.setCell (p := ⟨g, 1, none⟩) h.1.2.1 _) (ew_set h.1 b).2
def padM (g : Nat) (W : World) : Nat := match W.cell? ⟨g, 0, none⟩ with | some (.slice _ n _) => padN n | _ => 0
theorem padM_at {g : Nat} {W : World} {A : Option Addr} {n c : Nat} (h : W.cell? ⟨g, 0, none⟩ = some (.slice A n c)) : padM g W = padN n := by unfold padM; rw [h]
theorem St.sl {w0 w W : World} {g bx : Nat} {v V : Value} {o : Obj} {s : List Nat × Bool} (h : St w0 w g v bx o s W V) (n : Nat) (hn : s.1.length = n) : ∃ A c, V = .slice A n c := by subst hn; exact mrow_slice h.1.2.2
end Go.Proofs.Ytfnjbmpolggdeaa.CW
end
section
namespace Go.Proofs.Ytfnjbmpolggdeaa.CW
open Go.RowKit Go.Lib Go.Proofs.YtfnjbmpolggdeaaW.PrintWords Go.Proofs.YtfnjbmpolggdeaaW.PrintLast Go.Proofs.YtfnjbmpolggdeaaW.PrintMore
set_option linter.unusedVariables false
set_option linter.unusedSimpArgs false
set_option maxHeartbeats 8000000 in
set_option maxRecDepth 100000 in
theorem choice_10 (w0 w : World) (g : Nat) (v : Value) (s : List Nat × Bool) (x0 x1 : Int) (x2 : Bool) (x3 x4 x5 : Int) (A6 : Option Addr) (c6 : Nat) (x6 : List Int) (A7 : Option Addr) (c7 : Nat) (x7 : List Int) (hr6 : Kd.C (Kd.int .i64) w0 A6 x6.length x6) (hc6 : x6.length ≤ c6) (hr7 : Kd.C (Kd.int .i64) w0 A7 x7.length x7) (hc7 : x7.length ≤ c7) (hW : BW w0.heap.size w g 114 (ewC s.2) v s.1) (hB : Below w0.heap.size w0 w) (hl : s.1.length + 103 + 8 * x7.length ≤ 140737488355328) :
    Calls Try.prog 119 #[.pointer (some ⟨g, 0, none⟩), .agg #[.int .i64 x0, .int .u8 x1, .bool x2, .int .i64 x3, .int .i64 x4, .int .i64 x5, .slice A6 x6.length c6, .slice A7 x7.length c7], .int .i64 10] w (EncPost w0 w g v (choS x0 x5 x6 x7 10 s)) := by
  have HW := Lib.hid hW
  have HB := Lib.hid hB
  have HL := Lib.hid hl
  have H6 := Lib.hid hr6
  have H7 := Lib.hid hr7
  have HC6 := Lib.hid hc6
  have HC7 := Lib.hid hc7
  clear hW hB hl hr6 hr7 hc6 hc7
  have H0 := Lib.hid (St.start (c := #[.int .i64 x0, .int .u8 x1, .bool x2, .int .i64 x3, .int .i64 x4, .int .i64 x5, .slice A6 x6.length c6, .slice A7 x7.length c7]) HW.out HB.out)
  have HG := Lib.hid (show w.heap.size ≠ g by have := HW.out.lt; omega)
  obtain ⟨b0_0, b1_0, b2_0, b3_0, b4_0, b5_0, b6_0, b7_0⟩ := box8 H0.out.2.2.2
  have c0_0 := H0.out.c0
  have c1_0 := H0.out.c1
  have f0_0 := H0.out.f0
  have f1_0 := H0.out.f1
  go_enter Try.func119, Try.ntmps119
  go_wp2_with fail
  generalize w.alloc (.cells #[.int .i64 x0, .int .u8 x1, .bool x2, .int .i64 x3, .int .i64 x4, .int .i64 x5, .slice A6 x6.length c6, .slice A7 x7.length c7] 82) = W0 at *
  go_loopw [9] (fun q wr => ∃ (m : Nat) (V : Value), m ≤ padN s.1.length ∧ Aside0 (St w0 w g v w.heap.size (.cells #[.int .i64 x0, .int .u8 x1, .bool x2, .int .i64 x3, .int .i64 x4, .int .i64 x5, .slice A6 x6.length c6, .slice A7 x7.length c7] 82 (0, 0)) (s.1 ++ List.replicate m 0, s.2) wr V)) (fun _ wr => padM g wr)
  case atStart => exact ⟨0, v, Nat.zero_le _, ⟨by simpa using H0.out⟩⟩
  case round =>
    clear b0_0 b1_0 b2_0 b3_0 b4_0 b5_0 b6_0 b7_0 c0_0 c1_0 f0_0 f1_0
    obtain ⟨m, V, hm, HS⟩ := hrel
    have hn : (s.1 ++ List.replicate m 0).length = s.1.length + m := by simp
    obtain ⟨A, c, rfl⟩ := HS.out.sl (s.1.length + m) hn
    have H1 := Lib.hid HS.out
    obtain ⟨b0_1, b1_1, b2_1, b3_1, b4_1, b5_1, b6_1, b7_1⟩ := box8 H1.out.2.2.2
    have c0_1 := H1.out.c0
    have c1_1 := H1.out.c1
    have f0_1 := H1.out.f0
    have f1_1 := H1.out.f1
    have HP := Lib.hid (show padM g wr = padN (s.1.length + m) from padM_at c0_1)
    have HMM := Lib.hid hm
    have hr : Int.tmod (((s.1.length + m : Nat) : Int)) 4 = (((s.1.length + m) % 4 : Nat) : Int) := (Int.ofNat_tmod (s.1.length + m) 4).symm
    by_cases hlt : m < padN s.1.length
    · have b0 : (((s.1.length : Int) + (m : Int)) % 4 != 0) = true := by rw [bne_iff_ne]; unfold padN at hlt; omega
      have HLT := Lib.hid hlt
      clear hlt hm HS
      as_aux_lemma =>
        go_wp2_with (at_builtin; refine app_e rfl _ _ 87 rfl Try.underlying87 w0.heap.size H1.out.1.2.2 rfl 0 1 (by first | rfl | (go_simp; done) | (simp [World.alloc]; done)) (by show (s.1 ++ List.replicate m 0).length + 1 ≤ _; have := HL.out; have := HMM.out; unfold padN at this; omega) H1.out.2.1.size ?_ rfl; intro v2 w2 hm2 hg2 hat2; obtain ⟨A2, m2, c2, rfl⟩ := mrow_sl hm2; have k0 := ew_cell hg2 H1.out.1; have k1 := ew_frozen hg2 H1.out.1)
        have H2 := Lib.hid (H1.out.byte HG.out (b := 0) rfl hm2 hg2 hat2)
        clear hm2 hg2 hat2 k0 k1 H1
        generalize w2.setCell ⟨g, 0, none⟩ _ = W2 at *
        go_roundw
        case rel => exact ⟨m + 1, _, by have := HLT.out; omega, ⟨by have := H2.out; rw [List.replicate_succ', ← List.append_assoc]; exact this⟩⟩
        case measure =>
          obtain ⟨A3, c3, e3⟩ := H2.out.sl (s.1.length + (m + 1)) (by simp)
          have := H2.out.c0
          rw [e3] at this
          rw [padM_at this, HP.out]
          have := HLT.out
          unfold padN at *
          omega
    · obtain rfl : m = padN s.1.length := by omega
      have b0 : (((s.1.length : Int) + ((padN s.1.length : Nat) : Int)) % 4 != 0) = false := by rw [bne_eq_false_iff_eq]; unfold padN; omega
      clear hlt hm HS HP hr hn
      have HPB : s.1 ++ List.replicate (padN s.1.length) 0 = padB s.1 := rfl
      rw [HPB] at H1
      have HLB := Lib.hid (show (padB s.1).length + 100 + 8 * x7.length ≤ 140737488355328 by have := pad_len s.1; have := HL.out; omega)
      have hw1 : IntKind.i64.wrap ((x7.length : Int) - 1) = (x7.length : Int) - 1 := by rw [IntKind.wrap_i64]; have := HL.out; omega
      by_cases h0 : x7.length = 0
      · have d0 : decide ((x7.length : Int) - 1 < 0) = true := decide_eq_true (by omega)
        as_aux_lemma =>
          have HC : Aside0 (choS x0 x5 x6 x7 10 s = (padB s.1, false)) := ⟨if_pos (.inl h0)⟩
          go_wp2
          go_end0
          rw [HC.out]
          exact (H1.out.setok HG.out false).post
      · have d0 : decide ((x7.length : Int) - 1 < 0) = false := decide_eq_false (by omega)
        by_cases h1 : x7.length = 1
        · have d1 : ((x7.length : Int) - 1 == 0) = true := beq_iff_eq.2 (by omega)
          as_aux_lemma =>
            have HC : Aside0 (choS x0 x5 x6 x7 10 s = (padB s.1, false)) := ⟨if_pos (.inr (.inl ⟨rfl, h1⟩))⟩
            go_wp2
            go_end0
            rw [HC.out]
            exact (H1.out.setok HG.out false).post
        · have d1 : ((x7.length : Int) - 1 == 0) = false := beq_eq_false_iff_ne.2 (by omega)
          have HC : Aside0 (choS x0 x5 x6 x7 10 s = rowsS x0 x6 x7 10 (x7.length - 1) (headS x0 x5 x7 10 s)) := ⟨if_neg (by rintro (h | ⟨_, h⟩ | ⟨_, h⟩) <;> first | exact h0 h | exact h1 h | omega)⟩
          have HX := Lib.hid (show x7.length ≠ 0  by omega)
          obtain ⟨ad, e7, y0⟩ := Kd.at_int H7.out 0 (by omega) (by omega)
          subst e7
          have e0 : ad.add 0 = ad := by cases ad; unfold Addr.add; split <;> simp_all
          have y1 := pw_cell_below H1.out.2.1 y0
          have y2 := pw_cell_below (drewB _) y1
          simp only [Int.toNat_zero, e0] at y0 y1 y2
          have z0 : (0 : Int) < (x7.length : Int) := by omega
          have z1 : 0 < x7.length := by omega
          clear h0 h1 e0
          go_wp2_with fail
          go_region_held3 (fun w' => w'.cell? ⟨w.heap.size, 7, none⟩ = some (.slice (some ad) x7.length c7) ∧ w'.cell? ⟨w.heap.size, 0, none⟩ = some (.int .i64 x0) ∧ w'.cell? ad = some (.int .i64 (rd x7 0))) (first | exact ⟨b7_1, b0_1, y1⟩ | exact ⟨q2.2.2.2.2.2.2.2, q2.1, q3⟩) ((go_at_call 117; first | (refine (signed_any w0 _ g _ (padB s.1, s.2) (IntKind.i64.wrap (rd x7 0 - x0)) 4 4 rfl (by omega) (H1.out.1.below (drewB _)) (below_then H1.out.2.1 H1.out.2.1.size (drewB _)) (by have := HLB.out; dsimp only; omega)).mono ?_; rintro e2 w2 ⟨rfl, hb2, v2, hw2, hs2⟩; have q2 := box8 ((H1.out.quiet HG.out (drewB _)).call HG.out hw2 hb2 hs2).2.2.2; have q3 := pw_cell_below hb2 y0)))
          all_goals
            as_aux_lemma =>
            try simp only [i64_w] at hw2 hs2
            have H2 := Lib.hid ((H1.out.quiet HG.out (drewB _)).call HG.out hw2 hb2 hs2)
            clear b0_1 b1_1 b2_1 b3_1 b4_1 b5_1 b6_1 b7_1 c0_1 c1_1 f0_1 f1_1
            clear hb2 hw2 hs2 H1 y1 y2 y0
            try clear q2 q3
            obtain ⟨b0_2, b1_2, b2_2, b3_2, b4_2, b5_2, b6_2, b7_2⟩ := box8 H2.out.2.2.2
            have c0_2 := H2.out.c0
            have c1_2 := H2.out.c1
            have f0_2 := H2.out.f0
            have f1_2 := H2.out.f1
            go_wp2_with fail
            refine (signed_any w0 _ g _ (sgnS (wrap64 (rd x7 0 - x0)) 4 (padB s.1, s.2)) (x5) 4 4 rfl (by omega) H2.out.1 H2.out.2.1 (by have := HLB.out; simp only [sgn_len]; omega)).mono ?_
            rintro e3 w3 ⟨rfl, hb3, v3, hw3, hs3⟩
            have H3 := Lib.hid (H2.out.call HG.out hw3 hb3 hs3)
            clear b0_2 b1_2 b2_2 b3_2 b4_2 b5_2 b6_2 b7_2 c0_2 c1_2 f0_2 f1_2
            clear hb3 hw3 hs3 H2
            obtain ⟨b0_3, b1_3, b2_3, b3_3, b4_3, b5_3, b6_3, b7_3⟩ := box8 H3.out.2.2.2
            have c0_3 := H3.out.c0
            have c1_3 := H3.out.c1
            have f0_3 := H3.out.f0
            have f1_3 := H3.out.f1
            go_wp2_with fail
            refine (signed_any w0 _ g _ (sgnS x5 4 (sgnS (wrap64 (rd x7 0 - x0)) 4 (padB s.1, s.2))) (wrap64 (wrap64 (x5 + ((x7.length : Int) - 1)) - 1)) 4 4 rfl (by omega) H3.out.1 H3.out.2.1 (by have := HLB.out; simp only [sgn_len]; omega)).mono ?_
            rintro e4 w4 ⟨rfl, hb4, v4, hw4, hs4⟩
            have H4 := Lib.hid (H3.out.call HG.out hw4 hb4 hs4)
            clear b0_3 b1_3 b2_3 b3_3 b4_3 b5_3 b6_3 b7_3 c0_3 c1_3 f0_3 f1_3
            clear hb4 hw4 hs4 H3
            obtain ⟨b0_4, b1_4, b2_4, b3_4, b4_4, b5_4, b6_4, b7_4⟩ := box8 H4.out.2.2.2
            have c0_4 := H4.out.c0
            have c1_4 := H4.out.c1
            have f0_4 := H4.out.f0
            have f1_4 := H4.out.f1
            have HH : Aside0 (St w0 w g v w.heap.size (.cells #[.int .i64 x0, .int .u8 x1, .bool x2, .int .i64 x3, .int .i64 x4, .int .i64 x5, .slice A6 x6.length c6, .slice (some ad) x7.length c7] 82 (0, 0)) (headS x0 x5 x7 10 s) w4 v4) := ⟨H4.out⟩
            obtain ⟨i3, hi3, _, hs3, _⟩ := info_parts info3
            obtain ⟨A', hrun, hrd, hle⟩ := print_drop_of (P := Try.prog) (Value.int .i64) (0 : Int) 22 3 .i64 Try.underlying22 hi3 hs3 (some ad) c7 x7 1 (by omega) (by omega) HC7.out
            simp only [Int.toNat_one] at hrun
            have hdl : (x7.drop 1).length = x7.length - 1 := List.length_drop
            rw [hdl] at hrun
            have HRD := Lib.hid (hrd w0 (Kd.reads_of_C H7.out))
            obtain ⟨N, hN⟩ : ∃ N, x7.length - 1 = N := ⟨_, rfl⟩
            rw [hN] at hrun
            have HN := Lib.hid (show x7.length = N + 1 by omega)
            have HHL := Lib.hid (show (headS x0 x5 x7 10 s).1.length + 88 + 8 * x7.length ≤ 140737488355328 by have := head_len x0 x5 x7 10 s; have := HL.out; omega)
            clear hdl hle hrd
            go_wp2_with fail
            go_loopw [82] (fun i wr => ∃ (k : Nat) (V : Value), k ≤ N ∧ i = .int .i64 k ∧ Aside0 (St w0 w g v w.heap.size (.cells #[.int .i64 x0, .int .u8 x1, .bool x2, .int .i64 x3, .int .i64 x4, .int .i64 x5, .slice A6 x6.length c6, .slice (some ad) x7.length c7] 82 (0, 0)) (rowsS x0 x6 x7 10 k (headS x0 x5 x7 10 s)) wr V)) (fun i _ => N - (intOf i).toNat)
            case atStart => exact ⟨0, v4, Nat.zero_le _, rfl, ⟨HH.out⟩⟩
            case round =>
              clear b0_4 b1_4 b2_4 b3_4 b4_4 b5_4 b6_4 b7_4 c0_4 c1_4 f0_4 f1_4
              clear H4
              obtain ⟨k, V, hk, rfl, HS⟩ := hrel
              have HLR := Lib.hid (show (rowsS x0 x6 x7 10 k (headS x0 x5 x7 10 s)).1.length + 50 ≤ 140737488355328 by have := rows_len x0 x6 x7 10 k (headS x0 x5 x7 10 s); have := HHL.out; have := HN.out; omega)
              by_cases hlt : k < N
              · have d2 : decide ((k : Int) < (N : Int)) = true := decide_eq_true (by omega)
                as_aux_lemma =>
                have i0 : (0 : Int) ≤ (k : Int) := by omega
                have i1 : (k : Int) < (N : Int) := by omega
                have i2 : k < N := hlt
                have hdl : (x7.drop 1).length = N := by rw [List.length_drop]; omega
                obtain ⟨ad', e', z0⟩ := ReadsOf.at_ HRD.out (k : Int) i0 (by rw [Int.toNat_one, hdl]; exact i1)
                subst e'
                have hv : rdOf (0 : Int) (x7.drop (1 : Int).toNat) (k : Int) = rd x7 ((k : Int) + 1) := by
                  have e1 : ((k : Int) + 1).toNat = 1 + k := by omega
                  unfold rdOf rd
                  rw [Int.toNat_one, Int.toNat_natCast, e1, List.getD_eq_getElem?_getD, List.getD_eq_getElem?_getD, List.getElem?_drop]
                rw [hv] at z0
                simp only [Int.toNat_natCast] at z0
                have HK := Lib.hid hk
                have z1 := pw_cell_below HS.out.2.1 z0
                have HZ := Lib.hid z0
                have HLT := Lib.hid hlt
                clear hv hdl z0 hlt hk
                have H8 := Lib.hid HS.out
                obtain ⟨b0_8, b1_8, b2_8, b3_8, b4_8, b5_8, b6_8, b7_8⟩ := box8 H8.out.2.2.2
                have c0_8 := H8.out.c0
                have c1_8 := H8.out.c1
                have f0_8 := H8.out.f0
                have f1_8 := H8.out.f1
                go_wp2_with fail
                refine (signed_any w0 _ g _ (rowsS x0 x6 x7 10 k (headS x0 x5 x7 10 s)) (wrap64 (rd x7 ((k : Int) + 1) - x0)) 4 4 rfl (by omega) H8.out.1 H8.out.2.1 (by have := HLR.out; omega)).mono ?_
                rintro e9 w9 ⟨rfl, hb9, v9, hw9, hs9⟩
                have H9 := Lib.hid (H8.out.call HG.out hw9 hb9 hs9)
                clear b0_8 b1_8 b2_8 b3_8 b4_8 b5_8 b6_8 b7_8 c0_8 c1_8 f0_8 f1_8
                clear hb9 hw9 hs9 H8
                have wk := wk_of HLT.out HN.out HL.out
                have WN := Lib.hid (congrArg (Value.int IntKind.i64) wk)
                have WM := Lib.hid ((congrArg Int.toNat wk).trans (Int.toNat_natCast _))
                clear wk
                go_wp2
                go_roundw
                case rel => as_aux_lemma => exact ⟨k + 1, v9, HLT.out, WN.out, ⟨by rw [rows10]; exact H9.out⟩⟩
                case measure => exact ms_val HLT.out WN.out
              · obtain rfl : k = N := by omega
                have d2 : decide ((k : Int) < (k : Int)) = false := decide_eq_false (by omega)
                as_aux_lemma =>
                go_wp2
                go_end0
                rw [HC.out, hN]
                exact HS.out.post
end Go.Proofs.Ytfnjbmpolggdeaa.CW
end
section
namespace Go.Proofs.Ytfnjbmpolggdeaa.CW
open Go.RowKit Go.Lib Go.Proofs.YtfnjbmpolggdeaaW.PrintWords Go.Proofs.YtfnjbmpolggdeaaW.PrintLast Go.Proofs.YtfnjbmpolggdeaaW.PrintMore
set_option linter.unusedVariables false
set_option linter.unusedSimpArgs false
attribute [local go_sem] max2_int min2_int max_two min_two max_three min_three max_four min_four
def oneF10 (x0 x1 : Int) (x2 : Bool) (x3 x4 x5 : Int) (x6 x7 : List Int) (s : List Nat × Bool) : List Nat × Bool := choS x0 x5 x6 x7 10 (opS x1 x2 s)
set_option maxHeartbeats 8000000 in
set_option maxRecDepth 100000 in
theorem one_f10 (w0 w : World) (g : Nat) (v : Value) (s : List Nat × Bool) (x0 x1 : Int) (x2 : Bool) (x3 x4 x5 : Int) (A6 : Option Addr) (c6 : Nat) (x6 : List Int) (A7 : Option Addr) (c7 : Nat) (x7 : List Int) (hx1 : 0 ≤ x1 ∧ x1 < 256) (hr6 : Kd.C (Kd.int .i64) w0 A6 x6.length x6) (hc6 : x6.length ≤ c6) (hr7 : Kd.C (Kd.int .i64) w0 A7 x7.length x7) (hc7 : x7.length ≤ c7) (hW : BW w0.heap.size w g 114 (ewC s.2) v s.1) (hB : Below w0.heap.size w0 w) (hl : s.1.length + 120 + 8 * x7.length ≤ 140737488355328) :
    Calls Try.prog 79 #[.pointer (some ⟨g, 0, none⟩), .agg #[.int .i64 x0, .int .u8 x1, .bool x2, .int .i64 x3, .int .i64 x4, .int .i64 x5, .slice A6 x6.length c6, .slice A7 x7.length c7], .int .i64 10] w (EncPost w0 w g v (oneF10 x0 x1 x2 x3 x4 x5 x6 x7 s)) := by
  unfold oneF10
  have HX1 := Lib.hid hx1
  have HW := Lib.hid hW
  have HB := Lib.hid hB
  have HL := Lib.hid hl
  clear hx1 hW hB hl
  have H7 := Lib.hid hr7
  clear hr7
  have H6 := Lib.hid hr6
  have HC6 := Lib.hid hc6
  have HC7 := Lib.hid hc7
  clear hr6 hc6 hc7
  cases x2 with
  | false =>
    have H0 := Lib.hid (St.start (c := #[.int .i64 x0, .int .u8 x1, .bool false, .int .i64 x3, .int .i64 x4, .int .i64 x5, .slice A6 x6.length c6, .slice A7 x7.length c7]) HW.out HB.out)
    have HG := Lib.hid (show w.heap.size ≠ g by have := HW.out.lt; omega)
    obtain ⟨b0_0, b1_0, b2_0, b3_0, b4_0, b5_0, b6_0, b7_0⟩ := box8 H0.out.2.2.2
    have c0_0 := H0.out.c0
    have c1_0 := H0.out.c1
    have f0_0 := H0.out.f0
    go_enter Try.func79, Try.ntmps79
    go_wp2_with fail
    generalize w.alloc (.cells #[.int .i64 x0, .int .u8 x1, .bool false, .int .i64 x3, .int .i64 x4, .int .i64 x5, .slice A6 x6.length c6, .slice A7 x7.length c7] 82) = W0 at *
    have ca : ∀ o, (W0.alloc o).cell? ⟨g, 0, none⟩ = some _ := fun o => pw_cell_below (below_alloc (Below.refl _ _) o) c0_0
    have cb : ∀ o, (W0.alloc o).cell? ⟨w.heap.size, 1, none⟩ = some _ := fun o => pw_cell_below (below_alloc (Below.refl _ _) o) b1_0
    go_region_law (first | (refine elem_step (by rfl) (.tmp 22) (.tmp 25) 87 rfl Try.underlying87 w0.heap.size (H0.out.1.below (drewB _)).2.2 rfl x1 1 (by first | rfl | (go_simp; done) | (simp [World.alloc]; done)) (by have := HL.out; omega) (Nat.le_trans H0.out.2.1.size (drewB _).size) ?_ rfl; intro v9 w9 hm9 hg9 hat9; obtain ⟨A9, m9, c9, rfl⟩ := mrow_sl hm9; have k9 := ew_cell hg9 (H0.out.1.below (drewB _)); have k8 := ew_frozen hg9 (H0.out.1.below (drewB _))))
    all_goals
      have H9 := Lib.hid ((H0.out.quiet HG.out (drewB _)).byte HG.out (b := x1.toNat) (by have := HX1.out; omega) hm9 hg9 hat9)
      clear b0_0 b1_0 b2_0 b3_0 b4_0 b5_0 b6_0 b7_0 c0_0 c1_0 f0_0
      clear hm9 hg9 hat9 k9 k8 ca cb H0
      generalize w9.setCell ⟨g, 0, none⟩ _ = W9 at *
      obtain ⟨b0_9, b1_9, b2_9, b3_9, b4_9, b5_9, b6_9, b7_9⟩ := box8 H9.out.2.2.2
      have c0_9 := H9.out.c0
      have c1_9 := H9.out.c1
      have f0_9 := H9.out.f0
      go_wp2_with fail
      refine (choice_10 w0 _ g _ (opS x1 false s) x0 x1 false x3 x4 x5 A6 c6 x6 A7 c7 x7 H6.out HC6.out H7.out HC7.out H9.out.1 H9.out.2.1 (by have := HL.out; simp only [opS, Bool.false_eq_true, ↓reduceIte, List.length_append, List.length_cons, List.length_nil]; omega)).mono ?_
      rintro e10 w10 ⟨rfl, hb10, v10, hw10, hs10⟩
      have H10 := Lib.hid (H9.out.call HG.out hw10 hb10 hs10)
      go_wp2
      go_end0
      exact H10.out.post
  | true =>
    have H0 := Lib.hid (St.start (c := #[.int .i64 x0, .int .u8 x1, .bool true, .int .i64 x3, .int .i64 x4, .int .i64 x5, .slice A6 x6.length c6, .slice A7 x7.length c7]) HW.out HB.out)
    have HG := Lib.hid (show w.heap.size ≠ g by have := HW.out.lt; omega)
    obtain ⟨b0_0, b1_0, b2_0, b3_0, b4_0, b5_0, b6_0, b7_0⟩ := box8 H0.out.2.2.2
    have c0_0 := H0.out.c0
    have c1_0 := H0.out.c1
    have f0_0 := H0.out.f0
    go_enter Try.func79, Try.ntmps79
    go_wp2_with (at_builtin; refine app_e rfl _ _ 87 rfl Try.underlying87 w0.heap.size H0.out.1.2.2 rfl 196 1 (by first | rfl | (go_simp; done) | (simp [World.alloc]; done)) (by have := HL.out; omega) H0.out.2.1.size ?_ rfl; intro v1 w1 hm1 hg1 hat1; obtain ⟨A1, m1, c1, rfl⟩ := mrow_sl hm1; have k0 := ew_cell hg1 H0.out.1; have k1 := ew_frozen hg1 H0.out.1)
    have H1 := Lib.hid (H0.out.byte HG.out (b := 196) rfl hm1 hg1 hat1)
    clear b0_0 b1_0 b2_0 b3_0 b4_0 b5_0 b6_0 b7_0 c0_0 c1_0 f0_0
    clear hm1 hg1 hat1 k0 k1 H0
    generalize w1.setCell ⟨g, 0, none⟩ _ = W1 at *
    obtain ⟨b0_1, b1_1, b2_1, b3_1, b4_1, b5_1, b6_1, b7_1⟩ := box8 H1.out.2.2.2
    have c0_1 := H1.out.c0
    have c1_1 := H1.out.c1
    have f0_1 := H1.out.f0
    have ca : ∀ o, (W1.alloc o).cell? ⟨g, 0, none⟩ = some _ := fun o => pw_cell_below (below_alloc (Below.refl _ _) o) c0_1
    have cb : ∀ o, (W1.alloc o).cell? ⟨w.heap.size, 1, none⟩ = some _ := fun o => pw_cell_below (below_alloc (Below.refl _ _) o) b1_1
    go_region_law (first | (refine elem_step (by rfl) (.tmp 22) (.tmp 25) 87 rfl Try.underlying87 w0.heap.size (H1.out.1.below (drewB _)).2.2 rfl x1 1 (by first | rfl | (go_simp; done) | (simp [World.alloc]; done)) (by have := HL.out; simp only [List.length_append, List.length_cons, List.length_nil]; omega) (Nat.le_trans H1.out.2.1.size (drewB _).size) ?_ rfl; intro v9 w9 hm9 hg9 hat9; obtain ⟨A9, m9, c9, rfl⟩ := mrow_sl hm9; have k9 := ew_cell hg9 (H1.out.1.below (drewB _)); have k8 := ew_frozen hg9 (H1.out.1.below (drewB _))))
    all_goals
      have H9 := Lib.hid ((H1.out.quiet HG.out (drewB _)).byte HG.out (b := x1.toNat) (by have := HX1.out; omega) hm9 hg9 hat9)
      clear b0_1 b1_1 b2_1 b3_1 b4_1 b5_1 b6_1 b7_1 c0_1 c1_1 f0_1
      clear hm9 hg9 hat9 k9 k8 ca cb H1
      generalize w9.setCell ⟨g, 0, none⟩ _ = W9 at *
      obtain ⟨b0_9, b1_9, b2_9, b3_9, b4_9, b5_9, b6_9, b7_9⟩ := box8 H9.out.2.2.2
      have c0_9 := H9.out.c0
      have c1_9 := H9.out.c1
      have f0_9 := H9.out.f0
      go_wp2_with fail
      refine (choice_10 w0 _ g _ (opS x1 true s) x0 x1 true x3 x4 x5 A6 c6 x6 A7 c7 x7 H6.out HC6.out H7.out HC7.out H9.out.1 H9.out.2.1 (by have := HL.out; simp only [opS, Bool.false_eq_true, ↓reduceIte, List.length_append, List.length_cons, List.length_nil]; omega)).mono ?_
      rintro e10 w10 ⟨rfl, hb10, v10, hw10, hs10⟩
      have H10 := Lib.hid (H9.out.call HG.out hw10 hb10 hs10)
      go_wp2
      go_end0
      exact H10.out.post
end Go.Proofs.Ytfnjbmpolggdeaa.CW
end
