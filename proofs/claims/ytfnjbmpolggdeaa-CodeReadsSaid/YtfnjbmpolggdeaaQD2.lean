/-
  Texts that the proof in the last of these files needs: CodeReads of jvmcorelaw2: whatever the bytes are, code.Decode makes of them what the reference makes, to the first error and where, and all rows of what it makes lie apart; nothing is assumed.
-/
import Derived.Deep.RegionLaw
import Derived.Deep.QuietTactic
import Derived.BigQuiet
import Derived.BigRegion
import Derived.Test.YtfnjbmpolggdeaaQD1
section
namespace Go.Proofs.Ytfnjbmpolggdeaa.CD
open Go.RowKit Go.Proofs.YtfnjbmpolggdeaaW.PrintWords Go.Proofs.YtfnjbmpolggdeaaW.PrintLast Go.Proofs.YtfnjbmpolggdeaaW.PrintMore
attribute [local go_sem] max2_int min2_int max_two min_two max_three min_three max_four min_four   -- for this text's walks alone
set_option linter.unusedVariables false
set_option linter.unusedSimpArgs false
mutual
def code_form.j0 : Nat → Int → Bool → Option (Int)
  | 0, _, _ => none
  | k + 1, x0, x12 => if x12 = true then (some 5) else (if x0 ≥ 21 then (if x0 ≤ 25 then (code_form.j1 k x0 true) else (if x0 ≥ 54 then (code_form.j1 k x0 (decide (x0 ≤ 58))) else (code_form.j1 k x0 false))) else (if x0 ≥ 54 then (code_form.j1 k x0 (decide (x0 ≤ 58))) else (code_form.j1 k x0 false)))
def code_form.j1 : Nat → Int → Bool → Option (Int)
  | 0, _, _ => none
  | k + 1, x0, x43 => if x43 = true then (some 6) else (if x0 = 132 then (some 7) else (if x0 ≥ 153 then (if x0 ≤ 167 then (code_form.j2 k x0 true) else (if x0 = 198 then (code_form.j2 k x0 true) else (code_form.j2 k x0 (x0 == 199)))) else (if x0 = 198 then (code_form.j2 k x0 true) else (code_form.j2 k x0 (x0 == 199)))))
def code_form.j2 : Nat → Int → Bool → Option (Int)
  | 0, _, _ => none
  | k + 1, x0, x61 => if x61 = true then (some 8) else (if x0 = 200 then (some 9) else (if x0 = 170 then (some 10) else (if x0 = 171 then (some 11) else (if x0 = 185 then (some 12) else (if x0 = 188 then (some 13) else (if x0 = 197 then (some 14) else (if x0 = 196 then (some 15) else (if x0 = 168 then (some 1) else (if x0 = 169 then (some 1) else (if x0 = 186 then (some 1) else (if x0 > 200 then (some 1) else (some 0))))))))))))
end
def code_form.f (k : Nat) (a0 : Int) : Option (Int) := if a0 = 16 then (some 2) else (if a0 = 17 then (some 3) else (if a0 = 18 then (some 4) else (if a0 = 19 then (code_form.j0 k a0 true) else (if a0 = 20 then (code_form.j0 k a0 true) else (if a0 ≥ 178 then (if a0 ≤ 184 then (code_form.j0 k a0 true) else (if a0 = 187 then (code_form.j0 k a0 true) else (if a0 = 189 then (code_form.j0 k a0 true) else (if a0 = 192 then (code_form.j0 k a0 true) else (code_form.j0 k a0 (a0 == 193)))))) else (if a0 = 187 then (code_form.j0 k a0 true) else (if a0 = 189 then (code_form.j0 k a0 true) else (if a0 = 192 then (code_form.j0 k a0 true) else (code_form.j0 k a0 (a0 == 193))))))))))
theorem code_form.mono_l : ∀ k, (∀ y0 y1, LeO (code_form.j0 k y0 y1) (code_form.j0 (k + 1) y0 y1)) ∧ (∀ y0 y1, LeO (code_form.j1 k y0 y1) (code_form.j1 (k + 1) y0 y1)) ∧ (∀ y0 y1, LeO (code_form.j2 k y0 y1) (code_form.j2 (k + 1) y0 y1))
  | 0 => ⟨fun _ _ r h => by simp [code_form.j0] at h, fun _ _ r h => by simp [code_form.j1] at h, fun _ _ r h => by simp [code_form.j2] at h⟩
  | k + 1 => by
    obtain ⟨ih0, ih1, ih2⟩ := code_form.mono_l k
    refine ⟨?_, ?_, ?_⟩
    · intro y0 y1
      unfold code_form.j0
      repeat' first
      | (with_reducible exact ih0 _ _)
      | (with_reducible exact ih1 _ _)
      | (with_reducible exact ih2 _ _)
      | (with_reducible exact LeO.refl _)
      | (with_reducible exact LeO.none _)
      | (with_reducible refine LeO.ite ?_ ?_)
      | (with_reducible refine LeO.bind ?_ (fun _ => ?_))
    · intro y0 y1
      unfold code_form.j1
      repeat' first
      | (with_reducible exact ih0 _ _)
      | (with_reducible exact ih1 _ _)
      | (with_reducible exact ih2 _ _)
      | (with_reducible exact LeO.refl _)
      | (with_reducible exact LeO.none _)
      | (with_reducible refine LeO.ite ?_ ?_)
      | (with_reducible refine LeO.bind ?_ (fun _ => ?_))
    · intro y0 y1
      unfold code_form.j2
      repeat' first
      | (with_reducible exact ih0 _ _)
      | (with_reducible exact ih1 _ _)
      | (with_reducible exact ih2 _ _)
      | (with_reducible exact LeO.refl _)
      | (with_reducible exact LeO.none _)
      | (with_reducible refine LeO.ite ?_ ?_)
      | (with_reducible refine LeO.bind ?_ (fun _ => ?_))
theorem code_form.mono : ∀ a0 k, LeO (code_form.f k a0) (code_form.f (k + 1) a0) := by
  intro a0 k
  obtain ⟨ih0, ih1, ih2⟩ := code_form.mono_l k
  unfold code_form.f
  repeat' first
      | (with_reducible exact ih0 _ _)
      | (with_reducible exact ih1 _ _)
      | (with_reducible exact ih2 _ _)
      | (with_reducible exact LeO.refl _)
      | (with_reducible exact LeO.none _)
      | (with_reducible refine LeO.ite ?_ ?_)
      | (with_reducible refine LeO.bind ?_ (fun _ => ?_))
set_option maxHeartbeats 8000000 in
set_option maxRecDepth 100000 in
theorem code_form.calls (k : Nat) (a0 : Int) (r : Int) (w : World) (h : code_form.f k a0 = some r) :
    Calls Try.prog 78 #[.int .u8 a0] w fun e w' => e = .returned (.int .i64 r) ∧ Drawn0 w w' := by
  have H : (if a0 = 16 then (some 2) else (if a0 = 17 then (some 3) else (if a0 = 18 then (some 4) else (if a0 = 19 then (code_form.j0 k a0 true) else (if a0 = 20 then (code_form.j0 k a0 true) else (if a0 ≥ 178 then (if a0 ≤ 184 then (code_form.j0 k a0 true) else (if a0 = 187 then (code_form.j0 k a0 true) else (if a0 = 189 then (code_form.j0 k a0 true) else (if a0 = 192 then (code_form.j0 k a0 true) else (code_form.j0 k a0 (a0 == 193)))))) else (if a0 = 187 then (code_form.j0 k a0 true) else (if a0 = 189 then (code_form.j0 k a0 true) else (if a0 = 192 then (code_form.j0 k a0 true) else (code_form.j0 k a0 (a0 == 193))))))))))) = some r := h
  clear h
  by_cases c2 : a0 = 16
  · rw [if_pos c2] at H
    have c2b0 : (a0 == 16) = true := beq_iff_eq.mpr c2
    have c2b1 : (a0 != 16) = false := bne_eq_false_iff_eq.mpr c2
    clear c2
    obtain rfl := Option.some.inj H
    go_enter Try.func78, Try.ntmps78
    go_wp2
    go_ret
    exact ⟨by first | rfl | (simp; done) | (simp [*]; done), by repeat (first | exact Drawn0.refl _ | apply Drawn0.step)⟩
  · rw [if_neg c2] at H
    have c2b0 : (a0 == 16) = false := beq_eq_false_iff_ne.mpr c2
    have c2b1 : (a0 != 16) = true := bne_iff_ne.mpr c2
    by_cases c3 : a0 = 17
    · rw [if_pos c3] at H
      have c3b0 : (a0 == 17) = true := beq_iff_eq.mpr c3
      have c3b1 : (a0 != 17) = false := bne_eq_false_iff_eq.mpr c3
      clear c3
      obtain rfl := Option.some.inj H
      go_enter Try.func78, Try.ntmps78
      go_wp2
      go_ret
      exact ⟨by first | rfl | (simp; done) | (simp [*]; done), by repeat (first | exact Drawn0.refl _ | apply Drawn0.step)⟩
    · rw [if_neg c3] at H
      have c3b0 : (a0 == 17) = false := beq_eq_false_iff_ne.mpr c3
      have c3b1 : (a0 != 17) = true := bne_iff_ne.mpr c3
      by_cases c4 : a0 = 18
      · rw [if_pos c4] at H
        have c4b0 : (a0 == 18) = true := beq_iff_eq.mpr c4
        have c4b1 : (a0 != 18) = false := bne_eq_false_iff_eq.mpr c4
        clear c4
        obtain rfl := Option.some.inj H
        go_enter Try.func78, Try.ntmps78
        go_wp2
        go_ret
        exact ⟨by first | rfl | (simp; done) | (simp [*]; done), by repeat (first | exact Drawn0.refl _ | apply Drawn0.step)⟩
      · rw [if_neg c4] at H
        have c4b0 : (a0 == 18) = false := beq_eq_false_iff_ne.mpr c4
        have c4b1 : (a0 != 18) = true := bne_iff_ne.mpr c4
        have HC5 := Aside0.mk H
        clear H
        go_enter Try.func78, Try.ntmps78
        go_upto_region 7 with (fail)
        go_cut [12] (fun v12 wc => ∃ (kq : Nat) (x12_4 : Bool), v12 = .bool x12_4 ∧ Aside0 (code_form.j0 kq a0 x12_4 = some r) ∧ Aside0 (kq ≤ k) ∧ Drawn0 w wc)
        case first =>
          have H := HC5.out
          clear HC5
          by_cases c6 : a0 = 19
          · rw [if_pos c6] at H
            have c6b0 : (a0 == 19) = true := beq_iff_eq.mpr c6
            have c6b1 : (a0 != 19) = false := bne_eq_false_iff_eq.mpr c6
            clear c6
            (first | rw [c6b0] | (simp only [i64_w, i32_w]; rw [c6b0]) | skip)
            have H' := Aside0.mk H
            clear H
            go_wp2
            go_meet
            case rel => exact ⟨_, (true), (by first | rfl | (simp; done) | (simp [*]; done)), H', ⟨by first | omega | exact Nat.le_refl _⟩, by repeat (first | exact Drawn0.refl _ | apply Drawn0.step)⟩
          · rw [if_neg c6] at H
            have c6b0 : (a0 == 19) = false := beq_eq_false_iff_ne.mpr c6
            have c6b1 : (a0 != 19) = true := bne_iff_ne.mpr c6
            (first | rw [c6b0] | (simp only [i64_w, i32_w]; rw [c6b0]) | skip)
            by_cases c7 : a0 = 20
            · rw [if_pos c7] at H
              have c7b0 : (a0 == 20) = true := beq_iff_eq.mpr c7
              have c7b1 : (a0 != 20) = false := bne_eq_false_iff_eq.mpr c7
              clear c7
              have H' := Aside0.mk H
              clear H
              go_wp2
              go_meet
              case rel => exact ⟨_, (true), (by first | rfl | (simp; done) | (simp [*]; done)), H', ⟨by first | omega | exact Nat.le_refl _⟩, by repeat (first | exact Drawn0.refl _ | apply Drawn0.step)⟩
            · rw [if_neg c7] at H
              have c7b0 : (a0 == 20) = false := beq_eq_false_iff_ne.mpr c7
              have c7b1 : (a0 != 20) = true := bne_iff_ne.mpr c7
              by_cases c8 : a0 ≥ 178
              · rw [if_pos c8] at H
                have c8b0 : decide (178 ≤ a0) = true := decide_eq_true c8
                clear c8
                by_cases c9 : a0 ≤ 184
                · rw [if_pos c9] at H
                  have c9b0 : decide (a0 ≤ 184) = true := decide_eq_true c9
                  clear c9
                  have H' := Aside0.mk H
                  clear H
                  go_wp2
                  go_meet
                  case rel => exact ⟨_, (true), (by first | rfl | (simp; done) | (simp [*]; done)), H', ⟨by first | omega | exact Nat.le_refl _⟩, by repeat (first | exact Drawn0.refl _ | apply Drawn0.step)⟩
                · rw [if_neg c9] at H
                  have c9b0 : decide (a0 ≤ 184) = false := decide_eq_false c9
                  clear c9
                  by_cases c10 : a0 = 187
                  · rw [if_pos c10] at H
                    have c10b0 : (a0 == 187) = true := beq_iff_eq.mpr c10
                    have c10b1 : (a0 != 187) = false := bne_eq_false_iff_eq.mpr c10
                    clear c10
                    have H' := Aside0.mk H
                    clear H
                    go_wp2
                    go_meet
                    case rel => exact ⟨_, (true), (by first | rfl | (simp; done) | (simp [*]; done)), H', ⟨by first | omega | exact Nat.le_refl _⟩, by repeat (first | exact Drawn0.refl _ | apply Drawn0.step)⟩
                  · rw [if_neg c10] at H
                    have c10b0 : (a0 == 187) = false := beq_eq_false_iff_ne.mpr c10
                    have c10b1 : (a0 != 187) = true := bne_iff_ne.mpr c10
                    by_cases c11 : a0 = 189
                    · rw [if_pos c11] at H
                      have c11b0 : (a0 == 189) = true := beq_iff_eq.mpr c11
                      have c11b1 : (a0 != 189) = false := bne_eq_false_iff_eq.mpr c11
                      clear c11
                      have H' := Aside0.mk H
                      clear H
                      go_wp2
                      go_meet
                      case rel => exact ⟨_, (true), (by first | rfl | (simp; done) | (simp [*]; done)), H', ⟨by first | omega | exact Nat.le_refl _⟩, by repeat (first | exact Drawn0.refl _ | apply Drawn0.step)⟩
                    · rw [if_neg c11] at H
                      have c11b0 : (a0 == 189) = false := beq_eq_false_iff_ne.mpr c11
                      have c11b1 : (a0 != 189) = true := bne_iff_ne.mpr c11
                      by_cases c12 : a0 = 192
                      · rw [if_pos c12] at H
                        have c12b0 : (a0 == 192) = true := beq_iff_eq.mpr c12
                        have c12b1 : (a0 != 192) = false := bne_eq_false_iff_eq.mpr c12
                        clear c12
                        have H' := Aside0.mk H
                        clear H
                        go_wp2
                        go_meet
                        case rel => exact ⟨_, (true), (by first | rfl | (simp; done) | (simp [*]; done)), H', ⟨by first | omega | exact Nat.le_refl _⟩, by repeat (first | exact Drawn0.refl _ | apply Drawn0.step)⟩
                      · rw [if_neg c12] at H
                        have c12b0 : (a0 == 192) = false := beq_eq_false_iff_ne.mpr c12
                        have c12b1 : (a0 != 192) = true := bne_iff_ne.mpr c12
                        have H' := Aside0.mk H
                        clear H
                        go_wp2
                        go_meet
                        case rel => exact ⟨_, ((a0 == 193)), (by first | rfl | (simp; done) | (simp [*]; done)), H', ⟨by first | omega | exact Nat.le_refl _⟩, by repeat (first | exact Drawn0.refl _ | apply Drawn0.step)⟩
              · rw [if_neg c8] at H
                have c8b0 : decide (178 ≤ a0) = false := decide_eq_false c8
                clear c8
                by_cases c13 : a0 = 187
                · rw [if_pos c13] at H
                  have c13b0 : (a0 == 187) = true := beq_iff_eq.mpr c13
                  have c13b1 : (a0 != 187) = false := bne_eq_false_iff_eq.mpr c13
                  clear c13
                  have H' := Aside0.mk H
                  clear H
                  go_wp2
                  go_meet
                  case rel => exact ⟨_, (true), (by first | rfl | (simp; done) | (simp [*]; done)), H', ⟨by first | omega | exact Nat.le_refl _⟩, by repeat (first | exact Drawn0.refl _ | apply Drawn0.step)⟩
                · rw [if_neg c13] at H
                  have c13b0 : (a0 == 187) = false := beq_eq_false_iff_ne.mpr c13
                  have c13b1 : (a0 != 187) = true := bne_iff_ne.mpr c13
                  by_cases c14 : a0 = 189
                  · rw [if_pos c14] at H
                    have c14b0 : (a0 == 189) = true := beq_iff_eq.mpr c14
                    have c14b1 : (a0 != 189) = false := bne_eq_false_iff_eq.mpr c14
                    clear c14
                    have H' := Aside0.mk H
                    clear H
                    go_wp2
                    go_meet
                    case rel => exact ⟨_, (true), (by first | rfl | (simp; done) | (simp [*]; done)), H', ⟨by first | omega | exact Nat.le_refl _⟩, by repeat (first | exact Drawn0.refl _ | apply Drawn0.step)⟩
                  · rw [if_neg c14] at H
                    have c14b0 : (a0 == 189) = false := beq_eq_false_iff_ne.mpr c14
                    have c14b1 : (a0 != 189) = true := bne_iff_ne.mpr c14
                    by_cases c15 : a0 = 192
                    · rw [if_pos c15] at H
                      have c15b0 : (a0 == 192) = true := beq_iff_eq.mpr c15
                      have c15b1 : (a0 != 192) = false := bne_eq_false_iff_eq.mpr c15
                      clear c15
                      have H' := Aside0.mk H
                      clear H
                      go_wp2
                      go_meet
                      case rel => exact ⟨_, (true), (by first | rfl | (simp; done) | (simp [*]; done)), H', ⟨by first | omega | exact Nat.le_refl _⟩, by repeat (first | exact Drawn0.refl _ | apply Drawn0.step)⟩
                    · rw [if_neg c15] at H
                      have c15b0 : (a0 == 192) = false := beq_eq_false_iff_ne.mpr c15
                      have c15b1 : (a0 != 192) = true := bne_iff_ne.mpr c15
                      have H' := Aside0.mk H
                      clear H
                      go_wp2
                      go_meet
                      case rel => exact ⟨_, ((a0 == 193)), (by first | rfl | (simp; done) | (simp [*]; done)), H', ⟨by first | omega | exact Nat.le_refl _⟩, by repeat (first | exact Drawn0.refl _ | apply Drawn0.step)⟩
        case rest =>
          clear HC5
          try clear c1
          try clear c2
          try clear c2b0
          try clear c2b1
          try clear p2
          try clear c3
          try clear c3b0
          try clear c3b1
          try clear c4
          try clear c4b0
          try clear c4b1
          try clear c6
          try clear c6b0
          try clear c6b1
          try clear c7
          try clear c7b0
          try clear c7b1
          try clear c8
          try clear c8b0
          try clear c9
          try clear c9b0
          try clear c10
          try clear c10b0
          try clear c10b1
          try clear c11
          try clear c11b0
          try clear c11b1
          try clear c12
          try clear c12b0
          try clear c12b1
          try clear c13
          try clear c13b0
          try clear c13b1
          try clear c14
          try clear c14b0
          try clear c14b1
          try clear c15
          try clear c15b0
          try clear c15b1
          obtain ⟨kq, x12_4, rfl, HA, HJ4, ⟨mc4, rfl⟩⟩ := hcut
          cases kq with
          | zero => exact absurd HA.out (by simp [code_form.j0])
          | succ kj4 =>
            have H := HA.out
            clear HA
            simp only [code_form.j0] at H
            by_cases c16 : x12_4 = true
            · subst c16
              have H1 : (some 5) = some r := by rw [if_pos rfl] at H; exact H
              clear H
              have H := H1
              clear H1
              obtain rfl := Option.some.inj H
              go_wp2
              go_ret
              exact ⟨by first | rfl | (simp; done) | (simp [*]; done), by repeat (first | exact Drawn0.refl _ | apply Drawn0.step)⟩
            · replace c16 := Bool.eq_false_iff.mpr c16
              subst c16
              have H1 : (if a0 ≥ 21 then (if a0 ≤ 25 then (code_form.j1 kj4 a0 true) else (if a0 ≥ 54 then (code_form.j1 kj4 a0 (decide (a0 ≤ 58))) else (code_form.j1 kj4 a0 false))) else (if a0 ≥ 54 then (code_form.j1 kj4 a0 (decide (a0 ≤ 58))) else (code_form.j1 kj4 a0 false))) = some r := by rw [if_neg (show ¬ (false = true) by decide)] at H; exact H
              clear H
              have H := H1
              clear H1
              have HC17 := Aside0.mk H
              clear H
              go_upto_region 9 with (fail)
              go_cut [43] (fun v43 wc => ∃ (kq : Nat) (x43_16 : Bool), v43 = .bool x43_16 ∧ Aside0 (code_form.j1 kq a0 x43_16 = some r) ∧ Aside0 (kq ≤ kj4) ∧ Drawn0 w wc)
              case first =>
                have H := HC17.out
                clear HC17
                by_cases c18 : a0 ≥ 21
                · rw [if_pos c18] at H
                  have c18b0 : decide (21 ≤ a0) = true := decide_eq_true c18
                  clear c18
                  (first | rw [c18b0] | (simp only [i64_w, i32_w]; rw [c18b0]) | skip)
                  by_cases c19 : a0 ≤ 25
                  · rw [if_pos c19] at H
                    have c19b0 : decide (a0 ≤ 25) = true := decide_eq_true c19
                    clear c19
                    have H' := Aside0.mk H
                    clear H
                    go_wp2
                    go_meet
                    case rel => exact ⟨_, (true), (by first | rfl | (simp; done) | (simp [*]; done)), H', ⟨by have := HJ4.out; first | omega | exact Nat.le_refl _⟩, by repeat (first | exact Drawn0.refl _ | apply Drawn0.step)⟩
                  · rw [if_neg c19] at H
                    have c19b0 : decide (a0 ≤ 25) = false := decide_eq_false c19
                    clear c19
                    by_cases c20 : a0 ≥ 54
                    · rw [if_pos c20] at H
                      have c20b0 : decide (54 ≤ a0) = true := decide_eq_true c20
                      clear c20
                      have H' := Aside0.mk H
                      clear H
                      go_wp2
                      go_meet
                      case rel => exact ⟨_, (decide (a0 ≤ 58)), (by first | rfl | (simp; done) | (simp [*]; done)), H', ⟨by have := HJ4.out; first | omega | exact Nat.le_refl _⟩, by repeat (first | exact Drawn0.refl _ | apply Drawn0.step)⟩
                    · rw [if_neg c20] at H
                      have c20b0 : decide (54 ≤ a0) = false := decide_eq_false c20
                      clear c20
                      have H' := Aside0.mk H
                      clear H
                      go_wp2
                      go_meet
                      case rel => exact ⟨_, (false), (by first | rfl | (simp; done) | (simp [*]; done)), H', ⟨by have := HJ4.out; first | omega | exact Nat.le_refl _⟩, by repeat (first | exact Drawn0.refl _ | apply Drawn0.step)⟩
                · rw [if_neg c18] at H
                  have c18b0 : decide (21 ≤ a0) = false := decide_eq_false c18
                  clear c18
                  (first | rw [c18b0] | (simp only [i64_w, i32_w]; rw [c18b0]) | skip)
                  by_cases c21 : a0 ≥ 54
                  · rw [if_pos c21] at H
                    have c21b0 : decide (54 ≤ a0) = true := decide_eq_true c21
                    clear c21
                    have H' := Aside0.mk H
                    clear H
                    go_wp2
                    go_meet
                    case rel => exact ⟨_, (decide (a0 ≤ 58)), (by first | rfl | (simp; done) | (simp [*]; done)), H', ⟨by have := HJ4.out; first | omega | exact Nat.le_refl _⟩, by repeat (first | exact Drawn0.refl _ | apply Drawn0.step)⟩
                  · rw [if_neg c21] at H
                    have c21b0 : decide (54 ≤ a0) = false := decide_eq_false c21
                    clear c21
                    have H' := Aside0.mk H
                    clear H
                    go_wp2
                    go_meet
                    case rel => exact ⟨_, (false), (by first | rfl | (simp; done) | (simp [*]; done)), H', ⟨by have := HJ4.out; first | omega | exact Nat.le_refl _⟩, by repeat (first | exact Drawn0.refl _ | apply Drawn0.step)⟩
              case rest =>
                clear HC17
                try clear c1
                try clear c2
                try clear c2b0
                try clear c2b1
                try clear p2
                try clear c3
                try clear c3b0
                try clear c3b1
                try clear c4
                try clear c4b0
                try clear c4b1
                try clear c6
                try clear c6b0
                try clear c6b1
                try clear c7
                try clear c7b0
                try clear c7b1
                try clear c8
                try clear c8b0
                try clear c9
                try clear c9b0
                try clear c10
                try clear c10b0
                try clear c10b1
                try clear c11
                try clear c11b0
                try clear c11b1
                try clear c12
                try clear c12b0
                try clear c12b1
                try clear c13
                try clear c13b0
                try clear c13b1
                try clear c14
                try clear c14b0
                try clear c14b1
                try clear c15
                try clear c15b0
                try clear c15b1
                try clear c16
                try clear c18
                try clear c18b0
                try clear c19
                try clear c19b0
                try clear c20
                try clear c20b0
                try clear c21
                try clear c21b0
                try clear p2
                obtain ⟨kq, x43_16, rfl, HA, HJ16, ⟨mc16, rfl⟩⟩ := hcut
                cases kq with
                | zero => exact absurd HA.out (by simp [code_form.j1])
                | succ kj16 =>
                  have H := HA.out
                  clear HA
                  simp only [code_form.j1] at H
                  by_cases c22 : x43_16 = true
                  · subst c22
                    have H1 : (some 6) = some r := by rw [if_pos rfl] at H; exact H
                    clear H
                    have H := H1
                    clear H1
                    obtain rfl := Option.some.inj H
                    go_wp2
                    go_ret
                    exact ⟨by first | rfl | (simp; done) | (simp [*]; done), by repeat (first | exact Drawn0.refl _ | apply Drawn0.step)⟩
                  · replace c22 := Bool.eq_false_iff.mpr c22
                    subst c22
                    have H1 : (if a0 = 132 then (some 7) else (if a0 ≥ 153 then (if a0 ≤ 167 then (code_form.j2 kj16 a0 true) else (if a0 = 198 then (code_form.j2 kj16 a0 true) else (code_form.j2 kj16 a0 (a0 == 199)))) else (if a0 = 198 then (code_form.j2 kj16 a0 true) else (code_form.j2 kj16 a0 (a0 == 199))))) = some r := by rw [if_neg (show ¬ (false = true) by decide)] at H; exact H
                    clear H
                    have H := H1
                    clear H1
                    by_cases c23 : a0 = 132
                    · rw [if_pos c23] at H
                      have c23b0 : (a0 == 132) = true := beq_iff_eq.mpr c23
                      have c23b1 : (a0 != 132) = false := bne_eq_false_iff_eq.mpr c23
                      clear c23
                      obtain rfl := Option.some.inj H
                      go_wp2
                      go_ret
                      exact ⟨by first | rfl | (simp; done) | (simp [*]; done), by repeat (first | exact Drawn0.refl _ | apply Drawn0.step)⟩
                    · rw [if_neg c23] at H
                      have c23b0 : (a0 == 132) = false := beq_eq_false_iff_ne.mpr c23
                      have c23b1 : (a0 != 132) = true := bne_iff_ne.mpr c23
                      have HC24 := Aside0.mk H
                      clear H
                      go_upto_region 13 with (fail)
                      go_cut [61] (fun v61 wc => ∃ (kq : Nat) (x61_23 : Bool), v61 = .bool x61_23 ∧ Aside0 (code_form.j2 kq a0 x61_23 = some r) ∧ Aside0 (kq ≤ kj16) ∧ Drawn0 w wc)
                      case first =>
                        have H := HC24.out
                        clear HC24
                        by_cases c25 : a0 ≥ 153
                        · rw [if_pos c25] at H
                          have c25b0 : decide (153 ≤ a0) = true := decide_eq_true c25
                          clear c25
                          (first | rw [c25b0] | (simp only [i64_w, i32_w]; rw [c25b0]) | skip)
                          by_cases c26 : a0 ≤ 167
                          · rw [if_pos c26] at H
                            have c26b0 : decide (a0 ≤ 167) = true := decide_eq_true c26
                            clear c26
                            have H' := Aside0.mk H
                            clear H
                            go_wp2
                            go_meet
                            case rel => exact ⟨_, (true), (by first | rfl | (simp; done) | (simp [*]; done)), H', ⟨by have := HJ4.out; have := HJ16.out; first | omega | exact Nat.le_refl _⟩, by repeat (first | exact Drawn0.refl _ | apply Drawn0.step)⟩
                          · rw [if_neg c26] at H
                            have c26b0 : decide (a0 ≤ 167) = false := decide_eq_false c26
                            clear c26
                            by_cases c27 : a0 = 198
                            · rw [if_pos c27] at H
                              have c27b0 : (a0 == 198) = true := beq_iff_eq.mpr c27
                              have c27b1 : (a0 != 198) = false := bne_eq_false_iff_eq.mpr c27
                              clear c27
                              have H' := Aside0.mk H
                              clear H
                              go_wp2
                              go_meet
                              case rel => exact ⟨_, (true), (by first | rfl | (simp; done) | (simp [*]; done)), H', ⟨by have := HJ4.out; have := HJ16.out; first | omega | exact Nat.le_refl _⟩, by repeat (first | exact Drawn0.refl _ | apply Drawn0.step)⟩
                            · rw [if_neg c27] at H
                              have c27b0 : (a0 == 198) = false := beq_eq_false_iff_ne.mpr c27
                              have c27b1 : (a0 != 198) = true := bne_iff_ne.mpr c27
                              have H' := Aside0.mk H
                              clear H
                              go_wp2
                              go_meet
                              case rel => exact ⟨_, ((a0 == 199)), (by first | rfl | (simp; done) | (simp [*]; done)), H', ⟨by have := HJ4.out; have := HJ16.out; first | omega | exact Nat.le_refl _⟩, by repeat (first | exact Drawn0.refl _ | apply Drawn0.step)⟩
                        · rw [if_neg c25] at H
                          have c25b0 : decide (153 ≤ a0) = false := decide_eq_false c25
                          clear c25
                          (first | rw [c25b0] | (simp only [i64_w, i32_w]; rw [c25b0]) | skip)
                          by_cases c28 : a0 = 198
                          · rw [if_pos c28] at H
                            have c28b0 : (a0 == 198) = true := beq_iff_eq.mpr c28
                            have c28b1 : (a0 != 198) = false := bne_eq_false_iff_eq.mpr c28
                            clear c28
                            have H' := Aside0.mk H
                            clear H
                            go_wp2
                            go_meet
                            case rel => exact ⟨_, (true), (by first | rfl | (simp; done) | (simp [*]; done)), H', ⟨by have := HJ4.out; have := HJ16.out; first | omega | exact Nat.le_refl _⟩, by repeat (first | exact Drawn0.refl _ | apply Drawn0.step)⟩
                          · rw [if_neg c28] at H
                            have c28b0 : (a0 == 198) = false := beq_eq_false_iff_ne.mpr c28
                            have c28b1 : (a0 != 198) = true := bne_iff_ne.mpr c28
                            have H' := Aside0.mk H
                            clear H
                            go_wp2
                            go_meet
                            case rel => exact ⟨_, ((a0 == 199)), (by first | rfl | (simp; done) | (simp [*]; done)), H', ⟨by have := HJ4.out; have := HJ16.out; first | omega | exact Nat.le_refl _⟩, by repeat (first | exact Drawn0.refl _ | apply Drawn0.step)⟩
                      case rest =>
                        clear HC24
                        try clear c1
                        try clear c2
                        try clear c2b0
                        try clear c2b1
                        try clear p2
                        try clear c3
                        try clear c3b0
                        try clear c3b1
                        try clear c4
                        try clear c4b0
                        try clear c4b1
                        try clear c6
                        try clear c6b0
                        try clear c6b1
                        try clear c7
                        try clear c7b0
                        try clear c7b1
                        try clear c8
                        try clear c8b0
                        try clear c9
                        try clear c9b0
                        try clear c10
                        try clear c10b0
                        try clear c10b1
                        try clear c11
                        try clear c11b0
                        try clear c11b1
                        try clear c12
                        try clear c12b0
                        try clear c12b1
                        try clear c13
                        try clear c13b0
                        try clear c13b1
                        try clear c14
                        try clear c14b0
                        try clear c14b1
                        try clear c15
                        try clear c15b0
                        try clear c15b1
                        try clear c16
                        try clear c18
                        try clear c18b0
                        try clear c19
                        try clear c19b0
                        try clear c20
                        try clear c20b0
                        try clear c21
                        try clear c21b0
                        try clear c22
                        try clear c23
                        try clear c23b0
                        try clear c23b1
                        try clear c25
                        try clear c25b0
                        try clear c26
                        try clear c26b0
                        try clear c27
                        try clear c27b0
                        try clear c27b1
                        try clear c28
                        try clear c28b0
                        try clear c28b1
                        try clear p2
                        obtain ⟨kq, x61_23, rfl, HA, HJ23, ⟨mc23, rfl⟩⟩ := hcut
                        cases kq with
                        | zero => exact absurd HA.out (by simp [code_form.j2])
                        | succ kj23 =>
                          have H := HA.out
                          clear HA
                          simp only [code_form.j2] at H
                          by_cases c29 : x61_23 = true
                          · subst c29
                            have H1 : (some 8) = some r := by rw [if_pos rfl] at H; exact H
                            clear H
                            have H := H1
                            clear H1
                            obtain rfl := Option.some.inj H
                            go_wp2
                            go_ret
                            exact ⟨by first | rfl | (simp; done) | (simp [*]; done), by repeat (first | exact Drawn0.refl _ | apply Drawn0.step)⟩
                          · replace c29 := Bool.eq_false_iff.mpr c29
                            subst c29
                            have H1 : (if a0 = 200 then (some 9) else (if a0 = 170 then (some 10) else (if a0 = 171 then (some 11) else (if a0 = 185 then (some 12) else (if a0 = 188 then (some 13) else (if a0 = 197 then (some 14) else (if a0 = 196 then (some 15) else (if a0 = 168 then (some 1) else (if a0 = 169 then (some 1) else (if a0 = 186 then (some 1) else (if a0 > 200 then (some 1) else (some 0)))))))))))) = some r := by rw [if_neg (show ¬ (false = true) by decide)] at H; exact H
                            clear H
                            have H := H1
                            clear H1
                            by_cases c30 : a0 = 200
                            · rw [if_pos c30] at H
                              have c30b0 : (a0 == 200) = true := beq_iff_eq.mpr c30
                              have c30b1 : (a0 != 200) = false := bne_eq_false_iff_eq.mpr c30
                              clear c30
                              obtain rfl := Option.some.inj H
                              go_wp2
                              go_ret
                              exact ⟨by first | rfl | (simp; done) | (simp [*]; done), by repeat (first | exact Drawn0.refl _ | apply Drawn0.step)⟩
                            · rw [if_neg c30] at H
                              have c30b0 : (a0 == 200) = false := beq_eq_false_iff_ne.mpr c30
                              have c30b1 : (a0 != 200) = true := bne_iff_ne.mpr c30
                              by_cases c31 : a0 = 170
                              · rw [if_pos c31] at H
                                have c31b0 : (a0 == 170) = true := beq_iff_eq.mpr c31
                                have c31b1 : (a0 != 170) = false := bne_eq_false_iff_eq.mpr c31
                                clear c31
                                obtain rfl := Option.some.inj H
                                go_wp2
                                go_ret
                                exact ⟨by first | rfl | (simp; done) | (simp [*]; done), by repeat (first | exact Drawn0.refl _ | apply Drawn0.step)⟩
                              · rw [if_neg c31] at H
                                have c31b0 : (a0 == 170) = false := beq_eq_false_iff_ne.mpr c31
                                have c31b1 : (a0 != 170) = true := bne_iff_ne.mpr c31
                                by_cases c32 : a0 = 171
                                · rw [if_pos c32] at H
                                  have c32b0 : (a0 == 171) = true := beq_iff_eq.mpr c32
                                  have c32b1 : (a0 != 171) = false := bne_eq_false_iff_eq.mpr c32
                                  clear c32
                                  obtain rfl := Option.some.inj H
                                  go_wp2
                                  go_ret
                                  exact ⟨by first | rfl | (simp; done) | (simp [*]; done), by repeat (first | exact Drawn0.refl _ | apply Drawn0.step)⟩
                                · rw [if_neg c32] at H
                                  have c32b0 : (a0 == 171) = false := beq_eq_false_iff_ne.mpr c32
                                  have c32b1 : (a0 != 171) = true := bne_iff_ne.mpr c32
                                  by_cases c33 : a0 = 185
                                  · rw [if_pos c33] at H
                                    have c33b0 : (a0 == 185) = true := beq_iff_eq.mpr c33
                                    have c33b1 : (a0 != 185) = false := bne_eq_false_iff_eq.mpr c33
                                    clear c33
                                    obtain rfl := Option.some.inj H
                                    go_wp2
                                    go_ret
                                    exact ⟨by first | rfl | (simp; done) | (simp [*]; done), by repeat (first | exact Drawn0.refl _ | apply Drawn0.step)⟩
                                  · rw [if_neg c33] at H
                                    have c33b0 : (a0 == 185) = false := beq_eq_false_iff_ne.mpr c33
                                    have c33b1 : (a0 != 185) = true := bne_iff_ne.mpr c33
                                    by_cases c34 : a0 = 188
                                    · rw [if_pos c34] at H
                                      have c34b0 : (a0 == 188) = true := beq_iff_eq.mpr c34
                                      have c34b1 : (a0 != 188) = false := bne_eq_false_iff_eq.mpr c34
                                      clear c34
                                      obtain rfl := Option.some.inj H
                                      go_wp2
                                      go_ret
                                      exact ⟨by first | rfl | (simp; done) | (simp [*]; done), by repeat (first | exact Drawn0.refl _ | apply Drawn0.step)⟩
                                    · rw [if_neg c34] at H
                                      have c34b0 : (a0 == 188) = false := beq_eq_false_iff_ne.mpr c34
                                      have c34b1 : (a0 != 188) = true := bne_iff_ne.mpr c34
                                      by_cases c35 : a0 = 197
                                      · rw [if_pos c35] at H
                                        have c35b0 : (a0 == 197) = true := beq_iff_eq.mpr c35
                                        have c35b1 : (a0 != 197) = false := bne_eq_false_iff_eq.mpr c35
                                        clear c35
                                        obtain rfl := Option.some.inj H
                                        go_wp2
                                        go_ret
                                        exact ⟨by first | rfl | (simp; done) | (simp [*]; done), by repeat (first | exact Drawn0.refl _ | apply Drawn0.step)⟩
                                      · rw [if_neg c35] at H
                                        have c35b0 : (a0 == 197) = false := beq_eq_false_iff_ne.mpr c35
                                        have c35b1 : (a0 != 197) = true := bne_iff_ne.mpr c35
                                        by_cases c36 : a0 = 196
                                        · rw [if_pos c36] at H
                                          have c36b0 : (a0 == 196) = true := beq_iff_eq.mpr c36
                                          have c36b1 : (a0 != 196) = false := bne_eq_false_iff_eq.mpr c36
                                          clear c36
                                          obtain rfl := Option.some.inj H
                                          go_wp2
                                          go_ret
                                          exact ⟨by first | rfl | (simp; done) | (simp [*]; done), by repeat (first | exact Drawn0.refl _ | apply Drawn0.step)⟩
                                        · rw [if_neg c36] at H
                                          have c36b0 : (a0 == 196) = false := beq_eq_false_iff_ne.mpr c36
                                          have c36b1 : (a0 != 196) = true := bne_iff_ne.mpr c36
                                          by_cases c37 : a0 = 168
                                          · rw [if_pos c37] at H
                                            have c37b0 : (a0 == 168) = true := beq_iff_eq.mpr c37
                                            have c37b1 : (a0 != 168) = false := bne_eq_false_iff_eq.mpr c37
                                            clear c37
                                            obtain rfl := Option.some.inj H
                                            go_wp2
                                            go_ret
                                            exact ⟨by first | rfl | (simp; done) | (simp [*]; done), by repeat (first | exact Drawn0.refl _ | apply Drawn0.step)⟩
                                          · rw [if_neg c37] at H
                                            have c37b0 : (a0 == 168) = false := beq_eq_false_iff_ne.mpr c37
                                            have c37b1 : (a0 != 168) = true := bne_iff_ne.mpr c37
                                            by_cases c38 : a0 = 169
                                            · rw [if_pos c38] at H
                                              have c38b0 : (a0 == 169) = true := beq_iff_eq.mpr c38
                                              have c38b1 : (a0 != 169) = false := bne_eq_false_iff_eq.mpr c38
                                              clear c38
                                              obtain rfl := Option.some.inj H
                                              go_wp2
                                              go_ret
                                              exact ⟨by first | rfl | (simp; done) | (simp [*]; done), by repeat (first | exact Drawn0.refl _ | apply Drawn0.step)⟩
                                            · rw [if_neg c38] at H
                                              have c38b0 : (a0 == 169) = false := beq_eq_false_iff_ne.mpr c38
                                              have c38b1 : (a0 != 169) = true := bne_iff_ne.mpr c38
                                              by_cases c39 : a0 = 186
                                              · rw [if_pos c39] at H
                                                have c39b0 : (a0 == 186) = true := beq_iff_eq.mpr c39
                                                have c39b1 : (a0 != 186) = false := bne_eq_false_iff_eq.mpr c39
                                                clear c39
                                                obtain rfl := Option.some.inj H
                                                go_wp2
                                                go_ret
                                                exact ⟨by first | rfl | (simp; done) | (simp [*]; done), by repeat (first | exact Drawn0.refl _ | apply Drawn0.step)⟩
                                              · rw [if_neg c39] at H
                                                have c39b0 : (a0 == 186) = false := beq_eq_false_iff_ne.mpr c39
                                                have c39b1 : (a0 != 186) = true := bne_iff_ne.mpr c39
                                                by_cases c40 : a0 > 200
                                                · rw [if_pos c40] at H
                                                  have c40b0 : decide (200 < a0) = true := decide_eq_true c40
                                                  clear c40
                                                  obtain rfl := Option.some.inj H
                                                  go_wp2
                                                  go_ret
                                                  exact ⟨by first | rfl | (simp; done) | (simp [*]; done), by repeat (first | exact Drawn0.refl _ | apply Drawn0.step)⟩
                                                · rw [if_neg c40] at H
                                                  have c40b0 : decide (200 < a0) = false := decide_eq_false c40
                                                  clear c40
                                                  obtain rfl := Option.some.inj H
                                                  go_wp2
                                                  go_ret
                                                  exact ⟨by first | rfl | (simp; done) | (simp [*]; done), by repeat (first | exact Drawn0.refl _ | apply Drawn0.step)⟩
end Go.Proofs.Ytfnjbmpolggdeaa.CD
end
section
namespace Go.Proofs.Ytfnjbmpolggdeaa.CD
open Go.RowKit Go.Lib Go.Proofs.YtfnjbmpolggdeaaW.PrintWords Go.Proofs.YtfnjbmpolggdeaaW.PrintLast Go.Proofs.YtfnjbmpolggdeaaW.PrintMore
set_option linter.unusedVariables false
set_option linter.unusedSimpArgs false
def F15 (o : Option Int) : Prop := ∃ v : Int, o = some v ∧ 0 ≤ v ∧ v ≤ 15
theorem F15.mk (v : Int) (h : 0 ≤ v ∧ v ≤ 15) : F15 (some v) := ⟨v, rfl, h⟩
theorem F15.ite {c : Prop} [Decidable c] {a b : Option Int} (ha : F15 a) (hb : F15 b) : F15 (if c then a else b) := by split <;> assumption
theorem form_j2 (k : Nat) (x : Int) (b : Bool) : F15 (code_form.j2 (k + 1) x b) := by
  show F15 (code_form.j2 (k + 1) x b)
  simp only [code_form.j2]
  repeat' first
    | (with_reducible exact F15.mk _ (by decide))
    | (with_reducible refine F15.ite ?_ ?_)
theorem form_j1 (k : Nat) (x : Int) (b : Bool) : F15 (code_form.j1 (k + 2) x b) := by
  show F15 (code_form.j1 ((k + 1) + 1) x b)
  simp only [code_form.j1]
  repeat' first
    | (with_reducible exact F15.mk _ (by decide))
    | (with_reducible exact form_j2 _ _ _)
    | (with_reducible refine F15.ite ?_ ?_)
theorem form_j0 (k : Nat) (x : Int) (b : Bool) : F15 (code_form.j0 (k + 3) x b) := by
  show F15 (code_form.j0 ((k + 2) + 1) x b)
  simp only [code_form.j0]
  repeat' first
    | (with_reducible exact F15.mk _ (by decide))
    | (with_reducible exact form_j1 _ _ _)
    | (with_reducible refine F15.ite ?_ ?_)
theorem form_f (k : Nat) (x : Int) : F15 (code_form.f (k + 3) x) := by
  unfold code_form.f
  repeat' first
    | (with_reducible exact F15.mk _ (by decide))
    | (with_reducible exact form_j0 _ _ _)
    | (with_reducible refine F15.ite ?_ ?_)
def formF (op : Int) : Int := (code_form.f 3 op).getD 0
theorem formF_some (op : Int) : code_form.f 3 op = some (formF op) := by
  obtain ⟨v, h, _⟩ := form_f 0 op
  unfold formF
  rw [h]; rfl
theorem formF_le (op : Int) : 0 ≤ formF op ∧ formF op ≤ 15 := by
  obtain ⟨v, h, h1⟩ := form_f 0 op
  unfold formF
  rw [h]; exact h1
end Go.Proofs.Ytfnjbmpolggdeaa.CD
end
section
namespace Go.Proofs.Ytfnjbmpolggdeaa
open Go.RowKit Go.Lib Go.Proofs.YtfnjbmpolggdeaaW.PrintWords
set_option linter.unusedVariables false
set_option linter.unusedSimpArgs false
theorem mrow.step {w w' : World} {base e n} {v : Value} {xs : List Value} (h : mrow w base e v n xs) (hm : ∀ k, v.ownBlock = some k → w'.heap[k]? = w.heap[k]?) : mrow w' base e v n xs := by
  refine ⟨h.1, ?_⟩
  rcases h.2 with h2 | ⟨g, cap, cur, fr, hv, hbg, hg, r⟩
  · exact .inl h2
  · exact .inr ⟨g, cap, cur, fr, hv, hbg, (hm g (by rw [hv]; rfl)).trans hg, r⟩
theorem mrow.typed {w : World} {base e n} {v : Value} {xs : List Value} (h : mrow w base e v n xs) : ∀ k, v.ownBlock = some k → ∃ cur fr, w.heap[k]? = some (.cells cur e fr) := by
  intro k hk
  rcases h.2 with ⟨rfl, _⟩ | ⟨g, cap, cur, fr, rfl, hb, hg, _⟩
  · simp [Value.ownBlock] at hk
  · simp [Value.ownBlock] at hk
    subst hk
    exact ⟨cur, fr, hg⟩
def BW (base : Nat) (W : World) (g : Nat) (T : TypeId) (cells : Value → Array Value) (v : Value) (l : List Nat) : Prop :=
  W.heap[g]? = some (.cells (cells v) T (0, 0)) ∧ base ≤ g ∧ mrow W base 5 v l.length (u8s l)
def BS (w : World) (g : Nat) (v : Value) (w' : World) (v' : Value) : Prop :=
  Kept w w' (fun k => k = g ∨ v.ownBlock = some k) ∧ (v'.ownBlock = v.ownBlock ∨ ∃ b, v'.ownBlock = some b ∧ w.heap.size ≤ b)
theorem BS.trans {w w1 w2 : World} {g : Nat} {v v1 v2 : Value} (h : BS w g v w1 v1) (k : BS w1 g v1 w2 v2) : BS w g v w2 v2 := by
  refine ⟨h.1.then_ k.1 (fun q hq => ?_), ?_⟩
  · rcases hq with rfl | hq
    · exact .inl (.inl rfl)
    · rcases h.2 with h2 | ⟨b, hb, hbs⟩
      · exact .inl (.inr (h2 ▸ hq))
      · rw [hb] at hq; injection hq with hq; exact .inr (by omega)
  · rcases k.2 with k2 | ⟨b, hb, hbs⟩
    · rcases h.2 with h2 | h2
      · exact .inl (k2.trans h2)
      · rw [k2]; exact .inr h2
    · exact .inr ⟨b, hb, Nat.le_trans h.1.1 hbs⟩
theorem BS.below {w w1 : World} {g : Nat} {v : Value} (hb : Below w.heap.size w w1) : BS w g v w1 v := ⟨Kept.of_below hb _, .inl rfl⟩
theorem BS.blk {w w' : World} {g k : Nat} {v v' : Value} {o : Obj} (h : BS w g v w' v') (hk : w.heap[k]? = some o) (h1 : k ≠ g) (h2 : v.ownBlock ≠ some k) : w'.heap[k]? = some o :=
  blk_kept hk h.1 (fun hh => hh.elim h1 h2)
theorem BS.cell {w w' : World} {g : Nat} {v v' u : Value} {a : Addr} (h : BS w g v w' v') (hc : w.cell? a = some u) (h1 : a.block ≠ g) (h2 : v.ownBlock ≠ some a.block) : w'.cell? a = some u :=
  cell_kept hc h.1 (fun hh => hh.elim h1 h2)
section
variable {base : Nat} {W W1 : World} {g : Nat} {T : TypeId} {cells : Value → Array Value} {v : Value} {l : List Nat}
theorem BW.ne (h : BW base W g T cells v l) (hT : T ≠ 5) : v.ownBlock ≠ some g := fun he => by
  obtain ⟨cur, fr, hc⟩ := h.2.2.typed g he
  rw [h.1] at hc
  injection hc with hc
  injection hc with _ ht
  exact hT ht
theorem BW.below (h : BW base W g T cells v l) (hb : Below W.heap.size W W1) : BW base W1 g T cells v l :=
  ⟨(hb.block g (blk_lt h.1)).trans h.1, h.2.1, h.2.2.below hb⟩
theorem BW.put (h : BW base W g T cells v l) (hT : T ≠ 5) {v1 : Value} {l1 : List Nat} (hg : W.grownBy W1 v.ownBlock) (hm : mrow W1 base 5 v1 l1.length (u8s l1)) (hat : v1.ownBlock = v.ownBlock ∨ ∃ b, v1.ownBlock = some b ∧ W.heap.size ≤ b) (hc : ∀ u, (cells u).size = (cells v).size ∧ ((cells v).setIfInBounds 0 u) = cells u) :
    BW base (W1.setCell ⟨g, 0, none⟩ v1) g T cells v1 l1 ∧ BS W g v (W1.setCell ⟨g, 0, none⟩ v1) v1 := by
  have hgg : W1.heap[g]? = some (.cells (cells v) T (0, 0)) := (hg.block g (blk_lt h.1) (fun e => h.ne hT e.symm)).trans h.1
  have hne : v1.ownBlock ≠ some g := by
    rcases hat with e | ⟨b, e, hb⟩
    · rw [e]; exact h.ne hT
    · rw [e]; intro he; injection he with he; have := blk_lt h.1; omega
  refine ⟨⟨?_, h.2.1, hm.step (fun k hk => Below.heap_setCell W1 _ v1 k (fun e => hne (by rw [hk]; exact congrArg some e)))⟩, ?_, hat⟩
  · have := blk_set hgg 0 v1
    rw [this, (hc v1).2]
  · exact ((Kept.refl W _).of_grown hg (fun k hk => .inl (.inr hk))).setCell (.inl (.inl rfl)) v1
end
end Go.Proofs.Ytfnjbmpolggdeaa
end
section
namespace Go.Proofs.Ytfnjbmpolggdeaa
open Go.RowKit Go.Lib Go.Proofs.YtfnjbmpolggdeaaW.PrintWords
set_option linter.unusedVariables false
set_option linter.unusedSimpArgs false
theorem below_drew0 {w w1 : World} (h : Below w.drew.heap.size w.drew w1) : Below w.heap.size w w1 := ⟨h.os, h.tape, h.output, h.size, h.block⟩
theorem drewB (W : World) : Below W.heap.size W W.drew := below_drew0 (Below.refl _ _)
end Go.Proofs.Ytfnjbmpolggdeaa
end
section
namespace Go.Proofs.Ytfnjbmpolggdeaa.CD
open Go.RowKit Go.Lib Go.Proofs.YtfnjbmpolggdeaaW.PrintWords Go.Proofs.YtfnjbmpolggdeaaW.PrintLast Go.Proofs.YtfnjbmpolggdeaaW.PrintMore
set_option linter.unusedVariables false
set_option linter.unusedSimpArgs false
structure HS (w0 w W : World) (g : Nat) (s : ByteArray) (t : RdS) : Prop where
  ri : RI w0 W g s t
  dec : W.heap[w.heap.size]? = some (.cells #[.pointer (some ⟨g, 0, none⟩)] 144 (0, 0))
  res : W.heap[w.heap.size + 1]? = some (.cells #[.int .i64 0, .int .u8 0, .bool false, .int .i64 0, .int .i64 0, .int .i64 0, .slice none 0 0, .slice none 0 0] 82 (0, 0))
  kept : w.heap.size ≤ W.heap.size ∧ ∀ i, i < w.heap.size → i ≠ g → W.heap[i]? = w.heap[i]?
namespace HS
variable {w0 w W W1 : World} {g : Nat} {s : ByteArray} {t t1 : RdS}
theorem rd (h : HS w0 w W g s t) (hI : RI w0 W1 g s t1) (hk : KeepBut W W1 g none) : HS w0 w W1 g s t1 where
  ri := hI
  dec := (hk.2 _ (blk_lt h.dec) (fun e => h.ri.1.ne_blk h.dec (by decide) e.symm) (by simp)).trans h.dec
  res := (hk.2 _ (blk_lt h.res) (fun e => h.ri.1.ne_blk h.res (by decide) e.symm) (by simp)).trans h.res
  kept := ⟨Nat.le_trans h.kept.1 hk.1, fun i hi hg => (hk.2 i (Nat.lt_of_lt_of_le hi h.kept.1) hg (by simp)).trans (h.kept.2 i hi hg)⟩
theorem below (h : HS w0 w W g s t) (hb : Below W.heap.size W W1) : HS w0 w W1 g s t := h.rd (h.ri.below hb) (KeepBut.of_below hb g none)
theorem start (hI : RI w0 w g s t) : HS w0 w ((w.alloc (.cells #[.pointer (some ⟨g, 0, none⟩)] 144)).alloc (.cells #[.int .i64 0, .int .u8 0, .bool false, .int .i64 0, .int .i64 0, .int .i64 0, .slice none 0 0, .slice none 0 0] 82)) g s t := by
  have h1 := below_alloc (Below.refl w.heap.size w) (.cells #[.pointer (some ⟨g, 0, none⟩)] 144)
  have h2 := below_alloc (Below.refl (w.alloc (.cells #[.pointer (some ⟨g, 0, none⟩)] 144)).heap.size (w.alloc (.cells #[.pointer (some ⟨g, 0, none⟩)] 144))) (.cells #[.int .i64 0, .int .u8 0, .bool false, .int .i64 0, .int .i64 0, .int .i64 0, .slice none 0 0, .slice none 0 0] 82)
  have e1 : (w.alloc (.cells #[.pointer (some ⟨g, 0, none⟩)] 144)).heap[w.heap.size]? = some (.cells #[.pointer (some ⟨g, 0, none⟩)] 144 (0, 0)) := Array.getElem?_push_size
  have es : (w.alloc (.cells #[.pointer (some ⟨g, 0, none⟩)] 144)).heap.size = w.heap.size + 1 := Array.size_push _
  have hb := below_alloc h1 (.cells #[.int .i64 0, .int .u8 0, .bool false, .int .i64 0, .int .i64 0, .int .i64 0, .slice none 0 0, .slice none 0 0] 82)
  exact {
    ri := hI.below hb
    dec := (h2.block _ (by rw [es]; omega)).trans e1
    res := by rw [← es]; exact Array.getElem?_push_size
    kept := ⟨hb.size, fun i hi _ => hb.block i hi⟩ }
end HS
def X0 (t : RdS) (op : Int) (wd : Bool) : S82 := ⟨t.1, op, wd, 0, 0, 0, [], []⟩
structure OS (w0 w W : World) (g : Nat) (s : ByteArray) (t : RdS) (bx : Nat) (x : S82) (v6 v7 : Value) : Prop where
  cs : CS w0 w W g s t bx x v6 v7
  hs : HS w0 w W g s t
  rb : bx ≠ w.heap.size + 1
  nb : w.heap.size ≤ bx
namespace OS
variable {w0 w W W1 : World} {g bx : Nat} {s : ByteArray} {t t1 : RdS} {x : S82} {v6 v7 v1 : Value}
theorem rd (h : OS w0 w W g s t bx x v6 v7) (hI : RI w0 W1 g s t1) (hk : KeepBut W W1 g none) : OS w0 w W1 g s t1 bx x v6 v7 := ⟨h.cs.rd hI hk, h.hs.rd hI hk, h.rb, h.nb⟩
theorem below (h : OS w0 w W g s t bx x v6 v7) (hb : Below W.heap.size W W1) : OS w0 w W1 g s t bx x v6 v7 := ⟨h.cs.below hb, h.hs.below hb, h.rb, h.nb⟩
theorem drew (h : OS w0 w W g s t bx x v6 v7) : OS w0 w W.drew g s t bx x v6 v7 := h.below (below_drew (Below.refl _ _))
theorem set (h : OS w0 w W g s t bx x v6 v7) (j : Nat) (u : Value) (x1 : S82) (hx : (insC x v6 v7).setIfInBounds j u = insC x1 v6 v7) (h6 : x1.f6 = x.f6) (h7 : x1.f7 = x.f7) : OS w0 w (W.setCell ⟨bx, j, none⟩ u) g s t bx x1 v6 v7 where
  cs := h.cs.set j u x1 hx h6 h7
  hs := {
    ri := (h.cs.set j u x1 hx h6 h7).ri
    dec := (h.cs.set j u x1 hx h6 h7).dec
    res := (Below.heap_setCell W ⟨bx, j, none⟩ u _ (fun e => h.rb e.symm)).trans h.hs.res
    kept := ⟨(h.cs.set j u x1 hx h6 h7).kept.1, fun i hi hg => (h.cs.set j u x1 hx h6 h7).kept.2 i hi hg (by have := h.nb; omega)⟩ }
  rb := h.rb
  nb := h.nb
theorem put7 (h : OS w0 w W g s t bx x v6 (.slice none 0 0)) {y : Int} (hw : w0.heap.size ≤ w.heap.size) :
    OS w0 w ((W.alloc (.cells #[.int .i64 y] 3)).setCell ⟨bx, 7, none⟩ (.slice (some ⟨W.heap.size, 0, none⟩) 1 1)) g s t bx ⟨x.f0, x.f1, x.f2, x.f3, x.f4, x.f5, x.f6, [y]⟩ v6 (.slice (some ⟨W.heap.size, 0, none⟩) 1 1) := by
  have hb := below_alloc (Below.refl W.heap.size W) (.cells #[.int .i64 y] 3)
  have hc := h.cs.put7 (W1 := W.alloc (.cells #[.int .i64 y] 3)) (Below.refl _ _) (v1 := .slice (some ⟨W.heap.size, 0, none⟩) 1 1) (World.grownBy_alloc W _ _) (RW.lit W w.heap.size y h.cs.kept.1) (.inr ⟨_, rfl, Nat.le_refl _⟩) hw
  exact { cs := hc, hs := { ri := hc.ri, dec := hc.dec, res := (Below.heap_setCell _ ⟨bx, 7, none⟩ _ _ (fun e => h.rb e.symm)).trans ((hb.block _ (blk_lt h.hs.res)).trans h.hs.res), kept := ⟨hc.kept.1, fun i hi hg => hc.kept.2 i hi hg (by have := h.nb; omega)⟩ }, rb := h.rb, nb := h.nb }
end OS
def sgnI (s : ByteArray) (x : S82) (t : RdS) (n : Nat) : S82 × RdS := (⟨x.f0, x.f1, x.f2, (sgnR s t n).1, x.f4, x.f5, x.f6, x.f7⟩, (sgnR s t n).2)
def numI (s : ByteArray) (x : S82) (t : RdS) (n : Nat) : S82 × RdS := (⟨x.f0, x.f1, x.f2, (numR s t n).1, x.f4, x.f5, x.f6, x.f7⟩, (numR s t n).2)
def incI (s : ByteArray) (x : S82) (t : RdS) (n : Nat) : S82 × RdS := (⟨x.f0, x.f1, x.f2, (numR s t n).1, (sgnR s (numR s t n).2 n).1, x.f5, x.f6, x.f7⟩, (sgnR s (numR s t n).2 n).2)
def tgtI (s : ByteArray) (x : S82) (t : RdS) (n : Nat) : S82 × RdS := (⟨x.f0, x.f1, x.f2, x.f3, x.f4, x.f5, x.f6, [wrap64 (x.f0 + (sgnR s t n).1)]⟩, (sgnR s t n).2)
def bodyD (s : ByteArray) (x : S82) (f : Int) (t : RdS) : S82 × RdS :=
  if f = 1 then (x, failR t 14 x.f0) else
  if f = 2 then sgnI s x t 1 else
  if f = 3 then sgnI s x t 2 else
  if f = 4 then numI s x t 1 else
  if f = 5 then numI s x t 2 else
  if f = 6 then numI s x t (if x.f2 then 2 else 1) else
  if f = 7 then incI s x t (if x.f2 then 2 else 1) else
  if f = 8 then tgtI s x t 2 else
  if f = 9 then tgtI s x t 4 else moreD s x f t
def oneD (s : ByteArray) (t : RdS) : S82 × RdS :=
  if formF (numR s t 1).1 = 15 then
    if formF (numR s (numR s t 1).2 1).1 = 6 ∨ formF (numR s (numR s t 1).2 1).1 = 7 then bodyD s (X0 t (numR s (numR s t 1).2 1).1 true) (formF (numR s (numR s t 1).2 1).1) (numR s (numR s t 1).2 1).2
    else (X0 t (numR s (numR s t 1).2 1).1 true, failR (numR s (numR s t 1).2 1).2 14 t.1)
  else bodyD s (X0 t (numR s t 1).1 false) (formF (numR s t 1).1) (numR s t 1).2
def OnePost (w0 w : World) (g : Nat) (s : ByteArray) (p : S82 × RdS) (e : Ending) (w' : World) : Prop :=
  ∃ v6 v7, e = .returned (.agg (insC p.1 v6 v7)) ∧ RI w0 w' g s p.2 ∧ RW w' w.heap.size v6 p.1.f6 ∧ RW w' w.heap.size v7 p.1.f7 ∧ (∀ k, v6.ownBlock = some k → v7.ownBlock ≠ some k) ∧ KeepBut w w' g none
theorem fill8 {W : World} {b ty : Nat} {c0 c1 c2 c3 c4 c5 c6 c7 : Value} (h : W.heap[b]? = some (.cells #[c0, c1, c2, c3, c4, c5, c6, c7] ty (0, 0))) (v0 v1 v2 v3 v4 v5 v6 v7 : Value) :
    (∃ u, W.cell? ⟨b, 0, none⟩ = some u) ∧ W.frozen? ⟨b, 0, none⟩ = false ∧ (∃ u, (W.setCell ⟨b, 0, none⟩ v0).cell? ⟨b, 1, none⟩ = some u) ∧ (W.setCell ⟨b, 0, none⟩ v0).frozen? ⟨b, 1, none⟩ = false ∧ (∃ u, ((W.setCell ⟨b, 0, none⟩ v0).setCell ⟨b, 1, none⟩ v1).cell? ⟨b, 2, none⟩ = some u) ∧ ((W.setCell ⟨b, 0, none⟩ v0).setCell ⟨b, 1, none⟩ v1).frozen? ⟨b, 2, none⟩ = false ∧ (∃ u, (((W.setCell ⟨b, 0, none⟩ v0).setCell ⟨b, 1, none⟩ v1).setCell ⟨b, 2, none⟩ v2).cell? ⟨b, 3, none⟩ = some u) ∧ (((W.setCell ⟨b, 0, none⟩ v0).setCell ⟨b, 1, none⟩ v1).setCell ⟨b, 2, none⟩ v2).frozen? ⟨b, 3, none⟩ = false ∧ (∃ u, ((((W.setCell ⟨b, 0, none⟩ v0).setCell ⟨b, 1, none⟩ v1).setCell ⟨b, 2, none⟩ v2).setCell ⟨b, 3, none⟩ v3).cell? ⟨b, 4, none⟩ = some u) ∧ ((((W.setCell ⟨b, 0, none⟩ v0).setCell ⟨b, 1, none⟩ v1).setCell ⟨b, 2, none⟩ v2).setCell ⟨b, 3, none⟩ v3).frozen? ⟨b, 4, none⟩ = false ∧ (∃ u, (((((W.setCell ⟨b, 0, none⟩ v0).setCell ⟨b, 1, none⟩ v1).setCell ⟨b, 2, none⟩ v2).setCell ⟨b, 3, none⟩ v3).setCell ⟨b, 4, none⟩ v4).cell? ⟨b, 5, none⟩ = some u) ∧ (((((W.setCell ⟨b, 0, none⟩ v0).setCell ⟨b, 1, none⟩ v1).setCell ⟨b, 2, none⟩ v2).setCell ⟨b, 3, none⟩ v3).setCell ⟨b, 4, none⟩ v4).frozen? ⟨b, 5, none⟩ = false ∧ (∃ u, ((((((W.setCell ⟨b, 0, none⟩ v0).setCell ⟨b, 1, none⟩ v1).setCell ⟨b, 2, none⟩ v2).setCell ⟨b, 3, none⟩ v3).setCell ⟨b, 4, none⟩ v4).setCell ⟨b, 5, none⟩ v5).cell? ⟨b, 6, none⟩ = some u) ∧ ((((((W.setCell ⟨b, 0, none⟩ v0).setCell ⟨b, 1, none⟩ v1).setCell ⟨b, 2, none⟩ v2).setCell ⟨b, 3, none⟩ v3).setCell ⟨b, 4, none⟩ v4).setCell ⟨b, 5, none⟩ v5).frozen? ⟨b, 6, none⟩ = false ∧ (∃ u, (((((((W.setCell ⟨b, 0, none⟩ v0).setCell ⟨b, 1, none⟩ v1).setCell ⟨b, 2, none⟩ v2).setCell ⟨b, 3, none⟩ v3).setCell ⟨b, 4, none⟩ v4).setCell ⟨b, 5, none⟩ v5).setCell ⟨b, 6, none⟩ v6).cell? ⟨b, 7, none⟩ = some u) ∧ (((((((W.setCell ⟨b, 0, none⟩ v0).setCell ⟨b, 1, none⟩ v1).setCell ⟨b, 2, none⟩ v2).setCell ⟨b, 3, none⟩ v3).setCell ⟨b, 4, none⟩ v4).setCell ⟨b, 5, none⟩ v5).setCell ⟨b, 6, none⟩ v6).frozen? ⟨b, 7, none⟩ = false ∧
    ((((((((W.setCell ⟨b, 0, none⟩ v0).setCell ⟨b, 1, none⟩ v1).setCell ⟨b, 2, none⟩ v2).setCell ⟨b, 3, none⟩ v3).setCell ⟨b, 4, none⟩ v4).setCell ⟨b, 5, none⟩ v5).setCell ⟨b, 6, none⟩ v6).setCell ⟨b, 7, none⟩ v7).heap[b]? = some (.cells #[v0, v1, v2, v3, v4, v5, v6, v7] ty (0, 0)) ∧ (∀ k, k ≠ b → ((((((((W.setCell ⟨b, 0, none⟩ v0).setCell ⟨b, 1, none⟩ v1).setCell ⟨b, 2, none⟩ v2).setCell ⟨b, 3, none⟩ v3).setCell ⟨b, 4, none⟩ v4).setCell ⟨b, 5, none⟩ v5).setCell ⟨b, 6, none⟩ v6).setCell ⟨b, 7, none⟩ v7).heap[k]? = W.heap[k]?) ∧ ((((((((W.setCell ⟨b, 0, none⟩ v0).setCell ⟨b, 1, none⟩ v1).setCell ⟨b, 2, none⟩ v2).setCell ⟨b, 3, none⟩ v3).setCell ⟨b, 4, none⟩ v4).setCell ⟨b, 5, none⟩ v5).setCell ⟨b, 6, none⟩ v6).setCell ⟨b, 7, none⟩ v7).heap.size = W.heap.size := by
  have s1 : (W.setCell ⟨b, 0, none⟩ v0).heap[b]? = some (.cells #[v0, c1, c2, c3, c4, c5, c6, c7] ty (0, 0)) := blk_set h 0 v0
  have s2 : ((W.setCell ⟨b, 0, none⟩ v0).setCell ⟨b, 1, none⟩ v1).heap[b]? = some (.cells #[v0, v1, c2, c3, c4, c5, c6, c7] ty (0, 0)) := blk_set s1 1 v1
  have s3 : (((W.setCell ⟨b, 0, none⟩ v0).setCell ⟨b, 1, none⟩ v1).setCell ⟨b, 2, none⟩ v2).heap[b]? = some (.cells #[v0, v1, v2, c3, c4, c5, c6, c7] ty (0, 0)) := blk_set s2 2 v2
  have s4 : ((((W.setCell ⟨b, 0, none⟩ v0).setCell ⟨b, 1, none⟩ v1).setCell ⟨b, 2, none⟩ v2).setCell ⟨b, 3, none⟩ v3).heap[b]? = some (.cells #[v0, v1, v2, v3, c4, c5, c6, c7] ty (0, 0)) := blk_set s3 3 v3
  have s5 : (((((W.setCell ⟨b, 0, none⟩ v0).setCell ⟨b, 1, none⟩ v1).setCell ⟨b, 2, none⟩ v2).setCell ⟨b, 3, none⟩ v3).setCell ⟨b, 4, none⟩ v4).heap[b]? = some (.cells #[v0, v1, v2, v3, v4, c5, c6, c7] ty (0, 0)) := blk_set s4 4 v4
  have s6 : ((((((W.setCell ⟨b, 0, none⟩ v0).setCell ⟨b, 1, none⟩ v1).setCell ⟨b, 2, none⟩ v2).setCell ⟨b, 3, none⟩ v3).setCell ⟨b, 4, none⟩ v4).setCell ⟨b, 5, none⟩ v5).heap[b]? = some (.cells #[v0, v1, v2, v3, v4, v5, c6, c7] ty (0, 0)) := blk_set s5 5 v5
  have s7 : (((((((W.setCell ⟨b, 0, none⟩ v0).setCell ⟨b, 1, none⟩ v1).setCell ⟨b, 2, none⟩ v2).setCell ⟨b, 3, none⟩ v3).setCell ⟨b, 4, none⟩ v4).setCell ⟨b, 5, none⟩ v5).setCell ⟨b, 6, none⟩ v6).heap[b]? = some (.cells #[v0, v1, v2, v3, v4, v5, v6, c7] ty (0, 0)) := blk_set s6 6 v6
  have s8 : ((((((((W.setCell ⟨b, 0, none⟩ v0).setCell ⟨b, 1, none⟩ v1).setCell ⟨b, 2, none⟩ v2).setCell ⟨b, 3, none⟩ v3).setCell ⟨b, 4, none⟩ v4).setCell ⟨b, 5, none⟩ v5).setCell ⟨b, 6, none⟩ v6).setCell ⟨b, 7, none⟩ v7).heap[b]? = some (.cells #[v0, v1, v2, v3, v4, v5, v6, v7] ty (0, 0)) := blk_set s7 7 v7
  refine ⟨⟨_, blk_cell h 0⟩, blk_frozen h 0, ⟨_, blk_cell s1 1⟩, blk_frozen s1 1, ⟨_, blk_cell s2 2⟩, blk_frozen s2 2, ⟨_, blk_cell s3 3⟩, blk_frozen s3 3, ⟨_, blk_cell s4 4⟩, blk_frozen s4 4, ⟨_, blk_cell s5 5⟩, blk_frozen s5 5, ⟨_, blk_cell s6 6⟩, blk_frozen s6 6, ⟨_, blk_cell s7 7⟩, blk_frozen s7 7, s8, fun k hk => ?_, ?_⟩
  · exact (Below.heap_setCell (((((((W.setCell ⟨b, 0, none⟩ v0).setCell ⟨b, 1, none⟩ v1).setCell ⟨b, 2, none⟩ v2).setCell ⟨b, 3, none⟩ v3).setCell ⟨b, 4, none⟩ v4).setCell ⟨b, 5, none⟩ v5).setCell ⟨b, 6, none⟩ v6) ⟨b, 7, none⟩ v7 k hk).trans ((Below.heap_setCell ((((((W.setCell ⟨b, 0, none⟩ v0).setCell ⟨b, 1, none⟩ v1).setCell ⟨b, 2, none⟩ v2).setCell ⟨b, 3, none⟩ v3).setCell ⟨b, 4, none⟩ v4).setCell ⟨b, 5, none⟩ v5) ⟨b, 6, none⟩ v6 k hk).trans ((Below.heap_setCell (((((W.setCell ⟨b, 0, none⟩ v0).setCell ⟨b, 1, none⟩ v1).setCell ⟨b, 2, none⟩ v2).setCell ⟨b, 3, none⟩ v3).setCell ⟨b, 4, none⟩ v4) ⟨b, 5, none⟩ v5 k hk).trans ((Below.heap_setCell ((((W.setCell ⟨b, 0, none⟩ v0).setCell ⟨b, 1, none⟩ v1).setCell ⟨b, 2, none⟩ v2).setCell ⟨b, 3, none⟩ v3) ⟨b, 4, none⟩ v4 k hk).trans ((Below.heap_setCell (((W.setCell ⟨b, 0, none⟩ v0).setCell ⟨b, 1, none⟩ v1).setCell ⟨b, 2, none⟩ v2) ⟨b, 3, none⟩ v3 k hk).trans ((Below.heap_setCell ((W.setCell ⟨b, 0, none⟩ v0).setCell ⟨b, 1, none⟩ v1) ⟨b, 2, none⟩ v2 k hk).trans ((Below.heap_setCell (W.setCell ⟨b, 0, none⟩ v0) ⟨b, 1, none⟩ v1 k hk).trans ((Below.heap_setCell W ⟨b, 0, none⟩ v0 k hk))))))))
  · simp [World.setCell]
theorem HS.nx {w0 w W w2 : World} {g : Nat} {s : ByteArray} {t : RdS} (h : HS w0 w W g s t) (hk : KeepBut (W.alloc (.cells #[.int .i64 0, .int .u8 0, .bool false, .int .i64 0, .int .i64 0, .int .i64 0, .slice none 0 0, .slice none 0 0] 82)) w2 g none) : w2.heap[W.heap.size]? = some (.cells #[.int .i64 0, .int .u8 0, .bool false, .int .i64 0, .int .i64 0, .int .i64 0, .slice none 0 0, .slice none 0 0] 82 (0, 0)) := by
  have e1 : (W.alloc (.cells #[.int .i64 0, .int .u8 0, .bool false, .int .i64 0, .int .i64 0, .int .i64 0, .slice none 0 0, .slice none 0 0] 82)).heap[W.heap.size]? = some (.cells #[.int .i64 0, .int .u8 0, .bool false, .int .i64 0, .int .i64 0, .int .i64 0, .slice none 0 0, .slice none 0 0] 82 (0, 0)) := Array.getElem?_push_size
  exact (hk.2 _ (blk_lt e1) (fun e => (h.below (below_alloc (Below.refl _ _) (.cells #[.int .i64 0, .int .u8 0, .bool false, .int .i64 0, .int .i64 0, .int .i64 0, .slice none 0 0, .slice none 0 0] 82))).ri.1.ne_blk e1 (by decide) e.symm) (by simp)).trans e1
theorem HS.nk {w0 w W w2 : World} {g b : Nat} {s : ByteArray} {t : RdS} (h : HS w0 w W g s t) (hb : W.heap[b]? = some (.cells #[.int .i64 0, .int .u8 0, .bool false, .int .i64 0, .int .i64 0, .int .i64 0, .slice none 0 0, .slice none 0 0] 82 (0, 0))) (hk : KeepBut W w2 g none) : w2.heap[b]? = some (.cells #[.int .i64 0, .int .u8 0, .bool false, .int .i64 0, .int .i64 0, .int .i64 0, .slice none 0 0, .slice none 0 0] 82 (0, 0)) :=
  (hk.2 _ (blk_lt hb) (fun e => h.ri.1.ne_blk hb (by decide) e.symm) (by simp)).trans hb
theorem HS.first {w0 w W : World} {g b : Nat} {s : ByteArray} {t : RdS} (h : HS w0 w W g s t) (hb : W.heap[b]? = some (.cells #[.int .i64 0, .int .u8 0, .bool false, .int .i64 0, .int .i64 0, .int .i64 0, .slice none 0 0, .slice none 0 0] 82 (0, 0))) (hbw : w.heap.size ≤ b) (hb1 : b ≠ w.heap.size + 1) (hw : w0.heap.size ≤ w.heap.size) (a op : Int) :
    OS w0 w (((((((((W.setCell ⟨b, 0, none⟩ (.int .i64 a)).setCell ⟨b, 1, none⟩ (.int .u8 op)).setCell ⟨b, 2, none⟩ (.bool false)).setCell ⟨b, 3, none⟩ (.int .i64 0)).setCell ⟨b, 4, none⟩ (.int .i64 0)).setCell ⟨b, 5, none⟩ (.int .i64 0)).setCell ⟨b, 6, none⟩ (.slice none 0 0)).setCell ⟨b, 7, none⟩ (.slice none 0 0))) g s t b (⟨a, op, false, 0, 0, 0, [], []⟩ : S82) (.slice none 0 0) (.slice none 0 0) := by
  obtain ⟨_, _, _, _, _, _, _, _, _, _, _, _, _, _, _, _, e1, e2, e3⟩ := fill8 hb (.int .i64 a) (.int .u8 op) (.bool false) (.int .i64 0) (.int .i64 0) (.int .i64 0) (.slice none 0 0) (.slice none 0 0)
  have hg : b ≠ g := fun e => h.ri.1.ne_blk hb (by decide) e.symm
  have hd : w.heap.size ≠ b := fun e => by
    have h1 := h.dec
    rw [e, hb] at h1
    injection h1 with h2
    injection h2 with _ h3
    exact absurd h3 (by decide)
  have hk : ∀ i, i < w.heap.size → i ≠ g → _ := fun i hi hgi => (e2 i (by omega)).trans (h.kept.2 i hi hgi)
  have hr : RI w0 (((((((((W.setCell ⟨b, 0, none⟩ (.int .i64 a)).setCell ⟨b, 1, none⟩ (.int .u8 op)).setCell ⟨b, 2, none⟩ (.bool false)).setCell ⟨b, 3, none⟩ (.int .i64 0)).setCell ⟨b, 4, none⟩ (.int .i64 0)).setCell ⟨b, 5, none⟩ (.int .i64 0)).setCell ⟨b, 6, none⟩ (.slice none 0 0)).setCell ⟨b, 7, none⟩ (.slice none 0 0))) g s t := ⟨(((((((h.ri.1.far (fun e => hg e.symm) _).far (fun e => hg e.symm) _).far (fun e => hg e.symm) _).far (fun e => hg e.symm) _).far (fun e => hg e.symm) _).far (fun e => hg e.symm) _).far (fun e => hg e.symm) _).far (fun e => hg e.symm) _, (((((((h.ri.2.setCell (p := ⟨b, 0, none⟩) (Nat.le_trans hw hbw) _).setCell (p := ⟨b, 1, none⟩) (Nat.le_trans hw hbw) _).setCell (p := ⟨b, 2, none⟩) (Nat.le_trans hw hbw) _).setCell (p := ⟨b, 3, none⟩) (Nat.le_trans hw hbw) _).setCell (p := ⟨b, 4, none⟩) (Nat.le_trans hw hbw) _).setCell (p := ⟨b, 5, none⟩) (Nat.le_trans hw hbw) _).setCell (p := ⟨b, 6, none⟩) (Nat.le_trans hw hbw) _).setCell (p := ⟨b, 7, none⟩) (Nat.le_trans hw hbw) _⟩
  exact {
    cs := { ri := hr, dec := (e2 _ hd).trans h.dec, ins := e1, new := Nat.le_trans hw hbw, r6 := RW.nil _ _, r7 := RW.nil _ _, ap := fun k e => by simp [Value.ownBlock] at e, kept := ⟨by rw [e3]; exact h.kept.1, fun i hi hgi _ => hk i hi hgi⟩ }
    hs := { ri := hr, dec := (e2 _ hd).trans h.dec, res := (e2 _ (fun e => hb1 e.symm)).trans h.res, kept := ⟨by rw [e3]; exact h.kept.1, hk⟩ }
    rb := hb1
    nb := hbw }
theorem HS.last {w0 w W : World} {g : Nat} {s : ByteArray} {t : RdS} (h : HS w0 w W g s t) (hw : w0.heap.size ≤ w.heap.size) (a op : Int) :
    OS w0 w (W.alloc (.cells #[.int .i64 a, .int .u8 op, .bool false, .int .i64 0, .int .i64 0, .int .i64 0, .slice none 0 0, .slice none 0 0] 82)) g s t W.heap.size (⟨a, op, false, 0, 0, 0, [], []⟩ : S82) (.slice none 0 0) (.slice none 0 0) := by
  have hb := below_alloc (Below.refl W.heap.size W) (.cells #[.int .i64 a, .int .u8 op, .bool false, .int .i64 0, .int .i64 0, .int .i64 0, .slice none 0 0, .slice none 0 0] 82)
  have h1 := h.below hb
  have hl := blk_lt h.res
  exact {
    cs := { ri := h1.ri, dec := h1.dec, ins := Array.getElem?_push_size, new := by omega, r6 := RW.nil _ _, r7 := RW.nil _ _, ap := fun k e => by simp [Value.ownBlock] at e, kept := ⟨h1.kept.1, fun i hi hgi _ => h1.kept.2 i hi hgi⟩ }
    hs := h1
    rb := by omega
    nb := by omega }
structure OE (w0 w W : World) (g : Nat) (s : ByteArray) (t : RdS) (bx : Nat) (x : S82) (v6 v7 : Value) : Prop where
  ri : RI w0 W g s t
  ins : W.heap[bx]? = some (.cells (insC x v6 v7) 82 (0, 0))
  res : W.heap[w.heap.size + 1]? = some (.cells #[.int .i64 0, .int .u8 0, .bool false, .int .i64 0, .int .i64 0, .int .i64 0, .slice none 0 0, .slice none 0 0] 82 (0, 0))
  r6 : RW W w.heap.size v6 x.f6
  r7 : RW W w.heap.size v7 x.f7
  ap : ∀ k, v6.ownBlock = some k → v7.ownBlock ≠ some k
  kept : w.heap.size ≤ W.heap.size ∧ ∀ i, i < w.heap.size → i ≠ g → W.heap[i]? = w.heap[i]?
theorem OS.oe {w0 w W : World} {g bx : Nat} {s : ByteArray} {t : RdS} {x : S82} {v6 v7 : Value} (h : OS w0 w W g s t bx x v6 v7) : OE w0 w W g s t bx x v6 v7 := ⟨h.cs.ri, h.cs.ins, h.hs.res, h.cs.r6, h.cs.r7, h.cs.ap, h.hs.kept⟩
theorem OS.more {w0 w W W1 : World} {g bx : Nat} {s : ByteArray} {t t1 : RdS} {x x1 : S82} {v6 v7 u6 u7 : Value} (h : OS w0 w W g s t bx x v6 v7) (k : XS w0 W W1 g s t1 bx x1 u6 u7) : OE w0 w W1 g s t1 bx x1 u6 u7 where
  ri := k.ri
  ins := k.ins
  res := (k.kept.2 _ (blk_lt h.hs.res) (fun e => h.hs.ri.1.ne_blk h.hs.res (by decide) e.symm) (fun e => h.rb e.symm)).trans h.hs.res
  r6 := Kd.R_lower k.r6 h.hs.kept.1
  r7 := Kd.R_lower k.r7 h.hs.kept.1
  ap := k.ap
  kept := ⟨Nat.le_trans h.hs.kept.1 k.kept.1, fun i hi hg => (k.kept.2 i (Nat.lt_of_lt_of_le hi h.hs.kept.1) hg (by have := h.nb; omega)).trans (h.hs.kept.2 i hi hg)⟩
theorem OE.fin {w0 w W : World} {g bx : Nat} {s : ByteArray} {t : RdS} {x : S82} {v6 v7 : Value} (h : OE w0 w W g s t bx x v6 v7) (hw : w0.heap.size ≤ w.heap.size) :
    ((((((((W.setCell ⟨w.heap.size + 1, 0, none⟩ (.int .i64 x.f0)).setCell ⟨w.heap.size + 1, 1, none⟩ (.int .u8 x.f1)).setCell ⟨w.heap.size + 1, 2, none⟩ (.bool x.f2)).setCell ⟨w.heap.size + 1, 3, none⟩ (.int .i64 x.f3)).setCell ⟨w.heap.size + 1, 4, none⟩ (.int .i64 x.f4)).setCell ⟨w.heap.size + 1, 5, none⟩ (.int .i64 x.f5)).setCell ⟨w.heap.size + 1, 6, none⟩ v6).setCell ⟨w.heap.size + 1, 7, none⟩ v7).heap[w.heap.size + 1]? = some (.cells (insC x v6 v7) 82 (0, 0)) ∧ RI w0 ((((((((W.setCell ⟨w.heap.size + 1, 0, none⟩ (.int .i64 x.f0)).setCell ⟨w.heap.size + 1, 1, none⟩ (.int .u8 x.f1)).setCell ⟨w.heap.size + 1, 2, none⟩ (.bool x.f2)).setCell ⟨w.heap.size + 1, 3, none⟩ (.int .i64 x.f3)).setCell ⟨w.heap.size + 1, 4, none⟩ (.int .i64 x.f4)).setCell ⟨w.heap.size + 1, 5, none⟩ (.int .i64 x.f5)).setCell ⟨w.heap.size + 1, 6, none⟩ v6).setCell ⟨w.heap.size + 1, 7, none⟩ v7) g s t ∧ RW ((((((((W.setCell ⟨w.heap.size + 1, 0, none⟩ (.int .i64 x.f0)).setCell ⟨w.heap.size + 1, 1, none⟩ (.int .u8 x.f1)).setCell ⟨w.heap.size + 1, 2, none⟩ (.bool x.f2)).setCell ⟨w.heap.size + 1, 3, none⟩ (.int .i64 x.f3)).setCell ⟨w.heap.size + 1, 4, none⟩ (.int .i64 x.f4)).setCell ⟨w.heap.size + 1, 5, none⟩ (.int .i64 x.f5)).setCell ⟨w.heap.size + 1, 6, none⟩ v6).setCell ⟨w.heap.size + 1, 7, none⟩ v7) w.heap.size v6 x.f6 ∧ RW ((((((((W.setCell ⟨w.heap.size + 1, 0, none⟩ (.int .i64 x.f0)).setCell ⟨w.heap.size + 1, 1, none⟩ (.int .u8 x.f1)).setCell ⟨w.heap.size + 1, 2, none⟩ (.bool x.f2)).setCell ⟨w.heap.size + 1, 3, none⟩ (.int .i64 x.f3)).setCell ⟨w.heap.size + 1, 4, none⟩ (.int .i64 x.f4)).setCell ⟨w.heap.size + 1, 5, none⟩ (.int .i64 x.f5)).setCell ⟨w.heap.size + 1, 6, none⟩ v6).setCell ⟨w.heap.size + 1, 7, none⟩ v7) w.heap.size v7 x.f7 ∧ KeepBut w ((((((((W.setCell ⟨w.heap.size + 1, 0, none⟩ (.int .i64 x.f0)).setCell ⟨w.heap.size + 1, 1, none⟩ (.int .u8 x.f1)).setCell ⟨w.heap.size + 1, 2, none⟩ (.bool x.f2)).setCell ⟨w.heap.size + 1, 3, none⟩ (.int .i64 x.f3)).setCell ⟨w.heap.size + 1, 4, none⟩ (.int .i64 x.f4)).setCell ⟨w.heap.size + 1, 5, none⟩ (.int .i64 x.f5)).setCell ⟨w.heap.size + 1, 6, none⟩ v6).setCell ⟨w.heap.size + 1, 7, none⟩ v7) g none := by
  obtain ⟨_, _, _, _, _, _, _, _, _, _, _, _, _, _, _, _, e1, e2, e3⟩ := fill8 h.res (.int .i64 x.f0) (.int .u8 x.f1) (.bool x.f2) (.int .i64 x.f3) (.int .i64 x.f4) (.int .i64 x.f5) v6 v7
  have hg : g ≠ w.heap.size + 1 := fun e => h.ri.1.ne_blk h.res (by decide) e
  have hbw : w0.heap.size ≤ w.heap.size + 1 := by omega
  refine ⟨e1, ⟨(((((((h.ri.1.far hg _).far hg _).far hg _).far hg _).far hg _).far hg _).far hg _).far hg _, (((((((h.ri.2.setCell (p := ⟨w.heap.size + 1, 0, none⟩) hbw _).setCell (p := ⟨w.heap.size + 1, 1, none⟩) hbw _).setCell (p := ⟨w.heap.size + 1, 2, none⟩) hbw _).setCell (p := ⟨w.heap.size + 1, 3, none⟩) hbw _).setCell (p := ⟨w.heap.size + 1, 4, none⟩) hbw _).setCell (p := ⟨w.heap.size + 1, 5, none⟩) hbw _).setCell (p := ⟨w.heap.size + 1, 6, none⟩) hbw _).setCell (p := ⟨w.heap.size + 1, 7, none⟩) hbw _⟩, ?_, ?_, ?_⟩
  · exact h.r6.step (fun k e => e2 k (fun he => h.r6.ne h.res (by decide) (by rw [← he]; exact e)))
  · exact h.r7.step (fun k e => e2 k (fun he => h.r7.ne h.res (by decide) (by rw [← he]; exact e)))
  · exact ⟨by rw [e3]; exact h.kept.1, fun i hi hgi _ => (e2 i (by omega)).trans (h.kept.2 i hi hgi)⟩
end Go.Proofs.Ytfnjbmpolggdeaa.CD
end
section
namespace Go.Proofs.Ytfnjbmpolggdeaa.CD
open Go.RowKit Go.Lib Go.Proofs.YtfnjbmpolggdeaaW.PrintWords Go.Proofs.YtfnjbmpolggdeaaW.PrintLast Go.Proofs.YtfnjbmpolggdeaaW.PrintMore
set_option linter.unusedVariables false
set_option linter.unusedSimpArgs false
theorem bigB_numB : ∀ (n : Nat) (l : List Nat), l.length = n → (∀ b ∈ l, b < 256) → bigB (numB l) n = l := by
  intro n
  induction n with
  | zero => intro l hl _; rw [List.length_eq_zero_iff.1 hl]; rfl
  | succ n ih =>
    intro l hl hb
    obtain ⟨a, b, rfl⟩ : ∃ a b, l = a ++ [b] := ⟨l.dropLast, l.getLast (by intro h; rw [h] at hl; simp at hl), (List.dropLast_concat_getLast _).symm⟩
    rw [List.length_append, List.length_singleton] at hl
    have h1 : b < 256 := hb b (by simp)
    rw [numB_snoc]
    show bigB ((numB a * 256 + b) / 256) n ++ [(numB a * 256 + b) % 256] = _
    rw [show (numB a * 256 + b) / 256 = numB a by omega, show (numB a * 256 + b) % 256 = b by omega, ih a (by omega) (fun c hc => hb c (by simp [hc]))]
theorem bigB_add : ∀ (n x k : Nat), bigB (x + 256 ^ n * k) n = bigB x n := by
  intro n
  induction n with
  | zero => intro x k; rfl
  | succ n ih =>
    intro x k
    have e : 256 ^ (n + 1) * k = 256 * (256 ^ n * k) := by rw [Nat.pow_succ]; ac_rfl
    show bigB ((x + 256 ^ (n + 1) * k) / 256) n ++ [(x + 256 ^ (n + 1) * k) % 256] = bigB (x / 256) n ++ [x % 256]
    rw [e, Nat.add_mul_div_left _ _ (by decide), Nat.add_mul_mod_self_left, ih]
theorem wrap_id {x : Int} (h : -9223372036854775808 ≤ x ∧ x < 9223372036854775808) : wrap64 x = x := by unfold wrap64; omega
def preD (s : ByteArray) (t : RdS) : List Nat := (bs s).take t.1.toNat
theorem numOK {s : ByteArray} {t : RdS} {n : Nat} (hn : n ≤ 4) (ht : OKR s t) (h : (numR s t n).2.2.1 = 0) :
    t.2.1 = 0 ∧ (numR s t n).2.1 = t.1 + n ∧ 0 ≤ (numR s t n).1 ∧ (numR s t n).1 < ((256 ^ n : Nat) : Int) ∧ (∀ k : Nat, bigB ((numR s t n).1.toNat + 256 ^ n * k) n = bigB (numR s t n).1.toNat n) ∧ preD s (numR s t n).2 = preD s t ++ bigB (numR s t n).1.toNat n := by
  obtain ⟨h0, h1, h2⟩ := ht
  by_cases h3 : t.2.1 ≠ 0
  · exfalso
    unfold numR at h
    rw [if_pos h3] at h
    exact h3 h
  · by_cases h4 : (n : Int) > (s.size : Int) - t.1
    · exfalso
      unfold numR at h
      rw [if_neg h3, if_pos h4] at h
      exact absurd (show (1 : Int) = 0 from h) (by decide)
    · have e : numR s t n = (((numB (((bs s).drop t.1.toNat).take n) : Nat) : Int), (t.1 + n, t.2.1, t.2.2)) := by unfold numR; rw [if_neg h3, if_neg h4]
      have hl : (((bs s).drop t.1.toNat).take n).length = n := by rw [List.length_take, List.length_drop, bs_length]; omega
      have hb : ∀ b ∈ ((bs s).drop t.1.toNat).take n, b < 256 := fun b hb => bs_lt s b (List.mem_of_mem_drop (List.mem_of_mem_take hb))
      have hlt := numB_lt _ hb
      rw [hl] at hlt
      rw [e]
      refine ⟨Classical.not_not.1 h3, rfl, Int.natCast_nonneg _, Int.ofNat_lt.2 hlt, fun k => bigB_add _ _ _, ?_⟩
      show (bs s).take (t.1 + n).toNat = (bs s).take t.1.toNat ++ bigB (((numB (((bs s).drop t.1.toNat).take n) : Nat) : Int)).toNat n
      rw [Int.toNat_natCast, bigB_numB n _ hl hb, show (t.1 + (n : Int)).toNat = t.1.toNat + n by omega, List.take_add]
theorem failNo {t : RdS} {e p : Int} (he : e ≠ 0) : (failR t e p).2.1 ≠ 0 := by
  unfold failR
  split
  · exact he
  · assumption
theorem sgnOK {s : ByteArray} {t : RdS} {n : Nat} (hn : n ≤ 4) (ht : OKR s t) (h : (sgnR s t n).2.2.1 = 0) : t.2.1 = 0 ∧ (sgnR s t n).2.1 = t.1 + n := by
  obtain ⟨a1, a2, _⟩ := numOK hn ht h
  exact ⟨a1, a2⟩
theorem failIf {c : Prop} [Decidable c] {t : RdS} {e p : Int} (he : e ≠ 0) (h : (if c then failR t e p else t).2.1 = 0) : ¬ c ∧ (if c then failR t e p else t) = t := by
  by_cases hc : c
  · rw [if_pos hc] at h
    exact absurd h (failNo he)
  · exact ⟨hc, if_neg hc⟩
theorem failStuck {t : RdS} (hz : t.2.1 ≠ 0) (e p : Int) : failR t e p = t := by unfold failR; rw [if_neg hz]
theorem okr_if {s : ByteArray} {c : Prop} [Decidable c] {a b : RdS} (h1 : OKR s a) (h2 : OKR s b) : OKR s (if c then a else b) := by split <;> assumption
theorem OKR.pad {s : ByteArray} {x0 : Int} : ∀ (k : Nat) {t : RdS}, OKR s t → OKR s (padR s x0 k t)
  | 0, t, h => h
  | k + 1, t, h => by
    unfold padR
    split
    · exact OKR.pad k (okr_if ((h.num 1).fail _ _) (h.num 1))
    · exact h
theorem OKR.rows {s : ByteArray} {f : Int} : ∀ (r k : Nat) {x : S82} {t : RdS}, OKR s t → OKR s (rowsD s f r k x t).2
  | 0, k, x, t, h => h
  | r + 1, k, x, t, h => by
    unfold rowsD
    split
    · exact h
    · split
      · exact OKR.rows r (k + 1) ((okr_if ((h.sgn 4).fail _ _) (h.sgn 4)).sgn 4)
      · exact OKR.rows r (k + 1) (h.sgn 4)
theorem OKR.cho {s : ByteArray} {f : Int} {x : S82} {t : RdS} (h : OKR s t) : OKR s (choD s x f t).2 := by
  have h1 : OKR s (headD s x t).2 := (OKR.pad 4 h).sgn 4
  unfold choD
  split
  · unfold choD10
    split
    · exact ((h1.sgn 4).sgn 4).fail _ _
    · exact OKR.rows _ _ ((h1.sgn 4).sgn 4)
  · unfold choD11
    split
    · exact (h1.sgn 4).fail _ _
    · exact OKR.rows _ _ (h1.sgn 4)
theorem OKR.more {s : ByteArray} {f : Int} {x : S82} {t : RdS} (h : OKR s t) : OKR s (moreD s x f t).2 := by
  unfold moreD
  split
  · exact h.cho
  · split
    · exact okr_if ((((h.num 2).num 1).num 1).fail _ _) (((h.num 2).num 1).num 1)
    · split
      · exact okr_if ((h.num 1).fail _ _) (h.num 1)
      · split
        · exact okr_if (((h.num 2).num 1).fail _ _) ((h.num 2).num 1)
        · exact h
theorem OKR.body {s : ByteArray} {f : Int} {x : S82} {t : RdS} (h : OKR s t) : OKR s (bodyD s x f t).2 := by
  unfold bodyD
  repeat' (with_reducible split)
  all_goals first
    | exact h.fail _ _
    | exact h.sgn _
    | exact h.num _
    | exact (h.num _).sgn _
    | exact h.more
theorem OKR.one {s : ByteArray} {t : RdS} (h : OKR s t) : OKR s (oneD s t).2 := by
  unfold oneD
  split
  · split
    · exact ((h.num 1).num 1).body
    · exact ((h.num 1).num 1).fail _ _
  · exact (h.num 1).body
def Up (t t1 : RdS) : Prop := t1.2.1 = 0 → t.2.1 = 0 ∧ t.1 ≤ t1.1
theorem Up.rfl {t : RdS} : Up t t := fun h => ⟨h, Int.le_refl _⟩
theorem Up.then {t t1 t2 : RdS} (h : Up t t1) (k : Up t1 t2) : Up t t2 := fun e => by
  obtain ⟨a, b⟩ := k e
  obtain ⟨c, d⟩ := h a
  exact ⟨c, by omega⟩
theorem Up.num {s : ByteArray} {t : RdS} (ht : OKR s t) {n : Nat} (hn : n ≤ 4) : Up t (numR s t n).2 := fun e => by
  obtain ⟨a, b, _⟩ := numOK hn ht e
  exact ⟨a, by omega⟩
theorem Up.fail {t : RdS} {e p : Int} (he : e ≠ 0) : Up t (failR t e p) := fun h => absurd h (failNo he)
theorem Up.ite {c : Prop} [Decidable c] {t a b : RdS} (ha : Up t a) (hb : Up t b) : Up t (if c then a else b) := by split <;> assumption
theorem Up.pad {s : ByteArray} {x0 : Int} : ∀ (k : Nat) {t : RdS}, OKR s t → Up t (padR s x0 k t)
  | 0, t, h => Up.rfl
  | k + 1, t, h => by
    unfold padR
    split
    · have h1 : OKR s (if (numR s t 1).1 ≠ 0 then failR (numR s t 1).2 15 x0 else (numR s t 1).2) := okr_if ((h.num 1).fail _ _) (h.num 1)
      exact ((Up.num h (by decide)).then (Up.ite (Up.fail (by decide)) Up.rfl)).then (Up.pad k h1)
    · exact Up.rfl
theorem Up.rows {s : ByteArray} {f : Int} : ∀ (r k : Nat) {x : S82} {t : RdS}, OKR s t → Up t (rowsD s f r k x t).2
  | 0, k, x, t, h => Up.rfl
  | r + 1, k, x, t, h => by
    unfold rowsD
    split
    · exact Up.rfl
    · split
      · have h1 : OKR s (if 0 < k ∧ (sgnR s t 4).1 ≤ rd x.f6 ((k : Int) - 1) then failR (sgnR s t 4).2 15 x.f0 else (sgnR s t 4).2) := okr_if ((h.sgn 4).fail _ _) (h.sgn 4)
        have h2 : Up (if 0 < k ∧ (sgnR s t 4).1 ≤ rd x.f6 ((k : Int) - 1) then failR (sgnR s t 4).2 15 x.f0 else (sgnR s t 4).2) (sgnR s (if 0 < k ∧ (sgnR s t 4).1 ≤ rd x.f6 ((k : Int) - 1) then failR (sgnR s t 4).2 15 x.f0 else (sgnR s t 4).2) 4).2 := Up.num h1 (by decide)
        exact (((show Up t (sgnR s t 4).2 from Up.num h (by decide)).then (Up.ite (Up.fail (by decide)) Up.rfl)).then h2).then (Up.rows r (k + 1) (h1.sgn 4))
      · exact (show Up t (sgnR s t 4).2 from Up.num h (by decide)).then (Up.rows r (k + 1) (h.sgn 4))
theorem Up.cho {s : ByteArray} {f : Int} {x : S82} {t : RdS} (h : OKR s t) : Up t (choD s x f t).2 := by
  have h0 : OKR s (padR s x.f0 4 t) := OKR.pad 4 h
  have h1 : OKR s (headD s x t).2 := h0.sgn 4
  have u1 : Up t (headD s x t).2 := (Up.pad 4 h).then (show Up _ (sgnR s (padR s x.f0 4 t) 4).2 from Up.num h0 (by decide))
  have u2 : Up (headD s x t).2 (sgnR s (headD s x t).2 4).2 := Up.num h1 (by decide)
  have u3 : Up (sgnR s (headD s x t).2 4).2 (sgnR s (sgnR s (headD s x t).2 4).2 4).2 := Up.num (h1.sgn 4) (by decide)
  unfold choD
  split
  · unfold choD10
    split
    · exact ((u1.then u2).then u3).then (Up.fail (by decide))
    · exact ((u1.then u2).then u3).then (Up.rows _ _ ((h1.sgn 4).sgn 4))
  · unfold choD11
    split
    · exact (u1.then u2).then (Up.fail (by decide))
    · exact (u1.then u2).then (Up.rows _ _ (h1.sgn 4))
theorem Up.body {s : ByteArray} {f : Int} {x : S82} {t : RdS} (h : OKR s t) : Up t (bodyD s x f t).2 := by
  have n : ∀ k, k ≤ 4 → Up t (numR s t k).2 := fun k hk => Up.num h hk
  have g : ∀ k, k ≤ 4 → Up t (sgnR s t k).2 := fun k hk => Up.num h hk
  have n2 : ∀ k j, k ≤ 4 → j ≤ 4 → Up t (numR s (numR s t k).2 j).2 := fun k j hk hj => (n k hk).then (Up.num (h.num k) hj)
  have n3 : Up t (numR s (numR s (numR s t 2).2 1).2 1).2 := (n2 2 1 (by decide) (by decide)).then (Up.num ((h.num 2).num 1) (by decide))
  have l : ∀ (b : Bool), (if b = true then 2 else 1) ≤ 4 := fun b => by split <;> decide
  unfold bodyD
  split
  · exact Up.fail (by decide)
  split
  · exact g 1 (by decide)
  split
  · exact g 2 (by decide)
  split
  · exact n 1 (by decide)
  split
  · exact n 2 (by decide)
  split
  · exact n _ (l _)
  split
  · exact (n _ (l _)).then (show Up _ (sgnR s _ _).2 from Up.num (h.num _) (l _))
  split
  · exact g 2 (by decide)
  split
  · exact g 4 (by decide)
  unfold moreD
  split
  · exact Up.cho h
  split
  · exact n3.then (Up.ite (Up.fail (by decide)) Up.rfl)
  split
  · exact (n 1 (by decide)).then (Up.ite (Up.fail (by decide)) Up.rfl)
  split
  · exact (n2 2 1 (by decide) (by decide)).then (Up.ite (Up.fail (by decide)) Up.rfl)
  exact Up.rfl
theorem one_up {s : ByteArray} {t : RdS} (h : OKR s t) (e : (oneD s t).2.2.1 = 0) : t.2.1 = 0 ∧ t.1 < (oneD s t).2.1 := by
  have key : ∀ t2 : RdS, Up (numR s t 1).2 t2 → t2.2.1 = 0 → t.2.1 = 0 ∧ t.1 < t2.1 := by
    intro t2 u e
    obtain ⟨a, b⟩ := u e
    obtain ⟨c, d, _⟩ := numOK (n := 1) (by decide) h a
    exact ⟨c, by omega⟩
  unfold oneD at e ⊢
  split at e
  · next h1 =>
    rw [if_pos h1]
    split at e
    · next h2 =>
      rw [if_pos h2]
      exact key _ ((Up.num (h.num 1) (by decide)).then (Up.body ((h.num 1).num 1))) e
    · next h2 => exact absurd e (failNo (by decide))
  · next h1 =>
    rw [if_neg h1]
    exact key _ (Up.body (h.num 1)) e
def allD (s : ByteArray) : Nat → RdS → List S82 × RdS
  | 0, t => ([], t)
  | k + 1, t => if 0 < (s.size : Int) - t.1 ∧ t.2.1 = 0 then ((oneD s t).1 :: (allD s k (oneD s t).2).1, (allD s k (oneD s t).2).2) else ([], t)
def badT (s : ByteArray) (ks : List Int) (y : Int) : Bool := decide (y < 0) || (decide ((s.size : Int) ≤ y) || !decide (y ∈ ks))
def chk1 (s : ByteArray) (ks : List Int) (x0 : Int) : List Int → RdS → RdS
  | [], t => t
  | y :: r, t => chk1 s ks x0 r (if badT s ks y = true then failR t 16 x0 else t)
def chkD (s : ByteArray) (ks : List Int) : List S82 → RdS → RdS
  | [], t => t
  | x :: r, t => chkD s ks r (chk1 s ks x.f0 x.f7 t)
def finD (s : ByteArray) (l : List S82) (t : RdS) : List S82 × Int × Int := if t.2.1 ≠ 0 then ([], t.2.1, t.2.2) else (l, 0, 0)
def decD (s : ByteArray) : List S82 × Int × Int :=
  if s.size = 0 ∨ 65535 < s.size then ([], 12, 0) else
    finD s (allD s s.size (0, 0, 0)).1 (chkD s ((allD s s.size (0, 0, 0)).1.map (·.f0)) (allD s s.size (0, 0, 0)).1 (allD s s.size (0, 0, 0)).2)
end Go.Proofs.Ytfnjbmpolggdeaa.CD
end
section
namespace Go.Proofs.Ytfnjbmpolggdeaa.CD
open Go.RowKit Go.Lib Go.Proofs.YtfnjbmpolggdeaaW.PrintWords Go.Proofs.YtfnjbmpolggdeaaW.PrintLast Go.Proofs.YtfnjbmpolggdeaaW.PrintMore
set_option linter.unusedVariables false
set_option linter.unusedSimpArgs false
theorem infoBool : (Try.prog.info? 4).map (fun i => (i.zero, i.size, i.bytes)) = some (some (.bool false), 1, 1) := by kernel_rfl
abbrev BR (W : World) (B : Nat) (v : Value) (xs : List Bool) : Prop := Kd.bool.R 4 W B (fun _ => True) v xs
theorem BR.step {W W1 : World} {B : Nat} {v : Value} {xs : List Bool} (h : BR W B v xs) (hs : ∀ k, v.ownBlock = some k → W1.heap[k]? = W.heap[k]?) : BR W1 B v xs :=
  Kd.R_of_own (enc := Value.bool) (h1 := fun _ => rfl) (own_move (Kd.own_of_R (enc := Value.bool) (h1 := fun _ => rfl) h) hs) (fun _ _ => trivial)
theorem BR.ne {W : World} {B : Nat} {v : Value} {xs : List Bool} (h : BR W B v xs) {g t : Nat} {cells : Array Value} {fr : Nat × Nat} (hb : W.heap[g]? = some (.cells cells t fr)) (ht : t ≠ 4) : v.ownBlock ≠ some g := by
  intro e
  obtain ⟨c2, hc⟩ := Kd.R_typed h g e
  rw [hc] at hb
  injection hb with e1
  injection e1 with _ e2
  exact ht e2.symm
def sharp {α : Type} (d : Kd α) (Q : List Value → Prop) : Kd α where
  sz := d.sz
  E := d.E
  K := d.K
  M := fun w base ok x cs => d.M w base ok x cs ∧ Q cs
  K_len := d.K_len
  K_one := d.K_one
  K_below := d.K_below
  K_of_M := fun h => d.K_of_M h.1
  M_mono := fun hok h => ⟨d.M_mono hok h.1, h.2⟩
  M_bound := fun h => ⟨d.M_bound h.1, h.2⟩
  M_move := fun hm h => ⟨d.M_move hm h.1, h.2⟩
  M_lower := fun hb h => ⟨d.M_lower hb h.1, h.2⟩
def ap67 (cs : List Value) : Prop := ∀ v6 v7, cs[6]? = some v6 → cs[7]? = some v7 → ∀ k, v6.ownBlock = some k → v7.ownBlock ≠ some k
def kI : Kd S82 := sharp k82 ap67
theorem kI_S {W : World} {B : Nat} {ok : Nat → Prop} {V : Value} {l : List S82} (h : Kd.S kI 82 W B ok V l) : Kd.S k82 82 W B ok V l := by
  obtain ⟨f, h0, inner, ho, hr⟩ := h
  exact ⟨f, h0, inner, ho, hr.1, fun j p hj => (hr.2 j p hj).1⟩
abbrev IR (W : World) (B : Nat) (V : Value) (l : List S82) : Prop := Kd.S kI 82 W B (fun _ => True) V l
theorem IR.keep {W W1 : World} {B g t : Nat} {V : Value} {l : List S82} {cells : Array Value} (h : IR W B V l) (hb : W.heap[g]? = some (.cells cells t (0, 0))) (ht : ∀ q, q ∈ 82 :: kI.E → q ≠ t) (hs : ∀ k, k < W.heap.size → k ≠ g → W1.heap[k]? = W.heap[k]?) : IR W1 B V l :=
  Kd.S_mono (Kd.S_step (Kd.S_types h hb ht) (fun k hk hlt => hs k hlt hk.2)) (fun _ _ => trivial)
structure DS (w W : World) (g d b c : Nat) (s : ByteArray) (t : RdS) (bl : List Bool) (V : Value) (l : List S82) : Prop where
  ri : RI w W g s t
  dec : W.heap[d]? = some (.cells #[.pointer (some ⟨g, 0, none⟩)] 144 (0, 0))
  dge : w.heap.size ≤ d
  row : BR W w.heap.size (.slice (some ⟨b, 0, none⟩) s.size c) bl
  out : IR W w.heap.size V l
namespace DS
variable {w W W1 : World} {g d b c : Nat} {s : ByteArray} {t t1 : RdS} {bl : List Bool} {V V1 : Value} {l : List S82}
theorem dne (h : DS w W g d b c s t bl V l) : d ≠ g := fun e => h.ri.1.ne_blk h.dec (by decide) e.symm
theorem bne (h : DS w W g d b c s t bl V l) : b ≠ g := fun e => h.row.ne h.ri.1.1 (by decide) (by rw [← e]; rfl)
theorem bnd (h : DS w W g d b c s t bl V l) : b ≠ d := fun e => h.row.ne h.dec (by decide) (by rw [← e]; rfl)
theorem rd (h : DS w W g d b c s t bl V l) (hI : RI w W1 g s t1) (hk : KeepBut W W1 g none) : DS w W1 g d b c s t1 bl V l where
  ri := hI
  dec := (hk.2 _ (blk_lt h.dec) h.dne (by simp)).trans h.dec
  dge := h.dge
  row := h.row.step (fun k e => hk.2 k (Kd.R_lt h.row k e) (fun he => h.row.ne h.ri.1.1 (by decide) (he ▸ e)) (by simp))
  out := h.out.keep h.ri.1.1 (by decide) (fun k hlt hne => hk.2 k hlt hne (by simp))
theorem below (h : DS w W g d b c s t bl V l) (hb : Below W.heap.size W W1) : DS w W1 g d b c s t bl V l := h.rd (h.ri.below hb) (KeepBut.of_below hb g none)
theorem drew (h : DS w W g d b c s t bl V l) : DS w W.drew g d b c s t bl V l := h.below (below_drew (Below.refl _ _))
theorem app (h : DS w W g d b c s t bl V l) {l1 : List S82} (hg : W.grownBy W1 V.ownBlock) (hr : IR W1 w.heap.size V1 l1) : DS w W1 g d b c s t bl V1 l1 where
  ri := ⟨h.ri.1.grown hg (fun e => Kd.S_ne h.out h.ri.1.1 (by decide) e), pw_below_grown h.ri.2 _ h.ri.2.size hg (fun k hk => Kd.S_base h.out k hk)⟩
  dec := (hg.block _ (blk_lt h.dec) (Kd.S_ne h.out h.dec (by decide))).trans h.dec
  dge := h.dge
  row := h.row.step (fun k e => hg.block k (Kd.R_lt h.row k e) (fun he => by
    obtain ⟨c1, h1⟩ := Kd.R_typed h.row k e
    exact Kd.S_ne h.out h1 (by decide) he))
  out := hr
theorem mark (h : DS w W g d b c s t bl V l) (i : Int) : DS w (W.setCell ⟨b, i.toNat, none⟩ (.bool true)) g d b c s t (bl.set i.toNat true) V l where
  ri := ⟨h.ri.1.far (fun e => h.bne e.symm) _, h.ri.2.setCell (p := ⟨b, i.toNat, none⟩) (Kd.R_base h.row b rfl) _⟩
  dec := (Below.heap_setCell W ⟨b, i.toNat, none⟩ _ _ (fun e => h.bnd e.symm)).trans h.dec
  dge := h.dge
  row := Kd.R_putn h.row i true
  out := by
    obtain ⟨c1, h1⟩ := Kd.R_typed h.row b rfl
    exact Kd.S_set h.out h1 (by decide) i.toNat (.bool true)
theorem c0 (h : DS w W g d b c s t bl V l) : W.cell? ⟨d, 0, none⟩ = some (.pointer (some ⟨g, 0, none⟩)) := blk_cell h.dec 0
end DS
theorem DS.start {w w1 w2 : World} {g b c : Nat} {s : ByteArray} {bl : List Bool} (hI : RI w w1 g s (0, 0, 0)) (hb : w.heap.size ≤ w1.heap.size) (hg : (w1.alloc (.cells #[.pointer (some ⟨g, 0, none⟩)] 144)).grownBy w2 none) (hU : BR w2 w.heap.size (.slice (some ⟨b, 0, none⟩) s.size c) bl) : DS w w2 g w1.heap.size b c s (0, 0, 0) bl (.slice none 0 0) [] := by
  have hI1 := hI.below (below_alloc (Below.refl _ w1) (.cells #[.pointer (some ⟨g, 0, none⟩)] 144))
  have e1 : (w1.alloc (.cells #[.pointer (some ⟨g, 0, none⟩)] 144)).heap[w1.heap.size]? = some (.cells #[.pointer (some ⟨g, 0, none⟩)] 144 (0, 0)) := Array.getElem?_push_size
  exact {
    ri := ⟨hI1.1.grown hg (by simp), pw_below_grown hI1.2 _ hI1.2.size hg (fun k hk => by simp at hk)⟩
    dec := (hg.block _ (blk_lt e1) (by simp)).trans e1
    dge := hb
    row := hU
    out := Kd.S_nil _ _ _ _ _ }
def BL (s : ByteArray) (ks : List Int) (bl : List Bool) : Prop := bl.length = s.size ∧ ∀ i : Int, 0 ≤ i → i < (s.size : Int) → bl.getD i.toNat false = decide (i ∈ ks)
theorem BL.nil (s : ByteArray) : BL s [] (List.replicate (s.size : Int).toNat false) := by
  refine ⟨by simp, fun i h0 h1 => ?_⟩
  rw [List.getD_eq_getElem?_getD, List.getElem?_replicate]
  split <;> rfl
theorem BL.mark {s : ByteArray} {ks : List Int} {bl : List Bool} (h : BL s ks bl) (i : Int) (h0 : 0 ≤ i) (h1 : i < (s.size : Int)) : BL s (ks ++ [i]) (bl.set i.toNat true) := by
  obtain ⟨e, hb⟩ := h
  refine ⟨by rw [List.length_set]; exact e, fun j j0 j1 => ?_⟩
  rw [List.getD_eq_getElem?_getD, List.getElem?_set]
  by_cases hc : i.toNat = j.toNat
  · rw [if_pos hc, if_pos (by omega)]
    obtain rfl : i = j := by omega
    simp
  · rw [if_neg hc, ← List.getD_eq_getElem?_getD, hb j j0 j1]
    refine decide_eq_decide.2 ?_
    simp only [List.mem_append, List.mem_singleton]
    exact ⟨Or.inl, fun h => h.elim id (fun h => absurd (by rw [h]) hc)⟩
def lenV : Value → Nat
  | .slice _ n _ => n
  | _ => 0
theorem all_step {s : ByteArray} {n m : Nat} {t : RdS} (h : 0 < (s.size : Int) - t.1 ∧ t.2.1 = 0) (hn : n = m + 1) : allD s n t = ((oneD s t).1 :: (allD s m (oneD s t).2).1, (allD s m (oneD s t).2).2) := by
  subst hn
  show (if _ then _ else _) = _
  rw [if_pos h]
theorem all_end {s : ByteArray} {n : Nat} {t : RdS} (h : ¬ (0 < (s.size : Int) - t.1 ∧ t.2.1 = 0)) : allD s n t = ([], t) := by
  cases n with
  | zero => rfl
  | succ n => unfold allD; rw [if_neg h]
theorem OnePost.elem {w0 w W : World} {x : S82} {v6 v7 : Value} (h6 : RW W w.heap.size v6 x.f6) (h7 : RW W w.heap.size v7 x.f7) (ha : ∀ k, v6.ownBlock = some k → v7.ownBlock ≠ some k) (hw : w0.heap.size ≤ w.heap.size) :
    kI.M W w0.heap.size (fun k => w.heap.size ≤ k) x [.int .i64 x.f0, .int .u8 x.f1, .bool x.f2, .int .i64 x.f3, .int .i64 x.f4, .int .i64 x.f5, v6, v7] := by
  have q6 : (Kd.int .i64).R 3 W w0.heap.size (fun k => w.heap.size ≤ k) v6 x.f6 := Kd.R_mono (Kd.R_lower (Kd.R_tight rfl h6) hw) (fun k hk => Kd.R_base h6 k hk.symm)
  have q7 : (Kd.int .i64).R 3 W w0.heap.size (fun k => w.heap.size ≤ k) v7 x.f7 := Kd.R_mono (Kd.R_lower (Kd.R_tight rfl h7) hw) (fun k hk => Kd.R_base h7 k hk.symm)
  exact ⟨k82_mkM W w0.heap.size _ x q6 q7, fun u6 u7 e6 e7 => by
    injection e6 with e6
    injection e7 with e7
    subst e6 e7
    exact ha⟩
theorem IR.elder {W W1 : World} {B g t : Nat} {V : Value} {l : List S82} {cells : Array Value} (h : IR W B V l) (hb : W.heap[g]? = some (.cells cells t (0, 0))) (ht : ∀ q, q ∈ 82 :: kI.E → q ≠ t) (hs : ∀ k, k < W.heap.size → k ≠ g → W1.heap[k]? = W.heap[k]?) : Kd.S kI 82 W1 B (fun k => True ∧ ¬ W.heap.size ≤ k) V l :=
  Kd.S_mono (Kd.S_step (Kd.S_bound (Kd.S_types h hb ht)) (fun k hk hlt => hs k hlt hk.1.2)) (fun k hk => ⟨trivial, by have := hk.2.2.1; omega⟩)
theorem ite_f0 {c : Prop} [Decidable c] {a b : S82 × RdS} {z : Int} (ha : a.1.f0 = z) (hb : b.1.f0 = z) : (if c then a else b).1.f0 = z := by split <;> assumption
theorem one_at (s : ByteArray) (t : RdS) : (oneD s t).1.f0 = t.1 := by
  have hr : ∀ (f : Int) (r k : Nat) (x : S82) (t : RdS), (rowsD s f r k x t).1.f0 = x.f0 := by
    intro f r
    induction r with
    | zero => intro k x t; rfl
    | succ r ih =>
      intro k x t
      unfold rowsD
      split
      · rfl
      · split
        · rw [ih]
        · rw [ih]
  have hc : ∀ (f : Int) (x : S82) (t : RdS), (choD s x f t).1.f0 = x.f0 := by
    intro f x t
    unfold choD
    split
    · unfold choD10
      split
      · rfl
      · rw [hr]; rfl
    · unfold choD11
      split
      · rfl
      · rw [hr]; rfl
  have hb : ∀ (f : Int) (x : S82) (t : RdS), (bodyD s x f t).1.f0 = x.f0 := by
    intro f x t
    unfold bodyD moreD
    repeat' (with_reducible refine ite_f0 ?_ ?_)
    all_goals first
      | exact hc _ _ _
      | rfl
  unfold oneD
  split
  · split
    · rw [hb]; rfl
    · rfl
  · rw [hb]; rfl
theorem rows_f7 {s : ByteArray} {f : Int} : ∀ (r k : Nat) {x : S82} {t : RdS}, OKR s t → ((rowsD s f r k x t).1.f7.length : Int) ≤ x.f7.length + ((s.size : Int) - t.1) + 1
  | 0, k, x, t, h => by have := h.2.1; show (x.f7.length : Int) ≤ _; omega
  | r + 1, k, x, t, h => by
    have := h.2.1
    have key : ∀ (y : S82) (t1 : RdS), y.f7.length = x.f7.length + 1 → OKR s t1 → (t1.2.1 = 0 → t.1 + 1 ≤ t1.1) → ((rowsD s f r (k + 1) y t1).1.f7.length : Int) ≤ x.f7.length + ((s.size : Int) - t.1) + 1 := by
      intro y t1 hy h1 hz
      by_cases hc : t1.2.1 = 0
      · have h2 := rows_f7 (f := f) r (k + 1) (x := y) h1
        have h3 := hz hc
        omega
      · have e : (rowsD s f r (k + 1) y t1).1 = y := by
          cases r with
          | zero => rfl
          | succ r => unfold rowsD; rw [if_pos hc]
        rw [e]
        omega
    unfold rowsD
    split
    · show (x.f7.length : Int) ≤ _; omega
    · split
      · have ho : OKR s (if 0 < k ∧ (sgnR s t 4).1 ≤ rd x.f6 ((k : Int) - 1) then failR (sgnR s t 4).2 15 x.f0 else (sgnR s t 4).2) := okr_if ((h.sgn 4).fail _ _) (h.sgn 4)
        refine key _ _ (by simp) (ho.sgn 4) (fun hz => ?_)
        obtain ⟨d1, d2⟩ := sgnOK (by decide) ho hz
        obtain ⟨h3, h4⟩ := failIf (by decide) d1
        rw [h4] at d1 d2 ⊢
        obtain ⟨c1, c2⟩ := sgnOK (by decide) h d1
        omega
      · refine key _ _ (by simp) (h.sgn 4) (fun hz => ?_)
        obtain ⟨c1, c2⟩ := sgnOK (by decide) h hz
        omega
def F7 (p : S82 × RdS) : Prop := p.1.f7.length ≤ 100000
theorem F7.ite {c : Prop} [Decidable c] {a b : S82 × RdS} (ha : F7 a) (hb : F7 b) : F7 (if c then a else b) := by split <;> assumption
theorem cho_f7 {s : ByteArray} {f : Int} {x : S82} {t : RdS} (h : OKR s t) (hx : x.f7 = []) : F7 (choD s x f t) := by
  have h1 : OKR s (headD s x t).2 := (OKR.pad 4 h).sgn 4
  have hs := h.2.2
  unfold choD
  refine F7.ite ?_ ?_
  · unfold choD10
    refine F7.ite (show 1 ≤ 100000 by decide) ?_
    have h2 := rows_f7 (s := s) (f := 10) ((sgnR s (sgnR s (headD s x t).2 4).2 4).1 - (sgnR s (headD s x t).2 4).1 + 1).toNat 0 (x := ⟨x.f0, x.f1, x.f2, x.f3, x.f4, (sgnR s (headD s x t).2 4).1, x.f6, (headD s x t).1.f7⟩) ((h1.sgn 4).sgn 4)
    have h3 : (headD s x t).1.f7.length = 1 := rfl
    have := ((h1.sgn 4).sgn 4).1
    unfold F7
    dsimp only at h2
    rw [h3] at h2
    have h4 : ((rowsD s 10 ((sgnR s (sgnR s (headD s x t).2 4).2 4).1 - (sgnR s (headD s x t).2 4).1 + 1).toNat 0 ⟨x.f0, x.f1, x.f2, x.f3, x.f4, (sgnR s (headD s x t).2 4).1, x.f6, (headD s x t).1.f7⟩ (sgnR s (sgnR s (headD s x t).2 4).2 4).2).1.f7.length : Int) ≤ 100000 := by omega
    exact Int.ofNat_le.1 h4
  · unfold choD11
    refine F7.ite (show 1 ≤ 100000 by decide) ?_
    have h2 := rows_f7 (s := s) (f := 11) (sgnR s (headD s x t).2 4).1.toNat 0 (x := (headD s x t).1) (h1.sgn 4)
    have h3 : (headD s x t).1.f7.length = 1 := rfl
    have := (h1.sgn 4).1
    unfold F7
    rw [h3] at h2
    omega
theorem body_f7 {s : ByteArray} {f : Int} {x : S82} {t : RdS} (h : OKR s t) (hx : x.f7 = []) : F7 (bodyD s x f t) := by
  unfold bodyD moreD
  repeat' (with_reducible refine F7.ite ?_ ?_)
  all_goals first
    | exact cho_f7 h hx
    | (show x.f7.length ≤ 100000; rw [hx]; decide)
    | (show 1 ≤ 100000; decide)
theorem one_len {s : ByteArray} {t : RdS} (h : OKR s t) : (oneD s t).1.f7.length ≤ 100000 := by
  show F7 (oneD s t)
  unfold oneD
  refine F7.ite (F7.ite (body_f7 ((h.num 1).num 1) rfl) (show 0 ≤ 100000 by decide)) (body_f7 (h.num 1) rfl)
theorem IR.row7 {W : World} {B n c : Nat} {ad : Addr} {l : List S82} {u : Value} (h : IR W B (.slice (some ad) n c) l) (k : Nat) (hk : k < l.length) (hu : W.cell? ⟨(ad.add (k * 8)).block, (ad.add (k * 8)).off + 7, none⟩ = some u) : RW W B u l[k].f7 := by
  obtain ⟨g, rfl⟩ := Kd.R_head (Kd.S_R h)
  obtain ⟨hn, hc, hC⟩ := Kd.S_reads' h
  obtain ⟨cs, hcl, hM, hcc⟩ := Kd.S_get h ⟨0, 0, false, 0, 0, 0, [], []⟩ (k : Int) (by omega) (by omega)
  obtain ⟨v6, v7, rfl, g6, g7⟩ := k82_openM hM.1
  have h1 := hcc 7 v7 rfl
  rw [Int.toNat_natCast] at h1 g7
  rw [List.getD_eq_getElem?_getD, List.getElem?_eq_getElem hk] at g7
  have e : v7 = u := by
    rw [add_plain] at hu h1
    have h2 : W.cell? ⟨g, k * 8 + 7, none⟩ = some v7 := h1
    rw [show W.cell? ⟨g, k * 8 + 7, none⟩ = some u from hu] at h2
    injection h2 with h2
    exact h2.symm
  subst e
  exact Kd.R_mono g7 (fun _ _ => trivial)
theorem chk1_cons (s : ByteArray) (ks : List Int) (x0 y : Int) (r : List Int) (t : RdS) : chk1 s ks x0 (y :: r) t = chk1 s ks x0 r (if badT s ks y = true then failR t 16 x0 else t) := rfl
theorem rdD_at {xs : List S82} {k : Nat} (h : k < xs.length) : rd_T82 xs (k : Int) = xs[k] := by
  unfold rd_T82
  rw [Int.toNat_natCast, List.getD_eq_getElem?_getD, List.getElem?_eq_getElem h]; rfl
def code_Decode.f (a0 : ByteArray) : Option (List S82 × Int × Int) := some (decD a0)
end Go.Proofs.Ytfnjbmpolggdeaa.CD
end
section
namespace Go.Proofs.Ytfnjbmpolggdeaa.CD
open Go.RowKit Go.Lib Go.Proofs.YtfnjbmpolggdeaaW.PrintWords Go.Proofs.YtfnjbmpolggdeaaW.PrintLast Go.Proofs.YtfnjbmpolggdeaaW.PrintMore
set_option linter.unusedVariables false
set_option linter.unusedSimpArgs false
set_option maxHeartbeats 40000000 in
set_option maxRecDepth 100000 in
theorem decOne_any (w0 w : World) (g : Nat) (s : ByteArray) (t : RdS) (ht : OKR s t) (hI : RI w0 w g s t) :
    Calls Try.prog 95 #[.agg #[.pointer (some ⟨g, 0, none⟩)]] w (OnePost w0 w g s (oneD s t)) := by
  obtain ⟨o1, o2⟩ := num_range s t 1 (by decide)
  have o3 : (numR s t 1).1 < 256 := o2
  clear o2
  have HU : Aside0 (IntKind.u8.wrap (numR s t 1).1 = (numR s t 1).1) := ⟨by rw [IntKind.wrap_u8]; omega⟩
  have HWW := Aside0.mk hI.2.size
  have HO0 := Aside0.mk ht
  have H0 := Aside0.mk (HS.start hI)
  clear hI ht
  go_enter Try.func95, Try.ntmps95
  have e0 : ((w.alloc (.cells #[.pointer (some ⟨g, 0, none⟩)] 144)).alloc (.cells #[.int .i64 0, .int .u8 0, .bool false, .int .i64 0, .int .i64 0, .int .i64 0, .slice none 0 0, .slice none 0 0] 82)).cell? ⟨w.heap.size, 0, none⟩ = some (.pointer (some ⟨g, 0, none⟩)) := blk_cell H0.out.dec 0
  have e0a : ∀ o, ((((w.alloc (.cells #[.pointer (some ⟨g, 0, none⟩)] 144)).alloc (.cells #[.int .i64 0, .int .u8 0, .bool false, .int .i64 0, .int .i64 0, .int .i64 0, .slice none 0 0, .slice none 0 0] 82)).drew).alloc o).cell? ⟨w.heap.size, 0, none⟩ = some (.pointer (some ⟨g, 0, none⟩)) := fun o => pw_cell_below (below_alloc (drewB _) o) e0
  have e0b : ∀ o, ((((w.alloc (.cells #[.pointer (some ⟨g, 0, none⟩)] 144)).alloc (.cells #[.int .i64 0, .int .u8 0, .bool false, .int .i64 0, .int .i64 0, .int .i64 0, .slice none 0 0, .slice none 0 0] 82)).alloc o).drew).cell? ⟨w.heap.size, 0, none⟩ = some (.pointer (some ⟨g, 0, none⟩)) := fun o => pw_cell_below (below_alloc (Below.refl _ _) o) e0
  have HSZ : Aside0 (((w.alloc (.cells #[.pointer (some ⟨g, 0, none⟩)] 144)).alloc (.cells #[.int .i64 0, .int .u8 0, .bool false, .int .i64 0, .int .i64 0, .int .i64 0, .slice none 0 0, .slice none 0 0] 82)).heap.size = w.heap.size + 1 + 1) := ⟨(Array.size_push _).trans (congrArg (· + 1) (Array.size_push _))⟩
  go_upto_region 1 with (fail)
  go_cut [3] from 6 to 13 (fun vv wc => ∃ bx, vv = .pointer (some ⟨bx, 0, none⟩) ∧ Aside0 (OS w0 w wc g s (numR s t 1).2 bx (X0 t (numR s t 1).1 false) (.slice none 0 0) (.slice none 0 0)))
  case first =>
    go_region_law (first | (go_simp; refine (at_any w0 _ g s t (H0.out.below (drewB _)).ri).mono ?_; rintro e1 w1 ⟨rfl, hI1, hk1⟩; dsimp only; have H1 := Aside0.mk ((H0.out.below (drewB _)).rd hI1 hk1); have q1 : w1.cell? ⟨w.heap.size, 0, none⟩ = some (.pointer (some ⟨g, 0, none⟩)) := blk_cell H1.out.dec 0; have q1a : ∀ o, (w1.alloc o).cell? ⟨w.heap.size, 0, none⟩ = some (.pointer (some ⟨g, 0, none⟩)) := fun o => pw_cell_below (below_alloc (Below.refl _ _) o) q1) | (go_simp; refine (at_any w0 _ g s t ((H0.out.below (below_alloc (Below.refl _ _) (.cells #[.int .i64 0, .int .u8 0, .bool false, .int .i64 0, .int .i64 0, .int .i64 0, .slice none 0 0, .slice none 0 0] 82))).below (drewB _)).ri).mono ?_; rintro e1 w1 ⟨rfl, hI1, hk1⟩; dsimp only; have H1 := Aside0.mk (((H0.out.below (below_alloc (Below.refl _ _) (.cells #[.int .i64 0, .int .u8 0, .bool false, .int .i64 0, .int .i64 0, .int .i64 0, .slice none 0 0, .slice none 0 0] 82))).below (drewB _)).rd hI1 hk1); have q1 : w1.cell? ⟨w.heap.size, 0, none⟩ = some (.pointer (some ⟨g, 0, none⟩)) := blk_cell H1.out.dec 0; have q1a : ∀ o, (w1.alloc o).cell? ⟨w.heap.size, 0, none⟩ = some (.pointer (some ⟨g, 0, none⟩)) := fun o => pw_cell_below (below_alloc (Below.refl _ _) o) q1; have BX1 : w1.heap[w.heap.size + 1 + 1]? = some (.cells #[.int .i64 0, .int .u8 0, .bool false, .int .i64 0, .int .i64 0, .int .i64 0, .slice none 0 0, .slice none 0 0] 82 (0, 0)) := by rw [← HSZ.out]; exact H0.out.nx ⟨hk1.1, hk1.2⟩) | (go_simp; refine (num_any w0 _ g s t 1 1 rfl (by decide) HO0.out (H1.out.below (below_alloc (Below.refl _ _) (.cells #[.int .i64 0, .int .u8 0, .bool false, .int .i64 0, .int .i64 0, .int .i64 0, .slice none 0 0, .slice none 0 0] 82))).ri).mono ?_; rintro e2 w2 ⟨rfl, hI2, hk2⟩; dsimp only; have H2 := Aside0.mk ((H1.out.below (below_alloc (Below.refl _ _) (.cells #[.int .i64 0, .int .u8 0, .bool false, .int .i64 0, .int .i64 0, .int .i64 0, .slice none 0 0, .slice none 0 0] 82))).rd hI2 hk2); have q2 : w2.cell? ⟨w.heap.size, 0, none⟩ = some (.pointer (some ⟨g, 0, none⟩)) := blk_cell H2.out.dec 0; have BX : w2.heap[w1.heap.size]? = some (.cells #[.int .i64 0, .int .u8 0, .bool false, .int .i64 0, .int .i64 0, .int .i64 0, .slice none 0 0, .slice none 0 0] 82 (0, 0)) := H1.out.nx hk2; have a0 : w2.cell? ⟨w1.heap.size, 0, none⟩ = some _ := blk_cell BX 0; have f0 : w2.frozen? ⟨w1.heap.size, 0, none⟩ = false := blk_frozen BX 0; have a1 : w2.cell? ⟨w1.heap.size, 1, none⟩ = some _ := blk_cell BX 1; have f1 : w2.frozen? ⟨w1.heap.size, 1, none⟩ = false := blk_frozen BX 1; have a2 : w2.cell? ⟨w1.heap.size, 2, none⟩ = some _ := blk_cell BX 2; have f2 : w2.frozen? ⟨w1.heap.size, 2, none⟩ = false := blk_frozen BX 2; have a3 : w2.cell? ⟨w1.heap.size, 3, none⟩ = some _ := blk_cell BX 3; have f3 : w2.frozen? ⟨w1.heap.size, 3, none⟩ = false := blk_frozen BX 3; have a4 : w2.cell? ⟨w1.heap.size, 4, none⟩ = some _ := blk_cell BX 4; have f4 : w2.frozen? ⟨w1.heap.size, 4, none⟩ = false := blk_frozen BX 4; have a5 : w2.cell? ⟨w1.heap.size, 5, none⟩ = some _ := blk_cell BX 5; have f5 : w2.frozen? ⟨w1.heap.size, 5, none⟩ = false := blk_frozen BX 5; have a6 : w2.cell? ⟨w1.heap.size, 6, none⟩ = some _ := blk_cell BX 6; have f6 : w2.frozen? ⟨w1.heap.size, 6, none⟩ = false := blk_frozen BX 6; have a7 : w2.cell? ⟨w1.heap.size, 7, none⟩ = some _ := blk_cell BX 7; have f7 : w2.frozen? ⟨w1.heap.size, 7, none⟩ = false := blk_frozen BX 7) | (go_simp; refine (num_any w0 _ g s t 1 1 rfl (by decide) HO0.out (H1.out).ri).mono ?_; rintro e2 w2 ⟨rfl, hI2, hk2⟩; dsimp only; have H2 := Aside0.mk ((H1.out).rd hI2 hk2); have q2 : w2.cell? ⟨w.heap.size, 0, none⟩ = some (.pointer (some ⟨g, 0, none⟩)) := blk_cell H2.out.dec 0; have BX : w2.heap[w.heap.size + 1 + 1]? = some (.cells #[.int .i64 0, .int .u8 0, .bool false, .int .i64 0, .int .i64 0, .int .i64 0, .slice none 0 0, .slice none 0 0] 82 (0, 0)) := H1.out.nk BX1 hk2; have a0 : w2.cell? ⟨w.heap.size + 1 + 1, 0, none⟩ = some _ := blk_cell BX 0; have f0 : w2.frozen? ⟨w.heap.size + 1 + 1, 0, none⟩ = false := blk_frozen BX 0; have a1 : w2.cell? ⟨w.heap.size + 1 + 1, 1, none⟩ = some _ := blk_cell BX 1; have f1 : w2.frozen? ⟨w.heap.size + 1 + 1, 1, none⟩ = false := blk_frozen BX 1; have a2 : w2.cell? ⟨w.heap.size + 1 + 1, 2, none⟩ = some _ := blk_cell BX 2; have f2 : w2.frozen? ⟨w.heap.size + 1 + 1, 2, none⟩ = false := blk_frozen BX 2; have a3 : w2.cell? ⟨w.heap.size + 1 + 1, 3, none⟩ = some _ := blk_cell BX 3; have f3 : w2.frozen? ⟨w.heap.size + 1 + 1, 3, none⟩ = false := blk_frozen BX 3; have a4 : w2.cell? ⟨w.heap.size + 1 + 1, 4, none⟩ = some _ := blk_cell BX 4; have f4 : w2.frozen? ⟨w.heap.size + 1 + 1, 4, none⟩ = false := blk_frozen BX 4; have a5 : w2.cell? ⟨w.heap.size + 1 + 1, 5, none⟩ = some _ := blk_cell BX 5; have f5 : w2.frozen? ⟨w.heap.size + 1 + 1, 5, none⟩ = false := blk_frozen BX 5; have a6 : w2.cell? ⟨w.heap.size + 1 + 1, 6, none⟩ = some _ := blk_cell BX 6; have f6 : w2.frozen? ⟨w.heap.size + 1 + 1, 6, none⟩ = false := blk_frozen BX 6; have a7 : w2.cell? ⟨w.heap.size + 1 + 1, 7, none⟩ = some _ := blk_cell BX 7; have f7 : w2.frozen? ⟨w.heap.size + 1 + 1, 7, none⟩ = false := blk_frozen BX 7) | (go_simp; refine (num_any w0 _ g s t 1 1 rfl (by decide) HO0.out (H1.out).ri).mono ?_; rintro e2 w2 ⟨rfl, hI2, hk2⟩; dsimp only; have H2 := Aside0.mk ((H1.out).rd hI2 hk2); have q2 : w2.cell? ⟨w.heap.size, 0, none⟩ = some (.pointer (some ⟨g, 0, none⟩)) := blk_cell H2.out.dec 0))
    all_goals
      go_step
      go_step
      go_meet
      case rel =>
        rw [HU.out]
        first
        | exact ⟨_, rfl, ⟨H2.out.first BX (by first | omega | (have := blk_lt H1.out.res; omega)) (by first | omega | (have := blk_lt H1.out.res; omega)) HWW.out _ _⟩⟩
        | exact ⟨_, rfl, ⟨H2.out.last HWW.out _ _⟩⟩
  case rest =>
    obtain ⟨bx, rfl, H1⟩ := hcut
    clear H0 HSZ HU e0 e0a e0b
    have d0_1 : wc.cell? ⟨w.heap.size, 0, none⟩ = some (.pointer (some ⟨g, 0, none⟩)) := blk_cell H1.out.cs.dec 0
    have d1_1 : wc.cell? ⟨bx, 0, none⟩ = some (.int .i64 t.1) := blk_cell H1.out.cs.ins 0
    have d2_1 : wc.cell? ⟨bx, 1, none⟩ = some (.int .u8 (numR s t 1).1) := blk_cell H1.out.cs.ins 1
    have d3_1 : wc.cell? ⟨bx, 2, none⟩ = some (.bool false) := blk_cell H1.out.cs.ins 2
    have d4_1 : wc.cell? ⟨bx, 3, none⟩ = some (.int .i64 0) := blk_cell H1.out.cs.ins 3
    have d5_1 : wc.cell? ⟨bx, 4, none⟩ = some (.int .i64 0) := blk_cell H1.out.cs.ins 4
    have d6_1 : wc.cell? ⟨bx, 7, none⟩ = some (.slice none 0 0) := blk_cell H1.out.cs.ins 7
    have df_1 : ∀ j, wc.frozen? ⟨bx, j, none⟩ = false := fun j => blk_frozen H1.out.cs.ins j
    have hx : formF (numR s t 1).1 = 0 ∨ formF (numR s t 1).1 = 1 ∨ formF (numR s t 1).1 = 2 ∨ formF (numR s t 1).1 = 3 ∨ formF (numR s t 1).1 = 4 ∨ formF (numR s t 1).1 = 5 ∨ formF (numR s t 1).1 = 6 ∨ formF (numR s t 1).1 = 7 ∨ formF (numR s t 1).1 = 8 ∨ formF (numR s t 1).1 = 9 ∨ formF (numR s t 1).1 = 10 ∨ formF (numR s t 1).1 = 11 ∨ formF (numR s t 1).1 = 12 ∨ formF (numR s t 1).1 = 13 ∨ formF (numR s t 1).1 = 14 ∨ formF (numR s t 1).1 = 15 := by have := formF_le (numR s t 1).1; omega
    rcases hx with hf | hf | hf | hf | hf | hf | hf | hf | hf | hf | hf | hf | hf | hf | hf | hf
    · have HFS : Aside0 (code_form.f 3 (numR s t 1).1 = some 0) := ⟨by rw [formF_some, hf]⟩
      have HM : Aside0 (oneD s t = moreD s (⟨t.1, (numR s t 1).1, false, 0, 0, 0, [], []⟩ : S82) 0 (numR s t 1).2) := ⟨by unfold oneD bodyD; rw [hf, if_neg (by decide), if_neg (by decide), if_neg (by decide), if_neg (by decide), if_neg (by decide), if_neg (by decide), if_neg (by decide), if_neg (by decide), if_neg (by decide), if_neg (by decide)]; rfl⟩
      clear hf
      go_upto_region 34 with (first | (go_at_call 78; refine (code_form.calls 3 _ _ _ HFS.out).mono ?_; rintro e2 w2 ⟨rfl, hd2⟩; have H2 := Aside0.mk ((H1.out).below hd2.below); have d0_2 : w2.cell? ⟨w.heap.size, 0, none⟩ = some (.pointer (some ⟨g, 0, none⟩)) := blk_cell H2.out.cs.dec 0; have d1_2 : w2.cell? ⟨bx, 0, none⟩ = some (.int .i64 t.1) := blk_cell H2.out.cs.ins 0; have d2_2 : w2.cell? ⟨bx, 1, none⟩ = some (.int .u8 (numR s t 1).1) := blk_cell H2.out.cs.ins 1; have d3_2 : w2.cell? ⟨bx, 2, none⟩ = some (.bool false) := blk_cell H2.out.cs.ins 2; have d4_2 : w2.cell? ⟨bx, 3, none⟩ = some (.int .i64 0) := blk_cell H2.out.cs.ins 3; have d5_2 : w2.cell? ⟨bx, 4, none⟩ = some (.int .i64 0) := blk_cell H2.out.cs.ins 4; have d6_2 : w2.cell? ⟨bx, 7, none⟩ = some (.slice none 0 0) := blk_cell H2.out.cs.ins 7; have df_2 : ∀ j, w2.frozen? ⟨bx, j, none⟩ = false := fun j => blk_frozen H2.out.cs.ins j; clear hd2) | (go_at_call 125; refine (more_dx w0 _ g s (numR s t 1).2 bx (⟨t.1, (numR s t 1).1, false, 0, 0, 0, [], []⟩ : S82) 0 (by decide) (HO0.out.num 1) H2.out.hs.ri H2.out.cs.ins rfl rfl H2.out.cs.new).mono ?_; rintro e3 w3 ⟨rfl, v6, v7, h3⟩; have E := Aside0.mk (H2.out.more h3); clear h3) | go_in)
      generalize moreD s (⟨t.1, (numR s t 1).1, false, 0, 0, 0, [], []⟩ : S82) 0 (numR s t 1).2 = p at *
      obtain ⟨u6, k6, e6⟩ := Kd.R_slice E.out.r6
      subst e6
      obtain ⟨u7, k7, e7⟩ := Kd.R_slice E.out.r7
      subst e7
      have c0 : w3.cell? ⟨bx, 0, none⟩ = some (.int .i64 p.1.f0) := blk_cell E.out.ins 0
      have r0 : w3.cell? ⟨w.heap.size + 1, 0, none⟩ = some _ := blk_cell E.out.res 0
      have c1 : w3.cell? ⟨bx, 1, none⟩ = some (.int .u8 p.1.f1) := blk_cell E.out.ins 1
      have r1 : w3.cell? ⟨w.heap.size + 1, 1, none⟩ = some _ := blk_cell E.out.res 1
      have c2 : w3.cell? ⟨bx, 2, none⟩ = some (.bool p.1.f2) := blk_cell E.out.ins 2
      have r2 : w3.cell? ⟨w.heap.size + 1, 2, none⟩ = some _ := blk_cell E.out.res 2
      have c3 : w3.cell? ⟨bx, 3, none⟩ = some (.int .i64 p.1.f3) := blk_cell E.out.ins 3
      have r3 : w3.cell? ⟨w.heap.size + 1, 3, none⟩ = some _ := blk_cell E.out.res 3
      have c4 : w3.cell? ⟨bx, 4, none⟩ = some (.int .i64 p.1.f4) := blk_cell E.out.ins 4
      have r4 : w3.cell? ⟨w.heap.size + 1, 4, none⟩ = some _ := blk_cell E.out.res 4
      have c5 : w3.cell? ⟨bx, 5, none⟩ = some (.int .i64 p.1.f5) := blk_cell E.out.ins 5
      have r5 : w3.cell? ⟨w.heap.size + 1, 5, none⟩ = some _ := blk_cell E.out.res 5
      have c6 : w3.cell? ⟨bx, 6, none⟩ = some (.slice u6 p.1.f6.length k6) := blk_cell E.out.ins 6
      have r6 : w3.cell? ⟨w.heap.size + 1, 6, none⟩ = some _ := blk_cell E.out.res 6
      have c7 : w3.cell? ⟨bx, 7, none⟩ = some (.slice u7 p.1.f7.length k7) := blk_cell E.out.ins 7
      have r7 : w3.cell? ⟨w.heap.size + 1, 7, none⟩ = some _ := blk_cell E.out.res 7
      have rf : ∀ j, w3.frozen? ⟨w.heap.size + 1, j, none⟩ = false := fun j => blk_frozen E.out.res j
      have HFIN := Aside0.mk (E.out.fin HWW.out)
      go_wp2
      refine bodyPost_ret (results_cell_row rfl _ _ (w.heap.size + 1) 82 _ (0, 0) _ rfl HFIN.out.1 Try.underlying82 rfl (by kernel_rfl)) rfl ?_
      rw [HM.out]
      exact ⟨_, _, rfl, HFIN.out.2.1, HFIN.out.2.2.1, HFIN.out.2.2.2.1, E.out.ap, HFIN.out.2.2.2.2⟩
    · have HFS : Aside0 (code_form.f 3 (numR s t 1).1 = some 1) := ⟨by rw [formF_some, hf]⟩
      have HM : Aside0 (oneD s t = ((⟨t.1, (numR s t 1).1, false, 0, 0, 0, [], []⟩ : S82), failR (numR s t 1).2 14 t.1)) := ⟨by unfold oneD bodyD; rw [hf, if_neg (by decide), if_pos rfl]; rfl⟩
      clear hf
      go_upto_region 34 with (first | (go_at_call 78; refine (code_form.calls 3 _ _ _ HFS.out).mono ?_; rintro e2 w2 ⟨rfl, hd2⟩; have H2 := Aside0.mk ((H1.out).below hd2.below); have d0_2 : w2.cell? ⟨w.heap.size, 0, none⟩ = some (.pointer (some ⟨g, 0, none⟩)) := blk_cell H2.out.cs.dec 0; have d1_2 : w2.cell? ⟨bx, 0, none⟩ = some (.int .i64 t.1) := blk_cell H2.out.cs.ins 0; have d2_2 : w2.cell? ⟨bx, 1, none⟩ = some (.int .u8 (numR s t 1).1) := blk_cell H2.out.cs.ins 1; have d3_2 : w2.cell? ⟨bx, 2, none⟩ = some (.bool false) := blk_cell H2.out.cs.ins 2; have d4_2 : w2.cell? ⟨bx, 3, none⟩ = some (.int .i64 0) := blk_cell H2.out.cs.ins 3; have d5_2 : w2.cell? ⟨bx, 4, none⟩ = some (.int .i64 0) := blk_cell H2.out.cs.ins 4; have d6_2 : w2.cell? ⟨bx, 7, none⟩ = some (.slice none 0 0) := blk_cell H2.out.cs.ins 7; have df_2 : ∀ j, w2.frozen? ⟨bx, j, none⟩ = false := fun j => blk_frozen H2.out.cs.ins j; clear hd2) | (go_at_call 73; refine (fail_any w0 _ g s (numR s t 1).2 14 t.1 (H2.out).hs.ri).mono ?_; rintro e3 w3 ⟨rfl, hI3, hk3⟩; have H3 := Aside0.mk ((H2.out).rd hI3 hk3); have d0_3 : w3.cell? ⟨w.heap.size, 0, none⟩ = some (.pointer (some ⟨g, 0, none⟩)) := blk_cell H3.out.cs.dec 0; have d1_3 : w3.cell? ⟨bx, 0, none⟩ = some (.int .i64 t.1) := blk_cell H3.out.cs.ins 0; have d2_3 : w3.cell? ⟨bx, 1, none⟩ = some (.int .u8 (numR s t 1).1) := blk_cell H3.out.cs.ins 1; have d3_3 : w3.cell? ⟨bx, 2, none⟩ = some (.bool false) := blk_cell H3.out.cs.ins 2; have d4_3 : w3.cell? ⟨bx, 3, none⟩ = some (.int .i64 0) := blk_cell H3.out.cs.ins 3; have d5_3 : w3.cell? ⟨bx, 4, none⟩ = some (.int .i64 0) := blk_cell H3.out.cs.ins 4; have d6_3 : w3.cell? ⟨bx, 7, none⟩ = some (.slice none 0 0) := blk_cell H3.out.cs.ins 7; have df_3 : ∀ j, w3.frozen? ⟨bx, j, none⟩ = false := fun j => blk_frozen H3.out.cs.ins j; clear hI3 hk3) | go_in)
      have E := Aside0.mk H3.out.oe
      have c0 : w3.cell? ⟨bx, 0, none⟩ = some (.int .i64 t.1) := blk_cell E.out.ins 0
      have r0 : w3.cell? ⟨w.heap.size + 1, 0, none⟩ = some _ := blk_cell E.out.res 0
      have c1 : w3.cell? ⟨bx, 1, none⟩ = some (.int .u8 (numR s t 1).1) := blk_cell E.out.ins 1
      have r1 : w3.cell? ⟨w.heap.size + 1, 1, none⟩ = some _ := blk_cell E.out.res 1
      have c2 : w3.cell? ⟨bx, 2, none⟩ = some (.bool false) := blk_cell E.out.ins 2
      have r2 : w3.cell? ⟨w.heap.size + 1, 2, none⟩ = some _ := blk_cell E.out.res 2
      have c3 : w3.cell? ⟨bx, 3, none⟩ = some (.int .i64 0) := blk_cell E.out.ins 3
      have r3 : w3.cell? ⟨w.heap.size + 1, 3, none⟩ = some _ := blk_cell E.out.res 3
      have c4 : w3.cell? ⟨bx, 4, none⟩ = some (.int .i64 0) := blk_cell E.out.ins 4
      have r4 : w3.cell? ⟨w.heap.size + 1, 4, none⟩ = some _ := blk_cell E.out.res 4
      have c5 : w3.cell? ⟨bx, 5, none⟩ = some (.int .i64 0) := blk_cell E.out.ins 5
      have r5 : w3.cell? ⟨w.heap.size + 1, 5, none⟩ = some _ := blk_cell E.out.res 5
      have c6 : w3.cell? ⟨bx, 6, none⟩ = some (.slice none 0 0) := blk_cell E.out.ins 6
      have r6 : w3.cell? ⟨w.heap.size + 1, 6, none⟩ = some _ := blk_cell E.out.res 6
      have c7 : w3.cell? ⟨bx, 7, none⟩ = some (.slice none 0 0) := blk_cell E.out.ins 7
      have r7 : w3.cell? ⟨w.heap.size + 1, 7, none⟩ = some _ := blk_cell E.out.res 7
      have rf : ∀ j, w3.frozen? ⟨w.heap.size + 1, j, none⟩ = false := fun j => blk_frozen E.out.res j
      have HFIN := Aside0.mk (E.out.fin HWW.out)
      go_wp2
      refine bodyPost_ret (results_cell_row rfl _ _ (w.heap.size + 1) 82 _ (0, 0) _ rfl HFIN.out.1 Try.underlying82 rfl (by kernel_rfl)) rfl ?_
      rw [HM.out]
      exact ⟨_, _, rfl, HFIN.out.2.1, HFIN.out.2.2.1, HFIN.out.2.2.2.1, E.out.ap, HFIN.out.2.2.2.2⟩
    · have HFS : Aside0 (code_form.f 3 (numR s t 1).1 = some 2) := ⟨by rw [formF_some, hf]⟩
      have HM : Aside0 (oneD s t = ((⟨t.1, (numR s t 1).1, false, (sgnR s (numR s t 1).2 1).1, 0, 0, [], []⟩ : S82), (sgnR s (numR s t 1).2 1).2)) := ⟨by unfold oneD bodyD; rw [hf, if_neg (by decide), if_neg (by decide), if_pos rfl]; rfl⟩
      clear hf
      go_upto_region 34 with (first | (go_at_call 78; refine (code_form.calls 3 _ _ _ HFS.out).mono ?_; rintro e2 w2 ⟨rfl, hd2⟩; have H2 := Aside0.mk ((H1.out).below hd2.below); have d0_2 : w2.cell? ⟨w.heap.size, 0, none⟩ = some (.pointer (some ⟨g, 0, none⟩)) := blk_cell H2.out.cs.dec 0; have d1_2 : w2.cell? ⟨bx, 0, none⟩ = some (.int .i64 t.1) := blk_cell H2.out.cs.ins 0; have d2_2 : w2.cell? ⟨bx, 1, none⟩ = some (.int .u8 (numR s t 1).1) := blk_cell H2.out.cs.ins 1; have d3_2 : w2.cell? ⟨bx, 2, none⟩ = some (.bool false) := blk_cell H2.out.cs.ins 2; have d4_2 : w2.cell? ⟨bx, 3, none⟩ = some (.int .i64 0) := blk_cell H2.out.cs.ins 3; have d5_2 : w2.cell? ⟨bx, 4, none⟩ = some (.int .i64 0) := blk_cell H2.out.cs.ins 4; have d6_2 : w2.cell? ⟨bx, 7, none⟩ = some (.slice none 0 0) := blk_cell H2.out.cs.ins 7; have df_2 : ∀ j, w2.frozen? ⟨bx, j, none⟩ = false := fun j => blk_frozen H2.out.cs.ins j; clear hd2) | (go_at_call 124; refine (signed_d w0 _ g s (numR s t 1).2 1 1 rfl (.inl rfl) (HO0.out.num 1) (H2.out).hs.ri).mono ?_; rintro e3 w3 ⟨rfl, hI3, hk3⟩; have H3 := Aside0.mk ((H2.out).rd hI3 hk3); have d0_3 : w3.cell? ⟨w.heap.size, 0, none⟩ = some (.pointer (some ⟨g, 0, none⟩)) := blk_cell H3.out.cs.dec 0; have d1_3 : w3.cell? ⟨bx, 0, none⟩ = some (.int .i64 t.1) := blk_cell H3.out.cs.ins 0; have d2_3 : w3.cell? ⟨bx, 1, none⟩ = some (.int .u8 (numR s t 1).1) := blk_cell H3.out.cs.ins 1; have d3_3 : w3.cell? ⟨bx, 2, none⟩ = some (.bool false) := blk_cell H3.out.cs.ins 2; have d4_3 : w3.cell? ⟨bx, 3, none⟩ = some (.int .i64 0) := blk_cell H3.out.cs.ins 3; have d5_3 : w3.cell? ⟨bx, 4, none⟩ = some (.int .i64 0) := blk_cell H3.out.cs.ins 4; have d6_3 : w3.cell? ⟨bx, 7, none⟩ = some (.slice none 0 0) := blk_cell H3.out.cs.ins 7; have df_3 : ∀ j, w3.frozen? ⟨bx, j, none⟩ = false := fun j => blk_frozen H3.out.cs.ins j; clear hI3 hk3) | go_in)
      have H9 := Aside0.mk (H3.out.set 3 (.int .i64 (sgnR s (numR s t 1).2 1).1) (⟨t.1, (numR s t 1).1, false, (sgnR s (numR s t 1).2 1).1, 0, 0, [], []⟩ : S82) rfl rfl rfl)
      generalize World.setCell _ ⟨bx, 3, none⟩ _ = W9 at *
      have E := Aside0.mk H9.out.oe
      have c0 : W9.cell? ⟨bx, 0, none⟩ = some (.int .i64 t.1) := blk_cell E.out.ins 0
      have r0 : W9.cell? ⟨w.heap.size + 1, 0, none⟩ = some _ := blk_cell E.out.res 0
      have c1 : W9.cell? ⟨bx, 1, none⟩ = some (.int .u8 (numR s t 1).1) := blk_cell E.out.ins 1
      have r1 : W9.cell? ⟨w.heap.size + 1, 1, none⟩ = some _ := blk_cell E.out.res 1
      have c2 : W9.cell? ⟨bx, 2, none⟩ = some (.bool false) := blk_cell E.out.ins 2
      have r2 : W9.cell? ⟨w.heap.size + 1, 2, none⟩ = some _ := blk_cell E.out.res 2
      have c3 : W9.cell? ⟨bx, 3, none⟩ = some (.int .i64 (sgnR s (numR s t 1).2 1).1) := blk_cell E.out.ins 3
      have r3 : W9.cell? ⟨w.heap.size + 1, 3, none⟩ = some _ := blk_cell E.out.res 3
      have c4 : W9.cell? ⟨bx, 4, none⟩ = some (.int .i64 0) := blk_cell E.out.ins 4
      have r4 : W9.cell? ⟨w.heap.size + 1, 4, none⟩ = some _ := blk_cell E.out.res 4
      have c5 : W9.cell? ⟨bx, 5, none⟩ = some (.int .i64 0) := blk_cell E.out.ins 5
      have r5 : W9.cell? ⟨w.heap.size + 1, 5, none⟩ = some _ := blk_cell E.out.res 5
      have c6 : W9.cell? ⟨bx, 6, none⟩ = some (.slice none 0 0) := blk_cell E.out.ins 6
      have r6 : W9.cell? ⟨w.heap.size + 1, 6, none⟩ = some _ := blk_cell E.out.res 6
      have c7 : W9.cell? ⟨bx, 7, none⟩ = some (.slice none 0 0) := blk_cell E.out.ins 7
      have r7 : W9.cell? ⟨w.heap.size + 1, 7, none⟩ = some _ := blk_cell E.out.res 7
      have rf : ∀ j, W9.frozen? ⟨w.heap.size + 1, j, none⟩ = false := fun j => blk_frozen E.out.res j
      have HFIN := Aside0.mk (E.out.fin HWW.out)
      go_wp2
      refine bodyPost_ret (results_cell_row rfl _ _ (w.heap.size + 1) 82 _ (0, 0) _ rfl HFIN.out.1 Try.underlying82 rfl (by kernel_rfl)) rfl ?_
      rw [HM.out]
      exact ⟨_, _, rfl, HFIN.out.2.1, HFIN.out.2.2.1, HFIN.out.2.2.2.1, E.out.ap, HFIN.out.2.2.2.2⟩
    · have HFS : Aside0 (code_form.f 3 (numR s t 1).1 = some 3) := ⟨by rw [formF_some, hf]⟩
      have HM : Aside0 (oneD s t = ((⟨t.1, (numR s t 1).1, false, (sgnR s (numR s t 1).2 2).1, 0, 0, [], []⟩ : S82), (sgnR s (numR s t 1).2 2).2)) := ⟨by unfold oneD bodyD; rw [hf, if_neg (by decide), if_neg (by decide), if_neg (by decide), if_pos rfl]; rfl⟩
      clear hf
      go_upto_region 34 with (first | (go_at_call 78; refine (code_form.calls 3 _ _ _ HFS.out).mono ?_; rintro e2 w2 ⟨rfl, hd2⟩; have H2 := Aside0.mk ((H1.out).below hd2.below); have d0_2 : w2.cell? ⟨w.heap.size, 0, none⟩ = some (.pointer (some ⟨g, 0, none⟩)) := blk_cell H2.out.cs.dec 0; have d1_2 : w2.cell? ⟨bx, 0, none⟩ = some (.int .i64 t.1) := blk_cell H2.out.cs.ins 0; have d2_2 : w2.cell? ⟨bx, 1, none⟩ = some (.int .u8 (numR s t 1).1) := blk_cell H2.out.cs.ins 1; have d3_2 : w2.cell? ⟨bx, 2, none⟩ = some (.bool false) := blk_cell H2.out.cs.ins 2; have d4_2 : w2.cell? ⟨bx, 3, none⟩ = some (.int .i64 0) := blk_cell H2.out.cs.ins 3; have d5_2 : w2.cell? ⟨bx, 4, none⟩ = some (.int .i64 0) := blk_cell H2.out.cs.ins 4; have d6_2 : w2.cell? ⟨bx, 7, none⟩ = some (.slice none 0 0) := blk_cell H2.out.cs.ins 7; have df_2 : ∀ j, w2.frozen? ⟨bx, j, none⟩ = false := fun j => blk_frozen H2.out.cs.ins j; clear hd2) | (go_at_call 124; refine (signed_d w0 _ g s (numR s t 1).2 2 2 rfl (.inr (.inl rfl)) (HO0.out.num 1) (H2.out).hs.ri).mono ?_; rintro e3 w3 ⟨rfl, hI3, hk3⟩; have H3 := Aside0.mk ((H2.out).rd hI3 hk3); have d0_3 : w3.cell? ⟨w.heap.size, 0, none⟩ = some (.pointer (some ⟨g, 0, none⟩)) := blk_cell H3.out.cs.dec 0; have d1_3 : w3.cell? ⟨bx, 0, none⟩ = some (.int .i64 t.1) := blk_cell H3.out.cs.ins 0; have d2_3 : w3.cell? ⟨bx, 1, none⟩ = some (.int .u8 (numR s t 1).1) := blk_cell H3.out.cs.ins 1; have d3_3 : w3.cell? ⟨bx, 2, none⟩ = some (.bool false) := blk_cell H3.out.cs.ins 2; have d4_3 : w3.cell? ⟨bx, 3, none⟩ = some (.int .i64 0) := blk_cell H3.out.cs.ins 3; have d5_3 : w3.cell? ⟨bx, 4, none⟩ = some (.int .i64 0) := blk_cell H3.out.cs.ins 4; have d6_3 : w3.cell? ⟨bx, 7, none⟩ = some (.slice none 0 0) := blk_cell H3.out.cs.ins 7; have df_3 : ∀ j, w3.frozen? ⟨bx, j, none⟩ = false := fun j => blk_frozen H3.out.cs.ins j; clear hI3 hk3) | go_in)
      have H9 := Aside0.mk (H3.out.set 3 (.int .i64 (sgnR s (numR s t 1).2 2).1) (⟨t.1, (numR s t 1).1, false, (sgnR s (numR s t 1).2 2).1, 0, 0, [], []⟩ : S82) rfl rfl rfl)
      generalize World.setCell _ ⟨bx, 3, none⟩ _ = W9 at *
      have E := Aside0.mk H9.out.oe
      have c0 : W9.cell? ⟨bx, 0, none⟩ = some (.int .i64 t.1) := blk_cell E.out.ins 0
      have r0 : W9.cell? ⟨w.heap.size + 1, 0, none⟩ = some _ := blk_cell E.out.res 0
      have c1 : W9.cell? ⟨bx, 1, none⟩ = some (.int .u8 (numR s t 1).1) := blk_cell E.out.ins 1
      have r1 : W9.cell? ⟨w.heap.size + 1, 1, none⟩ = some _ := blk_cell E.out.res 1
      have c2 : W9.cell? ⟨bx, 2, none⟩ = some (.bool false) := blk_cell E.out.ins 2
      have r2 : W9.cell? ⟨w.heap.size + 1, 2, none⟩ = some _ := blk_cell E.out.res 2
      have c3 : W9.cell? ⟨bx, 3, none⟩ = some (.int .i64 (sgnR s (numR s t 1).2 2).1) := blk_cell E.out.ins 3
      have r3 : W9.cell? ⟨w.heap.size + 1, 3, none⟩ = some _ := blk_cell E.out.res 3
      have c4 : W9.cell? ⟨bx, 4, none⟩ = some (.int .i64 0) := blk_cell E.out.ins 4
      have r4 : W9.cell? ⟨w.heap.size + 1, 4, none⟩ = some _ := blk_cell E.out.res 4
      have c5 : W9.cell? ⟨bx, 5, none⟩ = some (.int .i64 0) := blk_cell E.out.ins 5
      have r5 : W9.cell? ⟨w.heap.size + 1, 5, none⟩ = some _ := blk_cell E.out.res 5
      have c6 : W9.cell? ⟨bx, 6, none⟩ = some (.slice none 0 0) := blk_cell E.out.ins 6
      have r6 : W9.cell? ⟨w.heap.size + 1, 6, none⟩ = some _ := blk_cell E.out.res 6
      have c7 : W9.cell? ⟨bx, 7, none⟩ = some (.slice none 0 0) := blk_cell E.out.ins 7
      have r7 : W9.cell? ⟨w.heap.size + 1, 7, none⟩ = some _ := blk_cell E.out.res 7
      have rf : ∀ j, W9.frozen? ⟨w.heap.size + 1, j, none⟩ = false := fun j => blk_frozen E.out.res j
      have HFIN := Aside0.mk (E.out.fin HWW.out)
      go_wp2
      refine bodyPost_ret (results_cell_row rfl _ _ (w.heap.size + 1) 82 _ (0, 0) _ rfl HFIN.out.1 Try.underlying82 rfl (by kernel_rfl)) rfl ?_
      rw [HM.out]
      exact ⟨_, _, rfl, HFIN.out.2.1, HFIN.out.2.2.1, HFIN.out.2.2.2.1, E.out.ap, HFIN.out.2.2.2.2⟩
    · have HFS : Aside0 (code_form.f 3 (numR s t 1).1 = some 4) := ⟨by rw [formF_some, hf]⟩
      have HM : Aside0 (oneD s t = ((⟨t.1, (numR s t 1).1, false, (numR s (numR s t 1).2 1).1, 0, 0, [], []⟩ : S82), (numR s (numR s t 1).2 1).2)) := ⟨by unfold oneD bodyD; rw [hf, if_neg (by decide), if_neg (by decide), if_neg (by decide), if_neg (by decide), if_pos rfl]; rfl⟩
      clear hf
      go_upto_region 34 with (first | (go_at_call 78; refine (code_form.calls 3 _ _ _ HFS.out).mono ?_; rintro e2 w2 ⟨rfl, hd2⟩; have H2 := Aside0.mk ((H1.out).below hd2.below); have d0_2 : w2.cell? ⟨w.heap.size, 0, none⟩ = some (.pointer (some ⟨g, 0, none⟩)) := blk_cell H2.out.cs.dec 0; have d1_2 : w2.cell? ⟨bx, 0, none⟩ = some (.int .i64 t.1) := blk_cell H2.out.cs.ins 0; have d2_2 : w2.cell? ⟨bx, 1, none⟩ = some (.int .u8 (numR s t 1).1) := blk_cell H2.out.cs.ins 1; have d3_2 : w2.cell? ⟨bx, 2, none⟩ = some (.bool false) := blk_cell H2.out.cs.ins 2; have d4_2 : w2.cell? ⟨bx, 3, none⟩ = some (.int .i64 0) := blk_cell H2.out.cs.ins 3; have d5_2 : w2.cell? ⟨bx, 4, none⟩ = some (.int .i64 0) := blk_cell H2.out.cs.ins 4; have d6_2 : w2.cell? ⟨bx, 7, none⟩ = some (.slice none 0 0) := blk_cell H2.out.cs.ins 7; have df_2 : ∀ j, w2.frozen? ⟨bx, j, none⟩ = false := fun j => blk_frozen H2.out.cs.ins j; clear hd2) | (go_at_call 68; refine (num_any w0 _ g s (numR s t 1).2 1 1 rfl (by decide) (HO0.out.num 1) (H2.out).hs.ri).mono ?_; rintro e3 w3 ⟨rfl, hI3, hk3⟩; have H3 := Aside0.mk ((H2.out).rd hI3 hk3); have d0_3 : w3.cell? ⟨w.heap.size, 0, none⟩ = some (.pointer (some ⟨g, 0, none⟩)) := blk_cell H3.out.cs.dec 0; have d1_3 : w3.cell? ⟨bx, 0, none⟩ = some (.int .i64 t.1) := blk_cell H3.out.cs.ins 0; have d2_3 : w3.cell? ⟨bx, 1, none⟩ = some (.int .u8 (numR s t 1).1) := blk_cell H3.out.cs.ins 1; have d3_3 : w3.cell? ⟨bx, 2, none⟩ = some (.bool false) := blk_cell H3.out.cs.ins 2; have d4_3 : w3.cell? ⟨bx, 3, none⟩ = some (.int .i64 0) := blk_cell H3.out.cs.ins 3; have d5_3 : w3.cell? ⟨bx, 4, none⟩ = some (.int .i64 0) := blk_cell H3.out.cs.ins 4; have d6_3 : w3.cell? ⟨bx, 7, none⟩ = some (.slice none 0 0) := blk_cell H3.out.cs.ins 7; have df_3 : ∀ j, w3.frozen? ⟨bx, j, none⟩ = false := fun j => blk_frozen H3.out.cs.ins j; clear hI3 hk3) | go_in)
      have H9 := Aside0.mk (H3.out.set 3 (.int .i64 (numR s (numR s t 1).2 1).1) (⟨t.1, (numR s t 1).1, false, (numR s (numR s t 1).2 1).1, 0, 0, [], []⟩ : S82) rfl rfl rfl)
      generalize World.setCell _ ⟨bx, 3, none⟩ _ = W9 at *
      have E := Aside0.mk H9.out.oe
      have c0 : W9.cell? ⟨bx, 0, none⟩ = some (.int .i64 t.1) := blk_cell E.out.ins 0
      have r0 : W9.cell? ⟨w.heap.size + 1, 0, none⟩ = some _ := blk_cell E.out.res 0
      have c1 : W9.cell? ⟨bx, 1, none⟩ = some (.int .u8 (numR s t 1).1) := blk_cell E.out.ins 1
      have r1 : W9.cell? ⟨w.heap.size + 1, 1, none⟩ = some _ := blk_cell E.out.res 1
      have c2 : W9.cell? ⟨bx, 2, none⟩ = some (.bool false) := blk_cell E.out.ins 2
      have r2 : W9.cell? ⟨w.heap.size + 1, 2, none⟩ = some _ := blk_cell E.out.res 2
      have c3 : W9.cell? ⟨bx, 3, none⟩ = some (.int .i64 (numR s (numR s t 1).2 1).1) := blk_cell E.out.ins 3
      have r3 : W9.cell? ⟨w.heap.size + 1, 3, none⟩ = some _ := blk_cell E.out.res 3
      have c4 : W9.cell? ⟨bx, 4, none⟩ = some (.int .i64 0) := blk_cell E.out.ins 4
      have r4 : W9.cell? ⟨w.heap.size + 1, 4, none⟩ = some _ := blk_cell E.out.res 4
      have c5 : W9.cell? ⟨bx, 5, none⟩ = some (.int .i64 0) := blk_cell E.out.ins 5
      have r5 : W9.cell? ⟨w.heap.size + 1, 5, none⟩ = some _ := blk_cell E.out.res 5
      have c6 : W9.cell? ⟨bx, 6, none⟩ = some (.slice none 0 0) := blk_cell E.out.ins 6
      have r6 : W9.cell? ⟨w.heap.size + 1, 6, none⟩ = some _ := blk_cell E.out.res 6
      have c7 : W9.cell? ⟨bx, 7, none⟩ = some (.slice none 0 0) := blk_cell E.out.ins 7
      have r7 : W9.cell? ⟨w.heap.size + 1, 7, none⟩ = some _ := blk_cell E.out.res 7
      have rf : ∀ j, W9.frozen? ⟨w.heap.size + 1, j, none⟩ = false := fun j => blk_frozen E.out.res j
      have HFIN := Aside0.mk (E.out.fin HWW.out)
      go_wp2
      refine bodyPost_ret (results_cell_row rfl _ _ (w.heap.size + 1) 82 _ (0, 0) _ rfl HFIN.out.1 Try.underlying82 rfl (by kernel_rfl)) rfl ?_
      rw [HM.out]
      exact ⟨_, _, rfl, HFIN.out.2.1, HFIN.out.2.2.1, HFIN.out.2.2.2.1, E.out.ap, HFIN.out.2.2.2.2⟩
    · have HFS : Aside0 (code_form.f 3 (numR s t 1).1 = some 5) := ⟨by rw [formF_some, hf]⟩
      have HM : Aside0 (oneD s t = ((⟨t.1, (numR s t 1).1, false, (numR s (numR s t 1).2 2).1, 0, 0, [], []⟩ : S82), (numR s (numR s t 1).2 2).2)) := ⟨by unfold oneD bodyD; rw [hf, if_neg (by decide), if_neg (by decide), if_neg (by decide), if_neg (by decide), if_neg (by decide), if_pos rfl]; rfl⟩
      clear hf
      go_upto_region 34 with (first | (go_at_call 78; refine (code_form.calls 3 _ _ _ HFS.out).mono ?_; rintro e2 w2 ⟨rfl, hd2⟩; have H2 := Aside0.mk ((H1.out).below hd2.below); have d0_2 : w2.cell? ⟨w.heap.size, 0, none⟩ = some (.pointer (some ⟨g, 0, none⟩)) := blk_cell H2.out.cs.dec 0; have d1_2 : w2.cell? ⟨bx, 0, none⟩ = some (.int .i64 t.1) := blk_cell H2.out.cs.ins 0; have d2_2 : w2.cell? ⟨bx, 1, none⟩ = some (.int .u8 (numR s t 1).1) := blk_cell H2.out.cs.ins 1; have d3_2 : w2.cell? ⟨bx, 2, none⟩ = some (.bool false) := blk_cell H2.out.cs.ins 2; have d4_2 : w2.cell? ⟨bx, 3, none⟩ = some (.int .i64 0) := blk_cell H2.out.cs.ins 3; have d5_2 : w2.cell? ⟨bx, 4, none⟩ = some (.int .i64 0) := blk_cell H2.out.cs.ins 4; have d6_2 : w2.cell? ⟨bx, 7, none⟩ = some (.slice none 0 0) := blk_cell H2.out.cs.ins 7; have df_2 : ∀ j, w2.frozen? ⟨bx, j, none⟩ = false := fun j => blk_frozen H2.out.cs.ins j; clear hd2) | (go_at_call 68; refine (num_any w0 _ g s (numR s t 1).2 2 2 rfl (by decide) (HO0.out.num 1) (H2.out).hs.ri).mono ?_; rintro e3 w3 ⟨rfl, hI3, hk3⟩; have H3 := Aside0.mk ((H2.out).rd hI3 hk3); have d0_3 : w3.cell? ⟨w.heap.size, 0, none⟩ = some (.pointer (some ⟨g, 0, none⟩)) := blk_cell H3.out.cs.dec 0; have d1_3 : w3.cell? ⟨bx, 0, none⟩ = some (.int .i64 t.1) := blk_cell H3.out.cs.ins 0; have d2_3 : w3.cell? ⟨bx, 1, none⟩ = some (.int .u8 (numR s t 1).1) := blk_cell H3.out.cs.ins 1; have d3_3 : w3.cell? ⟨bx, 2, none⟩ = some (.bool false) := blk_cell H3.out.cs.ins 2; have d4_3 : w3.cell? ⟨bx, 3, none⟩ = some (.int .i64 0) := blk_cell H3.out.cs.ins 3; have d5_3 : w3.cell? ⟨bx, 4, none⟩ = some (.int .i64 0) := blk_cell H3.out.cs.ins 4; have d6_3 : w3.cell? ⟨bx, 7, none⟩ = some (.slice none 0 0) := blk_cell H3.out.cs.ins 7; have df_3 : ∀ j, w3.frozen? ⟨bx, j, none⟩ = false := fun j => blk_frozen H3.out.cs.ins j; clear hI3 hk3) | go_in)
      have H9 := Aside0.mk (H3.out.set 3 (.int .i64 (numR s (numR s t 1).2 2).1) (⟨t.1, (numR s t 1).1, false, (numR s (numR s t 1).2 2).1, 0, 0, [], []⟩ : S82) rfl rfl rfl)
      generalize World.setCell _ ⟨bx, 3, none⟩ _ = W9 at *
      have E := Aside0.mk H9.out.oe
      have c0 : W9.cell? ⟨bx, 0, none⟩ = some (.int .i64 t.1) := blk_cell E.out.ins 0
      have r0 : W9.cell? ⟨w.heap.size + 1, 0, none⟩ = some _ := blk_cell E.out.res 0
      have c1 : W9.cell? ⟨bx, 1, none⟩ = some (.int .u8 (numR s t 1).1) := blk_cell E.out.ins 1
      have r1 : W9.cell? ⟨w.heap.size + 1, 1, none⟩ = some _ := blk_cell E.out.res 1
      have c2 : W9.cell? ⟨bx, 2, none⟩ = some (.bool false) := blk_cell E.out.ins 2
      have r2 : W9.cell? ⟨w.heap.size + 1, 2, none⟩ = some _ := blk_cell E.out.res 2
      have c3 : W9.cell? ⟨bx, 3, none⟩ = some (.int .i64 (numR s (numR s t 1).2 2).1) := blk_cell E.out.ins 3
      have r3 : W9.cell? ⟨w.heap.size + 1, 3, none⟩ = some _ := blk_cell E.out.res 3
      have c4 : W9.cell? ⟨bx, 4, none⟩ = some (.int .i64 0) := blk_cell E.out.ins 4
      have r4 : W9.cell? ⟨w.heap.size + 1, 4, none⟩ = some _ := blk_cell E.out.res 4
      have c5 : W9.cell? ⟨bx, 5, none⟩ = some (.int .i64 0) := blk_cell E.out.ins 5
      have r5 : W9.cell? ⟨w.heap.size + 1, 5, none⟩ = some _ := blk_cell E.out.res 5
      have c6 : W9.cell? ⟨bx, 6, none⟩ = some (.slice none 0 0) := blk_cell E.out.ins 6
      have r6 : W9.cell? ⟨w.heap.size + 1, 6, none⟩ = some _ := blk_cell E.out.res 6
      have c7 : W9.cell? ⟨bx, 7, none⟩ = some (.slice none 0 0) := blk_cell E.out.ins 7
      have r7 : W9.cell? ⟨w.heap.size + 1, 7, none⟩ = some _ := blk_cell E.out.res 7
      have rf : ∀ j, W9.frozen? ⟨w.heap.size + 1, j, none⟩ = false := fun j => blk_frozen E.out.res j
      have HFIN := Aside0.mk (E.out.fin HWW.out)
      go_wp2
      refine bodyPost_ret (results_cell_row rfl _ _ (w.heap.size + 1) 82 _ (0, 0) _ rfl HFIN.out.1 Try.underlying82 rfl (by kernel_rfl)) rfl ?_
      rw [HM.out]
      exact ⟨_, _, rfl, HFIN.out.2.1, HFIN.out.2.2.1, HFIN.out.2.2.2.1, E.out.ap, HFIN.out.2.2.2.2⟩
    · have HFS : Aside0 (code_form.f 3 (numR s t 1).1 = some 6) := ⟨by rw [formF_some, hf]⟩
      have HM : Aside0 (oneD s t = ((⟨t.1, (numR s t 1).1, false, (numR s (numR s t 1).2 1).1, 0, 0, [], []⟩ : S82), (numR s (numR s t 1).2 1).2)) := ⟨by unfold oneD bodyD; rw [hf, if_neg (by decide), if_neg (by decide), if_neg (by decide), if_neg (by decide), if_neg (by decide), if_neg (by decide), if_pos rfl]; rfl⟩
      clear hf
      go_upto_region 34 with (first | (go_at_call 78; refine (code_form.calls 3 _ _ _ HFS.out).mono ?_; rintro e2 w2 ⟨rfl, hd2⟩; have H2 := Aside0.mk ((H1.out).below hd2.below); have d0_2 : w2.cell? ⟨w.heap.size, 0, none⟩ = some (.pointer (some ⟨g, 0, none⟩)) := blk_cell H2.out.cs.dec 0; have d1_2 : w2.cell? ⟨bx, 0, none⟩ = some (.int .i64 t.1) := blk_cell H2.out.cs.ins 0; have d2_2 : w2.cell? ⟨bx, 1, none⟩ = some (.int .u8 (numR s t 1).1) := blk_cell H2.out.cs.ins 1; have d3_2 : w2.cell? ⟨bx, 2, none⟩ = some (.bool false) := blk_cell H2.out.cs.ins 2; have d4_2 : w2.cell? ⟨bx, 3, none⟩ = some (.int .i64 0) := blk_cell H2.out.cs.ins 3; have d5_2 : w2.cell? ⟨bx, 4, none⟩ = some (.int .i64 0) := blk_cell H2.out.cs.ins 4; have d6_2 : w2.cell? ⟨bx, 7, none⟩ = some (.slice none 0 0) := blk_cell H2.out.cs.ins 7; have df_2 : ∀ j, w2.frozen? ⟨bx, j, none⟩ = false := fun j => blk_frozen H2.out.cs.ins j; clear hd2) | (go_at_call 68; refine (num_any w0 _ g s (numR s t 1).2 1 1 rfl (by decide) (HO0.out.num 1) (H2.out).hs.ri).mono ?_; rintro e3 w3 ⟨rfl, hI3, hk3⟩; have H3 := Aside0.mk ((H2.out).rd hI3 hk3); have d0_3 : w3.cell? ⟨w.heap.size, 0, none⟩ = some (.pointer (some ⟨g, 0, none⟩)) := blk_cell H3.out.cs.dec 0; have d1_3 : w3.cell? ⟨bx, 0, none⟩ = some (.int .i64 t.1) := blk_cell H3.out.cs.ins 0; have d2_3 : w3.cell? ⟨bx, 1, none⟩ = some (.int .u8 (numR s t 1).1) := blk_cell H3.out.cs.ins 1; have d3_3 : w3.cell? ⟨bx, 2, none⟩ = some (.bool false) := blk_cell H3.out.cs.ins 2; have d4_3 : w3.cell? ⟨bx, 3, none⟩ = some (.int .i64 0) := blk_cell H3.out.cs.ins 3; have d5_3 : w3.cell? ⟨bx, 4, none⟩ = some (.int .i64 0) := blk_cell H3.out.cs.ins 4; have d6_3 : w3.cell? ⟨bx, 7, none⟩ = some (.slice none 0 0) := blk_cell H3.out.cs.ins 7; have df_3 : ∀ j, w3.frozen? ⟨bx, j, none⟩ = false := fun j => blk_frozen H3.out.cs.ins j; clear hI3 hk3) | go_in)
      have H9 := Aside0.mk (H3.out.set 3 (.int .i64 (numR s (numR s t 1).2 1).1) (⟨t.1, (numR s t 1).1, false, (numR s (numR s t 1).2 1).1, 0, 0, [], []⟩ : S82) rfl rfl rfl)
      generalize World.setCell _ ⟨bx, 3, none⟩ _ = W9 at *
      have E := Aside0.mk H9.out.oe
      have c0 : W9.cell? ⟨bx, 0, none⟩ = some (.int .i64 t.1) := blk_cell E.out.ins 0
      have r0 : W9.cell? ⟨w.heap.size + 1, 0, none⟩ = some _ := blk_cell E.out.res 0
      have c1 : W9.cell? ⟨bx, 1, none⟩ = some (.int .u8 (numR s t 1).1) := blk_cell E.out.ins 1
      have r1 : W9.cell? ⟨w.heap.size + 1, 1, none⟩ = some _ := blk_cell E.out.res 1
      have c2 : W9.cell? ⟨bx, 2, none⟩ = some (.bool false) := blk_cell E.out.ins 2
      have r2 : W9.cell? ⟨w.heap.size + 1, 2, none⟩ = some _ := blk_cell E.out.res 2
      have c3 : W9.cell? ⟨bx, 3, none⟩ = some (.int .i64 (numR s (numR s t 1).2 1).1) := blk_cell E.out.ins 3
      have r3 : W9.cell? ⟨w.heap.size + 1, 3, none⟩ = some _ := blk_cell E.out.res 3
      have c4 : W9.cell? ⟨bx, 4, none⟩ = some (.int .i64 0) := blk_cell E.out.ins 4
      have r4 : W9.cell? ⟨w.heap.size + 1, 4, none⟩ = some _ := blk_cell E.out.res 4
      have c5 : W9.cell? ⟨bx, 5, none⟩ = some (.int .i64 0) := blk_cell E.out.ins 5
      have r5 : W9.cell? ⟨w.heap.size + 1, 5, none⟩ = some _ := blk_cell E.out.res 5
      have c6 : W9.cell? ⟨bx, 6, none⟩ = some (.slice none 0 0) := blk_cell E.out.ins 6
      have r6 : W9.cell? ⟨w.heap.size + 1, 6, none⟩ = some _ := blk_cell E.out.res 6
      have c7 : W9.cell? ⟨bx, 7, none⟩ = some (.slice none 0 0) := blk_cell E.out.ins 7
      have r7 : W9.cell? ⟨w.heap.size + 1, 7, none⟩ = some _ := blk_cell E.out.res 7
      have rf : ∀ j, W9.frozen? ⟨w.heap.size + 1, j, none⟩ = false := fun j => blk_frozen E.out.res j
      have HFIN := Aside0.mk (E.out.fin HWW.out)
      go_wp2
      refine bodyPost_ret (results_cell_row rfl _ _ (w.heap.size + 1) 82 _ (0, 0) _ rfl HFIN.out.1 Try.underlying82 rfl (by kernel_rfl)) rfl ?_
      rw [HM.out]
      exact ⟨_, _, rfl, HFIN.out.2.1, HFIN.out.2.2.1, HFIN.out.2.2.2.1, E.out.ap, HFIN.out.2.2.2.2⟩
    · have HFS : Aside0 (code_form.f 3 (numR s t 1).1 = some 7) := ⟨by rw [formF_some, hf]⟩
      have HM : Aside0 (oneD s t = ((⟨t.1, (numR s t 1).1, false, (numR s (numR s t 1).2 1).1, (sgnR s (numR s (numR s t 1).2 1).2 1).1, 0, [], []⟩ : S82), (sgnR s (numR s (numR s t 1).2 1).2 1).2)) := ⟨by unfold oneD bodyD; rw [hf, if_neg (by decide), if_neg (by decide), if_neg (by decide), if_neg (by decide), if_neg (by decide), if_neg (by decide), if_neg (by decide), if_pos rfl]; rfl⟩
      clear hf
      go_upto_region 34 with (first | (go_at_call 78; refine (code_form.calls 3 _ _ _ HFS.out).mono ?_; rintro e2 w2 ⟨rfl, hd2⟩; have H2 := Aside0.mk ((H1.out).below hd2.below); have d0_2 : w2.cell? ⟨w.heap.size, 0, none⟩ = some (.pointer (some ⟨g, 0, none⟩)) := blk_cell H2.out.cs.dec 0; have d1_2 : w2.cell? ⟨bx, 0, none⟩ = some (.int .i64 t.1) := blk_cell H2.out.cs.ins 0; have d2_2 : w2.cell? ⟨bx, 1, none⟩ = some (.int .u8 (numR s t 1).1) := blk_cell H2.out.cs.ins 1; have d3_2 : w2.cell? ⟨bx, 2, none⟩ = some (.bool false) := blk_cell H2.out.cs.ins 2; have d4_2 : w2.cell? ⟨bx, 3, none⟩ = some (.int .i64 0) := blk_cell H2.out.cs.ins 3; have d5_2 : w2.cell? ⟨bx, 4, none⟩ = some (.int .i64 0) := blk_cell H2.out.cs.ins 4; have d6_2 : w2.cell? ⟨bx, 7, none⟩ = some (.slice none 0 0) := blk_cell H2.out.cs.ins 7; have df_2 : ∀ j, w2.frozen? ⟨bx, j, none⟩ = false := fun j => blk_frozen H2.out.cs.ins j; clear hd2) | (go_at_call 68; refine (num_any w0 _ g s (numR s t 1).2 1 1 rfl (by decide) (HO0.out.num 1) (H2.out).hs.ri).mono ?_; rintro e3 w3 ⟨rfl, hI3, hk3⟩; have H3 := Aside0.mk ((H2.out).rd hI3 hk3); have d0_3 : w3.cell? ⟨w.heap.size, 0, none⟩ = some (.pointer (some ⟨g, 0, none⟩)) := blk_cell H3.out.cs.dec 0; have d1_3 : w3.cell? ⟨bx, 0, none⟩ = some (.int .i64 t.1) := blk_cell H3.out.cs.ins 0; have d2_3 : w3.cell? ⟨bx, 1, none⟩ = some (.int .u8 (numR s t 1).1) := blk_cell H3.out.cs.ins 1; have d3_3 : w3.cell? ⟨bx, 2, none⟩ = some (.bool false) := blk_cell H3.out.cs.ins 2; have d4_3 : w3.cell? ⟨bx, 3, none⟩ = some (.int .i64 0) := blk_cell H3.out.cs.ins 3; have d5_3 : w3.cell? ⟨bx, 4, none⟩ = some (.int .i64 0) := blk_cell H3.out.cs.ins 4; have d6_3 : w3.cell? ⟨bx, 7, none⟩ = some (.slice none 0 0) := blk_cell H3.out.cs.ins 7; have df_3 : ∀ j, w3.frozen? ⟨bx, j, none⟩ = false := fun j => blk_frozen H3.out.cs.ins j; clear hI3 hk3) | (go_at_call 124; refine (signed_d w0 _ g s (numR s (numR s t 1).2 1).2 1 1 rfl (.inl rfl) ((HO0.out.num 1).num 1) (H3.out.set 3 (.int .i64 (numR s (numR s t 1).2 1).1) (⟨t.1, (numR s t 1).1, false, (numR s (numR s t 1).2 1).1, 0, 0, [], []⟩ : S82) rfl rfl rfl).hs.ri).mono ?_; rintro e4 w4 ⟨rfl, hI4, hk4⟩; have H4 := Aside0.mk ((H3.out.set 3 (.int .i64 (numR s (numR s t 1).2 1).1) (⟨t.1, (numR s t 1).1, false, (numR s (numR s t 1).2 1).1, 0, 0, [], []⟩ : S82) rfl rfl rfl).rd hI4 hk4); have d0_4 : w4.cell? ⟨w.heap.size, 0, none⟩ = some (.pointer (some ⟨g, 0, none⟩)) := blk_cell H4.out.cs.dec 0; have d1_4 : w4.cell? ⟨bx, 0, none⟩ = some (.int .i64 t.1) := blk_cell H4.out.cs.ins 0; have d2_4 : w4.cell? ⟨bx, 1, none⟩ = some (.int .u8 (numR s t 1).1) := blk_cell H4.out.cs.ins 1; have d3_4 : w4.cell? ⟨bx, 2, none⟩ = some (.bool false) := blk_cell H4.out.cs.ins 2; have d4_4 : w4.cell? ⟨bx, 3, none⟩ = some (.int .i64 (numR s (numR s t 1).2 1).1) := blk_cell H4.out.cs.ins 3; have d5_4 : w4.cell? ⟨bx, 4, none⟩ = some (.int .i64 0) := blk_cell H4.out.cs.ins 4; have d6_4 : w4.cell? ⟨bx, 7, none⟩ = some (.slice none 0 0) := blk_cell H4.out.cs.ins 7; have df_4 : ∀ j, w4.frozen? ⟨bx, j, none⟩ = false := fun j => blk_frozen H4.out.cs.ins j; clear hI4 hk4) | go_in)
      have H9 := Aside0.mk (H4.out.set 4 (.int .i64 (sgnR s (numR s (numR s t 1).2 1).2 1).1) (⟨t.1, (numR s t 1).1, false, (numR s (numR s t 1).2 1).1, (sgnR s (numR s (numR s t 1).2 1).2 1).1, 0, [], []⟩ : S82) rfl rfl rfl)
      generalize World.setCell _ ⟨bx, 4, none⟩ _ = W9 at *
      have E := Aside0.mk H9.out.oe
      have c0 : W9.cell? ⟨bx, 0, none⟩ = some (.int .i64 t.1) := blk_cell E.out.ins 0
      have r0 : W9.cell? ⟨w.heap.size + 1, 0, none⟩ = some _ := blk_cell E.out.res 0
      have c1 : W9.cell? ⟨bx, 1, none⟩ = some (.int .u8 (numR s t 1).1) := blk_cell E.out.ins 1
      have r1 : W9.cell? ⟨w.heap.size + 1, 1, none⟩ = some _ := blk_cell E.out.res 1
      have c2 : W9.cell? ⟨bx, 2, none⟩ = some (.bool false) := blk_cell E.out.ins 2
      have r2 : W9.cell? ⟨w.heap.size + 1, 2, none⟩ = some _ := blk_cell E.out.res 2
      have c3 : W9.cell? ⟨bx, 3, none⟩ = some (.int .i64 (numR s (numR s t 1).2 1).1) := blk_cell E.out.ins 3
      have r3 : W9.cell? ⟨w.heap.size + 1, 3, none⟩ = some _ := blk_cell E.out.res 3
      have c4 : W9.cell? ⟨bx, 4, none⟩ = some (.int .i64 (sgnR s (numR s (numR s t 1).2 1).2 1).1) := blk_cell E.out.ins 4
      have r4 : W9.cell? ⟨w.heap.size + 1, 4, none⟩ = some _ := blk_cell E.out.res 4
      have c5 : W9.cell? ⟨bx, 5, none⟩ = some (.int .i64 0) := blk_cell E.out.ins 5
      have r5 : W9.cell? ⟨w.heap.size + 1, 5, none⟩ = some _ := blk_cell E.out.res 5
      have c6 : W9.cell? ⟨bx, 6, none⟩ = some (.slice none 0 0) := blk_cell E.out.ins 6
      have r6 : W9.cell? ⟨w.heap.size + 1, 6, none⟩ = some _ := blk_cell E.out.res 6
      have c7 : W9.cell? ⟨bx, 7, none⟩ = some (.slice none 0 0) := blk_cell E.out.ins 7
      have r7 : W9.cell? ⟨w.heap.size + 1, 7, none⟩ = some _ := blk_cell E.out.res 7
      have rf : ∀ j, W9.frozen? ⟨w.heap.size + 1, j, none⟩ = false := fun j => blk_frozen E.out.res j
      have HFIN := Aside0.mk (E.out.fin HWW.out)
      go_wp2
      refine bodyPost_ret (results_cell_row rfl _ _ (w.heap.size + 1) 82 _ (0, 0) _ rfl HFIN.out.1 Try.underlying82 rfl (by kernel_rfl)) rfl ?_
      rw [HM.out]
      exact ⟨_, _, rfl, HFIN.out.2.1, HFIN.out.2.2.1, HFIN.out.2.2.2.1, E.out.ap, HFIN.out.2.2.2.2⟩
    · have HFS : Aside0 (code_form.f 3 (numR s t 1).1 = some 8) := ⟨by rw [formF_some, hf]⟩
      have HM : Aside0 (oneD s t = ((⟨t.1, (numR s t 1).1, false, 0, 0, 0, [], [wrap64 (t.1 + (sgnR s (numR s t 1).2 2).1)]⟩ : S82), (sgnR s (numR s t 1).2 2).2)) := ⟨by unfold oneD bodyD; rw [hf, if_neg (by decide), if_neg (by decide), if_neg (by decide), if_neg (by decide), if_neg (by decide), if_neg (by decide), if_neg (by decide), if_neg (by decide), if_pos rfl]; rfl⟩
      clear hf
      go_upto_region 31 with (first | (go_at_call 78; refine (code_form.calls 3 _ _ _ HFS.out).mono ?_; rintro e2 w2 ⟨rfl, hd2⟩; have H2 := Aside0.mk ((H1.out).below hd2.below); have d0_2 : w2.cell? ⟨w.heap.size, 0, none⟩ = some (.pointer (some ⟨g, 0, none⟩)) := blk_cell H2.out.cs.dec 0; have d1_2 : w2.cell? ⟨bx, 0, none⟩ = some (.int .i64 t.1) := blk_cell H2.out.cs.ins 0; have d2_2 : w2.cell? ⟨bx, 1, none⟩ = some (.int .u8 (numR s t 1).1) := blk_cell H2.out.cs.ins 1; have d3_2 : w2.cell? ⟨bx, 2, none⟩ = some (.bool false) := blk_cell H2.out.cs.ins 2; have d4_2 : w2.cell? ⟨bx, 3, none⟩ = some (.int .i64 0) := blk_cell H2.out.cs.ins 3; have d5_2 : w2.cell? ⟨bx, 4, none⟩ = some (.int .i64 0) := blk_cell H2.out.cs.ins 4; have d6_2 : w2.cell? ⟨bx, 7, none⟩ = some (.slice none 0 0) := blk_cell H2.out.cs.ins 7; have df_2 : ∀ j, w2.frozen? ⟨bx, j, none⟩ = false := fun j => blk_frozen H2.out.cs.ins j; clear hd2) | go_in)
      have HD := Aside0.mk H2.out.drew
      refine start_ (n := 8) (S := fun w' => w'.cell? ⟨bx, 0, none⟩ = some (.int .i64 t.1) ∧ w'.cell? ⟨w.heap.size, 0, none⟩ = some (.pointer (some ⟨g, 0, none⟩))) (ds := [7]) #[false, false, false, false, false, false, false, false] (by kernel_rfl) rfl rfl ⟨(blk_cell (HD.out).cs.ins 0), (blk_cell (HD.out).cs.dec 0)⟩ (fun hHeld => ?_)
      refine pure_ (i := 0) (N := some 95) (v := ?_) (a' := ?_) #[true, false, false, false, false, false, false, false] rfl rfl (by kernel_rfl) (fun _ _ _ h => h) (Or.inl ⟨by rfl, ?_⟩) ?_ ?_
      rotate_left
      · intro w'
        go_simp
        with_reducible rfl
      rotate_left
      · simp only [Act.put, List.setIfInBounds_toArray, List.set_cons_zero, List.set_cons_succ, i64_w, i32_w]
        rfl
      refine take_ (i := 1) (N := some 96) (v := ?_) (a' := ?_) #[true, true, false, false, false, false, false, false] rfl rfl (by kernel_rfl) (fun _ _ _ h => h) (Or.inl ⟨by rfl, ?_⟩) hHeld ?_ ?_
      rotate_left
      · rintro w' ⟨s0, s1⟩
        go_simp
        with_reducible rfl
      rotate_left
      · simp only [Act.put, List.setIfInBounds_toArray, List.set_cons_zero, List.set_cons_succ, i64_w, i32_w]
        rfl
      refine take_ (i := 2) (N := some 97) (v := ?_) (a' := ?_) #[true, true, true, false, false, false, false, false] rfl rfl (by kernel_rfl) (fun _ _ _ h => h) (Or.inl ⟨by rfl, ?_⟩) hHeld ?_ ?_
      rotate_left
      · rintro w' ⟨s0, s1⟩
        go_simp
        with_reducible rfl
      rotate_left
      · simp only [Act.put, List.setIfInBounds_toArray, List.set_cons_zero, List.set_cons_succ, i64_w, i32_w]
        rfl
      refine one_ (i := 3) (N := some 98) #[true, true, true, true, false, false, false, false] rfl rfl (by kernel_rfl) (by decide) (fun K hK => ?_)
      refine goes_ Try.func124 (by kernel_rfl) rfl #[.agg #[.pointer (some ⟨g, 0, none⟩)], .int .i64 2] (by rfl) rfl rfl (by simp only [List.map_toArray, List.map_cons, List.map_nil]; rfl) ?_
      with_reducible refine (signed_d w0 _ g s (numR s t 1).2 2 2 rfl (.inr (.inl rfl)) (HO0.out.num 1) HD.out.hs.ri).mono ?_
      rintro e3 w3 ⟨rfl, hI3, hk3⟩
      refine ⟨_, rfl, ?_⟩
      have HQ := Aside0.mk (HD.out.rd hI3 hk3)
      clear hI3 hk3
      refine hK.out _ _ ⟨(blk_cell (HQ.out).cs.ins 0), (blk_cell (HQ.out).cs.dec 0)⟩ (fun hHeld => ?_)
      clear hK K
      refine norm_ (a' := ?_) ?_ ?_
      rotate_left
      · show Act.put _ (some 98) _ = _
        simp only [Act.put, List.setIfInBounds_toArray, List.set_cons_zero, List.set_cons_succ, i64_w, i32_w]
        rfl
      refine pure_ (i := 4) (N := some 99) (v := ?_) (a' := ?_) #[true, true, true, true, true, false, false, false] rfl rfl (by kernel_rfl) (fun _ _ _ h => h) (Or.inl ⟨by rfl, ?_⟩) ?_ ?_
      rotate_left
      · intro w'
        go_simp
        with_reducible rfl
      rotate_left
      · simp only [Act.put, List.setIfInBounds_toArray, List.set_cons_zero, List.set_cons_succ, i64_w, i32_w]
        rfl
      refine one_ (i := 5) (N := some 100) #[true, true, true, true, true, true, false, false] rfl rfl (by kernel_rfl) (by decide) (fun K hK => ?_)
      refine value_ (w1 := ?_) (v := ?_) (by rfl) rfl ?_ ?_
      rotate_left 2
      · go_simp
        constructor
        · rfl
        · rfl
      refine hK.out _ _ ⟨(pw_cell_below (below_alloc (Below.refl _ _) _) (blk_cell (HQ.out).cs.ins 0)), (pw_cell_below (below_alloc (Below.refl _ _) _) (blk_cell (HQ.out).cs.dec 0))⟩ (fun hHeld => ?_)
      clear hK K
      refine norm_ (a' := ?_) ?_ ?_
      rotate_left
      · show Act.put _ (some 100) _ = _
        simp only [Act.put, List.setIfInBounds_toArray, List.set_cons_zero, List.set_cons_succ, i64_w, i32_w]
        rfl
      refine pure_ (i := 6) (N := some 101) (v := ?_) (a' := ?_) #[true, true, true, true, true, true, true, false] rfl rfl (by kernel_rfl) (fun _ _ _ h => h) (Or.inl ⟨by rfl, ?_⟩) ?_ ?_
      rotate_left
      · intro w'
        go_simp
        with_reducible rfl
      rotate_left
      · simp only [Act.put, List.setIfInBounds_toArray, List.set_cons_zero, List.set_cons_succ, i64_w, i32_w]
        rfl
      refine last_ (i := 7) (N := none) #[true, true, true, true, true, true, true, true] rfl rfl (by kernel_rfl) (by decide) (fun K hK => ?_)
      have ca7 := fun o => (pw_cell_below (below_alloc (Below.refl w3.heap.size w3) o) (blk_cell HQ.out.cs.ins 7) : (w3.alloc o).cell? ⟨bx, 7, none⟩ = some (.slice none 0 0))
      have cf7 := fun o => blk_frozen (HQ.out.below (below_alloc (Below.refl w3.heap.size w3) o)).cs.ins 7
      refine skip_ (w1 := ?_) (by rfl) rfl ?_ ?_
      rotate_left
      · go_simp
        rfl
      refine hK.out _ _ ?_
      clear hK K
      refine done_ (by kernel_rfl) ?_
      have H9 := Aside0.mk (HQ.out.put7 (y := wrap64 (t.1 + (sgnR s (numR s t 1).2 2).1)) HWW.out)
      clear ca7 cf7
      try clear hHeld
      generalize World.setCell _ ⟨bx, 7, none⟩ _ = W9 at *
      have E := Aside0.mk H9.out.oe
      have c0 : W9.cell? ⟨bx, 0, none⟩ = some (.int .i64 t.1) := blk_cell E.out.ins 0
      have r0 : W9.cell? ⟨w.heap.size + 1, 0, none⟩ = some _ := blk_cell E.out.res 0
      have c1 : W9.cell? ⟨bx, 1, none⟩ = some (.int .u8 (numR s t 1).1) := blk_cell E.out.ins 1
      have r1 : W9.cell? ⟨w.heap.size + 1, 1, none⟩ = some _ := blk_cell E.out.res 1
      have c2 : W9.cell? ⟨bx, 2, none⟩ = some (.bool false) := blk_cell E.out.ins 2
      have r2 : W9.cell? ⟨w.heap.size + 1, 2, none⟩ = some _ := blk_cell E.out.res 2
      have c3 : W9.cell? ⟨bx, 3, none⟩ = some (.int .i64 0) := blk_cell E.out.ins 3
      have r3 : W9.cell? ⟨w.heap.size + 1, 3, none⟩ = some _ := blk_cell E.out.res 3
      have c4 : W9.cell? ⟨bx, 4, none⟩ = some (.int .i64 0) := blk_cell E.out.ins 4
      have r4 : W9.cell? ⟨w.heap.size + 1, 4, none⟩ = some _ := blk_cell E.out.res 4
      have c5 : W9.cell? ⟨bx, 5, none⟩ = some (.int .i64 0) := blk_cell E.out.ins 5
      have r5 : W9.cell? ⟨w.heap.size + 1, 5, none⟩ = some _ := blk_cell E.out.res 5
      have c6 : W9.cell? ⟨bx, 6, none⟩ = some (.slice none 0 0) := blk_cell E.out.ins 6
      have r6 : W9.cell? ⟨w.heap.size + 1, 6, none⟩ = some _ := blk_cell E.out.res 6
      have c7 : W9.cell? ⟨bx, 7, none⟩ = some (.slice (some ⟨w3.heap.size, 0, none⟩) 1 1) := blk_cell E.out.ins 7
      have r7 : W9.cell? ⟨w.heap.size + 1, 7, none⟩ = some _ := blk_cell E.out.res 7
      have rf : ∀ j, W9.frozen? ⟨w.heap.size + 1, j, none⟩ = false := fun j => blk_frozen E.out.res j
      have HFIN := Aside0.mk (E.out.fin HWW.out)
      go_wp2
      refine bodyPost_ret (results_cell_row rfl _ _ (w.heap.size + 1) 82 _ (0, 0) _ rfl HFIN.out.1 Try.underlying82 rfl (by kernel_rfl)) rfl ?_
      rw [HM.out]
      exact ⟨_, _, rfl, HFIN.out.2.1, HFIN.out.2.2.1, HFIN.out.2.2.2.1, E.out.ap, HFIN.out.2.2.2.2⟩
    · have HFS : Aside0 (code_form.f 3 (numR s t 1).1 = some 9) := ⟨by rw [formF_some, hf]⟩
      have HM : Aside0 (oneD s t = ((⟨t.1, (numR s t 1).1, false, 0, 0, 0, [], [wrap64 (t.1 + (sgnR s (numR s t 1).2 4).1)]⟩ : S82), (sgnR s (numR s t 1).2 4).2)) := ⟨by unfold oneD bodyD; rw [hf, if_neg (by decide), if_neg (by decide), if_neg (by decide), if_neg (by decide), if_neg (by decide), if_neg (by decide), if_neg (by decide), if_neg (by decide), if_neg (by decide), if_pos rfl]; rfl⟩
      clear hf
      go_upto_region 33 with (first | (go_at_call 78; refine (code_form.calls 3 _ _ _ HFS.out).mono ?_; rintro e2 w2 ⟨rfl, hd2⟩; have H2 := Aside0.mk ((H1.out).below hd2.below); have d0_2 : w2.cell? ⟨w.heap.size, 0, none⟩ = some (.pointer (some ⟨g, 0, none⟩)) := blk_cell H2.out.cs.dec 0; have d1_2 : w2.cell? ⟨bx, 0, none⟩ = some (.int .i64 t.1) := blk_cell H2.out.cs.ins 0; have d2_2 : w2.cell? ⟨bx, 1, none⟩ = some (.int .u8 (numR s t 1).1) := blk_cell H2.out.cs.ins 1; have d3_2 : w2.cell? ⟨bx, 2, none⟩ = some (.bool false) := blk_cell H2.out.cs.ins 2; have d4_2 : w2.cell? ⟨bx, 3, none⟩ = some (.int .i64 0) := blk_cell H2.out.cs.ins 3; have d5_2 : w2.cell? ⟨bx, 4, none⟩ = some (.int .i64 0) := blk_cell H2.out.cs.ins 4; have d6_2 : w2.cell? ⟨bx, 7, none⟩ = some (.slice none 0 0) := blk_cell H2.out.cs.ins 7; have df_2 : ∀ j, w2.frozen? ⟨bx, j, none⟩ = false := fun j => blk_frozen H2.out.cs.ins j; clear hd2) | go_in)
      have HD := Aside0.mk H2.out.drew
      refine start_ (n := 8) (S := fun w' => w'.cell? ⟨bx, 0, none⟩ = some (.int .i64 t.1) ∧ w'.cell? ⟨w.heap.size, 0, none⟩ = some (.pointer (some ⟨g, 0, none⟩))) (ds := [7]) #[false, false, false, false, false, false, false, false] (by kernel_rfl) rfl rfl ⟨(blk_cell (HD.out).cs.ins 0), (blk_cell (HD.out).cs.dec 0)⟩ (fun hHeld => ?_)
      refine pure_ (i := 0) (N := some 104) (v := ?_) (a' := ?_) #[true, false, false, false, false, false, false, false] rfl rfl (by kernel_rfl) (fun _ _ _ h => h) (Or.inl ⟨by rfl, ?_⟩) ?_ ?_
      rotate_left
      · intro w'
        go_simp
        with_reducible rfl
      rotate_left
      · simp only [Act.put, List.setIfInBounds_toArray, List.set_cons_zero, List.set_cons_succ, i64_w, i32_w]
        rfl
      refine take_ (i := 1) (N := some 105) (v := ?_) (a' := ?_) #[true, true, false, false, false, false, false, false] rfl rfl (by kernel_rfl) (fun _ _ _ h => h) (Or.inl ⟨by rfl, ?_⟩) hHeld ?_ ?_
      rotate_left
      · rintro w' ⟨s0, s1⟩
        go_simp
        with_reducible rfl
      rotate_left
      · simp only [Act.put, List.setIfInBounds_toArray, List.set_cons_zero, List.set_cons_succ, i64_w, i32_w]
        rfl
      refine take_ (i := 2) (N := some 106) (v := ?_) (a' := ?_) #[true, true, true, false, false, false, false, false] rfl rfl (by kernel_rfl) (fun _ _ _ h => h) (Or.inl ⟨by rfl, ?_⟩) hHeld ?_ ?_
      rotate_left
      · rintro w' ⟨s0, s1⟩
        go_simp
        with_reducible rfl
      rotate_left
      · simp only [Act.put, List.setIfInBounds_toArray, List.set_cons_zero, List.set_cons_succ, i64_w, i32_w]
        rfl
      refine one_ (i := 3) (N := some 107) #[true, true, true, true, false, false, false, false] rfl rfl (by kernel_rfl) (by decide) (fun K hK => ?_)
      refine goes_ Try.func124 (by kernel_rfl) rfl #[.agg #[.pointer (some ⟨g, 0, none⟩)], .int .i64 4] (by rfl) rfl rfl (by simp only [List.map_toArray, List.map_cons, List.map_nil]; rfl) ?_
      with_reducible refine (signed_d w0 _ g s (numR s t 1).2 4 4 rfl (.inr (.inr rfl)) (HO0.out.num 1) HD.out.hs.ri).mono ?_
      rintro e3 w3 ⟨rfl, hI3, hk3⟩
      refine ⟨_, rfl, ?_⟩
      have HQ := Aside0.mk (HD.out.rd hI3 hk3)
      clear hI3 hk3
      refine hK.out _ _ ⟨(blk_cell (HQ.out).cs.ins 0), (blk_cell (HQ.out).cs.dec 0)⟩ (fun hHeld => ?_)
      clear hK K
      refine norm_ (a' := ?_) ?_ ?_
      rotate_left
      · show Act.put _ (some 107) _ = _
        simp only [Act.put, List.setIfInBounds_toArray, List.set_cons_zero, List.set_cons_succ, i64_w, i32_w]
        rfl
      refine pure_ (i := 4) (N := some 108) (v := ?_) (a' := ?_) #[true, true, true, true, true, false, false, false] rfl rfl (by kernel_rfl) (fun _ _ _ h => h) (Or.inl ⟨by rfl, ?_⟩) ?_ ?_
      rotate_left
      · intro w'
        go_simp
        with_reducible rfl
      rotate_left
      · simp only [Act.put, List.setIfInBounds_toArray, List.set_cons_zero, List.set_cons_succ, i64_w, i32_w]
        rfl
      refine one_ (i := 5) (N := some 109) #[true, true, true, true, true, true, false, false] rfl rfl (by kernel_rfl) (by decide) (fun K hK => ?_)
      refine value_ (w1 := ?_) (v := ?_) (by rfl) rfl ?_ ?_
      rotate_left 2
      · go_simp
        constructor
        · rfl
        · rfl
      refine hK.out _ _ ⟨(pw_cell_below (below_alloc (Below.refl _ _) _) (blk_cell (HQ.out).cs.ins 0)), (pw_cell_below (below_alloc (Below.refl _ _) _) (blk_cell (HQ.out).cs.dec 0))⟩ (fun hHeld => ?_)
      clear hK K
      refine norm_ (a' := ?_) ?_ ?_
      rotate_left
      · show Act.put _ (some 109) _ = _
        simp only [Act.put, List.setIfInBounds_toArray, List.set_cons_zero, List.set_cons_succ, i64_w, i32_w]
        rfl
      refine pure_ (i := 6) (N := some 110) (v := ?_) (a' := ?_) #[true, true, true, true, true, true, true, false] rfl rfl (by kernel_rfl) (fun _ _ _ h => h) (Or.inl ⟨by rfl, ?_⟩) ?_ ?_
      rotate_left
      · intro w'
        go_simp
        with_reducible rfl
      rotate_left
      · simp only [Act.put, List.setIfInBounds_toArray, List.set_cons_zero, List.set_cons_succ, i64_w, i32_w]
        rfl
      refine last_ (i := 7) (N := none) #[true, true, true, true, true, true, true, true] rfl rfl (by kernel_rfl) (by decide) (fun K hK => ?_)
      have ca7 := fun o => (pw_cell_below (below_alloc (Below.refl w3.heap.size w3) o) (blk_cell HQ.out.cs.ins 7) : (w3.alloc o).cell? ⟨bx, 7, none⟩ = some (.slice none 0 0))
      have cf7 := fun o => blk_frozen (HQ.out.below (below_alloc (Below.refl w3.heap.size w3) o)).cs.ins 7
      refine skip_ (w1 := ?_) (by rfl) rfl ?_ ?_
      rotate_left
      · go_simp
        rfl
      refine hK.out _ _ ?_
      clear hK K
      refine done_ (by kernel_rfl) ?_
      have H9 := Aside0.mk (HQ.out.put7 (y := wrap64 (t.1 + (sgnR s (numR s t 1).2 4).1)) HWW.out)
      clear ca7 cf7
      try clear hHeld
      generalize World.setCell _ ⟨bx, 7, none⟩ _ = W9 at *
      have E := Aside0.mk H9.out.oe
      have c0 : W9.cell? ⟨bx, 0, none⟩ = some (.int .i64 t.1) := blk_cell E.out.ins 0
      have r0 : W9.cell? ⟨w.heap.size + 1, 0, none⟩ = some _ := blk_cell E.out.res 0
      have c1 : W9.cell? ⟨bx, 1, none⟩ = some (.int .u8 (numR s t 1).1) := blk_cell E.out.ins 1
      have r1 : W9.cell? ⟨w.heap.size + 1, 1, none⟩ = some _ := blk_cell E.out.res 1
      have c2 : W9.cell? ⟨bx, 2, none⟩ = some (.bool false) := blk_cell E.out.ins 2
      have r2 : W9.cell? ⟨w.heap.size + 1, 2, none⟩ = some _ := blk_cell E.out.res 2
      have c3 : W9.cell? ⟨bx, 3, none⟩ = some (.int .i64 0) := blk_cell E.out.ins 3
      have r3 : W9.cell? ⟨w.heap.size + 1, 3, none⟩ = some _ := blk_cell E.out.res 3
      have c4 : W9.cell? ⟨bx, 4, none⟩ = some (.int .i64 0) := blk_cell E.out.ins 4
      have r4 : W9.cell? ⟨w.heap.size + 1, 4, none⟩ = some _ := blk_cell E.out.res 4
      have c5 : W9.cell? ⟨bx, 5, none⟩ = some (.int .i64 0) := blk_cell E.out.ins 5
      have r5 : W9.cell? ⟨w.heap.size + 1, 5, none⟩ = some _ := blk_cell E.out.res 5
      have c6 : W9.cell? ⟨bx, 6, none⟩ = some (.slice none 0 0) := blk_cell E.out.ins 6
      have r6 : W9.cell? ⟨w.heap.size + 1, 6, none⟩ = some _ := blk_cell E.out.res 6
      have c7 : W9.cell? ⟨bx, 7, none⟩ = some (.slice (some ⟨w3.heap.size, 0, none⟩) 1 1) := blk_cell E.out.ins 7
      have r7 : W9.cell? ⟨w.heap.size + 1, 7, none⟩ = some _ := blk_cell E.out.res 7
      have rf : ∀ j, W9.frozen? ⟨w.heap.size + 1, j, none⟩ = false := fun j => blk_frozen E.out.res j
      have HFIN := Aside0.mk (E.out.fin HWW.out)
      go_wp2
      refine bodyPost_ret (results_cell_row rfl _ _ (w.heap.size + 1) 82 _ (0, 0) _ rfl HFIN.out.1 Try.underlying82 rfl (by kernel_rfl)) rfl ?_
      rw [HM.out]
      exact ⟨_, _, rfl, HFIN.out.2.1, HFIN.out.2.2.1, HFIN.out.2.2.2.1, E.out.ap, HFIN.out.2.2.2.2⟩
    · have HFS : Aside0 (code_form.f 3 (numR s t 1).1 = some 10) := ⟨by rw [formF_some, hf]⟩
      have HM : Aside0 (oneD s t = moreD s (⟨t.1, (numR s t 1).1, false, 0, 0, 0, [], []⟩ : S82) 10 (numR s t 1).2) := ⟨by unfold oneD bodyD; rw [hf, if_neg (by decide), if_neg (by decide), if_neg (by decide), if_neg (by decide), if_neg (by decide), if_neg (by decide), if_neg (by decide), if_neg (by decide), if_neg (by decide), if_neg (by decide)]; rfl⟩
      clear hf
      go_upto_region 34 with (first | (go_at_call 78; refine (code_form.calls 3 _ _ _ HFS.out).mono ?_; rintro e2 w2 ⟨rfl, hd2⟩; have H2 := Aside0.mk ((H1.out).below hd2.below); have d0_2 : w2.cell? ⟨w.heap.size, 0, none⟩ = some (.pointer (some ⟨g, 0, none⟩)) := blk_cell H2.out.cs.dec 0; have d1_2 : w2.cell? ⟨bx, 0, none⟩ = some (.int .i64 t.1) := blk_cell H2.out.cs.ins 0; have d2_2 : w2.cell? ⟨bx, 1, none⟩ = some (.int .u8 (numR s t 1).1) := blk_cell H2.out.cs.ins 1; have d3_2 : w2.cell? ⟨bx, 2, none⟩ = some (.bool false) := blk_cell H2.out.cs.ins 2; have d4_2 : w2.cell? ⟨bx, 3, none⟩ = some (.int .i64 0) := blk_cell H2.out.cs.ins 3; have d5_2 : w2.cell? ⟨bx, 4, none⟩ = some (.int .i64 0) := blk_cell H2.out.cs.ins 4; have d6_2 : w2.cell? ⟨bx, 7, none⟩ = some (.slice none 0 0) := blk_cell H2.out.cs.ins 7; have df_2 : ∀ j, w2.frozen? ⟨bx, j, none⟩ = false := fun j => blk_frozen H2.out.cs.ins j; clear hd2) | (go_at_call 125; refine (more_d10 w0 _ g s (numR s t 1).2 bx (⟨t.1, (numR s t 1).1, false, 0, 0, 0, [], []⟩ : S82) (HO0.out.num 1) H2.out.hs.ri H2.out.cs.ins rfl rfl H2.out.cs.new).mono ?_; rintro e3 w3 ⟨rfl, v6, v7, h3⟩; have E := Aside0.mk (H2.out.more h3); clear h3) | go_in)
      generalize moreD s (⟨t.1, (numR s t 1).1, false, 0, 0, 0, [], []⟩ : S82) 10 (numR s t 1).2 = p at *
      obtain ⟨u6, k6, e6⟩ := Kd.R_slice E.out.r6
      subst e6
      obtain ⟨u7, k7, e7⟩ := Kd.R_slice E.out.r7
      subst e7
      have c0 : w3.cell? ⟨bx, 0, none⟩ = some (.int .i64 p.1.f0) := blk_cell E.out.ins 0
      have r0 : w3.cell? ⟨w.heap.size + 1, 0, none⟩ = some _ := blk_cell E.out.res 0
      have c1 : w3.cell? ⟨bx, 1, none⟩ = some (.int .u8 p.1.f1) := blk_cell E.out.ins 1
      have r1 : w3.cell? ⟨w.heap.size + 1, 1, none⟩ = some _ := blk_cell E.out.res 1
      have c2 : w3.cell? ⟨bx, 2, none⟩ = some (.bool p.1.f2) := blk_cell E.out.ins 2
      have r2 : w3.cell? ⟨w.heap.size + 1, 2, none⟩ = some _ := blk_cell E.out.res 2
      have c3 : w3.cell? ⟨bx, 3, none⟩ = some (.int .i64 p.1.f3) := blk_cell E.out.ins 3
      have r3 : w3.cell? ⟨w.heap.size + 1, 3, none⟩ = some _ := blk_cell E.out.res 3
      have c4 : w3.cell? ⟨bx, 4, none⟩ = some (.int .i64 p.1.f4) := blk_cell E.out.ins 4
      have r4 : w3.cell? ⟨w.heap.size + 1, 4, none⟩ = some _ := blk_cell E.out.res 4
      have c5 : w3.cell? ⟨bx, 5, none⟩ = some (.int .i64 p.1.f5) := blk_cell E.out.ins 5
      have r5 : w3.cell? ⟨w.heap.size + 1, 5, none⟩ = some _ := blk_cell E.out.res 5
      have c6 : w3.cell? ⟨bx, 6, none⟩ = some (.slice u6 p.1.f6.length k6) := blk_cell E.out.ins 6
      have r6 : w3.cell? ⟨w.heap.size + 1, 6, none⟩ = some _ := blk_cell E.out.res 6
      have c7 : w3.cell? ⟨bx, 7, none⟩ = some (.slice u7 p.1.f7.length k7) := blk_cell E.out.ins 7
      have r7 : w3.cell? ⟨w.heap.size + 1, 7, none⟩ = some _ := blk_cell E.out.res 7
      have rf : ∀ j, w3.frozen? ⟨w.heap.size + 1, j, none⟩ = false := fun j => blk_frozen E.out.res j
      have HFIN := Aside0.mk (E.out.fin HWW.out)
      go_wp2
      refine bodyPost_ret (results_cell_row rfl _ _ (w.heap.size + 1) 82 _ (0, 0) _ rfl HFIN.out.1 Try.underlying82 rfl (by kernel_rfl)) rfl ?_
      rw [HM.out]
      exact ⟨_, _, rfl, HFIN.out.2.1, HFIN.out.2.2.1, HFIN.out.2.2.2.1, E.out.ap, HFIN.out.2.2.2.2⟩
    · have HFS : Aside0 (code_form.f 3 (numR s t 1).1 = some 11) := ⟨by rw [formF_some, hf]⟩
      have HM : Aside0 (oneD s t = moreD s (⟨t.1, (numR s t 1).1, false, 0, 0, 0, [], []⟩ : S82) 11 (numR s t 1).2) := ⟨by unfold oneD bodyD; rw [hf, if_neg (by decide), if_neg (by decide), if_neg (by decide), if_neg (by decide), if_neg (by decide), if_neg (by decide), if_neg (by decide), if_neg (by decide), if_neg (by decide), if_neg (by decide)]; rfl⟩
      clear hf
      go_upto_region 34 with (first | (go_at_call 78; refine (code_form.calls 3 _ _ _ HFS.out).mono ?_; rintro e2 w2 ⟨rfl, hd2⟩; have H2 := Aside0.mk ((H1.out).below hd2.below); have d0_2 : w2.cell? ⟨w.heap.size, 0, none⟩ = some (.pointer (some ⟨g, 0, none⟩)) := blk_cell H2.out.cs.dec 0; have d1_2 : w2.cell? ⟨bx, 0, none⟩ = some (.int .i64 t.1) := blk_cell H2.out.cs.ins 0; have d2_2 : w2.cell? ⟨bx, 1, none⟩ = some (.int .u8 (numR s t 1).1) := blk_cell H2.out.cs.ins 1; have d3_2 : w2.cell? ⟨bx, 2, none⟩ = some (.bool false) := blk_cell H2.out.cs.ins 2; have d4_2 : w2.cell? ⟨bx, 3, none⟩ = some (.int .i64 0) := blk_cell H2.out.cs.ins 3; have d5_2 : w2.cell? ⟨bx, 4, none⟩ = some (.int .i64 0) := blk_cell H2.out.cs.ins 4; have d6_2 : w2.cell? ⟨bx, 7, none⟩ = some (.slice none 0 0) := blk_cell H2.out.cs.ins 7; have df_2 : ∀ j, w2.frozen? ⟨bx, j, none⟩ = false := fun j => blk_frozen H2.out.cs.ins j; clear hd2) | (go_at_call 125; refine (more_d11 w0 _ g s (numR s t 1).2 bx (⟨t.1, (numR s t 1).1, false, 0, 0, 0, [], []⟩ : S82) (HO0.out.num 1) H2.out.hs.ri H2.out.cs.ins rfl rfl H2.out.cs.new).mono ?_; rintro e3 w3 ⟨rfl, v6, v7, h3⟩; have E := Aside0.mk (H2.out.more h3); clear h3) | go_in)
      generalize moreD s (⟨t.1, (numR s t 1).1, false, 0, 0, 0, [], []⟩ : S82) 11 (numR s t 1).2 = p at *
      obtain ⟨u6, k6, e6⟩ := Kd.R_slice E.out.r6
      subst e6
      obtain ⟨u7, k7, e7⟩ := Kd.R_slice E.out.r7
      subst e7
      have c0 : w3.cell? ⟨bx, 0, none⟩ = some (.int .i64 p.1.f0) := blk_cell E.out.ins 0
      have r0 : w3.cell? ⟨w.heap.size + 1, 0, none⟩ = some _ := blk_cell E.out.res 0
      have c1 : w3.cell? ⟨bx, 1, none⟩ = some (.int .u8 p.1.f1) := blk_cell E.out.ins 1
      have r1 : w3.cell? ⟨w.heap.size + 1, 1, none⟩ = some _ := blk_cell E.out.res 1
      have c2 : w3.cell? ⟨bx, 2, none⟩ = some (.bool p.1.f2) := blk_cell E.out.ins 2
      have r2 : w3.cell? ⟨w.heap.size + 1, 2, none⟩ = some _ := blk_cell E.out.res 2
      have c3 : w3.cell? ⟨bx, 3, none⟩ = some (.int .i64 p.1.f3) := blk_cell E.out.ins 3
      have r3 : w3.cell? ⟨w.heap.size + 1, 3, none⟩ = some _ := blk_cell E.out.res 3
      have c4 : w3.cell? ⟨bx, 4, none⟩ = some (.int .i64 p.1.f4) := blk_cell E.out.ins 4
      have r4 : w3.cell? ⟨w.heap.size + 1, 4, none⟩ = some _ := blk_cell E.out.res 4
      have c5 : w3.cell? ⟨bx, 5, none⟩ = some (.int .i64 p.1.f5) := blk_cell E.out.ins 5
      have r5 : w3.cell? ⟨w.heap.size + 1, 5, none⟩ = some _ := blk_cell E.out.res 5
      have c6 : w3.cell? ⟨bx, 6, none⟩ = some (.slice u6 p.1.f6.length k6) := blk_cell E.out.ins 6
      have r6 : w3.cell? ⟨w.heap.size + 1, 6, none⟩ = some _ := blk_cell E.out.res 6
      have c7 : w3.cell? ⟨bx, 7, none⟩ = some (.slice u7 p.1.f7.length k7) := blk_cell E.out.ins 7
      have r7 : w3.cell? ⟨w.heap.size + 1, 7, none⟩ = some _ := blk_cell E.out.res 7
      have rf : ∀ j, w3.frozen? ⟨w.heap.size + 1, j, none⟩ = false := fun j => blk_frozen E.out.res j
      have HFIN := Aside0.mk (E.out.fin HWW.out)
      go_wp2
      refine bodyPost_ret (results_cell_row rfl _ _ (w.heap.size + 1) 82 _ (0, 0) _ rfl HFIN.out.1 Try.underlying82 rfl (by kernel_rfl)) rfl ?_
      rw [HM.out]
      exact ⟨_, _, rfl, HFIN.out.2.1, HFIN.out.2.2.1, HFIN.out.2.2.2.1, E.out.ap, HFIN.out.2.2.2.2⟩
    · have HFS : Aside0 (code_form.f 3 (numR s t 1).1 = some 12) := ⟨by rw [formF_some, hf]⟩
      have HM : Aside0 (oneD s t = moreD s (⟨t.1, (numR s t 1).1, false, 0, 0, 0, [], []⟩ : S82) 12 (numR s t 1).2) := ⟨by unfold oneD bodyD; rw [hf, if_neg (by decide), if_neg (by decide), if_neg (by decide), if_neg (by decide), if_neg (by decide), if_neg (by decide), if_neg (by decide), if_neg (by decide), if_neg (by decide), if_neg (by decide)]; rfl⟩
      clear hf
      go_upto_region 34 with (first | (go_at_call 78; refine (code_form.calls 3 _ _ _ HFS.out).mono ?_; rintro e2 w2 ⟨rfl, hd2⟩; have H2 := Aside0.mk ((H1.out).below hd2.below); have d0_2 : w2.cell? ⟨w.heap.size, 0, none⟩ = some (.pointer (some ⟨g, 0, none⟩)) := blk_cell H2.out.cs.dec 0; have d1_2 : w2.cell? ⟨bx, 0, none⟩ = some (.int .i64 t.1) := blk_cell H2.out.cs.ins 0; have d2_2 : w2.cell? ⟨bx, 1, none⟩ = some (.int .u8 (numR s t 1).1) := blk_cell H2.out.cs.ins 1; have d3_2 : w2.cell? ⟨bx, 2, none⟩ = some (.bool false) := blk_cell H2.out.cs.ins 2; have d4_2 : w2.cell? ⟨bx, 3, none⟩ = some (.int .i64 0) := blk_cell H2.out.cs.ins 3; have d5_2 : w2.cell? ⟨bx, 4, none⟩ = some (.int .i64 0) := blk_cell H2.out.cs.ins 4; have d6_2 : w2.cell? ⟨bx, 7, none⟩ = some (.slice none 0 0) := blk_cell H2.out.cs.ins 7; have df_2 : ∀ j, w2.frozen? ⟨bx, j, none⟩ = false := fun j => blk_frozen H2.out.cs.ins j; clear hd2) | (go_at_call 125; refine (more_d12 w0 _ g s (numR s t 1).2 bx (⟨t.1, (numR s t 1).1, false, 0, 0, 0, [], []⟩ : S82) (HO0.out.num 1) H2.out.hs.ri H2.out.cs.ins rfl rfl H2.out.cs.new).mono ?_; rintro e3 w3 ⟨rfl, v6, v7, h3⟩; have E := Aside0.mk (H2.out.more h3); clear h3) | go_in)
      generalize moreD s (⟨t.1, (numR s t 1).1, false, 0, 0, 0, [], []⟩ : S82) 12 (numR s t 1).2 = p at *
      obtain ⟨u6, k6, e6⟩ := Kd.R_slice E.out.r6
      subst e6
      obtain ⟨u7, k7, e7⟩ := Kd.R_slice E.out.r7
      subst e7
      have c0 : w3.cell? ⟨bx, 0, none⟩ = some (.int .i64 p.1.f0) := blk_cell E.out.ins 0
      have r0 : w3.cell? ⟨w.heap.size + 1, 0, none⟩ = some _ := blk_cell E.out.res 0
      have c1 : w3.cell? ⟨bx, 1, none⟩ = some (.int .u8 p.1.f1) := blk_cell E.out.ins 1
      have r1 : w3.cell? ⟨w.heap.size + 1, 1, none⟩ = some _ := blk_cell E.out.res 1
      have c2 : w3.cell? ⟨bx, 2, none⟩ = some (.bool p.1.f2) := blk_cell E.out.ins 2
      have r2 : w3.cell? ⟨w.heap.size + 1, 2, none⟩ = some _ := blk_cell E.out.res 2
      have c3 : w3.cell? ⟨bx, 3, none⟩ = some (.int .i64 p.1.f3) := blk_cell E.out.ins 3
      have r3 : w3.cell? ⟨w.heap.size + 1, 3, none⟩ = some _ := blk_cell E.out.res 3
      have c4 : w3.cell? ⟨bx, 4, none⟩ = some (.int .i64 p.1.f4) := blk_cell E.out.ins 4
      have r4 : w3.cell? ⟨w.heap.size + 1, 4, none⟩ = some _ := blk_cell E.out.res 4
      have c5 : w3.cell? ⟨bx, 5, none⟩ = some (.int .i64 p.1.f5) := blk_cell E.out.ins 5
      have r5 : w3.cell? ⟨w.heap.size + 1, 5, none⟩ = some _ := blk_cell E.out.res 5
      have c6 : w3.cell? ⟨bx, 6, none⟩ = some (.slice u6 p.1.f6.length k6) := blk_cell E.out.ins 6
      have r6 : w3.cell? ⟨w.heap.size + 1, 6, none⟩ = some _ := blk_cell E.out.res 6
      have c7 : w3.cell? ⟨bx, 7, none⟩ = some (.slice u7 p.1.f7.length k7) := blk_cell E.out.ins 7
      have r7 : w3.cell? ⟨w.heap.size + 1, 7, none⟩ = some _ := blk_cell E.out.res 7
      have rf : ∀ j, w3.frozen? ⟨w.heap.size + 1, j, none⟩ = false := fun j => blk_frozen E.out.res j
      have HFIN := Aside0.mk (E.out.fin HWW.out)
      go_wp2
      refine bodyPost_ret (results_cell_row rfl _ _ (w.heap.size + 1) 82 _ (0, 0) _ rfl HFIN.out.1 Try.underlying82 rfl (by kernel_rfl)) rfl ?_
      rw [HM.out]
      exact ⟨_, _, rfl, HFIN.out.2.1, HFIN.out.2.2.1, HFIN.out.2.2.2.1, E.out.ap, HFIN.out.2.2.2.2⟩
    · have HFS : Aside0 (code_form.f 3 (numR s t 1).1 = some 13) := ⟨by rw [formF_some, hf]⟩
      have HM : Aside0 (oneD s t = moreD s (⟨t.1, (numR s t 1).1, false, 0, 0, 0, [], []⟩ : S82) 13 (numR s t 1).2) := ⟨by unfold oneD bodyD; rw [hf, if_neg (by decide), if_neg (by decide), if_neg (by decide), if_neg (by decide), if_neg (by decide), if_neg (by decide), if_neg (by decide), if_neg (by decide), if_neg (by decide), if_neg (by decide)]; rfl⟩
      clear hf
      go_upto_region 34 with (first | (go_at_call 78; refine (code_form.calls 3 _ _ _ HFS.out).mono ?_; rintro e2 w2 ⟨rfl, hd2⟩; have H2 := Aside0.mk ((H1.out).below hd2.below); have d0_2 : w2.cell? ⟨w.heap.size, 0, none⟩ = some (.pointer (some ⟨g, 0, none⟩)) := blk_cell H2.out.cs.dec 0; have d1_2 : w2.cell? ⟨bx, 0, none⟩ = some (.int .i64 t.1) := blk_cell H2.out.cs.ins 0; have d2_2 : w2.cell? ⟨bx, 1, none⟩ = some (.int .u8 (numR s t 1).1) := blk_cell H2.out.cs.ins 1; have d3_2 : w2.cell? ⟨bx, 2, none⟩ = some (.bool false) := blk_cell H2.out.cs.ins 2; have d4_2 : w2.cell? ⟨bx, 3, none⟩ = some (.int .i64 0) := blk_cell H2.out.cs.ins 3; have d5_2 : w2.cell? ⟨bx, 4, none⟩ = some (.int .i64 0) := blk_cell H2.out.cs.ins 4; have d6_2 : w2.cell? ⟨bx, 7, none⟩ = some (.slice none 0 0) := blk_cell H2.out.cs.ins 7; have df_2 : ∀ j, w2.frozen? ⟨bx, j, none⟩ = false := fun j => blk_frozen H2.out.cs.ins j; clear hd2) | (go_at_call 125; refine (more_d13 w0 _ g s (numR s t 1).2 bx (⟨t.1, (numR s t 1).1, false, 0, 0, 0, [], []⟩ : S82) (HO0.out.num 1) H2.out.hs.ri H2.out.cs.ins rfl rfl H2.out.cs.new).mono ?_; rintro e3 w3 ⟨rfl, v6, v7, h3⟩; have E := Aside0.mk (H2.out.more h3); clear h3) | go_in)
      generalize moreD s (⟨t.1, (numR s t 1).1, false, 0, 0, 0, [], []⟩ : S82) 13 (numR s t 1).2 = p at *
      obtain ⟨u6, k6, e6⟩ := Kd.R_slice E.out.r6
      subst e6
      obtain ⟨u7, k7, e7⟩ := Kd.R_slice E.out.r7
      subst e7
      have c0 : w3.cell? ⟨bx, 0, none⟩ = some (.int .i64 p.1.f0) := blk_cell E.out.ins 0
      have r0 : w3.cell? ⟨w.heap.size + 1, 0, none⟩ = some _ := blk_cell E.out.res 0
      have c1 : w3.cell? ⟨bx, 1, none⟩ = some (.int .u8 p.1.f1) := blk_cell E.out.ins 1
      have r1 : w3.cell? ⟨w.heap.size + 1, 1, none⟩ = some _ := blk_cell E.out.res 1
      have c2 : w3.cell? ⟨bx, 2, none⟩ = some (.bool p.1.f2) := blk_cell E.out.ins 2
      have r2 : w3.cell? ⟨w.heap.size + 1, 2, none⟩ = some _ := blk_cell E.out.res 2
      have c3 : w3.cell? ⟨bx, 3, none⟩ = some (.int .i64 p.1.f3) := blk_cell E.out.ins 3
      have r3 : w3.cell? ⟨w.heap.size + 1, 3, none⟩ = some _ := blk_cell E.out.res 3
      have c4 : w3.cell? ⟨bx, 4, none⟩ = some (.int .i64 p.1.f4) := blk_cell E.out.ins 4
      have r4 : w3.cell? ⟨w.heap.size + 1, 4, none⟩ = some _ := blk_cell E.out.res 4
      have c5 : w3.cell? ⟨bx, 5, none⟩ = some (.int .i64 p.1.f5) := blk_cell E.out.ins 5
      have r5 : w3.cell? ⟨w.heap.size + 1, 5, none⟩ = some _ := blk_cell E.out.res 5
      have c6 : w3.cell? ⟨bx, 6, none⟩ = some (.slice u6 p.1.f6.length k6) := blk_cell E.out.ins 6
      have r6 : w3.cell? ⟨w.heap.size + 1, 6, none⟩ = some _ := blk_cell E.out.res 6
      have c7 : w3.cell? ⟨bx, 7, none⟩ = some (.slice u7 p.1.f7.length k7) := blk_cell E.out.ins 7
      have r7 : w3.cell? ⟨w.heap.size + 1, 7, none⟩ = some _ := blk_cell E.out.res 7
      have rf : ∀ j, w3.frozen? ⟨w.heap.size + 1, j, none⟩ = false := fun j => blk_frozen E.out.res j
      have HFIN := Aside0.mk (E.out.fin HWW.out)
      go_wp2
      refine bodyPost_ret (results_cell_row rfl _ _ (w.heap.size + 1) 82 _ (0, 0) _ rfl HFIN.out.1 Try.underlying82 rfl (by kernel_rfl)) rfl ?_
      rw [HM.out]
      exact ⟨_, _, rfl, HFIN.out.2.1, HFIN.out.2.2.1, HFIN.out.2.2.2.1, E.out.ap, HFIN.out.2.2.2.2⟩
    · have HFS : Aside0 (code_form.f 3 (numR s t 1).1 = some 14) := ⟨by rw [formF_some, hf]⟩
      have HM : Aside0 (oneD s t = moreD s (⟨t.1, (numR s t 1).1, false, 0, 0, 0, [], []⟩ : S82) 14 (numR s t 1).2) := ⟨by unfold oneD bodyD; rw [hf, if_neg (by decide), if_neg (by decide), if_neg (by decide), if_neg (by decide), if_neg (by decide), if_neg (by decide), if_neg (by decide), if_neg (by decide), if_neg (by decide), if_neg (by decide)]; rfl⟩
      clear hf
      go_upto_region 34 with (first | (go_at_call 78; refine (code_form.calls 3 _ _ _ HFS.out).mono ?_; rintro e2 w2 ⟨rfl, hd2⟩; have H2 := Aside0.mk ((H1.out).below hd2.below); have d0_2 : w2.cell? ⟨w.heap.size, 0, none⟩ = some (.pointer (some ⟨g, 0, none⟩)) := blk_cell H2.out.cs.dec 0; have d1_2 : w2.cell? ⟨bx, 0, none⟩ = some (.int .i64 t.1) := blk_cell H2.out.cs.ins 0; have d2_2 : w2.cell? ⟨bx, 1, none⟩ = some (.int .u8 (numR s t 1).1) := blk_cell H2.out.cs.ins 1; have d3_2 : w2.cell? ⟨bx, 2, none⟩ = some (.bool false) := blk_cell H2.out.cs.ins 2; have d4_2 : w2.cell? ⟨bx, 3, none⟩ = some (.int .i64 0) := blk_cell H2.out.cs.ins 3; have d5_2 : w2.cell? ⟨bx, 4, none⟩ = some (.int .i64 0) := blk_cell H2.out.cs.ins 4; have d6_2 : w2.cell? ⟨bx, 7, none⟩ = some (.slice none 0 0) := blk_cell H2.out.cs.ins 7; have df_2 : ∀ j, w2.frozen? ⟨bx, j, none⟩ = false := fun j => blk_frozen H2.out.cs.ins j; clear hd2) | (go_at_call 125; refine (more_d14 w0 _ g s (numR s t 1).2 bx (⟨t.1, (numR s t 1).1, false, 0, 0, 0, [], []⟩ : S82) (HO0.out.num 1) H2.out.hs.ri H2.out.cs.ins rfl rfl H2.out.cs.new).mono ?_; rintro e3 w3 ⟨rfl, v6, v7, h3⟩; have E := Aside0.mk (H2.out.more h3); clear h3) | go_in)
      generalize moreD s (⟨t.1, (numR s t 1).1, false, 0, 0, 0, [], []⟩ : S82) 14 (numR s t 1).2 = p at *
      obtain ⟨u6, k6, e6⟩ := Kd.R_slice E.out.r6
      subst e6
      obtain ⟨u7, k7, e7⟩ := Kd.R_slice E.out.r7
      subst e7
      have c0 : w3.cell? ⟨bx, 0, none⟩ = some (.int .i64 p.1.f0) := blk_cell E.out.ins 0
      have r0 : w3.cell? ⟨w.heap.size + 1, 0, none⟩ = some _ := blk_cell E.out.res 0
      have c1 : w3.cell? ⟨bx, 1, none⟩ = some (.int .u8 p.1.f1) := blk_cell E.out.ins 1
      have r1 : w3.cell? ⟨w.heap.size + 1, 1, none⟩ = some _ := blk_cell E.out.res 1
      have c2 : w3.cell? ⟨bx, 2, none⟩ = some (.bool p.1.f2) := blk_cell E.out.ins 2
      have r2 : w3.cell? ⟨w.heap.size + 1, 2, none⟩ = some _ := blk_cell E.out.res 2
      have c3 : w3.cell? ⟨bx, 3, none⟩ = some (.int .i64 p.1.f3) := blk_cell E.out.ins 3
      have r3 : w3.cell? ⟨w.heap.size + 1, 3, none⟩ = some _ := blk_cell E.out.res 3
      have c4 : w3.cell? ⟨bx, 4, none⟩ = some (.int .i64 p.1.f4) := blk_cell E.out.ins 4
      have r4 : w3.cell? ⟨w.heap.size + 1, 4, none⟩ = some _ := blk_cell E.out.res 4
      have c5 : w3.cell? ⟨bx, 5, none⟩ = some (.int .i64 p.1.f5) := blk_cell E.out.ins 5
      have r5 : w3.cell? ⟨w.heap.size + 1, 5, none⟩ = some _ := blk_cell E.out.res 5
      have c6 : w3.cell? ⟨bx, 6, none⟩ = some (.slice u6 p.1.f6.length k6) := blk_cell E.out.ins 6
      have r6 : w3.cell? ⟨w.heap.size + 1, 6, none⟩ = some _ := blk_cell E.out.res 6
      have c7 : w3.cell? ⟨bx, 7, none⟩ = some (.slice u7 p.1.f7.length k7) := blk_cell E.out.ins 7
      have r7 : w3.cell? ⟨w.heap.size + 1, 7, none⟩ = some _ := blk_cell E.out.res 7
      have rf : ∀ j, w3.frozen? ⟨w.heap.size + 1, j, none⟩ = false := fun j => blk_frozen E.out.res j
      have HFIN := Aside0.mk (E.out.fin HWW.out)
      go_wp2
      refine bodyPost_ret (results_cell_row rfl _ _ (w.heap.size + 1) 82 _ (0, 0) _ rfl HFIN.out.1 Try.underlying82 rfl (by kernel_rfl)) rfl ?_
      rw [HM.out]
      exact ⟨_, _, rfl, HFIN.out.2.1, HFIN.out.2.2.1, HFIN.out.2.2.2.1, E.out.ap, HFIN.out.2.2.2.2⟩
    · have HFS : Aside0 (code_form.f 3 (numR s t 1).1 = some 15) := ⟨by rw [formF_some, hf]⟩
      obtain ⟨o5, o6⟩ := num_range s (numR s t 1).2 1 (by decide)
      have o7 : (numR s (numR s t 1).2 1).1 < 256 := o6
      clear o6
      have hu2 : IntKind.u8.wrap (numR s (numR s t 1).2 1).1 = (numR s (numR s t 1).2 1).1 := by rw [IntKind.wrap_u8]; omega
      by_cases h6 : formF (numR s (numR s t 1).2 1).1 = 6
      · have HFS2 : Aside0 (code_form.f 3 (numR s (numR s t 1).2 1).1 = some 6) := ⟨by rw [formF_some, h6]⟩
        have HM : Aside0 (oneD s t = ((⟨t.1, (numR s (numR s t 1).2 1).1, true, (numR s (numR s (numR s t 1).2 1).2 2).1, 0, 0, [], []⟩ : S82), (numR s (numR s (numR s t 1).2 1).2 2).2)) := ⟨by unfold oneD bodyD; rw [hf, if_pos rfl, if_pos (.inl h6), h6, if_neg (by decide), if_neg (by decide), if_neg (by decide), if_neg (by decide), if_neg (by decide), if_pos rfl]; rfl⟩
        clear hf h6
        go_upto_region 3 with (first | (go_at_call 78; refine (code_form.calls 3 _ _ _ HFS.out).mono ?_; rintro e2 w2 ⟨rfl, hd2⟩; have H2 := Aside0.mk ((H1.out).below hd2.below); have d0_2 : w2.cell? ⟨w.heap.size, 0, none⟩ = some (.pointer (some ⟨g, 0, none⟩)) := blk_cell H2.out.cs.dec 0; have d1_2 : w2.cell? ⟨bx, 0, none⟩ = some (.int .i64 t.1) := blk_cell H2.out.cs.ins 0; have d2_2 : w2.cell? ⟨bx, 1, none⟩ = some (.int .u8 (numR s t 1).1) := blk_cell H2.out.cs.ins 1; have d3_2 : w2.cell? ⟨bx, 2, none⟩ = some (.bool false) := blk_cell H2.out.cs.ins 2; have d4_2 : w2.cell? ⟨bx, 3, none⟩ = some (.int .i64 0) := blk_cell H2.out.cs.ins 3; have d5_2 : w2.cell? ⟨bx, 4, none⟩ = some (.int .i64 0) := blk_cell H2.out.cs.ins 4; have d6_2 : w2.cell? ⟨bx, 7, none⟩ = some (.slice none 0 0) := blk_cell H2.out.cs.ins 7; have df_2 : ∀ j, w2.frozen? ⟨bx, j, none⟩ = false := fun j => blk_frozen H2.out.cs.ins j; clear hd2) | go_in)
        go_upto_region 6 with (first | (go_at_call 68; refine (num_any w0 _ g s (numR s t 1).2 1 1 rfl (by decide) (HO0.out.num 1) (H2.out.set 2 (.bool true) (⟨t.1, (numR s t 1).1, true, 0, 0, 0, [], []⟩ : S82) rfl rfl rfl).hs.ri).mono ?_; rintro e3 w3 ⟨rfl, hI3, hk3⟩; have H3 := Aside0.mk ((H2.out.set 2 (.bool true) (⟨t.1, (numR s t 1).1, true, 0, 0, 0, [], []⟩ : S82) rfl rfl rfl).rd hI3 hk3); have d0_3 : w3.cell? ⟨w.heap.size, 0, none⟩ = some (.pointer (some ⟨g, 0, none⟩)) := blk_cell H3.out.cs.dec 0; have d1_3 : w3.cell? ⟨bx, 0, none⟩ = some (.int .i64 t.1) := blk_cell H3.out.cs.ins 0; have d2_3 : w3.cell? ⟨bx, 1, none⟩ = some (.int .u8 (numR s t 1).1) := blk_cell H3.out.cs.ins 1; have d3_3 : w3.cell? ⟨bx, 2, none⟩ = some (.bool true) := blk_cell H3.out.cs.ins 2; have d4_3 : w3.cell? ⟨bx, 3, none⟩ = some (.int .i64 0) := blk_cell H3.out.cs.ins 3; have d5_3 : w3.cell? ⟨bx, 4, none⟩ = some (.int .i64 0) := blk_cell H3.out.cs.ins 4; have d6_3 : w3.cell? ⟨bx, 7, none⟩ = some (.slice none 0 0) := blk_cell H3.out.cs.ins 7; have df_3 : ∀ j, w3.frozen? ⟨bx, j, none⟩ = false := fun j => blk_frozen H3.out.cs.ins j; clear hI3 hk3) | go_in)
        go_upto_region 7 with (first | (go_at_call 78; refine (code_form.calls 3 _ _ _ HFS2.out).mono ?_; rintro e4 w4 ⟨rfl, hd4⟩; have H4 := Aside0.mk ((H3.out.set 1 (.int .u8 (numR s (numR s t 1).2 1).1) (⟨t.1, (numR s (numR s t 1).2 1).1, true, 0, 0, 0, [], []⟩ : S82) rfl rfl rfl).below hd4.below); have d0_4 : w4.cell? ⟨w.heap.size, 0, none⟩ = some (.pointer (some ⟨g, 0, none⟩)) := blk_cell H4.out.cs.dec 0; have d1_4 : w4.cell? ⟨bx, 0, none⟩ = some (.int .i64 t.1) := blk_cell H4.out.cs.ins 0; have d2_4 : w4.cell? ⟨bx, 1, none⟩ = some (.int .u8 (numR s (numR s t 1).2 1).1) := blk_cell H4.out.cs.ins 1; have d3_4 : w4.cell? ⟨bx, 2, none⟩ = some (.bool true) := blk_cell H4.out.cs.ins 2; have d4_4 : w4.cell? ⟨bx, 3, none⟩ = some (.int .i64 0) := blk_cell H4.out.cs.ins 3; have d5_4 : w4.cell? ⟨bx, 4, none⟩ = some (.int .i64 0) := blk_cell H4.out.cs.ins 4; have d6_4 : w4.cell? ⟨bx, 7, none⟩ = some (.slice none 0 0) := blk_cell H4.out.cs.ins 7; have df_4 : ∀ j, w4.frozen? ⟨bx, j, none⟩ = false := fun j => blk_frozen H4.out.cs.ins j; clear hd4) | go_in)
        go_upto_region 34 with (first | (go_at_call 68; refine (num_any w0 _ g s (numR s (numR s t 1).2 1).2 2 2 rfl (by decide) ((HO0.out.num 1).num 1) (H4.out).hs.ri).mono ?_; rintro e5 w5 ⟨rfl, hI5, hk5⟩; have H5 := Aside0.mk ((H4.out).rd hI5 hk5); have d0_5 : w5.cell? ⟨w.heap.size, 0, none⟩ = some (.pointer (some ⟨g, 0, none⟩)) := blk_cell H5.out.cs.dec 0; have d1_5 : w5.cell? ⟨bx, 0, none⟩ = some (.int .i64 t.1) := blk_cell H5.out.cs.ins 0; have d2_5 : w5.cell? ⟨bx, 1, none⟩ = some (.int .u8 (numR s (numR s t 1).2 1).1) := blk_cell H5.out.cs.ins 1; have d3_5 : w5.cell? ⟨bx, 2, none⟩ = some (.bool true) := blk_cell H5.out.cs.ins 2; have d4_5 : w5.cell? ⟨bx, 3, none⟩ = some (.int .i64 0) := blk_cell H5.out.cs.ins 3; have d5_5 : w5.cell? ⟨bx, 4, none⟩ = some (.int .i64 0) := blk_cell H5.out.cs.ins 4; have d6_5 : w5.cell? ⟨bx, 7, none⟩ = some (.slice none 0 0) := blk_cell H5.out.cs.ins 7; have df_5 : ∀ j, w5.frozen? ⟨bx, j, none⟩ = false := fun j => blk_frozen H5.out.cs.ins j; clear hI5 hk5) | go_in)
        have H9 := Aside0.mk (H5.out.set 3 (.int .i64 (numR s (numR s (numR s t 1).2 1).2 2).1) (⟨t.1, (numR s (numR s t 1).2 1).1, true, (numR s (numR s (numR s t 1).2 1).2 2).1, 0, 0, [], []⟩ : S82) rfl rfl rfl)
        generalize World.setCell _ ⟨bx, 3, none⟩ _ = W9 at *
        have E := Aside0.mk H9.out.oe
        have c0 : W9.cell? ⟨bx, 0, none⟩ = some (.int .i64 t.1) := blk_cell E.out.ins 0
        have r0 : W9.cell? ⟨w.heap.size + 1, 0, none⟩ = some _ := blk_cell E.out.res 0
        have c1 : W9.cell? ⟨bx, 1, none⟩ = some (.int .u8 (numR s (numR s t 1).2 1).1) := blk_cell E.out.ins 1
        have r1 : W9.cell? ⟨w.heap.size + 1, 1, none⟩ = some _ := blk_cell E.out.res 1
        have c2 : W9.cell? ⟨bx, 2, none⟩ = some (.bool true) := blk_cell E.out.ins 2
        have r2 : W9.cell? ⟨w.heap.size + 1, 2, none⟩ = some _ := blk_cell E.out.res 2
        have c3 : W9.cell? ⟨bx, 3, none⟩ = some (.int .i64 (numR s (numR s (numR s t 1).2 1).2 2).1) := blk_cell E.out.ins 3
        have r3 : W9.cell? ⟨w.heap.size + 1, 3, none⟩ = some _ := blk_cell E.out.res 3
        have c4 : W9.cell? ⟨bx, 4, none⟩ = some (.int .i64 0) := blk_cell E.out.ins 4
        have r4 : W9.cell? ⟨w.heap.size + 1, 4, none⟩ = some _ := blk_cell E.out.res 4
        have c5 : W9.cell? ⟨bx, 5, none⟩ = some (.int .i64 0) := blk_cell E.out.ins 5
        have r5 : W9.cell? ⟨w.heap.size + 1, 5, none⟩ = some _ := blk_cell E.out.res 5
        have c6 : W9.cell? ⟨bx, 6, none⟩ = some (.slice none 0 0) := blk_cell E.out.ins 6
        have r6 : W9.cell? ⟨w.heap.size + 1, 6, none⟩ = some _ := blk_cell E.out.res 6
        have c7 : W9.cell? ⟨bx, 7, none⟩ = some (.slice none 0 0) := blk_cell E.out.ins 7
        have r7 : W9.cell? ⟨w.heap.size + 1, 7, none⟩ = some _ := blk_cell E.out.res 7
        have rf : ∀ j, W9.frozen? ⟨w.heap.size + 1, j, none⟩ = false := fun j => blk_frozen E.out.res j
        have HFIN := Aside0.mk (E.out.fin HWW.out)
        go_wp2
        refine bodyPost_ret (results_cell_row rfl _ _ (w.heap.size + 1) 82 _ (0, 0) _ rfl HFIN.out.1 Try.underlying82 rfl (by kernel_rfl)) rfl ?_
        rw [HM.out]
        exact ⟨_, _, rfl, HFIN.out.2.1, HFIN.out.2.2.1, HFIN.out.2.2.2.1, E.out.ap, HFIN.out.2.2.2.2⟩
      by_cases h7 : formF (numR s (numR s t 1).2 1).1 = 7
      · have HFS2 : Aside0 (code_form.f 3 (numR s (numR s t 1).2 1).1 = some 7) := ⟨by rw [formF_some, h7]⟩
        have HM : Aside0 (oneD s t = ((⟨t.1, (numR s (numR s t 1).2 1).1, true, (numR s (numR s (numR s t 1).2 1).2 2).1, (sgnR s (numR s (numR s (numR s t 1).2 1).2 2).2 2).1, 0, [], []⟩ : S82), (sgnR s (numR s (numR s (numR s t 1).2 1).2 2).2 2).2)) := ⟨by unfold oneD bodyD; rw [hf, if_pos rfl, if_pos (.inr h7), h7, if_neg (by decide), if_neg (by decide), if_neg (by decide), if_neg (by decide), if_neg (by decide), if_neg (by decide), if_pos rfl]; rfl⟩
        clear hf h6 h7
        go_upto_region 3 with (first | (go_at_call 78; refine (code_form.calls 3 _ _ _ HFS.out).mono ?_; rintro e2 w2 ⟨rfl, hd2⟩; have H2 := Aside0.mk ((H1.out).below hd2.below); have d0_2 : w2.cell? ⟨w.heap.size, 0, none⟩ = some (.pointer (some ⟨g, 0, none⟩)) := blk_cell H2.out.cs.dec 0; have d1_2 : w2.cell? ⟨bx, 0, none⟩ = some (.int .i64 t.1) := blk_cell H2.out.cs.ins 0; have d2_2 : w2.cell? ⟨bx, 1, none⟩ = some (.int .u8 (numR s t 1).1) := blk_cell H2.out.cs.ins 1; have d3_2 : w2.cell? ⟨bx, 2, none⟩ = some (.bool false) := blk_cell H2.out.cs.ins 2; have d4_2 : w2.cell? ⟨bx, 3, none⟩ = some (.int .i64 0) := blk_cell H2.out.cs.ins 3; have d5_2 : w2.cell? ⟨bx, 4, none⟩ = some (.int .i64 0) := blk_cell H2.out.cs.ins 4; have d6_2 : w2.cell? ⟨bx, 7, none⟩ = some (.slice none 0 0) := blk_cell H2.out.cs.ins 7; have df_2 : ∀ j, w2.frozen? ⟨bx, j, none⟩ = false := fun j => blk_frozen H2.out.cs.ins j; clear hd2) | go_in)
        go_upto_region 6 with (first | (go_at_call 68; refine (num_any w0 _ g s (numR s t 1).2 1 1 rfl (by decide) (HO0.out.num 1) (H2.out.set 2 (.bool true) (⟨t.1, (numR s t 1).1, true, 0, 0, 0, [], []⟩ : S82) rfl rfl rfl).hs.ri).mono ?_; rintro e3 w3 ⟨rfl, hI3, hk3⟩; have H3 := Aside0.mk ((H2.out.set 2 (.bool true) (⟨t.1, (numR s t 1).1, true, 0, 0, 0, [], []⟩ : S82) rfl rfl rfl).rd hI3 hk3); have d0_3 : w3.cell? ⟨w.heap.size, 0, none⟩ = some (.pointer (some ⟨g, 0, none⟩)) := blk_cell H3.out.cs.dec 0; have d1_3 : w3.cell? ⟨bx, 0, none⟩ = some (.int .i64 t.1) := blk_cell H3.out.cs.ins 0; have d2_3 : w3.cell? ⟨bx, 1, none⟩ = some (.int .u8 (numR s t 1).1) := blk_cell H3.out.cs.ins 1; have d3_3 : w3.cell? ⟨bx, 2, none⟩ = some (.bool true) := blk_cell H3.out.cs.ins 2; have d4_3 : w3.cell? ⟨bx, 3, none⟩ = some (.int .i64 0) := blk_cell H3.out.cs.ins 3; have d5_3 : w3.cell? ⟨bx, 4, none⟩ = some (.int .i64 0) := blk_cell H3.out.cs.ins 4; have d6_3 : w3.cell? ⟨bx, 7, none⟩ = some (.slice none 0 0) := blk_cell H3.out.cs.ins 7; have df_3 : ∀ j, w3.frozen? ⟨bx, j, none⟩ = false := fun j => blk_frozen H3.out.cs.ins j; clear hI3 hk3) | go_in)
        go_upto_region 7 with (first | (go_at_call 78; refine (code_form.calls 3 _ _ _ HFS2.out).mono ?_; rintro e4 w4 ⟨rfl, hd4⟩; have H4 := Aside0.mk ((H3.out.set 1 (.int .u8 (numR s (numR s t 1).2 1).1) (⟨t.1, (numR s (numR s t 1).2 1).1, true, 0, 0, 0, [], []⟩ : S82) rfl rfl rfl).below hd4.below); have d0_4 : w4.cell? ⟨w.heap.size, 0, none⟩ = some (.pointer (some ⟨g, 0, none⟩)) := blk_cell H4.out.cs.dec 0; have d1_4 : w4.cell? ⟨bx, 0, none⟩ = some (.int .i64 t.1) := blk_cell H4.out.cs.ins 0; have d2_4 : w4.cell? ⟨bx, 1, none⟩ = some (.int .u8 (numR s (numR s t 1).2 1).1) := blk_cell H4.out.cs.ins 1; have d3_4 : w4.cell? ⟨bx, 2, none⟩ = some (.bool true) := blk_cell H4.out.cs.ins 2; have d4_4 : w4.cell? ⟨bx, 3, none⟩ = some (.int .i64 0) := blk_cell H4.out.cs.ins 3; have d5_4 : w4.cell? ⟨bx, 4, none⟩ = some (.int .i64 0) := blk_cell H4.out.cs.ins 4; have d6_4 : w4.cell? ⟨bx, 7, none⟩ = some (.slice none 0 0) := blk_cell H4.out.cs.ins 7; have df_4 : ∀ j, w4.frozen? ⟨bx, j, none⟩ = false := fun j => blk_frozen H4.out.cs.ins j; clear hd4) | go_in)
        go_upto_region 34 with (first | (go_at_call 68; refine (num_any w0 _ g s (numR s (numR s t 1).2 1).2 2 2 rfl (by decide) ((HO0.out.num 1).num 1) (H4.out).hs.ri).mono ?_; rintro e5 w5 ⟨rfl, hI5, hk5⟩; have H5 := Aside0.mk ((H4.out).rd hI5 hk5); have d0_5 : w5.cell? ⟨w.heap.size, 0, none⟩ = some (.pointer (some ⟨g, 0, none⟩)) := blk_cell H5.out.cs.dec 0; have d1_5 : w5.cell? ⟨bx, 0, none⟩ = some (.int .i64 t.1) := blk_cell H5.out.cs.ins 0; have d2_5 : w5.cell? ⟨bx, 1, none⟩ = some (.int .u8 (numR s (numR s t 1).2 1).1) := blk_cell H5.out.cs.ins 1; have d3_5 : w5.cell? ⟨bx, 2, none⟩ = some (.bool true) := blk_cell H5.out.cs.ins 2; have d4_5 : w5.cell? ⟨bx, 3, none⟩ = some (.int .i64 0) := blk_cell H5.out.cs.ins 3; have d5_5 : w5.cell? ⟨bx, 4, none⟩ = some (.int .i64 0) := blk_cell H5.out.cs.ins 4; have d6_5 : w5.cell? ⟨bx, 7, none⟩ = some (.slice none 0 0) := blk_cell H5.out.cs.ins 7; have df_5 : ∀ j, w5.frozen? ⟨bx, j, none⟩ = false := fun j => blk_frozen H5.out.cs.ins j; clear hI5 hk5) | (go_at_call 124; refine (signed_d w0 _ g s (numR s (numR s (numR s t 1).2 1).2 2).2 2 2 rfl (.inr (.inl rfl)) (((HO0.out.num 1).num 1).num 2) (H5.out.set 3 (.int .i64 (numR s (numR s (numR s t 1).2 1).2 2).1) (⟨t.1, (numR s (numR s t 1).2 1).1, true, (numR s (numR s (numR s t 1).2 1).2 2).1, 0, 0, [], []⟩ : S82) rfl rfl rfl).hs.ri).mono ?_; rintro e6 w6 ⟨rfl, hI6, hk6⟩; have H6 := Aside0.mk ((H5.out.set 3 (.int .i64 (numR s (numR s (numR s t 1).2 1).2 2).1) (⟨t.1, (numR s (numR s t 1).2 1).1, true, (numR s (numR s (numR s t 1).2 1).2 2).1, 0, 0, [], []⟩ : S82) rfl rfl rfl).rd hI6 hk6); have d0_6 : w6.cell? ⟨w.heap.size, 0, none⟩ = some (.pointer (some ⟨g, 0, none⟩)) := blk_cell H6.out.cs.dec 0; have d1_6 : w6.cell? ⟨bx, 0, none⟩ = some (.int .i64 t.1) := blk_cell H6.out.cs.ins 0; have d2_6 : w6.cell? ⟨bx, 1, none⟩ = some (.int .u8 (numR s (numR s t 1).2 1).1) := blk_cell H6.out.cs.ins 1; have d3_6 : w6.cell? ⟨bx, 2, none⟩ = some (.bool true) := blk_cell H6.out.cs.ins 2; have d4_6 : w6.cell? ⟨bx, 3, none⟩ = some (.int .i64 (numR s (numR s (numR s t 1).2 1).2 2).1) := blk_cell H6.out.cs.ins 3; have d5_6 : w6.cell? ⟨bx, 4, none⟩ = some (.int .i64 0) := blk_cell H6.out.cs.ins 4; have d6_6 : w6.cell? ⟨bx, 7, none⟩ = some (.slice none 0 0) := blk_cell H6.out.cs.ins 7; have df_6 : ∀ j, w6.frozen? ⟨bx, j, none⟩ = false := fun j => blk_frozen H6.out.cs.ins j; clear hI6 hk6) | go_in)
        have H9 := Aside0.mk (H6.out.set 4 (.int .i64 (sgnR s (numR s (numR s (numR s t 1).2 1).2 2).2 2).1) (⟨t.1, (numR s (numR s t 1).2 1).1, true, (numR s (numR s (numR s t 1).2 1).2 2).1, (sgnR s (numR s (numR s (numR s t 1).2 1).2 2).2 2).1, 0, [], []⟩ : S82) rfl rfl rfl)
        generalize World.setCell _ ⟨bx, 4, none⟩ _ = W9 at *
        have E := Aside0.mk H9.out.oe
        have c0 : W9.cell? ⟨bx, 0, none⟩ = some (.int .i64 t.1) := blk_cell E.out.ins 0
        have r0 : W9.cell? ⟨w.heap.size + 1, 0, none⟩ = some _ := blk_cell E.out.res 0
        have c1 : W9.cell? ⟨bx, 1, none⟩ = some (.int .u8 (numR s (numR s t 1).2 1).1) := blk_cell E.out.ins 1
        have r1 : W9.cell? ⟨w.heap.size + 1, 1, none⟩ = some _ := blk_cell E.out.res 1
        have c2 : W9.cell? ⟨bx, 2, none⟩ = some (.bool true) := blk_cell E.out.ins 2
        have r2 : W9.cell? ⟨w.heap.size + 1, 2, none⟩ = some _ := blk_cell E.out.res 2
        have c3 : W9.cell? ⟨bx, 3, none⟩ = some (.int .i64 (numR s (numR s (numR s t 1).2 1).2 2).1) := blk_cell E.out.ins 3
        have r3 : W9.cell? ⟨w.heap.size + 1, 3, none⟩ = some _ := blk_cell E.out.res 3
        have c4 : W9.cell? ⟨bx, 4, none⟩ = some (.int .i64 (sgnR s (numR s (numR s (numR s t 1).2 1).2 2).2 2).1) := blk_cell E.out.ins 4
        have r4 : W9.cell? ⟨w.heap.size + 1, 4, none⟩ = some _ := blk_cell E.out.res 4
        have c5 : W9.cell? ⟨bx, 5, none⟩ = some (.int .i64 0) := blk_cell E.out.ins 5
        have r5 : W9.cell? ⟨w.heap.size + 1, 5, none⟩ = some _ := blk_cell E.out.res 5
        have c6 : W9.cell? ⟨bx, 6, none⟩ = some (.slice none 0 0) := blk_cell E.out.ins 6
        have r6 : W9.cell? ⟨w.heap.size + 1, 6, none⟩ = some _ := blk_cell E.out.res 6
        have c7 : W9.cell? ⟨bx, 7, none⟩ = some (.slice none 0 0) := blk_cell E.out.ins 7
        have r7 : W9.cell? ⟨w.heap.size + 1, 7, none⟩ = some _ := blk_cell E.out.res 7
        have rf : ∀ j, W9.frozen? ⟨w.heap.size + 1, j, none⟩ = false := fun j => blk_frozen E.out.res j
        have HFIN := Aside0.mk (E.out.fin HWW.out)
        go_wp2
        refine bodyPost_ret (results_cell_row rfl _ _ (w.heap.size + 1) 82 _ (0, 0) _ rfl HFIN.out.1 Try.underlying82 rfl (by kernel_rfl)) rfl ?_
        rw [HM.out]
        exact ⟨_, _, rfl, HFIN.out.2.1, HFIN.out.2.2.1, HFIN.out.2.2.2.1, E.out.ap, HFIN.out.2.2.2.2⟩
      have HFS2 : Aside0 (code_form.f 3 (numR s (numR s t 1).2 1).1 = some (formF (numR s (numR s t 1).2 1).1)) := ⟨formF_some _⟩
      have HM : Aside0 (oneD s t = ((⟨t.1, (numR s (numR s t 1).2 1).1, true, 0, 0, 0, [], []⟩ : S82), failR (numR s (numR s t 1).2 1).2 14 t.1)) := ⟨by unfold oneD; rw [hf, if_pos rfl, if_neg (fun h => h.elim h6 h7)]; rfl⟩
      have b6 : (formF (numR s (numR s t 1).2 1).1 != 6) = true := bne_iff_ne.2 h6
      have b7 : (formF (numR s (numR s t 1).2 1).1 != 7) = true := bne_iff_ne.2 h7
      clear hf h6 h7
      generalize formF (numR s (numR s t 1).2 1).1 = F at *
      go_upto_region 3 with (first | (go_at_call 78; refine (code_form.calls 3 _ _ _ HFS.out).mono ?_; rintro e2 w2 ⟨rfl, hd2⟩; have H2 := Aside0.mk ((H1.out).below hd2.below); have d0_2 : w2.cell? ⟨w.heap.size, 0, none⟩ = some (.pointer (some ⟨g, 0, none⟩)) := blk_cell H2.out.cs.dec 0; have d1_2 : w2.cell? ⟨bx, 0, none⟩ = some (.int .i64 t.1) := blk_cell H2.out.cs.ins 0; have d2_2 : w2.cell? ⟨bx, 1, none⟩ = some (.int .u8 (numR s t 1).1) := blk_cell H2.out.cs.ins 1; have d3_2 : w2.cell? ⟨bx, 2, none⟩ = some (.bool false) := blk_cell H2.out.cs.ins 2; have d4_2 : w2.cell? ⟨bx, 3, none⟩ = some (.int .i64 0) := blk_cell H2.out.cs.ins 3; have d5_2 : w2.cell? ⟨bx, 4, none⟩ = some (.int .i64 0) := blk_cell H2.out.cs.ins 4; have d6_2 : w2.cell? ⟨bx, 7, none⟩ = some (.slice none 0 0) := blk_cell H2.out.cs.ins 7; have df_2 : ∀ j, w2.frozen? ⟨bx, j, none⟩ = false := fun j => blk_frozen H2.out.cs.ins j; clear hd2) | go_in)
      go_upto_region 6 with (first | (go_at_call 68; refine (num_any w0 _ g s (numR s t 1).2 1 1 rfl (by decide) (HO0.out.num 1) (H2.out.set 2 (.bool true) (⟨t.1, (numR s t 1).1, true, 0, 0, 0, [], []⟩ : S82) rfl rfl rfl).hs.ri).mono ?_; rintro e3 w3 ⟨rfl, hI3, hk3⟩; have H3 := Aside0.mk ((H2.out.set 2 (.bool true) (⟨t.1, (numR s t 1).1, true, 0, 0, 0, [], []⟩ : S82) rfl rfl rfl).rd hI3 hk3); have d0_3 : w3.cell? ⟨w.heap.size, 0, none⟩ = some (.pointer (some ⟨g, 0, none⟩)) := blk_cell H3.out.cs.dec 0; have d1_3 : w3.cell? ⟨bx, 0, none⟩ = some (.int .i64 t.1) := blk_cell H3.out.cs.ins 0; have d2_3 : w3.cell? ⟨bx, 1, none⟩ = some (.int .u8 (numR s t 1).1) := blk_cell H3.out.cs.ins 1; have d3_3 : w3.cell? ⟨bx, 2, none⟩ = some (.bool true) := blk_cell H3.out.cs.ins 2; have d4_3 : w3.cell? ⟨bx, 3, none⟩ = some (.int .i64 0) := blk_cell H3.out.cs.ins 3; have d5_3 : w3.cell? ⟨bx, 4, none⟩ = some (.int .i64 0) := blk_cell H3.out.cs.ins 4; have d6_3 : w3.cell? ⟨bx, 7, none⟩ = some (.slice none 0 0) := blk_cell H3.out.cs.ins 7; have df_3 : ∀ j, w3.frozen? ⟨bx, j, none⟩ = false := fun j => blk_frozen H3.out.cs.ins j; clear hI3 hk3) | go_in)
      go_upto_region 7 with (first | (go_at_call 78; refine (code_form.calls 3 _ _ _ HFS2.out).mono ?_; rintro e4 w4 ⟨rfl, hd4⟩; have H4 := Aside0.mk ((H3.out.set 1 (.int .u8 (numR s (numR s t 1).2 1).1) (⟨t.1, (numR s (numR s t 1).2 1).1, true, 0, 0, 0, [], []⟩ : S82) rfl rfl rfl).below hd4.below); have d0_4 : w4.cell? ⟨w.heap.size, 0, none⟩ = some (.pointer (some ⟨g, 0, none⟩)) := blk_cell H4.out.cs.dec 0; have d1_4 : w4.cell? ⟨bx, 0, none⟩ = some (.int .i64 t.1) := blk_cell H4.out.cs.ins 0; have d2_4 : w4.cell? ⟨bx, 1, none⟩ = some (.int .u8 (numR s (numR s t 1).2 1).1) := blk_cell H4.out.cs.ins 1; have d3_4 : w4.cell? ⟨bx, 2, none⟩ = some (.bool true) := blk_cell H4.out.cs.ins 2; have d4_4 : w4.cell? ⟨bx, 3, none⟩ = some (.int .i64 0) := blk_cell H4.out.cs.ins 3; have d5_4 : w4.cell? ⟨bx, 4, none⟩ = some (.int .i64 0) := blk_cell H4.out.cs.ins 4; have d6_4 : w4.cell? ⟨bx, 7, none⟩ = some (.slice none 0 0) := blk_cell H4.out.cs.ins 7; have df_4 : ∀ j, w4.frozen? ⟨bx, j, none⟩ = false := fun j => blk_frozen H4.out.cs.ins j; clear hd4) | go_in)
      go_upto_region 9 with (first | (go_at_call 73; refine (fail_any w0 _ g s (numR s (numR s t 1).2 1).2 14 t.1 (H4.out).hs.ri).mono ?_; rintro e5 w5 ⟨rfl, hI5, hk5⟩; have H5 := Aside0.mk ((H4.out).rd hI5 hk5); have d0_5 : w5.cell? ⟨w.heap.size, 0, none⟩ = some (.pointer (some ⟨g, 0, none⟩)) := blk_cell H5.out.cs.dec 0; have d1_5 : w5.cell? ⟨bx, 0, none⟩ = some (.int .i64 t.1) := blk_cell H5.out.cs.ins 0; have d2_5 : w5.cell? ⟨bx, 1, none⟩ = some (.int .u8 (numR s (numR s t 1).2 1).1) := blk_cell H5.out.cs.ins 1; have d3_5 : w5.cell? ⟨bx, 2, none⟩ = some (.bool true) := blk_cell H5.out.cs.ins 2; have d4_5 : w5.cell? ⟨bx, 3, none⟩ = some (.int .i64 0) := blk_cell H5.out.cs.ins 3; have d5_5 : w5.cell? ⟨bx, 4, none⟩ = some (.int .i64 0) := blk_cell H5.out.cs.ins 4; have d6_5 : w5.cell? ⟨bx, 7, none⟩ = some (.slice none 0 0) := blk_cell H5.out.cs.ins 7; have df_5 : ∀ j, w5.frozen? ⟨bx, j, none⟩ = false := fun j => blk_frozen H5.out.cs.ins j; clear hI5 hk5) | go_in)
      have E := Aside0.mk H5.out.oe
      have c0 : w5.cell? ⟨bx, 0, none⟩ = some (.int .i64 t.1) := blk_cell E.out.ins 0
      have r0 : w5.cell? ⟨w.heap.size + 1, 0, none⟩ = some _ := blk_cell E.out.res 0
      have c1 : w5.cell? ⟨bx, 1, none⟩ = some (.int .u8 (numR s (numR s t 1).2 1).1) := blk_cell E.out.ins 1
      have r1 : w5.cell? ⟨w.heap.size + 1, 1, none⟩ = some _ := blk_cell E.out.res 1
      have c2 : w5.cell? ⟨bx, 2, none⟩ = some (.bool true) := blk_cell E.out.ins 2
      have r2 : w5.cell? ⟨w.heap.size + 1, 2, none⟩ = some _ := blk_cell E.out.res 2
      have c3 : w5.cell? ⟨bx, 3, none⟩ = some (.int .i64 0) := blk_cell E.out.ins 3
      have r3 : w5.cell? ⟨w.heap.size + 1, 3, none⟩ = some _ := blk_cell E.out.res 3
      have c4 : w5.cell? ⟨bx, 4, none⟩ = some (.int .i64 0) := blk_cell E.out.ins 4
      have r4 : w5.cell? ⟨w.heap.size + 1, 4, none⟩ = some _ := blk_cell E.out.res 4
      have c5 : w5.cell? ⟨bx, 5, none⟩ = some (.int .i64 0) := blk_cell E.out.ins 5
      have r5 : w5.cell? ⟨w.heap.size + 1, 5, none⟩ = some _ := blk_cell E.out.res 5
      have c6 : w5.cell? ⟨bx, 6, none⟩ = some (.slice none 0 0) := blk_cell E.out.ins 6
      have r6 : w5.cell? ⟨w.heap.size + 1, 6, none⟩ = some _ := blk_cell E.out.res 6
      have c7 : w5.cell? ⟨bx, 7, none⟩ = some (.slice none 0 0) := blk_cell E.out.ins 7
      have r7 : w5.cell? ⟨w.heap.size + 1, 7, none⟩ = some _ := blk_cell E.out.res 7
      have rf : ∀ j, w5.frozen? ⟨w.heap.size + 1, j, none⟩ = false := fun j => blk_frozen E.out.res j
      have HFIN := Aside0.mk (E.out.fin HWW.out)
      go_wp2
      refine bodyPost_ret (results_cell_row rfl _ _ (w.heap.size + 1) 82 _ (0, 0) _ rfl HFIN.out.1 Try.underlying82 rfl (by kernel_rfl)) rfl ?_
      rw [HM.out]
      exact ⟨_, _, rfl, HFIN.out.2.1, HFIN.out.2.2.1, HFIN.out.2.2.2.1, E.out.ap, HFIN.out.2.2.2.2⟩
end Go.Proofs.Ytfnjbmpolggdeaa.CD
end
section
namespace Go.Proofs.Ytfnjbmpolggdeaa.CD
open Go.RowKit Go.Lib Go.Proofs.YtfnjbmpolggdeaaW.PrintWords Go.Proofs.YtfnjbmpolggdeaaW.PrintLast Go.Proofs.YtfnjbmpolggdeaaW.PrintMore
set_option linter.unusedVariables false
set_option linter.unusedSimpArgs false
set_option maxHeartbeats 8000000 in
set_option maxRecDepth 100000 in
theorem code_Decode.full (a0 : ByteArray) (r1 : List S82) (r2 : Int) (r3 : Int) (w : World) (h : code_Decode.f a0 = some (r1, r2, r3)) :
    Calls Try.prog 48 #[.string a0] w fun e w' => ∃ v0_, e = .returned (.tuple #[v0_, .int .i64 r2, .int .i64 r3]) ∧ Kd.S kI 82 w' w.heap.size (fun _ => True) v0_ r1 ∧ Below w.heap.size w w' := by
  have hd : decD a0 = (r1, r2, r3) := Option.some.inj h
  clear h
  by_cases h1 : a0.size = 0
  · have hr : (([] : List S82), (12 : Int), (0 : Int)) = (r1, r2, r3) := by rw [← hd]; unfold decD; rw [if_pos (.inl h1)]
    injection hr with e1 e2
    injection e2 with e2 e3
    subst e1 e2 e3
    have q1 : a0.toList.isEmpty = true := by rw [show a0 = ⟨#[]⟩ from ByteArray.ext (Array.eq_empty_of_size_eq_zero h1)]; decide +kernel
    clear h1 hd
    go_enter Try.func48, Try.ntmps48
    go_wp2
    go_ret3
    exact ⟨_, rfl, Kd.S_nil _ _ _ _ _, Below.refl _ _⟩
  · have q1 : a0.toList.isEmpty = false := by
      rw [Go.ByteArray.toList_eq]
      have h3 : a0.data.toList ≠ [] := fun e => h1 (by show a0.data.size = 0; rw [← Array.length_toList, e]; rfl)
      revert h3
      cases a0.data.toList with
      | nil => intro h; exact absurd rfl h
      | cons _ _ => intro _; rfl
    by_cases h2 : 65535 < a0.size
    · have hr : (([] : List S82), (12 : Int), (0 : Int)) = (r1, r2, r3) := by rw [← hd]; unfold decD; rw [if_pos (.inr h2)]
      injection hr with e1 e2
      injection e2 with e2 e3
      subst e1 e2 e3
      have q2 : decide ((65535 : Int) < (a0.size : Int)) = true := decide_eq_true (by omega)
      have q3 : decide ((a0.size : Int) > 65535) = true := decide_eq_true (by omega)
      have q4 : decide (65535 < a0.size) = true := decide_eq_true h2
      clear h1 h2 hd
      go_enter Try.func48, Try.ntmps48
      go_wp2
      go_ret3
      exact ⟨_, rfl, Kd.S_nil _ _ _ _ _, Below.refl _ _⟩
    · have hr : finD a0 (allD a0 a0.size (0, 0, 0)).1 (chkD a0 ((allD a0 a0.size (0, 0, 0)).1.map (·.f0)) (allD a0 a0.size (0, 0, 0)).1 (allD a0 a0.size (0, 0, 0)).2) = (r1, r2, r3) := by rw [← hd]; unfold decD; rw [if_neg (fun h => h.elim h1 h2)]
      have HR := Aside0.mk hr
      have q2 : decide ((65535 : Int) < (a0.size : Int)) = false := decide_eq_false (by omega)
      have q3 : decide ((a0.size : Int) > 65535) = false := decide_eq_false (by omega)
      have q4 : decide (65535 < a0.size) = false := decide_eq_false h2
      have HN := Aside0.mk (And.intro h1 (Nat.not_lt.1 h2))
      have HL0 : 0 ≤ (a0.size : Int) := Int.natCast_nonneg _
      have HL1 : (a0.size : Int).toNat * 1 ≤ 281474976710656 := by omega
      clear h1 h2 hd hr
      go_enter Try.func48, Try.ntmps48
      go_wp2_with (first | (go_at_call 63; refine (pool_NewReader.calls a0 a0 0 0 0 w w (Below.refl _ _) rfl).mono ?_; rintro e1 w1 ⟨g, rfl, hI1, hB1, hb1⟩; have HI1 := Aside0.mk (And.intro hI1 hB1); have HB1 := below_alloc hB1 (.cells #[.pointer (some ⟨g, 0, none⟩)] 144); clear hI1 hb1 hB1) | (refine Kd.R_make Kd.bool _ 4 rfl (N := 26) rfl 120 _ _ rfl (a0.size : Int) rfl rfl Try.underlying120 (.bool false) 1 infoBool rfl (by decide) (by omega) false (ok := fun _ => True) (okp := fun _ => True) rfl (fun _ hk => hk) trivial HL0 HL1 HB1 HB1.size ?_; intro U w2 hU hb2 hg2 hnew2; clear hb2 hnew2) | go_in)
      have HBL := Aside0.mk (BL.nil a0)
      obtain ⟨b, cap, hUv, hUb, hUl, hUt⟩ := Kd.R_form hU (by rw [List.length_replicate]; have := HN.out.1; omega)
      rw [List.length_replicate, Int.toNat_natCast] at hUv
      subst hUv
      have H0 := Aside0.mk (DS.start HI1.out HI1.out.2.size hg2 hU)
      clear hU hg2 hUb hUl hUt HB1 HI1 HL0 HL1
      generalize w1.heap.size = d at *
      generalize List.replicate (a0.size : Int).toNat false = bl0 at *
      go_loopw [7] (fun v wr => ∃ (t : RdS) (bl : List Bool) (l : List S82), Aside0 (DS w wr g d b cap a0 t bl v l) ∧ Aside0 (OKR a0 t ∧ (t.2.1 = 0 → (l.length : Int) ≤ t.1)) ∧ Aside0 (l.length ≤ a0.size ∧ ∀ x ∈ l, x.f7.length ≤ 100000) ∧ Aside0 (BL a0 (l.map (·.f0)) bl) ∧ Aside0 (allD a0 a0.size (0, 0, 0) = (l ++ (allD a0 (a0.size - l.length) t).1, (allD a0 (a0.size - l.length) t).2))) (fun v _ => a0.size - lenV v)
      case atStart => exact ⟨(0, 0, 0), bl0, [], H0, ⟨⟨Int.le_refl _, HN.out.2 |> fun _ => Int.natCast_nonneg _, HN.out.2⟩, fun _ => Int.le_refl _⟩, ⟨Nat.zero_le _, fun x hx => absurd hx (by simp)⟩, HBL, ⟨by simp⟩⟩
      case round =>
        clear H0 HBL
        obtain ⟨t, bl, l, HD, HO, HLN, HB, HA⟩ := hrel
        have c0_1 := HD.out.c0
        go_upto_region 6 with (fail)
        go_cut [36] from 27 to 35 (fun vv wc => vv = .bool (decide (0 < (a0.size : Int) - t.1 ∧ t.2.1 = 0)) ∧ Aside0 (DS w wc g d b cap a0 t bl u7 l))
        case first =>
          as_aux_lemma =>
          by_cases hl : 0 < (a0.size : Int) - t.1
          · have b0 : decide (0 < (a0.size : Int) - t.1) = true := decide_eq_true hl
            have b1 : decide ((a0.size : Int) - t.1 > 0) = true := decide_eq_true hl
            have b3 : decide (t.1 < (a0.size : Int)) = true := decide_eq_true (by omega)
            by_cases he : t.2.1 = 0
            · have b2 : (t.2.1 != 0) = false := bne_eq_false_iff_eq.2 he
              have HV := Aside0.mk (decide_eq_true (And.intro hl he))
              clear hl he
              go_wp2_with (first | (go_at_call 72; refine (left_any w _ g a0 t HO.out.1 HD.out.ri).mono ?_; rintro e2 w2 ⟨rfl, hI2, hk2⟩; have H2 := Aside0.mk (HD.out.rd hI2 hk2); have c0_2 := H2.out.c0; clear hI2 hk2) | (go_at_call 70; refine (bad_any w _ g a0 t H2.out.ri).mono ?_; rintro e3 w3 ⟨rfl, hI3, hk3⟩; have H3 := Aside0.mk (H2.out.rd hI3 hk3); clear hI3 hk3) | go_in)
              go_meet
              case rel => exact ⟨by rw [HV.out], ⟨H3.out⟩⟩
            · have b2 : (t.2.1 != 0) = true := bne_iff_ne.2 he
              have HV := Aside0.mk (decide_eq_false (fun h : 0 < (a0.size : Int) - t.1 ∧ t.2.1 = 0 => he h.2))
              clear hl he
              go_wp2_with (first | (go_at_call 72; refine (left_any w _ g a0 t HO.out.1 HD.out.ri).mono ?_; rintro e2 w2 ⟨rfl, hI2, hk2⟩; have H2 := Aside0.mk (HD.out.rd hI2 hk2); have c0_2 := H2.out.c0; clear hI2 hk2) | (go_at_call 70; refine (bad_any w _ g a0 t H2.out.ri).mono ?_; rintro e3 w3 ⟨rfl, hI3, hk3⟩; have H3 := Aside0.mk (H2.out.rd hI3 hk3); clear hI3 hk3) | go_in)
              go_meet
              case rel => exact ⟨by rw [HV.out], ⟨H3.out⟩⟩
          · have b0 : decide (0 < (a0.size : Int) - t.1) = false := decide_eq_false hl
            have b1 : decide ((a0.size : Int) - t.1 > 0) = false := decide_eq_false hl
            have b3 : decide (t.1 < (a0.size : Int)) = false := decide_eq_false (by omega)
            have HV := Aside0.mk (decide_eq_false (fun h : 0 < (a0.size : Int) - t.1 ∧ t.2.1 = 0 => hl h.1))
            clear hl
            go_wp2_with (first | (go_at_call 72; refine (left_any w _ g a0 t HO.out.1 HD.out.ri).mono ?_; rintro e2 w2 ⟨rfl, hI2, hk2⟩; have H2 := Aside0.mk (HD.out.rd hI2 hk2); have c0_2 := H2.out.c0; clear hI2 hk2) | go_in)
            go_meet
            case rel => exact ⟨by rw [HV.out], ⟨H2.out⟩⟩
        case rest =>
          obtain ⟨rfl, HC⟩ := hcut
          clear c0_1 HD
          have H4 := HC
          have c0_4 := H4.out.c0
          by_cases hc : 0 < (a0.size : Int) - t.1 ∧ t.2.1 = 0
          · rw [decide_eq_true hc]
            have HCC := Aside0.mk hc
            have h0 : 0 ≤ t.1 := HO.out.1.1
            have h1 : t.1 < (a0.size : Int) := by omega
            have HLL : Aside0 (l.length < a0.size ∧ a0.size ≤ 65535) := ⟨by have := HO.out.2 hc.2; omega, HN.out.2⟩
            have p7 : (0 ≤ t.1) = True := eq_true h0
            have q7 : (t.1 < (a0.size : Int)) = True := eq_true h1
            have P7 := Aside0.mk (And.intro h0 h1)
            clear hc h0 h1
            go_upto_region 8 with (first | (go_at_call 66; refine (at_any w _ g a0 t H4.out.ri).mono ?_; rintro e5 w5 ⟨rfl, hI5, hk5⟩; have H5 := Aside0.mk (H4.out.rd hI5 hk5); obtain ⟨x5, y5⟩ := Kd.R_celln false H5.out.row t.1 P7.out.1 P7.out.2; clear hI5 hk5) | go_in)
            have H6 := Aside0.mk (H5.out.mark t.1)
            have HB6 := Aside0.mk (HB.out.mark t.1 P7.out.1 P7.out.2)
            clear H4 H5 HC c0_4 x5 y5 p7 q7
            generalize w5.setCell ⟨b, t.1.toNat, none⟩ (.bool true) = w6 at *
            generalize bl.set t.1.toNat true = bl6 at *
            have c0_6 := H6.out.c0
            have hf : (oneD a0 t).1.f0 = t.1 := one_at a0 t
            have HF := Aside0.mk hf
            have HAS := Aside0.mk (all_step HCC.out (show a0.size - l.length = (a0.size - (l.length + 1)) + 1 by have := HLL.out.1; omega))
            have HON : Aside0 (OKR a0 (oneD a0 t).2 ∧ ((oneD a0 t).2.2.1 = 0 → ((l.length + 1 : Nat) : Int) ≤ (oneD a0 t).2.1)) := ⟨HO.out.1.one, fun hz => by
              have h1 := (one_up HO.out.1 hz).2
              have h2 := HO.out.2 HCC.out.2
              omega⟩
            have HO1 := Aside0.mk HO.out.1
            have HX7 := Aside0.mk (one_len HO.out.1)
            clear hf HO HCC
            generalize hp : oneD a0 t = pr at *
            obtain ⟨x, t1⟩ := pr
            obtain ⟨A7, c7, e7⟩ := Kd.S_slice H6.out.out
            subst e7
            have HP := Aside0.mk hp
            clear hp
            have HL8 : (l.length + 1) * 88 ≤ 140737488355328 := by have := HLL.out.1; have := HLL.out.2; omega
            have HL9 := Aside0.mk HL8
            clear HL8
            go_wp2_with (first | (go_at_call 95; refine (decOne_any w _ g a0 t HO1.out H6.out.ri).mono ?_; rw [HP.out]; rintro e8 w8 ⟨v6, v7, rfl, hI8, h68, h78, ha8, hk8⟩; have H8 := Aside0.mk (H6.out.rd hI8 hk8); have HE8 := Aside0.mk (OnePost.elem h68 h78 ha8 H6.out.ri.2.size); have HX8 := Aside0.mk (IR.elder H6.out.out H6.out.ri.1.1 (by decide) (fun k hlt hne => hk8.2 k hlt hne (by simp))); clear hI8 hk8 h68 h78 ha8; unfold insC) | ((with_reducible refine gate_builtin (b := .append) (xs := #[.tmp 42, .tmp 45]) rfl ?_); at_builtin; refine Kd.S_append kI (w0 := w) w.heap.size rfl (.tmp 42) (.tmp 45) 59 82 _ 88 rfl Try.underlying59 infoIns rfl (by decide) (by omega) (.slice A7 l.length c7) l x [.int .i64 x.f0, .int .u8 x.f1, .bool x.f2, .int .i64 x.f3, .int .i64 x.f4, .int .i64 x.f5, v6, v7] (fun _ => True) (fun k => w6.heap.size ≤ k) rfl rfl HE8.out (fun k hk => ⟨trivial, fun e => by have := Kd.S_lt H6.out.out k e.symm; omega⟩) (fun _ _ => trivial) HX8.out H8.out.ri.2 H8.out.ri.2.size HL9.out ?_; intro v9 w9 hr9 hb9 hg9 hat9) | go_in)
            have H9 := Aside0.mk (H8.out.app hg9 hr9)
            obtain ⟨A9, c9, e9⟩ := Kd.S_slice hr9
            rw [List.length_append, List.length_singleton] at e9
            subst e9
            clear hr9 hb9 hg9 hat9
            have HLE := Aside0.mk (show (l ++ [x]).length = l.length + 1 by rw [List.length_append]; rfl)
            go_roundw
            case rel =>
              refine ⟨t1, bl6, l ++ [x], H9, ⟨HON.out.1, fun hz => by rw [HLE.out]; exact HON.out.2 hz⟩, ⟨by rw [HLE.out]; exact HLL.out.1, fun z hz => (List.mem_append.1 hz).elim (HLN.out.2 z) (fun hz => by rw [List.mem_singleton.1 hz]; exact HX7.out)⟩, ⟨?_⟩, ⟨?_⟩⟩
              · rw [List.map_append]
                show BL a0 (l.map (·.f0) ++ [x.f0]) bl6
                rw [HF.out]
                exact HB6.out
              · have h := HA.out
                rw [HAS.out] at h
                rw [HLE.out, h]
                simp
            case measure =>
              show a0.size - (l.length + 1) < a0.size - l.length
              have := HLL.out.1
              omega
          · rw [decide_eq_false hc]
            have HEND := Aside0.mk (all_end (n := a0.size - l.length) hc)
            clear hc
            have HAE : Aside0 (allD a0 a0.size (0, 0, 0) = (l, t)) := ⟨by have h := HA.out; rw [HEND.out] at h; rw [h]; simp⟩
            have HRE : Aside0 (finD a0 l (chkD a0 (l.map (·.f0)) l t) = (r1, r2, r3)) := ⟨by have h := HR.out; rw [HAE.out] at h; exact h⟩
            have HO1 := Aside0.mk HO.out.1
            clear HEND HAE HA HR HO HC
            obtain ⟨A7, c7, e7⟩ := Kd.S_slice H4.out.out
            subst e7
            have HB4 := HB
            clear HB
            have H4' := H4
            go_wp2_with fail
            go_loopw [49] (fun i wr => ∃ (k : Nat) (t2 : RdS), k ≤ l.length ∧ i = .int .i64 (k : Int) ∧ Aside0 (DS w wr g d b cap a0 t2 bl (.slice A7 l.length c7) l) ∧ Aside0 (finD a0 l (chkD a0 (l.map (·.f0)) (l.drop k) t2) = (r1, r2, r3))) (fun i _ => l.length - (intOf i).toNat)
            case atStart => exact ⟨0, t, Nat.zero_le _, rfl, ⟨H4'.out⟩, ⟨HRE.out⟩⟩
            case round =>
              clear H4 H4' HRE HO1 c0_4
              obtain ⟨k, t2, hk, rfl, HD, HG⟩ := hrel
              by_cases hlt : k < l.length
              · have bk2 : decide ((k : Int) < (l.length : Int)) = true := decide_eq_true (by omega)
                have HG2 := Aside0.mk ((show finD a0 l (chkD a0 (l.map (·.f0)) (l[k] :: l.drop (k + 1)) t2) = (r1, r2, r3) from (List.drop_eq_getElem_cons hlt) ▸ HG.out))
                clear HG
                obtain ⟨hn8, hc8, hC8⟩ := Kd.S_reads' HD.out.out
                obtain ⟨ad0, A6, c6, B7, d7, e0, x0, x1, x2, x3, x4, x5, x6, x7, hl6, hi6, hl7, hi7⟩ := at_T82 hC8 (k : Int) (by omega) (by omega)
                subst e0
                rw [rdD_at hlt] at x0 x1 x2 x3 x4 x5 x6 x7 hl6 hi6 hl7 hi7
                simp only [Int.toNat_natCast] at x0 x1 x2 x3 x4 x5 x6 x7
                have HR70 := Aside0.mk (IR.row7 HD.out.out k hlt x7)
                have HLX := Aside0.mk (HLN.out.2 _ (List.getElem_mem hlt))
                have HLT := Aside0.mk hlt
                clear hl6 hi6 hl7 hi7 hk hn8 hc8 hC8
                generalize l[k] = x at *
                have HS := Aside0.mk (show finD a0 l (chkD a0 (l.map (·.f0)) (l.drop (k + 1)) (chk1 a0 (l.map (·.f0)) x.f0 x.f7 t2)) = (r1, r2, r3) from HG2.out)
                clear HG2
                have hbx := below_alloc (Below.refl _ wr) (.cells #[.int .i64 x.f0, .int .u8 x.f1, .bool x.f2, .int .i64 x.f3, .int .i64 x.f4, .int .i64 x.f5, .slice A6 x.f6.length c6, .slice B7 x.f7.length d7] 82)
                have HD1 := Aside0.mk (HD.out.below hbx)
                have HR71 := Aside0.mk (HR70.out.step (fun q e => hbx.block q (Kd.R_lt HR70.out q e)))
                have HBX1 : Aside0 ((wr.alloc (.cells #[.int .i64 x.f0, .int .u8 x.f1, .bool x.f2, .int .i64 x.f3, .int .i64 x.f4, .int .i64 x.f5, .slice A6 x.f6.length c6, .slice B7 x.f7.length d7] 82)).heap[wr.heap.size]? = some (.cells #[.int .i64 x.f0, .int .u8 x.f1, .bool x.f2, .int .i64 x.f3, .int .i64 x.f4, .int .i64 x.f5, .slice A6 x.f6.length c6, .slice B7 x.f7.length d7] 82 (0, 0))) := ⟨Array.getElem?_push_size⟩
                clear hbx HR70 HD
                go_wp2_with fail
                generalize wr.heap.size = bx at *
                go_loopw [56] (fun i wr => ∃ (j : Nat) (t3 : RdS), j ≤ x.f7.length ∧ i = .int .i64 (j : Int) ∧ Aside0 (DS w wr g d b cap a0 t3 bl (.slice (some ad0) l.length c7) l) ∧ Aside0 (RW wr w.heap.size (.slice B7 x.f7.length d7) x.f7) ∧ Aside0 (wr.heap[bx]? = some (.cells #[.int .i64 x.f0, .int .u8 x.f1, .bool x.f2, .int .i64 x.f3, .int .i64 x.f4, .int .i64 x.f5, .slice A6 x.f6.length c6, .slice B7 x.f7.length d7] 82 (0, 0))) ∧ Aside0 (finD a0 l (chkD a0 (l.map (·.f0)) (l.drop (k + 1)) (chk1 a0 (l.map (·.f0)) x.f0 (x.f7.drop j) t3)) = (r1, r2, r3))) (fun i _ => x.f7.length - (intOf i).toNat)
                case atStart => exact ⟨0, t2, Nat.zero_le _, rfl, HD1, HR71, HBX1, ⟨HS.out⟩⟩
                case round =>
                  clear HD1 HR71 HBX1 HS x0 x1 x2 x3 x4 x5 x6 x7
                  obtain ⟨j, t3, hj, rfl, HD, HR7, HBX, HG⟩ := hrel
                  have c0_5 := HD.out.c0
                  have b0_5 : wr.cell? ⟨bx, 0, none⟩ = some (.int .i64 x.f0) := blk_cell HBX.out 0
                  by_cases hjt : j < x.f7.length
                  · have bj : decide ((j : Int) < (x.f7.length : Int)) = true := decide_eq_true (by omega)
                    obtain ⟨hn7, hc7, hC7⟩ := Kd.R_reads' HR7.out
                    obtain ⟨ad7, e7, z0⟩ := Kd.at_int hC7 (j : Int) (by omega) (by omega)
                    subst e7
                    simp only [Int.toNat_natCast] at z0
                    have hrd : rd x.f7 (j : Int) = x.f7[j] := by unfold rd; rw [Int.toNat_natCast, List.getD_eq_getElem?_getD, List.getElem?_eq_getElem hjt]; rfl
                    rw [hrd] at z0
                    have HG2 := Aside0.mk ((show finD a0 l (chkD a0 (l.map (·.f0)) (l.drop (k + 1)) (chk1 a0 (l.map (·.f0)) x.f0 (x.f7[j] :: x.f7.drop (j + 1)) t3)) = (r1, r2, r3) from (List.drop_eq_getElem_cons hjt) ▸ HG.out))
                    have HJT := Aside0.mk hjt
                    have wk : wrap64 ((j : Int) + 1) = ((j + 1 : Nat) : Int) := by rw [← i64_w, IntKind.wrap_i64]; have := HLX.out; omega
                    have WN := Aside0.mk (congrArg (Value.int IntKind.i64) wk)
                    have WI := Aside0.mk wk
                    clear HG hrd hn7 hc7 hC7 wk hj
                    generalize x.f7[j] = y at *
                    by_cases hy0 : y < 0
                    · have g0 : decide (y < 0) = true := decide_eq_true hy0
                      have hbt : badT a0 (l.map (·.f0)) y = true := by unfold badT; rw [g0]; rfl
                      clear hy0
                      have HT4 : Aside0 (finD a0 l (chkD a0 (l.map (·.f0)) (l.drop (k + 1)) (chk1 a0 (l.map (·.f0)) x.f0 (x.f7.drop (j + 1)) (failR t3 16 x.f0))) = (r1, r2, r3)) := ⟨by
                        have h := HG2.out
                        rw [chk1_cons, if_pos hbt] at h
                        exact h⟩
                      clear hbt HG2
                      as_aux_lemma =>
                      go_wp2_with (first | (go_at_call 73; refine (fail_any w _ g a0 t3 16 x.f0 HD.out.ri).mono ?_; rintro e9 w9 ⟨rfl, hI9, hk9⟩; have H9 := Aside0.mk (HD.out.rd hI9 hk9); have HR9 := Aside0.mk (HR7.out.step (fun k e => hk9.2 k (Kd.R_lt HR7.out k e) (fun he => HR7.out.ne HD.out.ri.1.1 (by decide) (he ▸ e)) (by simp))); have HX9 := Aside0.mk ((hk9.2 _ (blk_lt HBX.out) (fun e => HD.out.ri.1.ne_blk HBX.out (by decide) e.symm) (by simp)).trans HBX.out); clear hI9 hk9) | go_in)
                      go_roundw
                      case rel => exact ⟨j + 1, failR t3 16 x.f0, HJT.out, by first | exact WN.out | exact WI.out, H9, HR9, HX9, HT4⟩
                      case measure => exact ms_valD HJT.out WN.out
                    · have g0 : decide (y < 0) = false := decide_eq_false hy0
                      by_cases hy1 : (a0.size : Int) ≤ y
                      · have g1 : decide ((a0.size : Int) ≤ y) = true := decide_eq_true hy1
                        have g2 : decide (y ≥ (a0.size : Int)) = true := decide_eq_true hy1
                        have hbt : badT a0 (l.map (·.f0)) y = true := by unfold badT; rw [g1]; simp
                        clear hy0 hy1
                        have HT4 : Aside0 (finD a0 l (chkD a0 (l.map (·.f0)) (l.drop (k + 1)) (chk1 a0 (l.map (·.f0)) x.f0 (x.f7.drop (j + 1)) (failR t3 16 x.f0))) = (r1, r2, r3)) := ⟨by
                          have h := HG2.out
                          rw [chk1_cons, if_pos hbt] at h
                          exact h⟩
                        clear hbt HG2
                        as_aux_lemma =>
                        go_wp2_with (first | (go_at_call 73; refine (fail_any w _ g a0 t3 16 x.f0 HD.out.ri).mono ?_; rintro e9 w9 ⟨rfl, hI9, hk9⟩; have H9 := Aside0.mk (HD.out.rd hI9 hk9); have HR9 := Aside0.mk (HR7.out.step (fun k e => hk9.2 k (Kd.R_lt HR7.out k e) (fun he => HR7.out.ne HD.out.ri.1.1 (by decide) (he ▸ e)) (by simp))); have HX9 := Aside0.mk ((hk9.2 _ (blk_lt HBX.out) (fun e => HD.out.ri.1.ne_blk HBX.out (by decide) e.symm) (by simp)).trans HBX.out); clear hI9 hk9) | go_in)
                        go_roundw
                        case rel => exact ⟨j + 1, failR t3 16 x.f0, HJT.out, by first | exact WN.out | exact WI.out, H9, HR9, HX9, HT4⟩
                        case measure => exact ms_valD HJT.out WN.out
                      · have g1 : decide ((a0.size : Int) ≤ y) = false := decide_eq_false hy1
                        have g2 : decide (y ≥ (a0.size : Int)) = false := decide_eq_false hy1
                        have p9 : (0 ≤ y) = True := eq_true (by omega)
                        have q9 : (y < (a0.size : Int)) = True := eq_true (by omega)
                        obtain ⟨x9, y9⟩ := Kd.R_celln false HD.out.row y (by omega) (by omega)
                        rw [show rdOf false bl y = decide (y ∈ l.map (·.f0)) from HB4.out.2 y (by omega) (by omega)] at x9
                        by_cases hm : y ∈ l.map (·.f0)
                        · rw [decide_eq_true hm] at x9
                          have hbt : badT a0 (l.map (·.f0)) y = false := by unfold badT; rw [g0, g1, decide_eq_true hm]; rfl
                          clear hm hy0 hy1
                          have HT4 : Aside0 (finD a0 l (chkD a0 (l.map (·.f0)) (l.drop (k + 1)) (chk1 a0 (l.map (·.f0)) x.f0 (x.f7.drop (j + 1)) t3)) = (r1, r2, r3)) := ⟨by
                            have h := HG2.out
                            rw [chk1_cons, if_neg (by rw [hbt]; decide)] at h
                            exact h⟩
                          clear hbt HG2
                          as_aux_lemma =>
                          go_wp2_with fail
                          go_roundw
                          case rel => exact ⟨j + 1, t3, HJT.out, by first | exact WN.out | exact WI.out, HD, HR7, HBX, HT4⟩
                          case measure => exact ms_valD HJT.out WN.out
                        · rw [decide_eq_false hm] at x9
                          have hbt : badT a0 (l.map (·.f0)) y = true := by unfold badT; rw [g0, g1, decide_eq_false hm]; rfl
                          clear hm hy0 hy1
                          have HT4 : Aside0 (finD a0 l (chkD a0 (l.map (·.f0)) (l.drop (k + 1)) (chk1 a0 (l.map (·.f0)) x.f0 (x.f7.drop (j + 1)) (failR t3 16 x.f0))) = (r1, r2, r3)) := ⟨by
                            have h := HG2.out
                            rw [chk1_cons, if_pos hbt] at h
                            exact h⟩
                          clear hbt HG2
                          as_aux_lemma =>
                          go_wp2_with (first | (go_at_call 73; refine (fail_any w _ g a0 t3 16 x.f0 HD.out.ri).mono ?_; rintro e9 w9 ⟨rfl, hI9, hk9⟩; have H9 := Aside0.mk (HD.out.rd hI9 hk9); have HR9 := Aside0.mk (HR7.out.step (fun k e => hk9.2 k (Kd.R_lt HR7.out k e) (fun he => HR7.out.ne HD.out.ri.1.1 (by decide) (he ▸ e)) (by simp))); have HX9 := Aside0.mk ((hk9.2 _ (blk_lt HBX.out) (fun e => HD.out.ri.1.ne_blk HBX.out (by decide) e.symm) (by simp)).trans HBX.out); clear hI9 hk9) | go_in)
                          go_roundw
                          case rel => exact ⟨j + 1, failR t3 16 x.f0, HJT.out, by first | exact WN.out | exact WI.out, H9, HR9, HX9, HT4⟩
                          case measure => exact ms_valD HJT.out WN.out
                  · obtain rfl : j = x.f7.length := by omega
                    have bj : decide ((x.f7.length : Int) < (x.f7.length : Int)) = false := decide_eq_false (by omega)
                    have HT4 : Aside0 (finD a0 l (chkD a0 (l.map (·.f0)) (l.drop (k + 1)) t3) = (r1, r2, r3)) := ⟨by
                      have h := HG.out
                      rw [List.drop_length] at h
                      exact h⟩
                    have wk : wrap64 ((k : Int) + 1) = ((k + 1 : Nat) : Int) := by rw [← i64_w, IntKind.wrap_i64]; have := HLN.out.1; have := HN.out.2; omega
                    have WN := Aside0.mk (congrArg (Value.int IntKind.i64) wk)
                    have WI := Aside0.mk wk
                    clear wk HG hjt
                    as_aux_lemma =>
                    go_wp2
                    go_roundw
                    case rel => exact ⟨k + 1, t3, HLT.out, by first | exact WN.out | exact WI.out, HD, HT4⟩
                    case measure => exact ms_valD HLT.out WN.out
              · obtain rfl : k = l.length := by omega
                have bk2 : decide ((l.length : Int) < (l.length : Int)) = false := decide_eq_false (by omega)
                have HS : Aside0 (finD a0 l t2 = (r1, r2, r3)) := ⟨by
                  have h := HG.out
                  rw [List.drop_length] at h
                  exact h⟩
                have c0_6 := HD.out.c0
                clear HG hlt
                by_cases hz : t2.2.1 = 0
                · have z0 : (t2.2.1 != 0) = false := bne_eq_false_iff_eq.2 hz
                  have hs : (l, (0 : Int), (0 : Int)) = (r1, r2, r3) := by
                    have h := HS.out
                    unfold finD at h
                    rw [if_neg (fun h => h hz)] at h
                    exact h
                  injection hs with e1 e2
                  injection e2 with e2 e3
                  subst e1 e2 e3
                  clear hz HS
                  as_aux_lemma =>
                  go_wp2_with (first | (go_at_call 65; refine (err_any w _ g a0 t2 HD.out.ri).mono ?_; rintro e9 w9 ⟨rfl, hI9, hk9⟩; have H9 := Aside0.mk (HD.out.rd hI9 hk9); clear hI9 hk9) | go_in)
                  go_ret3
                  exact ⟨_, rfl, H9.out.out, H9.out.ri.2⟩
                · have z0 : (t2.2.1 != 0) = true := bne_iff_ne.2 hz
                  have hs : (([] : List S82), t2.2.1, t2.2.2) = (r1, r2, r3) := by
                    have h := HS.out
                    unfold finD at h
                    rw [if_pos hz] at h
                    exact h
                  injection hs with e1 e2
                  injection e2 with e2 e3
                  subst e1 e2 e3
                  clear hz HS
                  as_aux_lemma =>
                  go_wp2_with (first | (go_at_call 65; refine (err_any w _ g a0 t2 HD.out.ri).mono ?_; rintro e9 w9 ⟨rfl, hI9, hk9⟩; have H9 := Aside0.mk (HD.out.rd hI9 hk9); clear hI9 hk9) | go_in)
                  go_ret3
                  exact ⟨_, rfl, Kd.S_nil _ _ _ _ _, H9.out.ri.2⟩
end Go.Proofs.Ytfnjbmpolggdeaa.CD
end
section
namespace Go.Proofs.Ytfnjbmpolggdeaa.CD
open Go.RowKit Go.Proofs.YtfnjbmpolggdeaaW.PrintWords Go.Proofs.YtfnjbmpolggdeaaW.PrintLast Go.Proofs.YtfnjbmpolggdeaaW.PrintMore
attribute [local go_sem] max2_int min2_int max_two min_two max_three min_three max_four min_four   -- for this text's walks alone
set_option linter.unusedVariables false
set_option linter.unusedSimpArgs false
def IsS148 (w0 W : World) (g : Nat) (f0 : ByteArray) (f1 : Int) (f2 : Int) (f3 : Int) : Prop := W.heap[g]? = some (.cells #[.string f0, .int .i64 f1, .int .i64 f2, .int .i64 f3] 148 (0, 0)) ∧ w0.heap.size ≤ g
theorem IsS148.grown {w0 W : World} {g : Nat} {f0 : ByteArray} {f1 : Int} {f2 : Int} {f3 : Int} {W1 : World} {row : Option Nat} (h : IsS148 w0 W g f0 f1 f2 f3) (hw : W.grownBy W1 row) (hne : some g ≠ row) : IsS148 w0 W1 g f0 f1 f2 f3 := by
  obtain ⟨hb, hg⟩ := h
  exact ⟨blk_grown hb hw hne, hg⟩
theorem IsS148.kept {w0 W : World} {g : Nat} {f0 : ByteArray} {f1 : Int} {f2 : Int} {f3 : Int} {W1 : World} {S : Nat → Prop} (h : IsS148 w0 W g f0 f1 f2 f3) (hk : Kept W W1 S) (hne : ¬ S g) : IsS148 w0 W1 g f0 f1 f2 f3 := by
  obtain ⟨hb, hg⟩ := h
  exact ⟨blk_kept hb hk hne, hg⟩
theorem IsS148.below {w0 W : World} {g : Nat} {f0 : ByteArray} {f1 : Int} {f2 : Int} {f3 : Int} {W1 : World} (h : IsS148 w0 W g f0 f1 f2 f3) (hw : Below W.heap.size W W1) : IsS148 w0 W1 g f0 f1 f2 f3 := h.grown (grown_of_below hw none) (by simp)
theorem IsS148.alloc {w0 W : World} {g : Nat} {f0 : ByteArray} {f1 : Int} {f2 : Int} {f3 : Int} (h : IsS148 w0 W g f0 f1 f2 f3) (o : Obj) : IsS148 w0 (W.alloc o) g f0 f1 f2 f3 := h.below (below_alloc (Below.refl _ _) o)
theorem IsS148.drewN {w0 W : World} {g : Nat} {f0 : ByteArray} {f1 : Int} {f2 : Int} {f3 : Int} (h : IsS148 w0 W g f0 f1 f2 f3) (m : Nat) : IsS148 w0 (W.drewN m) g f0 f1 f2 f3 := h
theorem IsS148.drew {w0 W : World} {g : Nat} {f0 : ByteArray} {f1 : Int} {f2 : Int} {f3 : Int} (h : IsS148 w0 W g f0 f1 f2 f3) : IsS148 w0 W.drew g f0 f1 f2 f3 := h
theorem IsS148.at_ {w0 W : World} {g : Nat} {f0 : ByteArray} {f1 : Int} {f2 : Int} {f3 : Int} {w' : World} {m : Nat} (hq : W.drewN m = w') (h : IsS148 w0 W g f0 f1 f2 f3) : IsS148 w0 w' g f0 f1 f2 f3 := by subst hq; exact IsS148.drewN h m
theorem IsS148.ge {w0 W : World} {g : Nat} {f0 : ByteArray} {f1 : Int} {f2 : Int} {f3 : Int} (h : IsS148 w0 W g f0 f1 f2 f3) : w0.heap.size ≤ g := by
  obtain ⟨hb, hg⟩ := h
  exact hg
theorem IsS148.ne_blk {w0 W : World} {g : Nat} {f0 : ByteArray} {f1 : Int} {f2 : Int} {f3 : Int} {a : Nat} {cs : Array Value} {t : TypeId} {fr : Nat × Nat} (h : IsS148 w0 W g f0 f1 f2 f3) (hb2 : W.heap[a]? = some (.cells cs t fr)) (ht : t ≠ 148) : g ≠ a := by
  obtain ⟨hb, hg⟩ := h
  rintro rfl
  rw [hb] at hb2
  injection hb2 with hb2
  injection hb2 with _ ht2
  exact ht ht2.symm
theorem IsS148.far {w0 W : World} {g : Nat} {f0 : ByteArray} {f1 : Int} {f2 : Int} {f3 : Int} {p : Addr} (h : IsS148 w0 W g f0 f1 f2 f3) (hne : g ≠ p.block) (u : Value) : IsS148 w0 (W.setCell p u) g f0 f1 f2 f3 := by
  obtain ⟨hb, hg⟩ := h
  exact ⟨blk_far hb hne u, hg⟩
theorem cellS148_0 {W : World} {g : Nat} {f0 : ByteArray} {f1 : Int} {f2 : Int} {f3 : Int} (h : W.heap[g]? = some (.cells #[.string f0, .int .i64 f1, .int .i64 f2, .int .i64 f3] 148 (0, 0))) : W.cell? ⟨g, 0, none⟩ = some (.string f0) := (blk_cell h 0).trans rfl
theorem cellS148_1 {W : World} {g : Nat} {f0 : ByteArray} {f1 : Int} {f2 : Int} {f3 : Int} (h : W.heap[g]? = some (.cells #[.string f0, .int .i64 f1, .int .i64 f2, .int .i64 f3] 148 (0, 0))) : W.cell? ⟨g, 1, none⟩ = some (.int .i64 f1) := (blk_cell h 1).trans rfl
theorem IsS148.set_1 {w0 W : World} {g : Nat} {f0 : ByteArray} {f1 : Int} {f2 : Int} {f3 : Int} (h : IsS148 w0 W g f0 f1 f2 f3) (x : Int) : IsS148 w0 (W.setCell ⟨g, 1, none⟩ (.int .i64 x)) g f0 x f2 f3 := by
  obtain ⟨hb, hg⟩ := h
  exact ⟨by simpa using blk_set hb 1 (.int .i64 x), hg⟩
theorem cellS148_2 {W : World} {g : Nat} {f0 : ByteArray} {f1 : Int} {f2 : Int} {f3 : Int} (h : W.heap[g]? = some (.cells #[.string f0, .int .i64 f1, .int .i64 f2, .int .i64 f3] 148 (0, 0))) : W.cell? ⟨g, 2, none⟩ = some (.int .i64 f2) := (blk_cell h 2).trans rfl
theorem IsS148.set_2 {w0 W : World} {g : Nat} {f0 : ByteArray} {f1 : Int} {f2 : Int} {f3 : Int} (h : IsS148 w0 W g f0 f1 f2 f3) (x : Int) : IsS148 w0 (W.setCell ⟨g, 2, none⟩ (.int .i64 x)) g f0 f1 x f3 := by
  obtain ⟨hb, hg⟩ := h
  exact ⟨by simpa using blk_set hb 2 (.int .i64 x), hg⟩
theorem cellS148_3 {W : World} {g : Nat} {f0 : ByteArray} {f1 : Int} {f2 : Int} {f3 : Int} (h : W.heap[g]? = some (.cells #[.string f0, .int .i64 f1, .int .i64 f2, .int .i64 f3] 148 (0, 0))) : W.cell? ⟨g, 3, none⟩ = some (.int .i64 f3) := (blk_cell h 3).trans rfl
theorem IsS148.set_3 {w0 W : World} {g : Nat} {f0 : ByteArray} {f1 : Int} {f2 : Int} {f3 : Int} (h : IsS148 w0 W g f0 f1 f2 f3) (x : Int) : IsS148 w0 (W.setCell ⟨g, 3, none⟩ (.int .i64 x)) g f0 f1 f2 x := by
  obtain ⟨hb, hg⟩ := h
  exact ⟨by simpa using blk_set hb 3 (.int .i64 x), hg⟩
theorem IsS148.new (w0 W : World) (f0 : ByteArray) (f1 : Int) (f2 : Int) (f3 : Int) (hB : Below w0.heap.size w0 W) : IsS148 w0 (W.alloc (.cells #[.string f0, .int .i64 f1, .int .i64 f2, .int .i64 f3] 148)) W.heap.size f0 f1 f2 f3 := ⟨by simpa using heap_alloc_new W _, hB.size⟩
def jvmcoreref2_cut_fail.f (s0_0 : ByteArray) (s0_1 : Int) (s0_2 : Int) (s0_3 : Int) (a1 : Int) (a2 : Int) : Option (ByteArray × Int × Int × Int) := if s0_2 = 0 then (some (s0_0, s0_1, a1, a2)) else (some (s0_0, s0_1, s0_2, s0_3))
set_option maxHeartbeats 8000000 in
set_option maxRecDepth 100000 in
theorem jvmcoreref2_cut_fail.calls (g : Nat) (s0_0 : ByteArray) (s0_1 : Int) (s0_2 : Int) (s0_3 : Int) (a1 : Int) (a2 : Int) (r1 : ByteArray) (r2 : Int) (r3 : Int) (r4 : Int) (w0 w : World) (hI : IsS148 w0 w g s0_0 s0_1 s0_2 s0_3) (hB : Below w0.heap.size w0 w) (h : jvmcoreref2_cut_fail.f s0_0 s0_1 s0_2 s0_3 a1 a2 = some (r1, r2, r3, r4)) :
    Calls Try.prog 97 #[.pointer (some ⟨g, 0, none⟩), .int .i64 a1, .int .i64 a2] w fun e w' => e = .returned (.tuple #[]) ∧ IsS148 w0 w' g r1 r2 r3 r4 ∧ Below w0.heap.size w0 w' ∧ KeepBut w w' g none := by
  have HI0 := Aside0.mk hI
  have HK := Aside0.mk (KeepBut.refl w g none)
  have HL := Aside0.mk hB.size
  clear hI
  have HW0 := Aside0.mk hB.size
  have HB := Aside0.mk hB
  clear hB
  have H : (if s0_2 = 0 then (some (s0_0, s0_1, a1, a2)) else (some (s0_0, s0_1, s0_2, s0_3))) = some (r1, r2, r3, r4) := h
  clear h
  by_cases c4 : s0_2 = 0
  · rw [if_pos c4] at H
    have c4b0 : (s0_2 == 0) = true := beq_iff_eq.mpr c4
    have c4b1 : (s0_2 != 0) = false := bne_eq_false_iff_eq.mpr c4
    clear c4
    simp only [Option.some.injEq, Prod.mk.injEq] at H
    obtain ⟨rfl, rfl, rfl, rfl⟩ := H
    obtain ⟨HGz5, hgz5⟩ := HI0.out
    have hcz5_0 := cellS148_0 HGz5
    have hcz5_1 := cellS148_1 HGz5
    have hcz5_2 := cellS148_2 HGz5
    have hcz5_3 := cellS148_3 HGz5
    have hfz5_0 := blk_frozen HGz5 0
    have hfz5_1 := blk_frozen HGz5 1
    have hfz5_2 := blk_frozen HGz5 2
    have hfz5_3 := blk_frozen HGz5 3
    clear HGz5 hgz5
    go_enter Try.func97, Try.ntmps97
    go_wp2
    first | go_end0 | ((try simp only [Exit.inBlock, Exit.then]); refine bodyPost_ret (results_none rfl _ _ _) rfl ?_)
    exact ⟨by first | rfl | (simp [errW_none, errW_some] <;> rfl) | (simp [*, errW_none, errW_some] <;> rfl), by repeat (first | (with_reducible first | exact HI0.out | apply IsS148.alloc | apply IsS148.drewN | apply IsS148.drew | apply IsS148.set_0 | apply IsS148.set_1 | apply IsS148.set_2 | apply IsS148.set_3) | exact HI0.out), by repeat (first | (with_reducible first | exact HB.out | apply below_alloc | apply pw_below_drewN | apply below_drew1 | refine below_set ?_ (IsS148.ge HI0.out)) | exact HB.out), by repeat (first | (with_reducible first | exact HK.out | apply KeepBut.set_ | apply keep_drewN | apply keep_drew | apply keep_alloc) | exact HK.out)⟩
  · rw [if_neg c4] at H
    have c4b0 : (s0_2 == 0) = false := beq_eq_false_iff_ne.mpr c4
    have c4b1 : (s0_2 != 0) = true := bne_iff_ne.mpr c4
    simp only [Option.some.injEq, Prod.mk.injEq] at H
    obtain ⟨rfl, rfl, rfl, rfl⟩ := H
    obtain ⟨HGz6, hgz6⟩ := HI0.out
    have hcz6_0 := cellS148_0 HGz6
    have hcz6_1 := cellS148_1 HGz6
    have hcz6_2 := cellS148_2 HGz6
    have hcz6_3 := cellS148_3 HGz6
    have hfz6_0 := blk_frozen HGz6 0
    have hfz6_1 := blk_frozen HGz6 1
    have hfz6_2 := blk_frozen HGz6 2
    have hfz6_3 := blk_frozen HGz6 3
    clear HGz6 hgz6
    go_enter Try.func97, Try.ntmps97
    go_wp2
    first | go_end0 | ((try simp only [Exit.inBlock, Exit.then]); refine bodyPost_ret (results_none rfl _ _ _) rfl ?_)
    exact ⟨by first | rfl | (simp [errW_none, errW_some] <;> rfl) | (simp [*, errW_none, errW_some] <;> rfl), by repeat (first | (with_reducible first | exact HI0.out | apply IsS148.alloc | apply IsS148.drewN | apply IsS148.drew | apply IsS148.set_0 | apply IsS148.set_1 | apply IsS148.set_2 | apply IsS148.set_3) | exact HI0.out), by repeat (first | (with_reducible first | exact HB.out | apply below_alloc | apply pw_below_drewN | apply below_drew1 | refine below_set ?_ (IsS148.ge HI0.out)) | exact HB.out), by repeat (first | (with_reducible first | exact HK.out | apply KeepBut.set_ | apply keep_drewN | apply keep_drew | apply keep_alloc) | exact HK.out)⟩
end Go.Proofs.Ytfnjbmpolggdeaa.CD
end
