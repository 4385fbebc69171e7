/-
  PoolUnits and PoolTexts: the plain laws (units and texts go round), and the walks of the two statements.
-/
import Derived.Test.YtfnjbmpolggdeaaTexts
namespace Go.Proofs.Ytfnjbmpolggdeaa
open Go.RowKit
set_option linter.unusedVariables false
set_option linter.unusedSimpArgs false

theorem stepU_lt {l : List Nat} (h256 : ∀ x ∈ l, x < 256) : (stepU l).1 < 65536 := by
  unfold stepU
  split
  · rename_i c x y r
    have := h256 c (by simp); have := h256 x (by simp)
    split
    · simp; omega
    · split <;> simp <;> omega
  · rename_i c x
    have := h256 c (by simp)
    split <;> simp <;> omega
  · rename_i c
    have := h256 c (by simp)
    simp; omega
  · simp
theorem stepU_pos (l : List Nat) : 1 ≤ (stepU l).2 := by
  unfold stepU; split <;> (try split) <;> (try split) <;> simp

/-- what units gives fits 16 bits, and is the bytes again as a text. -/
theorem units_round (n : Nat) : ∀ l : List Nat, l.length ≤ n → (∀ x ∈ l, x < 256) → ∀ us, units l = some us → (∀ u ∈ us, u < 65536) ∧ textB us = l := by
  induction n with
  | zero =>
    intro l hl _ us h
    obtain rfl : l = [] := List.eq_nil_of_length_eq_zero (by omega)
    simp [units] at h; subst h; exact ⟨by simp, rfl⟩
  | succ n ih =>
    intro l hl h256 us h
    by_cases hne : l = []
    · subst hne; simp [units] at h; subst h; exact ⟨by simp, rfl⟩
    · rw [units_step hne h256] at h
      by_cases he : unitB (stepU l).1 = l.take (stepU l).2
      · rw [if_pos he] at h
        obtain ⟨us', hus, rfl⟩ := Option.map_eq_some_iff.1 h
        have hp := stepU_pos l
        obtain ⟨h1, h2⟩ := ih (l.drop (stepU l).2) (by have : l.length ≠ 0 := fun h => hne (List.eq_nil_of_length_eq_zero h); simp; omega) (fun x hx => h256 x (List.mem_of_mem_drop hx)) us' hus
        refine ⟨fun u hu => ?_, ?_⟩
        · rcases List.mem_cons.1 hu with rfl | hu
          · exact stepU_lt h256
          · exact h1 u hu
        · rw [show textB ((stepU l).1 :: us') = unitB (stepU l).1 ++ textB us' by simp [textB], h2, he, List.take_append_drop]
      · rw [if_neg he] at h; exact absurd h (by simp)

theorem units_unitB {u : Nat} (hu : u < 65536) (r : List Nat) : units (unitB u ++ r) = (units r).map (u :: ·) := by
  unfold unitB
  split
  · rename_i h; exact units_A h
  · rename_i h
    split
    · show units ((192 + u / 64) :: (128 + u % 64) :: r) = _
      rw [units_B (by omega) (by omega), if_pos (by omega)]
      have : (192 + u / 64) % 32 * 64 + (128 + u % 64) % 64 = u := by omega
      rw [this]
    · show units ((224 + u / 4096) :: (128 + u / 64 % 64) :: (128 + u % 64) :: r) = _
      rw [units_C (by omega) (by omega) (by omega), if_pos (by omega)]
      have : (224 + u / 4096) % 16 * 4096 + (128 + u / 64 % 64) % 64 * 64 + (128 + u % 64) % 64 = u := by omega
      rw [this]
/-- units as a text are read back. -/
theorem units_textB : ∀ us : List Nat, (∀ u ∈ us, u < 65536) → units (textB us) = some us := by
  intro us
  induction us with
  | nil => intro _; rfl
  | cons u us ih =>
    intro h
    rw [show textB (u :: us) = unitB u ++ textB us by simp [textB], units_unitB (h u (by simp)), ih (fun x hx => h x (by simp [hx]))]; rfl
theorem textB_lt (us : List Nat) (h : ∀ u ∈ us, u < 65536) : ∀ x ∈ textB us, x < 256 := by
  intro x hx
  simp only [textB, List.mem_flatMap] at hx
  obtain ⟨u, hu, hx⟩ := hx
  exact unitB_lt (h u hu) x hx

theorem textB_ge (us : List Nat) : us.length ≤ (textB us).length := by
  induction us with
  | nil => simp
  | cons u l ih =>
    have : 1 ≤ (unitB u).length := by unfold unitB; split; simp; split <;> simp
    simp only [textB, List.flatMap_cons, List.length_append, List.length_cons] at ih ⊢; omega
theorem units_len (s : ByteArray) : ((units (bs s)).getD []).length ≤ s.size := by
  cases hu : units (bs s) with
  | none => simp
  | some us =>
    have h1 := units_round _ (bs s) (Nat.le_refl _) (bs_lt s) us hu
    have h2 := textB_ge us
    rw [h1.2, bs_length] at h2; simpa using h2

set_option maxHeartbeats 2000000 in
set_option maxRecDepth 100000 in
theorem PoolUnits_walk (s : ByteArray) (hs : s.size ≤ maxLen) (w : World) :
    Calls Try.prog 4 #[.string s] w fun e w' => e = .returned (.bool true) ∧ Below w.heap.size w w' := by
  unfold maxLen at hs
  by_cases hbig : 32768 < s.size
  · have : (32768 : Int) < s.size := by omega
    go_enter Try.func4, Try.ntmps4
    go_wp2
    go_ret
    exact ⟨rfl, Below.refl _ _⟩
  · have hsz : (s.size : Int) ≤ 32768 := by omega
    obtain ⟨us, hus⟩ : ∃ us, (units (bs s)).getD [] = us := ⟨_, rfl⟩
    obtain ⟨b, hb⟩ : ∃ b, (units (bs s)).isSome = b := ⟨_, rfl⟩
    have HU := Lib.hid hus
    have HB := Lib.hid hb
    clear hus hb
    go_enter Try.func4, Try.ntmps4
    go_wp2_with fail
    refine (Units_any s _ (by omega)).mono ?_
    rintro e w1 ⟨v1, b1, rfl, rfl, hown1, hbel1⟩
    rw [HU.out] at hown1
    rw [HB.out]
    go_wp2_with fail
    refine (RefUnits_any s _ (by omega)).mono ?_
    rintro e w2 ⟨v2, b2, rfl, rfl, hown2, hbel2⟩
    rw [HU.out] at hown2
    rw [HB.out]
    have r1 := (Rd.own hown1).below hbel2 (Nat.le_refl _)
    have r2 := Rd.own hown2
    have hs12 := hbel2.size
    have hb2 : Below w.heap.size w w2 := hbel1.trans (hbel2.mono hbel1.size)
    obtain ⟨a1, c1, rfl, hr1⟩ := id r1
    obtain ⟨a2, c2, rfl, hr2⟩ := id r2
    have hlen : us.length ≤ 32768 := by have := units_len s; rw [HU.out] at this; omega
    have Hlen := Lib.hid hlen
    go_wp2_with fail
    go_loopw [33] (fun i wr => ∃ k : Nat, k ≤ us.length ∧ i = .int .i64 k ∧ Below w2.heap.size w2 wr) (fun i _ => us.length - (intOf i).toNat)
    case atStart => exact ⟨0, by omega, rfl, Below.refl _ _⟩
    case round =>
      obtain ⟨k, hk, rfl, hbr⟩ := hrel
      have hsr := hbr.size
      by_cases hlt : k < us.length
      · have r1' := r1.below hbr hs12
        have r2' := r2.below hbr (Nat.le_refl _)
        obtain ⟨_, _, he1, hr1'⟩ := r1'
        obtain ⟨_, _, he2, hr2'⟩ := r2'
        simp only [Value.slice.injEq] at he1 he2
        obtain ⟨rfl, _, rfl⟩ := he1
        obtain ⟨rfl, _, rfl⟩ := he2
        rcases hr1' with hr1' | ⟨b1, o1, rfl, hbB1, hcell1⟩
        · simp [u16s] at hr1'; rw [hr1'] at hlt; simp at hlt
        rcases hr2' with hr2' | ⟨b2, o2, rfl, hbB2, hcell2⟩
        · simp [i64s] at hr2'; rw [hr2'] at hlt; simp at hlt
        have hc1 : wr.cell? ⟨b1, o1 + k, none⟩ = some (.int .u16 (us[k] : Nat)) := hcell1 k _ (by simp [u16s, hlt])
        have hc2 : wr.cell? ⟨b2, o2 + k, none⟩ = some (.int .i64 (us[k] : Nat)) := hcell2 k _ (by simp [i64s, hlt])
        clear hcell1 hcell2 hr1 hr2
        have hu16 : us[k] < 65536 := by
          cases hu : units (bs s) with
          | none => have := HU.out; rw [hu] at this; simp at this; subst this; simp at hlt
          | some us' =>
            have h1 := units_round _ (bs s) (Nat.le_refl _) (bs_lt s) us' hu
            have h2 : us' = us := by rw [← HU.out, hu]; rfl
            subst h2
            exact h1.1 _ (List.getElem_mem _)
        generalize us[k] = u at *
        have i1 : (k : Int) < (us.length : Int) := by omega
        go_wp2_with fail
        go_quiet (fail)
        go_wp2
        go_roundw
        case rel => exact ⟨k + 1, by omega, by go_num, below_drewN hbr _⟩
        case measure => simp [intOf]; omega
      · cases b with
        | false =>
          go_wp2
          go_ret
          exact ⟨rfl, hb2.trans (hbr.mono (by have := hb2.size; omega))⟩
        | true =>
          obtain ⟨us', hu⟩ := Option.isSome_iff_exists.1 HB.out
          have h1 := units_round _ (bs s) (Nat.le_refl _) (bs_lt s) us' hu
          have h2 : us' = us := by rw [← HU.out, hu]; rfl
          subst h2
          have hT : (sb (textB us')).toList = s.toList := by rw [h1.2, sb_bs]
          have HT := Lib.hid hT
          have h16 := Lib.hid h1.1
          clear hT h1 hr1 hr2 hu
          go_wp2_with fail
          refine (Text_any us' h16.out _ _ w2.heap.size ((r1.below hbr hs12).mono hs12) hsr (by omega)).mono ?_
          rintro e w3 ⟨rfl, hb3⟩
          go_wp2
          go_ret
          exact ⟨by simp [HT.out], (hb2.trans (hbr.mono (by have := hb2.size; omega))).trans (hb3.mono (by have := hb2.size; omega))⟩
end Go.Proofs.Ytfnjbmpolggdeaa
