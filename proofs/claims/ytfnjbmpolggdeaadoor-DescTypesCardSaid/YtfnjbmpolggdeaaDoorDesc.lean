/-
  Names and descriptors on lists of bytes: plain laws.
-/
import Derived.Lib.IndexAny
import Derived.Lib.IndexBytes
import Derived.Lib.Split
import Derived.Lib.SplitLaws
namespace Go.Proofs.YtfnjbmpolggdeaaDoor
open Go.Lib
set_option linter.unusedVariables false
set_option linter.unusedSimpArgs false

/-! ### signs -/
theorem indexAny_iff (c : List UInt8) : ∀ l : List UInt8, (0 ≤ indexAny l c) ↔ l.any (fun b => c.contains b) = true
  | [] => by simp [indexAny]
  | b :: l => by
    have ih := indexAny_iff c l
    have hg := indexAny_ge c l
    unfold indexAny
    rw [List.any_cons]
    cases h : c.contains b with
    | true => simp
    | false =>
      rw [if_neg (by simp), Bool.false_or, ← ih]
      split
      · rename_i h1; have := beq_iff_eq.1 h1; constructor <;> intro h2 <;> omega
      · rename_i h1
        have : ¬ indexAny l c = -1 := fun e => h1 (by rw [e]; rfl)
        constructor <;> intro h2 <;> omega
def hasB (l c : List UInt8) : Bool := l.any fun b => c.contains b
def partL (l : List UInt8) : Bool := !l.isEmpty && !hasB l [46, 59, 91, 47]

/-! ### parts between slashes -/
def segs : List UInt8 → List (List UInt8)
  | [] => [[]]
  | c :: l => if c = 47 then [] :: segs l else match segs l with | [] => [[c]] | p :: ps => (c :: p) :: ps
theorem segs_ne (l : List UInt8) : segs l ≠ [] := by
  cases l with
  | nil => simp [segs]
  | cons c l => unfold segs; split; simp; split <;> simp
theorem segs_slash (l : List UInt8) : segs (47 :: l) = [] :: segs l := by simp [segs]
theorem segs_app {a l : List UInt8} (ha : ∀ b ∈ a, b ≠ 47) : ∀ p ps, segs l = p :: ps → segs (a ++ l) = (a ++ p) :: ps := by
  induction a with
  | nil => intro p ps h; exact h
  | cons c a ih =>
    intro p ps h
    have := ih (fun b hb => ha b (by simp [hb])) p ps h
    rw [List.cons_append, segs, if_neg (ha c (by simp)), this]; rfl
theorem segs_one {a : List UInt8} (ha : ∀ b ∈ a, b ≠ 47) : segs a = [a] := by
  have := segs_app (l := []) ha [] [] rfl
  rwa [List.append_nil] at this
theorem segs_cut {a l : List UInt8} (ha : ∀ b ∈ a, b ≠ 47) : segs (a ++ 47 :: l) = a :: segs l := by
  have := segs_app (l := 47 :: l) ha [] (segs l) (segs_slash l)
  rwa [List.append_nil] at this
theorem indexByte_cases (l : List UInt8) (c : UInt8) : (indexByte l c = -1 ∧ ∀ b ∈ l, b ≠ c) ∨ ∃ m : Nat, indexByte l c = m ∧ m < l.length ∧ (∀ b ∈ l.take m, b ≠ c) ∧ l.drop m = c :: l.drop (m + 1) := by
  induction l with
  | nil => exact .inl ⟨rfl, by simp⟩
  | cons b l ih =>
    unfold indexByte
    by_cases h : b = c
    · subst h
      exact .inr ⟨0, by simp, by simp, by simp, by simp⟩
    · rw [if_neg (by simpa using h)]
      rcases ih with ⟨h1, h2⟩ | ⟨m, h1, h2, h3, h4⟩
      · left
        rw [h1]
        refine ⟨rfl, fun x hx => ?_⟩
        rcases List.mem_cons.1 hx with rfl | hx
        · exact h
        · exact h2 x hx
      · right
        refine ⟨m + 1, ?_, by simp; omega, fun x hx => ?_, by simpa using h4⟩
        · rw [h1, if_neg (by simp)]; simp
        · rw [List.take_succ_cons] at hx
          rcases List.mem_cons.1 hx with rfl | hx
          · exact h
          · exact h3 x hx
theorem splitK_segs : ∀ (k : Nat) (l : List UInt8), l.count 47 = k → splitK [47] 0 k l = segs l
  | 0, l, h => by
    rw [splitK, segs_one (fun b hb e => by subst e; exact (Nat.ne_of_gt (List.count_pos_iff.2 hb)) h)]
  | k + 1, l, h => by
    rcases indexByte_cases l 47 with ⟨h1, h2⟩ | ⟨m, h1, h2, h3, h4⟩
    · exact absurd (List.count_eq_zero.2 (fun hb => h2 47 hb rfl)) (by omega)
    · have hl : l = l.take m ++ 47 :: l.drop (m + 1) := by rw [← h4, List.take_append_drop]
      have hc : (l.drop (m + 1)).count 47 = k := by
        have h5 : (l.take m).count 47 = 0 := List.count_eq_zero.2 (fun hb => h3 47 hb rfl)
        have h6 : l.count 47 = (l.take m).count 47 + (47 :: l.drop (m + 1)).count 47 := by
          conv => lhs; rw [hl]
          rw [List.count_append]
        rw [List.count_cons_self] at h6
        omega
      rw [splitK, index_one, h1, if_neg (by simp)]
      have e1 : ((m : Int)).toNat = m := by omega
      rw [e1, Nat.add_zero, show m + ([47] : List UInt8).length = m + 1 from rfl, splitK_segs k _ hc]
      conv => rhs; rw [hl]
      rw [segs_cut h3]
theorem split_segs (l : List UInt8) : splitK [47] 0 (l.count 47) l = segs l := splitK_segs _ l rfl
def pathL (l : List UInt8) : Bool := (segs l).all partL
theorem partL_noslash {l : List UInt8} (h : ∀ b ∈ l, b ≠ 47) : partL l = ((l.all fun b => !([46, 59, 91] : List UInt8).contains b) && !l.isEmpty) := by
  have e : hasB l [46, 59, 91, 47] = hasB l [46, 59, 91] := by
    unfold hasB
    rw [Bool.eq_iff_iff, List.any_eq_true, List.any_eq_true]
    constructor
    · rintro ⟨b, hb, hc⟩
      refine ⟨b, hb, ?_⟩
      have := h b hb
      simp at hc ⊢
      rcases hc with hc | hc | hc | hc
      · exact .inl hc
      · exact .inr (.inl hc)
      · exact .inr (.inr hc)
      · exact absurd hc this
    · rintro ⟨b, hb, hc⟩
      refine ⟨b, hb, ?_⟩
      simp at hc ⊢
      rcases hc with hc | hc | hc
      · exact .inl hc
      · exact .inr (.inl hc)
      · exact .inr (.inr (.inl hc))
  have e2 : (l.all fun b => !([46, 59, 91] : List UInt8).contains b) = !hasB l [46, 59, 91] := by
    unfold hasB
    rw [Bool.eq_iff_iff]
    simp [List.any_eq_true, List.all_eq_true]
  unfold partL
  rw [e, e2, Bool.and_comm]

/-! ### the descriptor of a value -/
def valB (b : UInt8) : Bool := ([66, 67, 68, 70, 73, 74, 83, 90] : List UInt8).contains b
/-- the length of a class's name and the sign behind it, and one. -/
def lenL (l : List UInt8) : Nat := match indexByte l 59 with | .ofNat m => if pathL (l.take m) then m + 2 else 0 | _ => 0
theorem lenL_none {l : List UInt8} (h : indexByte l 59 = -1) : lenL l = 0 := by unfold lenL; rw [h]; rfl
theorem lenL_some {l : List UInt8} {m : Nat} (h : indexByte l 59 = m) : lenL l = if pathL (l.take m) then m + 2 else 0 := by unfold lenL; rw [h]
/-- the length of the descriptor of a value with which a text begins, behind d brackets; 0: none. -/
def oneL : List UInt8 → Nat → Nat
  | [], d => 0
  | b :: l, d =>
    if 255 < d then 0
    else if valB b then 1
    else if b = 91 then (if oneL l (d + 1) = 0 then 0 else oneL l (d + 1) + 1)
    else if b = 76 then lenL l
    else 0
theorem oneL_le : ∀ (l : List UInt8) (d : Nat), oneL l d ≤ l.length
  | [], _ => Nat.le_refl _
  | b :: l, d => by
    have ih := oneL_le l (d + 1)
    unfold oneL
    split
    · simp
    · split
      · simp
      · split
        · split <;> simp <;> omega
        · split
          · rcases indexByte_cases l 59 with ⟨h1, _⟩ | ⟨m, h1, h2, _⟩
            · rw [lenL_none h1]; exact Nat.zero_le _
            · rw [lenL_some h1]
              split <;> simp <;> omega
          · simp
def fieldL (l : List UInt8) : Bool := !l.isEmpty && (oneL l 0 == l.length)
def slotsL (l : List UInt8) : Nat := if l = [86] then 0 else if l = [74] ∨ l = [68] then 2 else 1
/-- how many brackets a text begins with. -/
def brs : List UInt8 → Nat
  | [] => 0
  | b :: l => if b = 91 then brs l + 1 else 0
theorem brs_le (l : List UInt8) : brs l ≤ l.length := by
  induction l with
  | nil => exact Nat.le_refl _
  | cons b l ih => unfold brs; split <;> simp <;> omega
/-- behind the brackets. -/
def tailL (l : List UInt8) : Nat :=
  match l with
  | [] => 0
  | b :: l => if valB b then 1 else if b = 76 then lenL l else 0
theorem tailL_cons (b : UInt8) (l : List UInt8) : tailL (b :: l) = if valB b then 1 else if b = 76 then lenL l else 0 := rfl
theorem oneL_brs : ∀ (l : List UInt8) (d : Nat), oneL l d = if 255 < d + brs l ∨ brs l = l.length then 0 else if tailL (l.drop (brs l)) = 0 then 0 else brs l + tailL (l.drop (brs l))
  | [], d => by simp [oneL, brs]
  | b :: l, d => by
    have ih := oneL_brs l (d + 1)
    have hv : valB 91 = false := by decide
    by_cases hb : b = 91
    · subst hb
      have e : brs (91 :: l) = brs l + 1 := by simp [brs]
      rw [e, List.length_cons, List.drop_succ_cons]
      unfold oneL
      rw [hv]
      by_cases h1 : 255 < d
      · rw [if_pos h1, if_pos (.inl (by omega))]
      · rw [if_neg h1, if_neg (by simp), if_pos rfl, ih]
        by_cases h2 : 255 < d + 1 + brs l ∨ brs l = l.length
        · rw [if_pos h2, if_pos rfl, if_pos (by rcases h2 with h2 | h2; exact .inl (by omega); exact .inr (by omega))]
        · rw [if_neg h2, if_neg (c := 255 < d + (brs l + 1) ∨ brs l + 1 = l.length + 1) (fun h => h2 (by rcases h with h | h; exact .inl (by omega); exact .inr (by omega)))]
          by_cases h3 : tailL (l.drop (brs l)) = 0
          · simp only [if_pos h3, if_pos trivial]
          · simp only [if_neg h3]; rw [if_neg (by omega)]; omega
    · have e : brs (b :: l) = 0 := by simp [brs, hb]
      rw [e, List.drop_zero]
      unfold oneL
      by_cases h1 : 255 < d
      · rw [if_pos h1, if_pos (.inl (by omega))]
      · rw [if_neg h1, if_neg (c := 255 < d + 0 ∨ 0 = (b :: l).length) (by simp; omega), if_neg hb]
        have : tailL (b :: l) = (if valB b then 1 else if b = 76 then lenL l else 0) := rfl
        rw [← this]
        split <;> omega
theorem segs_le : ∀ (l : List UInt8), ∀ p ∈ segs l, p.length ≤ l.length
  | [], p, h => by simp [segs] at h; subst h; simp
  | c :: l, p, h => by
    have ih := segs_le l
    unfold segs at h
    split at h
    · rcases List.mem_cons.1 h with rfl | h
      · simp
      · have := ih p h; simp; omega
    · cases hs : segs l with
      | nil => exact absurd hs (segs_ne l)
      | cons q qs =>
        rw [hs] at h ih
        rcases List.mem_cons.1 h with rfl | h
        · have := ih q (by simp); simp; omega
        · have := ih p (by simp [h]); simp; omega
end Go.Proofs.YtfnjbmpolggdeaaDoor
