/-
  jvmcoreref1.Num; the plain laws of a reader's steps.
-/
import Derived.Test.YtfnjbmpolggdeaaPoolR
namespace Go.Proofs.Ytfnjbmpolggdeaa
open Go.RowKit Go.Lib
set_option linter.unusedVariables false
set_option linter.unusedSimpArgs false

set_option maxHeartbeats 2000000 in
set_option maxRecDepth 100000 in
theorem RefNum_any (s : ByteArray) (hs : s.size ≤ 8) (w : World) :
    Calls Try.prog 67 #[.string s] w fun r w' => r = .returned (.int .u64 (numB (bs s) : Nat)) ∧ Below w.heap.size w w' := by
  go_enter Try.func67, Try.ntmps67
  go_wp2_with fail
  go_loopw [3, 4] (fun v i wr => ∃ (k : Nat), k ≤ s.size ∧ i = .int .i64 k ∧ v = .int .u64 (numB ((bs s).take k) : Nat) ∧ wr = w) (fun _ i _ => s.size - (intOf i).toNat)
  case atStart => exact ⟨0, by omega, rfl, rfl, rfl⟩
  case round =>
    obtain ⟨k, hk, rfl, rfl, rfl⟩ := hrel
    by_cases hlt : k < s.size
    · have hkl : k < (bs s).length := by rw [bs_length]; exact hlt
      have hsn : numB ((bs s).take (k + 1)) = numB ((bs s).take k) * 256 + bAt s k := by rw [List.take_succ_eq_append_getElem hkl, numB_snoc, bs_getElem]
      have hlt2 : numB ((bs s).take k) < 72057594037927936 := by
        have h3 := numB_lt ((bs s).take k) (fun b hb => bs_lt s b (List.mem_of_mem_take hb))
        exact Nat.lt_of_lt_of_le h3 (Nat.pow_le_pow_right (by decide) (by rw [List.length_take, bs_length]; omega) : 256 ^ ((bs s).take k).length ≤ 256 ^ 7)
      have hb := bAt_lt s k
      have hc : ∀ h : k < s.size, s[k].toNat = bAt s k := fun h => bAt_eq h
      have HSN := Lib.hid hsn
      clear hsn
      generalize numB ((bs s).take k) = acc at *
      go_wp2
      go_roundw
      case rel => exact ⟨k + 1, by omega, by go_num, by rw [HSN.out]; simp, trivial⟩
      case measure => simp [intOf]; omega
    · obtain rfl : k = s.size := by omega
      have htk : (bs s).take s.size = bs s := List.take_of_length_le (by rw [bs_length]; exact Nat.le_refl _)
      rw [htk]
      clear htk
      go_wp2
      go_ret
      exact ⟨rfl, Below.refl _ _⟩

/-! ### the plain law of a constant's reading -/
theorem takeS_bad {x : S} (h : x.err ≠ 0) (n : Nat) : takeS x n = (⟨#[]⟩, x) := if_pos h
theorem numS_bad {x : S} (h : x.err ≠ 0) (n : Nat) : numS x n = (0, x) := by unfold numS; rw [takeS_bad h]; rfl
theorem failS_bad {x : S} (h : x.err ≠ 0) (e p : Nat) : failS x e p = x := if_neg h
theorem takeS_few {s : ByteArray} {p n : Nat} (h : s.size - p < n) : takeS ⟨s, p, 0, 0⟩ n = (⟨#[]⟩, ⟨s, p, 1, s.size⟩) := by
  unfold takeS; rw [if_neg (by simp), if_pos h]; rfl
theorem takeS_many {s : ByteArray} {p n : Nat} (h : ¬ s.size - p < n) : takeS ⟨s, p, 0, 0⟩ n = (s.extract p (p + n), ⟨s, p + n, 0, 0⟩) := by
  unfold takeS; rw [if_neg (by simp), if_neg h]
theorem numS_few {s : ByteArray} {p n : Nat} (h : s.size - p < n) : numS ⟨s, p, 0, 0⟩ n = (0, ⟨s, p, 1, s.size⟩) := by unfold numS; rw [takeS_few h]; rfl
theorem numS_many {s : ByteArray} {p n : Nat} (h : ¬ s.size - p < n) : numS ⟨s, p, 0, 0⟩ n = (numB (bs (s.extract p (p + n))), ⟨s, p + n, 0, 0⟩) := by unfold numS; rw [takeS_many h]
theorem foldl_app (l : List Nat) : ∀ x, l.foldl (fun x b => x * 256 + b) x = x * 256 ^ l.length + numB l := by
  induction l with
  | nil => intro x; simp [numB]
  | cons b l ih =>
    intro x
    have h1 : numB (b :: l) = b * 256 ^ l.length + numB l := by
      show l.foldl (fun x b => x * 256 + b) (0 * 256 + b) = _
      rw [ih, Nat.zero_mul, Nat.zero_add]
    rw [List.foldl_cons, ih, h1, List.length_cons, Nat.pow_succ, Nat.add_mul, Nat.mul_comm (256 ^ l.length) 256, Nat.mul_assoc, Nat.add_assoc]
theorem numB_append (a b : List Nat) : numB (a ++ b) = numB a * 256 ^ b.length + numB b := by
  rw [numB, List.foldl_append, foldl_app]; rfl
theorem bs_extract_split (s : ByteArray) (p m n : Nat) : bs (s.extract p (p + (m + n))) = bs (s.extract p (p + m)) ++ bs (s.extract (p + m) (p + m + n)) := by
  rw [bs_extract, bs_extract, bs_extract, show p + (m + n) - p = m + n by omega, show p + m - p = m by omega, show p + m + n - (p + m) = n by omega, List.take_add, List.drop_drop]
theorem bs_one {s : ByteArray} {p : Nat} (h : p < s.size) : numB (bs (s.extract p (p + 1))) = bAt s p := by
  have hl : p < (bs s).length := by rw [bs_length]; exact h
  rw [bs_extract, show p + 1 - p = 1 by omega, List.drop_eq_getElem_cons hl, List.take_succ_cons, List.take_zero, bs_getElem]
  simp [numB]
def numE (s : ByteArray) (p n : Nat) : Nat := numB (bs (s.extract p (p + n)))
theorem numE_split {s : ByteArray} {p m n : Nat} (h : p + m + n ≤ s.size) : numE s p (m + n) = numE s p m * 256 ^ n + numE s (p + m) n := by
  unfold numE
  rw [bs_extract_split, numB_append, bs_length, ByteArray.size_extract, show min (p + m + n) s.size - (p + m) = n by omega]

/-- how many bytes stand behind a tag. -/
def sizeN (t : Nat) : Nat := if t = 1 ∨ t = 7 ∨ t = 8 then 2 else if t = 3 ∨ t = 4 ∨ (9 ≤ t ∧ t ≤ 12) then 4 else if t = 5 ∨ t = 6 then 8 else 0
/-- a constant, read as the document has it; or what is wrong and where. -/
def oneR (s : ByteArray) (p : Nat) : Except (Nat × Nat) (K × Nat) :=
  if s.size ≤ p then .error (1, s.size)
  else if sizeN (bAt s p) = 0 then .error (5, p)
  else if s.size < p + 1 + sizeN (bAt s p) then .error (1, s.size)
  else if bAt s p = 1 then
    if s.size < p + 3 + numE s (p + 1) 2 then .error (1, s.size)
    else if (units (bs (s.extract (p + 3) (p + 3 + numE s (p + 1) 2)))).isSome then .ok (⟨1, s.extract (p + 3) (p + 3 + numE s (p + 1) 2), 0, 0, 0⟩, p + 3 + numE s (p + 1) 2)
    else .error (6, p)
  else if bAt s p = 3 ∨ bAt s p = 4 ∨ bAt s p = 5 ∨ bAt s p = 6 then .ok (⟨bAt s p, ⟨#[]⟩, numE s (p + 1) (sizeN (bAt s p)), 0, 0⟩, p + 1 + sizeN (bAt s p))
  else if bAt s p = 7 ∨ bAt s p = 8 then .ok (⟨bAt s p, ⟨#[]⟩, 0, numE s (p + 1) 2, 0⟩, p + 3)
  else .ok (⟨bAt s p, ⟨#[]⟩, 0, numE s (p + 1) 2, numE s (p + 3) 2⟩, p + 5)

theorem oneS_oneR (s : ByteArray) (p : Nat) (hp : p ≤ s.size) :
    match oneR s p with
    | .ok (c, p') => oneS ⟨s, p, 0, 0⟩ = (c, ⟨s, p', 0, 0⟩)
    | .error (e, a) => (oneS ⟨s, p, 0, 0⟩).2.err = e ∧ (oneS ⟨s, p, 0, 0⟩).2.errs = a ∧ e ≠ 0 := by
  unfold oneR
  by_cases h0 : s.size ≤ p
  · rw [if_pos h0]
    have hn : numS ⟨s, p, 0, 0⟩ 1 = (0, ⟨s, p, 1, s.size⟩) := numS_few (by omega)
    unfold oneS
    simp only [hn]
    rw [if_neg (by omega), if_neg (by omega), if_neg (by omega), if_neg (by omega), if_neg (by omega)]
    simp [failS]
  · rw [if_neg h0]
    have hn : numS ⟨s, p, 0, 0⟩ 1 = (bAt s p, ⟨s, p + 1, 0, 0⟩) := by rw [numS_many (by omega), bs_one (by omega)]
    have hlt := bAt_lt s p
    generalize bAt s p = t at *
    unfold oneS
    simp only [hn]
    by_cases h1 : t = 1
    · subst h1
      simp only [show sizeN 1 = 2 from rfl, if_true, show ¬ (2 = 0) by decide, if_false]
      by_cases h2 : s.size < p + 1 + 2
      · simp only [if_pos h2, numS_few (show s.size - (p + 1) < 2 by omega), takeS_bad (x := ⟨s, p + 1, 1, s.size⟩) (by simp), failS_bad (x := ⟨s, p + 1, 1, s.size⟩) (by simp), ite_self]
        simp
      · simp only [if_neg h2, numS_many (show ¬ s.size - (p + 1) < 2 by omega)]
        have hk : numB (bs (s.extract (p + 1) (p + 1 + 2))) = numE s (p + 1) 2 := rfl
        simp only [hk]
        generalize numE s (p + 1) 2 = k at *
        by_cases h3 : s.size < p + 3 + k
        · simp only [if_pos h3, takeS_few (show s.size - (p + 1 + 2) < k by omega), failS_bad (x := ⟨s, p + 1 + 2, 1, s.size⟩) (by simp), ite_self]
          simp
        · simp only [if_neg h3, takeS_many (show ¬ s.size - (p + 1 + 2) < k by omega), show p + 1 + 2 = p + 3 by omega]
          by_cases h4 : (units (bs (s.extract (p + 3) (p + 3 + k)))).isSome = true
          · simp only [if_pos h4]
          · simp only [if_neg h4]
            simp [failS]
    · by_cases h34 : t = 3 ∨ t = 4
      · have e : sizeN t = 4 := by rcases h34 with rfl | rfl <;> rfl
        simp only [e, show ¬ (4 = 0) by decide, if_false, if_neg h1, if_pos h34]
        by_cases h2 : s.size < p + 1 + 4
        · simp only [if_pos h2, numS_few (show s.size - (p + 1) < 4 by omega)]; simp
        · simp only [if_neg h2, numS_many (show ¬ s.size - (p + 1) < 4 by omega), if_pos (show t = 3 ∨ t = 4 ∨ t = 5 ∨ t = 6 by omega)]
          rfl
      · by_cases h56 : t = 5 ∨ t = 6
        · have e : sizeN t = 8 := by rcases h56 with rfl | rfl <;> rfl
          simp only [e, show ¬ (8 = 0) by decide, if_false, if_neg h1, if_neg h34, if_pos h56]
          by_cases h2 : s.size < p + 1 + 8
          · simp only [if_pos h2]
            by_cases h3 : s.size < p + 1 + 4
            · simp only [numS_few (show s.size - (p + 1) < 4 by omega), numS_bad (x := ⟨s, p + 1, 1, s.size⟩) (by simp)]; simp
            · simp only [numS_many (show ¬ s.size - (p + 1) < 4 by omega), numS_few (show s.size - (p + 1 + 4) < 4 by omega)]; simp
          · simp only [if_neg h2, numS_many (show ¬ s.size - (p + 1) < 4 by omega), numS_many (show ¬ s.size - (p + 1 + 4) < 4 by omega), if_pos (show t = 3 ∨ t = 4 ∨ t = 5 ∨ t = 6 by omega)]
            have := numE_split (s := s) (p := p + 1) (m := 4) (n := 4) (by omega)
            rw [this]; rfl
        · by_cases h78 : t = 7 ∨ t = 8
          · have e : sizeN t = 2 := by rcases h78 with rfl | rfl <;> rfl
            simp only [e, show ¬ (2 = 0) by decide, if_false, if_neg h1, if_neg h34, if_neg h56, if_pos h78]
            by_cases h2 : s.size < p + 1 + 2
            · simp only [if_pos h2, numS_few (show s.size - (p + 1) < 2 by omega)]; simp
            · simp only [if_neg h2, numS_many (show ¬ s.size - (p + 1) < 2 by omega), if_neg (show ¬ (t = 3 ∨ t = 4 ∨ t = 5 ∨ t = 6) by omega)]
              rfl
          · by_cases h9 : 9 ≤ t ∧ t ≤ 12
            · have e : sizeN t = 4 := by unfold sizeN; rw [if_neg (by omega), if_pos (by omega)]
              simp only [e, show ¬ (4 = 0) by decide, if_false, if_neg h1, if_neg h34, if_neg h56, if_neg h78, if_pos h9]
              by_cases h2 : s.size < p + 1 + 4
              · simp only [if_pos h2]
                by_cases h3 : s.size < p + 1 + 2
                · simp only [numS_few (show s.size - (p + 1) < 2 by omega), numS_bad (x := ⟨s, p + 1, 1, s.size⟩) (by simp)]; simp
                · simp only [numS_many (show ¬ s.size - (p + 1) < 2 by omega), numS_few (show s.size - (p + 1 + 2) < 2 by omega)]; simp
              · simp only [if_neg h2, numS_many (show ¬ s.size - (p + 1) < 2 by omega), numS_many (show ¬ s.size - (p + 1 + 2) < 2 by omega), if_neg (show ¬ (t = 3 ∨ t = 4 ∨ t = 5 ∨ t = 6) by omega)]
                rfl
            · have e : sizeN t = 0 := by unfold sizeN; rw [if_neg (by omega), if_neg (by omega), if_neg (by omega)]
              simp only [e, if_true, if_neg h1, if_neg h34, if_neg h56, if_neg h78, if_neg h9]
              simp [failS]

def outS (r : List K × S) : List K × Nat × Nat × Nat := if r.2.err = 0 then (r.1, r.2.pos, 0, 0) else ([], 0, r.2.err, r.2.errs)
theorem readS_out (s : ByteArray) : readS s = outS (poolS ⟨s, 0, 0, 0⟩) := rfl
theorem poolL_bad {n : Nat} {l : List K} {y : S} (h : y.err ≠ 0) : poolL n l y = (l, y) := by rw [poolL, dif_neg (fun hh => h hh.2)]
theorem poolL_err {n : Nat} {l : List K} {s : ByteArray} {p e a : Nat} (hl : l.length < n) (hp : p ≤ s.size) (h : oneR s p = .error (e, a)) : outS (poolL n l ⟨s, p, 0, 0⟩) = ([], 0, e, a) := by
  have h1 := oneS_oneR s p hp
  rw [h] at h1
  obtain ⟨h2, h3, h4⟩ := h1
  have hb : (oneS ⟨s, p, 0, 0⟩).2.err ≠ 0 := by omega
  rw [poolL, dif_pos ⟨hl, rfl⟩]
  split
  · rw [failS_bad hb, ite_self, poolL_bad hb]; unfold outS; rw [if_neg hb, h2, h3]
  · rw [poolL_bad hb]; unfold outS; rw [if_neg hb, h2, h3]
theorem poolL_ok {n : Nat} {l : List K} {s : ByteArray} {p p' : Nat} {c : K} (hl : l.length < n) (hp : p ≤ s.size) (h : oneR s p = .ok (c, p')) (h2 : big2 c = false) : poolL n l ⟨s, p, 0, 0⟩ = poolL n (l ++ [c]) ⟨s, p', 0, 0⟩ := by
  have h1 := oneS_oneR s p hp
  rw [h] at h1
  rw [poolL, dif_pos ⟨hl, rfl⟩]
  simp only [h1, h2]
  rfl
theorem poolL_two {n : Nat} {l : List K} {s : ByteArray} {p p' : Nat} {c : K} (hl : l.length + 2 ≤ n) (hp : p ≤ s.size) (h : oneR s p = .ok (c, p')) (h2 : big2 c = true) : poolL n l ⟨s, p, 0, 0⟩ = poolL n (l ++ [c] ++ [K0]) ⟨s, p', 0, 0⟩ := by
  have h1 := oneS_oneR s p hp
  rw [h] at h1
  rw [poolL, dif_pos ⟨by omega, rfl⟩]
  simp only [h1, h2, if_true]
  rw [if_neg (by omega)]
theorem poolL_over {n : Nat} {l : List K} {s : ByteArray} {p p' : Nat} {c : K} (hl : l.length < n) (hl2 : n < l.length + 2) (hp : p ≤ s.size) (h : oneR s p = .ok (c, p')) (h2 : big2 c = true) : outS (poolL n l ⟨s, p, 0, 0⟩) = ([], 0, 12, p) := by
  have h1 := oneS_oneR s p hp
  rw [h] at h1
  rw [poolL, dif_pos ⟨hl, rfl⟩]
  simp only [h1, h2, if_true]
  rw [if_pos hl2, poolL_bad (by simp [failS])]
  simp [outS, failS]
theorem poolL_end {n : Nat} {l : List K} {s : ByteArray} {p : Nat} (hl : ¬ l.length < n) : outS (poolL n l ⟨s, p, 0, 0⟩) = (l, p, 0, 0) := by
  rw [poolL, dif_neg (fun hh => hl hh.1)]; rfl
end Go.Proofs.Ytfnjbmpolggdeaa
