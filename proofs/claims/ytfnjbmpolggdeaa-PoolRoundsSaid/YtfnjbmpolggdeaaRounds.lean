/-
  Plain laws of pools: what is read is written as it was, and read again.
-/
import Derived.Test.YtfnjbmpolggdeaaRefPoolR
namespace Go.Proofs.Ytfnjbmpolggdeaa
open Go.RowKit
set_option linter.unusedVariables false
set_option linter.unusedSimpArgs false

theorem bigB_numB : ∀ (n : Nat) (l : List Nat), l.length = n → (∀ b ∈ l, b < 256) → bigB (numB l) n = l
  | 0, l, h, _ => by rw [List.eq_nil_of_length_eq_zero h]; rfl
  | n + 1, l, h, hb => by
    rcases List.eq_nil_or_concat l with rfl | ⟨m, b, rfl⟩
    · simp at h
    · have hm : m.length = n := by simpa using h
      have hb1 : b < 256 := hb b (by simp)
      rw [List.concat_eq_append, numB_snoc, bigB, show (numB m * 256 + b) / 256 = numB m by omega, show (numB m * 256 + b) % 256 = b by omega, bigB_numB n m hm (fun x hx => hb x (by simp [hx]))]
theorem ext_length {s : ByteArray} {p n : Nat} (h : p + n ≤ s.size) : (bs (s.extract p (p + n))).length = n := by rw [bs_length, ByteArray.size_extract]; omega
theorem bigB_numE {s : ByteArray} {p n : Nat} (h : p + n ≤ s.size) : bigB (numE s p n) n = bs (s.extract p (p + n)) :=
  bigB_numB n _ (ext_length h) (bs_lt _)
theorem ext_one {s : ByteArray} {p : Nat} (h : p < s.size) : bs (s.extract p (p + 1)) = [bAt s p] := by
  have hl : p < (bs s).length := by rw [bs_length]; exact h
  rw [bs_extract, show p + 1 - p = 1 by omega, List.drop_eq_getElem_cons hl, List.take_succ_cons, List.take_zero, bs_getElem]
theorem ext_cons {s : ByteArray} {p n : Nat} (h : p < s.size) : bs (s.extract p (p + (1 + n))) = bAt s p :: bs (s.extract (p + 1) (p + 1 + n)) := by
  rw [bs_extract_split, ext_one h]; rfl
theorem ext_app {s : ByteArray} {p q r : Nat} (h1 : p ≤ q) (h2 : q ≤ r) : bs (s.extract p r) = bs (s.extract p q) ++ bs (s.extract q r) := by
  have := bs_extract_split s p (q - p) (r - q)
  rwa [show p + (q - p + (r - q)) = r by omega, show p + (q - p) = q by omega, show q + (r - q) = r by omega] at this
theorem ext_nil (s : ByteArray) (p : Nat) : bs (s.extract p p) = [] := by rw [bs_extract, Nat.sub_self, List.take_zero]

/-! ### one constant -/
theorem oneR_ok {s : ByteArray} {p : Nat} {r : K × Nat} (h : oneR s p = .ok r) : p < s.size ∧ sizeN (bAt s p) ≠ 0 ∧ p + 1 + sizeN (bAt s p) ≤ s.size ∧
    ((bAt s p = 1 ∧ p + 3 + numE s (p + 1) 2 ≤ s.size ∧ (units (bs (s.extract (p + 3) (p + 3 + numE s (p + 1) 2)))).isSome = true ∧ r = (⟨1, s.extract (p + 3) (p + 3 + numE s (p + 1) 2), 0, 0, 0⟩, p + 3 + numE s (p + 1) 2)) ∨
     ((bAt s p = 3 ∨ bAt s p = 4 ∨ bAt s p = 5 ∨ bAt s p = 6) ∧ r = (⟨bAt s p, ⟨#[]⟩, numE s (p + 1) (sizeN (bAt s p)), 0, 0⟩, p + 1 + sizeN (bAt s p))) ∨
     ((bAt s p = 7 ∨ bAt s p = 8) ∧ r = (⟨bAt s p, ⟨#[]⟩, 0, numE s (p + 1) 2, 0⟩, p + 3)) ∨
     ((9 ≤ bAt s p ∧ bAt s p ≤ 12) ∧ r = (⟨bAt s p, ⟨#[]⟩, 0, numE s (p + 1) 2, numE s (p + 3) 2⟩, p + 5))) := by
  unfold oneR at h
  split at h
  · cases h
  · split at h
    · cases h
    · split at h
      · cases h
      · rename_i h1 h2 h3
        refine ⟨by omega, h2, by omega, ?_⟩
        split at h
        · rename_i h4
          split at h
          · cases h
          · split at h
            · rename_i h5 h6
              exact .inl ⟨h4, by omega, h6, (Except.ok.inj h).symm⟩
            · cases h
        · split at h
          · rename_i h4 h5
            exact .inr (.inl ⟨h5, (Except.ok.inj h).symm⟩)
          · split at h
            · rename_i h4 h5 h6
              exact .inr (.inr (.inl ⟨h6, (Except.ok.inj h).symm⟩))
            · rename_i h4 h5 h6
              refine .inr (.inr (.inr ⟨?_, (Except.ok.inj h).symm⟩))
              revert h2; unfold sizeN; split <;> (try split) <;> (try split) <;> omega
theorem sizeN_1 {t : Nat} (h : t = 1 ∨ t = 7 ∨ t = 8) : sizeN t = 2 := by unfold sizeN; rw [if_pos h]
theorem sizeN_4 {t : Nat} (h : t = 3 ∨ t = 4) : sizeN t = 4 := by unfold sizeN; rw [if_neg (by omega), if_pos (by omega)]
theorem sizeN_9 {t : Nat} (h : 9 ≤ t ∧ t ≤ 12) : sizeN t = 4 := by unfold sizeN; rw [if_neg (by omega), if_pos (by omega)]
theorem sizeN_8 {t : Nat} (h : t = 5 ∨ t = 6) : sizeN t = 8 := by unfold sizeN; rw [if_neg (by omega), if_neg (by omega), if_pos h]
theorem numE2 {s : ByteArray} {p : Nat} : numE s p 2 < 65536 := numE_lt

theorem oneR_bytes {s : ByteArray} {p p' : Nat} {c : K} (hs : s.size ≤ 1099511627776) (h : oneR s p = .ok (c, p')) :
    p < p' ∧ p' ≤ s.size ∧ c.tag ≠ 0 ∧ kerr c = 0 ∧ kbytes c = bs (s.extract p p') ∧ c.ok := by
  obtain ⟨h1, h2, h3, h4⟩ := oneR_ok h
  have hb := bAt_lt s p
  have e2 := @numE2 s (p + 1)
  have e3 := @numE2 s (p + 3)
  rcases h4 with ⟨t, h5, h6, hr⟩ | ⟨t, hr⟩ | ⟨t, hr⟩ | ⟨t, hr⟩
  · injection hr with hc hp
    subst hc hp
    rw [t] at h3
    have hz : (s.extract (p + 3) (p + 3 + numE s (p + 1) 2)).size = numE s (p + 1) 2 := by rw [ByteArray.size_extract]; omega
    refine ⟨by omega, h5, by simp, ?_, ?_, ⟨by simp, by simp only [hz]; omega, by simp, by simp, by simp⟩⟩
    · unfold kerr
      simp only [if_true]
      rw [if_neg (by rw [Option.isNone_iff_eq_none]; intro hh; rw [hh] at h6; cases h6), if_neg (by rw [hz]; omega)]
    · have hk : kbytes ⟨1, s.extract (p + 3) (p + 3 + numE s (p + 1) 2), 0, 0, 0⟩ = 1 :: (bigB (numE s (p + 1) 2) 2 ++ bs (s.extract (p + 3) (p + 3 + numE s (p + 1) 2))) := by
        unfold kbytes; simp only [if_true]; rw [hz]
      rw [hk, bigB_numE (by omega), ext_app (p := p) (q := p + (1 + 2)) (by omega) (by omega : p + (1 + 2) ≤ p + 3 + numE s (p + 1) 2), ext_cons h1, t]
      rfl
  · injection hr with hc hp
    subst hc hp
    have hE := @numE_lt s (p + 1) (sizeN (bAt s p))
    refine ⟨by omega, h3, by simp only []; omega, ?_, ?_, ?_⟩
    · unfold kerr
      simp only []
      rw [if_neg (by omega)]
      split
      · rename_i h34
        rw [sizeN_4 h34] at hE ⊢
        rw [if_neg (by omega)]
      · rw [if_pos (by omega)]
    · rw [show p + 1 + sizeN (bAt s p) = p + (1 + sizeN (bAt s p)) by omega, ext_cons h1, ← bigB_numE (by omega : p + 1 + sizeN (bAt s p) ≤ s.size)]
      unfold kbytes
      simp only []
      rw [if_neg (by omega)]
      by_cases h34 : bAt s p = 3 ∨ bAt s p = 4
      · rw [if_pos h34, sizeN_4 h34]
      · have h56 : bAt s p = 5 ∨ bAt s p = 6 := by omega
        rw [if_neg h34, if_pos h56, sizeN_8 h56]
    · refine ⟨hb, by show (0 : Nat) ≤ _; omega, ?_, by simp, by simp⟩
      simp only []
      have h8 : sizeN (bAt s p) ≤ 8 := by unfold sizeN; split <;> (try split) <;> (try split) <;> omega
      exact Nat.lt_of_lt_of_le hE (Nat.pow_le_pow_right (by decide) h8 : 256 ^ sizeN (bAt s p) ≤ 256 ^ 8)
  · injection hr with hc hp
    subst hc hp
    rw [sizeN_1 (.inr t)] at h3
    refine ⟨by omega, by omega, by simp only []; omega, ?_, ?_, ⟨hb, by show (0 : Nat) ≤ _; omega, by simp, e2, by simp⟩⟩
    · unfold kerr; simp only []; rw [if_neg (by omega), if_neg (by omega), if_pos (by omega)]
    · rw [show p + 3 = p + (1 + 2) by omega, ext_cons h1, ← bigB_numE (by omega : p + 1 + 2 ≤ s.size)]
      unfold kbytes
      simp only []
      rw [if_neg (by omega), if_neg (by omega), if_neg (by omega), if_pos t]
  · injection hr with hc hp
    subst hc hp
    rw [sizeN_9 t] at h3
    refine ⟨by omega, by omega, by simp only []; omega, ?_, ?_, ⟨hb, by show (0 : Nat) ≤ _; omega, by simp, e2, e3⟩⟩
    · unfold kerr; simp only []; rw [if_neg (by omega), if_neg (by omega), if_pos (by omega)]
    · rw [show p + 5 = p + (1 + 4) by omega, ext_cons h1, ← bigB_numE (by omega : p + 1 + 4 ≤ s.size)]
      have := numE_split (s := s) (p := p + 1) (m := 2) (n := 2) (by omega)
      rw [show (2 : Nat) + 2 = 4 by omega, show p + 1 + 2 = p + 3 by omega] at this
      rw [this]
      unfold kbytes
      simp only []
      rw [if_neg (by omega), if_neg (by omega), if_neg (by omega), if_neg (by omega)]

/-! ### strings that begin alike -/
def agree (s s' : ByteArray) (n : Nat) : Prop := n ≤ s.size ∧ n ≤ s'.size ∧ (bs s).take n = (bs s').take n
theorem agree.mono {s s' : ByteArray} {n m : Nat} (h : agree s s' n) (hm : m ≤ n) : agree s s' m := by
  refine ⟨Nat.le_trans hm h.1, Nat.le_trans hm h.2.1, ?_⟩
  have := congrArg (List.take m) h.2.2
  rwa [List.take_take, List.take_take, Nat.min_eq_left hm] at this
theorem agree.ext {s s' : ByteArray} {n p q : Nat} (h : agree s s' n) (hq : q ≤ n) : s.extract p q = s'.extract p q := by
  apply bs_inj
  have h2 := (h.mono hq).2.2
  have e : ∀ t : ByteArray, bs (t.extract p q) = ((bs t).take q).drop p := fun t => by rw [bs_extract, ← List.drop_take]
  rw [e, e, h2]
theorem agree.at {s s' : ByteArray} {n p : Nat} (h : agree s s' n) (hp : p < n) : bAt s p = bAt s' p := by
  have h1 := h.ext (p := p) (q := p + 1) (by omega)
  have h2 := ext_one (s := s) (p := p) (by have := h.1; omega)
  have h3 := ext_one (s := s') (p := p) (by have := h.2.1; omega)
  rw [h1, h3] at h2
  exact (List.cons.inj h2).1.symm
theorem agree.num {s s' : ByteArray} {n p k : Nat} (h : agree s s' n) (hp : p + k ≤ n) : numE s p k = numE s' p k := by
  unfold numE; rw [h.ext hp]
theorem oneR_agree {s s' : ByteArray} {n p p' : Nat} {c : K} (hs : s.size ≤ 1099511627776) (h : oneR s p = .ok (c, p')) (ha : agree s s' n) (hp : p' ≤ n) : oneR s' p = .ok (c, p') := by
  obtain ⟨g1, g2, -⟩ := oneR_bytes hs h
  obtain ⟨h1, h2, h3, h4⟩ := oneR_ok h
  have hz := ha.2.1
  have e0 : bAt s p = bAt s' p := ha.at (by omega)
  unfold oneR
  rw [← e0, if_neg (by omega), if_neg h2]
  rcases h4 with ⟨t, h5, h6, hr⟩ | ⟨t, hr⟩ | ⟨t, hr⟩ | ⟨t, hr⟩
  · injection hr with hc hq
    subst hc hq
    have e1 : numE s (p + 1) 2 = numE s' (p + 1) 2 := ha.num (by omega)
    rw [sizeN_1 (.inl t), if_neg (by omega), if_pos t, ← e1, if_neg (by omega), ← ha.ext hp, if_pos h6]
  · injection hr with hc hq
    subst hc hq
    have e1 : numE s (p + 1) (sizeN (bAt s p)) = numE s' (p + 1) (sizeN (bAt s p)) := ha.num hp
    rw [if_neg (by omega), if_neg (by omega), if_pos t, ← e1]
  · injection hr with hc hq
    subst hc hq
    have e1 : numE s (p + 1) 2 = numE s' (p + 1) 2 := ha.num (by omega)
    rw [sizeN_1 (.inr t), if_neg (by omega), if_neg (by omega), if_neg (by omega), if_pos t, ← e1]
  · injection hr with hc hq
    subst hc hq
    have e1 : numE s (p + 1) 2 = numE s' (p + 1) 2 := ha.num (by omega)
    have e2 : numE s (p + 3) 2 = numE s' (p + 3) 2 := ha.num (by omega)
    rw [sizeN_9 t, if_neg (by omega), if_neg (by omega), if_neg (by omega), if_neg (by omega), ← e1, ← e2]

/-! ### the pool -/
theorem oneR_err {s : ByteArray} {p e a : Nat} (hp : p ≤ s.size) (h : oneR s p = .error (e, a)) : e ≠ 0 := by
  have := oneS_oneR s p hp
  rw [h] at this
  exact this.2.2
theorem K0_ok : K0.ok := ⟨by decide, by decide, by decide, by decide, by decide⟩
theorem poolL_round (n : Nat) (s : ByteArray) (hs : s.size ≤ 1099511627776) : ∀ (d : Nat) (l : List K) (p : Nat), n - l.length = d → l.length ≤ n → p ≤ s.size → ∀ l' q x, outS (poolL n l ⟨s, p, 0, 0⟩) = (l', q, 0, x) →
    ∃ m, l' = l ++ m ∧ p ≤ q ∧ q ≤ s.size ∧ x = 0 ∧ l'.length = n ∧ (∀ c ∈ m, c.ok) ∧ (∀ j, poolW m j false = .ok (bs (s.extract p q))) ∧ (∀ s', agree s s' q → outS (poolL n l ⟨s', p, 0, 0⟩) = (l', q, 0, 0)) := by
  intro d
  induction d using Nat.strongRecOn with
  | _ d ih =>
  intro l p hd hl hp l' q x hout
  by_cases hlt : l.length < n
  · cases h1 : oneR s p with
    | error ea =>
      obtain ⟨e, a⟩ := ea
      rw [poolL_err hlt hp h1] at hout
      simp only [Prod.mk.injEq] at hout
      exact absurd hout.2.2.1 (oneR_err hp h1)
    | ok cp =>
      obtain ⟨c, p'⟩ := cp
      obtain ⟨g1, g2, g3, g4, g5, g6⟩ := oneR_bytes hs h1
      cases hb : big2 c with
      | false =>
        rw [poolL_ok hlt hp h1 hb] at hout
        obtain ⟨m, e1, e2, e3, e4, e5, e6, e7, e8⟩ := ih (n - (l ++ [c]).length) (by simp; omega) (l ++ [c]) p' rfl (by simp; omega) g2 l' q x hout
        refine ⟨c :: m, by rw [e1]; simp, by omega, e3, e4, e5, ?_, ?_, ?_⟩
        · intro y hy; rcases List.mem_cons.1 hy with rfl | hy
          · exact g6
          · exact e6 y hy
        · intro j
          rw [pw_ok g3 g4, hb, e7 (j + 1), ext_app (Nat.le_of_lt g1) e2, ← g5]; rfl
        · intro s' ha
          rw [poolL_ok hlt (by have := ha.2.1; omega) (oneR_agree hs h1 ha e2) hb]
          exact e8 s' ha
      | true =>
        by_cases hov : n < l.length + 2
        · rw [poolL_over hlt hov hp h1 hb] at hout
          simp at hout
        · rw [poolL_two (by omega) hp h1 hb] at hout
          obtain ⟨m, e1, e2, e3, e4, e5, e6, e7, e8⟩ := ih (n - (l ++ [c] ++ [K0]).length) (by simp; omega) (l ++ [c] ++ [K0]) p' rfl (by simp; omega) g2 l' q x hout
          refine ⟨c :: K0 :: m, by rw [e1]; simp, by omega, e3, e4, e5, ?_, ?_, ?_⟩
          · intro y hy; rcases List.mem_cons.1 hy with rfl | hy
            · exact g6
            · rcases List.mem_cons.1 hy with rfl | hy
              · exact K0_ok
              · exact e6 y hy
          · intro j
            rw [pw_ok g3 g4, hb, pw_zero rfl, e7 (j + 1 + 1), ext_app (Nat.le_of_lt g1) e2, ← g5]; rfl
          · intro s' ha
            rw [poolL_two (by omega) (by have := ha.2.1; omega) (oneR_agree hs h1 ha e2) hb]
            exact e8 s' ha
  · rw [poolL_end hlt] at hout
    simp only [Prod.mk.injEq] at hout
    obtain ⟨rfl, rfl, -, rfl⟩ := hout
    refine ⟨[], by simp, Nat.le_refl _, hp, rfl, by omega, by simp, fun j => ?_, fun s' ha => poolL_end hlt⟩
    rw [ext_nil]; rfl

theorem readS_eq {s : ByteArray} (h : 2 ≤ s.size) : readS s = outS (poolL (numE s 0 2) [K0] (if numE s 0 2 = 0 then ⟨s, 2, 12, 0⟩ else ⟨s, 2, 0, 0⟩)) := by
  rw [readS_out]; unfold poolS
  simp only [numS_many (show ¬ s.size - 0 < 2 by omega)]
  rfl
theorem readS_short {s : ByteArray} (h : s.size < 2) : readS s = ([], 0, 1, s.size) := by
  rw [readS_out]; unfold poolS
  simp only [numS_few (show s.size - 0 < 2 by omega)]
  rw [if_pos trivial, failS_bad (by simp), poolL_bad (by simp)]
  simp [outS]
theorem readS_none {s : ByteArray} (h : 2 ≤ s.size) (h0 : numE s 0 2 = 0) : readS s = ([], 0, 12, 0) := by
  rw [readS_eq h, if_pos h0, poolL_bad (by simp)]; simp [outS]
theorem readS_some {s : ByteArray} (h : 2 ≤ s.size) (h0 : numE s 0 2 ≠ 0) : readS s = outS (poolL (numE s 0 2) [K0] ⟨s, 2, 0, 0⟩) := by
  rw [readS_eq h, if_neg h0]
theorem readS_err {s : ByteArray} (h : (readS s).2.2.1 ≠ 0) : (readS s).1 = [] ∧ (readS s).2.1 = 0 := by
  unfold readS at *
  split at h
  · simp at h
  · rename_i hh; rw [if_neg hh]; exact ⟨rfl, rfl⟩
/-- what is read is written as it was, and read again. -/
theorem readS_round {s : ByteArray} (hs : s.size ≤ 1099511627776) {l : List K} {q x : Nat} (h : readS s = (l, q, 0, x)) :
    x = 0 ∧ q ≤ s.size ∧ (∀ c ∈ l, c.ok) ∧ l.length ≤ 65535 ∧ poolR l = (s.extract 0 q, 0, 0) ∧ ∀ s', agree s s' q → readS s' = (l, q, 0, 0) := by
  by_cases h2 : s.size < 2
  · rw [readS_short h2] at h; simp at h
  by_cases h0 : numE s 0 2 = 0
  · rw [readS_none (by omega) h0] at h; simp at h
  rw [readS_some (by omega) h0] at h
  have hn := @numE2 s 0
  obtain ⟨m, e1, e2, e3, e4, e5, e6, e7, e8⟩ := poolL_round (numE s 0 2) s hs _ [K0] 2 rfl (by simp; omega) (by omega) l q x h
  refine ⟨e4, e3, ?_, by omega, ?_, ?_⟩
  · intro c hc
    rw [e1] at hc
    rcases List.mem_cons.1 (by simpa using hc) with rfl | hc
    · exact K0_ok
    · exact e6 c hc
  · unfold poolR
    rw [if_neg (by omega), e5]
    have : poolW l 0 true = .ok (bs (s.extract 2 q)) := by
      rw [e1, List.singleton_append, pw_zero rfl, e7 1]
    rw [this, bigB_numE (s := s) (p := 0) (n := 2) (by omega)]
    simp only [Nat.zero_add]
    rw [← ext_app (s := s) (p := 0) (q := 2) (r := q) (by omega) e2, sb_bs]
  · intro s' ha
    have e0 : numE s 0 2 = numE s' 0 2 := ha.num (by omega)
    rw [readS_some (by have := ha.2.1; omega) (by rw [← e0]; exact h0), ← e0]
    exact e8 s' ha
theorem poolL_len (n : Nat) : ∀ (d : Nat) (l : List K) (x : S), n - l.length = d → l.length ≤ n + 1 → (poolL n l x).1.length ≤ n + 1 := by
  intro d
  induction d using Nat.strongRecOn with
  | _ d ih =>
  intro l x hd hl
  rw [poolL]
  split
  · rename_i h
    split
    · exact ih (n - (l ++ [(oneS x).1] ++ [K0]).length) (by simp; omega) _ _ rfl (by simp; omega)
    · exact ih (n - (l ++ [(oneS x).1]).length) (by simp; omega) _ _ rfl (by simp; omega)
  · exact hl
theorem readS_len (s : ByteArray) : (readS s).1.length ≤ 65536 := by
  by_cases h2 : s.size < 2
  · rw [readS_short h2]; simp
  have hn := @numE2 s 0
  rw [readS_eq (by omega)]
  have := poolL_len (numE s 0 2) _ [K0] (if numE s 0 2 = 0 then ⟨s, 2, 12, 0⟩ else ⟨s, 2, 0, 0⟩) rfl (by simp)
  generalize poolL (numE s 0 2) [K0] (if numE s 0 2 = 0 then ⟨s, 2, 12, 0⟩ else ⟨s, 2, 0, 0⟩) = r at *
  unfold outS
  by_cases hr : r.2.err = 0
  · rw [if_pos hr]; show r.1.length ≤ 65536; omega
  · rw [if_neg hr]; simp
end Go.Proofs.Ytfnjbmpolggdeaa
