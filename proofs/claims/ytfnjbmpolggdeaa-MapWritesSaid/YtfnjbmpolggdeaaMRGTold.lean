/-
  ref told and ref same, in closed form: what maps.writer.values and slices.Equal answer.
-/
import Derived.Test.YtfnjbmpolggdeaaMRGMWrite
import Derived.Test.YtfnjbmpolggdeaaMRx41
import Derived.Test.YtfnjbmpolggdeaaMRx42
namespace Go.Proofs.Ytfnjbmpolggdeaa.MR
open Go.RowKit Go.Proofs.YtfnjbmpolggdeaaW.PrintWords Go.Proofs.YtfnjbmpolggdeaaW.PrintLast Go.Proofs.YtfnjbmpolggdeaaW.PrintMore
set_option linter.unusedVariables false
set_option linter.unusedSimpArgs false
theorem rsame_l (a b : List S54) (h : a.length = b.length) (hl : a.length ≤ 140737488355328) : ∀ r i k : Nat, i + r = a.length → r + 1 ≤ k → jvmcoreref3_same.l0 k a b (a.length : Int) (i : Int) = some ((List.range' i r).all fun i => eqV (rd_T54 a (i : Nat)) (rd_T54 b (i : Nat)))
  | 0, i, k + 1, hi, hk => by
    rw [jvmcoreref3_same.l0, if_neg (by omega)]
    rfl
  | r + 1, i, k + 1, hi, hk => by
    rw [jvmcoreref3_same.l0, if_pos (by omega), if_pos (by omega), if_pos (by omega), if_pos (by omega)]
    rw [show (wrap64 ((i : Int) + 1)) = ((i + 1 : Nat) : Int) by unfold wrap64; omega, rsame_l a b h hl r (i + 1) k (by omega) (by omega)]
    rw [List.range'_succ, List.all_cons]
    unfold eqV
    split
    · rename_i hx; rw [hx]; rfl
    · rename_i hx; rw [Bool.not_eq_true] at hx; rw [hx]; rfl
theorem rsame_f (a b : List S54) (k : Nat) (hl : a.length ≤ 140737488355328) (hk : a.length + 1 ≤ k) : jvmcoreref3_same.f k a b = some (likeB a b) := by
  unfold jvmcoreref3_same.f likeB
  by_cases h : a.length = b.length
  · rw [if_pos (by omega), beq_iff_eq.2 h, Bool.true_and]; exact rsame_l a b h hl a.length 0 k (by omega) hk
  · rw [if_neg (by omega), beq_eq_false_iff_ne.2 h, Bool.false_and]
def ints (l : List Nat) : List Int := l.map fun x : Nat => (x : Int)
theorem ints_append (a b : List Nat) : ints (a ++ b) = ints a ++ ints b := List.map_append
theorem son_append (a b : List Int) : strOfNums a ++ strOfNums b = strOfNums (a ++ b) := by
  apply ByteArray.ext
  simp [strOfNums]
theorem son_nil (a : ByteArray) : a ++ (⟨#[]⟩ : ByteArray) = a := by
  apply ByteArray.ext
  simp
theorem big_l (k : Nat) (x : Int) (j : Int) (hj : 0 < j ∧ j < 9) (hx : 0 ≤ x ∧ x < 18446744073709551616) (b : ByteArray) (hb : b.size ≤ 1000) : jvmcoreref1_Big.l0 (k + 1) x j b = jvmcoreref1_Big.l0 k ((x.toNat / 256 : Nat) : Int) (j - 1) (strOfNums [x % 256] ++ b) := by
  rw [jvmcoreref1_Big.l0, if_pos hj.1]
  simp only [Option.bind_some]
  rw [if_pos (by rw [strOfNums_size]; simp only [List.length_cons, List.length_nil]; omega)]
  have h1 : IntKind.u64.wrap (Int.tdiv x 256) = ((x.toNat / 256 : Nat) : Int) := by
    rw [Int.tdiv_eq_ediv_of_nonneg hx.1]
    simp only [IntKind.wrap, IntKind.bits, IntKind.signed]; simp; omega
  have h2 : wrap64 (j - 1) = j - 1 := by unfold wrap64; omega
  rw [h1, h2]
theorem big_closed (k : Nat) (x : Nat) (hx : x < 18446744073709551616) : jvmcoreref1_Big.f (k + 3) (x : Int) 2 = some (sb (bigB x 2)) := by
  unfold jvmcoreref1_Big.f
  rw [big_l _ _ _ (by omega) (by omega) _ (by decide), big_l _ _ _ (by omega) (by omega) _ (by rw [son_nil, strOfNums_size]; simp)]
  rw [jvmcoreref1_Big.l0, if_neg (by omega), son_nil, son_append]
  congr 1
theorem big_u (k : Nat) (x : Int) : jvmcoreref1_Big.f (k + 3) (IntKind.u64.wrap x) 2 = some (sb (bigB (U64 x) 2)) := by
  rw [u64_nat x]
  exact big_closed k _ (u64_lt x)
theorem refClass2 {l1 : List S37} (hp : ∀ c ∈ l1, 0 ≤ c.f3 ∧ c.f3 < 65536) (A : Int) : jvmcoreref1_ClassOf.f l1 A = some (nameV l1 A, isB l1 A 7 && isB l1 (rd_T37 l1 A).f3 1) := by
  unfold jvmcoreref1_ClassOf.f nameV
  rw [refIs_eq]
  simp only [Option.bind_some]
  by_cases h : isB l1 A 7 = true
  · obtain ⟨a, b, _⟩ := isB_range h
    rw [if_pos h, if_pos h, if_pos (by omega), if_pos b, wr16 (hp _ (rd_mem (by omega) b)), refStr_eq, h, Bool.true_and]
    first | rfl | simp
  · rw [if_neg h, if_neg h, Bool.not_eq_true] at *
    rw [h]; rfl
def firstFrom (l1 : List S37) (nm : ByteArray) (m : Nat) : Int := match (l1.drop m).findIdx? (cloB l1 nm) with | some i => ((m + i : Nat) : Int) | none => 0
theorem firstFrom_end (l1 : List S37) (nm : ByteArray) (m : Nat) (h : l1.length ≤ m) : firstFrom l1 nm m = 0 := by
  unfold firstFrom
  rw [List.drop_eq_nil_of_le h]; rfl
theorem firstFrom_step (l1 : List S37) (nm : ByteArray) (m : Nat) (h : m < l1.length) : firstFrom l1 nm m = if cloB l1 nm l1[m] = true then (m : Int) else firstFrom l1 nm (m + 1) := by
  unfold firstFrom
  rw [List.drop_eq_getElem_cons h, List.findIdx?_cons]
  by_cases c : cloB l1 nm l1[m] = true
  · rw [if_pos c, if_pos c]; rfl
  · rw [if_neg c, if_neg c]
    cases (l1.drop (m + 1)).findIdx? (cloB l1 nm) with
    | none => rfl
    | some i => simp only [Option.map_some]; congr 1; omega
theorem firstC_eq (l1 : List S37) (nm : ByteArray) : firstC l1 nm = firstFrom l1 nm 1 := by
  unfold firstC idxF firstFrom
  cases (l1.drop 1).findIdx? (cloB l1 nm) with
  | none => rfl
  | some i => simp only []; omega
theorem clo_at (l1 : List S37) (nm : ByteArray) (j : Nat) (h : j < l1.length) (h0 : 0 < j) : ((isB l1 (j : Int) 7 && isB l1 (rd_T37 l1 (j : Int)).f3 1) = true ∧ (nameV l1 (j : Int)).toList = nm.toList) ↔ cloB l1 nm l1[j] = true := by
  have hr : rd_T37 l1 (j : Int) = l1[j] := by
    unfold rd_T37
    rw [List.getD_eq_getElem?_getD, Int.toNat_natCast, List.getElem?_eq_getElem h]; rfl
  unfold nameV cloB
  rw [hr, isB_eq l1 j 7 h, decide_eq_true h0, Bool.true_and]
  by_cases a : (l1[j].f0 == 7) = true
  · rw [a]; simp
  · rw [Bool.not_eq_true] at a; rw [a]; simp
theorem told_l1 {l1 : List S37} (hp : ∀ c ∈ l1, 0 ≤ c.f3 ∧ c.f3 < 65536) (hl : l1.length ≤ 140737488355328) (x6 : List Int) (x7 : Int) (x16 : List S54) (x17 x18 y0 : Int) (nm : ByteArray) (y2 : Int) (k : Nat) : ∀ j : Nat, (j < l1.length) → jvmcoreref3_told.l1 (k + j) l1 x6 x7 0 (firstFrom l1 nm (j + 1)) (j : Int) x16 x17 x18 y0 nm y2 = jvmcoreref3_told.l1 k l1 x6 x7 0 (firstFrom l1 nm 1) 0 x16 x17 x18 y0 nm y2
  | 0, _ => rfl
  | j + 1, h => by
    have ih := told_l1 hp hl x6 x7 x16 x17 x18 y0 nm y2 k j (by omega)
    have hw : wrap64 (((j + 1 : Nat) : Int) - 1) = (j : Int) := by unfold wrap64; omega
    rw [show k + (j + 1) = (k + j) + 1 from rfl, jvmcoreref3_told.l1, if_pos (by omega), refClass2 hp]
    simp only [Option.bind_some]
    rw [hw]
    have hs := firstFrom_step l1 nm (j + 1) h
    have hc := clo_at l1 nm (j + 1) h (by omega)
    by_cases c : cloB l1 nm l1[j + 1] = true
    · obtain ⟨c1, c2⟩ := hc.2 c
      rw [if_pos c] at hs
      rw [if_pos c1, if_pos c2, ← ih, hs]
    · rw [if_neg c] at hs
      rw [hs] at ih
      by_cases c1 : (isB l1 ((j + 1 : Nat) : Int) 7 && isB l1 (rd_T37 l1 ((j + 1 : Nat) : Int)).f3 1) = true
      · rw [if_pos c1, if_neg (fun c2 => c (hc.1 ⟨c1, c2⟩)), ih]
      · rw [if_neg c1, ih]
/-- the class's index as two bytes, and the error. -/
theorem told_l1_end (l1 : List S37) (bs : List Nat) (x7 x11 x12 : Int) (h12 : ¬ x12 > 0) (x16 : List S54) (x17 x18 y0 : Int) (nm : ByteArray) (y2 : Int) (k : Nat) (hb : bs.length + 8 ≤ 140737488355328) :
    jvmcoreref3_told.l1 (k + 4) l1 (ints bs) x7 0 x11 x12 x16 x17 x18 y0 nm y2 = jvmcoreref3_told.l0 (k + 3) l1 (ints (bs ++ bigB (U64 x11) 2)) (if x11 = 0 then failE x7 7 else x7) x16 x17 (wrap64 (x18 + 1)) := by
  have hsz : (ints bs).length + (sb (bigB (U64 x11) 2)).size < 140737488355328 := by rw [sb_size, bigB_length]; simp only [ints, List.length_map]; omega
  have he : ints bs ++ bytesOf (sb (bigB (U64 x11) 2)) = ints (bs ++ bigB (U64 x11) 2) := by
    rw [ints_append]
    congr 1
    have := bs_sb (bigB_lt 2 (U64 x11))
    unfold Go.Proofs.Ytfnjbmpolggdeaa.bs at this
    unfold bytesOf ints
    rw [show (fun b : UInt8 => (b.toNat : Int)) = (fun x : Nat => (x : Int)) ∘ UInt8.toNat from rfl, ← List.map_map, this]
  rw [jvmcoreref3_told.l1, if_neg h12, big_u]
  simp only [Option.bind_some]
  rw [if_pos hsz, he]
  unfold failE
  by_cases a : x11 = 0
  · rw [if_pos a, if_pos a]
    by_cases b : x7 = 0
    · rw [if_pos b, if_pos b]
    · rw [if_neg b, if_neg b]
  · rw [if_neg a, if_neg a]
    rw [if_pos hsz]
    by_cases b : x7 = 0
    · rw [if_pos b, b]
    · rw [if_neg b]
theorem told_j1_end (l1 : List S37) (bs : List Nat) (x7 : Int) (x42 : Bool) (x16 : List S54) (x17 x18 y0 : Int) (nm : ByteArray) (y2 : Int) (k : Nat) (hb : bs.length + 8 ≤ 140737488355328) :
    jvmcoreref3_told.j1 (k + 4) l1 (ints bs) x7 0 x16 x17 x18 x42 y0 nm y2 = jvmcoreref3_told.l0 (k + 3) l1 (ints (bs ++ bigB (U64 y2) 2)) (if x42 = true then failE x7 17 else x7) x16 x17 (wrap64 (x18 + 1)) := by
  have hsz : (ints bs).length + (sb (bigB (U64 y2) 2)).size < 140737488355328 := by rw [sb_size, bigB_length]; simp only [ints, List.length_map]; omega
  have he : ints bs ++ bytesOf (sb (bigB (U64 y2) 2)) = ints (bs ++ bigB (U64 y2) 2) := by
    rw [ints_append]
    congr 1
    have := bs_sb (bigB_lt 2 (U64 y2))
    unfold Go.Proofs.Ytfnjbmpolggdeaa.bs at this
    unfold bytesOf ints
    rw [show (fun b : UInt8 => (b.toNat : Int)) = (fun x : Nat => (x : Int)) ∘ UInt8.toNat from rfl, ← List.map_map, this]
  rw [jvmcoreref3_told.j1, big_u]
  simp only [Option.bind_some]
  rw [if_pos hsz, he]
  unfold failE
  by_cases a : x42 = true
  · rw [if_pos a, if_pos a]
    by_cases b : x7 = 0
    · rw [if_pos b, if_pos b]
    · rw [if_neg b, if_neg b]
  · rw [if_neg a, if_neg a]
    first | rw [if_pos hsz] | skip
    by_cases b : x7 = 0
    · rw [if_pos b, b]
    · rw [if_neg b]
theorem tag_ints (bs : List Nat) (x : Int) (h : 0 ≤ x ∧ x < 256) : ints bs ++ [x] = ints (bs ++ bigB (U64 x) 1) := by
  rw [ints_append]
  congr 1
  have : U64 x = x.toNat := by unfold U64; simp only [IntKind.wrap, IntKind.bits, IntKind.signed]; simp; omega
  rw [this]
  simp only [bigB, ints, List.nil_append, List.map_cons, List.map_nil]
  congr 1
  omega
theorem valsS_cons (l1 : List S37) (v : S54) (vs : List S54) (s : List Nat × Int) : valsS l1 (v :: vs) s = valsS l1 vs (valL l1 v s.1, valE l1 v s.2) := rfl
theorem told_l0 {l1 : List S37} (hp : ∀ c ∈ l1, 0 ≤ c.f3 ∧ c.f3 < 65536) (hl : l1.length ≤ 140737488355328) (vs : List S54) (ht : ∀ x ∈ vs, 0 ≤ x.f0 ∧ x.f0 < 256) (hv : vs.length ≤ 140737488355328) :
    ∀ (r i k : Nat) (bs : List Nat) (er : Int), i + r = vs.length → r * (l1.length + 8) + 8 ≤ k → bs.length + 3 * r + 8 ≤ 140737488355328 → jvmcoreref3_told.l0 k l1 (ints bs) er vs (vs.length : Int) (i : Int) = some (sb (valsS l1 (vs.drop i) (bs, er)).1, (valsS l1 (vs.drop i) (bs, er)).2)
  | 0, i, k + 1, bs, er, hi, hk, hb => by
    rw [jvmcoreref3_told.l0, if_neg (by omega), List.drop_eq_nil_of_le (by omega)]
    show some (strOfNums (ints bs), er) = some (sb bs, er)
    rw [show strOfNums (ints bs) = sb bs from strOfNums_nats bs]
  | r + 1, i, k + 1, bs, er, hi, hk, hb => by
    have hlt : i < vs.length := by omega
    rw [Nat.add_mul] at hk
    have htv := ht _ (List.getElem_mem hlt)
    have ih := told_l0 hp hl vs ht hv r (i + 1)
    have hw : wrap64 ((i : Int) + 1) = ((i + 1 : Nat) : Int) := by unfold wrap64; omega
    have hL := valL_len l1 vs[i] bs
    have hb1 : (bs ++ bigB (U64 vs[i].f0) 1).length = bs.length + 1 := by rw [List.length_append, bigB_length]
    rw [List.drop_eq_getElem_cons hlt, valsS_cons]
    rw [jvmcoreref3_told.l0, if_pos (by omega), if_pos (by omega), if_pos (by omega), if_pos (by simp only [ints, List.length_map]; omega)]
    simp only [Option.bind_some]
    rw [rdV_at hlt, tag_ints bs _ htv, hw]
    generalize vs[i] = v at *
    by_cases c9 : v.f0 > 8
    · have e1 : valL l1 v bs = bs ++ bigB (U64 v.f0) 1 := by unfold valL; rw [if_neg (by omega), if_neg (by omega)]
      have e2 : valE l1 v er = failE er 17 := by unfold valE; rw [if_neg (by omega), if_neg (by omega), if_pos c9]
      rw [if_pos c9, e1, e2]
      have := ih k (bs ++ bigB (U64 v.f0) 1) (failE er 17) (by omega) (by omega) (by omega)
      rw [← this]
      unfold failE
      by_cases b : er = 0
      · rw [if_pos b, if_pos b]
      · rw [if_neg b, if_neg b]
    · rw [if_neg c9]
      by_cases c8 : v.f0 = 8
      · have e1 : valL l1 v bs = (bs ++ bigB (U64 v.f0) 1) ++ bigB (U64 v.f2) 2 := by unfold valL; rw [if_neg (by omega), if_pos c8]
        have hb2 : ((bs ++ bigB (U64 v.f0) 1) ++ bigB (U64 v.f2) 2).length = bs.length + 3 := by rw [List.length_append, hb1, bigB_length]
        obtain ⟨k4, rfl⟩ : ∃ k4, k = k4 + 4 := ⟨k - 4, by omega⟩
        rw [if_pos c8, e1]
        have := ih (k4 + 3) ((bs ++ bigB (U64 v.f0) 1) ++ bigB (U64 v.f2) 2) (valE l1 v er) (by omega) (by omega) (by omega)
        rw [← this]
        by_cases a : v.f2 < 0
        · rw [if_pos a, told_j1_end _ _ _ _ _ _ _ _ _ _ _ (by omega), hw]
          have e2 : valE l1 v er = failE er 17 := by unfold valE; rw [if_neg (by omega), if_pos c8, if_pos (.inl a)]
          rw [e2]; rfl
        · rw [if_neg a, told_j1_end _ _ _ _ _ _ _ _ _ _ _ (by omega), hw]
          have e2 : valE l1 v er = if decide (v.f2 > 65535) = true then failE er 17 else er := by
            unfold valE; rw [if_neg (by omega), if_pos c8]
            by_cases b : v.f2 > 65535
            · rw [if_pos (.inr b), if_pos (decide_eq_true b)]
            · rw [if_neg (fun h => h.elim a b), if_neg (by simpa using b)]
          rw [e2]
      · rw [if_neg c8]
        by_cases c7 : v.f0 = 7
        · have e1 : valL l1 v bs = (bs ++ bigB (U64 v.f0) 1) ++ bigB (U64 (firstC l1 v.f1)) 2 := by unfold valL; rw [if_pos c7]
          have e2 : valE l1 v er = if firstC l1 v.f1 = 0 then failE er 7 else er := by unfold valE; rw [if_pos c7]
          have hb2 : ((bs ++ bigB (U64 v.f0) 1) ++ bigB (U64 (firstC l1 v.f1)) 2).length = bs.length + 3 := by rw [List.length_append, hb1, bigB_length]
          rw [if_pos c7, e1, e2]
          obtain ⟨k4, hk4⟩ : ∃ k4, k = (k4 + 4) + l1.length := ⟨k - 4 - l1.length, by omega⟩
          by_cases hz : l1.length = 0
          · have hf : firstC l1 v.f1 = 0 := by rw [firstC_eq, firstFrom_end _ _ _ (by omega)]
            have := ih (k4 + 3) ((bs ++ bigB (U64 v.f0) 1) ++ bigB (U64 (firstC l1 v.f1)) 2) (if firstC l1 v.f1 = 0 then failE er 7 else er) (by omega) (by omega) (by omega)
            rw [← this, hf]
            rw [show k = k4 + 4 by omega, told_l1_end _ _ _ _ _ (by unfold wrap64; omega) _ _ _ _ _ _ _ (by omega), hw]
          · obtain ⟨q, hq⟩ : ∃ q, l1.length = q + 1 := ⟨l1.length - 1, by omega⟩
            have := ih (k4 + 1 + 3) ((bs ++ bigB (U64 v.f0) 1) ++ bigB (U64 (firstC l1 v.f1)) 2) (if firstC l1 v.f1 = 0 then failE er 7 else er) (by omega) (by omega) (by omega)
            rw [← this]
            have h1 := told_l1 hp hl (ints (bs ++ bigB (U64 v.f0) 1)) er vs (vs.length : Int) (i : Int) v.f0 v.f1 v.f2 (k4 + 1 + 4) q (by omega)
            rw [firstFrom_end _ _ _ (by omega)] at h1
            rw [show wrap64 ((l1.length : Int) - 1) = (q : Int) by unfold wrap64; omega, show k = k4 + 1 + 4 + q by omega, h1, told_l1_end _ _ _ _ _ (by omega) _ _ _ _ _ _ _ (by omega), hw, ← firstC_eq]
        · have e1 : valL l1 v bs = bs ++ bigB (U64 v.f0) 1 := by unfold valL; rw [if_neg c7, if_neg c8]
          have e2 : valE l1 v er = er := by unfold valE; rw [if_neg c7, if_neg c8, if_neg c9]
          rw [if_neg c7, e1, e2]
          have := ih k (bs ++ bigB (U64 v.f0) 1) er (by omega) (by omega) (by omega)
          rw [← this]
          by_cases b : er = 0
          · rw [if_pos b, b]
          · rw [if_neg b]
theorem told_closed {l1 : List S37} (hp : ∀ c ∈ l1, 0 ≤ c.f3 ∧ c.f3 < 65536) (hl : l1.length ≤ 140737488355328) (vs : List S54) (ht : ∀ x ∈ vs, 0 ≤ x.f0 ∧ x.f0 < 256) (hv : vs.length ≤ 65535) (k : Nat) (hk : vs.length * (l1.length + 8) + 8 ≤ k) :
    jvmcoreref3_told.f k vs l1 = some (sb (valsS l1 vs ([], 0)).1, (valsS l1 vs ([], 0)).2) :=
  told_l0 hp hl vs ht (by omega) vs.length 0 k [] 0 (by omega) hk (by simp only [List.length_nil]; omega)
end Go.Proofs.Ytfnjbmpolggdeaa.MR
