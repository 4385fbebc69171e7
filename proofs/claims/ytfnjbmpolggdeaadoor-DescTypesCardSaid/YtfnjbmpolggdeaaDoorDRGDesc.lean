/-
  Names and descriptors: what the printed functions of both sides come to.
-/
import Derived.Test.YtfnjbmpolggdeaaDoorDRx5
import Derived.Test.YtfnjbmpolggdeaaDoorDRx19
import Derived.Test.YtfnjbmpolggdeaaDoorDRx7
import Derived.Test.YtfnjbmpolggdeaaDoorDRx23
import Derived.Test.YtfnjbmpolggdeaaDoorDesc
namespace Go.Proofs.YtfnjbmpolggdeaaDoor.DR
open Go.RowKit Go.Proofs.YtfnjbmpolggdeaaDoorW.PrintWords
set_option linter.unusedVariables false
set_option linter.unusedSimpArgs false
set_option maxRecDepth 10000

abbrev L (s : ByteArray) : List UInt8 := s.data.toList
theorem L_size (s : ByteArray) : (L s).length = s.size := (Lib.size_eq s).symm
theorem L_ext (s : ByteArray) (a b : Nat) : L (s.extract a b) = ((L s).drop a).take (b - a) := Lib.extract_data s a b
theorem L_to (s : ByteArray) : s.toList = L s := Lib.toList_data s
theorem wr {x : Int} (h0 : -9223372036854775808 ≤ x) (h1 : x < 9223372036854775808) : wrap64 x = x := by unfold wrap64; omega
theorem u8_iff (b c : UInt8) (z : Int) (hc : (c.toNat : Int) = z) : ((b.toNat : Int) = z) ↔ b = c := by
  constructor
  · intro h; apply UInt8.toNat_inj.1; omega
  · rintro rfl; exact hc
theorem bt_nat {s : ByteArray} {i : Nat} {b : UInt8} (hb : (L s)[i]? = some b) : bt s (i : Int) = (b.toNat : Int) := by
  have h : i < s.size := by rw [← L_size]; exact (List.getElem?_eq_some_iff.1 hb).1
  have h2 : ((i : Int)).toNat < s.size := by simpa using h
  rw [← bt_at s i h2]
  have h3 := Lib.data_getElem? s i h
  have h4 : s[i]'h = b := Option.some.inj (h3.symm.trans hb)
  simp only [Int.toNat_natCast, h4]
theorem L_get {s : ByteArray} {i : Nat} (h : i < s.size) : ∃ b, (L s)[i]? = some b ∧ (L s).drop i = b :: (L s).drop (i + 1) := by
  have h2 : i < (L s).length := by rw [L_size]; exact h
  exact ⟨(L s)[i], List.getElem?_eq_getElem h2, List.drop_eq_getElem_cons h2⟩

/-! ### ContainsAny, part -/
theorem any_eq {s : ByteArray} (c : ByteArray) (hs : s.size < 4294967281) (hc : 2 ≤ c.size ∧ c.size ≤ 1000 ∧ asciiB c) : strings_ContainsAny.f s c = some (hasB (L s) (L c)) := by
  unfold strings_ContainsAny.f strings_IndexAny.f
  rw [if_pos ⟨hs, hc.1, hc.2.1, hc.2.2⟩]
  simp only [Option.bind_some, Option.some.injEq]
  rw [Bool.eq_iff_iff, decide_eq_true_eq]
  exact indexAny_iff (L c) (L s)
theorem part_eq {s : ByteArray} (hs : s.size < 4294967281) : desc_part.f s = some (partL (L s)) := by
  unfold desc_part.f partL
  rw [L_to]
  by_cases h : L s = []
  · rw [if_pos h, h]; rfl
  · have : (L s).isEmpty = false := by cases hh : L s with | nil => exact absurd hh h | cons _ _ => rfl
    rw [if_neg h, any_eq ⟨#[46, 59, 91, 47]⟩ hs (by decide), this]; rfl

/-! ### path -/
theorem slashes_segs (s : ByteArray) : (slashes s).map L = segs (L s) := by
  unfold slashes
  rw [Lib.splitB_data, countB_slash]
  exact split_segs (L s)
theorem path_l0 (ps : List ByteArray) (hp : ∀ p ∈ ps, p.size < 4294967281) (hn : ps.length ≤ 4294967296) : ∀ (d i : Nat), i ≤ ps.length → ps.length - i = d →
    Ev (fun k => desc_path.l0 k ps (ps.length : Int) (i : Int)) ((ps.drop i).all fun p => partL (L p)) := by
  intro d
  induction d with
  | zero =>
    intro i hi hd
    rw [List.drop_of_length_le (by omega)]
    refine Ev.step (f := fun _ => some true) (fun k => ?_) (Ev.now true)
    simp only [desc_path.l0]; rw [if_neg (by omega)]
  | succ d ih =>
    intro i hi hd
    have hlt : i < ps.length := by omega
    have hget : rdOf ByteArray.empty ps (i : Int) = ps[i] := by
      unfold rdOf; simp [List.getD_eq_getElem?_getD, List.getElem?_eq_getElem hlt]
    have hpe := part_eq (hp ps[i] (List.getElem_mem hlt))
    rw [List.drop_eq_getElem_cons hlt, List.all_cons]
    have h1 := ih (i + 1) (by omega) (by omega)
    cases hv : partL (L ps[i]) with
    | true =>
      rw [Bool.true_and]
      refine Ev.step (fun k => ?_) h1
      simp only [desc_path.l0]
      rw [if_pos (by omega), if_pos (by omega), if_pos (by omega), hget, hpe, hv]
      simp only [Option.bind_some, if_true]
      rw [wr (by omega) (by omega)]; rfl
    | false =>
      rw [Bool.false_and]
      refine Ev.step (f := fun _ => some false) (fun k => ?_) (Ev.now false)
      simp only [desc_path.l0]
      rw [if_pos (by omega), if_pos (by omega), if_pos (by omega), hget, hpe, hv]
      rfl
theorem slashes_small {s : ByteArray} : ∀ p ∈ slashes s, p.size ≤ s.size := by
  intro p hp
  have : L p ∈ segs (L s) := by rw [← slashes_segs]; exact List.mem_map_of_mem hp
  have := segs_le _ _ this
  rwa [L_size, L_size] at this
theorem path_ev (s : ByteArray) (hs : s.size < 4294967281) : Ev (fun k => desc_path.f k s) (pathL (L s)) := by
  have h1 : strings_Split.f s ⟨#[47]⟩ = some (slashes s) := by
    unfold strings_Split.f strings_genSplit.f
    rw [if_pos ⟨hs, rfl, rfl, rfl⟩]; rfl
  have hl : (slashes s).length ≤ 4294967296 := by
    have := slashes_le s
    have := countB_le_size s
    omega
  have h2 := path_l0 (slashes s) (fun p hp => Nat.lt_of_le_of_lt (slashes_small p hp) hs) hl _ 0 (Nat.zero_le _) rfl
  have h3 : ((slashes s).drop 0).all (fun p => partL (L p)) = pathL (L s) := by
    unfold pathL; rw [← slashes_segs, List.all_map]; rfl
  rw [h3] at h2
  refine Ev.congr (fun k => ?_) h2
  unfold desc_path.f
  rw [h1]; rfl
theorem without_eq {s : ByteArray} (c : ByteArray) (hs : s.size ≤ 1099511627776) (hc : c.size ≤ 1000) : jvmcoreref1_without.f s c = some (((L s).all fun b => !(L c).contains b) && !(L s).isEmpty) := by
  unfold jvmcoreref1_without.f
  rw [if_pos ⟨hs, by omega⟩]; rfl
theorem ref_path_l0 (s : ByteArray) (hs : s.size ≤ 1000000000) : ∀ (d i a : Nat), a ≤ i → i ≤ s.size → s.size - i = d → (∀ b ∈ ((L s).drop a).take (i - a), b ≠ 47) →
    Ev (fun k => jvmcoreref1_path.l0 k s (a : Int) (i : Int)) ((segs ((L s).drop a)).all partL) := by
  intro d
  induction d with
  | zero =>
    intro i a ha hi hd hno
    obtain rfl : i = s.size := by omega
    have hseg : L (s.extract a s.size) = (L s).drop a := by
      rw [L_ext, List.take_of_length_le (by rw [List.length_drop, L_size]; exact Nat.le_refl _)]
    rw [List.take_of_length_le (by rw [List.length_drop, L_size]; exact Nat.le_refl _)] at hno
    rw [segs_one hno]
    have hw := without_eq (s := s.extract a s.size) ⟨#[46, 59, 91]⟩ (by rw [ByteArray.size_extract]; omega) (by decide)
    rw [hseg] at hw
    have hp := partL_noslash hno
    rw [show L ⟨#[46, 59, 91]⟩ = [46, 59, 91] from rfl, ← hp] at hw
    refine Ev.step (f := fun k => jvmcoreref1_path.j1 k s (a : Int) (s.size : Int) true) (fun k => ?_) ?_
    · simp only [jvmcoreref1_path.l0]; rw [if_pos (Int.le_refl _), if_pos trivial]
    · simp only [List.all_cons, List.all_nil, Bool.and_true]
      cases hv : partL ((L s).drop a) with
      | true =>
        refine Ev.step (f := fun k => jvmcoreref1_path.l0 k s ((s.size + 1 : Nat) : Int) ((s.size + 1 : Nat) : Int)) (fun k => ?_) ?_
        · simp only [jvmcoreref1_path.j1]
          rw [if_pos trivial, if_pos (by omega), if_pos (by omega), if_pos (Int.le_refl _)]
          simp only [Int.toNat_natCast]
          rw [hw, hv]
          simp only [Option.bind_some, if_true]
          rw [wr (by omega) (by omega)]; rfl
        · refine Ev.step (f := fun _ => some true) (fun k => ?_) (Ev.now true)
          simp only [jvmcoreref1_path.l0]; rw [if_neg (by omega)]
      | false =>
        refine Ev.step (f := fun _ => some false) (fun k => ?_) (Ev.now false)
        simp only [jvmcoreref1_path.j1]
        rw [if_pos trivial, if_pos (by omega), if_pos (by omega), if_pos (Int.le_refl _)]
        simp only [Int.toNat_natCast]
        rw [hw, hv]
        rfl
  | succ d ih =>
    intro i a ha hi hd hno
    have hlt : i < s.size := by omega
    obtain ⟨b, hb, hdr⟩ := L_get hlt
    have hbt := bt_nat hb
    have hcut : (L s).drop a = ((L s).drop a).take (i - a) ++ b :: (L s).drop (i + 1) := by
      conv => lhs; rw [← List.take_append_drop (i - a) ((L s).drop a)]
      rw [List.drop_drop, show a + (i - a) = i by omega, hdr]
    by_cases hsl : b = 47
    · subst hsl
      have hseg : L (s.extract a i) = ((L s).drop a).take (i - a) := L_ext s a i
      have hw := without_eq (s := s.extract a i) ⟨#[46, 59, 91]⟩ (by rw [ByteArray.size_extract]; omega) (by decide)
      rw [hseg] at hw
      have hp := partL_noslash hno
      rw [show L ⟨#[46, 59, 91]⟩ = [46, 59, 91] from rfl, ← hp] at hw
      have h1 := ih (i + 1) (i + 1) (Nat.le_refl _) (by omega) (by omega) (by rw [Nat.sub_self, List.take_zero]; simp)
      rw [hcut, segs_cut hno, List.all_cons]
      refine Ev.step (f := fun k => jvmcoreref1_path.j1 k s (a : Int) (i : Int) true) (fun k => ?_) ?_
      · simp only [jvmcoreref1_path.l0]; rw [if_pos (by omega), if_neg (by omega), if_pos (by omega), if_pos (by omega), hbt]; rfl
      · cases hv : partL (((L s).drop a).take (i - a)) with
        | true =>
          rw [Bool.true_and]
          refine Ev.step (fun k => ?_) h1
          simp only [jvmcoreref1_path.j1]
          rw [if_pos trivial, if_pos (by omega), if_pos (by omega), if_pos (by omega)]
          simp only [Int.toNat_natCast]
          rw [hw, hv]
          simp only [Option.bind_some, if_true]
          rw [wr (by omega) (by omega)]; rfl
        | false =>
          rw [Bool.false_and]
          refine Ev.step (f := fun _ => some false) (fun k => ?_) (Ev.now false)
          simp only [jvmcoreref1_path.j1]
          rw [if_pos trivial, if_pos (by omega), if_pos (by omega), if_pos (by omega)]
          simp only [Int.toNat_natCast]
          rw [hw, hv]
          rfl
    · have h1 := ih (i + 1) a (by omega) (by omega) (by omega) (by
        intro x hx
        rw [show i + 1 - a = (i - a) + 1 by omega, List.take_add_one, List.getElem?_drop, show a + (i - a) = i by omega, hb] at hx
        rcases List.mem_append.1 hx with hx | hx
        · exact hno x hx
        · simp at hx; rw [hx]; exact hsl)
      have hne : ((b.toNat : Int) == 47) = false := by
        rw [beq_eq_false_iff_ne]; intro h; exact hsl ((u8_iff b 47 47 rfl).1 h)
      refine Ev.step (f := fun k => jvmcoreref1_path.j1 k s (a : Int) (i : Int) false) (fun k => ?_) ?_
      · simp only [jvmcoreref1_path.l0]; rw [if_pos (by omega), if_neg (by omega), if_pos (by omega), if_pos (by omega), hbt, hne]
      · refine Ev.step (fun k => ?_) h1
        simp only [jvmcoreref1_path.j1]
        rw [if_neg (by simp), wr (by omega) (by omega)]; rfl
theorem ref_path_ev (s : ByteArray) (hs : s.size ≤ 1000000000) : Ev (fun k => jvmcoreref1_path.f k s) (pathL (L s)) := by
  have h := ref_path_l0 s hs _ 0 0 (Nat.le_refl _) (Nat.zero_le _) rfl (by simp)
  rw [List.drop_zero] at h
  exact h

/-! ### next -/
theorem brs_at : ∀ (l : List UInt8) (n : Nat), n < brs l → l[n]? = some 91
  | [], n, h => by simp [brs] at h
  | b :: l, n, h => by
    unfold brs at h
    split at h
    · rename_i hb
      cases n with
      | zero => simp [hb]
      | succ n => simpa using brs_at l n (by omega)
    · omega
theorem brs_end : ∀ (l : List UInt8) (b : UInt8), l[brs l]? = some b → b ≠ 91
  | [], b, h => by simp [brs] at h
  | c :: l, b, h => by
    unfold brs at h
    split at h
    · exact brs_end l b (by simpa using h)
    · rename_i hc; simp at h; subst h; exact hc
theorem lits_eq (b : UInt8) : decide (Lib.indexByte (L ⟨#[66, 67, 68, 70, 73, 74, 83, 90]⟩) b ≥ 0) = valB b := (Lib.contains_iff_indexByte _ b).symm
theorem back_u8 (b : UInt8) : ((b.toNat : Int)).toNat.toUInt8 = b := by simp
theorem indexByte_cons_ne {b c : UInt8} {l : List UInt8} (h : b ≠ c) : Lib.indexByte (b :: l) c = if Lib.indexByte l c = -1 then -1 else Lib.indexByte l c + 1 := by
  conv => lhs; unfold Lib.indexByte
  rw [if_neg (by simpa using h)]
  by_cases h2 : Lib.indexByte l c = -1
  · rw [if_pos h2, if_pos (by simp [h2])]
  · rw [if_neg h2, if_neg (by simpa using h2)]
theorem wr_succ {n : Nat} (h : n ≤ 1000000000) : wrap64 ((n : Int) + 1) = ((n + 1 : Nat) : Int) := (wr (by omega) (by omega)).trans (by omega)
theorem wr_len {n m : Nat} (h : n + m ≤ 1000000000) : wrap64 ((n : Int) + ((m : Int) + 1)) = ((n + 1 + m : Nat) : Int) := (wr (by omega) (by omega)).trans (by omega)
theorem lit_ev (b : UInt8) : strings_IndexByte.f ⟨#[66, 67, 68, 70, 73, 74, 83, 90]⟩ (b.toNat : Int) = some (Lib.indexByte (L ⟨#[66, 67, 68, 70, 73, 74, 83, 90]⟩) b) := by
  unfold strings_IndexByte.f; rw [back_u8]
theorem j2_val (s : ByteArray) (hs : s.size ≤ 1000000000) (n : Nat) (hn : n < s.size) (b : UInt8) (hb : (L s)[n]? = some b) (hv : valB b = true) (k : Nat) : desc_next.j2 (k + 1) s (n : Int) false = some ((n + 1 : Nat) : Int) := by
  have hle : Lib.indexByte (L ⟨#[66, 67, 68, 70, 73, 74, 83, 90]⟩) b ≥ 0 := of_decide_eq_true ((lits_eq b).trans hv)
  have c5 : (0 : Int) ≤ (n : Int) := by omega
  have c6 : (n : Int) < (s.size : Int) := by omega
  have e1 := wr_succ (n := n) (by omega)
  simp only [desc_next.j2, if_neg (show ¬ (false = true) by simp), if_pos c5, if_pos c6, bt_nat hb, lit_ev, Option.bind_some, if_pos hle, e1]
theorem j2_other (s : ByteArray) (n : Nat) (hn : n < s.size) (b : UInt8) (hb : (L s)[n]? = some b) (hv : valB b = false) (h76 : b ≠ 76) (k : Nat) : desc_next.j2 (k + 1) s (n : Int) false = some 0 := by
  have hle : ¬ Lib.indexByte (L ⟨#[66, 67, 68, 70, 73, 74, 83, 90]⟩) b ≥ 0 := of_decide_eq_false ((lits_eq b).trans hv)
  have c5 : (0 : Int) ≤ (n : Int) := by omega
  have c6 : (n : Int) < (s.size : Int) := by omega
  have c8 : ¬ ((b.toNat : Int) = 76) := fun h => h76 ((u8_iff b 76 76 rfl).1 h)
  simp only [desc_next.j2, if_neg (show ¬ (false = true) by simp), if_pos c5, if_pos c6, bt_nat hb, lit_ev, Option.bind_some, if_neg hle, if_neg c8]
theorem ix_eq (s : ByteArray) (n : Nat) (hdr : (L s).drop n = 76 :: (L s).drop (n + 1)) : strings_IndexByte.f (s.extract n s.size) 59 = some (if Lib.indexByte ((L s).drop (n + 1)) 59 = -1 then -1 else Lib.indexByte ((L s).drop (n + 1)) 59 + 1) := by
  unfold strings_IndexByte.f
  have : L (s.extract n s.size) = 76 :: (L s).drop (n + 1) := by
    rw [L_ext, List.take_of_length_le (by rw [List.length_drop, L_size]; exact Nat.le_refl _), hdr]
  rw [show (s.extract n s.size).data.toList = 76 :: (L s).drop (n + 1) from this, show ((59 : Int)).toNat.toUInt8 = 59 from rfl, indexByte_cons_ne (by decide)]
theorem j2_none (s : ByteArray) (n : Nat) (hn : n < s.size) (hb : (L s)[n]? = some 76) (hdr : (L s).drop n = 76 :: (L s).drop (n + 1)) (h1 : Lib.indexByte ((L s).drop (n + 1)) 59 = -1) (k : Nat) : desc_next.j2 (k + 1) s (n : Int) false = some 0 := by
  have hle : ¬ Lib.indexByte (L ⟨#[66, 67, 68, 70, 73, 74, 83, 90]⟩) 76 ≥ 0 := of_decide_eq_false (lits_eq 76)
  have c5 : (0 : Int) ≤ (n : Int) := by omega
  have c6 : (n : Int) < (s.size : Int) := by omega
  have c7 : (n : Int) ≤ (s.size : Int) := by omega
  have c8 : (((76 : UInt8).toNat : Nat) : Int) = 76 := rfl
  have hix := ix_eq s n hdr
  rw [h1, if_pos rfl] at hix
  simp only [desc_next.j2, if_neg (show ¬ (false = true) by simp), if_pos c5, if_pos c6, bt_nat hb, lit_ev, Option.bind_some, if_neg hle, if_pos c8, if_pos c7, Int.toNat_natCast, hix, if_pos (show (-1 : Int) < 0 by decide)]
theorem j2_some (s : ByteArray) (hs : s.size ≤ 1000000000) (n : Nat) (hb : (L s)[n]? = some 76) (hdr : (L s).drop n = 76 :: (L s).drop (n + 1)) (m : Nat) (h1 : Lib.indexByte ((L s).drop (n + 1)) 59 = m) (hmz : n + 1 + m < s.size) (k : Nat) (p : Option Bool) (hp : desc_path.f k (s.extract (n + 1) (n + 1 + m)) = p) (z : Int) (hz : wrap64 (((n + 1 + m : Nat) : Int) + 1) = z) :
    desc_next.j2 (k + 1) s (n : Int) false = p.bind fun t120 => (if t120 = true then (some z) else (some 0)) := by
  have hle : ¬ Lib.indexByte (L ⟨#[66, 67, 68, 70, 73, 74, 83, 90]⟩) 76 ≥ 0 := of_decide_eq_false (lits_eq 76)
  have c1 : ¬ ((m : Int) + 1 < 0) := by omega
  have c2 : (0 : Int) ≤ ((n + 1 : Nat) : Int) := by omega
  have c3 : ((n + 1 : Nat) : Int) ≤ ((n + 1 + m : Nat) : Int) := by omega
  have c4 : ((n + 1 + m : Nat) : Int) ≤ (s.size : Int) := by omega
  have c5 : (0 : Int) ≤ (n : Int) := by omega
  have c6 : (n : Int) < (s.size : Int) := by omega
  have c7 : (n : Int) ≤ (s.size : Int) := by omega
  have c8 : (((76 : UInt8).toNat : Nat) : Int) = 76 := rfl
  have hix := ix_eq s n hdr
  rw [h1, if_neg (by omega)] at hix
  have b1 : n ≤ 1000000000 := by omega
  have b2 : n + m ≤ 1000000000 := by omega
  have e1 := wr_succ b1
  have e2 := wr_len b2
  have f2 : 0 ≤ wrap64 ((n : Int) + 1) := by rw [e1]; exact c2
  have f3 : wrap64 ((n : Int) + 1) ≤ wrap64 ((n : Int) + ((m : Int) + 1)) := by rw [e1, e2]; exact c3
  have f4 : wrap64 ((n : Int) + ((m : Int) + 1)) ≤ (s.size : Int) := by rw [e2]; exact c4
  clear c2 c3 c4
  have hp2 : desc_path.f k (s.extract (wrap64 ((n : Int) + 1)).toNat (wrap64 ((n : Int) + ((m : Int) + 1))).toNat) = p := by
    rw [e1, e2]; exact hp
  have hz2 : wrap64 (wrap64 ((n : Int) + ((m : Int) + 1)) + 1) = z := by rw [e2]; exact hz
  clear e1 e2 hp hz
  simp only [desc_next.j2, if_neg (show ¬ (false = true) by simp), if_pos c5, if_pos c6, bt_nat hb, lit_ev, Option.bind_some, if_neg hle, if_pos c8]
  refine (if_pos c7).trans ?_
  rw [Int.toNat_natCast, hix, Option.bind_some]
  refine (if_neg c1).trans ?_
  refine (if_pos f2).trans ?_
  refine (if_pos f3).trans ?_
  refine (if_pos f4).trans ?_
  rw [hp2, hz2]
theorem next_j2 (s : ByteArray) (hs : s.size ≤ 1000000000) (n : Nat) (hn : n < s.size) :
    Ev (fun k => desc_next.j2 k s (n : Int) false) (if tailL ((L s).drop n) = 0 then 0 else ((n + tailL ((L s).drop n) : Nat) : Int)) := by
  obtain ⟨b, hb, hdr⟩ := L_get hn
  rw [hdr]
  cases hv : valB b with
  | true =>
    have ht : tailL (b :: (L s).drop (n + 1)) = 1 := by rw [tailL_cons, if_pos hv]
    rw [ht, if_neg (by decide)]
    exact Ev.step (f := fun _ => some ((n + 1 : Nat) : Int)) (j2_val s hs n hn b hb hv) (Ev.now _)
  | false =>
    by_cases h76 : b = 76
    · subst h76
      have ht : tailL (76 :: (L s).drop (n + 1)) = lenL ((L s).drop (n + 1)) := by rw [tailL_cons, if_neg (by decide), if_pos rfl]
      rcases indexByte_cases ((L s).drop (n + 1)) 59 with ⟨h1, _⟩ | ⟨m, h1, h2, _⟩
      · rw [ht, lenL_none h1, if_pos rfl]
        exact Ev.step (f := fun _ => some 0) (j2_none s n hn hb hdr h1) (Ev.now _)
      · have hmz : n + 1 + m < s.size := by rw [List.length_drop, L_size] at h2; omega
        have hseg : L (s.extract (n + 1) (n + 1 + m)) = ((L s).drop (n + 1)).take m := by rw [L_ext, show n + 1 + m - (n + 1) = m by omega]
        have hp := path_ev (s.extract (n + 1) (n + 1 + m)) (by rw [ByteArray.size_extract]; omega)
        rw [hseg] at hp
        rw [ht, lenL_some h1]
        have e3 : wrap64 (((n + 1 + m : Nat) : Int) + 1) = ((n + (m + 2) : Nat) : Int) := (wr_succ (n := n + 1 + m) (by omega)).trans (by omega)
        refine Ev.step (f := fun k => (desc_path.f k (s.extract (n + 1) (n + 1 + m))).bind fun t => if t = true then (some ((n + (m + 2) : Nat) : Int)) else some 0) (fun k => j2_some s hs n hb hdr m h1 hmz k _ rfl _ e3) ?_
        clear e3
        refine Ev.bind (f := fun k t => if t = true then (some ((n + (m + 2) : Nat) : Int)) else (some 0)) hp ?_
        cases pathL (((L s).drop (n + 1)).take m) with
        | true => exact Ev.now _
        | false => exact Ev.now (0 : Int)
    · have ht : tailL (b :: (L s).drop (n + 1)) = 0 := by rw [tailL_cons, if_neg (by simp [hv]), if_neg h76]
      rw [ht, if_pos rfl]
      exact Ev.step (f := fun _ => some 0) (j2_other s n hn b hb hv h76) (Ev.now _)
theorem next_j1 (s : ByteArray) (hs : s.size ≤ 1000000000) : Ev (fun k => desc_next.j1 k s ((brs (L s) : Nat) : Int)) ((oneL (L s) 0 : Nat) : Int) := by
  have hl := brs_le (L s)
  rw [L_size] at hl
  have h2t : ∀ r : Int, r = 0 → Ev (fun k => desc_next.j2 k s ((brs (L s) : Nat) : Int) true) r := fun r hr => by
    rw [hr]
    refine Ev.step (f := fun _ => some 0) (fun k => ?_) (Ev.now _)
    simp only [desc_next.j2]; rw [if_pos trivial]
  rw [oneL_brs, L_size, Nat.zero_add]
  by_cases h1 : 255 < brs (L s)
  · refine Ev.step (f := fun k => desc_next.j2 k s ((brs (L s) : Nat) : Int) true) (fun k => ?_) (h2t _ ?_)
    · simp only [desc_next.j1]; rw [if_pos (by omega)]
    · rw [if_pos (.inl h1)]; rfl
  · by_cases h2 : brs (L s) = s.size
    · refine Ev.step (f := fun k => desc_next.j2 k s ((brs (L s) : Nat) : Int) true) (fun k => ?_) (h2t _ ?_)
      · simp only [desc_next.j1]; rw [if_neg (by omega), h2]; simp
      · rw [if_pos (.inr h2)]; rfl
    · have := next_j2 s hs (brs (L s)) (by omega)
      rw [if_neg (by omega)]
      have e : (((if tailL ((L s).drop (brs (L s))) = 0 then 0 else brs (L s) + tailL ((L s).drop (brs (L s)))) : Nat) : Int) = (if tailL ((L s).drop (brs (L s))) = 0 then 0 else ((brs (L s) + tailL ((L s).drop (brs (L s))) : Nat) : Int)) := by split <;> rfl
      rw [e]
      refine Ev.step (fun k => ?_) this
      simp only [desc_next.j1]; rw [if_neg (by omega)]
      have : (((brs (L s) : Nat) : Int) == (s.size : Int)) = false := by rw [beq_eq_false_iff_ne]; omega
      rw [this]
theorem next_l0 (s : ByteArray) (hs : s.size ≤ 1000000000) : ∀ (d n : Nat), n ≤ brs (L s) → brs (L s) - n = d → Ev (fun k => desc_next.l0 k s (n : Int)) ((oneL (L s) 0 : Nat) : Int) := by
  intro d
  have hl := brs_le (L s)
  rw [L_size] at hl
  induction d with
  | zero =>
    intro n hn hd
    obtain rfl : n = brs (L s) := by omega
    refine Ev.step (fun k => ?_) (next_j1 s hs)
    simp only [desc_next.l0]
    by_cases h2 : brs (L s) < s.size
    · obtain ⟨b, hb, _⟩ := L_get h2
      have hbt := bt_nat hb
      have hne := brs_end (L s) b hb
      rw [if_pos (by omega), if_pos (by omega), hbt, if_neg (fun h => hne ((u8_iff b 91 91 rfl).1 h))]
    · rw [if_neg (by omega)]
  | succ d ih =>
    intro n hn hd
    have hb := brs_at (L s) n (by omega)
    have hbt := bt_nat hb
    refine Ev.step (fun k => ?_) (ih (n + 1) (by omega) (by omega))
    simp only [desc_next.l0]
    rw [if_pos (by omega), if_pos (by omega), hbt, if_pos (by rfl), wr (by omega) (by omega)]; rfl
theorem next_ev (s : ByteArray) (hs : s.size ≤ 1000000000) : Ev (fun k => desc_next.f k s) ((oneL (L s) 0 : Nat) : Int) := next_l0 s hs _ 0 (Nat.zero_le _) rfl
theorem isEmpty_iff {l : List UInt8} : l.isEmpty = true ↔ l = [] := List.isEmpty_iff
theorem field_ev (s : ByteArray) (hs : s.size ≤ 1000000000) : Ev (fun k => desc_Field.f k s) (fieldL (L s)) := by
  by_cases h : L s = []
  · refine Ev.congr (f := fun _ => some (fieldL (L s))) (fun k => ?_) (Ev.now _)
    unfold desc_Field.f
    rw [L_to, if_pos h, h]; rfl
  · have he : (L s).isEmpty = false := by cases hh : L s with | nil => exact absurd hh h | cons _ _ => rfl
    have := Ev.bind (f := fun _ t => some (t == (s.size : Int))) (r := fieldL (L s)) (next_ev s hs) (by
      have e : (((oneL (L s) 0 : Nat) : Int) == (s.size : Int)) = fieldL (L s) := by
        unfold fieldL; rw [he, L_size, Bool.not_false, Bool.true_and, Bool.eq_iff_iff, beq_iff_eq, beq_iff_eq]; omega
      rw [e]; exact Ev.now _)
    refine Ev.congr (fun k => ?_) this
    unfold desc_Field.f
    rw [L_to, if_neg h]
end Go.Proofs.YtfnjbmpolggdeaaDoor.DR
