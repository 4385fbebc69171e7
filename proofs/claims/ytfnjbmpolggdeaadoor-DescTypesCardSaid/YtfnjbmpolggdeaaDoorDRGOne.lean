/-
  The document's reading of one descriptor; fields, classes, members, slots.
-/
import Derived.Test.YtfnjbmpolggdeaaDoorDRGDesc
import Derived.Test.YtfnjbmpolggdeaaDoorDRx24
namespace Go.Proofs.YtfnjbmpolggdeaaDoor.DR
open Go.RowKit Go.Proofs.YtfnjbmpolggdeaaDoorW.PrintWords
set_option linter.unusedVariables false
set_option linter.unusedSimpArgs false
set_option maxRecDepth 10000

abbrev One := ByteArray × ByteArray × Bool
def OneR (s : ByteArray) (d : Nat) (r : One) : Prop :=
  r.2.2 = decide (oneL (L s) d ≠ 0) ∧ r.1.size ≤ s.size ∧ (oneL (L s) d ≠ 0 → r.1 = s.extract 0 (oneL (L s) d) ∧ r.2.1 = s.extract (oneL (L s) d) s.size)
def none3 : One := ((⟨#[]⟩ : ByteArray), (⟨#[]⟩ : ByteArray), false)
theorem oneR_none {s : ByteArray} {d : Nat} (h : oneL (L s) d = 0) : OneR s d none3 :=
  ⟨by rw [h]; rfl, Nat.zero_le _, fun h2 => absurd h h2⟩
theorem semi_none (s : ByteArray) (hs : s.size ≤ 1000000000) (hno : ∀ b ∈ (L s).drop 1, b ≠ 59) : ∀ (d i : Nat), 1 ≤ i → i ≤ s.size → s.size - i = d → Ev (fun k => jvmcoreref1_one.l0 k s (i : Int)) none3 := by
  intro d
  induction d with
  | zero =>
    intro i h1 h2 h3
    refine Ev.step (f := fun _ => some none3) (fun k => ?_) (Ev.now _)
    simp only [jvmcoreref1_one.l0]
    exact if_neg (by omega)
  | succ d ih =>
    intro i h1 h2 h3
    have hlt : i < s.size := by omega
    obtain ⟨b, hb, _⟩ := L_get hlt
    have hne : b ≠ 59 := hno b (by
      rw [List.mem_iff_getElem?]; exact ⟨i - 1, by rw [List.getElem?_drop, show 1 + (i - 1) = i by omega]; exact hb⟩)
    have c1 : (i : Int) < (s.size : Int) := by omega
    have c2 : (0 : Int) ≤ (i : Int) := by omega
    have c3 : ¬ (bt s (i : Int) = 59) := by rw [bt_nat hb]; exact fun h => hne ((u8_iff b 59 59 rfl).1 h)
    have h4 := ih (i + 1) (by omega) (by omega) (by omega)
    have e1 := wr_succ (n := i) (by omega)
    refine Ev.step (fun k => ?_) h4
    simp only [jvmcoreref1_one.l0]
    refine (if_pos c1).trans ?_
    refine (if_pos c2).trans ?_
    refine (if_neg c3).trans ?_
    rw [e1]
def pick3 (s : ByteArray) (n : Nat) (p : Bool) : One := (s.extract 0 n, s.extract n s.size, p)
theorem semi_hit (s : ByteArray) (i : Nat) (h1 : 1 ≤ i) (hlt : i < s.size) (hb : (L s)[i]? = some 59) (z : Int) (hz : wrap64 ((i : Int) + 1) = z) (hz2 : z = ((i + 1 : Nat) : Int)) (k : Nat) :
    jvmcoreref1_one.l0 (k + 1) s (i : Int) = (jvmcoreref1_path.f k (s.extract 1 i)).bind fun p => some (pick3 s (i + 1) p) := by
  have c1 : (i : Int) < (s.size : Int) := by omega
  have c2 : (0 : Int) ≤ (i : Int) := by omega
  have c3 : bt s (i : Int) = 59 := by rw [bt_nat hb]; rfl
  have c4 : (0 : Int) ≤ z := by omega
  have c5 : z ≤ (s.size : Int) := by omega
  have c6 : (1 : Int) ≤ (i : Int) := by omega
  have c7 : (i : Int) ≤ (s.size : Int) := by omega
  have e2 : z.toNat = i + 1 := by omega
  simp only [jvmcoreref1_one.l0]
  refine (if_pos c1).trans ?_
  refine (if_pos c2).trans ?_
  refine (if_pos c3).trans ?_
  rw [hz]
  refine (if_pos c4).trans ?_
  refine (if_pos c5).trans ?_
  refine (if_pos c6).trans ?_
  refine (if_pos c7).trans ?_
  rw [e2, Int.toNat_natCast]
  rfl
theorem semi_some (s : ByteArray) (hs : s.size ≤ 1000000000) (m : Nat) (hm : 1 + m < s.size) (hno : ∀ b ∈ ((L s).drop 1).take m, b ≠ 59) (hb : (L s)[1 + m]? = some 59) : ∀ (d j : Nat), j ≤ m → m - j = d →
    Ev (fun k => jvmcoreref1_one.l0 k s ((1 + j : Nat) : Int)) (pick3 s (m + 2) (pathL (((L s).drop 1).take m))) := by
  intro d
  induction d with
  | zero =>
    intro j h1 h2
    obtain rfl : j = m := by omega
    have hseg : L (s.extract 1 (1 + j)) = ((L s).drop 1).take j := by rw [L_ext, show 1 + j - 1 = j by omega]
    have hp := ref_path_ev (s.extract 1 (1 + j)) (by rw [ByteArray.size_extract]; omega)
    rw [hseg] at hp
    have hz := wr_succ (n := 1 + j) (by omega)
    refine Ev.step (semi_hit s (1 + j) (by omega) hm hb _ hz rfl) ?_
    clear hz
    rw [show j + 2 = 1 + j + 1 by omega]
    exact Ev.bind (f := fun _ p => some (pick3 s (1 + j + 1) p)) hp (Ev.now _)
  | succ d ih =>
    intro j h1 h2
    have hlt : 1 + j < s.size := by omega
    obtain ⟨b, hb2, _⟩ := L_get hlt
    have hne : b ≠ 59 := hno b (by
      rw [List.mem_iff_getElem?]; exact ⟨j, by rw [List.getElem?_take, if_pos (by omega), List.getElem?_drop]; exact hb2⟩)
    have c1 : ((1 + j : Nat) : Int) < (s.size : Int) := by omega
    have c2 : (0 : Int) ≤ ((1 + j : Nat) : Int) := by omega
    have c3 : ¬ (bt s ((1 + j : Nat) : Int) = 59) := by rw [bt_nat hb2]; exact fun h => hne ((u8_iff b 59 59 rfl).1 h)
    have h4 := ih (j + 1) (by omega) (by omega)
    have e1 := wr_succ (n := 1 + j) (by omega)
    refine Ev.step (fun k => ?_) h4
    simp only [jvmcoreref1_one.l0]
    refine (if_pos c1).trans ?_
    refine (if_pos c2).trans ?_
    refine (if_neg c3).trans ?_
    rw [e1]; rfl
theorem chain (b : UInt8) (f : Int → Bool → Option One) :
    (if ((b.toNat : Int)) = 66 then f b.toNat ((b.toNat : Int) == 66) else (if ((b.toNat : Int)) = 67 then f b.toNat ((b.toNat : Int) == 67) else (if ((b.toNat : Int)) = 68 then f b.toNat ((b.toNat : Int) == 68) else (if ((b.toNat : Int)) = 70 then f b.toNat ((b.toNat : Int) == 70) else (if ((b.toNat : Int)) = 73 then f b.toNat ((b.toNat : Int) == 73) else (if ((b.toNat : Int)) = 74 then f b.toNat ((b.toNat : Int) == 74) else (if ((b.toNat : Int)) = 83 then f b.toNat ((b.toNat : Int) == 83) else f b.toNat ((b.toNat : Int) == 90)))))))) = f b.toNat (valB b) := by
  have hv : valB b = true ↔ (b = 66 ∨ b = 67 ∨ b = 68 ∨ b = 70 ∨ b = 73 ∨ b = 74 ∨ b = 83 ∨ b = 90) := by simp [valB]
  have e (z : Int) (c : UInt8) (hc : (c.toNat : Int) = z) (h : (b.toNat : Int) = z) (hcv : valB c = true) : ((b.toNat : Int) == z) = valB b := by
    have := (u8_iff b c z hc).1 h; subst this; rw [hcv]; exact beq_iff_eq.2 h
  split
  · rename_i h; rw [e 66 66 rfl h (by decide)]
  · rename_i h1; split
    · rename_i h; rw [e 67 67 rfl h (by decide)]
    · rename_i h2; split
      · rename_i h; rw [e 68 68 rfl h (by decide)]
      · rename_i h3; split
        · rename_i h; rw [e 70 70 rfl h (by decide)]
        · rename_i h4; split
          · rename_i h; rw [e 73 73 rfl h (by decide)]
          · rename_i h5; split
            · rename_i h; rw [e 74 74 rfl h (by decide)]
            · rename_i h6; split
              · rename_i h; rw [e 83 83 rfl h (by decide)]
              · rename_i h7
                have : ((b.toNat : Int) == 90) = valB b := by
                  rw [Bool.eq_iff_iff, hv, beq_iff_eq, u8_iff b 90 90 rfl]
                  constructor
                  · intro h; simp [h]
                  · rintro (h | h | h | h | h | h | h | h)
                    · exact absurd ((u8_iff b 66 66 rfl).2 h) h1
                    · exact absurd ((u8_iff b 67 67 rfl).2 h) h2
                    · exact absurd ((u8_iff b 68 68 rfl).2 h) h3
                    · exact absurd ((u8_iff b 70 70 rfl).2 h) h4
                    · exact absurd ((u8_iff b 73 73 rfl).2 h) h5
                    · exact absurd ((u8_iff b 74 74 rfl).2 h) h6
                    · exact absurd ((u8_iff b 83 83 rfl).2 h) h7
                    · exact h
                rw [this]
theorem ext_L {a b : ByteArray} (h : L a = L b) : a = b := by
  cases a with | mk x => cases b with | mk y => exact congrArg ByteArray.mk (Array.toList_inj.1 h)
theorem L_append (a b : ByteArray) : L (a ++ b) = L a ++ L b := by simp [L, ByteArray.data_append]
theorem bra_take {s : ByteArray} {n : Nat} (h0 : (L s)[0]? = some 91) (h1 : 1 ≤ s.size) : (⟨#[91]⟩ : ByteArray) ++ (s.extract 1 s.size).extract 0 n = s.extract 0 (n + 1) := by
  apply ext_L
  rw [L_append, L_ext, L_ext, L_ext, List.drop_zero, List.drop_zero, Nat.sub_zero, Nat.sub_zero]
  rw [List.take_of_length_le (l := (L s).drop 1) (by rw [List.length_drop, L_size]; exact Nat.le_refl _)]
  cases hl : L s with
  | nil => rw [hl] at h0; simp at h0
  | cons c l =>
    rw [hl] at h0
    have : c = 91 := by simpa using h0
    subst this
    rfl
theorem ext_ext {s : ByteArray} {n : Nat} : (s.extract 1 s.size).extract n (s.extract 1 s.size).size = s.extract (n + 1) s.size := by
  apply ext_L
  rw [L_ext, L_ext, L_ext, ByteArray.size_extract, Nat.min_self]
  rw [List.take_of_length_le (l := (L s).drop 1) (by rw [List.length_drop, L_size]; exact Nat.le_refl _)]
  rw [List.drop_drop, List.take_of_length_le (by rw [List.length_drop, L_size]; omega), List.take_of_length_le (by rw [List.length_drop, L_size]; exact Nat.le_refl _), Nat.add_comm 1 n]
theorem ref_one_j1 (s : ByteArray) (hs : s.size ≤ 1000000000) (d : Nat) (hd : d ≤ 255) (b : UInt8) (l : List UInt8) (hl : L s = b :: l)
    (ih : b = 91 → ∃ r, Ev (fun k => jvmcoreref1_one.f k (s.extract 1 s.size) ((d + 1 : Nat) : Int)) r ∧ OneR (s.extract 1 s.size) (d + 1) r) :
    ∃ r, Ev (fun k => jvmcoreref1_one.j1 k s (d : Int) (b.toNat : Int) (valB b)) r ∧ OneR s d r := by
  have hsz : s.size = l.length + 1 := by rw [← L_size, hl]; rfl
  have hd2 : ¬ 255 < d := by omega
  have hdr : (L s).drop 1 = l := by rw [hl]; rfl
  cases hv : valB b with
  | true =>
    have ho : oneL (L s) d = 1 := by rw [hl]; unfold oneL; rw [if_neg hd2, if_pos hv]
    refine ⟨pick3 s 1 true, Ev.step (f := fun _ => some (pick3 s 1 true)) (fun k => ?_) (Ev.now _), ?_⟩
    · simp only [jvmcoreref1_one.j1]
      rw [if_pos trivial, if_pos (by omega), if_pos (by omega)]; rfl
    · unfold OneR; rw [ho]
      exact ⟨rfl, by show (s.extract 0 1).size ≤ _; rw [ByteArray.size_extract]; omega, fun _ => ⟨rfl, rfl⟩⟩
  | false =>
    by_cases h91 : b = 91
    · subst h91
      obtain ⟨r, hr, h1, h2, h3⟩ := ih rfl
      have hLe : L (s.extract 1 s.size) = l := by
        rw [L_ext, hdr, List.take_of_length_le (by omega)]
      rw [hLe] at h1 h3
      rw [ByteArray.size_extract] at h2
      have ho : oneL (L s) d = if oneL l (d + 1) = 0 then 0 else oneL l (d + 1) + 1 := by
        rw [hl]; conv => lhs; unfold oneL
        rw [if_neg hd2, hv, if_neg (by simp), if_pos rfl]
      have e1 : wrap64 ((d : Int) + 1) = ((d + 1 : Nat) : Int) := wr_succ (by omega)
      refine ⟨((⟨#[91]⟩ : ByteArray) ++ r.1, r.2.1, r.2.2), ?_, ?_⟩
      · refine Ev.step (f := fun k => (jvmcoreref1_one.f k (s.extract 1 s.size) ((d + 1 : Nat) : Int)).bind fun t => if 1 + t.1.size ≤ 9223372036854775807 then some ((⟨#[91]⟩ : ByteArray) ++ t.1, t.2.1, t.2.2) else none) (fun k => ?_) ?_
        · simp only [jvmcoreref1_one.j1]
          have c2 : (1 : Int) ≤ (s.size : Int) := by clear e1; omega
          have c3 : (((91 : UInt8).toNat : Nat) : Int) = 91 := rfl
          rw [if_neg (by simp), if_pos c3, if_pos c2, e1]
        · clear e1
          refine Ev.bind (f := fun _ t => if 1 + t.1.size ≤ 9223372036854775807 then some ((⟨#[91]⟩ : ByteArray) ++ t.1, t.2.1, t.2.2) else none) hr ?_
          have c : 1 + r.1.size ≤ 9223372036854775807 := by omega
          exact Ev.congr (fun k => if_pos c) (Ev.now _)
      · clear e1
        unfold OneR; rw [ho]
        by_cases hz : oneL l (d + 1) = 0
        · rw [if_pos hz]
          refine ⟨by rw [h1, hz], ?_, fun h => absurd rfl h⟩
          rw [ByteArray.size_append]
          show 1 + r.1.size ≤ _
          omega
        · rw [if_neg hz]
          obtain ⟨h4, h5⟩ := h3 hz
          refine ⟨by rw [h1]; simp [hz], ?_, fun _ => ⟨?_, ?_⟩⟩
          · rw [ByteArray.size_append]
            show 1 + r.1.size ≤ _
            omega
          · show (⟨#[91]⟩ : ByteArray) ++ r.1 = _
            rw [h4]; exact bra_take (by rw [hl]; rfl) (by omega)
          · show r.2.1 = _
            rw [h5]; exact ext_ext
    · have c91 : ¬ ((b.toNat : Int) = 91) := fun h => h91 ((u8_iff b 91 91 rfl).1 h)
      by_cases h76 : b = 76
      · subst h76
        have ho : oneL (L s) d = lenL l := by
          rw [hl]; conv => lhs; unfold oneL
          rw [if_neg hd2, hv, if_neg (by simp), if_neg (by decide), if_pos rfl]
        have hj : ∀ k, jvmcoreref1_one.j1 (k + 1) s (d : Int) ((76 : UInt8).toNat : Int) false = jvmcoreref1_one.l0 k s ((1 + 0 : Nat) : Int) := fun k => by
          simp only [jvmcoreref1_one.j1]
          rw [if_neg (by simp), if_neg c91]; exact if_pos rfl
        rcases indexByte_cases l 59 with ⟨h1, h2⟩ | ⟨m, h1, h2, h3, h4⟩
        · exact ⟨none3, Ev.step hj (semi_none s hs (by rw [hdr]; exact h2) _ 1 (Nat.le_refl _) (by omega) rfl), oneR_none (ho.trans (lenL_none h1))⟩
        · have hb : (L s)[1 + m]? = some 59 := by
            rw [← List.getElem?_drop, hdr]
            have := congrArg (fun x : List UInt8 => x[0]?) h4
            simpa using this
          have := semi_some s hs m (by omega) (by rw [hdr]; exact h3) hb _ 0 (Nat.zero_le _) rfl
          rw [hdr] at this
          refine ⟨_, Ev.step hj this, ?_⟩
          unfold OneR; rw [ho, lenL_some h1]
          cases hp : pathL (l.take m) with
          | true =>
            refine ⟨rfl, ?_, fun _ => ⟨rfl, rfl⟩⟩
            show (s.extract 0 (m + 2)).size ≤ _
            rw [ByteArray.size_extract]; omega
          | false =>
            refine ⟨rfl, ?_, fun h => absurd rfl h⟩
            show (s.extract 0 (m + 2)).size ≤ _
            rw [ByteArray.size_extract]; omega
      · have ho : oneL (L s) d = 0 := by
          rw [hl]; conv => lhs; unfold oneL
          rw [if_neg hd2, hv, if_neg (by simp), if_neg h91, if_neg h76]
        have c76 : ¬ ((b.toNat : Int) = 76) := fun h => h76 ((u8_iff b 76 76 rfl).1 h)
        refine ⟨none3, Ev.step (f := fun _ => some none3) (fun k => ?_) (Ev.now _), oneR_none ho⟩
        simp only [jvmcoreref1_one.j1]
        rw [if_neg (by simp), if_neg c91, if_neg c76]; rfl
theorem ref_one : ∀ (n : Nat) (s : ByteArray), s.size = n → n ≤ 1000000000 → ∀ d : Nat, d ≤ 256 →
    ∃ r, Ev (fun k => jvmcoreref1_one.f k s (d : Int)) r ∧ OneR s d r := by
  intro n
  induction n with
  | zero =>
    intro s hz _ d _
    have hl : L s = [] := List.eq_nil_of_length_eq_zero (by rw [L_size]; exact hz)
    refine ⟨none3, Ev.step (f := fun k => jvmcoreref1_one.j0 k s (d : Int) true) (fun k => ?_) (Ev.step (f := fun _ => some none3) (fun k => ?_) (Ev.now _)), oneR_none (by rw [hl]; rfl)⟩
    · simp only [jvmcoreref1_one.f]; rw [L_to, if_pos hl]
    · simp only [jvmcoreref1_one.j0]; rw [if_pos trivial]; rfl
  | succ n ih =>
    intro s hz hn d hd
    cases hl : L s with
    | nil => have := congrArg List.length hl; rw [L_size, hz] at this; simp at this
    | cons b l =>
      have hne : ¬ s.toList = ([] : List UInt8) := by rw [L_to, hl]; simp
      by_cases hbig : 255 < d
      · have ho : oneL (L s) d = 0 := by rw [hl]; unfold oneL; rw [if_pos hbig]
        refine ⟨none3, Ev.step (f := fun k => jvmcoreref1_one.j0 k s (d : Int) true) (fun k => ?_) (Ev.step (f := fun _ => some none3) (fun k => ?_) (Ev.now _)), oneR_none ho⟩
        · simp only [jvmcoreref1_one.f]; rw [if_neg hne, decide_eq_true (by omega)]
        · simp only [jvmcoreref1_one.j0]; rw [if_pos trivial]; rfl
      · obtain ⟨r, hr, hR⟩ := ref_one_j1 s (by omega) d (by omega) b l hl (fun _ => ih (s.extract 1 s.size) (by rw [ByteArray.size_extract]; omega) (by omega) (d + 1) (by omega))
        refine ⟨r, Ev.step (f := fun k => jvmcoreref1_one.j0 k s (d : Int) false) (fun k => ?_) (Ev.step (fun k => ?_) hr), hR⟩
        · simp only [jvmcoreref1_one.f]; rw [if_neg hne, decide_eq_false (by omega)]
        · have hb : bt s 0 = (b.toNat : Int) := bt_nat (i := 0) (by rw [hl]; rfl)
          simp only [jvmcoreref1_one.j0]
          rw [if_neg (by simp), if_pos (by omega), hb]
          exact chain b (jvmcoreref1_one.j1 k s (d : Int))
theorem ref_one_ev (s : ByteArray) (hs : s.size ≤ 1000000000) : ∃ r, Ev (fun k => jvmcoreref1_one.f k s 0) r ∧ OneR s 0 r := ref_one _ s rfl hs 0 (by omega)

/-! ### fields, classes, members, slots -/
theorem ref_field_ev (s : ByteArray) (hs : s.size ≤ 1000000000) : Ev (fun k => jvmcoreref1_Field.f k s) (fieldL (L s)) := by
  obtain ⟨r, hr, h1, h2, h3⟩ := ref_one_ev s hs
  refine Ev.bind (f := fun _ t => if t.2.2 = true then (some (t.2.1.toList == ([] : List UInt8))) else some false) hr ?_
  have hle := oneL_le (L s) 0
  by_cases hz : oneL (L s) 0 = 0
  · rw [h1, hz]
    have : fieldL (L s) = false := by
      unfold fieldL; rw [hz]
      cases L s <;> simp
    rw [this]
    exact Ev.now _
  · rw [h1, decide_eq_true hz, (h3 hz).2, L_to, L_ext]
    have : (((L s).drop (oneL (L s) 0)).take (s.size - oneL (L s) 0) == ([] : List UInt8)) = fieldL (L s) := by
      rw [List.take_of_length_le (by rw [List.length_drop, L_size]; exact Nat.le_refl _)]
      unfold fieldL
      rw [Bool.eq_iff_iff, beq_iff_eq, List.drop_eq_nil_iff]
      cases hl : L s with
      | nil => rw [hl] at hz; exact absurd rfl hz
      | cons b l =>
        rw [hl] at hle
        simp only [List.isEmpty_cons, Bool.not_false, Bool.true_and, beq_iff_eq]
        constructor <;> intro h <;> omega
    rw [this]
    exact Ev.now _
def classL (l : List UInt8) : Bool := if l.head? = some 91 then fieldL l else pathL l
theorem prefix_eq (s : ByteArray) (c : UInt8) : strings_HasPrefix.f s ⟨#[c]⟩ = some ((L s).head? == some c) := by
  unfold strings_HasPrefix.f stringslite_HasPrefix.f
  have e1 : (((⟨#[c]⟩ : ByteArray).size : Nat) : Int) = 1 := rfl
  rw [e1]
  cases hl : L s with
  | nil =>
    have hz : s.size = 0 := by rw [← L_size, hl]; rfl
    rw [if_neg (by omega)]; rfl
  | cons b l =>
    have hz : s.size = l.length + 1 := by rw [← L_size, hl]; rfl
    rw [if_pos (by omega), if_pos (by omega), if_pos (by omega), L_to, L_to, L_ext, hl]
    show (some ([b] == [c])).bind _ = _
    have : ([b] == [c]) = (some b == some c) := by rw [Bool.eq_iff_iff, beq_iff_eq, beq_iff_eq]; simp
    rw [this]; rfl
theorem class_ev (s : ByteArray) (hs : s.size ≤ 1000000000) : Ev (fun k => desc_Class.f k s) (classL (L s)) := by
  have hp : ∀ k, desc_Class.f k s = if ((L s).head? == some 91) = true then ((desc_Field.f k s).bind fun t => some t) else ((desc_path.f k s).bind fun t => some t) := fun k => by
    unfold desc_Class.f; rw [prefix_eq s 91]; rfl
  refine Ev.congr hp ?_
  by_cases h : (L s).head? = some 91
  · have e : ((L s).head? == some 91) = true := by rw [h]; rfl
    rw [e, show classL (L s) = fieldL (L s) from if_pos h]
    exact Ev.bind (f := fun _ t => some t) (field_ev s hs) (Ev.now _)
  · have e : ((L s).head? == some 91) = false := beq_eq_false_iff_ne.2 h
    rw [e, show classL (L s) = pathL (L s) from if_neg h]
    exact Ev.bind (f := fun _ t => some t) (path_ev s (by omega)) (Ev.now _)
theorem ref_class_ev (s : ByteArray) (hs : s.size ≤ 1000000000) : Ev (fun k => jvmcoreref1_Class.f k s) (classL (L s)) := by
  have hj1 : Ev (fun k => jvmcoreref1_Class.j0 k s true) (fieldL (L s)) := by
    refine Ev.step (f := fun k => (jvmcoreref1_Field.f k s).bind fun t => some t) (fun k => ?_) (Ev.bind (f := fun _ t => some t) (ref_field_ev s hs) (Ev.now _))
    simp only [jvmcoreref1_Class.j0]; rw [if_pos trivial]
  have hj0 : Ev (fun k => jvmcoreref1_Class.j0 k s false) (pathL (L s)) := by
    refine Ev.step (f := fun k => (jvmcoreref1_path.f k s).bind fun t => some t) (fun k => ?_) (Ev.bind (f := fun _ t => some t) (ref_path_ev s hs) (Ev.now _))
    simp only [jvmcoreref1_Class.j0]; rw [if_neg (by simp)]
  cases hl : L s with
  | nil =>
    rw [hl] at hj0
    refine Ev.congr (fun k => ?_) hj0
    unfold jvmcoreref1_Class.f
    rw [L_to, if_pos hl]
  | cons b l =>
    have hz : s.size = l.length + 1 := by rw [← L_size, hl]; rfl
    have hb : bt s 0 = (b.toNat : Int) := bt_nat (i := 0) (by rw [hl]; rfl)
    have hf : ∀ k, jvmcoreref1_Class.f k s = jvmcoreref1_Class.j0 k s ((b.toNat : Int) == 91) := fun k => by
      unfold jvmcoreref1_Class.f
      rw [L_to, hl, if_neg (by simp), if_pos (by omega), hb]
    refine Ev.congr hf ?_
    rw [hl] at hj0 hj1
    by_cases h : b = 91
    · subst h
      exact hj1
    · have e : ((b.toNat : Int) == 91) = false := beq_eq_false_iff_ne.2 fun h2 => h ((u8_iff b 91 91 rfl).1 h2)
      rw [e, show classL (b :: l) = pathL (b :: l) from if_neg (by simpa using h)]
      exact hj0
end Go.Proofs.YtfnjbmpolggdeaaDoor.DR
