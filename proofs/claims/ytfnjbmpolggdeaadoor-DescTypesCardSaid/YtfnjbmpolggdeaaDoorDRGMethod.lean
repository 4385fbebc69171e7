/-
  Slots and methods of both sides in lock step.
-/
import Derived.Test.YtfnjbmpolggdeaaDoorDRGOne
import Derived.Test.YtfnjbmpolggdeaaDoorDRx29
namespace Go.Proofs.YtfnjbmpolggdeaaDoor.DR
open Go.RowKit Go.Proofs.YtfnjbmpolggdeaaDoorW.PrintWords
set_option linter.unusedVariables false
set_option linter.unusedSimpArgs false
set_option maxRecDepth 10000

/-! ### slots -/
def slotsN (l : List UInt8) : Nat := if l = [86] then 0 else if l = [74] then 2 else if l = [68] then 2 else 1
theorem slotsN_le (l : List UInt8) : slotsN l ≤ 2 := by unfold slotsN; (repeat' split) <;> omega
theorem slots_eq (s : ByteArray) : desc_Slots.f s = some ((slotsN (L s) : Nat) : Int) := by
  unfold desc_Slots.f slotsN
  rw [L_to]
  by_cases h1 : L s = [86]
  · rw [if_pos h1, if_pos h1]; rfl
  · rw [if_neg h1, if_neg h1]
    by_cases h2 : L s = [74]
    · rw [if_pos h2, if_pos h2]; rfl
    · rw [if_neg h2, if_neg h2]
      by_cases h3 : L s = [68]
      · rw [if_pos h3, if_pos h3]; rfl
      · rw [if_neg h3, if_neg h3]; rfl
theorem ref_slots_ev (s : ByteArray) : Ev (fun k => jvmcoreref1_Slots.f k s) ((slotsN (L s) : Nat) : Int) := by
  have hj1 : Ev (fun k => jvmcoreref1_Slots.j0 k s true) 2 :=
    Ev.step (f := fun _ => some 2) (fun k => by simp only [jvmcoreref1_Slots.j0]; rw [if_pos trivial]) (Ev.now _)
  by_cases h2 : L s = [74]
  · have e : slotsN (L s) = 2 := by rw [h2]; rfl
    rw [e]
    refine Ev.congr (fun k => ?_) hj1
    unfold jvmcoreref1_Slots.f; rw [L_to, if_pos h2]
  · by_cases h3 : L s = [68]
    · have e : slotsN (L s) = 2 := by rw [h3]; rfl
      rw [e]
      refine Ev.congr (fun k => ?_) hj1
      unfold jvmcoreref1_Slots.f; rw [L_to, if_neg h2, h3]; rfl
    · have e3 : (L s == [68]) = false := beq_eq_false_iff_ne.2 h3
      refine Ev.congr (f := fun k => jvmcoreref1_Slots.j0 k s false) (fun k => ?_) (Ev.step (f := fun _ => some ((slotsN (L s) : Nat) : Int)) (fun k => ?_) (Ev.now _))
      · unfold jvmcoreref1_Slots.f; rw [L_to, if_neg h2, e3]
      · simp only [jvmcoreref1_Slots.j0]
        rw [if_neg (by simp), L_to]
        unfold slotsN
        by_cases h1 : L s = [86]
        · rw [if_pos h1, if_pos h1]; rfl
        · rw [if_neg h1, if_neg h1, if_neg h2, if_neg h3]; rfl

/-! ### methods -/
abbrev Res := List ByteArray × ByteArray × Bool
def flat (ps : List ByteArray) : List UInt8 := ps.flatMap L
theorem flat_snoc (ps : List ByteArray) (p : ByteArray) : flat (ps ++ [p]) = flat ps ++ L p := by simp [flat]
def bad : Res := (([] : List ByteArray), (⟨#[]⟩ : ByteArray), false)
def MethR (x5 : List ByteArray) (s : ByteArray) (r : Res) : Prop :=
  (r.2.2 = true → flat r.1 ++ 41 :: L r.2.1 = flat x5 ++ L s) ∧ (r.2.2 = false → r.1 = []) ∧ r.1.length ≤ x5.length + s.size
theorem methR_bad (x5 : List ByteArray) (s : ByteArray) : MethR x5 s bad := ⟨fun h => (by cases h), fun _ => rfl, Nat.zero_le _⟩
def closeR (s : ByteArray) (x5 : List ByteArray) (x6 : Nat) (l : List UInt8) : Res :=
  if 254 < x6 then bad else if l = [86] then (x5, s.extract 1 s.size, true) else if fieldL l = true then (x5, s.extract 1 s.size, true) else bad
theorem tail_L {s : ByteArray} {b : UInt8} {l : List UInt8} (hl : L s = b :: l) : L (s.extract 1 s.size) = l := by
  have hsz : s.size = l.length + 1 := by rw [← L_size, hl]; rfl
  rw [L_ext, hl, List.drop_succ_cons, List.drop_zero, List.take_of_length_le (by omega)]
theorem close_desc (s : ByteArray) (hs : s.size ≤ 1000000) (l : List UInt8) (hl : L s = 41 :: l) (x5 : List ByteArray) (x6 : Nat) : Ev (fun k => desc_Method.j1 k s x5 (x6 : Int) false) (closeR s x5 x6 l) := by
  have ht := tail_L hl
  have hsz : s.size = l.length + 1 := by rw [← L_size, hl]; rfl
  have hne : ¬ L s = [] := by rw [hl]; simp
  unfold closeR
  by_cases h1 : 254 < x6
  · rw [if_pos h1]
    refine Ev.step (f := fun _ => some bad) (fun k => ?_) (Ev.now _)
    simp only [desc_Method.j1]
    rw [if_neg (by simp), L_to, if_neg hne, if_pos (by omega)]; rfl
  · rw [if_neg h1]
    by_cases h2 : l = [86]
    · rw [if_pos h2]
      refine Ev.step (f := fun _ => some (x5, s.extract 1 s.size, true)) (fun k => ?_) (Ev.now _)
      simp only [desc_Method.j1]
      rw [if_neg (by simp), L_to, if_neg hne, if_neg (by omega), if_pos (by omega), L_to, ht, if_pos h2]
    · rw [if_neg h2]
      have hf := field_ev (s.extract 1 s.size) (by rw [ByteArray.size_extract]; omega)
      rw [ht] at hf
      refine Ev.step (f := fun k => (desc_Field.f k (s.extract 1 s.size)).bind fun t => if t = true then some (x5, s.extract 1 s.size, true) else some bad) (fun k => ?_) (Ev.bind (f := fun _ t => if t = true then some (x5, s.extract 1 s.size, true) else some bad) hf ?_)
      · simp only [desc_Method.j1]
        rw [if_neg (by simp), L_to, if_neg hne, if_neg (by omega), if_pos (by omega), L_to, ht, if_neg h2]; rfl
      · cases fieldL l <;> exact Ev.now _
theorem close_ref (s : ByteArray) (hs : s.size ≤ 1000000) (l : List UInt8) (hl : L s = 41 :: l) (x5 : List ByteArray) (x6 : Nat) : Ev (fun k => jvmcoreref1_Method.j2 k s x5 (x6 : Int) false) (closeR s x5 x6 l) := by
  have ht := tail_L hl
  have hsz : s.size = l.length + 1 := by rw [← L_size, hl]; rfl
  have hne : ¬ L s = [] := by rw [hl]; simp
  unfold closeR
  by_cases h1 : 254 < x6
  · rw [if_pos h1]
    refine Ev.step (f := fun _ => some bad) (fun k => ?_) (Ev.now _)
    simp only [jvmcoreref1_Method.j2]
    rw [if_neg (by simp), L_to, if_neg hne, if_pos (by omega)]; rfl
  · rw [if_neg h1]
    by_cases h2 : l = [86]
    · rw [if_pos h2]
      refine Ev.step (f := fun _ => some (x5, s.extract 1 s.size, true)) (fun k => ?_) (Ev.now _)
      simp only [jvmcoreref1_Method.j2]
      rw [if_neg (by simp), L_to, if_neg hne, if_neg (by omega), if_pos (by rw [hl, h2]), if_pos (by omega)]
    · rw [if_neg h2]
      have hf := ref_field_ev (s.extract 1 s.size) (by rw [ByteArray.size_extract]; omega)
      rw [ht] at hf
      refine Ev.step (f := fun k => (jvmcoreref1_Field.f k (s.extract 1 s.size)).bind fun t => if t = true then some (x5, s.extract 1 s.size, true) else some bad) (fun k => ?_) (Ev.bind (f := fun _ t => if t = true then some (x5, s.extract 1 s.size, true) else some bad) hf ?_)
      · simp only [jvmcoreref1_Method.j2]
        rw [if_neg (by simp), L_to, if_neg hne, if_neg (by omega), if_neg (by rw [hl]; simp [h2]), if_pos (by omega)]; rfl
      · cases fieldL l <;> exact Ev.now _
theorem closeR_ok (s : ByteArray) (l : List UInt8) (hl : L s = 41 :: l) (x5 : List ByteArray) (x6 : Nat) : MethR x5 s (closeR s x5 x6 l) := by
  have ht := tail_L hl
  have good : MethR x5 s (x5, s.extract 1 s.size, true) := ⟨fun _ => by show flat x5 ++ 41 :: L (s.extract 1 s.size) = _; rw [ht, hl], fun h => (by cases h), Nat.le_add_right _ _⟩
  unfold closeR
  split
  · exact methR_bad _ _
  · split
    · exact good
    · split
      · exact good
      · exact methR_bad _ _
theorem wr_add {a b : Nat} (h : a + b ≤ 1000000000) : wrap64 ((a : Int) + (b : Int)) = ((a + b : Nat) : Int) := (wr (by omega) (by omega)).trans (by omega)
theorem step_desc (s : ByteArray) (n : Nat) (h0 : n ≠ 0) (hn : n ≤ s.size) (x5 : List ByteArray) (h5 : x5.length ≤ 1000000) (x6 : Nat) (z : Int) (hz : wrap64 ((x6 : Int) + ((slotsN (L (s.extract 0 n)) : Nat) : Int)) = z) (k : Nat) :
    (if (n : Int) = 0 then (some (([] : List ByteArray), (⟨#[]⟩ : ByteArray), false)) else (if 0 ≤ (n : Int) then (if (n : Int) ≤ (s.size : Int) then (if x5.length < 8796093022208 then ((desc_Slots.f (s.extract 0 ((n : Int) : Int).toNat)).bind fun t146 => (desc_Method.l0 k (s.extract ((n : Int) : Int).toNat s.size) (x5 ++ [s.extract 0 ((n : Int) : Int).toNat]) (wrap64 ((x6 : Int) + t146)))) else (none)) else (none)) else (none))) =
      desc_Method.l0 k (s.extract n s.size) (x5 ++ [s.extract 0 n]) z := by
  have c1 : ¬ ((n : Int) = 0) := by omega
  have c2 : (0 : Int) ≤ (n : Int) := by omega
  have c3 : (n : Int) ≤ (s.size : Int) := by omega
  have c4 : x5.length < 8796093022208 := by omega
  refine (if_neg c1).trans ?_
  refine (if_pos c2).trans ?_
  refine (if_pos c3).trans ?_
  refine (if_pos c4).trans ?_
  rw [Int.toNat_natCast, slots_eq, Option.bind_some, hz]
theorem meth_loop : ∀ (n : Nat) (s : ByteArray), s.size ≤ n → n ≤ 100000 → ∀ (x5 : List ByteArray) (x6 : Nat), x5.length + n ≤ 1000000 → x6 + 2 * n ≤ 1000000 →
    ∃ r, Ev (fun k => desc_Method.l0 k s x5 (x6 : Int)) r ∧ Ev (fun k => jvmcoreref1_Method.l0 k s x5 (x6 : Int)) r ∧ MethR x5 s r := by
  intro n
  induction n with
  | zero =>
    intro s hz _ x5 x6 _ _
    have hl : L s = [] := List.eq_nil_of_length_eq_zero (by rw [L_size]; omega)
    refine ⟨bad, Ev.step (f := fun k => desc_Method.j1 k s x5 (x6 : Int) false) (fun k => ?_) (Ev.step (f := fun _ => some bad) (fun k => ?_) (Ev.now _)), Ev.step (f := fun k => jvmcoreref1_Method.j2 k s x5 (x6 : Int) false) (fun k => ?_) (Ev.step (f := fun _ => some bad) (fun k => ?_) (Ev.now _)), methR_bad _ _⟩
    · simp only [desc_Method.l0]; rw [L_to, if_pos hl]
    · simp only [desc_Method.j1]; rw [if_neg (by simp), L_to, if_pos hl]; rfl
    · simp only [jvmcoreref1_Method.l0]; rw [L_to, if_pos hl]
    · simp only [jvmcoreref1_Method.j2]; rw [if_neg (by simp), L_to, if_pos hl]; rfl
  | succ n ih =>
    intro s hz hn x5 x6 h5 h6
    cases hl : L s with
    | nil =>
      have hz0 : s.size = 0 := by rw [← L_size, hl]; rfl
      exact ih s (by omega) (by omega) x5 x6 (by omega) (by omega)
    | cons b l =>
      have hsz : s.size = l.length + 1 := by rw [← L_size, hl]; rfl
      have hne : ¬ L s = [] := by rw [hl]; simp
      have hb : bt s 0 = (b.toNat : Int) := bt_nat (i := 0) (by rw [hl]; rfl)
      have c0 : (0 : Int) < (s.size : Int) := by omega
      have hd : ∀ k, desc_Method.l0 (k + 1) s x5 (x6 : Int) = desc_Method.j1 k s x5 (x6 : Int) ((b.toNat : Int) != 41) := fun k => by
        simp only [desc_Method.l0]; rw [L_to, if_neg hne, if_pos c0, hb]
      have hr : ∀ k, jvmcoreref1_Method.l0 (k + 1) s x5 (x6 : Int) = jvmcoreref1_Method.j2 k s x5 (x6 : Int) ((b.toNat : Int) != 41) := fun k => by
        simp only [jvmcoreref1_Method.l0]; rw [L_to, if_neg hne, if_pos c0, hb]
      by_cases h41 : b = 41
      · subst h41
        exact ⟨_, Ev.step hd (close_desc s (by omega) l hl x5 x6), Ev.step hr (close_ref s (by omega) l hl x5 x6), closeR_ok s l hl x5 x6⟩
      · have e41 : ((b.toNat : Int) != 41) = true := by
          rw [bne_iff_ne]; exact fun h => h41 ((u8_iff b 41 41 rfl).1 h)
        rw [e41] at hd hr
        have hnx := next_ev s (by omega)
        obtain ⟨r1, hr1, o1, o2, o3⟩ := ref_one_ev s (by omega)
        have hle := oneL_le (L s) 0
        rw [L_size] at hle
        have hd2 : ∀ k, desc_Method.j1 (k + 1) s x5 (x6 : Int) true = (desc_next.f k s).bind fun t142 => (if t142 = 0 then (some (([] : List ByteArray), (⟨#[]⟩ : ByteArray), false)) else (if 0 ≤ t142 then (if t142 ≤ (s.size : Int) then (if x5.length < 8796093022208 then ((desc_Slots.f (s.extract 0 (t142 : Int).toNat)).bind fun t146 => (desc_Method.l0 k (s.extract (t142 : Int).toNat s.size) (x5 ++ [s.extract 0 (t142 : Int).toNat]) (wrap64 ((x6 : Int) + t146)))) else (none)) else (none)) else (none))) := fun k => by
          simp only [desc_Method.j1]; rw [if_pos trivial]
        have hr2 : ∀ k, jvmcoreref1_Method.j2 (k + 1) s x5 (x6 : Int) true = (jvmcoreref1_one.f k s 0).bind fun bt148 => (if bt148.2.2 = true then (if x5.length < 8796093022208 then ((jvmcoreref1_Slots.f k bt148.1).bind fun t154 => (jvmcoreref1_Method.l0 k bt148.2.1 (x5 ++ [bt148.1]) (wrap64 ((x6 : Int) + t154)))) else (none)) else (some (([] : List ByteArray), (⟨#[]⟩ : ByteArray), false))) := fun k => by
          simp only [jvmcoreref1_Method.j2]; rw [if_pos trivial]
        generalize hg : oneL (L s) 0 = m at *
        by_cases h0 : m = 0
        · subst h0
          refine ⟨bad, Ev.step hd (Ev.step hd2 (Ev.bind hnx ?_)), Ev.step hr (Ev.step hr2 (Ev.bind hr1 ?_)), methR_bad _ _⟩
          · exact Ev.congr (f := fun _ => some bad) (fun k => if_pos rfl) (Ev.now _)
          · exact Ev.congr (f := fun _ => some bad) (fun k => by rw [o1, if_neg (by simp)]; rfl) (Ev.now _)
        · obtain ⟨o4, o5⟩ := o3 h0
          have hsl := slotsN_le (L (s.extract 0 m))
          obtain ⟨r, g1, g2, g3, g4, g5⟩ := ih (s.extract m s.size) (by rw [ByteArray.size_extract]; omega) (by omega) (x5 ++ [s.extract 0 m]) (x6 + slotsN (L (s.extract 0 m))) (by rw [List.length_append, List.length_singleton]; omega) (by omega)
          have hR : MethR x5 s r := by
            refine ⟨fun h => ?_, g4, ?_⟩
            · rw [g3 h, flat_snoc, List.append_assoc, L_ext, L_ext, List.drop_zero, Nat.sub_zero, List.take_of_length_le (l := (L s).drop m) (by rw [List.length_drop, L_size]; exact Nat.le_refl _), List.take_append_drop]
            · rw [List.length_append, List.length_singleton, ByteArray.size_extract] at g5; omega
          have c4 : x5.length < 8796093022208 := by omega
          have c5 : x5.length ≤ 1000000 := by omega
          have hw := wr_add (a := x6) (b := slotsN (L (s.extract 0 m))) (by omega)
          refine ⟨r, Ev.step hd (Ev.step hd2 (Ev.bind hnx ?_)), Ev.step hr (Ev.step hr2 (Ev.bind hr1 ?_)), hR⟩
          · exact Ev.congr (fun k => step_desc s m h0 hle x5 c5 x6 _ hw k) g1
          · have e1 : r1.2.2 = true := by rw [o1]; exact decide_eq_true h0
            rw [o4, o5]
            refine Ev.congr (f := fun k => (jvmcoreref1_Slots.f k (s.extract 0 m)).bind fun t154 => (jvmcoreref1_Method.l0 k (s.extract m s.size) (x5 ++ [s.extract 0 m]) (wrap64 ((x6 : Int) + t154)))) (fun k => ?_) ?_
            · exact (if_pos e1).trans (if_pos c4)
            · refine Ev.bind (f := fun k t154 => (jvmcoreref1_Method.l0 k (s.extract m s.size) (x5 ++ [s.extract 0 m]) (wrap64 ((x6 : Int) + t154)))) (ref_slots_ev (s.extract 0 m)) ?_
              rw [hw]; exact g2
/-- what DescTypes wants of the two. -/
def MethF (s : ByteArray) (r : Res) : Prop :=
  (r.2.2 = true → 40 :: (flat r.1 ++ 41 :: L r.2.1) = L s) ∧ (r.2.2 = false → r.1 = []) ∧ r.1.length ≤ s.size
theorem methF_bad (s : ByteArray) : MethF s bad := ⟨fun h => (by cases h), fun _ => rfl, Nat.zero_le _⟩
theorem meth_ev (s : ByteArray) (hs : s.size ≤ 100000) : ∃ r, Ev (fun k => desc_Method.f k s) r ∧ Ev (fun k => jvmcoreref1_Method.f k s) r ∧ MethF s r := by
  have hjt : Ev (fun k => jvmcoreref1_Method.j0 k s true) bad := Ev.step (f := fun _ => some bad) (fun k => by simp only [jvmcoreref1_Method.j0]; rw [if_pos trivial]; rfl) (Ev.now _)
  cases hl : L s with
  | nil =>
    refine ⟨bad, Ev.congr (f := fun _ => some bad) (fun k => ?_) (Ev.now _), Ev.congr (fun k => ?_) hjt, methF_bad s⟩
    · unfold desc_Method.f; rw [prefix_eq, hl]; rfl
    · unfold jvmcoreref1_Method.f; rw [L_to, if_pos hl]
  | cons b l =>
    have hsz : s.size = l.length + 1 := by rw [← L_size, hl]; rfl
    have hne : ¬ L s = [] := by rw [hl]; simp
    have hb : bt s 0 = (b.toNat : Int) := bt_nat (i := 0) (by rw [hl]; rfl)
    have c0 : (0 : Int) < (s.size : Int) := by omega
    have c1 : (1 : Int) ≤ (s.size : Int) := by omega
    have hr : ∀ k, jvmcoreref1_Method.f k s = jvmcoreref1_Method.j0 k s ((b.toNat : Int) != 40) := fun k => by
      unfold jvmcoreref1_Method.f; rw [L_to, if_neg hne, if_pos c0, hb]
    by_cases h40 : b = 40
    · subst h40
      obtain ⟨r, g1, g2, g3, g4, g5⟩ := meth_loop 100000 (s.extract 1 s.size) (by rw [ByteArray.size_extract]; omega) (Nat.le_refl _) [] 0 (by simp) (by omega)
      have ht := tail_L hl
      refine ⟨r, Ev.congr (fun k => ?_) g1, Ev.congr hr (Ev.step (fun k => ?_) g2), fun h => ?_, g4, ?_⟩
      · unfold desc_Method.f; rw [prefix_eq, hl, Option.bind_some, if_pos (by rfl), if_pos c1]; rfl
      · simp only [jvmcoreref1_Method.j0]; rw [if_neg (by decide), if_pos c1]; rfl
      · rw [g3 h, ht, hl]; rfl
      · rw [ByteArray.size_extract] at g5
        simp at g5; omega
    · have e40 : ((b.toNat : Int) != 40) = true := by
        rw [bne_iff_ne]; exact fun h => h40 ((u8_iff b 40 40 rfl).1 h)
      rw [e40] at hr
      refine ⟨bad, Ev.congr (f := fun _ => some bad) (fun k => ?_) (Ev.now _), Ev.congr hr hjt, methF_bad s⟩
      unfold desc_Method.f
      have e : ((b :: l).head? == some 40) = false := by rw [beq_eq_false_iff_ne]; simpa using h40
      rw [prefix_eq, hl, e, Option.bind_some, if_neg (by simp)]; rfl
end Go.Proofs.YtfnjbmpolggdeaaDoor.DR
