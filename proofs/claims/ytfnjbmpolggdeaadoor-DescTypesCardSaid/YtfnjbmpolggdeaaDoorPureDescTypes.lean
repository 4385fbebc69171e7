/-
  DescTypes answers true for every string.
-/
import Derived.Test.YtfnjbmpolggdeaaDoorDRGMethod
namespace Go.Proofs.YtfnjbmpolggdeaaDoor.Pure
open Go.RowKit Go.Proofs.YtfnjbmpolggdeaaDoor.DR Go.Proofs.YtfnjbmpolggdeaaDoorW.PrintWords
set_option linter.unusedVariables false
theorem flat_take {ps : List ByteArray} {i : Nat} (h : i < ps.length) : flat (ps.take (i + 1)) = flat (ps.take i) ++ L ps[i] := by
  rw [List.take_succ_eq_append_getElem h, flat_snoc]
theorem flat_le {ps : List ByteArray} (i : Nat) : (flat (ps.take i)).length ≤ (flat ps).length := by
  have : flat ps = flat (ps.take i) ++ flat (ps.drop i) := by
    unfold flat
    rw [← List.flatMap_append, List.take_append_drop]
  rw [this, List.length_append]; omega
theorem types_l0 (a0 x4 : ByteArray) (ok : Bool) (ps : List ByteArray) (hlen : ps.length ≤ 1000000) (ha : a0.size ≤ 100000) (hfl : (flat ps).length ≤ 100000)
    (hok : ok = true → 40 :: (flat ps ++ 41 :: L x4) = L a0) : ∀ (d i : Nat) (x9 : ByteArray), i ≤ ps.length → ps.length - i = d → L x9 = 40 :: flat (ps.take i) →
    Ev (fun k => jvmcorelaw1_DescTypes.l0 k a0 ps x4 ok ps x9 (ps.length : Int) (i : Int)) true := by
  intro d
  induction d with
  | zero =>
    intro i x9 h1 h2 h3
    obtain rfl : i = ps.length := by omega
    rw [List.take_length] at h3
    have c1 : ¬ ((ps.length : Int) < (ps.length : Int)) := by omega
    refine Ev.step (f := fun _ => some true) (fun k => ?_) (Ev.now _)
    simp only [jvmcorelaw1_DescTypes.l0]
    refine (if_neg c1).trans ?_
    cases ok with
    | false => exact if_neg (by simp)
    | true =>
      have hk := hok rfl
      have hs9 : x9.size = (flat ps).length + 1 := by rw [← L_size, h3]; rfl
      have hs4 : (flat ps).length + 1 + x4.size + 1 = a0.size := by
        have := congrArg List.length hk
        rw [L_size] at this
        simp at this
        omega
      have c2 : x9.size + 1 ≤ 9223372036854775807 := by omega
      have c3 : (x9 ++ (⟨#[41]⟩ : ByteArray)).size + x4.size ≤ 9223372036854775807 := by
        rw [ByteArray.size_append]
        show x9.size + 1 + x4.size ≤ _
        omega
      refine (if_pos rfl).trans ?_
      refine (if_pos c2).trans ?_
      refine (if_pos c3).trans ?_
      have e : L ((x9 ++ (⟨#[41]⟩ : ByteArray)) ++ x4) = L a0 := by
        rw [L_append, L_append, h3, ← hk]
        show (40 :: flat ps ++ [41]) ++ L x4 = _
        simp
      rw [L_to, L_to, e]
      simp
  | succ d ih =>
    intro i x9 h1 h2 h3
    have hlt : i < ps.length := by omega
    have hget : rdOf ByteArray.empty ps (i : Int) = ps[i] := by
      unfold rdOf; simp [List.getD_eq_getElem?_getD, List.getElem?_eq_getElem hlt]
    have h4 : L (x9 ++ ps[i]) = 40 :: flat (ps.take (i + 1)) := by rw [L_append, h3, flat_take hlt]; rfl
    have hb : x9.size + ps[i].size ≤ 9223372036854775807 := by
      have e1 := congrArg List.length h4
      rw [L_size, ByteArray.size_append, List.length_cons] at e1
      have := flat_le (ps := ps) (i + 1)
      omega
    have c1 : (i : Int) < (ps.length : Int) := by omega
    have c2 : (0 : Int) ≤ (i : Int) := by omega
    have h5 := ih (i + 1) (x9 ++ ps[i]) (by omega) (by omega) h4
    have hsl := ref_slots_ev ps[i]
    have hw : wrap64 ((i : Int) + 1) = ((i + 1 : Nat) : Int) := wr_succ (by omega)
    refine Ev.step (f := fun k => (jvmcoreref1_Slots.f k ps[i]).bind fun t176 => (if ((slotsN (L ps[i]) : Nat) : Int) = t176 then (jvmcorelaw1_DescTypes.l0 k a0 ps x4 ok ps (x9 ++ ps[i]) (ps.length : Int) ((i + 1 : Nat) : Int)) else (some false))) (fun k => ?_) ?_
    · simp only [jvmcorelaw1_DescTypes.l0]
      refine (if_pos c1).trans ?_
      refine (if_pos c2).trans ?_
      refine (if_pos c1).trans ?_
      refine (if_pos c1).trans ?_
      refine (if_pos trivial).trans ?_
      rw [hget, slots_eq, Option.bind_some]
      refine congrArg _ (funext fun t => ?_)
      by_cases ht : ((slotsN (L ps[i]) : Nat) : Int) = t
      · rw [if_pos ht, if_pos ht, if_pos hb, hw]
      · rw [if_neg ht, if_neg ht]
    · refine Ev.bind (f := fun k t176 => (if ((slotsN (L ps[i]) : Nat) : Int) = t176 then (jvmcorelaw1_DescTypes.l0 k a0 ps x4 ok ps (x9 ++ ps[i]) (ps.length : Int) ((i + 1 : Nat) : Int)) else (some false))) hsl ?_
      exact Ev.congr (fun k => if_pos rfl) h5
theorem DescTypes : jvmcorelaw1_DescTypes.Pure := by
  intro s hs
  by_cases hbig : (s.size : Int) > 32768
  · exact ⟨0, by unfold jvmcorelaw1_DescTypes.f; exact if_pos hbig⟩
  · obtain ⟨r, ⟨k1, h1⟩, ⟨k2, h2⟩, m1, m2, m3⟩ := meth_ev s (by omega)
    obtain ⟨k3, h3⟩ := field_ev s (by omega)
    obtain ⟨k4, h4⟩ := ref_field_ev s (by omega)
    obtain ⟨k5, h5⟩ := ref_slots_ev s
    obtain ⟨k6, h6⟩ := ref_slots_ev r.2.1
    have hfl : (flat r.1).length ≤ 100000 := by
      cases hk : r.2.2 with
      | false => rw [m2 hk]; simp [flat]
      | true =>
        have := congrArg List.length (m1 hk)
        rw [L_size] at this
        simp at this
        omega
    have hloop := types_l0 s r.2.1 r.2.2 r.1 (by omega) (by omega) hfl m1 _ 0 ⟨#[40]⟩ (Nat.zero_le _) rfl rfl
    obtain ⟨k7, h7⟩ := Ev.step (g := fun k => jvmcorelaw1_DescTypes.j0 k s r.1 r.2.1 r.2.2 r.1 false) (fun k => by
      simp only [jvmcorelaw1_DescTypes.j0]; exact if_neg (by simp)) hloop
    refine ⟨k1 + k2 + k3 + k4 + k5 + k6 + k7, ?_⟩
    generalize hK : k1 + k2 + k3 + k4 + k5 + k6 + k7 = K
    have a1 : desc_Method.f K s = _ := h1 K (by omega)
    have a2 : jvmcoreref1_Method.f K s = _ := h2 K (by omega)
    have a3 : desc_Field.f K s = _ := h3 K (by omega)
    have a4 : jvmcoreref1_Field.f K s = _ := h4 K (by omega)
    have a5 : jvmcoreref1_Slots.f K s = _ := h5 K (by omega)
    have a6 : jvmcoreref1_Slots.f K r.2.1 = _ := h6 K (by omega)
    have a7 : jvmcorelaw1_DescTypes.j0 K s r.1 r.2.1 r.2.2 r.1 false = _ := h7 K (by omega)
    unfold jvmcorelaw1_DescTypes.f
    refine (if_neg hbig).trans ?_
    rw [a1, Option.bind_some, a2, Option.bind_some, a3, Option.bind_some, a4, Option.bind_some]
    refine (if_neg (by simp)).trans ?_
    refine (if_neg (by simp)).trans ?_
    refine (if_pos rfl).trans ?_
    refine (if_pos rfl).trans ?_
    rw [slots_eq, Option.bind_some, a5, Option.bind_some]
    refine (if_pos rfl).trans ?_
    rw [slots_eq, Option.bind_some, a6, Option.bind_some, bne_self_eq_false]
    exact a7
end Go.Proofs.YtfnjbmpolggdeaaDoor.Pure
