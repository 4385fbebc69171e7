/-
  jvmcoreref1.without: has a text none of some bytes, and one at the least?
-/
import Derived.Test.YtfnjbmpolggdeaaDoorDRx0
import Derived.Lib.Hide
import Derived.Lib.IndexAny
import Derived.Lib.IndexBytes
namespace Go.Proofs.YtfnjbmpolggdeaaDoor.DR
open Go.RowKit Go.Proofs.YtfnjbmpolggdeaaDoorW.PrintWords
set_option linter.unusedVariables false
set_option linter.unusedSimpArgs false
def noneB (s c : ByteArray) : Bool := s.data.toList.all fun b => !c.data.toList.contains b
def jvmcoreref1_without.f (a0 : ByteArray) (a1 : ByteArray) : Option (Bool) :=
  if a0.size ≤ 1099511627776 ∧ a1.size ≤ 1099511627776 then some (noneB a0 a1 && !a0.data.toList.isEmpty) else none
theorem below_drewN1 {B : Nat} {a w : World} (h : Below B a w) (n : Nat) : Below B a (w.drewN n) := ⟨h.os, h.tape, h.output, h.size, h.block⟩
theorem mem_get (s : ByteArray) (i : Nat) (h : i < s.size) : s[i]'h ∈ s.data.toList := List.mem_of_getElem? (Lib.data_getElem? s i h)
theorem noneB_hit {s c : ByteArray} {k j : Nat} (hk : k < s.size) (hj : j < c.size) (h : (s[k]'hk).toNat = (c[j]'hj).toNat) : noneB s c = false := by
  have e : s[k]'hk = c[j]'hj := UInt8.toNat_inj.1 h
  rw [Bool.eq_false_iff]
  intro hn
  unfold noneB at hn
  rw [List.all_eq_true] at hn
  have := hn _ (mem_get s k hk)
  rw [e] at this
  have hm := mem_get c j hj
  rw [List.contains_iff_mem.2 hm] at this
  simp at this
theorem noneB_all {s c : ByteArray} (h : ∀ j (hj : j < s.size), c.data.toList.contains (s[j]'hj) = false) : noneB s c = true := by
  unfold noneB
  rw [List.all_eq_true]
  intro b hb
  obtain ⟨j, hj⟩ := List.getElem?_of_mem hb
  have hjs : j < s.size := by rw [Lib.size_eq]; exact (List.getElem?_eq_some_iff.1 hj).1
  rw [Lib.data_getElem? s j hjs] at hj
  obtain rfl := Option.some.inj hj
  rw [h j hjs]; rfl
theorem not_in {c : ByteArray} {b : UInt8} (h : ∀ i (hi : i < c.size), (c[i]'hi).toNat ≠ b.toNat) : c.data.toList.contains b = false := by
  rw [Bool.eq_false_iff]
  intro hc
  obtain ⟨j, hj⟩ := List.getElem?_of_mem (List.contains_iff_mem.1 hc)
  have hjs : j < c.size := by rw [Lib.size_eq]; exact (List.getElem?_eq_some_iff.1 hj).1
  rw [Lib.data_getElem? c j hjs] at hj
  obtain rfl := Option.some.inj hj
  exact h j hjs rfl

set_option maxHeartbeats 4000000 in
set_option maxRecDepth 100000 in
theorem without_any (s c : ByteArray) (w : World) (hs : s.size ≤ 1099511627776) (hcz : c.size ≤ 1099511627776) :
    Calls Tryd.prog 23 #[.string s, .string c] w fun e w' => e = .returned (.bool (noneB s c && !s.data.toList.isEmpty)) ∧ Below w.heap.size w w' := by
  go_enter Tryd.func23, Tryd.ntmps23
  go_wp2_with fail
  go_loopw [5] (fun v wr => ∃ k : Nat, k ≤ s.size ∧ v = .int .i64 k ∧ Hid (∀ j (hj : j < s.size), j < k → c.data.toList.contains (s[j]'hj) = false) ∧ Below w.heap.size w wr) (fun v _ => s.size - (intOf v).toNat)
  case atStart => exact ⟨0, by omega, rfl, fun j _ h => absurd h (Nat.not_lt_zero _), Below.refl _ _⟩
  case round =>
    obtain ⟨k, hk, rfl, hN, hbel⟩ := hrel
    by_cases hlt : k < s.size
    · obtain ⟨wo, rfl⟩ : ∃ wo : World, wo = wr := ⟨_, rfl⟩
      have x1 : (k : Int) < s.size := by omega
      go_wp2_with fail
      go_loopw [6] (fun v wi => ∃ j : Nat, j ≤ c.size ∧ v = .int .i64 j ∧ Hid (∀ i (hi : i < c.size), i < j → (c[i]'hi).toNat ≠ (s[k]'hlt).toNat) ∧ Below w.heap.size w wi) (fun v _ => c.size - (intOf v).toNat)
      case atStart => exact ⟨0, by omega, rfl, fun j _ h => absurd h (Nat.not_lt_zero _), hbel⟩
      case round =>
        obtain ⟨j, hj, rfl, hM, hbi⟩ := hrel
        by_cases hjlt : j < c.size
        · have x2 : (j : Int) < c.size := by omega
          by_cases heq : (s[k]'hlt).toNat = (c[j]'hjlt).toNat
          · have e1 : ((((s[k]'hlt).toNat : Nat) : Int) == (((c[j]'hjlt).toNat : Nat) : Int)) = true := by rw [beq_iff_eq]; omega
            have HR := Lib.hid (noneB_hit hlt hjlt heq)
            clear heq
            go_wp2_with fail
            go_quiet (fail)
            go_wp2
            go_ret
            exact ⟨by rw [HR.out]; rfl, below_drewN1 hbi _⟩
          · have e1 : ((((s[k]'hlt).toNat : Nat) : Int) == (((c[j]'hjlt).toNat : Nat) : Int)) = false := by rw [beq_eq_false_iff_ne]; omega
            have HQ := Lib.hid (show ∀ i (hi : i < c.size), i < j + 1 → (c[i]'hi).toNat ≠ (s[k]'hlt).toNat from fun i hi h => by
              by_cases hij : i = j
              · subst hij; exact fun hh => heq hh.symm
              · exact hM.out i hi (by omega))
            clear heq
            go_wp2_with fail
            go_quiet (fail)
            go_wp2
            go_roundw
            case rel => exact ⟨j + 1, by omega, by go_num, HQ, below_drewN1 hbi _⟩
            case measure => simp [intOf]; omega
        · have HQ := Lib.hid (show ∀ i (hi : i < s.size), i < k + 1 → c.data.toList.contains (s[i]'hi) = false from fun i hi h => by
            by_cases hij : i = k
            · subst hij; exact not_in (fun i hi => hM.out i hi (by omega))
            · exact hN.out i hi (by omega))
          have x2 : (c.size : Int) ≤ j := by omega
          go_wp2
          go_roundw
          case rel => exact ⟨k + 1, by omega, by go_num, HQ, hbi⟩
          case measure => simp [intOf]; omega
    · have x1 : (s.size : Int) ≤ k := by omega
      have HR := Lib.hid (noneB_all (s := s) (c := c) (fun j hj => hN.out j hj (by omega)))
      have hemp : s.data.toList.isEmpty = s.toList.isEmpty := by rw [Lib.toList_data]
      cases he : s.toList.isEmpty
      · have e1 : (!s.toList.isEmpty) = true := by rw [he]; rfl
        have HE := Lib.hid (hemp.trans he)
        clear hemp
        go_wp2
        go_ret
        exact ⟨by rw [HR.out, HE.out]; first | rfl | simp_all, hbel⟩
      · have e1 : (!s.toList.isEmpty) = false := by rw [he]; rfl
        have HE := Lib.hid (hemp.trans he)
        clear hemp
        go_wp2
        go_ret
        exact ⟨by rw [HR.out, HE.out]; first | rfl | simp_all, hbel⟩

theorem jvmcoreref1_without.calls (a0 : ByteArray) (a1 : ByteArray) (r : Bool) (w : World) (h : jvmcoreref1_without.f a0 a1 = some r) :
    Calls Tryd.prog 23 #[.string a0, .string a1] w fun e w' => e = .returned (.bool r) ∧ Below w.heap.size w w' := by
  unfold jvmcoreref1_without.f at h
  split at h
  · rename_i hh
    obtain rfl := Option.some.inj h
    exact without_any a0 a1 w hh.1 hh.2
  · cases h
end Go.Proofs.YtfnjbmpolggdeaaDoor.DR
