/-
  Pools of constants: what Is, String and ClassOf answer, of both sides.
-/
import Derived.Test.YtfnjbmpolggdeaaMRx16
import Derived.Test.YtfnjbmpolggdeaaMRx27
namespace Go.Proofs.Ytfnjbmpolggdeaa.MR
open Go.RowKit Go.Proofs.YtfnjbmpolggdeaaW.PrintWords
set_option linter.unusedVariables false
set_option linter.unusedSimpArgs false
theorem wr {x : Int} (h0 : -9223372036854775808 ≤ x) (h1 : x < 9223372036854775808) : wrap64 x = x := by unfold wrap64; omega
def okC39 (x : S37) : Prop := (0 ≤ x.f3 ∧ x.f3 < 65536) ∧ (0 ≤ x.f4 ∧ x.f4 < 65536)
def isB (l1 : List S37) (kk t : Int) : Bool := decide (0 < kk) && (decide (kk < (l1.length : Int)) && ((rd_T37 l1 kk).f0 == t))
theorem pool_Is_eq (l1 : List S37) (kk t : Int) (h0 : 0 ≤ kk) (h1 : kk < 65536) : pool_Is.f l1 kk t = some (isB l1 kk t) := by
  have e : wrap64 kk = kk := by unfold wrap64; omega
  unfold pool_Is.f isB
  rw [e]
  by_cases a : kk < (l1.length : Int)
  · rw [if_pos a, decide_eq_true a]
    by_cases b : kk > 0
    · rw [if_pos b, if_pos h0, if_pos a, decide_eq_true (show 0 < kk from b)]; simp
    · rw [if_neg b, decide_eq_false (show ¬ 0 < kk from b)]; simp
  · rw [if_neg a, decide_eq_false a]; simp
theorem rd_mem {l1 : List S37} {i : Int} (h0 : 0 ≤ i) (h1 : i < (l1.length : Int)) : rd_T37 l1 i ∈ l1 := by
  have h : i.toNat < l1.length := by omega
  unfold rd_T37
  rw [List.getD_eq_getElem?_getD, List.getElem?_eq_getElem h]
  exact List.getElem_mem h
theorem isB_range {l1 : List S37} {kk t : Int} (h : isB l1 kk t = true) : 0 < kk ∧ kk < (l1.length : Int) ∧ (rd_T37 l1 kk).f0 = t := by simpa [isB] using h
theorem isB_out {l1 : List S37} {kk t : Int} (h : ¬ (0 < kk ∧ kk < (l1.length : Int))) : isB l1 kk t = false := by
  cases hb : isB l1 kk t with
  | false => rfl
  | true => obtain ⟨a, b, _⟩ := isB_range hb; exact absurd ⟨a, b⟩ h
def strV (l1 : List S37) (kk : Int) : ByteArray := if isB l1 kk 1 = true then (rd_T37 l1 kk).f1 else ⟨#[]⟩
theorem poolStr_eq (l1 : List S37) {kk : Int} (h0 : 0 ≤ kk) (h1 : kk < 65536) : pool_String.f l1 kk = some (strV l1 kk) := by
  unfold pool_String.f strV
  rw [pool_Is_eq l1 kk 1 h0 h1]
  simp only [Option.bind_some]
  by_cases h : isB l1 kk 1 = true
  · obtain ⟨a, b, _⟩ := isB_range h
    rw [if_pos h, if_pos h, if_pos h0, if_pos b]
  · rw [if_neg h, if_neg h]
theorem refIs_eq (l1 : List S37) (kk t : Int) : jvmcoreref1_Is.f l1 kk t = some (isB l1 kk t) := by
  unfold jvmcoreref1_Is.f
  by_cases a : kk > 0
  · rw [if_pos a]
    by_cases b : kk < (l1.length : Int)
    · rw [if_pos b, if_pos (by omega)]
      unfold isB
      rw [decide_eq_true (show 0 < kk from a), decide_eq_true b]; rfl
    · rw [if_neg b, isB_out (fun h => b h.2)]
  · rw [if_neg a, isB_out (fun h => a h.1)]
theorem refStr_eq (l1 : List S37) (kk : Int) : jvmcoreref1_String.f l1 kk = some (strV l1 kk, isB l1 kk 1) := by
  unfold jvmcoreref1_String.f strV
  rw [refIs_eq]
  simp only [Option.bind_some]
  by_cases h : isB l1 kk 1 = true
  · obtain ⟨a, b, _⟩ := isB_range h
    rw [if_pos h, if_pos h, if_pos (by omega), if_pos b, h]
  · rw [if_neg h, if_neg h, show isB l1 kk 1 = false from by simpa using h]
theorem wr16 {x : Int} (h : 0 ≤ x ∧ x < 65536) : wrap64 x = x := wr (by omega) (by omega)
def nameV (l1 : List S37) (A : Int) : ByteArray := if isB l1 A 7 = true then strV l1 (rd_T37 l1 A).f3 else ⟨#[]⟩
theorem refClass_eq {l1 : List S37} (hp : ∀ c ∈ l1, okC39 c) (A : Int) : ∃ b, jvmcoreref1_ClassOf.f l1 A = some (nameV l1 A, b) := by
  unfold jvmcoreref1_ClassOf.f nameV
  rw [refIs_eq]
  simp only [Option.bind_some]
  by_cases h : isB l1 A 7 = true
  · obtain ⟨a, b, _⟩ := isB_range h
    rw [if_pos h, if_pos h, if_pos (by omega), if_pos b, wr16 (hp _ (rd_mem (by omega) b)).1, refStr_eq]
    exact ⟨_, rfl⟩
  · rw [if_neg h, if_neg h]; exact ⟨_, rfl⟩
theorem isB_eq (l1 : List S37) (k : Nat) (t : Int) (h : k < l1.length) : isB l1 (k : Int) t = (decide (0 < k) && ((l1[k]).f0 == t)) := by
  unfold isB rd_T37
  rw [List.getD_eq_getElem?_getD, Int.toNat_natCast, List.getElem?_eq_getElem h, decide_eq_true (show (k : Int) < (l1.length : Int) by omega)]
  simp
end Go.Proofs.Ytfnjbmpolggdeaa.MR
