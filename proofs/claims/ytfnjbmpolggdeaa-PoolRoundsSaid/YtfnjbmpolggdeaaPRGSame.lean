/-
  jvmcorelaw1.same as printed: of a pool and itself.
-/
import Derived.Test.YtfnjbmpolggdeaaPRx2
namespace Go.Proofs.Ytfnjbmpolggdeaa.PR
open Go.RowKit Go.Proofs.YtfnjbmpolggdeaaW.PrintWords
theorem same_l0 (l : List (S37)) (hn : l.length ≤ 1000000) : ∀ (d k i : Nat), l.length - i = d → i ≤ l.length → d < k → jvmcorelaw1_same.l0 k l l (l.length : Int) (i : Int) = some true := by
  intro d
  induction d with
  | zero =>
    intro k i h hi hk
    obtain ⟨k, rfl⟩ : ∃ m, k = m + 1 := ⟨k - 1, by omega⟩
    simp only [jvmcorelaw1_same.l0]
    rw [if_neg (by omega)]
  | succ d ih =>
    intro k i h hi hk
    obtain ⟨k, rfl⟩ : ∃ m, k = m + 1 := ⟨k - 1, by omega⟩
    simp only [jvmcorelaw1_same.l0]
    rw [if_pos (by omega), if_pos (by omega), if_pos (by omega), if_pos (by omega), if_neg (by simp)]
    have e : wrap64 ((i : Int) + 1) = ((i + 1 : Nat) : Int) := by unfold wrap64; omega
    rw [e]
    exact ih k (i + 1) (by omega) (by omega) (by omega)
theorem same_self (l : List (S37)) (hn : l.length ≤ 1000000) : jvmcorelaw1_same.f (l.length + 1) l l = some true := by
  unfold jvmcorelaw1_same.f
  rw [if_pos rfl]
  exact same_l0 l hn l.length (l.length + 1) 0 (by omega) (by omega) (by omega)
end Go.Proofs.Ytfnjbmpolggdeaa.PR
