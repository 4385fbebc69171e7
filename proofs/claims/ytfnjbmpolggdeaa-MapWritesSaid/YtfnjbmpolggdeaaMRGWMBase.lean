/-
  Contracts for ref WriteMap: told, same, Big; the values' bytes as a list of their own.
-/
import Derived.Test.YtfnjbmpolggdeaaMRGTold
namespace Go.Proofs.Ytfnjbmpolggdeaa.MR
open Go.RowKit Go.Proofs.YtfnjbmpolggdeaaW.PrintWords Go.Proofs.YtfnjbmpolggdeaaW.PrintLast Go.Proofs.YtfnjbmpolggdeaaW.PrintMore
set_option linter.unusedVariables false
set_option linter.unusedSimpArgs false
theorem valL_at (l1 : List S37) (v : S54) (l : List Nat) : valL l1 v l = l ++ valL l1 v [] := by
  unfold valL
  repeat' split
  all_goals simp only [List.nil_append, List.append_assoc]
theorem valE_at (l1 : List S37) (v : S54) (er : Int) : valE l1 v er = if er = 0 then valE l1 v 0 else er := by
  unfold valE failE
  by_cases h : er = 0
  · subst h; simp
  · rw [if_neg h, if_neg h, if_neg h]
    repeat' split
    all_goals rfl
theorem valsS_at (l1 : List S37) (vs : List S54) : ∀ (l : List Nat) (er : Int), valsS l1 vs (l, er) = (l ++ (valsS l1 vs ([], 0)).1, if er = 0 then (valsS l1 vs ([], 0)).2 else er) := by
  induction vs with
  | nil => intro l er; by_cases h : er = 0 <;> simp [valsS, h]
  | cons v vs ih =>
    intro l er
    rw [valsS_cons, valsS_cons, ih (valL l1 v l), ih (valL l1 v [])]
    simp only
    rw [valL_at l1 v l, valE_at l1 v er, List.append_assoc]
    by_cases h : er = 0
    · rw [if_pos h, if_pos h]
    · rw [if_neg h, if_neg h, if_neg h]
theorem valL_lt (l1 : List S37) (v : S54) (l : List Nat) (h : ∀ x ∈ l, x < 256) : ∀ x ∈ valL l1 v l, x < 256 := by
  have a := bigB_lt 1 (U64 v.f0)
  unfold valL
  repeat' split
  all_goals
    intro x hx
    simp only [List.mem_append] at hx
    first
      | (rcases hx with (hx | hx) | hx <;> first | exact h x hx | exact a x hx | exact bigB_lt _ _ x hx)
      | (rcases hx with hx | hx <;> first | exact h x hx | exact a x hx)
theorem valsS_lt (l1 : List S37) (vs : List S54) (s : List Nat × Int) (h : ∀ x ∈ s.1, x < 256) : ∀ x ∈ (valsS l1 vs s).1, x < 256 := by
  induction vs generalizing s with
  | nil => exact h
  | cons v vs ih => rw [valsS_cons]; exact ih _ (valL_lt l1 v s.1 h)
theorem told_any (A : Option Addr) (c n : Nat) (vs : List S54) (hn : vs.length = n) (A1 : Option Addr) (c1 : Nat) (l1 : List S37) (w : World) (hv : Kd.C k54 w A vs.length vs) (hc : vs.length ≤ c) (hr : Kd.C k37 w A1 l1.length l1) (hc1 : l1.length ≤ c1)
    (hp : ∀ x ∈ l1, 0 ≤ x.f3 ∧ x.f3 < 65536) (hl : l1.length ≤ 140737488355328) (ht : ∀ x ∈ vs, 0 ≤ x.f0 ∧ x.f0 < 256) (hvl : vs.length ≤ 65535) :
    Calls Try.prog 61 #[.slice A n c, .slice A1 l1.length c1] w fun e w' => e = .returned (.tuple #[.string (sb (valsS l1 vs ([], 0)).1), .int .i64 (valsS l1 vs ([], 0)).2]) ∧ Below w.heap.size w w' := by
  subst hn
  exact jvmcoreref3_told.calls _ A c vs A1 c1 l1 _ _ w hv hc hr hc1 (told_closed hp hl vs ht hvl _ (Nat.le_refl _))
theorem same_any (A0 : Option Addr) (c0 n0 : Nat) (a : List S54) (ha : a.length = n0) (A1 : Option Addr) (c1 n1 : Nat) (b : List S54) (hb : b.length = n1) (w : World) (h0 : Kd.C k54 w A0 a.length a) (h1 : Kd.C k54 w A1 b.length b) (hc0 : a.length ≤ c0) (hc1 : b.length ≤ c1) (hl : a.length ≤ 140737488355328) :
    Calls Try.prog 62 #[.slice A0 n0 c0, .slice A1 n1 c1] w fun e w' => e = .returned (.bool (likeB a b)) ∧ Drawn0 w w' := by
  subst ha hb
  exact jvmcoreref3_same.calls (a.length + 1) A0 c0 a A1 c1 b _ w h0 hc0 h1 hc1 (rsame_f a b _ hl (Nat.le_refl _))
theorem rbig_any (x : Int) (w : World) : Calls Try.prog 57 #[.int .u64 (IntKind.u64.wrap x), .int .i64 2] w fun e w' => e = .returned (.string (sb (bigB (U64 x) 2))) ∧ Below w.heap.size w w' :=
  RefBig_any (U64 x) 2 _ (u64_nat x) 2 rfl w (u64_lt x) (by decide)
end Go.Proofs.Ytfnjbmpolggdeaa.MR
