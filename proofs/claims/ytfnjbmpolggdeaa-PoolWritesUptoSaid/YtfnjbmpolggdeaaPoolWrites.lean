/-
  For every slice of constants of bulk at most 1048576, PoolWrites answers true and leaves its argument as it was.
-/
import Derived.Test.YtfnjbmpolggdeaaRows
import Derived.Test.YtfnjbmpolggdeaaLawPoolW
import Derived.Test.YtfnjbmpolggdeaaConsts
import Derived.ProofKit
import Derived.OpenShut
import Derived.JoinedCond
namespace Go.Proofs.Ytfnjbmpolggdeaa
open Go.RowKit
theorem bulk_kds {H : Type} (l : List K) : l.length ≤ Rows.uptoBulkAll (H := H) (l.map kd) ∧ ∀ c ∈ l, c.text.size ≤ Rows.uptoBulkAll (H := H) (l.map kd) := by
  induction l with
  | nil => simp
  | cons c l ih =>
    have e : c.text.data.toList.length = c.text.size := by rw [Array.length_toList]; rfl
    have h1 : Rows.uptoBulk (H := H) (kd c) ≥ c.text.size + 1 := by simp only [kd, Rows.uptoBulk, Rows.uptoBulkAll]; omega
    simp only [List.map_cons, Rows.uptoBulkAll, List.length_cons]
    refine ⟨by omega, fun x hx => ?_⟩
    rcases List.mem_cons.1 hx with rfl | hx
    · omega
    · have := ih.2 x hx; omega
theorem bulk_slice {H : Type} {elems sp : List (DataW H)} {gs : List (DataW H)} (hk : Rows.uptoSmall H (.slice elems sp :: gs) = true) : Rows.uptoBulkAll elems ≤ 1048576 := by
  have h : Rows.uptoBulkAll (DataW.slice elems sp :: gs) ≤ 1048576 := of_decide_eq_true hk
  simp only [Rows.uptoBulkAll, Rows.uptoBulk] at h
  omega
end Go.Proofs.Ytfnjbmpolggdeaa
namespace Go.Proofs.Ytfnjbmpolggdeaa.poolWrites
open Go.ChangeShapes Go.WideShapes Go.ChangeAt Go.RowKit
set_option linter.unusedVariables false

theorem own : ownKnob Try.prog.godebug = none := by kernel_rfl
theorem laidOut : laidOutB Try.prog = true := by kernel_rfl
set_option maxRecDepth 100000 in
theorem lifted (os : Os) (started : os.Started) (H : Type) (enc : TypeId × Value → H) (F : Stop.Interp) :
    ReturnsInHanded {} Try.checked os 6 .any ((Rows.OpenSpec.upto Rows.poolWritesSpec).pre6 enc Try.prog Try.f6 Rows.poolWritesUptoRow.domain false) (((Rows.OpenSpec.upto Rows.poolWritesSpec).at F).post enc Try.prog Try.f6 false true false false) := by
  refine returnsInHanded_of_cond (C := Try.checked) (s := Rows.OpenSpec.upto Rows.poolWritesSpec) (k := Rows.uptoSmall) rfl own started (by kernel_rfl) Try.func6
    (OpenSpec.witness (enc := enc) (C := Try.checked) (s := Rows.OpenSpec.upto Rows.poolWritesSpec) (k := Rows.uptoSmall) rfl false ⟨#[], #[.slice none 0 0], []⟩ 8 (by kernel_rfl) (by kernel_rfl) (by kernel_rfl)
      (x := ([.nil], [], [])) (by kernel_rfl) rfl (by kernel_rfl)) ?_
  intro W base args ds gs before hval0 hW hcnd hk _
  have hval : ∀ (j : Nat) t v, Try.f6.params[j]? = some t → args[j]? = some v → Value.okWide Try.prog W .any base t v := hval0
  have hW' := hW
  obtain ⟨p, q, hA0, hV, rfl, hfz, hnd⟩ := hW
  have hA : DataW.TrodAll enc Try.prog W 0 (fun _ => true) true Try.f6.params.toList args.toList ds p := hA0
  rw [Try.params6] at hA hval
  obtain ⟨v0, vs0, d0, ds0, p0, q0, hargs, rfl, rfl, h0, r0⟩ := trodAll_cons hA
  obtain ⟨rfl, rfl, rfl⟩ := trodAll_nil r0
  obtain rfl : args = #[v0] := by cases args; simp_all
  obtain ⟨rfl, rfl⟩ := trodVars_none hV
  obtain ⟨a0, len0, cap0, rfl⟩ := okWide_slice Try.underlying34 (hval 0 34 v0 rfl rfl)
  have k0 := h0
  have lt0 : ∀ x ∈ p0, x.block < W.heap.size := by obtain ⟨m, hm⟩ := k0; exact DataW.trod_lt m _ _ _ hm
  have hRd : ∃ l : List K, l.length = len0 ∧ len0 ≤ 1048576 ∧ (∀ c ∈ l, c.ok) ∧ (∀ c ∈ l, c.text.size ≤ 1048576) ∧ Rd W.heap.size W (.slice a0 len0 cap0) len0 (kcs l) ∧
      ((Value.slice a0 len0 cap0) = .slice none 0 0 ∨ ∃ ad c, (Value.slice a0 len0 cap0) = .slice (some ad) len0 c) := by
    obtain ⟨fuel, hf⟩ := h0
    rcases open_consts hf with hcs | ⟨x, l, c, ks, sp, hcs, hl, hm, hlen, hwide, hx, hrd⟩
    · simp [Value.cells] at hcs
      obtain ⟨rfl, rfl, rfl⟩ := hcs
      exact ⟨[], rfl, by simp, by simp, by simp, ⟨none, 0, rfl, .inl rfl⟩, .inl rfl⟩
    · simp [Value.cells] at hcs
      obtain ⟨rfl, rfl, rfl⟩ := hcs
      simp only [] at hx
      subst hx
      have hb := bulk_slice hk
      have hk2 := bulk_kds (H := H) ks
      have htx : ∀ c ∈ ks, c.text.size ≤ 1048576 := fun c hc => Nat.le_trans (hk2.2 c hc) hb
      exact ⟨ks, hlen, by have := hk2.1; omega, fun c hc => ⟨(hwide c hc).1, Nat.le_trans (htx c hc) (by decide), (hwide c hc).2.2.1, (hwide c hc).2.2.2.1, (hwide c hc).2.2.2.2⟩, htx, hrd, .inr ⟨_, _, rfl⟩⟩
  obtain ⟨l, rfl, hlen, hok, htx, hr, hnn⟩ := hRd
  clear hA0 hval0
  refine (PoolWrites_walk l hok htx _ W hr hnn hlen).mono fun e W' ⟨he, bel⟩ => ?_
  subst he
  exact ⟨_, rfl, _, _, _, [], _, [], hW', trodAll_mk1 (shut_bool Try.underlying4 _), (trodAll_cons_mk (Below.trod laidOut (by kernel_rfl) (of_decide_eq_true (by kernel_rfl)) k0 bel lt0) trodAll_mk0), rfl, bel.frame _, fun h => by cases h⟩

theorem over : Rows.PoolWritesUptoSaid :=
  OpenClaim.holds_of_cond 6 Try.f6 rfl rfl rfl rfl rfl rfl rfl ⟨rfl, rfl, rfl, rfl, rfl⟩ rfl rfl rfl rfl rfl (by kernel_rfl) Try.func6 (by kernel_rfl)
    (of_decide_eq_true (by kernel_rfl)) (by unfold Func.isWrapper; first | (rw [if_pos (by decide +kernel)]; kernel_rfl) | (rw [if_neg (by decide +kernel)]; exact ⟨rfl, rfl⟩))
    (fun os started H enc _ F => lifted os started H enc F)
end Go.Proofs.Ytfnjbmpolggdeaa.poolWrites
namespace Go.Proofs.Ytfnjbmpolggdeaa
theorem poolWrites_upto_holds : Rows.PoolWritesUptoSaid := poolWrites.over
#print axioms poolWrites_upto_holds
end Go.Proofs.Ytfnjbmpolggdeaa
