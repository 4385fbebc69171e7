/-
  For every slice of constants PoolWrites answers true and leaves its argument as it was. (The frame follows the kit's printed row.)
-/
import Derived.Test.YtfnjbmpolggdeaaRows
import Derived.Test.YtfnjbmpolggdeaaLawPoolS
import Derived.Test.YtfnjbmpolggdeaaConsts
import Derived.ProofKit
import Derived.OpenShut
import Derived.SizedLaws
import Derived.Below
namespace Go.Proofs.Ytfnjbmpolggdeaa
open Go.RowKit
section
variable {H : Type}
theorem kd_weight (c : K) : c.text.size ∈ (kd (H := H) c).weights Try.prog 37 := by
  have e : c.text.data.toList.length = c.text.size := by rw [Array.length_toList]; rfl
  simp [kd, DataW.weights, DataW.weightsEach, Try.underlying37, e]
theorem kds_weight (l : List K) (e : TypeId) (he : e = 37) : ∀ c ∈ l, c.text.size ∈ DataW.weightsAll Try.prog e (l.map (kd (H := H))) := by
  subst he
  induction l with
  | nil => intro c h; cases h
  | cons a l ih =>
    intro c h
    simp only [List.map_cons, DataW.weightsAll, List.mem_append]
    rcases List.mem_cons.1 h with rfl | h
    · exact .inl (kd_weight _)
    · exact .inr (ih c h)
theorem sized_consts {ts : List TypeId} {gs : List (DataW H)} {l : List K} {sp : List (DataW H)}
    (h : (DataW.weightsEach Try.prog (34 :: ts) (.slice (l.map kd) sp :: gs)).all (· ≤ reachBytes) = true) : l.length * 40 ≤ 140737488351232 ∧ ∀ c ∈ l, c.text.size ≤ 140737488351232 := by
  have hb : Try.prog.bytesOf 37 = 40 := by kernel_rfl
  have hr : reachBytes = 140737488351232 := by decide
  rw [List.all_eq_true] at h
  simp only [DataW.weightsEach, DataW.weights, Try.underlying34, hb, List.length_map] at h
  refine ⟨?_, fun c hc => ?_⟩
  · have := h ((l.length + sp.length) * 40) (by simp)
    have := of_decide_eq_true this
    omega
  · have := h c.text.size (by
      refine List.mem_append_left _ (List.mem_cons_of_mem _ (List.mem_append_left _ (kds_weight l _ rfl c hc))))
    have := of_decide_eq_true this
    omega
end
end Go.Proofs.Ytfnjbmpolggdeaa
namespace Go.Proofs.Ytfnjbmpolggdeaa.poolWritesS
open Go.ChangeShapes Go.WideShapes Go.ChangeAt Go.RowKit
set_option linter.unusedVariables false
theorem own : ownKnob Try.prog.godebug = none := by kernel_rfl
theorem laidOut : laidOutB Try.prog = true := by kernel_rfl
set_option maxRecDepth 100000 in
theorem lifted (os : Os) (started : os.Started) (H : Type) (enc : TypeId × Value → H) :
    ReturnsInHanded {} Try.checked os 6 .any (Rows.poolWritesSpec.pre6 enc Try.prog Try.f6 Rows.poolWritesRow.domain false) (Rows.poolWritesSpec.post enc Try.prog Try.f6 false true false false) := by
  refine returnsInHanded_of_change_sized (C := Try.checked) own started (by kernel_rfl) Try.func6
    (ChangeSpec.witness6 (enc := enc) (C := Try.checked) false ⟨#[], #[.slice none 0 0], []⟩ 8 (by kernel_rfl) (by kernel_rfl) (by kernel_rfl) (by kernel_rfl)) ?_
  intro W base args ds gs before hval0 hW hcnd hsz0 _
  have hsz : (DataW.weightsEach Try.prog (Try.f6.params.toList ++ Rows.poolWritesSpec.plain.varTypes Try.prog) (ds ++ gs)).all (· ≤ reachBytes) = true := hsz0
  have hval : ∀ (j : Nat) t v, Try.f6.params[j]? = some t → args[j]? = some v → Value.okWide Try.prog W .any base t v := hval0
  have hW' := hW
  obtain ⟨p, q, hA0, hV, rfl, hfz, hnd⟩ := hW
  have hA : DataW.TrodAll enc Try.prog W 0 (fun _ => true) true Try.f6.params.toList args.toList ds p := hA0
  rw [Try.params6] at hA hval hsz
  obtain ⟨v0, vs0, d0, ds0, p0, q0, hargs, rfl, rfl, h0, r0⟩ := trodAll_cons hA
  obtain ⟨rfl, rfl, rfl⟩ := trodAll_nil r0
  obtain rfl : args = #[v0] := by cases args; simp_all
  obtain ⟨rfl, rfl⟩ := trodVars_none hV
  obtain ⟨a0, len0, cap0, rfl⟩ := okWide_slice Try.underlying34 (hval 0 34 v0 rfl rfl)
  have k0 := h0
  have lt0 : ∀ x ∈ p0, x.block < W.heap.size := by obtain ⟨m, hm⟩ := k0; exact DataW.trod_lt m _ _ _ hm
  have hRd : ∃ l : List K, l.length = len0 ∧ l.length * 40 ≤ 140737488351232 ∧ (∀ c ∈ l, c.tag < 256 ∧ c.bits < 18446744073709551616 ∧ c.a < 65536 ∧ c.b < 65536) ∧ (∀ c ∈ l, c.text.size ≤ 140737488351232) ∧ Rd W.heap.size W (.slice a0 len0 cap0) len0 (kcs l) ∧
      ((Value.slice a0 len0 cap0) = .slice none 0 0 ∨ ∃ ad c, (Value.slice a0 len0 cap0) = .slice (some ad) len0 c) := by
    obtain ⟨fuel, hf⟩ := h0
    rcases open_consts hf with hcs | ⟨x, l, c, ks, sp, hcs, hl, hm, hlen, hwide, hx, hrd⟩
    · simp [Value.cells] at hcs
      obtain ⟨rfl, rfl, rfl⟩ := hcs
      exact ⟨[], rfl, by simp, by simp, by simp, ⟨none, 0, rfl, .inl rfl⟩, .inl rfl⟩
    · simp [Value.cells] at hcs
      obtain ⟨rfl, rfl, rfl⟩ := hcs
      simp only [] at hx
      subst hx
      obtain ⟨g1, g2⟩ := sized_consts hsz
      exact ⟨ks, hlen, g1, fun c hc => ⟨(hwide c hc).1, (hwide c hc).2.2.1, (hwide c hc).2.2.2.1, (hwide c hc).2.2.2.2⟩, g2, hrd, .inr ⟨_, _, rfl⟩⟩
  obtain ⟨l, rfl, hlen, hok, htx, hr, hnn⟩ := hRd
  clear hA0 hval0 hsz hsz0
  refine (PoolWrites_walkS l hok htx _ W hr hnn hlen).mono fun e W' ⟨he, bel⟩ => ?_
  subst he
  exact ⟨_, rfl, _, _, _, [], _, [], hW', trodAll_mk1 (shut_bool Try.underlying4 _), (trodAll_cons_mk (Below.trod laidOut (by kernel_rfl) (of_decide_eq_true (by kernel_rfl)) k0 bel lt0) trodAll_mk0), rfl, bel.frame _, fun h => by cases h⟩
theorem over : Rows.poolWritesRow.holds Try.pinned (OpenSpec.ofChange Rows.poolWritesSpec) :=
  OpenClaim.holds_of_wide 6 Try.f6 rfl rfl rfl rfl rfl rfl rfl ⟨rfl, rfl, rfl, rfl, rfl⟩ rfl rfl rfl rfl rfl (by kernel_rfl) Try.func6 (by kernel_rfl)
    (of_decide_eq_true (by kernel_rfl)) (by unfold Func.isWrapper; first | (rw [if_pos (by decide +kernel)]; kernel_rfl) | (rw [if_neg (by decide +kernel)]; exact ⟨rfl, rfl⟩))
    (fun os started H enc _ => lifted os started H enc)
end Go.Proofs.Ytfnjbmpolggdeaa.poolWritesS
namespace Go.Proofs.Ytfnjbmpolggdeaa
theorem poolWrites_holds : Rows.PoolWritesSaid := poolWritesS.over
#print axioms poolWrites_holds
end Go.Proofs.Ytfnjbmpolggdeaa
