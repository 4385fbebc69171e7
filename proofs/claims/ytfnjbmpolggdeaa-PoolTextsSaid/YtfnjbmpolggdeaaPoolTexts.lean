/-
  For every slice of 16-bit units, PoolTexts answers true and leaves its argument as it was. (Conditions: none.)
-/
import Derived.Test.YtfnjbmpolggdeaaRows
import Derived.Test.YtfnjbmpolggdeaaLawTexts
import Derived.ProofKit
import Derived.OpenShut
import Derived.ShutString
namespace Go.Proofs.Ytfnjbmpolggdeaa
open Go.RowKit
theorem rd_u16 {W : World} {x : Addr} {len cap : Nat} {zs : List Int} (hl : len ≤ zs.length) (hcell : ∀ i, i < zs.length → W.cell? (x.add i) = some (.int .u16 (zs.getD i 0))) (hwz : ∀ n ∈ zs, (Lit.int .u16 n).wf = true) :
    ∃ l : List Nat, l.length = len ∧ (∀ x ∈ l, x < 65536) ∧ Rd W.heap.size W (.slice (some x) len cap) len (u16s l) := by
  have hb : ∀ z ∈ zs, 0 ≤ z ∧ z < 65536 := fun z hz => by
    have := hwz z hz
    simp [Lit.wf, IntKind.min, IntKind.max, IntKind.bits, IntKind.signed] at this
    omega
  refine ⟨(zs.take len).map Int.toNat, by simp; omega, ?_, ?_⟩
  · intro y hy
    obtain ⟨z, hz1, rfl⟩ := List.mem_map.1 hy
    have := hb z (List.mem_of_mem_take hz1)
    omega
  · by_cases h0 : len = 0
    · exact ⟨_, _, rfl, .inl (by simp [u16s, h0])⟩
    · obtain ⟨b, off, rfl, hc⟩ := ints_at hcell (by omega)
      refine ⟨_, _, rfl, .inr ⟨b, off, rfl, ?_, ?_⟩⟩
      · have := World.block_lt_of_cell? W ⟨b, off + 0, none⟩ (hc 0 (by omega)); exact this
      · intro j u hj
        simp only [u16s, List.map_map, List.getElem?_map] at hj
        obtain ⟨z, hz1, rfl⟩ := Option.map_eq_some_iff.1 hj
        rw [List.getElem?_take] at hz1
        split at hz1
        · have hj2 : j < zs.length := (List.getElem?_eq_some_iff.1 hz1).1
          rw [hc j hj2]
          have hz2 : zs[j] = z := (List.getElem?_eq_some_iff.1 hz1).2
          have := hb z (hz2 ▸ List.getElem_mem _)
          simp [List.getD, hz1]; omega
        · cases hz1
end Go.Proofs.Ytfnjbmpolggdeaa
namespace Go.Proofs.Ytfnjbmpolggdeaa.poolTexts
open Go.ChangeShapes Go.WideShapes Go.ChangeAt Go.RowKit
set_option linter.unusedVariables false

theorem own : ownKnob Try.prog.godebug = none := by kernel_rfl
theorem laidOut : laidOutB Try.prog = true := by kernel_rfl
set_option maxRecDepth 100000 in
theorem lifted (os : Os) (started : os.Started) (H : Type) (enc : TypeId × Value → H) :
    ReturnsInHanded {} Try.checked os 5 .any (Rows.poolTextsSpec.pre6 enc Try.prog Try.f5 Rows.poolTextsRow.domain false) (Rows.poolTextsSpec.post enc Try.prog Try.f5 false true false false) := by
  refine returnsInHanded_of_change (C := Try.checked) own started (by kernel_rfl) Try.func5
    (ChangeSpec.witness6 (enc := enc) (C := Try.checked) false ⟨#[], #[.slice none 0 0], []⟩ 8 (by kernel_rfl) (by kernel_rfl) (by kernel_rfl) (by kernel_rfl)) ?_
  intro W base args ds gs before hval0 hW hcnd _
  have hval : ∀ (j : Nat) t v, Try.f5.params[j]? = some t → args[j]? = some v → Value.okWide Try.prog W .any base t v := hval0
  have hW' := hW
  obtain ⟨p, q, hA0, hV, rfl, hfz, hnd⟩ := hW
  have hA : DataW.TrodAll enc Try.prog W 0 (fun _ => true) true Try.f5.params.toList args.toList ds p := hA0
  rw [Try.params5] at hA hval
  obtain ⟨v0, vs0, d0, ds0, p0, q0, hargs, rfl, rfl, h0, r0⟩ := trodAll_cons hA
  obtain ⟨rfl, rfl, rfl⟩ := trodAll_nil r0
  obtain rfl : args = #[v0] := by cases args; simp_all
  obtain ⟨rfl, rfl⟩ := trodVars_none hV
  obtain ⟨a0, len0, cap0, rfl⟩ := okWide_slice Try.underlying24 (hval 0 24 v0 rfl rfl)
  have k0 := h0
  have lt0 : ∀ x ∈ p0, x.block < W.heap.size := by obtain ⟨m, hm⟩ := k0; exact DataW.trod_lt m _ _ _ hm
  have hRd : ∃ l : List Nat, l.length = len0 ∧ len0 ≤ maxLen ∧ (∀ x ∈ l, x < 65536) ∧ Rd W.heap.size W (.slice a0 len0 cap0) len0 (u16s l) := by
    obtain ⟨fuel, hf⟩ := h0
    rcases open_ints Try.underlying24 Try.underlying29 (by kernel_rfl) hf with ⟨hcs, _⟩ | ⟨x, l, c, zs, hcs, _, hl, hm, hz, hx, hcell, hwz⟩
    · simp [Value.cells] at hcs
      obtain ⟨rfl, rfl, rfl⟩ := hcs
      exact ⟨[], rfl, by simp, by simp, none, 0, rfl, .inl rfl⟩
    · simp [Value.cells] at hcs
      obtain ⟨rfl, rfl, rfl⟩ := hcs
      obtain ⟨l, h1, h2, h3⟩ := rd_u16 (cap := cap0) (len := len0) (by simp at hz; omega) hcell hwz
      exact ⟨l, h1, by omega, h2, h3⟩
  obtain ⟨l, rfl, hlen, h16, hr⟩ := hRd
  clear hA0 hval0
  refine (PoolTexts_walk l h16 _ W hr hlen).mono fun e W' ⟨he, bel⟩ => ?_
  subst he
  exact ⟨_, rfl, _, _, _, [], _, [], hW', trodAll_mk1 (shut_bool Try.underlying4 _), (trodAll_cons_mk (Below.trod laidOut (by kernel_rfl) (of_decide_eq_true (by kernel_rfl)) k0 bel lt0) trodAll_mk0), rfl, bel.frame _, fun h => by cases h⟩

theorem over : Rows.poolTextsRow.holds Try.pinned (OpenSpec.ofChange Rows.poolTextsSpec) :=
  OpenClaim.holds_of_wide 5 Try.f5 rfl rfl rfl rfl rfl rfl rfl ⟨rfl, rfl, rfl, rfl, rfl⟩ rfl rfl rfl rfl rfl (by kernel_rfl) Try.func5 (by kernel_rfl)
    (of_decide_eq_true (by kernel_rfl)) (by unfold Func.isWrapper; first | (rw [if_pos (by decide +kernel)]; kernel_rfl) | (rw [if_neg (by decide +kernel)]; exact ⟨rfl, rfl⟩))
    (fun os started H enc _ => lifted os started H enc)
end Go.Proofs.Ytfnjbmpolggdeaa.poolTexts
namespace Go.Proofs.Ytfnjbmpolggdeaa
theorem poolTexts_holds : Rows.PoolTextsSaid := poolTexts.over
#print axioms poolTexts_holds
end Go.Proofs.Ytfnjbmpolggdeaa
