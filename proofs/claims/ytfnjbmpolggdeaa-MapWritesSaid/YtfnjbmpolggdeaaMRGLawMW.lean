/-
  The row of MapWrites. Began as the kit's printed row; the arguments are opened by Opens, with the bounds in bytes that the row is given.
-/
import Derived.Test.YtfnjbmpolggdeaaRows
import Derived.Test.YtfnjbmpolggdeaaOpen
import Derived.Test.YtfnjbmpolggdeaaMRx45
import Derived.WalkKit
import Derived.ProofKit
import Derived.OpenShut
import Derived.SizedLaws
import Derived.Below
namespace Go.Proofs.Ytfnjbmpolggdeaa.MR
open Go.RowKit Go.Proofs.YtfnjbmpolggdeaaW.PrintWords Go.Proofs.YtfnjbmpolggdeaaW.PrintLast Go.Proofs.YtfnjbmpolggdeaaW.PrintMore
set_option linter.unusedVariables false
set_option linter.unusedSimpArgs false
theorem wrS {i : Nat} (h : i ≤ 140737488355328) : wrap64 ((i : Int) + 1) = ((i + 1 : Nat) : Int) := by unfold wrap64; omega
theorem weight_l (l0 : List S80) (hl : l0.length ≤ 140737488355328) : ∀ (r i k : Nat) (acc : Int), i + r = l0.length → r + 1 ≤ k → ∃ v, jvmcorelaw3_weight.l0 k acc l0 (l0.length : Int) (i : Int) = some v
  | 0, i, k + 1, acc, hi, hk => ⟨acc, by rw [jvmcorelaw3_weight.l0, if_neg (by omega)]⟩
  | r + 1, i, k + 1, acc, hi, hk => by
    rw [jvmcorelaw3_weight.l0, if_pos (by omega), if_pos (by omega), if_pos (by omega), wrS (by omega)]
    exact weight_l l0 hl r (i + 1) k _ (by omega) (by omega)
theorem twin_l (l0 : List S80) (hl : l0.length ≤ 2513169434900) (hf : ∀ f ∈ l0, f.f1.length ≤ 4398046511000 ∧ f.f2.length ≤ 4398046511000) : ∀ (r i k : Nat), i + r = l0.length → r + 1 ≤ k → jvmcorelaw3_twin.l0 k (l0.take i) l0 (l0.length : Int) (i : Int) = some l0
  | 0, i, k + 1, hi, hk => by rw [jvmcorelaw3_twin.l0, if_neg (by omega), List.take_of_length_le (by omega)]
  | r + 1, i, k + 1, hi, hk => by
    have hlt : i < l0.length := by omega
    obtain ⟨h1, h2⟩ := hf _ (List.getElem_mem hlt)
    rw [jvmcorelaw3_twin.l0, if_pos (by omega), if_pos (by omega), if_pos (by omega), rdF_at hlt, if_pos (by simp only [List.length_nil]; omega), if_pos (by simp only [List.length_nil]; omega), if_pos (by rw [List.length_take]; omega), wrS (by omega), List.nil_append, List.nil_append]
    have : l0.take i ++ [(⟨l0[i].f0, l0[i].f1, l0[i].f2⟩ : S80)] = l0.take (i + 1) := by rw [List.take_succ_eq_append_getElem hlt]
    rw [this]
    exact twin_l l0 hl hf r (i + 1) k (by omega) (by omega)
theorem st_l (a : List S54) (hl : a.length ≤ 140737488355328) : ∀ r i k : Nat, i + r = a.length → r + 1 ≤ k → jvmcorelaw3_sameTypes.l0 k a a (a.length : Int) (i : Int) = some true
  | 0, i, k + 1, hi, hk => by rw [jvmcorelaw3_sameTypes.l0, if_neg (by omega)]
  | r + 1, i, k + 1, hi, hk => by
    rw [jvmcorelaw3_sameTypes.l0, if_pos (by omega), if_pos (by omega), if_pos (by omega), if_pos (by omega), if_neg (by simp), wrS (by omega)]
    exact st_l a hl r (i + 1) k (by omega) (by omega)
theorem st_refl (a : List S54) (hl : a.length ≤ 140737488355328) (k : Nat) (hk : a.length + 1 ≤ k) : jvmcorelaw3_sameTypes.f k a a = some true := by
  unfold jvmcorelaw3_sameTypes.f
  rw [if_pos rfl]
  exact st_l a hl a.length 0 k (by omega) hk
theorem sp_l (a : List S37) (hl : a.length ≤ 140737488355328) : ∀ r i k : Nat, i + r = a.length → r + 1 ≤ k → jvmcorelaw3_samePool.l0 k a a (a.length : Int) (i : Int) = some true
  | 0, i, k + 1, hi, hk => by rw [jvmcorelaw3_samePool.l0, if_neg (by omega)]
  | r + 1, i, k + 1, hi, hk => by
    rw [jvmcorelaw3_samePool.l0, if_pos (by omega), if_pos (by omega), if_pos (by omega), if_pos (by omega), if_neg (by simp), wrS (by omega)]
    exact sp_l a hl r (i + 1) k (by omega) (by omega)
theorem sp_refl (a : List S37) (hl : a.length ≤ 140737488355328) (k : Nat) (hk : a.length + 1 ≤ k) : jvmcorelaw3_samePool.f k a a = some true := by
  unfold jvmcorelaw3_samePool.f
  rw [if_pos rfl]
  exact sp_l a hl a.length 0 k (by omega) hk
theorem sf_l (l0 : List S80) (hl : l0.length ≤ 2513169434900) (hf : ∀ f ∈ l0, f.f1.length ≤ 4398046511000 ∧ f.f2.length ≤ 4398046511000) : ∀ r i k : Nat, i + r = l0.length → r + 4398046511010 ≤ k → jvmcorelaw3_sameFrames.l0 k l0 l0 (l0.length : Int) (i : Int) = some true
  | 0, i, 0, hi, hk => absurd hk (by omega)
  | r + 1, i, 0, hi, hk => absurd hk (by omega)
  | 0, i, k + 1, hi, hk => by rw [jvmcorelaw3_sameFrames.l0, if_neg (by omega)]
  | r + 1, i, k + 1, hi, hk => by
    have hlt : i < l0.length := by omega
    obtain ⟨h1, h2⟩ := hf _ (List.getElem_mem hlt)
    rw [jvmcorelaw3_sameFrames.l0, if_pos (by omega), if_pos (by omega), if_pos (by omega), if_pos (by omega), if_pos rfl, rdF_at hlt, st_refl _ (by omega) k (by omega), Option.bind_some, if_pos rfl, st_refl _ (by omega) k (by omega), Option.bind_some, if_pos rfl, wrS (by omega)]
    exact sf_l l0 hl hf r (i + 1) k (by omega) (by omega)
theorem mapWrites_pure (l0 : List S80) (l1 : List S37) (l2 : List S54) (h0 : l0.length ≤ 2513169434900) (h1 : l1.length ≤ 3518437208800) (h2 : l2.length ≤ 4398046511000) (hf : ∀ f ∈ l0, f.f1.length ≤ 4398046511000 ∧ f.f2.length ≤ 4398046511000)
    (h3 : ∀ x ∈ l1, 0 ≤ x.f3 ∧ x.f3 < 65536) (ht : ∀ f ∈ l0, (∀ x ∈ f.f1, 0 ≤ x.f0 ∧ x.f0 < 256) ∧ ∀ x ∈ f.f2, 0 ≤ x.f0 ∧ x.f0 < 256) (k : Nat) (hk : 9000000000000 ≤ k) :
    jvmcorelaw3_MapWrites.f k l0 l1 l2 = some true := by
  obtain ⟨v, hv⟩ := weight_l l0 (by omega) l0.length 0 k (l0.length : Int) (by omega) (by omega)
  have hv2 : jvmcorelaw3_weight.f k l0 = some v := hv
  have htw : jvmcorelaw3_twin.f k l0 = some l0 := twin_l l0 h0 hf l0.length 0 k (by omega) (by omega)
  have hsf : jvmcorelaw3_sameFrames.f k l0 l0 = some true := by
    unfold jvmcorelaw3_sameFrames.f
    rw [if_pos rfl]
    exact sf_l l0 h0 hf l0.length 0 k (by omega) (by omega)
  obtain ⟨q, hq⟩ : ∃ q, maps_Write.f l0 l1 l2 = some q := by
    unfold maps_Write.f
    rw [if_pos ⟨by omega, by omega, h3, ht⟩]
    exact ⟨_, rfl⟩
  have hq2 : jvmcoreref3_WriteMap.f l0 l1 l2 = some q := hq
  unfold jvmcorelaw3_MapWrites.f
  rw [hv2, Option.bind_some]
  split
  · rfl
  · rw [htw, Option.bind_some, if_pos (by simp only [List.length_nil]; omega), List.nil_append, Option.bind_some, if_pos (by simp only [List.length_nil]; omega), List.nil_append, Option.bind_some, hq, Option.bind_some, hq2, Option.bind_some, if_pos rfl, if_pos rfl, if_pos rfl, hsf, Option.bind_some, if_pos rfl, st_refl l2 (by omega) k (by omega), Option.bind_some, if_pos rfl, sp_refl l1 (by omega) k (by omega), Option.bind_some]
end Go.Proofs.Ytfnjbmpolggdeaa.MR
namespace Go.Proofs.Ytfnjbmpolggdeaa.mapWrites
open Go.ChangeShapes Go.WideShapes Go.ChangeAt Go.RowKit Go.Proofs.YtfnjbmpolggdeaaW.PrintWords
open Go.Proofs.Ytfnjbmpolggdeaa.MR
set_option linter.unusedVariables false
theorem own : ownKnob Try.prog.godebug = none := by kernel_rfl
theorem laidOut : laidOutB Try.prog = true := by kernel_rfl
def R : Nat := 140737488351232
instance iC : Inhabited S37 := ⟨z37⟩
instance iV : Inhabited S54 := ⟨z54⟩
instance iF : Inhabited S80 := ⟨z80⟩
set_option maxRecDepth 100000 in
theorem opensC : Opens Try.prog R k37 37 (fun x => 0 ≤ x.f3 ∧ x.f3 < 65536) := by
  refine Opens.imp (opens_struct Try.underlying37 (by kernel_rfl) (l := [(5, 0), (9, 1), (35, 2), (29, 3), (29, 4)]) (by kernel_rfl)
    (opensF_iso (fun p : Int × ByteArray × Int × Int × Int => (⟨p.1, p.2.1, p.2.2.1, p.2.2.2.1, p.2.2.2.2⟩ : S37)) (fun _ => rfl)
      (opensF_pair (by kernel_rfl) (opens_int Try.underlying5) (opensF_pair (by kernel_rfl) (opens_string Try.underlying9) (opensF_pair (by kernel_rfl) (opens_int Try.underlying35) (opensF_pair (by kernel_rfl) (opens_int Try.underlying29) (opensF_one (by kernel_rfl) (opens_int Try.underlying29)))))))) ?_
  rintro x ⟨h0, h1, h2, h3, h4⟩
  have g3 : (Lit.int IntKind.u16 x.f3).wf = true := h3
  simp [Lit.wf, IntKind.min, IntKind.max, IntKind.bits, IntKind.signed] at g3
  exact ⟨by omega, by omega⟩
set_option maxRecDepth 100000 in
theorem opensV : Opens Try.prog R k54 54 (fun x => 0 ≤ x.f0 ∧ x.f0 < 256) := by
  refine Opens.imp (opens_struct Try.underlying54 (by kernel_rfl) (l := [(5, 0), (9, 1), (3, 2)]) (by kernel_rfl)
    (opensF_iso (fun p : Int × ByteArray × Int => (⟨p.1, p.2.1, p.2.2⟩ : S54)) (fun _ => rfl)
      (opensF_pair (by kernel_rfl) (opens_int Try.underlying5) (opensF_pair (by kernel_rfl) (opens_string Try.underlying9) (opensF_one (by kernel_rfl) (opens_int Try.underlying3)))))) ?_
  rintro x ⟨h0, h1, h2⟩
  have g0 : (Lit.int IntKind.u8 x.f0).wf = true := h0
  simp [Lit.wf, IntKind.min, IntKind.max, IntKind.bits, IntKind.signed] at g0
  exact ⟨by omega, by omega⟩
theorem bV : Try.prog.bytesOf 54 = 32 := by kernel_rfl
theorem bC : Try.prog.bytesOf 37 = 40 := by kernel_rfl
theorem bF : Try.prog.bytesOf 80 = 56 := by kernel_rfl
def okF (f : S80) : Prop := (f.f1.length ≤ 4398046511000 ∧ f.f2.length ≤ 4398046511000) ∧ (∀ x ∈ f.f1, 0 ≤ x.f0 ∧ x.f0 < 256) ∧ ∀ x ∈ f.f2, 0 ≤ x.f0 ∧ x.f0 < 256
set_option maxRecDepth 100000 in
theorem opensF : Opens Try.prog R k80 80 okF := by
  refine Opens.imp (opens_struct Try.underlying80 (by kernel_rfl) (l := [(3, 0), (44, 1), (44, 2)]) (by kernel_rfl)
    (opensF_iso (fun p : Int × List S54 × List S54 => (⟨p.1, p.2.1, p.2.2⟩ : S80)) (fun _ => rfl)
      (opensF_pair (by kernel_rfl) (opens_int Try.underlying3) (opensF_pair (by kernel_rfl) (opens_slice Try.underlying44 (by kernel_rfl) (of_decide_eq_true (by kernel_rfl)) opensV) (opensF_one (by kernel_rfl) (opens_slice Try.underlying44 (by kernel_rfl) (of_decide_eq_true (by kernel_rfl)) opensV)))))) ?_
  rintro x ⟨h0, h1, h2⟩
  have a1 : x.f1.length * Try.prog.bytesOf 54 ≤ R := h1.1
  have a2 : x.f2.length * Try.prog.bytesOf 54 ≤ R := h2.1
  rw [bV] at a1 a2
  unfold R at a1 a2
  exact ⟨⟨by omega, by omega⟩, h1.2, h2.2⟩
set_option maxRecDepth 100000 in
theorem lifted (os : Os) (started : os.Started) (H : Type) (enc : TypeId × Value → H) :
    ReturnsInHanded {} Try.checked os 7 .any (Rows.mapWritesSpec.pre6 enc Try.prog Try.f7 Rows.mapWritesRow.domain false) (Rows.mapWritesSpec.post enc Try.prog Try.f7 false true false false) := by
  refine returnsInHanded_of_change_sized (C := Try.checked) own started (by kernel_rfl) Try.func7
    (ChangeSpec.witness6 (enc := enc) (C := Try.checked) false ⟨#[], #[.slice none 0 0, .slice none 0 0, .slice none 0 0], []⟩ 8 (by kernel_rfl) (by kernel_rfl) (by kernel_rfl) (by kernel_rfl)) ?_
  intro W base args ds gs before hval0 hW hcnd hsz0 _
  have hsz : (DataW.weightsEach Try.prog (Try.f7.params.toList ++ Rows.mapWritesSpec.plain.varTypes Try.prog) (ds ++ gs)).all (· ≤ reachBytes) = true := hsz0
  have hval : ∀ (j : Nat) t v, Try.f7.params[j]? = some t → args[j]? = some v → Value.okWide Try.prog W .any base t v := hval0
  have hW' := hW
  obtain ⟨p, q, hA0, hV, rfl, hfz, hnd⟩ := hW
  have hA : DataW.TrodAll enc Try.prog W 0 (fun _ => true) true Try.f7.params.toList args.toList ds p := hA0
  rw [Try.params7] at hA hval hsz
  obtain ⟨v0, vs0, d0, ds0, p0, q0, hargs, rfl, rfl, h0, r0⟩ := trodAll_cons hA
  obtain ⟨v1, vs1, d1, ds1, p1, q1, rfl, rfl, rfl, h1, r1⟩ := trodAll_cons r0
  obtain ⟨v2, vs2, d2, ds2, p2, q2, rfl, rfl, rfl, h2, r2⟩ := trodAll_cons r1
  obtain ⟨rfl, rfl, rfl⟩ := trodAll_nil r2
  obtain rfl : args = #[v0, v1, v2] := by cases args; simp_all
  obtain ⟨rfl, rfl⟩ := trodVars_none hV
  have hr : reachBytes = R := by decide
  rw [List.all_eq_true] at hsz
  have hbs : ∀ m, m ∈ DataW.weightsEach Try.prog [43, 34, 44] [d0, d1, d2] → m ≤ R := fun m hm => by
    have := of_decide_eq_true (hsz m hm)
    rw [hr] at this
    exact this
  have b0 : ∀ m ∈ d0.weights Try.prog 43, m ≤ R := fun m hm => hbs m (mem_weightsEach (i := 0) rfl rfl hm)
  have b1 : ∀ m ∈ d1.weights Try.prog 34, m ≤ R := fun m hm => hbs m (mem_weightsEach (i := 1) rfl rfl hm)
  have b2 : ∀ m ∈ d2.weights Try.prog 44, m ≤ R := fun m hm => hbs m (mem_weightsEach (i := 2) rfl rfl hm)
  obtain ⟨a0, len0, cap0, rfl⟩ := okWide_slice Try.underlying43 (hval 0 43 v0 rfl rfl)
  obtain ⟨a1, len1, cap1, rfl⟩ := okWide_slice Try.underlying34 (hval 1 34 v1 rfl rfl)
  obtain ⟨a2, len2, cap2, rfl⟩ := okWide_slice Try.underlying44 (hval 2 44 v2 rfl rfl)
  have k0 := h0
  have k1 := h1
  have k2 := h2
  have lt0 : ∀ x ∈ p0, x.block < W.heap.size := by obtain ⟨m, hm⟩ := k0; exact DataW.trod_lt m _ _ _ hm
  have lt1 : ∀ x ∈ p1, x.block < W.heap.size := by obtain ⟨m, hm⟩ := k1; exact DataW.trod_lt m _ _ _ hm
  have lt2 : ∀ x ∈ p2, x.block < W.heap.size := by obtain ⟨m, hm⟩ := k2; exact DataW.trod_lt m _ _ _ hm
  obtain ⟨fuel0, hf0⟩ := h0
  obtain ⟨fuel1, hf1⟩ := h1
  obtain ⟨fuel2, hf2⟩ := h2
  obtain ⟨l0, ⟨hl0, ho0⟩, A0, c0, e0, hc0, hr0⟩ := opens_slice (R := R) Try.underlying43 (by kernel_rfl) (of_decide_eq_true (by kernel_rfl)) opensF H _ (bounded_weights Try.prog H R) enc W 0 _ true fuel0 _ _ hf0 b0
  obtain ⟨l1, ⟨hl1, ho1⟩, A1, c1, e1, hc1, hr1⟩ := opens_slice (R := R) Try.underlying34 (by kernel_rfl) (of_decide_eq_true (by kernel_rfl)) opensC H _ (bounded_weights Try.prog H R) enc W 0 _ true fuel1 _ _ hf1 b1
  obtain ⟨l2, ⟨hl2, ho2⟩, A2, c2, e2, hc2, hr2⟩ := opens_slice (R := R) Try.underlying44 (by kernel_rfl) (of_decide_eq_true (by kernel_rfl)) opensV H _ (bounded_weights Try.prog H R) enc W 0 _ true fuel2 _ _ hf2 b2
  simp [Value.cells] at e0 e1 e2
  obtain ⟨rfl, rfl, rfl⟩ := e0
  obtain ⟨rfl, rfl, rfl⟩ := e1
  obtain ⟨rfl, rfl, rfl⟩ := e2
  rw [bF] at hl0
  rw [bC] at hl1
  rw [bV] at hl2
  unfold R at hl0 hl1 hl2
  have hk2 := mapWrites_pure l0 l1 l2 (by omega) (by omega) (by omega) (fun f hf => (ho0 f hf).1) ho1 (fun f hf => (ho0 f hf).2) 9000000000000 (Nat.le_refl _)
  clear hA0 hval0
  refine (jvmcorelaw3_MapWrites.calls 9000000000000 _ _ l0 _ _ l1 _ _ l2 true W hr0 hc0 hr1 hc1 hr2 hc2 hk2).mono fun e W' ⟨he, bel⟩ => ?_
  subst he
  exact ⟨_, rfl, _, _, _, [], _, [], hW', trodAll_mk1 (shut_bool Try.underlying4 _), (trodAll_cons_mk (Below.trod laidOut (by kernel_rfl) (of_decide_eq_true (by kernel_rfl)) k0 bel lt0) (trodAll_cons_mk (Below.trod laidOut (by kernel_rfl) (of_decide_eq_true (by kernel_rfl)) k1 bel lt1) (trodAll_cons_mk (Below.trod laidOut (by kernel_rfl) (of_decide_eq_true (by kernel_rfl)) k2 bel lt2) trodAll_mk0))), rfl, bel.frame _, fun h => by cases h⟩
theorem over : Rows.mapWritesRow.holds Try.pinned (OpenSpec.ofChange Rows.mapWritesSpec) :=
  OpenClaim.holds_of_wide 7 Try.f7 rfl rfl rfl rfl rfl rfl rfl ⟨rfl, rfl, rfl, rfl, rfl⟩ rfl rfl rfl rfl rfl (by kernel_rfl) Try.func7 (by kernel_rfl)
    (of_decide_eq_true (by kernel_rfl)) (by unfold Func.isWrapper; first | (rw [if_pos (by decide +kernel)]; kernel_rfl) | (rw [if_neg (by decide +kernel)]; exact ⟨rfl, rfl⟩))
    (fun os started H enc _ => lifted os started H enc)
end Go.Proofs.Ytfnjbmpolggdeaa.mapWrites
namespace Go.Proofs.Ytfnjbmpolggdeaa
theorem mapWrites_holds : Rows.MapWritesSaid := mapWrites.over
#print axioms mapWrites_holds
end Go.Proofs.Ytfnjbmpolggdeaa
