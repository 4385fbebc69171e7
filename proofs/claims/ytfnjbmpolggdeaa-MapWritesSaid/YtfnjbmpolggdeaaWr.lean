/-
  A pointer to a struct that holds a row of bytes, which is written: what stays, and what an append of a string does.
-/
import Derived.Test.YtfnjbmpolggdeaaBig
import Derived.Test.YtfnjbmpolggdeaaWKept
import Derived.Deep.RegionLaw
namespace Go.Proofs.Ytfnjbmpolggdeaa
open Go.RowKit Go.Lib Go.Proofs.YtfnjbmpolggdeaaW.PrintWords
set_option linter.unusedVariables false
set_option linter.unusedSimpArgs false

theorem mrow.step {w w' : World} {base e n} {v : Value} {xs : List Value} (h : mrow w base e v n xs) (hm : ∀ k, v.ownBlock = some k → w'.heap[k]? = w.heap[k]?) : mrow w' base e v n xs := by
  refine ⟨h.1, ?_⟩
  rcases h.2 with h2 | ⟨g, cap, cur, fr, hv, hbg, hg, r⟩
  · exact .inl h2
  · exact .inr ⟨g, cap, cur, fr, hv, hbg, (hm g (by rw [hv]; rfl)).trans hg, r⟩
theorem mrow.typed {w : World} {base e n} {v : Value} {xs : List Value} (h : mrow w base e v n xs) : ∀ k, v.ownBlock = some k → ∃ cur fr, w.heap[k]? = some (.cells cur e fr) := by
  intro k hk
  rcases h.2 with ⟨rfl, _⟩ | ⟨g, cap, cur, fr, rfl, hb, hg, _⟩
  · simp [Value.ownBlock] at hk
  · simp [Value.ownBlock] at hk
    subst hk
    exact ⟨cur, fr, hg⟩
/-- append(v, s...), s a string, as a step of a region that draws its order. -/
theorem str_step {P : Program} {ops : Array Oper} {o : Oper} {a : Act} {Q : Exit → Act → World → Prop} {K : Act → World → Prop} {w : World} (hw : Region.wanted o (yielded ops a.tmps) = true) (s x : Operand) (t u : TypeId)
    (ho : o.op = .call { callee := .builtin .append, args := #[s, x], argTypes := #[t, u] })
    (e : TypeId) (ht : P.underlying t = some (.slice e)) (hu : P.underlying u = some .string) (hI : (P.info? e).map (fun i => (i.zero, i.size, i.bytes)) = some (some (.int .u8 0), 1, 1))
    (base : Nat) {v : Value} {n : Nat} {xs : List Value} (hown : mrow w base e v n xs) (hs : a.eval s = v)
    (str : ByteArray) (hx : a.eval x = .string str) (hn : n + str.size ≤ 140737488355328) (hbase : base ≤ w.heap.size)
    (h : ∀ v' w', mrow w' base e v' (n + str.size) (xs ++ u8s (bs str)) → w.grownBy w' v.ownBlock → (v'.ownBlock = v.ownBlock ∨ v'.ownBlock = some w.heap.size) → K (a.put o.dst v') w') :
    if Region.wanted o (yielded ops a.tmps) = true then Oper.wp P o a w K Q else K (a.put o.dst undef) w := by
  obtain ⟨i, hi, hz, hsize, hby⟩ := info_parts hI
  obtain ⟨v', w', hr, h2, hg, h4⟩ := run_append_mrow_str (P := P) base t u o.type e i ht hu hi hz hsize hby v n xs hown str (by unfold maxLen; omega) hn hbase
  rw [strCells_bs] at h2
  rw [if_pos hw]
  unfold Oper.wp execOp
  simp only [ho, resolve, invoke, builtin, Sem.run_bind, Sem.run_pure, Result.andThen_ok, List.map_toArray, List.map_cons, List.map_nil, hs, hx, hr]
  exact h v' w' h2 hg h4

/-- block g holds a struct of type T, one field of which (the first) is a row of bytes of the call's own. -/
def BW (base : Nat) (W : World) (g : Nat) (T : TypeId) (cells : Value → Array Value) (v : Value) (l : List Nat) : Prop :=
  W.heap[g]? = some (.cells (cells v) T (0, 0)) ∧ base ≤ g ∧ mrow W base 5 v l.length (u8s l)
/-- what has been written lies in block g, in the row's block, or is new. -/
def BS (w : World) (g : Nat) (v : Value) (w' : World) (v' : Value) : Prop :=
  Kept w w' (fun k => k = g ∨ v.ownBlock = some k) ∧ (v'.ownBlock = v.ownBlock ∨ ∃ b, v'.ownBlock = some b ∧ w.heap.size ≤ b)
theorem BS.refl (w : World) (g : Nat) (v : Value) : BS w g v w v := ⟨Kept.refl _ _, .inl rfl⟩
theorem BS.trans {w w1 w2 : World} {g : Nat} {v v1 v2 : Value} (h : BS w g v w1 v1) (k : BS w1 g v1 w2 v2) : BS w g v w2 v2 := by
  refine ⟨h.1.then_ k.1 (fun q hq => ?_), ?_⟩
  · rcases hq with rfl | hq
    · exact .inl (.inl rfl)
    · rcases h.2 with h2 | ⟨b, hb, hbs⟩
      · exact .inl (.inr (h2 ▸ hq))
      · rw [hb] at hq; injection hq with hq; exact .inr (by omega)
  · rcases k.2 with k2 | ⟨b, hb, hbs⟩
    · rcases h.2 with h2 | h2
      · exact .inl (k2.trans h2)
      · rw [k2]; exact .inr h2
    · exact .inr ⟨b, hb, Nat.le_trans h.1.1 hbs⟩
theorem BS.below {w w1 : World} {g : Nat} {v : Value} (hb : Below w.heap.size w w1) : BS w g v w1 v := ⟨Kept.of_below hb _, .inl rfl⟩
/-- a block that is neither stays. -/
theorem BS.blk {w w' : World} {g k : Nat} {v v' : Value} {o : Obj} (h : BS w g v w' v') (hk : w.heap[k]? = some o) (h1 : k ≠ g) (h2 : v.ownBlock ≠ some k) : w'.heap[k]? = some o :=
  blk_kept hk h.1 (fun hh => hh.elim h1 h2)
theorem BS.cell {w w' : World} {g : Nat} {v v' u : Value} {a : Addr} (h : BS w g v w' v') (hc : w.cell? a = some u) (h1 : a.block ≠ g) (h2 : v.ownBlock ≠ some a.block) : w'.cell? a = some u :=
  cell_kept hc h.1 (fun hh => hh.elim h1 h2)
section
variable {base : Nat} {W W1 : World} {g : Nat} {T : TypeId} {cells : Value → Array Value} {v : Value} {l : List Nat}
theorem BW.ne (h : BW base W g T cells v l) (hT : T ≠ 5) : v.ownBlock ≠ some g := fun he => by
  obtain ⟨cur, fr, hc⟩ := h.2.2.typed g he
  rw [h.1] at hc
  injection hc with hc
  injection hc with _ ht
  exact hT ht
theorem BW.below (h : BW base W g T cells v l) (hb : Below W.heap.size W W1) : BW base W1 g T cells v l :=
  ⟨(hb.block g (blk_lt h.1)).trans h.1, h.2.1, h.2.2.below hb⟩
theorem BW.lt (h : BW base W g T cells v l) : g < W.heap.size := blk_lt h.1
theorem BW.ge (h : BW base W g T cells v l) : ∀ k, v.ownBlock = some k → base ≤ k := fun k hk => (h.2.2.ge k hk).1
/-- a block elder than the call's own is neither g nor the row's. -/
theorem BW.old (h : BW base W g T cells v l) {k : Nat} (hk : k < base) : k ≠ g ∧ v.ownBlock ≠ some k :=
  ⟨fun e => by have := h.2.1; omega, fun e => by have := h.ge k e; omega⟩
/-- the row has been appended to (it is v1 in W1 now), and is stored back. -/
theorem BW.put (h : BW base W g T cells v l) (hT : T ≠ 5) {v1 : Value} {l1 : List Nat} (hg : W.grownBy W1 v.ownBlock) (hm : mrow W1 base 5 v1 l1.length (u8s l1)) (hat : v1.ownBlock = v.ownBlock ∨ ∃ b, v1.ownBlock = some b ∧ W.heap.size ≤ b) (hc : ∀ u, (cells u).size = (cells v).size ∧ ((cells v).setIfInBounds 0 u) = cells u) :
    BW base (W1.setCell ⟨g, 0, none⟩ v1) g T cells v1 l1 ∧ BS W g v (W1.setCell ⟨g, 0, none⟩ v1) v1 := by
  have hgg : W1.heap[g]? = some (.cells (cells v) T (0, 0)) := (hg.block g (blk_lt h.1) (fun e => h.ne hT e.symm)).trans h.1
  have hne : v1.ownBlock ≠ some g := by
    rcases hat with e | ⟨b, e, hb⟩
    · rw [e]; exact h.ne hT
    · rw [e]; intro he; injection he with he; have := blk_lt h.1; omega
  refine ⟨⟨?_, h.2.1, hm.step (fun k hk => Below.heap_setCell W1 _ v1 k (fun e => hne (by rw [hk]; exact congrArg some e)))⟩, ?_, hat⟩
  · have := blk_set hgg 0 v1
    rw [this, (hc v1).2]
  · exact ((Kept.refl W _).of_grown hg (fun k hk => .inl (.inr hk))).setCell (.inl (.inl rfl)) v1
end
end Go.Proofs.Ytfnjbmpolggdeaa
