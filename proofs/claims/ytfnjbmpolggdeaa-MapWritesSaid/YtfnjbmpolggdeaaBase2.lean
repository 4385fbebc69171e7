/-
  More general lemmas: a slice that reads as a list, several elements appended.
-/
import Derived.Test.YtfnjbmpolggdeaaBase
namespace Go.Proofs.Ytfnjbmpolggdeaa
open Go.RowKit
set_option linter.unusedVariables false
set_option linter.unusedSimpArgs false

/-- the slice value v of n elements reads as the cells xs, which lie below block B. -/
def Rd (B : Nat) (w : World) (v : Value) (n : Nat) (xs : List Value) : Prop :=
  ∃ a c, v = .slice a n c ∧ (xs = [] ∨ ∃ b o, a = some ⟨b, o, none⟩ ∧ b < B ∧ ∀ j u, xs[j]? = some u → w.cell? ⟨b, o + j, none⟩ = some u)
theorem Rd.below {B B' : Nat} {w w' : World} {v n xs} (h : Rd B w v n xs) (hb : Below B' w w') (hB : B ≤ B') : Rd B w' v n xs := by
  obtain ⟨a, c, hv, h⟩ := h
  refine ⟨a, c, hv, ?_⟩
  rcases h with h | ⟨b, o, ha, hlt, hc⟩
  · exact .inl h
  · exact .inr ⟨b, o, ha, hlt, fun j u hj => by rw [hb.cell (by simpa using by omega)]; exact hc j u hj⟩
theorem Rd.mono {B B' : Nat} {w : World} {v n xs} (h : Rd B w v n xs) (hB : B ≤ B') : Rd B' w v n xs := by
  obtain ⟨a, c, hv, h⟩ := h
  refine ⟨a, c, hv, ?_⟩
  rcases h with h | ⟨b, o, ha, hlt, hc⟩
  · exact .inl h
  · exact .inr ⟨b, o, ha, by omega, hc⟩
theorem Rd.own {w : World} {base e size n} {v : Value} {xs : List Value} (h : w.ownsRow base e size v n xs) : Rd w.heap.size w v n xs := by
  rcases h.2 with ⟨rfl, rfl⟩ | ⟨g, cap, cur, rfl, hb, hg, _⟩
  · exact ⟨none, 0, rfl, .inl (List.eq_nil_of_length_eq_zero (by have := h.1; omega))⟩
  · refine ⟨_, cap, rfl, .inr ⟨g, 0, rfl, (Array.getElem?_eq_some_iff.1 hg).1, fun j u hj => ?_⟩⟩
    have := h.cells (g := g) rfl j u hj
    have ha : (⟨g, 0, none⟩ : Addr).add j = ⟨g, 0 + j, none⟩ := by unfold Addr.add; split <;> simp_all
    rwa [ha] at this
theorem Rd.nil {B : Nat} {w : World} : Rd B w (.slice none 0 0) 0 [] := ⟨none, 0, rfl, .inl rfl⟩

theorem grown_below {w w' : World} (hb : Below w.heap.size w w') (row : Option Nat) : w.grownBy w' row := ⟨hb.os, hb.tape, hb.output, hb.size, fun k hk _ => hb.block k hk⟩
theorem own_below {w w' : World} {base e size n} {v : Value} {xs : List Value} (h : w.ownsRow base e size v n xs) (hb : Below w.heap.size w w') : w'.ownsRow base e size v n xs :=
  h.kept (grown_below hb none) (by cases v.ownBlock <;> simp)

theorem and63_u16 (u : Nat) (h : u < 65536) : bits BinOp.and IntKind.u16 (u : Int) 63 = (u : Int) % 64 := by
  have e : bits BinOp.and IntKind.u16 (u : Int) ((63 : Nat) : Int) = ((u &&& 63 : Nat) : Int) := u16_and_nat u 63 h (by decide)
  rw [nat_mask6] at e
  exact e.trans (by simp)
theorem and63_u16' (u d : Nat) (h : u < 65536) : bits BinOp.and IntKind.u16 ((u : Int) / (d : Int)) 63 = (u : Int) / d % 64 := by
  have h2 : u / d < 65536 := Nat.lt_of_le_of_lt (Nat.div_le_self _ _) h
  have := and63_u16 (u / d) h2
  simpa using this

section
variable {P : Program} {w w0 : World}
theorem app_many {w1 : World} {ops : Array Oper} {rest : List Oper} {o : Oper} {a : Act} {Q : Exit → Act → World → Prop} (hgd : o.guard = none) (s x : Operand) (t : TypeId)
    (ho : o.op = .call { callee := .builtin .append, args := #[s, x], argTypes := #[t, t] })
    (e : TypeId) (z : Value) (size bytes : Nat) (ht : P.underlying t = some (.slice e)) (hI : (P.info? e).map (fun i => (i.zero, i.size, i.bytes)) = some (some z, size, bytes)) (hzs : z.cells.size = size) (hsz : 0 < size)
    (B base : Nat) (hbel : Below B w0 w) {v : Value} {n : Nat} {xs : List Value} (hown : w.ownsRow base e size v n xs) (hs : a.eval s = v)
    (m : Nat) (cs : List Value) (hcs : cs.length = m * size) (h1 : ∀ u ∈ cs, u.oneCell' = true) (cap : Nat) (hx : a.eval x = .slice (some ⟨w.heap.size, 0, none⟩) m cap)
    (hn : (n + m) * bytes ≤ 140737488355328) (hn2 : n + m ≤ 9223372036854775807) (hbase : base ≤ w.heap.size) (hB : B ≤ base)
    (h : ∀ v' w', w'.ownsRow base e size v' (n + m) (xs ++ cs) → Below B w0 w' → w.grownBy w' v.ownBlock → wpList P ops Q rest (a.put o.dst v') w') (hw1 : w1 = w.alloc (.cells cs.toArray e)) : wpList P ops Q (o :: rest) a w1 := by
  subst hw1
  obtain ⟨i, hi, hz, hsize, hby⟩ := info_parts hI
  refine wpList_append_own _ hgd s x t ho base e i z size bytes ht hi hz hsize hby hzs hsz v n xs hs (hown.alloc _) ⟨w.heap.size, 0, none⟩ m cap cs hx hcs cells_new h1 (by unfold maxLen; omega) hn (by simp; omega) ?_
  intro v' w' h2 h3 _
  have hg : w.grownBy w' v.ownBlock := by
    have ha := World.grownBy_alloc w (.cells cs.toArray e) v.ownBlock
    refine ⟨h3.os.trans ha.os, h3.tape.trans ha.tape, h3.output.trans ha.output, Nat.le_trans ha.size h3.size, fun k hk hne => ?_⟩
    rw [h3.block k (by simp; omega) hne, ha.block k hk hne]
  have hsz' := hbel.size
  refine h v' w' h2 ?_ hg
  refine ⟨hg.os.trans hbel.os, hg.tape.trans hbel.tape, hg.output.trans hbel.output, Nat.le_trans hbel.size hg.size, fun k hk => ?_⟩
  rw [hg.block k (by omega) (fun hk2 => by have := own_ge hown k hk2.symm; omega), hbel.block k hk]
end
end Go.Proofs.Ytfnjbmpolggdeaa
