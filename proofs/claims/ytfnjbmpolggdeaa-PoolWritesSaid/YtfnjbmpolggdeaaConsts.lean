/-
  A slice of constants that came in: opened at every index.
-/
import Derived.Test.YtfnjbmpolggdeaaRows
import Derived.Test.YtfnjbmpolggdeaaPoolW
import Derived.ProofKit
import Derived.OpenShut
import Derived.Deep.Slices
namespace Go.Proofs.Ytfnjbmpolggdeaa
open Go.RowKit Go.Deep
set_option linter.unusedVariables false
set_option linter.unusedSimpArgs false

/-- a constant's datum. -/
def kd {H : Type} (c : K) : DataW H := .agg [.lit (.int .u8 (c.tag : Nat)), .lit (.string c.text.data.toList), .lit (.int .u64 (c.bits : Nat)), .lit (.int .u16 (c.a : Nat)), .lit (.int .u16 (c.b : Nat))]
def K.wide (c : K) : Prop := c.tag < 256 ∧ c.text.size ≤ maxLen ∧ c.bits < 18446744073709551616 ∧ c.a < 65536 ∧ c.b < 65536

theorem u_nat {k : IntKind} {n : Int} (B : Nat) (h0 : k.min = 0) (h1 : k.max < B) (h : (Lit.int k n).wf = true) : ∃ m : Nat, n = m ∧ m < B := by
  simp [Lit.wf, h0] at h
  exact ⟨n.toNat, by omega, by omega⟩

instance : Inhabited K := ⟨⟨0, ⟨#[]⟩, 0, 0, 0⟩⟩
set_option maxRecDepth 100000 in
theorem open_const {H : Type} {enc : TypeId × Value → H} {W : World} {base : Nat} {spare : Nat → Bool} {held : Bool} {fuel : Nat} {cs : List Value} {x : DataW H × List MemPlace}
    (h : DataW.trod enc Try.prog W base spare held fuel 37 cs = some x) : ∃ c : K, c.wide ∧ cs = kc c ∧ x.1 = kd c := by
  obtain ⟨xs, n, _, rfl, hlen, hxs, hf⟩ := DataW.trod_struct Try.underlying37 h
  have hl : cs.length = 5 := by rw [hlen]; kernel_rfl
  match xs, hxs, cs, hl with
  | [y0, y1, y2, y3, y4], _, [v0, v1, v2, v3, v4], _ =>
    have g0 := hf 0 _ rfl
    have g1 := hf 1 _ rfl
    have g2 := hf 2 _ rfl
    have g3 := hf 3 _ rfl
    have g4 := hf 4 _ rfl
    have c5 : Try.prog.cellsOf 5 = 1 := by kernel_rfl
    have c9 : Try.prog.cellsOf 9 = 1 := by kernel_rfl
    have c35 : Try.prog.cellsOf 35 = 1 := by kernel_rfl
    have c29 : Try.prog.cellsOf 29 = 1 := by kernel_rfl
    simp [c5, c9, c35, c29] at g0 g1 g2 g3 g4
    obtain ⟨n0, h0, rfl, w0⟩ := DataW.trod_int Try.underlying5 g0
    obtain ⟨s, h1, rfl, w1⟩ := DataW.trod_string Try.underlying9 g1
    obtain ⟨n2, h2, rfl, w2⟩ := DataW.trod_int Try.underlying35 g2
    obtain ⟨n3, h3, rfl, w3⟩ := DataW.trod_int Try.underlying29 g3
    obtain ⟨n4, h4, rfl, w4⟩ := DataW.trod_int Try.underlying29 g4
    simp at h0 h1 h2 h3 h4
    subst h0 h1 h2 h3 h4
    obtain ⟨t, rfl, b0⟩ := u_nat 256 rfl (by decide) w0
    obtain ⟨bi, rfl, b2⟩ := u_nat 18446744073709551616 rfl (by decide) w2
    obtain ⟨a, rfl, b3⟩ := u_nat 65536 rfl (by decide) w3
    obtain ⟨b, rfl, b4⟩ := u_nat 65536 rfl (by decide) w4
    exact ⟨⟨t, s, bi, a, b⟩, ⟨b0, w1, b2, b3, b4⟩, rfl, rfl⟩

theorem kcs_cell {l : List K} {j : Nat} {u : Value} (h : (kcs l)[j]? = some u) : ∃ k, ∃ hk : k < l.length, ∃ i, i < 5 ∧ j = k * 5 + i ∧ (kc l[k])[i]? = some u := by
  have hlen : ∀ l : List K, (kcs l).length = l.length * 5 := fun l => by
    induction l with
    | nil => rfl
    | cons c l ih => simp only [kcs, List.flatMap_cons, List.length_append, List.length_cons] at *; rw [ih]; simp [kc]; omega
  have hj : j < (kcs l).length := (List.getElem?_eq_some_iff.1 h).1
  rw [hlen] at hj
  have hk : j / 5 < l.length := by omega
  refine ⟨j / 5, hk, j % 5, by omega, by omega, ?_⟩
  rw [← kcs_get hk _ (by omega), show j / 5 * 5 + j % 5 = j by omega]; exact h

theorem open_consts {H : Type} {enc : TypeId × Value → H} {W : World} {base : Nat} {spare : Nat → Bool} {held : Bool} {fuel : Nat} {cs : List Value} {x : DataW H × List MemPlace}
    (h : DataW.trod enc Try.prog W base spare held fuel 34 cs = some x) :
    (cs = [.slice none 0 0]) ∨ ∃ (a : Addr) (len cap : Nat) (l : List K) (sp : List (DataW H)), cs = [.slice (some a) len cap] ∧ len ≤ cap ∧ cap ≤ maxLen ∧ l.length = len ∧ (∀ c ∈ l, c.wide) ∧ x.1 = .slice (l.map kd) sp ∧
      Rd W.heap.size W (.slice (some a) len cap) len (kcs l) := by
  rcases open_slice Try.underlying34 h with ⟨h0, _⟩ | ⟨a, len, cap, m, n, D, Pl, rfl, hb, hl, hm, hmm, rfl, hx⟩
  · exact .inl h0
  right
  have ce : Try.prog.cellsOf 37 = 5 := by kernel_rfl
  have hlm : len ≤ m := by rw [hmm]; split <;> omega
  have each : ∀ i, i < len → ∃ c : K, c.wide ∧ (∀ j, j < 5 → W.cell? (a.add (i * 5 + j)) = (kc c)[j]?) ∧ D i = kd c := by
    intro i hi
    obtain ⟨cs', h1, h2⟩ := hx i (by omega)
    rw [ce] at h1
    obtain ⟨_, hlen, hcell⟩ := World.cells?_some h1
    obtain ⟨c, hc, rfl, hd⟩ := open_const h2
    refine ⟨c, hc, fun j hj => ?_, hd⟩
    have := hcell j hj
    rw [add_add] at this
    exact this
  obtain ⟨q, hq⟩ := choose_lt each
  refine ⟨a, len, cap, (List.range len).map q, (List.range (m - len)).map fun j => D (len + j), rfl, hl, hm, by simp, ?_, ?_, ?_⟩
  · intro c hc
    obtain ⟨i, hi, rfl⟩ := List.mem_map.1 hc
    exact (hq i (List.mem_range.1 hi)).1
  · simp only [List.map_map]
    rw [List.map_congr_left (fun i hi => (hq i (List.mem_range.1 hi)).2.2)]; rfl
  · by_cases h0 : len = 0
    · subst h0; exact ⟨_, _, rfl, .inl rfl⟩
    · have c0 := (hq 0 (by omega)).2.1 0 (by omega)
      obtain ⟨b, off, cell⟩ := a
      cases cell with
      | some _ =>
        simp [World.cell?, kc, Addr.add] at c0
        revert c0
        split <;> simp
      | none =>
        refine ⟨_, _, rfl, .inr ⟨b, off, rfl, ?_, ?_⟩⟩
        · have := World.block_lt_of_cell? W _ c0
          rwa [show (⟨b, off, none⟩ : Addr).add (0 * 5 + 0) = ⟨b, off, none⟩ from rfl] at this
        · intro j u hj
          obtain ⟨k, hk, i, hi, rfl, hu⟩ := kcs_cell hj
          have hk' : k < len := by simpa using hk
          have := (hq k hk').2.1 i hi
          rw [show (⟨b, off, none⟩ : Addr).add (k * 5 + i) = ⟨b, off + (k * 5 + i), none⟩ by unfold Addr.add; split <;> simp_all] at this
          rw [this, ← hu, List.getElem_map, List.getElem_range]
end Go.Proofs.Ytfnjbmpolggdeaa
