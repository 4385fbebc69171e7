/-
  What came in by a row's reading, as the print's kinds have it: of any nesting of whole numbers, bools, texts, slices and structs.
-/
import Derived.Test.YtfnjbmpolggdeaaRows
import Derived.Test.YtfnjbmpolggdeaaWWords
import Derived.ProofKit
import Derived.OpenShut
import Derived.SizedLaws
import Derived.Deep.Slices
namespace Go.Proofs.Ytfnjbmpolggdeaa
open Go.RowKit Go.Deep Go.Proofs.YtfnjbmpolggdeaaW.PrintWords
set_option linter.unusedVariables false
set_option linter.unusedSimpArgs false

/-- a bound of a datum that its parts inherit: no list and no text in it takes more bytes than R. -/
structure Bounded (P : Program) (H : Type) (R : Nat) (Bd : TypeId → DataW H → Prop) : Prop where
  slice : ∀ {t e el sp}, P.underlying t = some (.slice e) → 1 ≤ P.bytesOf e → Bd t (.slice el sp) → el.length * P.bytesOf e ≤ R ∧ ∀ d ∈ el, Bd e d
  agg : ∀ {t fs ps}, P.underlying t = some (.struct fs) → Bd t (.agg ps) → ∀ (i : Nat) (f : Field) (d : DataW H), fs[i]? = some f → ps[i]? = some d → Bd f.type d
  text : ∀ {t b}, Bd t (.lit (.string b)) → b.length ≤ R
theorem mem_weightsAll {H : Type} {P : Program} {e : TypeId} {l : List (DataW H)} {d : DataW H} {m : Nat} (hd : d ∈ l) (hm : m ∈ d.weights P e) : m ∈ DataW.weightsAll P e l := by
  induction l with
  | nil => cases hd
  | cons a l ih =>
    simp only [DataW.weightsAll, List.mem_append]
    rcases List.mem_cons.1 hd with rfl | hd
    · exact .inl hm
    · exact .inr (ih hd)
theorem mem_weightsEach {H : Type} {P : Program} : ∀ {ts : List TypeId} {l : List (DataW H)} {i : Nat} {t : TypeId} {d : DataW H} {m : Nat}, ts[i]? = some t → l[i]? = some d → m ∈ d.weights P t → m ∈ DataW.weightsEach P ts l
  | [], _, _, _, _, _, h, _, _ => by simp at h
  | _ :: _, [], _, _, _, _, _, h, _ => by simp at h
  | t0 :: ts, d0 :: l, 0, t, d, m, h1, h2, hm => by
    simp only [List.getElem?_cons_zero, Option.some.injEq] at h1 h2
    subst h1 h2
    simp only [DataW.weightsEach, List.mem_append]
    exact .inl hm
  | t0 :: ts, d0 :: l, i + 1, t, d, m, h1, h2, hm => by
    simp only [List.getElem?_cons_succ] at h1 h2
    simp only [DataW.weightsEach, List.mem_append]
    exact .inr (mem_weightsEach h1 h2 hm)
theorem bounded_weights (P : Program) (H : Type) (R : Nat) : Bounded P H R (fun t d => ∀ m ∈ d.weights P t, m ≤ R) where
  slice := by
    intro t e el sp ht hb h
    simp only [DataW.weights, ht] at h
    refine ⟨?_, fun d hd m hm => h m (List.mem_cons_of_mem _ (List.mem_append_left _ (mem_weightsAll hd hm)))⟩
    have h1 := h _ List.mem_cons_self
    have h2 : el.length * P.bytesOf e ≤ (el.length + sp.length) * P.bytesOf e := Nat.mul_le_mul_right _ (by omega)
    omega
  agg := by
    intro t fs ps ht h i f d hf hd m hm
    simp only [DataW.weights, ht] at h
    refine h m (mem_weightsEach (i := i) (t := f.type) (d := d) ?_ hd hm)
    rw [List.getElem?_map, Array.getElem?_toList, hf]; rfl
  text := by
    intro t b h
    exact h _ (by simp [DataW.weights])
def Opens {α : Type} (P : Program) (R : Nat) (d : Kd α) (t : TypeId) (ok : α → Prop) : Prop :=
  ∀ (H : Type) (Bd : TypeId → DataW H → Prop) (hB : Bounded P H R Bd) (enc : TypeId × Value → H) (W : World) (base : Nat) (spare : Nat → Bool) (held : Bool) (fuel : Nat) (cs : List Value) (x : DataW H × List MemPlace),
    DataW.trod enc P W base spare held fuel t cs = some x → Bd t x.1 → ∃ a, ok a ∧ d.K W a cs
section
variable {P : Program} {R : Nat}
theorem Opens.imp {α : Type} {d : Kd α} {t : TypeId} {ok ok' : α → Prop} (h : Opens P R d t ok) (hi : ∀ a, ok a → ok' a) : Opens P R d t ok' := by
  intro H Bd hB enc W base spare held fuel cs x hx hb
  obtain ⟨a, ha, hK⟩ := h H Bd hB enc W base spare held fuel cs x hx hb
  exact ⟨a, hi a ha, hK⟩
theorem opens_int {t : TypeId} {k : IntKind} (ht : P.underlying t = some (.int k)) : Opens P R (Kd.int k) t (fun n => (Lit.int k n).wf = true) := by
  intro H Bd hB enc W base spare held fuel cs x h _
  obtain ⟨n, rfl, rfl, w⟩ := DataW.trod_int ht h
  exact ⟨n, w, rfl⟩
theorem opens_bool {t : TypeId} (ht : P.underlying t = some .bool) : Opens P R Kd.bool t (fun _ => True) := by
  intro H Bd hB enc W base spare held fuel cs x h _
  obtain ⟨b, rfl, rfl⟩ := DataW.trod_bool ht h
  exact ⟨b, trivial, rfl⟩
theorem opens_string {t : TypeId} (ht : P.underlying t = some .string) : Opens P R Kd.string t (fun s => s.size ≤ R) := by
  intro H Bd hB enc W base spare held fuel cs x h hb
  obtain ⟨s, rfl, rfl, w⟩ := DataW.trod_string ht h
  have := hB.text hb
  rw [Array.length_toList] at this
  exact ⟨s, this, rfl⟩
theorem opens_slice {α : Type} [Inhabited α] {d : Kd α} {t e : TypeId} {ok : α → Prop} (ht : P.underlying t = some (.slice e)) (hc : P.cellsOf e = d.sz) (hb1 : 1 ≤ P.bytesOf e) (he : Opens P R d e ok) :
    Opens P R (Kd.slice e d) t (fun l => l.length * P.bytesOf e ≤ R ∧ ∀ a ∈ l, ok a) := by
  intro H Bd hB enc W base spare held fuel cs x h hw
  rcases open_slice ht h with ⟨rfl, rfl⟩ | ⟨a, len, cap, m, n, D, Pl, rfl, _, hl, hm, hmm, rfl, hx⟩
  · exact ⟨[], ⟨by simp, by simp⟩, none, 0, rfl, Nat.le_refl _, rfl, by simp, fun h => absurd h (by simp)⟩
  have hlm : len ≤ m := by rw [hmm]; split <;> omega
  obtain ⟨hlen, hin⟩ := hB.slice ht hb1 hw
  rw [List.length_map, List.length_range] at hlen
  have each : ∀ i, i < len → ∃ q : α, ok q ∧ ∃ cs' : List Value, cs'.length = d.sz ∧ d.K W q cs' ∧ ∀ j u, cs'[j]? = some u → W.cell? (a.add (i * d.sz + j)) = some u := by
    intro i hi
    obtain ⟨cs', h1, h2⟩ := hx i (by omega)
    rw [hc] at h1
    obtain ⟨_, hlen', hcell⟩ := World.cells?_some h1
    obtain ⟨q, hq, hK⟩ := he H Bd hB enc W base spare held n cs' _ h2 (hin _ (List.mem_map.2 ⟨i, List.mem_range.2 hi, rfl⟩))
    refine ⟨q, hq, cs', hlen', hK, fun j u hu => ?_⟩
    have hj := (List.getElem?_eq_some_iff.1 hu).1
    have := hcell j (by omega)
    rw [Deep.add_add] at this
    rw [this]; exact hu
  obtain ⟨q, hq⟩ := choose_lt each
  refine ⟨(List.range len).map q, ⟨by simpa using hlen, ?_⟩, some a, cap, by simp, by simpa using hl, by simp, by have : cap ≤ 9223372036854775807 := hm; simp; omega, fun _ => ⟨a, rfl, fun j p hj => ?_⟩⟩
  · intro c hc
    obtain ⟨i, hi, rfl⟩ := List.mem_map.1 hc
    exact (hq i (List.mem_range.1 hi)).1
  · have hjl : j < len := by have := (List.getElem?_eq_some_iff.1 hj).1; simpa using this
    rw [List.getElem?_map, List.getElem?_range hjl] at hj
    obtain rfl := Option.some.inj hj
    exact (hq j hjl).2

/-- cells of some fields (each a type, and where it begins) that read as a kind tells. -/
def OpensF {α : Type} (P : Program) (R : Nat) (d : Kd α) (l : List (TypeId × Nat)) (ok : α → Prop) : Prop :=
  ∀ (H : Type) (Bd : TypeId → DataW H → Prop) (hB : Bounded P H R Bd) (enc : TypeId × Value → H) (W : World) (base : Nat) (spare : Nat → Bool) (held : Bool) (cs : List Value), cs.length = d.sz →
    (∀ (i : Nat) (f : TypeId × Nat), l[i]? = some f → ∃ (n : Nat) (y : DataW H × List MemPlace), DataW.trod enc P W base spare held n f.1 ((cs.drop f.2).take (P.cellsOf f.1)) = some y ∧ Bd f.1 y.1) → ∃ a, ok a ∧ d.K W a cs
theorem opensF_one {α : Type} {d : Kd α} {t : TypeId} {ok : α → Prop} (hc : P.cellsOf t = d.sz) (h : Opens P R d t ok) : OpensF P R d [(t, 0)] ok := by
  intro H Bd hB enc W base spare held cs hl hf
  obtain ⟨n, y, h1, h2⟩ := hf 0 _ rfl
  rw [List.drop_zero, hc, ← hl, List.take_length] at h1
  exact h H Bd hB enc W base spare held n cs y h1 h2
theorem opensF_pair {α β : Type} {a : Kd α} {b : Kd β} {t : TypeId} {l : List (TypeId × Nat)} {ok : α → Prop} {ok' : β → Prop} (hc : P.cellsOf t = a.sz) (h : Opens P R a t ok) (hr : OpensF P R b l ok') :
    OpensF P R (Kd.pair a b) ((t, 0) :: l.map fun f => (f.1, a.sz + f.2)) (fun x => ok x.1 ∧ ok' x.2) := by
  intro H Bd hB enc W base spare held cs hl hf
  have hl' : cs.length = a.sz + b.sz := hl
  obtain ⟨n, y, h1, h2⟩ := hf 0 _ rfl
  rw [List.drop_zero, hc] at h1
  obtain ⟨x, hx, hK⟩ := h H Bd hB enc W base spare held n _ y h1 h2
  obtain ⟨z, hz, hK2⟩ := hr H Bd hB enc W base spare held (cs.drop a.sz) (by rw [List.length_drop]; omega) (fun i f hi => by
    obtain ⟨n, y, h1, h2⟩ := hf (i + 1) (f.1, a.sz + f.2) (by rw [List.getElem?_cons_succ, List.getElem?_map, hi]; rfl)
    refine ⟨n, y, ?_, h2⟩
    rw [List.drop_drop]
    exact h1)
  exact ⟨(x, z), ⟨hx, hz⟩, cs.take a.sz, cs.drop a.sz, (List.take_append_drop _ _).symm, hK, hK2⟩
theorem opensF_iso {α β : Type} {d : Kd α} {f : β → α} (g : α → β) (hg : ∀ x, f (g x) = x) {l : List (TypeId × Nat)} {ok : α → Prop} (h : OpensF P R d l ok) : OpensF P R (Kd.iso d f) l (fun x => ok (f x)) := by
  intro H Bd hB enc W base spare held cs hl hf
  obtain ⟨a, ha, hK⟩ := h H Bd hB enc W base spare held cs hl hf
  exact ⟨g a, by show ok (f (g a)); rw [hg]; exact ha, by show d.K W (f (g a)) cs; rw [hg]; exact hK⟩
theorem opens_struct {α : Type} {d : Kd α} {t : TypeId} {fs : Array Field} {l : List (TypeId × Nat)} {ok : α → Prop} (ht : P.underlying t = some (.struct fs)) (hc : P.cellsOf t = d.sz) (hl : fs.toList.map (fun f => (f.type, f.offset)) = l) (h : OpensF P R d l ok) : Opens P R d t ok := by
  intro H Bd hB enc W base spare held fuel cs x hx hb
  obtain ⟨xs, n, _, rfl, hlen, hxs, hf⟩ := DataW.trod_struct ht hx
  refine h H Bd hB enc W base spare held cs (hlen.trans hc) (fun i f hi => ?_)
  subst hl
  rw [List.getElem?_map, Option.map_eq_some_iff] at hi
  obtain ⟨fd, hfd, rfl⟩ := hi
  rw [Array.getElem?_toList] at hfd
  have h1 := hf i fd hfd
  have hi' : i < xs.length := by rw [hxs]; exact (Array.getElem?_eq_some_iff.1 hfd).1
  rw [List.getElem?_eq_getElem hi'] at h1
  exact ⟨n, xs[i], h1, hB.agg ht hb i fd _ hfd (by rw [List.getElem?_map, List.getElem?_eq_getElem hi']; rfl)⟩
end
end Go.Proofs.Ytfnjbmpolggdeaa
