/-
  The print's words for a pool's constants, and mine.
-/
import Derived.Test.YtfnjbmpolggdeaaPRx0
import Derived.Test.YtfnjbmpolggdeaaPoolR
namespace Go.Proofs.Ytfnjbmpolggdeaa.PR
open Go.RowKit Go.Proofs.YtfnjbmpolggdeaaW.PrintWords
set_option linter.unusedVariables false
set_option linter.unusedSimpArgs false
abbrev toS (c : K) : S37 := ⟨(c.tag : Nat), c.text, (c.bits : Nat), (c.a : Nat), (c.b : Nat)⟩
def ofS (c : S37) : K := ⟨c.f0.toNat, c.f1, c.f2.toNat, c.f3.toNat, c.f4.toNat⟩
theorem ofS_toS (c : K) : ofS (toS c) = c := by cases c; simp [ofS, toS]
/-- a constant within its kinds. -/
def okC (c : S37) : Prop := (0 ≤ c.f0 ∧ c.f0 < 256) ∧ c.f1.size ≤ 1099511627776 ∧ (0 ≤ c.f2 ∧ c.f2 < 18446744073709551616) ∧ (0 ≤ c.f3 ∧ c.f3 < 65536) ∧ (0 ≤ c.f4 ∧ c.f4 < 65536)
instance (c : S37) : Decidable (okC c) := by unfold okC; infer_instance
theorem toS_ofS {c : S37} (h : okC c) : toS (ofS c) = c := by
  obtain ⟨⟨a0, _⟩, _, ⟨a2, _⟩, ⟨a3, _⟩, a4, _⟩ := h
  obtain ⟨f0, f1, f2, f3, f4⟩ := c
  simp only [] at a0 a2 a3 a4
  simp only [toS, ofS, S37.mk.injEq, true_and]
  omega
theorem okC_ok {c : S37} (h : okC c) : (ofS c).ok := by
  obtain ⟨⟨a0, b0⟩, b1, ⟨a2, b2⟩, ⟨a3, b3⟩, a4, b4⟩ := h
  exact ⟨by show c.f0.toNat < 256; omega, b1, by show c.f2.toNat < _; omega, by show c.f3.toNat < _; omega, by show c.f4.toNat < _; omega⟩
theorem okC_toS {c : K} (h : c.ok) : okC (toS c) := by
  obtain ⟨a, b, d, e, f⟩ := h
  exact ⟨⟨by show (0 : Int) ≤ (c.tag : Nat); omega, by show ((c.tag : Nat) : Int) < 256; omega⟩, b, ⟨by show (0 : Int) ≤ (c.bits : Nat); omega, by show ((c.bits : Nat) : Int) < _; omega⟩, ⟨by show (0 : Int) ≤ (c.a : Nat); omega, by show ((c.a : Nat) : Int) < _; omega⟩, by show (0 : Int) ≤ (c.b : Nat); omega, by show ((c.b : Nat) : Int) < _; omega⟩
theorem kcs_seg (l : List K) : ∀ (j : Nat) (c : K), l[j]? = some c → ((kcs l).drop (j * 5)).take 5 = kc c := by
  induction l with
  | nil => intro j c h; simp at h
  | cons d l ih =>
    intro j c h
    have hk : kcs (d :: l) = kc d ++ kcs l := by simp [kcs]
    have h5 : (kc d).length = 5 := rfl
    cases j with
    | zero =>
      have : d = c := by simpa using h
      subst this
      rw [hk, Nat.zero_mul, List.drop_zero, ← h5, List.take_left]
    | succ j =>
      rw [hk, show (j + 1) * 5 = (kc d).length + j * 5 by rw [h5]; omega, List.drop_append, List.drop_of_length_le (Nat.le_add_right _ _), List.nil_append, Nat.add_sub_cancel_left]
      exact ih j c (by simpa using h)
theorem reps_kcs {w : World} {base : Nat} {ok : Nat → Prop} (l : List K) : Reps (k37.M w base ok) 5 (l.map toS) (kcs l) := by
  refine ⟨by rw [kcs_length, List.length_map], fun j p hp => ?_⟩
  rw [List.getElem?_map] at hp
  cases hl : l[j]? with
  | none => rw [hl] at hp; cases hp
  | some c =>
    rw [hl] at hp
    have : toS c = p := by simpa using hp
    subst this
    rw [kcs_seg l j c hl]
    exact k37_mkM w base ok (toS c)
theorem R_kcs {w : World} {base : Nat} {v : Value} {l : List K} (h : w.ownsRow base 37 5 v l.length (kcs l)) : Kd.R k37 37 w base (fun _ => True) v (l.map toS) :=
  ⟨fun _ _ => trivial, kcs l, by rw [List.length_map]; exact h, reps_kcs l⟩
/-- what is read. -/
theorem rd_C {w : World} {A : Option Addr} {c : Nat} {l : List K} (h : Kd.C k37 w A l.length (l.map toS)) : Rd w.heap.size w (.slice A l.length c) l.length (kcs l) := by
  cases hl : l with
  | nil => exact ⟨A, c, rfl, .inl rfl⟩
  | cons d l' =>
    rw [← hl]
    obtain ⟨_, _, h2⟩ := h
    obtain ⟨ad, rfl, hc⟩ := h2 (by rw [hl]; exact Nat.succ_pos _)
    obtain ⟨b, o, cl⟩ := ad
    have key0 : ∀ j u, (kcs l)[j]? = some u → w.cell? ((⟨b, o, cl⟩ : Addr).add j) = some u := by
      intro j u hj
      have hjl : j < l.length * 5 := by rw [← kcs_length]; exact (List.getElem?_eq_some_iff.1 hj).1
      have hk : j / 5 < l.length := by omega
      obtain ⟨cs, hlen, hM, hcs⟩ := hc (j / 5) (toS l[j / 5]) (by rw [List.getElem?_map, List.getElem?_eq_getElem hk]; rfl)
      obtain rfl := k37_open hM
      have hu : (kc l[j / 5])[j % 5]? = some u := by
        rw [← kcs_get hk _ (by omega), show j / 5 * 5 + j % 5 = j by omega]; exact hj
      have := hcs (j % 5) u hu
      rwa [show j / 5 * k37.sz + j % 5 = j by have e5 : k37.sz = 5 := rfl; rw [e5]; omega] at this
    have h0 := key0 0 (.int .u8 (d.tag : Nat)) (by rw [hl]; simp [kcs, kc])
    cases cl with
    | some q =>
      simp [World.cell?, Addr.add] at h0
      revert h0
      split <;> simp
    | none =>
      have key : ∀ j u, (kcs l)[j]? = some u → w.cell? ⟨b, o + j, none⟩ = some u := by
        intro j u hj
        have := key0 j u hj
        rwa [show (⟨b, o, none⟩ : Addr).add j = ⟨b, o + j, none⟩ by unfold Addr.add; split <;> simp_all] at this
      refine ⟨_, c, rfl, .inr ⟨b, o, rfl, ?_, key⟩⟩
      exact World.block_lt_of_cell? w _ h0
end Go.Proofs.Ytfnjbmpolggdeaa.PR
