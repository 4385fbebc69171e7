/-
  PoolWrites without a bound on what comes in: with more than 65535 constants both sides answer an error at once; with no more the sum does not wrap.
-/
import Derived.Test.YtfnjbmpolggdeaaLawPoolW
namespace Go.Proofs.Ytfnjbmpolggdeaa
open Go.RowKit Go.Lib
set_option linter.unusedVariables false
set_option linter.unusedSimpArgs false
def tsum (l : List K) : Nat := (l.map fun c => c.text.size).sum
theorem tsum_step {l : List K} {k : Nat} (h : k < l.length) : tsum (l.take (k + 1)) = tsum (l.take k) + l[k].text.size := by
  unfold tsum; rw [List.take_succ_eq_append_getElem h]; simp only [List.map_append, List.sum_append, List.map_cons, List.map_nil, List.sum_cons, List.sum_nil, Nat.add_zero]
theorem tsum_le {l : List K} {M : Nat} (h : ∀ c ∈ l, c.text.size ≤ M) : ∀ k, tsum (l.take k) ≤ k * M := by
  intro k
  induction k with
  | zero => simp [tsum]
  | succ k ih =>
    by_cases hk : k < l.length
    · rw [tsum_step hk, Nat.succ_mul]
      have := h l[k] (List.getElem_mem _)
      omega
    · rw [List.take_of_length_le (by omega)] at ih ⊢
      rw [Nat.succ_mul]; omega
theorem le_tsum {l : List K} : ∀ c ∈ l, c.text.size ≤ tsum l := by
  induction l with
  | nil => intro c h; cases h
  | cons a l ih =>
    intro c h
    have e : tsum (a :: l) = a.text.size + tsum l := by simp [tsum]
    rcases List.mem_cons.1 h with rfl | h
    · omega
    · have := ih c h; omega
set_option maxHeartbeats 4000000 in
set_option maxRecDepth 100000 in
theorem Write_all (l : List K) (hl : l.length ≤ 65535 → ∀ c ∈ l, c.ok) (v : Value) (w : World) (B : Nat) (hr : Rd B w v l.length (kcs l)) (hB : B ≤ w.heap.size) (hn : l.length ≤ 9223372036854775807) :
    Calls Try.prog 22 #[v] w fun e w' => e = .returned (.tuple #[.string (poolR l).1, .int .i64 ((poolR l).2.1 : Nat), .int .i64 ((poolR l).2.2 : Nat)]) ∧ Below w.heap.size w w' := by
  by_cases h : l.length ≤ 65535
  · exact Write_any l (hl h) v w B hr hB hn
  · have hR : poolR l = (⟨#[]⟩, 12, 0) := by unfold poolR; rw [if_pos (.inr (by omega))]
    rw [hR]
    obtain ⟨a, c, rfl, hr'⟩ := id hr
    have a1 : (65535 : Int) < l.length := by omega
    have e0 : ((l.length : Int) == 0) = false := by rw [beq_eq_false_iff_ne]; omega
    clear hl
    go_enter Try.func22, Try.ntmps22
    go_wp2
    go_ret3
    exact ⟨rfl, Below.refl _ _⟩
set_option maxHeartbeats 4000000 in
set_option maxRecDepth 100000 in
theorem RefWrite_all (l : List K) (hl : l.length ≤ 65535 → ∀ c ∈ l, c.ok) (v : Value) (w : World) (B : Nat) (hr : Rd B w v l.length (kcs l)) (hB : B ≤ w.heap.size) (hn : l.length ≤ 9223372036854775807) :
    Calls Try.prog 23 #[v] w fun e w' => e = .returned (.tuple #[.string (poolR l).1, .int .i64 ((poolR l).2.1 : Nat), .int .i64 ((poolR l).2.2 : Nat)]) ∧ Below w.heap.size w w' := by
  by_cases h : l.length ≤ 65535
  · exact RefWrite_any l (hl h) v w B hr hB hn
  · have hR : poolR l = (⟨#[]⟩, 12, 0) := by unfold poolR; rw [if_pos (.inr (by omega))]
    rw [hR]
    obtain ⟨a, c, rfl, hr'⟩ := id hr
    have hlit := lit_str1 (P := Try.prog) Try.underlying87 Try.underlying5 Try.underlying9
    have a1 : (65535 : Int) < l.length := by omega
    clear hl
    go_enter Try.func23, Try.ntmps23
    go_wp2
    go_ret3
    exact ⟨rfl, Below.refl _ _⟩

set_option maxHeartbeats 4000000 in
set_option maxRecDepth 100000 in
theorem PoolWrites_walkS (l : List K) (hl : ∀ c ∈ l, c.tag < 256 ∧ c.bits < 18446744073709551616 ∧ c.a < 65536 ∧ c.b < 65536) (hl2 : ∀ c ∈ l, c.text.size ≤ 140737488351232) (v : Value) (w : World) (hr : Rd w.heap.size w v l.length (kcs l)) (hnn : v = .slice none 0 0 ∨ ∃ ad c, v = .slice (some ad) l.length c) (hn : l.length * 40 ≤ 140737488351232) :
    Calls Try.prog 6 #[v] w fun e w' => e = .returned (.bool true) ∧ Below w.heap.size w w' := by
  obtain ⟨a0, c0, rfl, hr'⟩ := id hr
  have hn64 : l.length ≤ 9223372036854775807 := by omega
  have HL := Lib.hid hl
  have HL2 := Lib.hid hl2
  have HN := Lib.hid hn
  clear hl hl2 hn
  go_enter Try.func6, Try.ntmps6
  go_wp2_with fail
  clear hr'
  go_loopw [3, 17] (fun v i wr => ∃ (k : Nat) (s : Int), k ≤ l.length ∧ i = .int .i64 k ∧ v = .int .i64 s ∧ Hid (l.length ≤ 65535 → s = ((l.length + tsum (l.take k) : Nat) : Int)) ∧ Below w.heap.size w wr) (fun _ i _ => l.length - (intOf i).toNat)
  case atStart => exact ⟨0, (l.length : Int), by omega, rfl, rfl, fun _ => by simp [tsum], Below.refl _ _⟩
  case round =>
    obtain ⟨k, s, hk, rfl, rfl, hs, hbel⟩ := hrel
    have hws := hbel.size
    by_cases hlt : k < l.length
    · have hrw := hr.below hbel (Nat.le_refl _)
      obtain ⟨b, o, rfl, c0, c1, c2, c3, c4⟩ := Rd.cells hrw hlt
      have hck := CK.new l[k] wr 37
      have hbel1 := hbel.alloc hws (.cells (kc l[k]).toArray 37)
      have hts := Lib.hid (show l.length ≤ 65535 → s + (l[k].text.size : Int) = ((l.length + tsum (l.take (k + 1)) : Nat) : Int) ∧ s + (l[k].text.size : Int) < 9223372036854775808 ∧ 0 ≤ s from fun h => by
        have h1 := hs h
        have h2 := tsum_step hlt
        have h3 := tsum_le HL2 (k + 1)
        have h4 : (k + 1) * 140737488351232 ≤ 65535 * 140737488351232 := Nat.mul_le_mul_right _ (by omega)
        rw [h2] at h3 ⊢
        omega)
      obtain ⟨d0, d1, d2, d3, d4⟩ := hck
      clear hr hrw hnn d0 d2 d3 d4
      simp only [kc] at d1 hbel1
      generalize l[k] = cc at *
      obtain ⟨tag, text, bits, ca, cb⟩ := cc
      simp only [] at c0 c1 c2 c3 c4 d1 hbel1 hts
      clear hs
      go_wp2
      go_roundw
      case rel =>
        refine ⟨k + 1, _, by omega, by go_num, rfl, fun h => ?_, hbel1⟩
        obtain ⟨h1, h2, h3⟩ := hts h
        rw [← h1]
        first | (unfold wrap64; omega) | (unfold RowKit.wrap64; omega)
      case measure => simp [intOf]; omega
    · obtain rfl : k = l.length := by omega
      by_cases hbig : (131072 : Int) < s
      · have x1 := hbig
        clear hr hnn hs
        go_wp2
        go_ret
        exact ⟨rfl, hbel⟩
      · have x1 : (s : Int) ≤ 131072 := by omega
        have hok := Lib.hid (show l.length ≤ 65535 → ∀ c ∈ l, c.ok from fun h c hc => by
          have h1 := hs h
          rw [List.take_of_length_le (Nat.le_refl _)] at h1
          have h2 := le_tsum c hc
          obtain ⟨g1, g2, g3, g4⟩ := HL c hc
          exact ⟨g1, by omega, g2, g3, g4⟩)
        have hlen1 : l.length ≤ maxLen := by have := HN; unfold Hid at this; unfold maxLen; omega
        have hlen2 : l.length * 40 ≤ 140737488355328 := by have := HN; unfold Hid at this; omega
        have Hl1 := Lib.hid hlen1
        have Hl2 := Lib.hid hlen2
        have Hn64 := Lib.hid hn64
        clear hs hlen1 hlen2 hn64
        have hrw := hr.below hbel (Nat.le_refl _)
        clear hr
        go_wp2_with (at_builtin; refine app_copy rfl _ _ 34 rfl 37 _ 5 40 Try.underlying34 Try.infoC rfl (by decide) w.heap.size w.heap.size w.heap.size hbel rfl l.length (kcs l) (kcs_length l) (kcs_one l) _ rfl hrw hnn Hl1 Hl2 hws (Nat.le_refl _) ?_; intro v2 w2 hown2 hbel2 hb2)
        have hs2 := hbel2.size
        have hrw2 := hrw.below hb2 hws
        have hro2 := Rd.own hown2
        clear hrw hown2
        generalize hP : poolR l = pr at *
        refine (Write_all l hok _ w2 w.heap.size hrw2 hs2 Hn64).mono ?_
        rintro e w3 ⟨rfl, hb3⟩
        have hrw3 := hrw2.below hb3 hs2
        have hro3 := hro2.below hb3 (Nat.le_refl _)
        have hbel3 := hbel2.trans (hb3.mono hs2)
        have hs3 := hbel3.size
        have hs23 := hb3.size
        clear hrw2 hro2
        go_wp2_with fail
        refine (RefWrite_all l hok _ w3 w.heap.size hrw3 hs3 Hn64).mono ?_
        rintro e w4 ⟨rfl, hb4⟩
        have hrw4 := hrw3.below hb4 hs3
        have hro4 := hro3.below hb4 hs23
        have hbel4 := hbel3.trans (hb4.mono hs3)
        have hs4 := hbel4.size
        have hs24 := hb4.size
        clear hrw3 hro3
        rw [hP]
        obtain ⟨pa, pe, pk⟩ := pr
        have q1 : (pa.toList == pa.toList) = true := by simp
        have q2 : ((pe : Int) == (pe : Int)) = true := by simp
        have q3 : ((pk : Int) == (pk : Int)) = true := by simp
        simp only []
        go_wp2_with fail
        refine (same_eq l _ _ w4 w2.heap.size w.heap.size hro4 hrw4 (by omega) hs4 Hn64).mono ?_
        rintro e w5 ⟨rfl, hb5⟩
        go_wp2
        go_ret
        exact ⟨rfl, hbel4.trans (hb5.mono hs4)⟩
end Go.Proofs.Ytfnjbmpolggdeaa
