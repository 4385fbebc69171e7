/-
  PoolWrites: the walk of the statement.
-/
import Derived.Test.YtfnjbmpolggdeaaRefPoolW
import Derived.Test.YtfnjbmpolggdeaaSame
import Derived.Laws.AppendOwnNone
namespace Go.Proofs.Ytfnjbmpolggdeaa
open Go.RowKit Go.Lib
set_option linter.unusedVariables false
set_option linter.unusedSimpArgs false
theorem Try.infoC : (Try.prog.info? 37).map (fun i => (i.zero, i.size, i.bytes)) = some (some (.agg #[.int .u8 0, .string ⟨#[]⟩, .int .u64 0, .int .u16 0, .int .u16 0]), 5, 40) := by kernel_rfl
theorem kcs_length (l : List K) : (kcs l).length = l.length * 5 := by
  induction l with
  | nil => rfl
  | cons c l ih => simp only [kcs, List.flatMap_cons, List.length_append, List.length_cons] at *; rw [ih]; simp [kc]; omega
theorem kcs_one (l : List K) : ∀ u ∈ kcs l, u.oneCell' = true := by
  intro u hu
  obtain ⟨c, _, hc⟩ := List.mem_flatMap.1 hu
  simp [kc] at hc
  rcases hc with rfl | rfl | rfl | rfl | rfl <;> rfl

section
variable {P : Program} {w0 w : World}
/-- append of what came in to nothing: a row of the call's own. -/
theorem app_copy {ops : Array Oper} {rest : List Oper} {o : Oper} {a : Act} {Q : Exit → Act → World → Prop} (hgd : o.guard = none) (s x : Operand) (t : TypeId)
    (ho : o.op = .call { callee := .builtin .append, args := #[s, x], argTypes := #[t, t] })
    (e : TypeId) (z : Value) (size bytes : Nat) (ht : P.underlying t = some (.slice e)) (hI : (P.info? e).map (fun i => (i.zero, i.size, i.bytes)) = some (some z, size, bytes)) (hzs : z.cells.size = size) (hsz : 0 < size)
    (B B' base : Nat) (hbel : Below B w0 w) (hs : a.eval s = .slice none 0 0)
    (m : Nat) (cs : List Value) (hcs : cs.length = m * size) (h1 : ∀ u ∈ cs, u.oneCell' = true) (v : Value) (hx : a.eval x = v) (hr : Rd B' w v m cs) (hnn : v = .slice none 0 0 ∨ ∃ ad c, v = .slice (some ad) m c)
    (hm : m ≤ maxLen) (hn : m * bytes ≤ 140737488355328) (hbase : base ≤ w.heap.size) (hB : B ≤ base)
    (h : ∀ v' w', w'.ownsRow base e size v' m cs → Below B w0 w' → Below w.heap.size w w' → wpList P ops Q rest (a.put o.dst v') w') : wpList P ops Q (o :: rest) a w := by
  obtain ⟨i, hi, hz, hsize, hby⟩ := info_parts hI
  have hnil := World.ownsRow_nil w base e size
  rcases hnn with rfl | ⟨ad, c, rfl⟩
  · obtain ⟨a1, c1, he, hr2⟩ := hr
    simp only [Value.slice.injEq] at he
    obtain ⟨rfl, rfl, rfl⟩ := he
    have hc0 : cs = [] := List.eq_nil_of_length_eq_zero (by omega)
    subst hc0
    exact wpList_append_own_none hgd s x t ho base e i size ht hi _ 0 [] hs hnil hx (h _ _ hnil hbel (Below.refl _ _))
  · refine wpList_append_own _ hgd s x t ho base e i z size bytes ht hi hz hsize hby hzs hsz _ 0 [] hs hnil ad m c cs hx hcs ?_ h1 (by omega) (by simpa using hn) hbase ?_
    · obtain ⟨a1, c1, he, hr2⟩ := hr
      simp only [Value.slice.injEq] at he
      obtain ⟨rfl, _, rfl⟩ := he
      rcases hr2 with rfl | ⟨b, off, he, _, hc⟩
      · intro j u hj; simp at hj
      · simp only [Option.some.injEq] at he
        subst he
        intro j u hj
        have := hc j u hj
        unfold Addr.add; split <;> simp_all
    · intro v' w' h2 h3 _
      have hg : Below w.heap.size w w' := ⟨h3.os, h3.tape, h3.output, h3.size, fun k hk => h3.block k hk (by simp [Value.ownBlock])⟩
      have hsz' := hbel.size
      refine h v' w' (by simpa using h2) ⟨hg.os.trans hbel.os, hg.tape.trans hbel.tape, hg.output.trans hbel.output, Nat.le_trans hbel.size hg.size, fun k hk => ?_⟩ hg
      rw [hg.block k (by omega), hbel.block k hk]
end

set_option maxHeartbeats 4000000 in
set_option maxRecDepth 100000 in
theorem PoolWrites_walk (l : List K) (hl : ∀ c ∈ l, c.ok) (hl2 : ∀ c ∈ l, c.text.size ≤ 1048576) (v : Value) (w : World) (hr : Rd w.heap.size w v l.length (kcs l)) (hnn : v = .slice none 0 0 ∨ ∃ ad c, v = .slice (some ad) l.length c) (hn : l.length ≤ 1048576) :
    Calls Try.prog 6 #[v] w fun e w' => e = .returned (.bool true) ∧ Below w.heap.size w w' := by
  obtain ⟨a0, c0, rfl, hr'⟩ := id hr
  go_enter Try.func6, Try.ntmps6
  go_wp2_with fail
  clear hr'
  go_loopw [3, 17] (fun v i wr => ∃ (k s : Nat), k ≤ l.length ∧ i = .int .i64 k ∧ v = .int .i64 s ∧ s ≤ l.length + k * 1048576 ∧ Below w.heap.size w wr) (fun _ i _ => l.length - (intOf i).toNat)
  case atStart => exact ⟨0, l.length, by omega, rfl, rfl, by omega, Below.refl _ _⟩
  case round =>
    obtain ⟨k, s, hk, rfl, rfl, hs, hbel⟩ := hrel
    have hws := hbel.size
    by_cases hlt : k < l.length
    · have hrw := hr.below hbel (Nat.le_refl _)
      obtain ⟨b, o, rfl, c0, c1, c2, c3, c4⟩ := Rd.cells hrw hlt
      have hck := CK.new l[k] wr 37
      have hbel1 := hbel.alloc hws (.cells (kc l[k]).toArray 37)
      have hts := hl2 l[k] (List.getElem_mem _)
      obtain ⟨d0, d1, d2, d3, d4⟩ := hck
      clear hr hrw hnn d0 d2 d3 d4
      simp only [kc] at d1 hbel1
      generalize l[k] = cc at *
      obtain ⟨tag, text, bits, ca, cb⟩ := cc
      simp only [] at c0 c1 c2 c3 c4 d1 hbel1 hts
      go_wp2
      go_roundw
      case rel => exact ⟨k + 1, s + text.size, by omega, by go_num, by go_num, by omega, hbel1⟩
      case measure => simp [intOf]; omega
    · obtain rfl : k = l.length := by omega
      by_cases hbig : 131072 < s
      · have x1 : (131072 : Int) < s := by omega
        clear hr hnn
        go_wp2
        go_ret
        exact ⟨rfl, hbel⟩
      · have x1 : (s : Int) ≤ 131072 := by omega
        have hrw := hr.below hbel (Nat.le_refl _)
        clear hr
        go_wp2_with (at_builtin; refine app_copy rfl _ _ 34 rfl 37 _ 5 40 Try.underlying34 Try.infoC rfl (by decide) w.heap.size w.heap.size w.heap.size hbel rfl l.length (kcs l) (kcs_length l) (kcs_one l) _ rfl hrw hnn (by unfold maxLen; omega) (by omega) hws (Nat.le_refl _) ?_; intro v2 w2 hown2 hbel2 hb2)
        have hn64 : l.length ≤ 9223372036854775807 := by omega
        have hs2 := hbel2.size
        have hrw2 := hrw.below hb2 hws
        have hro2 := Rd.own hown2
        clear hrw hown2
        generalize hP : poolR l = pr at *
        refine (Write_any l hl _ w2 w.heap.size hrw2 hs2 hn64).mono ?_
        rintro e w3 ⟨rfl, hb3⟩
        have hrw3 := hrw2.below hb3 hs2
        have hro3 := hro2.below hb3 (Nat.le_refl _)
        have hbel3 := hbel2.trans (hb3.mono hs2)
        have hs3 := hbel3.size
        have hs23 := hb3.size
        clear hrw2 hro2
        go_wp2_with fail
        refine (RefWrite_any l hl _ w3 w.heap.size hrw3 hs3 hn64).mono ?_
        rintro e w4 ⟨rfl, hb4⟩
        have hrw4 := hrw3.below hb4 hs3
        have hro4 := hro3.below hb4 hs23
        have hbel4 := hbel3.trans (hb4.mono hs3)
        have hs4 := hbel4.size
        have hs24 := hb4.size
        clear hrw3 hro3
        rw [hP]
        obtain ⟨pa, pe, pk⟩ := pr
        have q1 : (pa.toList == pa.toList) = true := by simp
        have q2 : ((pe : Int) == (pe : Int)) = true := by simp
        have q3 : ((pk : Int) == (pk : Int)) = true := by simp
        simp only []
        go_wp2_with fail
        refine (same_eq l _ _ w4 w2.heap.size w.heap.size hro4 hrw4 (by omega) hs4 hn64).mono ?_
        rintro e w5 ⟨rfl, hb5⟩
        go_wp2
        go_ret
        exact ⟨rfl, hbel4.trans (hb5.mono hs4)⟩
end Go.Proofs.Ytfnjbmpolggdeaa
