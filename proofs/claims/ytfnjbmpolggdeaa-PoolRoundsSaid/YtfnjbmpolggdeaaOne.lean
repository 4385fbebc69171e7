/-
  pool.Reader: Index, one.
-/
import Derived.Test.YtfnjbmpolggdeaaReader
import Derived.Test.YtfnjbmpolggdeaaPoolW
namespace Go.Proofs.Ytfnjbmpolggdeaa
open Go.RowKit Go.Lib
set_option linter.unusedVariables false
set_option linter.unusedSimpArgs false

set_option maxHeartbeats 1000000 in
set_option maxRecDepth 100000 in
theorem Index_any (q : Nat) (x : S) (hx : x.ok) (w : World) (h : RS q x w) :
    Calls Try.prog 98 #[.pointer (some ⟨q, 0, none⟩)] w fun r w' => r = .returned (.int .u16 ((numS x 2).1 : Nat)) ∧ RS q (numS x 2).2 w' ∧ Up q w w' := by
  obtain ⟨o1, o2, o3, o4⟩ := numS_ok hx 2 (by decide)
  go_enter Try.func98, Try.ntmps98
  go_wp2_with fail
  refine (Num_any q x hx w h 2 _ (by omega) (by decide)).mono ?_
  rintro e w1 ⟨rfl, h1, hu1⟩
  have o5 : ((numS x 2).1 : Int) < 65536 := by omega
  go_wp2
  go_ret
  exact ⟨rfl, h1, hu1⟩

/-- a constant lies in block q. -/
def CS (q : Nat) (c : K) (w : World) : Prop := w.heap[q]? = some (.cells (kc c).toArray 37 (0, 0))
theorem CS.lt {q : Nat} {c : K} {w : World} (h : CS q c w) : q < w.heap.size := (Array.getElem?_eq_some_iff.1 h).1
theorem CS.new (c : K) (w : World) : CS w.heap.size c (w.alloc (.cells (kc c).toArray 37)) := heap_alloc_new w _
theorem CS.c {q : Nat} {c : K} {w : World} (h : CS q c w) : CK c q w := by
  unfold CS at h
  refine ⟨?_, ?_, ?_, ?_, ?_⟩ <;> simp [World.cell?, h, kc]
theorem CS.f {q : Nat} {c : K} {w : World} (h : CS q c w) (i : Nat) : w.frozen? ⟨q, i, none⟩ = false := by
  unfold CS at h; simp [World.frozen?, h]
theorem CS.set {q : Nat} {c d : K} {w : World} (h : CS q c w) (i : Nat) (v : Value) (hd : (kc c).toArray.setIfInBounds i v = (kc d).toArray) : CS q d (w.setCell ⟨q, i, none⟩ v) := by
  unfold CS at *; rw [heap_setCell_same w q i (kc c).toArray _ v h, hd]
theorem CS.up {p q : Nat} {c : K} {w w' : World} (h : CS q c w) (hu : Up p w w') (hn : q ≠ p) : CS q c w' := by
  unfold CS; rw [hu.block q h.lt (by simpa using hn)]; exact h
theorem CS.kept {q : Nat} {c : K} {w w' : World} (h : CS q c w) (hb : Below w.heap.size w w') : CS q c w' := by
  unfold CS; rw [hb.block q h.lt]; exact h
theorem RS.kept {p q : Nat} {x : S} {w w' : World} (h : RS q x w) (hu : Up p w w') (hn : q ≠ p) : RS q x w' := by
  unfold RS; rw [hu.block q h.lt (by simpa using hn)]; exact h
theorem RS.alloc {q : Nat} {x : S} {w : World} (h : RS q x w) (o : Obj) : RS q x (w.alloc o) := h.up ((Below.refl _ w).alloc (Nat.le_refl _) o)
theorem CS.alloc {q : Nat} {c : K} {w : World} (h : CS q c w) (o : Obj) : CS q c (w.alloc o) := h.kept ((Below.refl _ w).alloc (Nat.le_refl _) o)
/-- what is older than base, and not q, is as it was. -/
def Keep (q base : Nat) (w w' : World) : Prop := w'.os = w.os ∧ w'.tape = w.tape ∧ w'.output = w.output ∧ w.heap.size ≤ w'.heap.size ∧ ∀ k, k < base → k ≠ q → w'.heap[k]? = w.heap[k]?
theorem Keep.refl (q base : Nat) (w : World) : Keep q base w w := ⟨rfl, rfl, rfl, Nat.le_refl _, fun _ _ _ => rfl⟩
theorem Keep.trans {q base : Nat} {a b c : World} (h : Keep q base a b) (k : Keep q base b c) : Keep q base a c :=
  ⟨k.1.trans h.1, k.2.1.trans h.2.1, k.2.2.1.trans h.2.2.1, Nat.le_trans h.2.2.2.1 k.2.2.2.1, fun j h1 h2 => (k.2.2.2.2 j h1 h2).trans (h.2.2.2.2 j h1 h2)⟩
theorem Keep.up {q base : Nat} {w w' : World} (h : Up q w w') (hb : base ≤ w.heap.size) : Keep q base w w' := ⟨h.os, h.tape, h.output, h.size, fun k h1 h2 => h.block k (by omega) (by simpa using h2)⟩
theorem Keep.below {q base : Nat} {w w' : World} (h : Below base w w') : Keep q base w w' := ⟨h.os, h.tape, h.output, h.size, fun k h1 _ => h.block k h1⟩
theorem Keep.set (q base : Nat) (w : World) (p i : Nat) (v : Value) (hp : base ≤ p) : Keep q base w (w.setCell ⟨p, i, none⟩ v) :=
  ⟨rfl, rfl, rfl, by simp [World.setCell], fun j h1 _ => heap_setCell_other w _ j v (by show j ≠ p; omega)⟩
theorem Keep.fin {q B : Nat} {w w' : World} (hB : w.heap.size = B) (h : Keep q B w w') : Up q w w' := ⟨h.1, h.2.1, h.2.2.1, h.2.2.2.1, fun k h1 h2 => h.2.2.2.2 k (by omega) (by simpa using h2)⟩
theorem Keep.done {q : Nat} {w w' : World} (h : Keep q w.heap.size w w') : Up q w w' := ⟨h.1, h.2.1, h.2.2.1, h.2.2.2.1, fun k h1 h2 => h.2.2.2.2 k h1 (by simpa using h2)⟩

theorem CS.fill {q : Nat} {c0 c : K} {w : World} (h : CS q c0 w) (v0 v1 v2 v3 v4 : Value) (hv : kc c = [v0, v1, v2, v3, v4]) :
    (∃ v, w.cell? ⟨q, 0, none⟩ = some v) ∧ w.frozen? ⟨q, 0, none⟩ = false ∧
    (∃ v, (w.setCell ⟨q, 0, none⟩ v0).cell? ⟨q, 1, none⟩ = some v) ∧ (w.setCell ⟨q, 0, none⟩ v0).frozen? ⟨q, 1, none⟩ = false ∧
    (∃ v, ((w.setCell ⟨q, 0, none⟩ v0).setCell ⟨q, 1, none⟩ v1).cell? ⟨q, 2, none⟩ = some v) ∧ ((w.setCell ⟨q, 0, none⟩ v0).setCell ⟨q, 1, none⟩ v1).frozen? ⟨q, 2, none⟩ = false ∧
    (∃ v, (((w.setCell ⟨q, 0, none⟩ v0).setCell ⟨q, 1, none⟩ v1).setCell ⟨q, 2, none⟩ v2).cell? ⟨q, 3, none⟩ = some v) ∧ (((w.setCell ⟨q, 0, none⟩ v0).setCell ⟨q, 1, none⟩ v1).setCell ⟨q, 2, none⟩ v2).frozen? ⟨q, 3, none⟩ = false ∧
    (∃ v, ((((w.setCell ⟨q, 0, none⟩ v0).setCell ⟨q, 1, none⟩ v1).setCell ⟨q, 2, none⟩ v2).setCell ⟨q, 3, none⟩ v3).cell? ⟨q, 4, none⟩ = some v) ∧ ((((w.setCell ⟨q, 0, none⟩ v0).setCell ⟨q, 1, none⟩ v1).setCell ⟨q, 2, none⟩ v2).setCell ⟨q, 3, none⟩ v3).frozen? ⟨q, 4, none⟩ = false ∧
    CS q c (((((w.setCell ⟨q, 0, none⟩ v0).setCell ⟨q, 1, none⟩ v1).setCell ⟨q, 2, none⟩ v2).setCell ⟨q, 3, none⟩ v3).setCell ⟨q, 4, none⟩ v4) := by
  have hh : ∀ (w : World) (l : Array Value), w.heap[q]? = some (.cells l 37 (0, 0)) → ∀ i, (∀ hi : i < l.size, w.cell? ⟨q, i, none⟩ = some l[i]) ∧ w.frozen? ⟨q, i, none⟩ = false := by
    intro w l hw i
    exact ⟨fun hi => by simp [World.cell?, hw, hi], by simp [World.frozen?, hw]⟩
  unfold CS at h
  have s0 := hh w _ h
  have t1 := heap_setCell_same w q 0 _ _ v0 h
  have s1 := hh _ _ t1
  have t2 := heap_setCell_same _ q 1 _ _ v1 t1
  have s2 := hh _ _ t2
  have t3 := heap_setCell_same _ q 2 _ _ v2 t2
  have s3 := hh _ _ t3
  have t4 := heap_setCell_same _ q 3 _ _ v3 t3
  have s4 := hh _ _ t4
  have t5 := heap_setCell_same _ q 4 _ _ v4 t4
  refine ⟨⟨_, (s0 0).1 (by simp [kc])⟩, (s0 0).2, ⟨_, (s1 1).1 (by simp [kc])⟩, (s1 1).2, ⟨_, (s2 2).1 (by simp [kc])⟩, (s2 2).2, ⟨_, (s3 3).1 (by simp [kc])⟩, (s3 3).2, ⟨_, (s4 4).1 (by simp [kc])⟩, (s4 4).2, ?_⟩
  unfold CS
  rw [t5, hv]
  simp [kc]
theorem fill_other {q p : Nat} (w : World) (v0 v1 v2 v3 v4 : Value) (k : Nat) (hk : k ≠ q) :
    (((((w.setCell ⟨q, 0, none⟩ v0).setCell ⟨q, 1, none⟩ v1).setCell ⟨q, 2, none⟩ v2).setCell ⟨q, 3, none⟩ v3).setCell ⟨q, 4, none⟩ v4).heap[k]? = w.heap[k]? := by
  rw [heap_setCell_other _ _ k _ hk, heap_setCell_other _ _ k _ hk, heap_setCell_other _ _ k _ hk, heap_setCell_other _ _ k _ hk, heap_setCell_other _ _ k _ hk]
theorem RS.other {p q : Nat} {x : S} {w : World} (h : RS q x w) (i : Nat) (v : Value) (hn : q ≠ p) : RS q x (w.setCell ⟨p, i, none⟩ v) := by
  unfold RS; rw [heap_setCell_other w ⟨p, i, none⟩ q v hn]; exact h
theorem CS.other {p q : Nat} {c : K} {w : World} (h : CS q c w) (i : Nat) (v : Value) (hn : q ≠ p) : CS q c (w.setCell ⟨p, i, none⟩ v) := by
  unfold CS; rw [heap_setCell_other w ⟨p, i, none⟩ q v hn]; exact h
def K0 : K := ⟨0, ⟨#[]⟩, 0, 0, 0⟩
def oneS (x : S) : K × S :=
  let r := numS x 1
  if r.1 = 1 then
    let n := numS r.2 2
    let t := takeS n.2 n.1
    (⟨1, t.1, 0, 0, 0⟩, if (units (bs t.1)).isSome then t.2 else failS t.2 6 x.pos)
  else if r.1 = 3 ∨ r.1 = 4 then
    let b := numS r.2 4
    (⟨r.1, ⟨#[]⟩, b.1, 0, 0⟩, b.2)
  else if r.1 = 5 ∨ r.1 = 6 then
    let b := numS r.2 4
    let c := numS b.2 4
    (⟨r.1, ⟨#[]⟩, b.1 * 4294967296 + c.1, 0, 0⟩, c.2)
  else if r.1 = 7 ∨ r.1 = 8 then
    let b := numS r.2 2
    (⟨r.1, ⟨#[]⟩, 0, b.1, 0⟩, b.2)
  else if 9 ≤ r.1 ∧ r.1 ≤ 12 then
    let b := numS r.2 2
    let c := numS b.2 2
    (⟨r.1, ⟨#[]⟩, 0, b.1, c.1⟩, c.2)
  else (⟨r.1, ⟨#[]⟩, 0, 0, 0⟩, failS r.2 5 x.pos)
theorem or_u64_32 (a b : Nat) (ha : a < 4294967296) (hb : b < 4294967296) : bits BinOp.or IntKind.u64 ((a : Int) * 4294967296) (b : Int) = ((a * 4294967296 + b : Nat) : Int) := by
  have := u64_or_nat (a * 4294967296) b (by omega) (by omega)
  rw [nat_join 32 (a * 4294967296) b (by omega) (by omega)] at this
  simpa using this

set_option maxHeartbeats 4000000 in
set_option maxRecDepth 100000 in
theorem one_any (q : Nat) (x : S) (hx : x.ok) (w : World) (h : RS q x w) :
    Calls Try.prog 112 #[.pointer (some ⟨q, 0, none⟩)] w fun r w' => r = .returned (.agg (kc (oneS x).1).toArray) ∧ RS q (oneS x).2 w' ∧ Up q w w' := by
  generalize hB : w.heap.size = B
  have hqB : q < B := by rw [← hB]; exact h.lt
  obtain ⟨o1, o2, o3, o4⟩ := numS_ok hx 1 (by decide)
  go_enter Try.func112, Try.ntmps112
  have h1 : RS q x (w.alloc (.cells #[.int .u8 0, .string ⟨#[]⟩, .int .u64 0, .int .u16 0, .int .u16 0] 37)) := h.alloc _
  have r1 : CS B K0 (w.alloc (.cells #[.int .u8 0, .string ⟨#[]⟩, .int .u64 0, .int .u16 0, .int .u16 0] 37)) := hB ▸ CS.new K0 w
  have k1 : Keep q B w (w.alloc (.cells #[.int .u8 0, .string ⟨#[]⟩, .int .u64 0, .int .u16 0, .int .u16 0] 37)) := Keep.below ((Below.refl B w).alloc (by omega) _)
  go_upto_region 1 with (fail)
  generalize (w.alloc (.cells #[.int .u8 0, .string ⟨#[]⟩, .int .u64 0, .int .u16 0, .int .u16 0] 37)) = w1 at *
  obtain ⟨c0, c1, c2, c3⟩ := h1.c
  go_wp2_with fail
  refine (Num_any q x hx w1 h1 1 _ (by omega) (by decide)).mono ?_
  rintro e w2 ⟨rfl, h2, hu2⟩
  clear c0 c1 c2 c3
  have r2 := r1.up hu2 (by omega)
  have k2 := k1.trans (Keep.up hu2 (by have := r1.lt; omega))
  have hB2 : B < w2.heap.size := r2.lt
  have htag : (numS x 1).1 < 256 := o2
  generalize hX1 : (numS x 1).2 = x1 at *
  generalize hTag : (numS x 1).1 = tag at *
  have HTag := Lib.hid hTag
  have HX1 := Lib.hid hX1
  clear hTag hX1 o2 o3 h1 r1 k1
  have h3 : RS q x1 (w2.alloc (.cells #[.int .u8 (tag : Nat), .string ⟨#[]⟩, .int .u64 0, .int .u16 0, .int .u16 0] 37)) := h2.alloc _
  have r3 : CS B K0 (w2.alloc (.cells #[.int .u8 (tag : Nat), .string ⟨#[]⟩, .int .u64 0, .int .u16 0, .int .u16 0] 37)) := r2.alloc _
  have d3 : CS w2.heap.size ⟨tag, ⟨#[]⟩, 0, 0, 0⟩ (w2.alloc (.cells #[.int .u8 (tag : Nat), .string ⟨#[]⟩, .int .u64 0, .int .u16 0, .int .u16 0] 37)) := CS.new _ w2
  have k3 : Keep q B w (w2.alloc (.cells #[.int .u8 (tag : Nat), .string ⟨#[]⟩, .int .u64 0, .int .u16 0, .int .u16 0] 37)) := k2.trans (Keep.below ((Below.refl B w2).alloc (by omega) _))
  have wtag : ((tag : Nat) : Int) < 256 := by omega
  have hwr : IntKind.u8.wrap ((tag : Nat) : Int) = tag := by simp [IntKind.wrap, IntKind.bits, IntKind.signed]; omega
  go_upto_region 3 with (fail)
  have hpB : B < w2.heap.size := hB2
  clear h2 r2 k2 hu2 hB2 h
  generalize (w2.alloc (.cells #[.int .u8 (tag : Nat), .string ⟨#[]⟩, .int .u64 0, .int .u16 0, .int .u16 0] 37)) = w3 at *
  generalize w2.heap.size = p at *
  obtain ⟨g0, g1, g2, g3, g4⟩ := id d3.c
  have hx1 : x1.ok := o1
  simp only [] at g0 g1 g2 g3 g4

  by_cases ht : tag = 1
  · subst ht
    go_wp2_with fail
    obtain ⟨ok4, lt4, lu4, se4⟩ := numS_ok hx1 2 (by decide)
    refine (Num_any q x1 hx1 _ h3 2 _ (by omega) (by decide)).mono ?_
    rintro e w4 ⟨rfl, h4, hu4⟩
    have r4 := r3.up hu4 (by omega)
    have d4 := d3.up hu4 (by omega)
    have k4 := k3.trans (Keep.up hu4 (by have := r3.lt; omega))
    obtain ⟨g0, g1, g2, g3, g4⟩ := id d4.c
    try simp only [] at g0 g1 g2 g3 g4
    generalize hN4 : numS x1 2 = n4 at *
    have HN4 := Lib.hid hN4
    clear hN4
    have li4 : ((n4.1 : Nat) : Int) < 65536 := by omega
    obtain ⟨m4, x4⟩ := n4
    simp only [] at ok4 lt4 lu4 se4 h4 li4
    simp only []
    go_wp2_with fail
    obtain ⟨tk1, tk2, tk3⟩ := takeS_ok ok4 m4
    refine (Take_any q x4 ok4 _ h4 m4 _ (by omega) (by omega)).mono ?_
    rintro e w5 ⟨rfl, h5, hu5⟩
    have r5 := r4.up hu5 (by omega)
    have d5 := d4.up hu5 (by omega)
    have k5 := k4.trans (Keep.up hu5 (by have := r4.lt; omega))
    obtain ⟨g0, g1, g2, g3, g4⟩ := id d5.c
    try simp only [] at g0 g1 g2 g3 g4
    generalize hT : takeS x4 m4 = tt at *
    have HT := Lib.hid hT
    clear hT
    obtain ⟨txt, xt⟩ := tt
    simp only [] at tk1 tk2 tk3 h5
    simp only []
    have fs6 := d5.f 1
    have h6 := h5.other (p := p) 1 (.string txt) (by omega)
    have r6 := r5.other (p := p) 1 (.string txt) (by omega)
    have d6 := d5.set (d := ⟨1, txt, 0, 0, 0⟩) 1 (.string txt) rfl
    have k6 := k5.trans (Keep.set q B _ p 1 (.string txt) (by omega))
    obtain ⟨g0, g1, g2, g3, g4⟩ := id d6.c
    try simp only [] at g0 g1 g2 g3 g4
    go_wp2_with fail
    refine (Units_any txt _ (by omega)).mono ?_
    rintro e w7 ⟨vu, bu, rfl, rfl, hownu, hb7⟩
    clear hownu
    have hu7 := Up.of_below (q := q) hb7
    have h7 := h6.up hb7
    have r7 := r6.up hu7 (by omega)
    have d7 := d6.up hu7 (by omega)
    have k7 := k6.trans (Keep.up hu7 (by have := r6.lt; omega))
    obtain ⟨g0, g1, g2, g3, g4⟩ := id d7.c
    try simp only [] at g0 g1 g2 g3 g4
    by_cases hun : (units (bs txt)).isSome = true
    · rw [hun]
      have hone : oneS x = (⟨1, txt, 0, 0, 0⟩, xt) := by unfold oneS; simp only [HTag.out, HX1.out, HN4.out, HT.out]; first | (simp [hun, HT.out]) | simp [*]
      have HO := Lib.hid hone
      clear hone
      clear hun
      obtain ⟨⟨_, a0⟩, f0, ⟨_, a1⟩, f1, ⟨_, a2⟩, f2, ⟨_, a3⟩, f3, ⟨_, a4⟩, f4, hfin⟩ := CS.fill (c := ⟨1, txt, 0, 0, 0⟩) r7 (.int .u8 1) (.string txt) (.int .u64 0) (.int .u16 0) (.int .u16 0) rfl
      have hot := fill_other (q := B) (p := 0) w7 (.int .u8 1) (.string txt) (.int .u64 0) (.int .u16 0) (.int .u16 0)
      have HOT := Lib.hid hot
      have HF := Lib.hid hfin
      clear hot hfin
      go_wp2
      refine bodyPost_ret (results_cell_row rfl _ _ B 37 _ (0, 0) _ rfl HF.out Try.underlying37 rfl (by rw [show (kc ⟨1, txt, 0, 0, 0⟩).toArray.size = 5 from rfl]; kernel_rfl)) rfl ⟨by rw [HO.out], ?_, ?_⟩
      · rw [HO.out]; unfold RS; rw [HOT.out q (by omega)]; exact h7
      · exact Keep.fin hB (((((k7.trans (Keep.set q B _ B 0 _ (Nat.le_refl _))).trans (Keep.set q B _ B 1 _ (Nat.le_refl _))).trans (Keep.set q B _ B 2 _ (Nat.le_refl _))).trans (Keep.set q B _ B 3 _ (Nat.le_refl _))).trans (Keep.set q B _ B 4 _ (Nat.le_refl _)))
    · have hun2 : (units (bs txt)).isSome = false := by simpa using hun
      rw [hun2]
      have hone : oneS x = (⟨1, txt, 0, 0, 0⟩, failS xt 6 x.pos) := by unfold oneS; simp only [HTag.out, HX1.out, HN4.out, HT.out]; first | (simp [hun, HT.out]) | simp [*]
      have HO := Lib.hid hone
      clear hone
      clear hun hun2
      go_wp2_with fail
      refine (Fail_any q xt _ h7 6 x.pos _ _ (by omega) (by omega)).mono ?_
      rintro e w8 ⟨rfl, h8, hu8⟩
      have r8 := r7.up hu8 (by omega)
      have d8 := d7.up hu8 (by omega)
      have k8 := k7.trans (Keep.up hu8 (by have := r7.lt; omega))
      obtain ⟨g0, g1, g2, g3, g4⟩ := id d8.c
      try simp only [] at g0 g1 g2 g3 g4
      obtain ⟨⟨_, a0⟩, f0, ⟨_, a1⟩, f1, ⟨_, a2⟩, f2, ⟨_, a3⟩, f3, ⟨_, a4⟩, f4, hfin⟩ := CS.fill (c := ⟨1, txt, 0, 0, 0⟩) r8 (.int .u8 1) (.string txt) (.int .u64 0) (.int .u16 0) (.int .u16 0) rfl
      have hot := fill_other (q := B) (p := 0) w8 (.int .u8 1) (.string txt) (.int .u64 0) (.int .u16 0) (.int .u16 0)
      have HOT := Lib.hid hot
      have HF := Lib.hid hfin
      clear hot hfin
      go_wp2
      refine bodyPost_ret (results_cell_row rfl _ _ B 37 _ (0, 0) _ rfl HF.out Try.underlying37 rfl (by rw [show (kc ⟨1, txt, 0, 0, 0⟩).toArray.size = 5 from rfl]; kernel_rfl)) rfl ⟨by rw [HO.out], ?_, ?_⟩
      · rw [HO.out]; unfold RS; rw [HOT.out q (by omega)]; exact h8
      · exact Keep.fin hB (((((k8.trans (Keep.set q B _ B 0 _ (Nat.le_refl _))).trans (Keep.set q B _ B 1 _ (Nat.le_refl _))).trans (Keep.set q B _ B 2 _ (Nat.le_refl _))).trans (Keep.set q B _ B 3 _ (Nat.le_refl _))).trans (Keep.set q B _ B 4 _ (Nat.le_refl _)))
  · by_cases ht : tag = 3
    · subst ht
      go_wp2_with fail
      obtain ⟨ok4, lt4, lu4, se4⟩ := numS_ok hx1 4 (by decide)
      refine (Num_any q x1 hx1 _ h3 4 _ (by omega) (by decide)).mono ?_
      rintro e w4 ⟨rfl, h4, hu4⟩
      have r4 := r3.up hu4 (by omega)
      have d4 := d3.up hu4 (by omega)
      have k4 := k3.trans (Keep.up hu4 (by have := r3.lt; omega))
      obtain ⟨g0, g1, g2, g3, g4⟩ := id d4.c
      try simp only [] at g0 g1 g2 g3 g4
      generalize hN4 : numS x1 4 = n4 at *
      have HN4 := Lib.hid hN4
      clear hN4
      have li4 : ((n4.1 : Nat) : Int) < 4294967296 := by omega
      obtain ⟨m4, x4⟩ := n4
      simp only [] at ok4 lt4 lu4 se4 h4 li4
      simp only []
      have fs5 := d4.f 2
      have h5 := h4.other (p := p) 2 (.int .u64 (m4 : Nat)) (by omega)
      have r5 := r4.other (p := p) 2 (.int .u64 (m4 : Nat)) (by omega)
      have d5 := d4.set (d := ⟨3, ⟨#[]⟩, m4, 0, 0⟩) 2 (.int .u64 (m4 : Nat)) rfl
      have k5 := k4.trans (Keep.set q B _ p 2 (.int .u64 (m4 : Nat)) (by omega))
      obtain ⟨g0, g1, g2, g3, g4⟩ := id d5.c
      try simp only [] at g0 g1 g2 g3 g4
      have hone : oneS x = (⟨3, ⟨#[]⟩, m4, 0, 0⟩, x4) := by unfold oneS; simp only [HTag.out, HX1.out, HN4.out]; first | (rw [if_neg (by decide), if_pos (by decide)]) | simp [*]
      have HO := Lib.hid hone
      clear hone
      obtain ⟨⟨_, a0⟩, f0, ⟨_, a1⟩, f1, ⟨_, a2⟩, f2, ⟨_, a3⟩, f3, ⟨_, a4⟩, f4, hfin⟩ := CS.fill (c := ⟨3, ⟨#[]⟩, m4, 0, 0⟩) r5 (.int .u8 3) (.string ⟨#[]⟩) (.int .u64 (m4 : Nat)) (.int .u16 0) (.int .u16 0) rfl
      have hot := fill_other (q := B) (p := 0) (w4.setCell ⟨p, 2, none⟩ (.int .u64 (m4 : Nat))) (.int .u8 3) (.string ⟨#[]⟩) (.int .u64 (m4 : Nat)) (.int .u16 0) (.int .u16 0)
      have HOT := Lib.hid hot
      have HF := Lib.hid hfin
      clear hot hfin
      go_wp2
      refine bodyPost_ret (results_cell_row rfl _ _ B 37 _ (0, 0) _ rfl HF.out Try.underlying37 rfl (by rw [show (kc ⟨3, ⟨#[]⟩, m4, 0, 0⟩).toArray.size = 5 from rfl]; kernel_rfl)) rfl ⟨by rw [HO.out], ?_, ?_⟩
      · rw [HO.out]; unfold RS; rw [HOT.out q (by omega)]; exact h5
      · exact Keep.fin hB (((((k5.trans (Keep.set q B _ B 0 _ (Nat.le_refl _))).trans (Keep.set q B _ B 1 _ (Nat.le_refl _))).trans (Keep.set q B _ B 2 _ (Nat.le_refl _))).trans (Keep.set q B _ B 3 _ (Nat.le_refl _))).trans (Keep.set q B _ B 4 _ (Nat.le_refl _)))
    · by_cases ht : tag = 4
      · subst ht
        go_wp2_with fail
        obtain ⟨ok4, lt4, lu4, se4⟩ := numS_ok hx1 4 (by decide)
        refine (Num_any q x1 hx1 _ h3 4 _ (by omega) (by decide)).mono ?_
        rintro e w4 ⟨rfl, h4, hu4⟩
        have r4 := r3.up hu4 (by omega)
        have d4 := d3.up hu4 (by omega)
        have k4 := k3.trans (Keep.up hu4 (by have := r3.lt; omega))
        obtain ⟨g0, g1, g2, g3, g4⟩ := id d4.c
        try simp only [] at g0 g1 g2 g3 g4
        generalize hN4 : numS x1 4 = n4 at *
        have HN4 := Lib.hid hN4
        clear hN4
        have li4 : ((n4.1 : Nat) : Int) < 4294967296 := by omega
        obtain ⟨m4, x4⟩ := n4
        simp only [] at ok4 lt4 lu4 se4 h4 li4
        simp only []
        have fs5 := d4.f 2
        have h5 := h4.other (p := p) 2 (.int .u64 (m4 : Nat)) (by omega)
        have r5 := r4.other (p := p) 2 (.int .u64 (m4 : Nat)) (by omega)
        have d5 := d4.set (d := ⟨4, ⟨#[]⟩, m4, 0, 0⟩) 2 (.int .u64 (m4 : Nat)) rfl
        have k5 := k4.trans (Keep.set q B _ p 2 (.int .u64 (m4 : Nat)) (by omega))
        obtain ⟨g0, g1, g2, g3, g4⟩ := id d5.c
        try simp only [] at g0 g1 g2 g3 g4
        have hone : oneS x = (⟨4, ⟨#[]⟩, m4, 0, 0⟩, x4) := by unfold oneS; simp only [HTag.out, HX1.out, HN4.out]; first | (rw [if_neg (by decide), if_pos (by decide)]) | simp [*]
        have HO := Lib.hid hone
        clear hone
        obtain ⟨⟨_, a0⟩, f0, ⟨_, a1⟩, f1, ⟨_, a2⟩, f2, ⟨_, a3⟩, f3, ⟨_, a4⟩, f4, hfin⟩ := CS.fill (c := ⟨4, ⟨#[]⟩, m4, 0, 0⟩) r5 (.int .u8 4) (.string ⟨#[]⟩) (.int .u64 (m4 : Nat)) (.int .u16 0) (.int .u16 0) rfl
        have hot := fill_other (q := B) (p := 0) (w4.setCell ⟨p, 2, none⟩ (.int .u64 (m4 : Nat))) (.int .u8 4) (.string ⟨#[]⟩) (.int .u64 (m4 : Nat)) (.int .u16 0) (.int .u16 0)
        have HOT := Lib.hid hot
        have HF := Lib.hid hfin
        clear hot hfin
        go_wp2
        refine bodyPost_ret (results_cell_row rfl _ _ B 37 _ (0, 0) _ rfl HF.out Try.underlying37 rfl (by rw [show (kc ⟨4, ⟨#[]⟩, m4, 0, 0⟩).toArray.size = 5 from rfl]; kernel_rfl)) rfl ⟨by rw [HO.out], ?_, ?_⟩
        · rw [HO.out]; unfold RS; rw [HOT.out q (by omega)]; exact h5
        · exact Keep.fin hB (((((k5.trans (Keep.set q B _ B 0 _ (Nat.le_refl _))).trans (Keep.set q B _ B 1 _ (Nat.le_refl _))).trans (Keep.set q B _ B 2 _ (Nat.le_refl _))).trans (Keep.set q B _ B 3 _ (Nat.le_refl _))).trans (Keep.set q B _ B 4 _ (Nat.le_refl _)))
      · by_cases ht : tag = 5
        · subst ht
          go_wp2_with fail
          obtain ⟨ok4, lt4, lu4, se4⟩ := numS_ok hx1 4 (by decide)
          refine (Num_any q x1 hx1 _ h3 4 _ (by omega) (by decide)).mono ?_
          rintro e w4 ⟨rfl, h4, hu4⟩
          have r4 := r3.up hu4 (by omega)
          have d4 := d3.up hu4 (by omega)
          have k4 := k3.trans (Keep.up hu4 (by have := r3.lt; omega))
          obtain ⟨g0, g1, g2, g3, g4⟩ := id d4.c
          try simp only [] at g0 g1 g2 g3 g4
          generalize hN4 : numS x1 4 = n4 at *
          have HN4 := Lib.hid hN4
          clear hN4
          have li4 : ((n4.1 : Nat) : Int) < 4294967296 := by omega
          obtain ⟨m4, x4⟩ := n4
          simp only [] at ok4 lt4 lu4 se4 h4 li4
          simp only []
          go_wp2_with fail
          obtain ⟨ok5, lt5, lu5, se5⟩ := numS_ok ok4 4 (by decide)
          refine (Num_any q x4 ok4 _ h4 4 _ (by omega) (by decide)).mono ?_
          rintro e w5 ⟨rfl, h5, hu5⟩
          have r5 := r4.up hu5 (by omega)
          have d5 := d4.up hu5 (by omega)
          have k5 := k4.trans (Keep.up hu5 (by have := r4.lt; omega))
          obtain ⟨g0, g1, g2, g3, g4⟩ := id d5.c
          try simp only [] at g0 g1 g2 g3 g4
          generalize hN5 : numS x4 4 = n5 at *
          have HN5 := Lib.hid hN5
          clear hN5
          have li5 : ((n5.1 : Nat) : Int) < 4294967296 := by omega
          obtain ⟨m5, x5⟩ := n5
          simp only [] at ok5 lt5 lu5 se5 h5 li5
          simp only []
          have hor := or_u64_32 m4 m5 (by omega) (by omega)
          have hor2 : bits BinOp.or IntKind.u64 ((m4 : Int) * 4294967296) (m5 : Int) = (m4 : Int) * 4294967296 + (m5 : Int) := by rw [hor]; simp
          clear hor
          have fs6 := d5.f 2
          have h6 := h5.other (p := p) 2 (.int .u64 ((m4 : Int) * 4294967296 + (m5 : Int))) (by omega)
          have r6 := r5.other (p := p) 2 (.int .u64 ((m4 : Int) * 4294967296 + (m5 : Int))) (by omega)
          have d6 := d5.set (d := ⟨5, ⟨#[]⟩, m4 * 4294967296 + m5, 0, 0⟩) 2 (.int .u64 ((m4 : Int) * 4294967296 + (m5 : Int))) rfl
          have k6 := k5.trans (Keep.set q B _ p 2 (.int .u64 ((m4 : Int) * 4294967296 + (m5 : Int))) (by omega))
          obtain ⟨g0, g1, g2, g3, g4⟩ := id d6.c
          try simp only [] at g0 g1 g2 g3 g4
          have hone : oneS x = (⟨5, ⟨#[]⟩, m4 * 4294967296 + m5, 0, 0⟩, x5) := by unfold oneS; simp only [HTag.out, HX1.out, HN4.out, HN5.out]; first | (rw [if_neg (by decide), if_neg (by decide), if_pos (by decide)]) | simp [*]
          have HO := Lib.hid hone
          clear hone
          obtain ⟨⟨_, a0⟩, f0, ⟨_, a1⟩, f1, ⟨_, a2⟩, f2, ⟨_, a3⟩, f3, ⟨_, a4⟩, f4, hfin⟩ := CS.fill (c := ⟨5, ⟨#[]⟩, m4 * 4294967296 + m5, 0, 0⟩) r6 (.int .u8 5) (.string ⟨#[]⟩) (.int .u64 ((m4 : Int) * 4294967296 + (m5 : Int))) (.int .u16 0) (.int .u16 0) rfl
          have hot := fill_other (q := B) (p := 0) (w5.setCell ⟨p, 2, none⟩ (.int .u64 ((m4 : Int) * 4294967296 + (m5 : Int)))) (.int .u8 5) (.string ⟨#[]⟩) (.int .u64 ((m4 : Int) * 4294967296 + (m5 : Int))) (.int .u16 0) (.int .u16 0)
          have HOT := Lib.hid hot
          have HF := Lib.hid hfin
          clear hot hfin
          go_wp2
          refine bodyPost_ret (results_cell_row rfl _ _ B 37 _ (0, 0) _ rfl HF.out Try.underlying37 rfl (by rw [show (kc ⟨5, ⟨#[]⟩, m4 * 4294967296 + m5, 0, 0⟩).toArray.size = 5 from rfl]; kernel_rfl)) rfl ⟨by rw [HO.out], ?_, ?_⟩
          · rw [HO.out]; unfold RS; rw [HOT.out q (by omega)]; exact h6
          · exact Keep.fin hB (((((k6.trans (Keep.set q B _ B 0 _ (Nat.le_refl _))).trans (Keep.set q B _ B 1 _ (Nat.le_refl _))).trans (Keep.set q B _ B 2 _ (Nat.le_refl _))).trans (Keep.set q B _ B 3 _ (Nat.le_refl _))).trans (Keep.set q B _ B 4 _ (Nat.le_refl _)))
        · by_cases ht : tag = 6
          · subst ht
            go_wp2_with fail
            obtain ⟨ok4, lt4, lu4, se4⟩ := numS_ok hx1 4 (by decide)
            refine (Num_any q x1 hx1 _ h3 4 _ (by omega) (by decide)).mono ?_
            rintro e w4 ⟨rfl, h4, hu4⟩
            have r4 := r3.up hu4 (by omega)
            have d4 := d3.up hu4 (by omega)
            have k4 := k3.trans (Keep.up hu4 (by have := r3.lt; omega))
            obtain ⟨g0, g1, g2, g3, g4⟩ := id d4.c
            try simp only [] at g0 g1 g2 g3 g4
            generalize hN4 : numS x1 4 = n4 at *
            have HN4 := Lib.hid hN4
            clear hN4
            have li4 : ((n4.1 : Nat) : Int) < 4294967296 := by omega
            obtain ⟨m4, x4⟩ := n4
            simp only [] at ok4 lt4 lu4 se4 h4 li4
            simp only []
            go_wp2_with fail
            obtain ⟨ok5, lt5, lu5, se5⟩ := numS_ok ok4 4 (by decide)
            refine (Num_any q x4 ok4 _ h4 4 _ (by omega) (by decide)).mono ?_
            rintro e w5 ⟨rfl, h5, hu5⟩
            have r5 := r4.up hu5 (by omega)
            have d5 := d4.up hu5 (by omega)
            have k5 := k4.trans (Keep.up hu5 (by have := r4.lt; omega))
            obtain ⟨g0, g1, g2, g3, g4⟩ := id d5.c
            try simp only [] at g0 g1 g2 g3 g4
            generalize hN5 : numS x4 4 = n5 at *
            have HN5 := Lib.hid hN5
            clear hN5
            have li5 : ((n5.1 : Nat) : Int) < 4294967296 := by omega
            obtain ⟨m5, x5⟩ := n5
            simp only [] at ok5 lt5 lu5 se5 h5 li5
            simp only []
            have hor := or_u64_32 m4 m5 (by omega) (by omega)
            have hor2 : bits BinOp.or IntKind.u64 ((m4 : Int) * 4294967296) (m5 : Int) = (m4 : Int) * 4294967296 + (m5 : Int) := by rw [hor]; simp
            clear hor
            have fs6 := d5.f 2
            have h6 := h5.other (p := p) 2 (.int .u64 ((m4 : Int) * 4294967296 + (m5 : Int))) (by omega)
            have r6 := r5.other (p := p) 2 (.int .u64 ((m4 : Int) * 4294967296 + (m5 : Int))) (by omega)
            have d6 := d5.set (d := ⟨6, ⟨#[]⟩, m4 * 4294967296 + m5, 0, 0⟩) 2 (.int .u64 ((m4 : Int) * 4294967296 + (m5 : Int))) rfl
            have k6 := k5.trans (Keep.set q B _ p 2 (.int .u64 ((m4 : Int) * 4294967296 + (m5 : Int))) (by omega))
            obtain ⟨g0, g1, g2, g3, g4⟩ := id d6.c
            try simp only [] at g0 g1 g2 g3 g4
            have hone : oneS x = (⟨6, ⟨#[]⟩, m4 * 4294967296 + m5, 0, 0⟩, x5) := by unfold oneS; simp only [HTag.out, HX1.out, HN4.out, HN5.out]; first | (rw [if_neg (by decide), if_neg (by decide), if_pos (by decide)]) | simp [*]
            have HO := Lib.hid hone
            clear hone
            obtain ⟨⟨_, a0⟩, f0, ⟨_, a1⟩, f1, ⟨_, a2⟩, f2, ⟨_, a3⟩, f3, ⟨_, a4⟩, f4, hfin⟩ := CS.fill (c := ⟨6, ⟨#[]⟩, m4 * 4294967296 + m5, 0, 0⟩) r6 (.int .u8 6) (.string ⟨#[]⟩) (.int .u64 ((m4 : Int) * 4294967296 + (m5 : Int))) (.int .u16 0) (.int .u16 0) rfl
            have hot := fill_other (q := B) (p := 0) (w5.setCell ⟨p, 2, none⟩ (.int .u64 ((m4 : Int) * 4294967296 + (m5 : Int)))) (.int .u8 6) (.string ⟨#[]⟩) (.int .u64 ((m4 : Int) * 4294967296 + (m5 : Int))) (.int .u16 0) (.int .u16 0)
            have HOT := Lib.hid hot
            have HF := Lib.hid hfin
            clear hot hfin
            go_wp2
            refine bodyPost_ret (results_cell_row rfl _ _ B 37 _ (0, 0) _ rfl HF.out Try.underlying37 rfl (by rw [show (kc ⟨6, ⟨#[]⟩, m4 * 4294967296 + m5, 0, 0⟩).toArray.size = 5 from rfl]; kernel_rfl)) rfl ⟨by rw [HO.out], ?_, ?_⟩
            · rw [HO.out]; unfold RS; rw [HOT.out q (by omega)]; exact h6
            · exact Keep.fin hB (((((k6.trans (Keep.set q B _ B 0 _ (Nat.le_refl _))).trans (Keep.set q B _ B 1 _ (Nat.le_refl _))).trans (Keep.set q B _ B 2 _ (Nat.le_refl _))).trans (Keep.set q B _ B 3 _ (Nat.le_refl _))).trans (Keep.set q B _ B 4 _ (Nat.le_refl _)))
          · by_cases ht : tag = 7
            · subst ht
              go_wp2_with fail
              obtain ⟨ok4, lt4, lu4, se4⟩ := numS_ok hx1 2 (by decide)
              refine (Index_any q x1 hx1 _ h3).mono ?_
              rintro e w4 ⟨rfl, h4, hu4⟩
              have r4 := r3.up hu4 (by omega)
              have d4 := d3.up hu4 (by omega)
              have k4 := k3.trans (Keep.up hu4 (by have := r3.lt; omega))
              obtain ⟨g0, g1, g2, g3, g4⟩ := id d4.c
              try simp only [] at g0 g1 g2 g3 g4
              generalize hN4 : numS x1 2 = n4 at *
              have HN4 := Lib.hid hN4
              clear hN4
              have li4 : ((n4.1 : Nat) : Int) < 65536 := by omega
              obtain ⟨m4, x4⟩ := n4
              simp only [] at ok4 lt4 lu4 se4 h4 li4
              simp only []
              have fs5 := d4.f 3
              have h5 := h4.other (p := p) 3 (.int .u16 (m4 : Nat)) (by omega)
              have r5 := r4.other (p := p) 3 (.int .u16 (m4 : Nat)) (by omega)
              have d5 := d4.set (d := ⟨7, ⟨#[]⟩, 0, m4, 0⟩) 3 (.int .u16 (m4 : Nat)) rfl
              have k5 := k4.trans (Keep.set q B _ p 3 (.int .u16 (m4 : Nat)) (by omega))
              obtain ⟨g0, g1, g2, g3, g4⟩ := id d5.c
              try simp only [] at g0 g1 g2 g3 g4
              have hone : oneS x = (⟨7, ⟨#[]⟩, 0, m4, 0⟩, x4) := by unfold oneS; simp only [HTag.out, HX1.out, HN4.out]; first | (rw [if_neg (by decide), if_neg (by decide), if_neg (by decide), if_pos (by decide)]) | simp [*]
              have HO := Lib.hid hone
              clear hone
              obtain ⟨⟨_, a0⟩, f0, ⟨_, a1⟩, f1, ⟨_, a2⟩, f2, ⟨_, a3⟩, f3, ⟨_, a4⟩, f4, hfin⟩ := CS.fill (c := ⟨7, ⟨#[]⟩, 0, m4, 0⟩) r5 (.int .u8 7) (.string ⟨#[]⟩) (.int .u64 0) (.int .u16 (m4 : Nat)) (.int .u16 0) rfl
              have hot := fill_other (q := B) (p := 0) (w4.setCell ⟨p, 3, none⟩ (.int .u16 (m4 : Nat))) (.int .u8 7) (.string ⟨#[]⟩) (.int .u64 0) (.int .u16 (m4 : Nat)) (.int .u16 0)
              have HOT := Lib.hid hot
              have HF := Lib.hid hfin
              clear hot hfin
              go_wp2
              refine bodyPost_ret (results_cell_row rfl _ _ B 37 _ (0, 0) _ rfl HF.out Try.underlying37 rfl (by rw [show (kc ⟨7, ⟨#[]⟩, 0, m4, 0⟩).toArray.size = 5 from rfl]; kernel_rfl)) rfl ⟨by rw [HO.out], ?_, ?_⟩
              · rw [HO.out]; unfold RS; rw [HOT.out q (by omega)]; exact h5
              · exact Keep.fin hB (((((k5.trans (Keep.set q B _ B 0 _ (Nat.le_refl _))).trans (Keep.set q B _ B 1 _ (Nat.le_refl _))).trans (Keep.set q B _ B 2 _ (Nat.le_refl _))).trans (Keep.set q B _ B 3 _ (Nat.le_refl _))).trans (Keep.set q B _ B 4 _ (Nat.le_refl _)))
            · by_cases ht : tag = 8
              · subst ht
                go_wp2_with fail
                obtain ⟨ok4, lt4, lu4, se4⟩ := numS_ok hx1 2 (by decide)
                refine (Index_any q x1 hx1 _ h3).mono ?_
                rintro e w4 ⟨rfl, h4, hu4⟩
                have r4 := r3.up hu4 (by omega)
                have d4 := d3.up hu4 (by omega)
                have k4 := k3.trans (Keep.up hu4 (by have := r3.lt; omega))
                obtain ⟨g0, g1, g2, g3, g4⟩ := id d4.c
                try simp only [] at g0 g1 g2 g3 g4
                generalize hN4 : numS x1 2 = n4 at *
                have HN4 := Lib.hid hN4
                clear hN4
                have li4 : ((n4.1 : Nat) : Int) < 65536 := by omega
                obtain ⟨m4, x4⟩ := n4
                simp only [] at ok4 lt4 lu4 se4 h4 li4
                simp only []
                have fs5 := d4.f 3
                have h5 := h4.other (p := p) 3 (.int .u16 (m4 : Nat)) (by omega)
                have r5 := r4.other (p := p) 3 (.int .u16 (m4 : Nat)) (by omega)
                have d5 := d4.set (d := ⟨8, ⟨#[]⟩, 0, m4, 0⟩) 3 (.int .u16 (m4 : Nat)) rfl
                have k5 := k4.trans (Keep.set q B _ p 3 (.int .u16 (m4 : Nat)) (by omega))
                obtain ⟨g0, g1, g2, g3, g4⟩ := id d5.c
                try simp only [] at g0 g1 g2 g3 g4
                have hone : oneS x = (⟨8, ⟨#[]⟩, 0, m4, 0⟩, x4) := by unfold oneS; simp only [HTag.out, HX1.out, HN4.out]; first | (rw [if_neg (by decide), if_neg (by decide), if_neg (by decide), if_pos (by decide)]) | simp [*]
                have HO := Lib.hid hone
                clear hone
                obtain ⟨⟨_, a0⟩, f0, ⟨_, a1⟩, f1, ⟨_, a2⟩, f2, ⟨_, a3⟩, f3, ⟨_, a4⟩, f4, hfin⟩ := CS.fill (c := ⟨8, ⟨#[]⟩, 0, m4, 0⟩) r5 (.int .u8 8) (.string ⟨#[]⟩) (.int .u64 0) (.int .u16 (m4 : Nat)) (.int .u16 0) rfl
                have hot := fill_other (q := B) (p := 0) (w4.setCell ⟨p, 3, none⟩ (.int .u16 (m4 : Nat))) (.int .u8 8) (.string ⟨#[]⟩) (.int .u64 0) (.int .u16 (m4 : Nat)) (.int .u16 0)
                have HOT := Lib.hid hot
                have HF := Lib.hid hfin
                clear hot hfin
                go_wp2
                refine bodyPost_ret (results_cell_row rfl _ _ B 37 _ (0, 0) _ rfl HF.out Try.underlying37 rfl (by rw [show (kc ⟨8, ⟨#[]⟩, 0, m4, 0⟩).toArray.size = 5 from rfl]; kernel_rfl)) rfl ⟨by rw [HO.out], ?_, ?_⟩
                · rw [HO.out]; unfold RS; rw [HOT.out q (by omega)]; exact h5
                · exact Keep.fin hB (((((k5.trans (Keep.set q B _ B 0 _ (Nat.le_refl _))).trans (Keep.set q B _ B 1 _ (Nat.le_refl _))).trans (Keep.set q B _ B 2 _ (Nat.le_refl _))).trans (Keep.set q B _ B 3 _ (Nat.le_refl _))).trans (Keep.set q B _ B 4 _ (Nat.le_refl _)))
              · by_cases ht : tag = 9
                · subst ht
                  go_wp2_with fail
                  obtain ⟨ok4, lt4, lu4, se4⟩ := numS_ok hx1 2 (by decide)
                  refine (Index_any q x1 hx1 _ h3).mono ?_
                  rintro e w4 ⟨rfl, h4, hu4⟩
                  have r4 := r3.up hu4 (by omega)
                  have d4 := d3.up hu4 (by omega)
                  have k4 := k3.trans (Keep.up hu4 (by have := r3.lt; omega))
                  obtain ⟨g0, g1, g2, g3, g4⟩ := id d4.c
                  try simp only [] at g0 g1 g2 g3 g4
                  generalize hN4 : numS x1 2 = n4 at *
                  have HN4 := Lib.hid hN4
                  clear hN4
                  have li4 : ((n4.1 : Nat) : Int) < 65536 := by omega
                  obtain ⟨m4, x4⟩ := n4
                  simp only [] at ok4 lt4 lu4 se4 h4 li4
                  simp only []
                  go_wp2_with fail
                  obtain ⟨ok5, lt5, lu5, se5⟩ := numS_ok ok4 2 (by decide)
                  refine (Index_any q x4 ok4 _ h4).mono ?_
                  rintro e w5 ⟨rfl, h5, hu5⟩
                  have r5 := r4.up hu5 (by omega)
                  have d5 := d4.up hu5 (by omega)
                  have k5 := k4.trans (Keep.up hu5 (by have := r4.lt; omega))
                  obtain ⟨g0, g1, g2, g3, g4⟩ := id d5.c
                  try simp only [] at g0 g1 g2 g3 g4
                  generalize hN5 : numS x4 2 = n5 at *
                  have HN5 := Lib.hid hN5
                  clear hN5
                  have li5 : ((n5.1 : Nat) : Int) < 65536 := by omega
                  obtain ⟨m5, x5⟩ := n5
                  simp only [] at ok5 lt5 lu5 se5 h5 li5
                  simp only []
                  have fs6 := d5.f 3
                  have h6 := h5.other (p := p) 3 (.int .u16 (m4 : Nat)) (by omega)
                  have r6 := r5.other (p := p) 3 (.int .u16 (m4 : Nat)) (by omega)
                  have d6 := d5.set (d := ⟨9, ⟨#[]⟩, 0, m4, 0⟩) 3 (.int .u16 (m4 : Nat)) rfl
                  have k6 := k5.trans (Keep.set q B _ p 3 (.int .u16 (m4 : Nat)) (by omega))
                  obtain ⟨g0, g1, g2, g3, g4⟩ := id d6.c
                  try simp only [] at g0 g1 g2 g3 g4
                  have fs7 := d6.f 4
                  have h7 := h6.other (p := p) 4 (.int .u16 (m5 : Nat)) (by omega)
                  have r7 := r6.other (p := p) 4 (.int .u16 (m5 : Nat)) (by omega)
                  have d7 := d6.set (d := ⟨9, ⟨#[]⟩, 0, m4, m5⟩) 4 (.int .u16 (m5 : Nat)) rfl
                  have k7 := k6.trans (Keep.set q B _ p 4 (.int .u16 (m5 : Nat)) (by omega))
                  obtain ⟨g0, g1, g2, g3, g4⟩ := id d7.c
                  try simp only [] at g0 g1 g2 g3 g4
                  have hone : oneS x = (⟨9, ⟨#[]⟩, 0, m4, m5⟩, x5) := by unfold oneS; simp only [HTag.out, HX1.out, HN4.out, HN5.out]; first | (rw [if_neg (by decide), if_neg (by decide), if_neg (by decide), if_neg (by decide), if_pos (by decide)]) | simp [*]
                  have HO := Lib.hid hone
                  clear hone
                  obtain ⟨⟨_, a0⟩, f0, ⟨_, a1⟩, f1, ⟨_, a2⟩, f2, ⟨_, a3⟩, f3, ⟨_, a4⟩, f4, hfin⟩ := CS.fill (c := ⟨9, ⟨#[]⟩, 0, m4, m5⟩) r7 (.int .u8 9) (.string ⟨#[]⟩) (.int .u64 0) (.int .u16 (m4 : Nat)) (.int .u16 (m5 : Nat)) rfl
                  have hot := fill_other (q := B) (p := 0) ((w5.setCell ⟨p, 3, none⟩ (.int .u16 (m4 : Nat))).setCell ⟨p, 4, none⟩ (.int .u16 (m5 : Nat))) (.int .u8 9) (.string ⟨#[]⟩) (.int .u64 0) (.int .u16 (m4 : Nat)) (.int .u16 (m5 : Nat))
                  have HOT := Lib.hid hot
                  have HF := Lib.hid hfin
                  clear hot hfin
                  go_wp2
                  refine bodyPost_ret (results_cell_row rfl _ _ B 37 _ (0, 0) _ rfl HF.out Try.underlying37 rfl (by rw [show (kc ⟨9, ⟨#[]⟩, 0, m4, m5⟩).toArray.size = 5 from rfl]; kernel_rfl)) rfl ⟨by rw [HO.out], ?_, ?_⟩
                  · rw [HO.out]; unfold RS; rw [HOT.out q (by omega)]; exact h7
                  · exact Keep.fin hB (((((k7.trans (Keep.set q B _ B 0 _ (Nat.le_refl _))).trans (Keep.set q B _ B 1 _ (Nat.le_refl _))).trans (Keep.set q B _ B 2 _ (Nat.le_refl _))).trans (Keep.set q B _ B 3 _ (Nat.le_refl _))).trans (Keep.set q B _ B 4 _ (Nat.le_refl _)))
                · by_cases ht : tag = 10
                  · subst ht
                    go_wp2_with fail
                    obtain ⟨ok4, lt4, lu4, se4⟩ := numS_ok hx1 2 (by decide)
                    refine (Index_any q x1 hx1 _ h3).mono ?_
                    rintro e w4 ⟨rfl, h4, hu4⟩
                    have r4 := r3.up hu4 (by omega)
                    have d4 := d3.up hu4 (by omega)
                    have k4 := k3.trans (Keep.up hu4 (by have := r3.lt; omega))
                    obtain ⟨g0, g1, g2, g3, g4⟩ := id d4.c
                    try simp only [] at g0 g1 g2 g3 g4
                    generalize hN4 : numS x1 2 = n4 at *
                    have HN4 := Lib.hid hN4
                    clear hN4
                    have li4 : ((n4.1 : Nat) : Int) < 65536 := by omega
                    obtain ⟨m4, x4⟩ := n4
                    simp only [] at ok4 lt4 lu4 se4 h4 li4
                    simp only []
                    go_wp2_with fail
                    obtain ⟨ok5, lt5, lu5, se5⟩ := numS_ok ok4 2 (by decide)
                    refine (Index_any q x4 ok4 _ h4).mono ?_
                    rintro e w5 ⟨rfl, h5, hu5⟩
                    have r5 := r4.up hu5 (by omega)
                    have d5 := d4.up hu5 (by omega)
                    have k5 := k4.trans (Keep.up hu5 (by have := r4.lt; omega))
                    obtain ⟨g0, g1, g2, g3, g4⟩ := id d5.c
                    try simp only [] at g0 g1 g2 g3 g4
                    generalize hN5 : numS x4 2 = n5 at *
                    have HN5 := Lib.hid hN5
                    clear hN5
                    have li5 : ((n5.1 : Nat) : Int) < 65536 := by omega
                    obtain ⟨m5, x5⟩ := n5
                    simp only [] at ok5 lt5 lu5 se5 h5 li5
                    simp only []
                    have fs6 := d5.f 3
                    have h6 := h5.other (p := p) 3 (.int .u16 (m4 : Nat)) (by omega)
                    have r6 := r5.other (p := p) 3 (.int .u16 (m4 : Nat)) (by omega)
                    have d6 := d5.set (d := ⟨10, ⟨#[]⟩, 0, m4, 0⟩) 3 (.int .u16 (m4 : Nat)) rfl
                    have k6 := k5.trans (Keep.set q B _ p 3 (.int .u16 (m4 : Nat)) (by omega))
                    obtain ⟨g0, g1, g2, g3, g4⟩ := id d6.c
                    try simp only [] at g0 g1 g2 g3 g4
                    have fs7 := d6.f 4
                    have h7 := h6.other (p := p) 4 (.int .u16 (m5 : Nat)) (by omega)
                    have r7 := r6.other (p := p) 4 (.int .u16 (m5 : Nat)) (by omega)
                    have d7 := d6.set (d := ⟨10, ⟨#[]⟩, 0, m4, m5⟩) 4 (.int .u16 (m5 : Nat)) rfl
                    have k7 := k6.trans (Keep.set q B _ p 4 (.int .u16 (m5 : Nat)) (by omega))
                    obtain ⟨g0, g1, g2, g3, g4⟩ := id d7.c
                    try simp only [] at g0 g1 g2 g3 g4
                    have hone : oneS x = (⟨10, ⟨#[]⟩, 0, m4, m5⟩, x5) := by unfold oneS; simp only [HTag.out, HX1.out, HN4.out, HN5.out]; first | (rw [if_neg (by decide), if_neg (by decide), if_neg (by decide), if_neg (by decide), if_pos (by decide)]) | simp [*]
                    have HO := Lib.hid hone
                    clear hone
                    obtain ⟨⟨_, a0⟩, f0, ⟨_, a1⟩, f1, ⟨_, a2⟩, f2, ⟨_, a3⟩, f3, ⟨_, a4⟩, f4, hfin⟩ := CS.fill (c := ⟨10, ⟨#[]⟩, 0, m4, m5⟩) r7 (.int .u8 10) (.string ⟨#[]⟩) (.int .u64 0) (.int .u16 (m4 : Nat)) (.int .u16 (m5 : Nat)) rfl
                    have hot := fill_other (q := B) (p := 0) ((w5.setCell ⟨p, 3, none⟩ (.int .u16 (m4 : Nat))).setCell ⟨p, 4, none⟩ (.int .u16 (m5 : Nat))) (.int .u8 10) (.string ⟨#[]⟩) (.int .u64 0) (.int .u16 (m4 : Nat)) (.int .u16 (m5 : Nat))
                    have HOT := Lib.hid hot
                    have HF := Lib.hid hfin
                    clear hot hfin
                    go_wp2
                    refine bodyPost_ret (results_cell_row rfl _ _ B 37 _ (0, 0) _ rfl HF.out Try.underlying37 rfl (by rw [show (kc ⟨10, ⟨#[]⟩, 0, m4, m5⟩).toArray.size = 5 from rfl]; kernel_rfl)) rfl ⟨by rw [HO.out], ?_, ?_⟩
                    · rw [HO.out]; unfold RS; rw [HOT.out q (by omega)]; exact h7
                    · exact Keep.fin hB (((((k7.trans (Keep.set q B _ B 0 _ (Nat.le_refl _))).trans (Keep.set q B _ B 1 _ (Nat.le_refl _))).trans (Keep.set q B _ B 2 _ (Nat.le_refl _))).trans (Keep.set q B _ B 3 _ (Nat.le_refl _))).trans (Keep.set q B _ B 4 _ (Nat.le_refl _)))
                  · by_cases ht : tag = 11
                    · subst ht
                      go_wp2_with fail
                      obtain ⟨ok4, lt4, lu4, se4⟩ := numS_ok hx1 2 (by decide)
                      refine (Index_any q x1 hx1 _ h3).mono ?_
                      rintro e w4 ⟨rfl, h4, hu4⟩
                      have r4 := r3.up hu4 (by omega)
                      have d4 := d3.up hu4 (by omega)
                      have k4 := k3.trans (Keep.up hu4 (by have := r3.lt; omega))
                      obtain ⟨g0, g1, g2, g3, g4⟩ := id d4.c
                      try simp only [] at g0 g1 g2 g3 g4
                      generalize hN4 : numS x1 2 = n4 at *
                      have HN4 := Lib.hid hN4
                      clear hN4
                      have li4 : ((n4.1 : Nat) : Int) < 65536 := by omega
                      obtain ⟨m4, x4⟩ := n4
                      simp only [] at ok4 lt4 lu4 se4 h4 li4
                      simp only []
                      go_wp2_with fail
                      obtain ⟨ok5, lt5, lu5, se5⟩ := numS_ok ok4 2 (by decide)
                      refine (Index_any q x4 ok4 _ h4).mono ?_
                      rintro e w5 ⟨rfl, h5, hu5⟩
                      have r5 := r4.up hu5 (by omega)
                      have d5 := d4.up hu5 (by omega)
                      have k5 := k4.trans (Keep.up hu5 (by have := r4.lt; omega))
                      obtain ⟨g0, g1, g2, g3, g4⟩ := id d5.c
                      try simp only [] at g0 g1 g2 g3 g4
                      generalize hN5 : numS x4 2 = n5 at *
                      have HN5 := Lib.hid hN5
                      clear hN5
                      have li5 : ((n5.1 : Nat) : Int) < 65536 := by omega
                      obtain ⟨m5, x5⟩ := n5
                      simp only [] at ok5 lt5 lu5 se5 h5 li5
                      simp only []
                      have fs6 := d5.f 3
                      have h6 := h5.other (p := p) 3 (.int .u16 (m4 : Nat)) (by omega)
                      have r6 := r5.other (p := p) 3 (.int .u16 (m4 : Nat)) (by omega)
                      have d6 := d5.set (d := ⟨11, ⟨#[]⟩, 0, m4, 0⟩) 3 (.int .u16 (m4 : Nat)) rfl
                      have k6 := k5.trans (Keep.set q B _ p 3 (.int .u16 (m4 : Nat)) (by omega))
                      obtain ⟨g0, g1, g2, g3, g4⟩ := id d6.c
                      try simp only [] at g0 g1 g2 g3 g4
                      have fs7 := d6.f 4
                      have h7 := h6.other (p := p) 4 (.int .u16 (m5 : Nat)) (by omega)
                      have r7 := r6.other (p := p) 4 (.int .u16 (m5 : Nat)) (by omega)
                      have d7 := d6.set (d := ⟨11, ⟨#[]⟩, 0, m4, m5⟩) 4 (.int .u16 (m5 : Nat)) rfl
                      have k7 := k6.trans (Keep.set q B _ p 4 (.int .u16 (m5 : Nat)) (by omega))
                      obtain ⟨g0, g1, g2, g3, g4⟩ := id d7.c
                      try simp only [] at g0 g1 g2 g3 g4
                      have hone : oneS x = (⟨11, ⟨#[]⟩, 0, m4, m5⟩, x5) := by unfold oneS; simp only [HTag.out, HX1.out, HN4.out, HN5.out]; first | (rw [if_neg (by decide), if_neg (by decide), if_neg (by decide), if_neg (by decide), if_pos (by decide)]) | simp [*]
                      have HO := Lib.hid hone
                      clear hone
                      obtain ⟨⟨_, a0⟩, f0, ⟨_, a1⟩, f1, ⟨_, a2⟩, f2, ⟨_, a3⟩, f3, ⟨_, a4⟩, f4, hfin⟩ := CS.fill (c := ⟨11, ⟨#[]⟩, 0, m4, m5⟩) r7 (.int .u8 11) (.string ⟨#[]⟩) (.int .u64 0) (.int .u16 (m4 : Nat)) (.int .u16 (m5 : Nat)) rfl
                      have hot := fill_other (q := B) (p := 0) ((w5.setCell ⟨p, 3, none⟩ (.int .u16 (m4 : Nat))).setCell ⟨p, 4, none⟩ (.int .u16 (m5 : Nat))) (.int .u8 11) (.string ⟨#[]⟩) (.int .u64 0) (.int .u16 (m4 : Nat)) (.int .u16 (m5 : Nat))
                      have HOT := Lib.hid hot
                      have HF := Lib.hid hfin
                      clear hot hfin
                      go_wp2
                      refine bodyPost_ret (results_cell_row rfl _ _ B 37 _ (0, 0) _ rfl HF.out Try.underlying37 rfl (by rw [show (kc ⟨11, ⟨#[]⟩, 0, m4, m5⟩).toArray.size = 5 from rfl]; kernel_rfl)) rfl ⟨by rw [HO.out], ?_, ?_⟩
                      · rw [HO.out]; unfold RS; rw [HOT.out q (by omega)]; exact h7
                      · exact Keep.fin hB (((((k7.trans (Keep.set q B _ B 0 _ (Nat.le_refl _))).trans (Keep.set q B _ B 1 _ (Nat.le_refl _))).trans (Keep.set q B _ B 2 _ (Nat.le_refl _))).trans (Keep.set q B _ B 3 _ (Nat.le_refl _))).trans (Keep.set q B _ B 4 _ (Nat.le_refl _)))
                    · by_cases ht : tag = 12
                      · subst ht
                        go_wp2_with fail
                        obtain ⟨ok4, lt4, lu4, se4⟩ := numS_ok hx1 2 (by decide)
                        refine (Index_any q x1 hx1 _ h3).mono ?_
                        rintro e w4 ⟨rfl, h4, hu4⟩
                        have r4 := r3.up hu4 (by omega)
                        have d4 := d3.up hu4 (by omega)
                        have k4 := k3.trans (Keep.up hu4 (by have := r3.lt; omega))
                        obtain ⟨g0, g1, g2, g3, g4⟩ := id d4.c
                        try simp only [] at g0 g1 g2 g3 g4
                        generalize hN4 : numS x1 2 = n4 at *
                        have HN4 := Lib.hid hN4
                        clear hN4
                        have li4 : ((n4.1 : Nat) : Int) < 65536 := by omega
                        obtain ⟨m4, x4⟩ := n4
                        simp only [] at ok4 lt4 lu4 se4 h4 li4
                        simp only []
                        go_wp2_with fail
                        obtain ⟨ok5, lt5, lu5, se5⟩ := numS_ok ok4 2 (by decide)
                        refine (Index_any q x4 ok4 _ h4).mono ?_
                        rintro e w5 ⟨rfl, h5, hu5⟩
                        have r5 := r4.up hu5 (by omega)
                        have d5 := d4.up hu5 (by omega)
                        have k5 := k4.trans (Keep.up hu5 (by have := r4.lt; omega))
                        obtain ⟨g0, g1, g2, g3, g4⟩ := id d5.c
                        try simp only [] at g0 g1 g2 g3 g4
                        generalize hN5 : numS x4 2 = n5 at *
                        have HN5 := Lib.hid hN5
                        clear hN5
                        have li5 : ((n5.1 : Nat) : Int) < 65536 := by omega
                        obtain ⟨m5, x5⟩ := n5
                        simp only [] at ok5 lt5 lu5 se5 h5 li5
                        simp only []
                        have fs6 := d5.f 3
                        have h6 := h5.other (p := p) 3 (.int .u16 (m4 : Nat)) (by omega)
                        have r6 := r5.other (p := p) 3 (.int .u16 (m4 : Nat)) (by omega)
                        have d6 := d5.set (d := ⟨12, ⟨#[]⟩, 0, m4, 0⟩) 3 (.int .u16 (m4 : Nat)) rfl
                        have k6 := k5.trans (Keep.set q B _ p 3 (.int .u16 (m4 : Nat)) (by omega))
                        obtain ⟨g0, g1, g2, g3, g4⟩ := id d6.c
                        try simp only [] at g0 g1 g2 g3 g4
                        have fs7 := d6.f 4
                        have h7 := h6.other (p := p) 4 (.int .u16 (m5 : Nat)) (by omega)
                        have r7 := r6.other (p := p) 4 (.int .u16 (m5 : Nat)) (by omega)
                        have d7 := d6.set (d := ⟨12, ⟨#[]⟩, 0, m4, m5⟩) 4 (.int .u16 (m5 : Nat)) rfl
                        have k7 := k6.trans (Keep.set q B _ p 4 (.int .u16 (m5 : Nat)) (by omega))
                        obtain ⟨g0, g1, g2, g3, g4⟩ := id d7.c
                        try simp only [] at g0 g1 g2 g3 g4
                        have hone : oneS x = (⟨12, ⟨#[]⟩, 0, m4, m5⟩, x5) := by unfold oneS; simp only [HTag.out, HX1.out, HN4.out, HN5.out]; first | (rw [if_neg (by decide), if_neg (by decide), if_neg (by decide), if_neg (by decide), if_pos (by decide)]) | simp [*]
                        have HO := Lib.hid hone
                        clear hone
                        obtain ⟨⟨_, a0⟩, f0, ⟨_, a1⟩, f1, ⟨_, a2⟩, f2, ⟨_, a3⟩, f3, ⟨_, a4⟩, f4, hfin⟩ := CS.fill (c := ⟨12, ⟨#[]⟩, 0, m4, m5⟩) r7 (.int .u8 12) (.string ⟨#[]⟩) (.int .u64 0) (.int .u16 (m4 : Nat)) (.int .u16 (m5 : Nat)) rfl
                        have hot := fill_other (q := B) (p := 0) ((w5.setCell ⟨p, 3, none⟩ (.int .u16 (m4 : Nat))).setCell ⟨p, 4, none⟩ (.int .u16 (m5 : Nat))) (.int .u8 12) (.string ⟨#[]⟩) (.int .u64 0) (.int .u16 (m4 : Nat)) (.int .u16 (m5 : Nat))
                        have HOT := Lib.hid hot
                        have HF := Lib.hid hfin
                        clear hot hfin
                        go_wp2
                        refine bodyPost_ret (results_cell_row rfl _ _ B 37 _ (0, 0) _ rfl HF.out Try.underlying37 rfl (by rw [show (kc ⟨12, ⟨#[]⟩, 0, m4, m5⟩).toArray.size = 5 from rfl]; kernel_rfl)) rfl ⟨by rw [HO.out], ?_, ?_⟩
                        · rw [HO.out]; unfold RS; rw [HOT.out q (by omega)]; exact h7
                        · exact Keep.fin hB (((((k7.trans (Keep.set q B _ B 0 _ (Nat.le_refl _))).trans (Keep.set q B _ B 1 _ (Nat.le_refl _))).trans (Keep.set q B _ B 2 _ (Nat.le_refl _))).trans (Keep.set q B _ B 3 _ (Nat.le_refl _))).trans (Keep.set q B _ B 4 _ (Nat.le_refl _)))
                      · have ht : tag ≠ 1 ∧ (tag < 3 ∨ 12 < tag) := by omega
                        have e1 : ((tag : Int) == 1) = false := by rw [beq_eq_false_iff_ne]; omega
                        have e3 : ((tag : Int) == 3) = false := by rw [beq_eq_false_iff_ne]; omega
                        have e4 : ((tag : Int) == 4) = false := by rw [beq_eq_false_iff_ne]; omega
                        have e5 : ((tag : Int) == 5) = false := by rw [beq_eq_false_iff_ne]; omega
                        have e6 : ((tag : Int) == 6) = false := by rw [beq_eq_false_iff_ne]; omega
                        have e7 : ((tag : Int) == 7) = false := by rw [beq_eq_false_iff_ne]; omega
                        have e8 : ((tag : Int) == 8) = false := by rw [beq_eq_false_iff_ne]; omega
                        have e9 : ((tag : Int) == 9) = false := by rw [beq_eq_false_iff_ne]; omega
                        have e10 : ((tag : Int) == 10) = false := by rw [beq_eq_false_iff_ne]; omega
                        have e11 : ((tag : Int) == 11) = false := by rw [beq_eq_false_iff_ne]; omega
                        have e12 : ((tag : Int) == 12) = false := by rw [beq_eq_false_iff_ne]; omega
                        have hone : oneS x = (⟨tag, ⟨#[]⟩, 0, 0, 0⟩, failS x1 5 x.pos) := by unfold oneS; simp only [HTag.out, HX1.out]; first | (rw [if_neg (by omega), if_neg (by omega), if_neg (by omega), if_neg (by omega), if_neg (by omega)]) | simp [*]
                        have HO := Lib.hid hone
                        clear hone
                        clear ht
                        go_wp2_with fail
                        refine (Fail_any q x1 w3 h3 5 x.pos _ _ (by omega) (by omega)).mono ?_
                        rintro e w4 ⟨rfl, h4, hu4⟩
                        have r4 := r3.up hu4 (by omega)
                        have d4 := d3.up hu4 (by omega)
                        have k4 := k3.trans (Keep.up hu4 (by have := r3.lt; omega))
                        obtain ⟨g0, g1, g2, g3, g4⟩ := id d4.c
                        try simp only [] at g0 g1 g2 g3 g4
                        obtain ⟨⟨_, a0⟩, f0, ⟨_, a1⟩, f1, ⟨_, a2⟩, f2, ⟨_, a3⟩, f3, ⟨_, a4⟩, f4, hfin⟩ := CS.fill (c := ⟨tag, ⟨#[]⟩, 0, 0, 0⟩) r4 (.int .u8 (tag : Nat)) (.string ⟨#[]⟩) (.int .u64 0) (.int .u16 0) (.int .u16 0) rfl
                        have hot := fill_other (q := B) (p := 0) w4 (.int .u8 (tag : Nat)) (.string ⟨#[]⟩) (.int .u64 0) (.int .u16 0) (.int .u16 0)
                        have HOT := Lib.hid hot
                        have HF := Lib.hid hfin
                        clear hot hfin
                        go_wp2
                        refine bodyPost_ret (results_cell_row rfl _ _ B 37 _ (0, 0) _ rfl HF.out Try.underlying37 rfl (by rw [show (kc ⟨tag, ⟨#[]⟩, 0, 0, 0⟩).toArray.size = 5 from rfl]; kernel_rfl)) rfl ⟨by rw [HO.out], ?_, ?_⟩
                        · rw [HO.out]; unfold RS; rw [HOT.out q (by omega)]; exact h4
                        · exact Keep.fin hB (((((k4.trans (Keep.set q B _ B 0 _ (Nat.le_refl _))).trans (Keep.set q B _ B 1 _ (Nat.le_refl _))).trans (Keep.set q B _ B 2 _ (Nat.le_refl _))).trans (Keep.set q B _ B 3 _ (Nat.le_refl _))).trans (Keep.set q B _ B 4 _ (Nat.le_refl _)))
end Go.Proofs.Ytfnjbmpolggdeaa
