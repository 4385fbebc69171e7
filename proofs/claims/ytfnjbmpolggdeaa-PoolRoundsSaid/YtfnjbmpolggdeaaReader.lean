/-
  pool.Reader: what its methods do to the reader's state.
-/
import Derived.Test.YtfnjbmpolggdeaaBig
import Derived.Deep.QuietTactic
import Derived.BigQuiet
import Derived.Deep.DeepCutAuto
import Derived.Laws.Rows
namespace Go.Proofs.Ytfnjbmpolggdeaa
open Go.RowKit Go.Lib
set_option linter.unusedVariables false
set_option linter.unusedSimpArgs false

/-- a reader's state. -/
structure S where
  s : ByteArray
  pos : Nat
  err : Nat
  errs : Nat
def S.ok (x : S) : Prop := x.pos ≤ x.s.size ∧ x.s.size ≤ 1099511627776 ∧ x.err ≤ 255 ∧ x.errs ≤ x.s.size
def sc (x : S) : Array Value := #[.string x.s, .int .i64 (x.pos : Nat), .int .i64 (x.err : Nat), .int .i64 (x.errs : Nat)]
/-- the reader lies in block q. -/
def RS (q : Nat) (x : S) (w : World) : Prop := w.heap[q]? = some (.cells (sc x) 167 (0, 0))
abbrev Up (q : Nat) (w w' : World) : Prop := w.grownBy w' (some q)
theorem Up.refl (q : Nat) (w : World) : Up q w w := ⟨rfl, rfl, rfl, Nat.le_refl _, fun _ _ _ => rfl⟩
theorem Up.trans {q : Nat} {a b c : World} (h : Up q a b) (k : Up q b c) : Up q a c :=
  ⟨k.os.trans h.os, k.tape.trans h.tape, k.output.trans h.output, Nat.le_trans h.size k.size, fun j hj hn => (k.block j (Nat.lt_of_lt_of_le hj h.size) hn).trans (h.block j hj hn)⟩
theorem Up.of_below {q : Nat} {w w' : World} (h : Below w.heap.size w w') : Up q w w' := ⟨h.os, h.tape, h.output, h.size, fun j hj _ => h.block j hj⟩
theorem Up.set (w : World) (q i : Nat) (v : Value) : Up q w (w.setCell ⟨q, i, none⟩ v) :=
  ⟨rfl, rfl, rfl, by simp [World.setCell], fun j _ hn => heap_setCell_other w _ j v (fun e => hn (by rw [e]))⟩
theorem Up.drewN {q : Nat} {w w' : World} (h : Up q w w') (n : Nat) : Up q w (w'.drewN n) := ⟨h.os, h.tape, h.output, h.size, h.block⟩
theorem RS.lt {q : Nat} {x : S} {w : World} (h : RS q x w) : q < w.heap.size := (Array.getElem?_eq_some_iff.1 h).1
theorem RS.c {q : Nat} {x : S} {w : World} (h : RS q x w) : w.cell? ⟨q, 0, none⟩ = some (.string x.s) ∧ w.cell? ⟨q, 1, none⟩ = some (.int .i64 (x.pos : Nat)) ∧ w.cell? ⟨q, 2, none⟩ = some (.int .i64 (x.err : Nat)) ∧ w.cell? ⟨q, 3, none⟩ = some (.int .i64 (x.errs : Nat)) := by
  unfold RS at h
  refine ⟨?_, ?_, ?_, ?_⟩ <;> simp [World.cell?, h, sc]
theorem RS.f {q : Nat} {x : S} {w : World} (h : RS q x w) (i : Nat) : w.frozen? ⟨q, i, none⟩ = false := by
  unfold RS at h; simp [World.frozen?, h]
theorem RS.set {q : Nat} {x y : S} {w : World} (h : RS q x w) (i : Nat) (v : Value) (hy : (sc x).setIfInBounds i v = sc y) : RS q y (w.setCell ⟨q, i, none⟩ v) := by
  unfold RS at *; rw [heap_setCell_same w q i (sc x) _ v h, hy]
theorem RS.up {q : Nat} {x : S} {w w' : World} (h : RS q x w) (hb : Below w.heap.size w w') : RS q x w' := by
  unfold RS; rw [hb.block q h.lt]; exact h

def failS (x : S) (e p : Nat) : S := if x.err = 0 then { x with err := e, errs := p } else x
def takeS (x : S) (n : Nat) : ByteArray × S := if x.err ≠ 0 then (⟨#[]⟩, x) else if x.s.size - x.pos < n then (⟨#[]⟩, failS x 1 x.s.size) else (x.s.extract x.pos (x.pos + n), { x with pos := x.pos + n })

set_option maxHeartbeats 1000000 in
set_option maxRecDepth 100000 in
theorem Bad_any (q : Nat) (x : S) (hx : x.ok) (w : World) (h : RS q x w) :
    Calls Try.prog 70 #[.pointer (some ⟨q, 0, none⟩)] w fun e w' => e = .returned (.bool (x.err != 0)) ∧ Below w.heap.size w w' := by
  obtain ⟨c0, c1, c2, c3⟩ := h.c
  have hb : (x.err != 0) = ((x.err : Int) != 0) := by rw [Bool.eq_iff_iff]; simp
  rw [hb]
  go_enter Try.func70, Try.ntmps70
  go_wp2
  go_ret
  exact ⟨by first | rfl | simp [bne], Below.refl _ _⟩

set_option maxHeartbeats 1000000 in
set_option maxRecDepth 100000 in
theorem Left_any (q : Nat) (x : S) (hx : x.ok) (w : World) (h : RS q x w) :
    Calls Try.prog 72 #[.pointer (some ⟨q, 0, none⟩)] w fun e w' => e = .returned (.int .i64 ((x.s.size - x.pos : Nat) : Int)) ∧ Below w.heap.size w w' := by
  obtain ⟨c0, c1, c2, c3⟩ := h.c
  obtain ⟨o1, o2, o3, o4⟩ := hx
  have hs : ((x.s.size - x.pos : Nat) : Int) = (x.s.size : Int) - x.pos := by omega
  rw [hs]
  go_enter Try.func72, Try.ntmps72
  go_wp2_with fail
  go_quiet (fail)
  go_wp2
  go_ret
  exact ⟨rfl, below_drewN (Below.refl _ _) _⟩

set_option maxHeartbeats 1000000 in
set_option maxRecDepth 100000 in
theorem At_any (q : Nat) (x : S) (w : World) (h : RS q x w) :
    Calls Try.prog 66 #[.pointer (some ⟨q, 0, none⟩)] w fun e w' => e = .returned (.int .i64 (x.pos : Nat)) ∧ Below w.heap.size w w' := by
  obtain ⟨c0, c1, c2, c3⟩ := h.c
  go_enter Try.func66, Try.ntmps66
  go_wp2
  go_ret
  exact ⟨rfl, Below.refl _ _⟩

set_option maxHeartbeats 1000000 in
set_option maxRecDepth 100000 in
theorem Err_any (q : Nat) (x : S) (w : World) (h : RS q x w) :
    Calls Try.prog 65 #[.pointer (some ⟨q, 0, none⟩)] w fun e w' => e = .returned (.tuple #[.int .i64 (x.err : Nat), .int .i64 (x.errs : Nat)]) ∧ Below w.heap.size w w' := by
  obtain ⟨c0, c1, c2, c3⟩ := h.c
  go_enter Try.func65, Try.ntmps65
  go_wp2_with fail
  go_quiet (fail)
  go_wp2
  go_ret2
  exact ⟨rfl, below_drewN (Below.refl _ _) _⟩

set_option maxHeartbeats 1000000 in
set_option maxRecDepth 100000 in
theorem Fail_any (q : Nat) (x : S) (w : World) (h : RS q x w) (e p : Nat) (i j : Int) (hi : i = e) (hj : j = p) :
    Calls Try.prog 73 #[.pointer (some ⟨q, 0, none⟩), .int .i64 i, .int .i64 j] w fun r w' => r = .returned (.tuple #[]) ∧ RS q (failS x e p) w' ∧ Up q w w' := by
  subst hi hj
  obtain ⟨c0, c1, c2, c3⟩ := h.c
  have f2 := h.f 2
  have h2 : RS q { x with err := e } (w.setCell ⟨q, 2, none⟩ (.int .i64 (e : Nat))) := h.set 2 _ rfl
  have f3 := h2.f 3
  obtain ⟨k0, k1, k2, k3⟩ := h2.c
  have h3 : RS q { x with err := e, errs := p } ((w.setCell ⟨q, 2, none⟩ (.int .i64 (e : Nat))).setCell ⟨q, 3, none⟩ (.int .i64 (p : Nat))) := h2.set 3 _ rfl
  by_cases h0 : x.err = 0
  · have hf : failS x e p = { x with err := e, errs := p } := if_pos h0
    have e0 : ((x.err : Int) == 0) = true := by rw [beq_iff_eq]; omega
    have HF := Lib.hid hf
    clear hf h0
    go_enter Try.func73, Try.ntmps73
    go_wp2
    refine bodyPost_end (results_none rfl _ _ _) rfl ?_
    exact ⟨rfl, by rw [HF.out]; exact h3, (Up.set w q 2 _).trans (Up.set _ q 3 _)⟩
  · have hf : failS x e p = x := if_neg h0
    have e0 : ((x.err : Int) == 0) = false := by rw [beq_eq_false_iff_ne]; omega
    have HF := Lib.hid hf
    clear hf h0
    go_enter Try.func73, Try.ntmps73
    go_wp2
    refine bodyPost_end (results_none rfl _ _ _) rfl ?_
    exact ⟨rfl, by rw [HF.out]; exact h, Up.refl _ _⟩

theorem failS_ok {x : S} (hx : x.ok) {e p : Nat} (he : e ≤ 255) (hp : p ≤ x.s.size) : (failS x e p).ok := by
  unfold failS; split
  · exact ⟨hx.1, hx.2.1, he, hp⟩
  · exact hx
theorem takeS_ok {x : S} (hx : x.ok) (n : Nat) : (takeS x n).2.ok ∧ (takeS x n).1.size ≤ n ∧ (takeS x n).2.s = x.s := by
  unfold takeS; split
  · exact ⟨hx, Nat.zero_le _, rfl⟩
  · split
    · exact ⟨failS_ok hx (by decide) (Nat.le_refl _), Nat.zero_le _, by unfold failS; split <;> rfl⟩
    · refine ⟨⟨?_, hx.2.1, hx.2.2⟩, ?_, rfl⟩
      · have := hx.1; show x.pos + n ≤ x.s.size; omega
      · simp only [ByteArray.size_extract]; omega

set_option maxHeartbeats 2000000 in
set_option maxRecDepth 100000 in
theorem Take_any (q : Nat) (x : S) (hx : x.ok) (w : World) (h : RS q x w) (n : Nat) (i : Int) (hi : i = n) (hn : n ≤ 4611686018427387904) :
    Calls Try.prog 113 #[.pointer (some ⟨q, 0, none⟩), .int .i64 i] w fun r w' => r = .returned (.string (takeS x n).1) ∧ RS q (takeS x n).2 w' ∧ Up q w w' := by
  subst hi
  obtain ⟨o1, o2, o3, o4⟩ := id hx
  go_enter Try.func113, Try.ntmps113
  go_wp2_with fail
  refine (Bad_any q x hx w h).mono ?_
  rintro e w1 ⟨rfl, hb1⟩
  have h1 := h.up hb1
  by_cases hbad : x.err ≠ 0
  · have hb : (x.err != 0) = true := by simpa using hbad
    have hT : takeS x n = (⟨#[]⟩, x) := if_pos hbad
    rw [hb]
    have HT := Lib.hid hT
    clear hT hbad hb
    go_wp2
    go_ret
    exact ⟨by rw [HT.out]; rfl, by rw [HT.out]; exact h1, Up.of_below hb1⟩
  · have hb : (x.err != 0) = false := by simpa using hbad
    rw [hb]
    go_wp2_with fail
    refine (Left_any q x hx w1 h1).mono ?_
    rintro e w2 ⟨rfl, hb2⟩
    have h2 := h1.up hb2
    obtain ⟨c0, c1, c2, c3⟩ := h2.c
    have hu2 : Up q w w2 := (Up.of_below hb1).trans (Up.of_below hb2)
    by_cases hlt : x.s.size - x.pos < n
    · have hT : takeS x n = (⟨#[]⟩, failS x 1 x.s.size) := by unfold takeS; rw [if_neg hbad, if_pos hlt]
      have a1 : (((x.s.size - x.pos : Nat) : Int)) < n := by omega
      have HT := Lib.hid hT
      clear hT hbad hb
      generalize hlf : x.s.size - x.pos = lf at *
      go_wp2_with fail
      refine (Fail_any q x w2 h2 1 x.s.size _ _ (by omega) (by omega)).mono ?_
      rintro e w3 ⟨rfl, h3, hu3⟩
      go_wp2
      go_ret
      exact ⟨by rw [HT.out]; rfl, by rw [HT.out]; exact h3, hu2.trans hu3⟩
    · have hT : takeS x n = (x.s.extract x.pos (x.pos + n), { x with pos := x.pos + n }) := by unfold takeS; rw [if_neg hbad, if_neg hlt]
      have a1 : (n : Int) ≤ ((x.s.size - x.pos : Nat) : Int) := by omega
      have a2 : (x.pos : Int) + n ≤ x.s.size := by omega
      have a3 : x.pos + n ≤ x.s.size := by omega
      have HT := Lib.hid hT
      clear hT hbad hb
      generalize hlf : x.s.size - x.pos = lf at *
      go_upto_region 6 with (fail)
      go_quiet (fail)
      have h3 : RS q x (w2.drewN nq) := h2
      have hu3 : Up q w (w2.drewN nq) := hu2.drewN nq
      clear c0 c1 c2 c3 h2 hu2
      generalize w2.drewN nq = w3 at *
      obtain ⟨c0, c1, c2, c3⟩ := h3.c
      have f1 := h3.f 1
      have h4 : RS q { x with pos := x.pos + n } (w3.setCell ⟨q, 1, none⟩ (.int .i64 ((x.pos : Int) + n))) := h3.set 1 _ (by simp [sc])
      go_wp2
      go_ret
      exact ⟨by rw [HT.out]; rfl, by rw [HT.out]; exact h4, hu3.trans (Up.set w3 q 1 _)⟩

/-- the number of bytes. -/
def numB (l : List Nat) : Nat := l.foldl (fun x b => x * 256 + b) 0
theorem numB_snoc (l : List Nat) (b : Nat) : numB (l ++ [b]) = numB l * 256 + b := by simp [numB]
theorem foldl_lt (l : List Nat) (h : ∀ b ∈ l, b < 256) : ∀ x m, x < m → l.foldl (fun x b => x * 256 + b) x < m * 256 ^ l.length := by
  induction l with
  | nil => intro x m hx; simpa using hx
  | cons b l ih =>
    intro x m hx
    have hb := h b (by simp)
    have := ih (fun y hy => h y (by simp [hy])) (x * 256 + b) (m * 256) (by omega)
    rw [List.foldl_cons, List.length_cons, Nat.pow_succ, Nat.mul_comm (256 ^ l.length) 256, ← Nat.mul_assoc]
    exact this
theorem numB_lt (l : List Nat) (h : ∀ b ∈ l, b < 256) : numB l < 256 ^ l.length := by
  have := foldl_lt l h 0 1 (by omega); simpa [numB] using this
theorem numB_le4 (s : ByteArray) (h : s.size ≤ 4) : numB (bs s) < 4294967296 := by
  have := numB_lt (bs s) (bs_lt s)
  rw [bs_length] at this
  exact Nat.lt_of_lt_of_le this (Nat.pow_le_pow_right (by decide) h : 256 ^ s.size ≤ 256 ^ 4)
theorem i64_or_nat (a b : Nat) (ha : a < 9223372036854775808) (hb : b < 9223372036854775808) : bits .or .i64 (a : Int) (b : Int) = ((a ||| b : Nat) : Int) := by
  have hx : a ||| b < 2 ^ 63 := Nat.or_lt_two_pow (by omega) (by omega)
  show IntKind.i64.wrap ((BitVec.ofInt 64 (a : Int) ||| BitVec.ofInt 64 (b : Int)).toNat : Int) = _
  rw [BitVec.toNat_or, ofInt_u64 a (by omega), ofInt_u64 b (by omega)]
  simp only [IntKind.wrap, IntKind.bits, IntKind.signed]
  simp
  omega
theorem or_i64 (a b : Nat) (ha : a < 4294967296) (hb : b < 256) : bits BinOp.or IntKind.i64 ((a : Int) * 256) (b : Int) = ((a * 256 + b : Nat) : Int) := by
  have := i64_or_nat (a * 256) b (by omega) (by omega)
  rw [nat_join 8 (a * 256) b (by omega) (by omega)] at this
  simpa using this
def numS (x : S) (n : Nat) : Nat × S := (numB (bs (takeS x n).1), (takeS x n).2)
theorem numS_ok {x : S} (hx : x.ok) (n : Nat) (hn : n ≤ 4) : (numS x n).2.ok ∧ (numS x n).1 < 256 ^ n ∧ (numS x n).1 < 4294967296 ∧ (numS x n).2.s = x.s := by
  obtain ⟨h1, h2, h3⟩ := takeS_ok hx n
  refine ⟨h1, ?_, numB_le4 _ (by omega), h3⟩
  have := numB_lt (bs (takeS x n).1) (bs_lt _)
  rw [bs_length] at this
  exact Nat.lt_of_lt_of_le this (Nat.pow_le_pow_right (by decide) h2)

set_option maxHeartbeats 2000000 in
set_option maxRecDepth 100000 in
theorem Num_any (q : Nat) (x : S) (hx : x.ok) (w : World) (h : RS q x w) (n : Nat) (i : Int) (hi : i = n) (hn : n ≤ 4) :
    Calls Try.prog 68 #[.pointer (some ⟨q, 0, none⟩), .int .i64 i] w fun r w' => r = .returned (.int .i64 ((numS x n).1 : Nat)) ∧ RS q (numS x n).2 w' ∧ Up q w w' := by
  subst hi
  obtain ⟨o1, o2, o3⟩ := takeS_ok hx n
  unfold numS
  go_enter Try.func68, Try.ntmps68
  go_wp2_with fail
  refine (Take_any q x hx w h n _ rfl (by omega)).mono ?_
  rintro e w1 ⟨rfl, h1, hu1⟩
  generalize hT : (takeS x n).1 = t at *
  generalize hY : (takeS x n).2 = y at *
  have HT := Lib.hid hT
  have HY := Lib.hid hY
  clear hT hY
  have hq1 := h1.lt
  have htz : t.size ≤ 4 := by omega
  go_wp2_with ((with_reducible refine conv_bytes rfl 9 87 _ rfl 5 Try.underlying9 Try.underlying87 Try.underlying5 w1.heap.size (Below.refl w1.heap.size w1) t rfl (by omega) (Nat.le_refl _) ?_); intro v2 w2 hown2 hbel2 hb2; obtain ⟨a, c, rfl, hrd2⟩ := hown2.rd)
  have h2 := h1.up hb2
  have hu2 : Up q w w2 := hu1.trans (Up.of_below hb2)
  clear hown2 hbel2 h1 hu1
  go_loopw [5, 13] (fun v i wr => ∃ (k : Nat), k ≤ t.size ∧ i = .int .i64 k ∧ v = .int .i64 (numB ((bs t).take k) : Nat) ∧ wr = w2) (fun _ i _ => t.size - (intOf i).toNat)
  case atStart => exact ⟨0, by omega, rfl, rfl, rfl⟩
  case round =>
    obtain ⟨k, hk, rfl, rfl, rfl⟩ := hrel
    by_cases hlt : k < t.size
    · rcases hrd2 with hr2 | ⟨b, o, rfl, hbB, hcell⟩
      · have : (u8s (bs t)).length = 0 := by rw [hr2]; rfl
        rw [u8s_length, bs_length] at this; omega
      have hkl : k < (bs t).length := by rw [bs_length]; exact hlt
      have hc : wr.cell? ⟨b, o + k, none⟩ = some (.int .u8 ((bs t)[k] : Nat)) := hcell k _ (by simp [u8s, hkl])
      have hsn : numB ((bs t).take (k + 1)) = numB ((bs t).take k) * 256 + (bs t)[k] := by rw [List.take_succ_eq_append_getElem hkl, numB_snoc]
      have hlt2 : numB ((bs t).take k) < 4294967296 := by
        have h3 := numB_lt ((bs t).take k) (fun b hb => bs_lt t b (List.mem_of_mem_take hb))
        exact Nat.lt_of_lt_of_le h3 (Nat.pow_le_pow_right (by decide) (by rw [List.length_take]; omega) : 256 ^ ((bs t).take k).length ≤ 256 ^ 4)
      have hb := bs_lt t (bs t)[k] (List.getElem_mem _)
      have HSN := Lib.hid hsn
      clear hcell hsn
      generalize (bs t)[k] = bb at *
      generalize numB ((bs t).take k) = acc at *
      have hor := or_i64 acc bb hlt2 hb
      go_wp2
      go_roundw
      case rel => exact ⟨k + 1, by omega, by go_num, by rw [HSN.out]; simp, trivial⟩
      case measure => simp [intOf]; omega
    · obtain rfl : k = t.size := by omega
      have htk : (bs t).take t.size = bs t := List.take_of_length_le (by rw [bs_length]; exact Nat.le_refl _)
      rw [htk]
      clear htk hrd2
      go_wp2
      go_ret
      exact ⟨by rw [HT.out]; rfl, by rw [HY.out]; exact h2, hu2⟩
end Go.Proofs.Ytfnjbmpolggdeaa
