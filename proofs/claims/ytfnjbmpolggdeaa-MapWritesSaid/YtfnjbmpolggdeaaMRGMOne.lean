/-
  maps.writer.one: a frame. Written by mone.py.
-/
import Derived.Test.YtfnjbmpolggdeaaMRGMValues
import Derived.Test.YtfnjbmpolggdeaaMRx36
namespace Go.Proofs.Ytfnjbmpolggdeaa.MR
open Go.RowKit Go.Proofs.YtfnjbmpolggdeaaW.PrintWords Go.Proofs.YtfnjbmpolggdeaaW.PrintLast Go.Proofs.YtfnjbmpolggdeaaW.PrintMore
attribute [local go_sem] max2_int min2_int max_two min_two max_three min_three max_four min_four
set_option linter.unusedVariables false
set_option linter.unusedSimpArgs false
def eqV (x y : S54) : Bool := !(!(x.f0 == y.f0) || (!(x.f1.toList == y.f1.toList) || (!(x.f2 == y.f2))))
def likeB (a b : List S54) : Bool := (a.length == b.length) && (List.range' 0 a.length).all fun i => eqV (rd_T54 a (i : Nat)) (rd_T54 b (i : Nat))
theorem like_l (a b : List S54) (h : a.length = b.length) (hl : a.length ≤ 140737488355328) : ∀ r i : Nat, i + r = a.length → api_VType_109.l0 (r + 1) a b (a.length : Int) (i : Int) = some ((List.range' i r).all fun i => eqV (rd_T54 a (i : Nat)) (rd_T54 b (i : Nat)))
  | 0, i, hi => by
    rw [api_VType_109.l0, if_neg (by omega)]
    rfl
  | r + 1, i, hi => by
    rw [api_VType_109.l0, if_pos (by omega), if_pos (by omega), if_pos (by omega), if_pos (by omega)]
    rw [show (wrap64 ((i : Int) + 1)) = ((i + 1 : Nat) : Int) by unfold wrap64; omega, like_l a b h hl r (i + 1) (by omega)]
    rw [List.range'_succ, List.all_cons]
    unfold eqV
    split
    · rename_i hx; rw [hx]; rfl
    · rename_i hx; rw [Bool.not_eq_true] at hx; rw [hx]; rfl
theorem like_f (a b : List S54) (hl : a.length ≤ 140737488355328) : api_VType_109.f (a.length + 1) a b = some (likeB a b) := by
  unfold api_VType_109.f likeB
  by_cases h : a.length = b.length
  · rw [if_pos (by omega), beq_iff_eq.2 h, Bool.true_and]; exact like_l a b h hl a.length 0 (by omega)
  · rw [if_neg (by omega), beq_eq_false_iff_ne.2 h, Bool.false_and]
theorem like_any (A0 : Option Addr) (c0 n0 : Nat) (a : List S54) (ha : a.length = n0) (A1 : Option Addr) (c1 n1 : Nat) (b : List S54) (hb : b.length = n1) (w : World) (h0 : Kd.C k54 w A0 a.length a) (h1 : Kd.C k54 w A1 b.length b) (hc0 : a.length ≤ c0) (hc1 : b.length ≤ c1) (hl : a.length ≤ 140737488355328) :
    Calls Try.prog 109 #[.slice A0 n0 c0, .slice A1 n1 c1] w fun e w' => e = .returned (.bool (likeB a b)) ∧ Below w.heap.size w w' := by
  subst ha hb
  refine (api_VType_109.calls (a.length + 1) A0 c0 a A1 c1 b _ w h0 hc0 h1 hc1 (like_f a b hl)).mono ?_
  rintro e w' ⟨he, hd⟩
  exact ⟨he, hd.below⟩
/-- what a frame is written as. -/
def oneS (l1 : List S37) (xs ys zs : List S54) (d : Int) (s : List Nat × Int) : List Nat × Int :=
  let n : Int := (xs.length : Int) - (zs.length : Int)
  let m : Nat := min xs.length zs.length
  let like := likeB (xs.take m) (zs.take m)
  if like = true ∧ n = 0 ∧ ys.length = 0 ∧ d < 64 then (s.1 ++ bigB (U64 d) 1, s.2)
  else if like = true ∧ n = 0 ∧ ys.length = 0 then ((s.1 ++ bigB (U64 251) 1) ++ bigB (U64 d) 2, s.2)
  else if like = true ∧ n = 0 ∧ ys.length = 1 ∧ d < 64 then valsS l1 ys (s.1 ++ bigB (U64 (64 + d)) 1, s.2)
  else if like = true ∧ n = 0 ∧ ys.length = 1 then valsS l1 ys ((s.1 ++ bigB (U64 247) 1) ++ bigB (U64 d) 2, s.2)
  else if like = true ∧ n < 0 ∧ n ≥ -3 ∧ ys.length = 0 then ((s.1 ++ bigB (U64 (251 + n)) 1) ++ bigB (U64 d) 2, s.2)
  else if like = true ∧ n > 0 ∧ n ≤ 3 ∧ ys.length = 0 then valsS l1 (xs.drop m) ((s.1 ++ bigB (U64 (251 + n)) 1) ++ bigB (U64 d) 2, s.2)
  else let t := valsS l1 xs (((s.1 ++ bigB (U64 255) 1) ++ bigB (U64 d) 2) ++ bigB (U64 xs.length) 2, s.2)
    valsS l1 ys (t.1 ++ bigB (U64 ys.length) 2, t.2)
theorem valsS_len (l1 : List S37) (vs : List S54) (s : List Nat × Int) : (valsS l1 vs s).1.length ≤ s.1.length + 3 * vs.length := by
  unfold valsS
  induction vs generalizing s with
  | nil => simp
  | cons v vs ih =>
    rw [List.foldl_cons]
    have := ih (valL l1 v s.1, valE l1 v s.2)
    have h2 := valL_len l1 v s.1
    simp only [List.length_cons] at *
    omega
theorem values_any2 (w0 w : World) (g : Nat) (A : Option Addr) (c : Nat) (l1 : List S37) (v : Value) (l : List Nat) (er : Int) (A3 : Option Addr) (c3 : Nat) (n : Nat) (vs : List S54) (hn : vs.length = n)
    (hW : BW w0.heap.size w g 92 (mwC A l1.length c er) v l) (hB : Below w0.heap.size w0 w) (hr : Kd.C k37 w0 A l1.length l1) (hc : l1.length ≤ c) (hll : l1.length ≤ 140737488355328) (h3 : ∀ x ∈ l1, 0 ≤ x.f3 ∧ x.f3 < 65536)
    (hv : Kd.C k54 w0 A3 vs.length vs) (hc3 : vs.length ≤ c3) (ht : ∀ x ∈ vs, 0 ≤ x.f0 ∧ x.f0 < 256) (hlen : l.length + 3 * vs.length + 8 ≤ 140737488355328) :
    Calls Try.prog 110 #[.pointer (some ⟨g, 0, none⟩), .slice A3 n c3] w (ValsPost w0 w g v A l1.length c (valsS l1 vs (l, er))) := by
  subst hn
  exact values_any w0 w g A c l1 v (l, er) A3 c3 vs hW hB hr hc hll h3 hv hc3 ht hlen
theorem one_len {l1 : List S37} {t : List Nat × Int} {xs : List S54} {s : List Nat × Int} {m : Nat} (h : t = valsS l1 xs s) (hl : s.1.length ≤ m) : t.1.length ≤ m + 3 * xs.length := by
  have := valsS_len l1 xs s
  rw [h]; omega
set_option maxHeartbeats 8000000 in
set_option maxRecDepth 100000 in
theorem one_any (w0 w : World) (g : Nat) (A : Option Addr) (c : Nat) (l1 : List S37) (v : Value) (s : List Nat × Int) (fat : Int) (A1 : Option Addr) (c1 : Nat) (xs : List S54) (A2 : Option Addr) (c2 : Nat) (ys : List S54) (A3 : Option Addr) (c3 : Nat) (zs : List S54) (d : Int)
    (hW : BW w0.heap.size w g 92 (mwC A l1.length c s.2) v s.1) (hB : Below w0.heap.size w0 w) (hr : Kd.C k37 w0 A l1.length l1) (hc : l1.length ≤ c) (hll : l1.length ≤ 140737488355328) (h3 : ∀ x ∈ l1, 0 ≤ x.f3 ∧ x.f3 < 65536)
    (hx : Kd.C k54 w0 A1 xs.length xs) (hc1 : xs.length ≤ c1) (tx : ∀ x ∈ xs, 0 ≤ x.f0 ∧ x.f0 < 256) (lx : xs.length ≤ 65535)
    (hy : Kd.C k54 w0 A2 ys.length ys) (hc2 : ys.length ≤ c2) (ty : ∀ x ∈ ys, 0 ≤ x.f0 ∧ x.f0 < 256) (ly : ys.length ≤ 65535)
    (hz : Kd.C k54 w0 A3 zs.length zs) (hc3 : zs.length ≤ c3) (lz : zs.length ≤ 140737488355328) (hd : 0 ≤ d ∧ d ≤ 65535) (hlen : s.1.length + 1000000 ≤ 140737488355328) :
    Calls Try.prog 60 #[.pointer (some ⟨g, 0, none⟩), .agg #[.int .i64 fat, .slice A1 xs.length c1, .slice A2 ys.length c2], .int .i64 d, .slice A3 zs.length c3] w (ValsPost w0 w g v A l1.length c (oneS l1 xs ys zs d s)) := by
  have HW := Aside0.mk hW
  have HB := Aside0.mk hB
  have HRP := Aside0.mk hr
  have HC := Aside0.mk hc
  have HLL := Aside0.mk hll
  have H3 := Aside0.mk h3
  have HX := Aside0.mk hx
  have HCX := Aside0.mk hc1
  have HTX := Aside0.mk tx
  have HLX := Aside0.mk lx
  have HY := Aside0.mk hy
  have HCY := Aside0.mk hc2
  have HTY := Aside0.mk ty
  have HLY := Aside0.mk ly
  have HZ := Aside0.mk hz
  have HCZ := Aside0.mk hc3
  have HLZ := Aside0.mk lz
  have HD := Aside0.mk hd
  have HLEN := Aside0.mk hlen
  have HG := Aside0.mk (show w.heap.size ≠ g by have := hW.lt; omega)
  have HVN := Aside0.mk (show v.ownBlock ≠ some w.heap.size from fun e => by have := (hW.2.2.ge _ e).2; omega)
  obtain ⟨m, hm⟩ : ∃ m, m = min xs.length zs.length := ⟨_, rfl⟩
  obtain ⟨n, hn⟩ : ∃ n : Int, n = (xs.length : Int) - (zs.length : Int) := ⟨_, rfl⟩
  obtain ⟨b, hb⟩ : ∃ b : Bool, likeB (xs.take m) (zs.take m) = b := ⟨_, rfl⟩
  have HM := Aside0.mk hm
  have HN := Aside0.mk hn
  have HL := Aside0.mk hb
  have hS : oneS l1 xs ys zs d s = (if b = true ∧ n = 0 ∧ ys.length = 0 ∧ d < 64 then (s.1 ++ bigB (U64 d) 1, s.2)
  else if b = true ∧ n = 0 ∧ ys.length = 0 then ((s.1 ++ bigB (U64 251) 1) ++ bigB (U64 d) 2, s.2)
  else if b = true ∧ n = 0 ∧ ys.length = 1 ∧ d < 64 then valsS l1 ys (s.1 ++ bigB (U64 (64 + d)) 1, s.2)
  else if b = true ∧ n = 0 ∧ ys.length = 1 then valsS l1 ys ((s.1 ++ bigB (U64 247) 1) ++ bigB (U64 d) 2, s.2)
  else if b = true ∧ n < 0 ∧ n ≥ -3 ∧ ys.length = 0 then ((s.1 ++ bigB (U64 (251 + n)) 1) ++ bigB (U64 d) 2, s.2)
  else if b = true ∧ n > 0 ∧ n ≤ 3 ∧ ys.length = 0 then valsS l1 (xs.drop m) ((s.1 ++ bigB (U64 (251 + n)) 1) ++ bigB (U64 d) 2, s.2)
  else valsS l1 ys ((valsS l1 xs (((s.1 ++ bigB (U64 255) 1) ++ bigB (U64 d) 2) ++ bigB (U64 xs.length) 2, s.2)).1 ++ bigB (U64 ys.length) 2, (valsS l1 xs (((s.1 ++ bigB (U64 255) 1) ++ bigB (U64 d) 2) ++ bigB (U64 xs.length) 2, s.2)).2)) := by
    subst hb hn hm; rfl
  generalize oneS l1 xs ys zs d s = so at *
  have HS := Aside0.mk hS
  have hmx : (m : Int) ≤ (xs.length : Int) := by omega
  have hmz : (m : Int) ≤ (zs.length : Int) := by omega
  have hmc1 : (m : Int) ≤ (c1 : Int) := by omega
  have hmc3 : (m : Int) ≤ (c3 : Int) := by omega
  have hnw : IntKind.i64.wrap ((xs.length : Int) - (zs.length : Int)) = n := by rw [IntKind.wrap_i64]; omega
  clear hW hB hr hc hll h3 hx hc1 tx lx hy hc2 ty ly hz hc3 lz hd hlen hS hb hn
  have hd0 := HD.out.1
  have hd1 := HD.out.2
  rcases Nat.lt_or_ge zs.length xs.length with hlt | hge
  · obtain rfl : m = zs.length := by omega
    have hlt2 : (zs.length : Int) < (xs.length : Int) := by omega
    clear hm
    go_enter Try.func60, Try.ntmps60
    go_wp2_with fail
    have a0 : (w.alloc (.cells #[.int .i64 fat, .slice A1 xs.length c1, .slice A2 ys.length c2] 80)).cell? ⟨w.heap.size, 1, none⟩ = some (.slice A1 xs.length c1) := by go_simp
    have b0 : (w.alloc (.cells #[.int .i64 fat, .slice A1 xs.length c1, .slice A2 ys.length c2] 80)).cell? ⟨w.heap.size, 2, none⟩ = some (.slice A2 ys.length c2) := by go_simp
    have hbel := below_alloc (Below.refl w.heap.size w) (.cells #[.int .i64 fat, .slice A1 xs.length c1, .slice A2 ys.length c2] 80)
    have hz0 : w.heap.size < (w.alloc (.cells #[.int .i64 fat, .slice A1 xs.length c1, .slice A2 ys.length c2] 80)).heap.size := by simp
    have HB0 := Aside0.mk (below_then HB.out HB.out.size hbel)
    have HW0 := Aside0.mk (HW.out.below hbel)
    have HS0 := Aside0.mk (BS.below (g := g) (v := v) hbel)
    clear hbel
    generalize w.alloc (.cells #[.int .i64 fat, .slice A1 xs.length c1, .slice A2 ys.length c2] 80) = w1 at *
    have HZ1 := Aside0.mk hz0
    clear hz0
    have lk : ∀ W, Below w0.heap.size w0 W → Calls Try.prog 109 #[.slice A1 zs.length c1, .slice A3 zs.length c3] W fun e w' => e = .returned (.bool b) ∧ Below W.heap.size W w' := fun W hW => by
      have k0 := like_any A1 c1 zs.length (xs.take zs.length) (by rw [List.length_take]; omega) A3 c3 zs.length (zs.take zs.length) (by rw [List.length_take]; omega) W (Kd.C_take (Kd.C_below HX.out hW) (by omega)) (Kd.C_take (Kd.C_below HZ.out hW) (by omega)) (by rw [List.length_take]; have := HCX.out; omega) (by rw [List.length_take]; have := HCZ.out; omega) (by rw [List.length_take]; have := HLX.out; omega)
      rw [HL.out] at k0
      exact k0
    have LK := Aside0.mk lk
    clear lk
    go_region_held3 (fun w' => w'.cell? ⟨w.heap.size, 1, none⟩ = some (.slice A1 xs.length c1)) (first | exact a0 | exact pw_cell_below (below_drew0 (by assumption)) a0) ((go_at_call 109; refine (LK.out _ (pw_below_drewN HB0.out _)).mono ?_; rintro e2 w2 ⟨rfl, hbx⟩))
    have hb2 := below_drew0 hbx
    have a2 := pw_cell_below hb2 a0
    have b2 := pw_cell_below hb2 b0
    have HB2 := Aside0.mk (below_then HB0.out HB0.out.size hb2)
    have HW2 := Aside0.mk (HW0.out.below hb2)
    have HS2 := Aside0.mk (HS0.out.trans (BS.below hb2))
    have HN2 := HVN
    have HZ2 := Aside0.mk (show w.heap.size < w2.heap.size from Nat.lt_of_lt_of_le HZ1.out hb2.size)
    clear hb2 hbx a0 b0
    try clear LK
    cases b
    · have HF := Aside0.mk (show True from trivial)
      go_wp2_with fail
      refine (mapNum_any w0 _ g A l1.length c s.2 v s.1 255 _ 1 rfl (by decide) HW2.out HB2.out (by first | (have := HLEN.out; (try simp only [List.length_append, bigB_length]); omega) | (have := HLEN.out; have := HTL.out; have := HLX.out; (try simp only [List.length_append, bigB_length]); omega))).mono ?_
      rintro e3 w3 ⟨rfl, hb3, v3, hw3, hs3⟩
      have a3 := hs3.cell a2 HG.out HN2.out
      have b3 := hs3.cell b2 HG.out HN2.out
      have HN3 := Aside0.mk (BS.old_ne hs3 (q := w.heap.size) HZ2.out HN2.out)
      have HZ3 := Aside0.mk (show w.heap.size < w3.heap.size from Nat.lt_of_lt_of_le HZ2.out hs3.1.1)
      have HB3 := Aside0.mk hb3
      have HW3 := Aside0.mk hw3
      have HS3 := Aside0.mk (HS2.out.trans hs3)
      clear hb3 hw3 hs3 a2 b2
      go_wp2_with fail
      refine (mapNum_any w0 _ g A l1.length c s.2 v3 (s.1 ++ bigB (U64 255) 1) d _ 2 rfl (by decide) HW3.out HB3.out (by first | (have := HLEN.out; (try simp only [List.length_append, bigB_length]); omega) | (have := HLEN.out; have := HTL.out; have := HLX.out; (try simp only [List.length_append, bigB_length]); omega))).mono ?_
      rintro e4 w4 ⟨rfl, hb4, v4, hw4, hs4⟩
      have a4 := hs4.cell a3 HG.out HN3.out
      have b4 := hs4.cell b3 HG.out HN3.out
      have HN4 := Aside0.mk (BS.old_ne hs4 (q := w.heap.size) HZ3.out HN3.out)
      have HZ4 := Aside0.mk (show w.heap.size < w4.heap.size from Nat.lt_of_lt_of_le HZ3.out hs4.1.1)
      have HB4 := Aside0.mk hb4
      have HW4 := Aside0.mk hw4
      have HS4 := Aside0.mk (HS3.out.trans hs4)
      clear hb4 hw4 hs4 a3 b3
      go_wp2_with fail
      refine (mapNum_any w0 _ g A l1.length c s.2 v4 ((s.1 ++ bigB (U64 255) 1) ++ bigB (U64 d) 2) (xs.length : Int) _ 2 rfl (by decide) HW4.out HB4.out (by first | (have := HLEN.out; (try simp only [List.length_append, bigB_length]); omega) | (have := HLEN.out; have := HTL.out; have := HLX.out; (try simp only [List.length_append, bigB_length]); omega))).mono ?_
      rintro e5 w5 ⟨rfl, hb5, v5, hw5, hs5⟩
      have a5 := hs5.cell a4 HG.out HN4.out
      have b5 := hs5.cell b4 HG.out HN4.out
      have HN5 := Aside0.mk (BS.old_ne hs5 (q := w.heap.size) HZ4.out HN4.out)
      have HZ5 := Aside0.mk (show w.heap.size < w5.heap.size from Nat.lt_of_lt_of_le HZ4.out hs5.1.1)
      have HB5 := Aside0.mk hb5
      have HW5 := Aside0.mk hw5
      have HS5 := Aside0.mk (HS4.out.trans hs5)
      clear hb5 hw5 hs5 a4 b4
      go_wp2_with fail
      refine (values_any2 w0 _ g A c l1 v5 (((s.1 ++ bigB (U64 255) 1) ++ bigB (U64 d) 2) ++ bigB (U64 (xs.length : Int)) 2) s.2 _ _ _ xs rfl HW5.out HB5.out HRP.out HC.out HLL.out H3.out HX.out HCX.out HTX.out (by have := HLEN.out; first | (have := HLX.out; have := HLY.out; simp only [List.length_append, bigB_length, List.length_drop]; omega) | (have := HTL.out; have := HLX.out; have := HLY.out; simp only [List.length_append, bigB_length]; omega))).mono ?_
      rintro e6 w6 ⟨rfl, v6, hw6, hb6, hs6⟩
      have a6 := hs6.cell a5 HG.out HN5.out
      have b6 := hs6.cell b5 HG.out HN5.out
      have HN6 := Aside0.mk (BS.old_ne hs6 (q := w.heap.size) HZ5.out HN5.out)
      have HZ6 := Aside0.mk (show w.heap.size < w6.heap.size from Nat.lt_of_lt_of_le HZ5.out hs6.1.1)
      have HB6 := Aside0.mk hb6
      have HW6 := Aside0.mk hw6
      have HS6 := Aside0.mk (HS5.out.trans hs6)
      clear hb6 hw6 hs6 a5 b5
      have HTL := Aside0.mk (one_len (l1 := l1) (xs := xs) (m := s.1.length + 5) rfl (s := ((((s.1 ++ bigB (U64 255) 1) ++ bigB (U64 d) 2) ++ bigB (U64 (xs.length : Int)) 2), s.2)) (by simp only [List.length_append, bigB_length]; omega))
      generalize ht : valsS l1 xs ((((s.1 ++ bigB (U64 255) 1) ++ bigB (U64 d) 2) ++ bigB (U64 (xs.length : Int)) 2), s.2) = t at *
      have HT := Aside0.mk ht
      clear ht
      go_wp2_with fail
      refine (mapNum_any w0 _ g A l1.length c t.2 v6 t.1 (ys.length : Int) _ 2 rfl (by decide) HW6.out HB6.out (by first | (have := HLEN.out; (try simp only [List.length_append, bigB_length]); omega) | (have := HLEN.out; have := HTL.out; have := HLX.out; (try simp only [List.length_append, bigB_length]); omega))).mono ?_
      rintro e7 w7 ⟨rfl, hb7, v7, hw7, hs7⟩
      have a7 := hs7.cell a6 HG.out HN6.out
      have b7 := hs7.cell b6 HG.out HN6.out
      have HN7 := Aside0.mk (BS.old_ne hs7 (q := w.heap.size) HZ6.out HN6.out)
      have HZ7 := Aside0.mk (show w.heap.size < w7.heap.size from Nat.lt_of_lt_of_le HZ6.out hs7.1.1)
      have HB7 := Aside0.mk hb7
      have HW7 := Aside0.mk hw7
      have HS7 := Aside0.mk (HS6.out.trans hs7)
      clear hb7 hw7 hs7 a6 b6
      go_wp2_with fail
      refine (values_any2 w0 _ g A c l1 v7 (t.1 ++ bigB (U64 (ys.length : Int)) 2) t.2 _ _ _ ys rfl HW7.out HB7.out HRP.out HC.out HLL.out H3.out HY.out HCY.out HTY.out (by have := HLEN.out; first | (have := HLX.out; have := HLY.out; simp only [List.length_append, bigB_length, List.length_drop]; omega) | (have := HTL.out; have := HLX.out; have := HLY.out; simp only [List.length_append, bigB_length]; omega))).mono ?_
      rintro e8 w8 ⟨rfl, v8, hw8, hb8, hs8⟩
      have a8 := hs8.cell a7 HG.out HN7.out
      have b8 := hs8.cell b7 HG.out HN7.out
      have HN8 := Aside0.mk (BS.old_ne hs8 (q := w.heap.size) HZ7.out HN7.out)
      have HZ8 := Aside0.mk (show w.heap.size < w8.heap.size from Nat.lt_of_lt_of_le HZ7.out hs8.1.1)
      have HB8 := Aside0.mk hb8
      have HW8 := Aside0.mk hw8
      have HS8 := Aside0.mk (HS7.out.trans hs8)
      clear hb8 hw8 hs8 a7 b7
      have HE : so = valsS l1 ys (t.1 ++ bigB (U64 (ys.length : Int)) 2, t.2) := by
        refine HS.out.trans ?_
        refine (if_neg (fun h => by first | exact absurd h.1 (by decide) | (have := HF.out; have := h.2; omega))).trans ?_
        refine (if_neg (fun h => by first | exact absurd h.1 (by decide) | (have := HF.out; have := h.2; omega))).trans ?_
        refine (if_neg (fun h => by first | exact absurd h.1 (by decide) | (have := HF.out; have := h.2; omega))).trans ?_
        refine (if_neg (fun h => by first | exact absurd h.1 (by decide) | (have := HF.out; have := h.2; omega))).trans ?_
        refine (if_neg (fun h => by first | exact absurd h.1 (by decide) | (have := HF.out; have := h.2; omega))).trans ?_
        refine (if_neg (fun h => by first | exact absurd h.1 (by decide) | (have := HF.out; have := h.2; omega))).trans ?_
        first | rfl | rw [HT.out]
      go_wp2
      go_end0
      rw [HE]
      exact ⟨rfl, v8, HW8.out, HB8.out, HS8.out⟩
    · have hn_ : 0 < n := by have := HN.out; omega
      by_cases h3_ : n ≤ 3
      · by_cases hy_ : ys.length = 0
        · have HF := Aside0.mk (show 0 < n ∧ n ≤ 3 ∧ ys.length = 0 ∧ zs.length < xs.length from ⟨hn_, h3_, hy_, hlt⟩)
          have q_n0 : (n == 0) = false := beq_eq_false_iff_ne.2 (by omega)
          have q_nl : decide (n < 0) = false := decide_eq_false (by omega)
          have q_ng : decide (n > 0) = true := decide_eq_true (by omega)
          have q_m3 : decide (n ≤ 3) = true := decide_eq_true (by omega)
          have q_y0 : ((ys.length : Int) == 0) = true := beq_iff_eq.2 (by omega)
          have hw3 : IntKind.i64.wrap (251 + n) = 251 + n := by rw [IntKind.wrap_i64]; omega
          have hcn : ¬ c1 = zs.length := by have := HCX.out; omega
          have hcn2 : ¬ (c1 : Int) = (zs.length : Int) := by have := HCX.out; omega
          have HCN := Aside0.mk hcn
          try clear hz_
          try clear hy_
          try clear hd_
          try clear h3_
          try clear hn_
          try clear hy1_
          go_wp2_with fail
          refine (mapNum_any w0 _ g A l1.length c s.2 v s.1 (251 + n) _ 1 rfl (by decide) HW2.out HB2.out (by first | (have := HLEN.out; (try simp only [List.length_append, bigB_length]); omega) | (have := HLEN.out; have := HTL.out; have := HLX.out; (try simp only [List.length_append, bigB_length]); omega))).mono ?_
          rintro e3 w3 ⟨rfl, hb3, v3, hw3, hs3⟩
          have a3 := hs3.cell a2 HG.out HN2.out
          have b3 := hs3.cell b2 HG.out HN2.out
          have HN3 := Aside0.mk (BS.old_ne hs3 (q := w.heap.size) HZ2.out HN2.out)
          have HZ3 := Aside0.mk (show w.heap.size < w3.heap.size from Nat.lt_of_lt_of_le HZ2.out hs3.1.1)
          have HB3 := Aside0.mk hb3
          have HW3 := Aside0.mk hw3
          have HS3 := Aside0.mk (HS2.out.trans hs3)
          clear hb3 hw3 hs3 a2 b2
          go_wp2_with fail
          refine (mapNum_any w0 _ g A l1.length c s.2 v3 (s.1 ++ bigB (U64 (251 + n)) 1) d _ 2 rfl (by decide) HW3.out HB3.out (by first | (have := HLEN.out; (try simp only [List.length_append, bigB_length]); omega) | (have := HLEN.out; have := HTL.out; have := HLX.out; (try simp only [List.length_append, bigB_length]); omega))).mono ?_
          rintro e4 w4 ⟨rfl, hb4, v4, hw4, hs4⟩
          have a4 := hs4.cell a3 HG.out HN3.out
          have b4 := hs4.cell b3 HG.out HN3.out
          have HN4 := Aside0.mk (BS.old_ne hs4 (q := w.heap.size) HZ3.out HN3.out)
          have HZ4 := Aside0.mk (show w.heap.size < w4.heap.size from Nat.lt_of_lt_of_le HZ3.out hs4.1.1)
          have HB4 := Aside0.mk hb4
          have HW4 := Aside0.mk hw4
          have HS4 := Aside0.mk (HS3.out.trans hs4)
          clear hb4 hw4 hs4 a3 b3
          go_wp2_with fail
          refine (values_any2 w0 _ g A c l1 v4 ((s.1 ++ bigB (U64 (251 + n)) 1) ++ bigB (U64 d) 2) s.2 _ _ _ (xs.drop zs.length) List.length_drop HW4.out HB4.out HRP.out HC.out HLL.out H3.out (by have := Kd.C_drop (m := zs.length) HX.out (by have := HF.out; omega) HCX.out; rw [if_neg HCN.out] at this; exact this) (by rw [List.length_drop]; have := HCX.out; omega) (fun x hx => HTX.out x (List.mem_of_mem_drop hx)) (by have := HLEN.out; first | (have := HLX.out; have := HLY.out; simp only [List.length_append, bigB_length, List.length_drop]; omega) | (have := HTL.out; have := HLX.out; have := HLY.out; simp only [List.length_append, bigB_length]; omega))).mono ?_
          rintro e5 w5 ⟨rfl, v5, hw5, hb5, hs5⟩
          have a5 := hs5.cell a4 HG.out HN4.out
          have b5 := hs5.cell b4 HG.out HN4.out
          have HN5 := Aside0.mk (BS.old_ne hs5 (q := w.heap.size) HZ4.out HN4.out)
          have HZ5 := Aside0.mk (show w.heap.size < w5.heap.size from Nat.lt_of_lt_of_le HZ4.out hs5.1.1)
          have HB5 := Aside0.mk hb5
          have HW5 := Aside0.mk hw5
          have HS5 := Aside0.mk (HS4.out.trans hs5)
          clear hb5 hw5 hs5 a4 b4
          have HE : so = valsS l1 (xs.drop zs.length) (((s.1 ++ bigB (U64 (251 + n)) 1) ++ bigB (U64 d) 2), s.2) := by
            refine HS.out.trans ?_
            refine (if_neg (fun h => by first | exact absurd h.1 (by decide) | (have := HF.out; have := h.2; omega))).trans ?_
            refine (if_neg (fun h => by first | exact absurd h.1 (by decide) | (have := HF.out; have := h.2; omega))).trans ?_
            refine (if_neg (fun h => by first | exact absurd h.1 (by decide) | (have := HF.out; have := h.2; omega))).trans ?_
            refine (if_neg (fun h => by first | exact absurd h.1 (by decide) | (have := HF.out; have := h.2; omega))).trans ?_
            refine (if_neg (fun h => by first | exact absurd h.1 (by decide) | (have := HF.out; have := h.2; omega))).trans ?_
            exact if_pos ⟨(by first | rfl | trivial), by have := HF.out; omega⟩
          go_wp2
          go_end0
          rw [HE]
          exact ⟨rfl, v5, HW5.out, HB5.out, HS5.out⟩
        · have HF := Aside0.mk (show 0 < n ∧ n ≤ 3 ∧ ¬ ys.length = 0 from ⟨hn_, h3_, hy_⟩)
          have q_n0 : (n == 0) = false := beq_eq_false_iff_ne.2 (by omega)
          have q_nl : decide (n < 0) = false := decide_eq_false (by omega)
          have q_ng : decide (n > 0) = true := decide_eq_true (by omega)
          have q_m3 : decide (n ≤ 3) = true := decide_eq_true (by omega)
          have q_y0 : ((ys.length : Int) == 0) = false := beq_eq_false_iff_ne.2 (by omega)
          try clear hz_
          try clear hy_
          try clear hd_
          try clear h3_
          try clear hn_
          try clear hy1_
          go_wp2_with fail
          refine (mapNum_any w0 _ g A l1.length c s.2 v s.1 255 _ 1 rfl (by decide) HW2.out HB2.out (by first | (have := HLEN.out; (try simp only [List.length_append, bigB_length]); omega) | (have := HLEN.out; have := HTL.out; have := HLX.out; (try simp only [List.length_append, bigB_length]); omega))).mono ?_
          rintro e3 w3 ⟨rfl, hb3, v3, hw3, hs3⟩
          have a3 := hs3.cell a2 HG.out HN2.out
          have b3 := hs3.cell b2 HG.out HN2.out
          have HN3 := Aside0.mk (BS.old_ne hs3 (q := w.heap.size) HZ2.out HN2.out)
          have HZ3 := Aside0.mk (show w.heap.size < w3.heap.size from Nat.lt_of_lt_of_le HZ2.out hs3.1.1)
          have HB3 := Aside0.mk hb3
          have HW3 := Aside0.mk hw3
          have HS3 := Aside0.mk (HS2.out.trans hs3)
          clear hb3 hw3 hs3 a2 b2
          go_wp2_with fail
          refine (mapNum_any w0 _ g A l1.length c s.2 v3 (s.1 ++ bigB (U64 255) 1) d _ 2 rfl (by decide) HW3.out HB3.out (by first | (have := HLEN.out; (try simp only [List.length_append, bigB_length]); omega) | (have := HLEN.out; have := HTL.out; have := HLX.out; (try simp only [List.length_append, bigB_length]); omega))).mono ?_
          rintro e4 w4 ⟨rfl, hb4, v4, hw4, hs4⟩
          have a4 := hs4.cell a3 HG.out HN3.out
          have b4 := hs4.cell b3 HG.out HN3.out
          have HN4 := Aside0.mk (BS.old_ne hs4 (q := w.heap.size) HZ3.out HN3.out)
          have HZ4 := Aside0.mk (show w.heap.size < w4.heap.size from Nat.lt_of_lt_of_le HZ3.out hs4.1.1)
          have HB4 := Aside0.mk hb4
          have HW4 := Aside0.mk hw4
          have HS4 := Aside0.mk (HS3.out.trans hs4)
          clear hb4 hw4 hs4 a3 b3
          go_wp2_with fail
          refine (mapNum_any w0 _ g A l1.length c s.2 v4 ((s.1 ++ bigB (U64 255) 1) ++ bigB (U64 d) 2) (xs.length : Int) _ 2 rfl (by decide) HW4.out HB4.out (by first | (have := HLEN.out; (try simp only [List.length_append, bigB_length]); omega) | (have := HLEN.out; have := HTL.out; have := HLX.out; (try simp only [List.length_append, bigB_length]); omega))).mono ?_
          rintro e5 w5 ⟨rfl, hb5, v5, hw5, hs5⟩
          have a5 := hs5.cell a4 HG.out HN4.out
          have b5 := hs5.cell b4 HG.out HN4.out
          have HN5 := Aside0.mk (BS.old_ne hs5 (q := w.heap.size) HZ4.out HN4.out)
          have HZ5 := Aside0.mk (show w.heap.size < w5.heap.size from Nat.lt_of_lt_of_le HZ4.out hs5.1.1)
          have HB5 := Aside0.mk hb5
          have HW5 := Aside0.mk hw5
          have HS5 := Aside0.mk (HS4.out.trans hs5)
          clear hb5 hw5 hs5 a4 b4
          go_wp2_with fail
          refine (values_any2 w0 _ g A c l1 v5 (((s.1 ++ bigB (U64 255) 1) ++ bigB (U64 d) 2) ++ bigB (U64 (xs.length : Int)) 2) s.2 _ _ _ xs rfl HW5.out HB5.out HRP.out HC.out HLL.out H3.out HX.out HCX.out HTX.out (by have := HLEN.out; first | (have := HLX.out; have := HLY.out; simp only [List.length_append, bigB_length, List.length_drop]; omega) | (have := HTL.out; have := HLX.out; have := HLY.out; simp only [List.length_append, bigB_length]; omega))).mono ?_
          rintro e6 w6 ⟨rfl, v6, hw6, hb6, hs6⟩
          have a6 := hs6.cell a5 HG.out HN5.out
          have b6 := hs6.cell b5 HG.out HN5.out
          have HN6 := Aside0.mk (BS.old_ne hs6 (q := w.heap.size) HZ5.out HN5.out)
          have HZ6 := Aside0.mk (show w.heap.size < w6.heap.size from Nat.lt_of_lt_of_le HZ5.out hs6.1.1)
          have HB6 := Aside0.mk hb6
          have HW6 := Aside0.mk hw6
          have HS6 := Aside0.mk (HS5.out.trans hs6)
          clear hb6 hw6 hs6 a5 b5
          have HTL := Aside0.mk (one_len (l1 := l1) (xs := xs) (m := s.1.length + 5) rfl (s := ((((s.1 ++ bigB (U64 255) 1) ++ bigB (U64 d) 2) ++ bigB (U64 (xs.length : Int)) 2), s.2)) (by simp only [List.length_append, bigB_length]; omega))
          generalize ht : valsS l1 xs ((((s.1 ++ bigB (U64 255) 1) ++ bigB (U64 d) 2) ++ bigB (U64 (xs.length : Int)) 2), s.2) = t at *
          have HT := Aside0.mk ht
          clear ht
          go_wp2_with fail
          refine (mapNum_any w0 _ g A l1.length c t.2 v6 t.1 (ys.length : Int) _ 2 rfl (by decide) HW6.out HB6.out (by first | (have := HLEN.out; (try simp only [List.length_append, bigB_length]); omega) | (have := HLEN.out; have := HTL.out; have := HLX.out; (try simp only [List.length_append, bigB_length]); omega))).mono ?_
          rintro e7 w7 ⟨rfl, hb7, v7, hw7, hs7⟩
          have a7 := hs7.cell a6 HG.out HN6.out
          have b7 := hs7.cell b6 HG.out HN6.out
          have HN7 := Aside0.mk (BS.old_ne hs7 (q := w.heap.size) HZ6.out HN6.out)
          have HZ7 := Aside0.mk (show w.heap.size < w7.heap.size from Nat.lt_of_lt_of_le HZ6.out hs7.1.1)
          have HB7 := Aside0.mk hb7
          have HW7 := Aside0.mk hw7
          have HS7 := Aside0.mk (HS6.out.trans hs7)
          clear hb7 hw7 hs7 a6 b6
          go_wp2_with fail
          refine (values_any2 w0 _ g A c l1 v7 (t.1 ++ bigB (U64 (ys.length : Int)) 2) t.2 _ _ _ ys rfl HW7.out HB7.out HRP.out HC.out HLL.out H3.out HY.out HCY.out HTY.out (by have := HLEN.out; first | (have := HLX.out; have := HLY.out; simp only [List.length_append, bigB_length, List.length_drop]; omega) | (have := HTL.out; have := HLX.out; have := HLY.out; simp only [List.length_append, bigB_length]; omega))).mono ?_
          rintro e8 w8 ⟨rfl, v8, hw8, hb8, hs8⟩
          have a8 := hs8.cell a7 HG.out HN7.out
          have b8 := hs8.cell b7 HG.out HN7.out
          have HN8 := Aside0.mk (BS.old_ne hs8 (q := w.heap.size) HZ7.out HN7.out)
          have HZ8 := Aside0.mk (show w.heap.size < w8.heap.size from Nat.lt_of_lt_of_le HZ7.out hs8.1.1)
          have HB8 := Aside0.mk hb8
          have HW8 := Aside0.mk hw8
          have HS8 := Aside0.mk (HS7.out.trans hs8)
          clear hb8 hw8 hs8 a7 b7
          have HE : so = valsS l1 ys (t.1 ++ bigB (U64 (ys.length : Int)) 2, t.2) := by
            refine HS.out.trans ?_
            refine (if_neg (fun h => by first | exact absurd h.1 (by decide) | (have := HF.out; have := h.2; omega))).trans ?_
            refine (if_neg (fun h => by first | exact absurd h.1 (by decide) | (have := HF.out; have := h.2; omega))).trans ?_
            refine (if_neg (fun h => by first | exact absurd h.1 (by decide) | (have := HF.out; have := h.2; omega))).trans ?_
            refine (if_neg (fun h => by first | exact absurd h.1 (by decide) | (have := HF.out; have := h.2; omega))).trans ?_
            refine (if_neg (fun h => by first | exact absurd h.1 (by decide) | (have := HF.out; have := h.2; omega))).trans ?_
            refine (if_neg (fun h => by first | exact absurd h.1 (by decide) | (have := HF.out; have := h.2; omega))).trans ?_
            first | rfl | rw [HT.out]
          go_wp2
          go_end0
          rw [HE]
          exact ⟨rfl, v8, HW8.out, HB8.out, HS8.out⟩
      · have HF := Aside0.mk (show 0 < n ∧ ¬ n ≤ 3 from ⟨hn_, h3_⟩)
        have q_n0 : (n == 0) = false := beq_eq_false_iff_ne.2 (by omega)
        have q_nl : decide (n < 0) = false := decide_eq_false (by omega)
        have q_ng : decide (n > 0) = true := decide_eq_true (by omega)
        have q_m3 : decide (n ≤ 3) = false := decide_eq_false (by omega)
        try clear hz_
        try clear hy_
        try clear hd_
        try clear h3_
        try clear hn_
        try clear hy1_
        go_wp2_with fail
        refine (mapNum_any w0 _ g A l1.length c s.2 v s.1 255 _ 1 rfl (by decide) HW2.out HB2.out (by first | (have := HLEN.out; (try simp only [List.length_append, bigB_length]); omega) | (have := HLEN.out; have := HTL.out; have := HLX.out; (try simp only [List.length_append, bigB_length]); omega))).mono ?_
        rintro e3 w3 ⟨rfl, hb3, v3, hw3, hs3⟩
        have a3 := hs3.cell a2 HG.out HN2.out
        have b3 := hs3.cell b2 HG.out HN2.out
        have HN3 := Aside0.mk (BS.old_ne hs3 (q := w.heap.size) HZ2.out HN2.out)
        have HZ3 := Aside0.mk (show w.heap.size < w3.heap.size from Nat.lt_of_lt_of_le HZ2.out hs3.1.1)
        have HB3 := Aside0.mk hb3
        have HW3 := Aside0.mk hw3
        have HS3 := Aside0.mk (HS2.out.trans hs3)
        clear hb3 hw3 hs3 a2 b2
        go_wp2_with fail
        refine (mapNum_any w0 _ g A l1.length c s.2 v3 (s.1 ++ bigB (U64 255) 1) d _ 2 rfl (by decide) HW3.out HB3.out (by first | (have := HLEN.out; (try simp only [List.length_append, bigB_length]); omega) | (have := HLEN.out; have := HTL.out; have := HLX.out; (try simp only [List.length_append, bigB_length]); omega))).mono ?_
        rintro e4 w4 ⟨rfl, hb4, v4, hw4, hs4⟩
        have a4 := hs4.cell a3 HG.out HN3.out
        have b4 := hs4.cell b3 HG.out HN3.out
        have HN4 := Aside0.mk (BS.old_ne hs4 (q := w.heap.size) HZ3.out HN3.out)
        have HZ4 := Aside0.mk (show w.heap.size < w4.heap.size from Nat.lt_of_lt_of_le HZ3.out hs4.1.1)
        have HB4 := Aside0.mk hb4
        have HW4 := Aside0.mk hw4
        have HS4 := Aside0.mk (HS3.out.trans hs4)
        clear hb4 hw4 hs4 a3 b3
        go_wp2_with fail
        refine (mapNum_any w0 _ g A l1.length c s.2 v4 ((s.1 ++ bigB (U64 255) 1) ++ bigB (U64 d) 2) (xs.length : Int) _ 2 rfl (by decide) HW4.out HB4.out (by first | (have := HLEN.out; (try simp only [List.length_append, bigB_length]); omega) | (have := HLEN.out; have := HTL.out; have := HLX.out; (try simp only [List.length_append, bigB_length]); omega))).mono ?_
        rintro e5 w5 ⟨rfl, hb5, v5, hw5, hs5⟩
        have a5 := hs5.cell a4 HG.out HN4.out
        have b5 := hs5.cell b4 HG.out HN4.out
        have HN5 := Aside0.mk (BS.old_ne hs5 (q := w.heap.size) HZ4.out HN4.out)
        have HZ5 := Aside0.mk (show w.heap.size < w5.heap.size from Nat.lt_of_lt_of_le HZ4.out hs5.1.1)
        have HB5 := Aside0.mk hb5
        have HW5 := Aside0.mk hw5
        have HS5 := Aside0.mk (HS4.out.trans hs5)
        clear hb5 hw5 hs5 a4 b4
        go_wp2_with fail
        refine (values_any2 w0 _ g A c l1 v5 (((s.1 ++ bigB (U64 255) 1) ++ bigB (U64 d) 2) ++ bigB (U64 (xs.length : Int)) 2) s.2 _ _ _ xs rfl HW5.out HB5.out HRP.out HC.out HLL.out H3.out HX.out HCX.out HTX.out (by have := HLEN.out; first | (have := HLX.out; have := HLY.out; simp only [List.length_append, bigB_length, List.length_drop]; omega) | (have := HTL.out; have := HLX.out; have := HLY.out; simp only [List.length_append, bigB_length]; omega))).mono ?_
        rintro e6 w6 ⟨rfl, v6, hw6, hb6, hs6⟩
        have a6 := hs6.cell a5 HG.out HN5.out
        have b6 := hs6.cell b5 HG.out HN5.out
        have HN6 := Aside0.mk (BS.old_ne hs6 (q := w.heap.size) HZ5.out HN5.out)
        have HZ6 := Aside0.mk (show w.heap.size < w6.heap.size from Nat.lt_of_lt_of_le HZ5.out hs6.1.1)
        have HB6 := Aside0.mk hb6
        have HW6 := Aside0.mk hw6
        have HS6 := Aside0.mk (HS5.out.trans hs6)
        clear hb6 hw6 hs6 a5 b5
        have HTL := Aside0.mk (one_len (l1 := l1) (xs := xs) (m := s.1.length + 5) rfl (s := ((((s.1 ++ bigB (U64 255) 1) ++ bigB (U64 d) 2) ++ bigB (U64 (xs.length : Int)) 2), s.2)) (by simp only [List.length_append, bigB_length]; omega))
        generalize ht : valsS l1 xs ((((s.1 ++ bigB (U64 255) 1) ++ bigB (U64 d) 2) ++ bigB (U64 (xs.length : Int)) 2), s.2) = t at *
        have HT := Aside0.mk ht
        clear ht
        go_wp2_with fail
        refine (mapNum_any w0 _ g A l1.length c t.2 v6 t.1 (ys.length : Int) _ 2 rfl (by decide) HW6.out HB6.out (by first | (have := HLEN.out; (try simp only [List.length_append, bigB_length]); omega) | (have := HLEN.out; have := HTL.out; have := HLX.out; (try simp only [List.length_append, bigB_length]); omega))).mono ?_
        rintro e7 w7 ⟨rfl, hb7, v7, hw7, hs7⟩
        have a7 := hs7.cell a6 HG.out HN6.out
        have b7 := hs7.cell b6 HG.out HN6.out
        have HN7 := Aside0.mk (BS.old_ne hs7 (q := w.heap.size) HZ6.out HN6.out)
        have HZ7 := Aside0.mk (show w.heap.size < w7.heap.size from Nat.lt_of_lt_of_le HZ6.out hs7.1.1)
        have HB7 := Aside0.mk hb7
        have HW7 := Aside0.mk hw7
        have HS7 := Aside0.mk (HS6.out.trans hs7)
        clear hb7 hw7 hs7 a6 b6
        go_wp2_with fail
        refine (values_any2 w0 _ g A c l1 v7 (t.1 ++ bigB (U64 (ys.length : Int)) 2) t.2 _ _ _ ys rfl HW7.out HB7.out HRP.out HC.out HLL.out H3.out HY.out HCY.out HTY.out (by have := HLEN.out; first | (have := HLX.out; have := HLY.out; simp only [List.length_append, bigB_length, List.length_drop]; omega) | (have := HTL.out; have := HLX.out; have := HLY.out; simp only [List.length_append, bigB_length]; omega))).mono ?_
        rintro e8 w8 ⟨rfl, v8, hw8, hb8, hs8⟩
        have a8 := hs8.cell a7 HG.out HN7.out
        have b8 := hs8.cell b7 HG.out HN7.out
        have HN8 := Aside0.mk (BS.old_ne hs8 (q := w.heap.size) HZ7.out HN7.out)
        have HZ8 := Aside0.mk (show w.heap.size < w8.heap.size from Nat.lt_of_lt_of_le HZ7.out hs8.1.1)
        have HB8 := Aside0.mk hb8
        have HW8 := Aside0.mk hw8
        have HS8 := Aside0.mk (HS7.out.trans hs8)
        clear hb8 hw8 hs8 a7 b7
        have HE : so = valsS l1 ys (t.1 ++ bigB (U64 (ys.length : Int)) 2, t.2) := by
          refine HS.out.trans ?_
          refine (if_neg (fun h => by first | exact absurd h.1 (by decide) | (have := HF.out; have := h.2; omega))).trans ?_
          refine (if_neg (fun h => by first | exact absurd h.1 (by decide) | (have := HF.out; have := h.2; omega))).trans ?_
          refine (if_neg (fun h => by first | exact absurd h.1 (by decide) | (have := HF.out; have := h.2; omega))).trans ?_
          refine (if_neg (fun h => by first | exact absurd h.1 (by decide) | (have := HF.out; have := h.2; omega))).trans ?_
          refine (if_neg (fun h => by first | exact absurd h.1 (by decide) | (have := HF.out; have := h.2; omega))).trans ?_
          refine (if_neg (fun h => by first | exact absurd h.1 (by decide) | (have := HF.out; have := h.2; omega))).trans ?_
          first | rfl | rw [HT.out]
        go_wp2
        go_end0
        rw [HE]
        exact ⟨rfl, v8, HW8.out, HB8.out, HS8.out⟩
  · obtain rfl : m = xs.length := by omega
    have hlt2 : ¬ (zs.length : Int) < (xs.length : Int) := by omega
    clear hm
    go_enter Try.func60, Try.ntmps60
    go_wp2_with fail
    have a0 : (w.alloc (.cells #[.int .i64 fat, .slice A1 xs.length c1, .slice A2 ys.length c2] 80)).cell? ⟨w.heap.size, 1, none⟩ = some (.slice A1 xs.length c1) := by go_simp
    have b0 : (w.alloc (.cells #[.int .i64 fat, .slice A1 xs.length c1, .slice A2 ys.length c2] 80)).cell? ⟨w.heap.size, 2, none⟩ = some (.slice A2 ys.length c2) := by go_simp
    have hbel := below_alloc (Below.refl w.heap.size w) (.cells #[.int .i64 fat, .slice A1 xs.length c1, .slice A2 ys.length c2] 80)
    have hz0 : w.heap.size < (w.alloc (.cells #[.int .i64 fat, .slice A1 xs.length c1, .slice A2 ys.length c2] 80)).heap.size := by simp
    have HB0 := Aside0.mk (below_then HB.out HB.out.size hbel)
    have HW0 := Aside0.mk (HW.out.below hbel)
    have HS0 := Aside0.mk (BS.below (g := g) (v := v) hbel)
    clear hbel
    generalize w.alloc (.cells #[.int .i64 fat, .slice A1 xs.length c1, .slice A2 ys.length c2] 80) = w1 at *
    have HZ1 := Aside0.mk hz0
    clear hz0
    have lk : ∀ W, Below w0.heap.size w0 W → Calls Try.prog 109 #[.slice A1 xs.length c1, .slice A3 xs.length c3] W fun e w' => e = .returned (.bool b) ∧ Below W.heap.size W w' := fun W hW => by
      have k0 := like_any A1 c1 xs.length (xs.take xs.length) (by rw [List.length_take]; omega) A3 c3 xs.length (zs.take xs.length) (by rw [List.length_take]; omega) W (Kd.C_take (Kd.C_below HX.out hW) (by omega)) (Kd.C_take (Kd.C_below HZ.out hW) (by omega)) (by rw [List.length_take]; have := HCX.out; omega) (by rw [List.length_take]; have := HCZ.out; omega) (by rw [List.length_take]; have := HLX.out; omega)
      rw [HL.out] at k0
      exact k0
    have LK := Aside0.mk lk
    clear lk
    go_region_held3 (fun w' => w'.cell? ⟨w.heap.size, 1, none⟩ = some (.slice A1 xs.length c1)) (first | exact a0 | exact pw_cell_below (below_drew0 (by assumption)) a0) ((go_at_call 109; refine (LK.out _ (pw_below_drewN HB0.out _)).mono ?_; rintro e2 w2 ⟨rfl, hbx⟩))
    have hb2 := below_drew0 hbx
    have a2 := pw_cell_below hb2 a0
    have b2 := pw_cell_below hb2 b0
    have HB2 := Aside0.mk (below_then HB0.out HB0.out.size hb2)
    have HW2 := Aside0.mk (HW0.out.below hb2)
    have HS2 := Aside0.mk (HS0.out.trans (BS.below hb2))
    have HN2 := HVN
    have HZ2 := Aside0.mk (show w.heap.size < w2.heap.size from Nat.lt_of_lt_of_le HZ1.out hb2.size)
    clear hb2 hbx a0 b0
    try clear LK
    cases b
    · have HF := Aside0.mk (show True from trivial)
      go_wp2_with fail
      refine (mapNum_any w0 _ g A l1.length c s.2 v s.1 255 _ 1 rfl (by decide) HW2.out HB2.out (by first | (have := HLEN.out; (try simp only [List.length_append, bigB_length]); omega) | (have := HLEN.out; have := HTL.out; have := HLX.out; (try simp only [List.length_append, bigB_length]); omega))).mono ?_
      rintro e3 w3 ⟨rfl, hb3, v3, hw3, hs3⟩
      have a3 := hs3.cell a2 HG.out HN2.out
      have b3 := hs3.cell b2 HG.out HN2.out
      have HN3 := Aside0.mk (BS.old_ne hs3 (q := w.heap.size) HZ2.out HN2.out)
      have HZ3 := Aside0.mk (show w.heap.size < w3.heap.size from Nat.lt_of_lt_of_le HZ2.out hs3.1.1)
      have HB3 := Aside0.mk hb3
      have HW3 := Aside0.mk hw3
      have HS3 := Aside0.mk (HS2.out.trans hs3)
      clear hb3 hw3 hs3 a2 b2
      go_wp2_with fail
      refine (mapNum_any w0 _ g A l1.length c s.2 v3 (s.1 ++ bigB (U64 255) 1) d _ 2 rfl (by decide) HW3.out HB3.out (by first | (have := HLEN.out; (try simp only [List.length_append, bigB_length]); omega) | (have := HLEN.out; have := HTL.out; have := HLX.out; (try simp only [List.length_append, bigB_length]); omega))).mono ?_
      rintro e4 w4 ⟨rfl, hb4, v4, hw4, hs4⟩
      have a4 := hs4.cell a3 HG.out HN3.out
      have b4 := hs4.cell b3 HG.out HN3.out
      have HN4 := Aside0.mk (BS.old_ne hs4 (q := w.heap.size) HZ3.out HN3.out)
      have HZ4 := Aside0.mk (show w.heap.size < w4.heap.size from Nat.lt_of_lt_of_le HZ3.out hs4.1.1)
      have HB4 := Aside0.mk hb4
      have HW4 := Aside0.mk hw4
      have HS4 := Aside0.mk (HS3.out.trans hs4)
      clear hb4 hw4 hs4 a3 b3
      go_wp2_with fail
      refine (mapNum_any w0 _ g A l1.length c s.2 v4 ((s.1 ++ bigB (U64 255) 1) ++ bigB (U64 d) 2) (xs.length : Int) _ 2 rfl (by decide) HW4.out HB4.out (by first | (have := HLEN.out; (try simp only [List.length_append, bigB_length]); omega) | (have := HLEN.out; have := HTL.out; have := HLX.out; (try simp only [List.length_append, bigB_length]); omega))).mono ?_
      rintro e5 w5 ⟨rfl, hb5, v5, hw5, hs5⟩
      have a5 := hs5.cell a4 HG.out HN4.out
      have b5 := hs5.cell b4 HG.out HN4.out
      have HN5 := Aside0.mk (BS.old_ne hs5 (q := w.heap.size) HZ4.out HN4.out)
      have HZ5 := Aside0.mk (show w.heap.size < w5.heap.size from Nat.lt_of_lt_of_le HZ4.out hs5.1.1)
      have HB5 := Aside0.mk hb5
      have HW5 := Aside0.mk hw5
      have HS5 := Aside0.mk (HS4.out.trans hs5)
      clear hb5 hw5 hs5 a4 b4
      go_wp2_with fail
      refine (values_any2 w0 _ g A c l1 v5 (((s.1 ++ bigB (U64 255) 1) ++ bigB (U64 d) 2) ++ bigB (U64 (xs.length : Int)) 2) s.2 _ _ _ xs rfl HW5.out HB5.out HRP.out HC.out HLL.out H3.out HX.out HCX.out HTX.out (by have := HLEN.out; first | (have := HLX.out; have := HLY.out; simp only [List.length_append, bigB_length, List.length_drop]; omega) | (have := HTL.out; have := HLX.out; have := HLY.out; simp only [List.length_append, bigB_length]; omega))).mono ?_
      rintro e6 w6 ⟨rfl, v6, hw6, hb6, hs6⟩
      have a6 := hs6.cell a5 HG.out HN5.out
      have b6 := hs6.cell b5 HG.out HN5.out
      have HN6 := Aside0.mk (BS.old_ne hs6 (q := w.heap.size) HZ5.out HN5.out)
      have HZ6 := Aside0.mk (show w.heap.size < w6.heap.size from Nat.lt_of_lt_of_le HZ5.out hs6.1.1)
      have HB6 := Aside0.mk hb6
      have HW6 := Aside0.mk hw6
      have HS6 := Aside0.mk (HS5.out.trans hs6)
      clear hb6 hw6 hs6 a5 b5
      have HTL := Aside0.mk (one_len (l1 := l1) (xs := xs) (m := s.1.length + 5) rfl (s := ((((s.1 ++ bigB (U64 255) 1) ++ bigB (U64 d) 2) ++ bigB (U64 (xs.length : Int)) 2), s.2)) (by simp only [List.length_append, bigB_length]; omega))
      generalize ht : valsS l1 xs ((((s.1 ++ bigB (U64 255) 1) ++ bigB (U64 d) 2) ++ bigB (U64 (xs.length : Int)) 2), s.2) = t at *
      have HT := Aside0.mk ht
      clear ht
      go_wp2_with fail
      refine (mapNum_any w0 _ g A l1.length c t.2 v6 t.1 (ys.length : Int) _ 2 rfl (by decide) HW6.out HB6.out (by first | (have := HLEN.out; (try simp only [List.length_append, bigB_length]); omega) | (have := HLEN.out; have := HTL.out; have := HLX.out; (try simp only [List.length_append, bigB_length]); omega))).mono ?_
      rintro e7 w7 ⟨rfl, hb7, v7, hw7, hs7⟩
      have a7 := hs7.cell a6 HG.out HN6.out
      have b7 := hs7.cell b6 HG.out HN6.out
      have HN7 := Aside0.mk (BS.old_ne hs7 (q := w.heap.size) HZ6.out HN6.out)
      have HZ7 := Aside0.mk (show w.heap.size < w7.heap.size from Nat.lt_of_lt_of_le HZ6.out hs7.1.1)
      have HB7 := Aside0.mk hb7
      have HW7 := Aside0.mk hw7
      have HS7 := Aside0.mk (HS6.out.trans hs7)
      clear hb7 hw7 hs7 a6 b6
      go_wp2_with fail
      refine (values_any2 w0 _ g A c l1 v7 (t.1 ++ bigB (U64 (ys.length : Int)) 2) t.2 _ _ _ ys rfl HW7.out HB7.out HRP.out HC.out HLL.out H3.out HY.out HCY.out HTY.out (by have := HLEN.out; first | (have := HLX.out; have := HLY.out; simp only [List.length_append, bigB_length, List.length_drop]; omega) | (have := HTL.out; have := HLX.out; have := HLY.out; simp only [List.length_append, bigB_length]; omega))).mono ?_
      rintro e8 w8 ⟨rfl, v8, hw8, hb8, hs8⟩
      have a8 := hs8.cell a7 HG.out HN7.out
      have b8 := hs8.cell b7 HG.out HN7.out
      have HN8 := Aside0.mk (BS.old_ne hs8 (q := w.heap.size) HZ7.out HN7.out)
      have HZ8 := Aside0.mk (show w.heap.size < w8.heap.size from Nat.lt_of_lt_of_le HZ7.out hs8.1.1)
      have HB8 := Aside0.mk hb8
      have HW8 := Aside0.mk hw8
      have HS8 := Aside0.mk (HS7.out.trans hs8)
      clear hb8 hw8 hs8 a7 b7
      have HE : so = valsS l1 ys (t.1 ++ bigB (U64 (ys.length : Int)) 2, t.2) := by
        refine HS.out.trans ?_
        refine (if_neg (fun h => by first | exact absurd h.1 (by decide) | (have := HF.out; have := h.2; omega))).trans ?_
        refine (if_neg (fun h => by first | exact absurd h.1 (by decide) | (have := HF.out; have := h.2; omega))).trans ?_
        refine (if_neg (fun h => by first | exact absurd h.1 (by decide) | (have := HF.out; have := h.2; omega))).trans ?_
        refine (if_neg (fun h => by first | exact absurd h.1 (by decide) | (have := HF.out; have := h.2; omega))).trans ?_
        refine (if_neg (fun h => by first | exact absurd h.1 (by decide) | (have := HF.out; have := h.2; omega))).trans ?_
        refine (if_neg (fun h => by first | exact absurd h.1 (by decide) | (have := HF.out; have := h.2; omega))).trans ?_
        first | rfl | rw [HT.out]
      go_wp2
      go_end0
      rw [HE]
      exact ⟨rfl, v8, HW8.out, HB8.out, HS8.out⟩
    · by_cases hn_ : n = 0
      · by_cases hy_ : ys.length = 0
        · by_cases hd_ : d < 64
          · have HF := Aside0.mk (show n = 0 ∧ ys.length = 0 ∧ d < 64 from ⟨hn_, hy_, hd_⟩)
            have q_n0 : (n == 0) = true := beq_iff_eq.2 (by omega)
            have q_nl : decide (n < 0) = false := decide_eq_false (by omega)
            have q_ng : decide (n > 0) = false := decide_eq_false (by omega)
            have q_y0 : ((ys.length : Int) == 0) = true := beq_iff_eq.2 (by omega)
            have q_d : decide (d < 64) = true := decide_eq_true (by omega)
            try clear hz_
            try clear hy_
            try clear hd_
            try clear h3_
            try clear hn_
            try clear hy1_
            go_wp2_with fail
            refine (mapNum_any w0 _ g A l1.length c s.2 v s.1 d _ 1 rfl (by decide) HW2.out HB2.out (by first | (have := HLEN.out; (try simp only [List.length_append, bigB_length]); omega) | (have := HLEN.out; have := HTL.out; have := HLX.out; (try simp only [List.length_append, bigB_length]); omega))).mono ?_
            rintro e3 w3 ⟨rfl, hb3, v3, hw3, hs3⟩
            have a3 := hs3.cell a2 HG.out HN2.out
            have b3 := hs3.cell b2 HG.out HN2.out
            have HN3 := Aside0.mk (BS.old_ne hs3 (q := w.heap.size) HZ2.out HN2.out)
            have HZ3 := Aside0.mk (show w.heap.size < w3.heap.size from Nat.lt_of_lt_of_le HZ2.out hs3.1.1)
            have HB3 := Aside0.mk hb3
            have HW3 := Aside0.mk hw3
            have HS3 := Aside0.mk (HS2.out.trans hs3)
            clear hb3 hw3 hs3 a2 b2
            have HE : so = ((s.1 ++ bigB (U64 d) 1), s.2) := by
              refine HS.out.trans ?_
              exact if_pos ⟨(by first | rfl | trivial), by have := HF.out; omega⟩
            go_wp2
            go_end0
            rw [HE]
            exact ⟨rfl, v3, HW3.out, HB3.out, HS3.out⟩
          · have HF := Aside0.mk (show n = 0 ∧ ys.length = 0 ∧ ¬ d < 64 from ⟨hn_, hy_, hd_⟩)
            have q_n0 : (n == 0) = true := beq_iff_eq.2 (by omega)
            have q_nl : decide (n < 0) = false := decide_eq_false (by omega)
            have q_ng : decide (n > 0) = false := decide_eq_false (by omega)
            have q_y0 : ((ys.length : Int) == 0) = true := beq_iff_eq.2 (by omega)
            have q_d : decide (d < 64) = false := decide_eq_false (by omega)
            try clear hz_
            try clear hy_
            try clear hd_
            try clear h3_
            try clear hn_
            try clear hy1_
            go_wp2_with fail
            refine (mapNum_any w0 _ g A l1.length c s.2 v s.1 251 _ 1 rfl (by decide) HW2.out HB2.out (by first | (have := HLEN.out; (try simp only [List.length_append, bigB_length]); omega) | (have := HLEN.out; have := HTL.out; have := HLX.out; (try simp only [List.length_append, bigB_length]); omega))).mono ?_
            rintro e3 w3 ⟨rfl, hb3, v3, hw3, hs3⟩
            have a3 := hs3.cell a2 HG.out HN2.out
            have b3 := hs3.cell b2 HG.out HN2.out
            have HN3 := Aside0.mk (BS.old_ne hs3 (q := w.heap.size) HZ2.out HN2.out)
            have HZ3 := Aside0.mk (show w.heap.size < w3.heap.size from Nat.lt_of_lt_of_le HZ2.out hs3.1.1)
            have HB3 := Aside0.mk hb3
            have HW3 := Aside0.mk hw3
            have HS3 := Aside0.mk (HS2.out.trans hs3)
            clear hb3 hw3 hs3 a2 b2
            go_wp2_with fail
            refine (mapNum_any w0 _ g A l1.length c s.2 v3 (s.1 ++ bigB (U64 251) 1) d _ 2 rfl (by decide) HW3.out HB3.out (by first | (have := HLEN.out; (try simp only [List.length_append, bigB_length]); omega) | (have := HLEN.out; have := HTL.out; have := HLX.out; (try simp only [List.length_append, bigB_length]); omega))).mono ?_
            rintro e4 w4 ⟨rfl, hb4, v4, hw4, hs4⟩
            have a4 := hs4.cell a3 HG.out HN3.out
            have b4 := hs4.cell b3 HG.out HN3.out
            have HN4 := Aside0.mk (BS.old_ne hs4 (q := w.heap.size) HZ3.out HN3.out)
            have HZ4 := Aside0.mk (show w.heap.size < w4.heap.size from Nat.lt_of_lt_of_le HZ3.out hs4.1.1)
            have HB4 := Aside0.mk hb4
            have HW4 := Aside0.mk hw4
            have HS4 := Aside0.mk (HS3.out.trans hs4)
            clear hb4 hw4 hs4 a3 b3
            have HE : so = (((s.1 ++ bigB (U64 251) 1) ++ bigB (U64 d) 2), s.2) := by
              refine HS.out.trans ?_
              refine (if_neg (fun h => by first | exact absurd h.1 (by decide) | (have := HF.out; have := h.2; omega))).trans ?_
              exact if_pos ⟨(by first | rfl | trivial), by have := HF.out; omega⟩
            go_wp2
            go_end0
            rw [HE]
            exact ⟨rfl, v4, HW4.out, HB4.out, HS4.out⟩
        · by_cases hy1_ : ys.length = 1
          · by_cases hd_ : d < 64
            · have HF := Aside0.mk (show n = 0 ∧ ys.length = 1 ∧ d < 64 from ⟨hn_, hy1_, hd_⟩)
              have q_n0 : (n == 0) = true := beq_iff_eq.2 (by omega)
              have q_nl : decide (n < 0) = false := decide_eq_false (by omega)
              have q_ng : decide (n > 0) = false := decide_eq_false (by omega)
              have q_y0 : ((ys.length : Int) == 0) = false := beq_eq_false_iff_ne.2 (by omega)
              have q_y1 : ((ys.length : Int) == 1) = true := beq_iff_eq.2 (by omega)
              have q_d : decide (d < 64) = true := decide_eq_true (by omega)
              have hw6 : IntKind.i64.wrap (64 + d) = 64 + d := by rw [IntKind.wrap_i64]; omega
              try clear hz_
              try clear hy_
              try clear hd_
              try clear h3_
              try clear hn_
              try clear hy1_
              go_wp2_with fail
              refine (mapNum_any w0 _ g A l1.length c s.2 v s.1 (64 + d) _ 1 rfl (by decide) HW2.out HB2.out (by first | (have := HLEN.out; (try simp only [List.length_append, bigB_length]); omega) | (have := HLEN.out; have := HTL.out; have := HLX.out; (try simp only [List.length_append, bigB_length]); omega))).mono ?_
              rintro e3 w3 ⟨rfl, hb3, v3, hw3, hs3⟩
              have a3 := hs3.cell a2 HG.out HN2.out
              have b3 := hs3.cell b2 HG.out HN2.out
              have HN3 := Aside0.mk (BS.old_ne hs3 (q := w.heap.size) HZ2.out HN2.out)
              have HZ3 := Aside0.mk (show w.heap.size < w3.heap.size from Nat.lt_of_lt_of_le HZ2.out hs3.1.1)
              have HB3 := Aside0.mk hb3
              have HW3 := Aside0.mk hw3
              have HS3 := Aside0.mk (HS2.out.trans hs3)
              clear hb3 hw3 hs3 a2 b2
              go_wp2_with fail
              refine (values_any2 w0 _ g A c l1 v3 (s.1 ++ bigB (U64 (64 + d)) 1) s.2 _ _ _ ys rfl HW3.out HB3.out HRP.out HC.out HLL.out H3.out HY.out HCY.out HTY.out (by have := HLEN.out; first | (have := HLX.out; have := HLY.out; simp only [List.length_append, bigB_length, List.length_drop]; omega) | (have := HTL.out; have := HLX.out; have := HLY.out; simp only [List.length_append, bigB_length]; omega))).mono ?_
              rintro e4 w4 ⟨rfl, v4, hw4, hb4, hs4⟩
              have a4 := hs4.cell a3 HG.out HN3.out
              have b4 := hs4.cell b3 HG.out HN3.out
              have HN4 := Aside0.mk (BS.old_ne hs4 (q := w.heap.size) HZ3.out HN3.out)
              have HZ4 := Aside0.mk (show w.heap.size < w4.heap.size from Nat.lt_of_lt_of_le HZ3.out hs4.1.1)
              have HB4 := Aside0.mk hb4
              have HW4 := Aside0.mk hw4
              have HS4 := Aside0.mk (HS3.out.trans hs4)
              clear hb4 hw4 hs4 a3 b3
              have HE : so = valsS l1 ys ((s.1 ++ bigB (U64 (64 + d)) 1), s.2) := by
                refine HS.out.trans ?_
                refine (if_neg (fun h => by first | exact absurd h.1 (by decide) | (have := HF.out; have := h.2; omega))).trans ?_
                refine (if_neg (fun h => by first | exact absurd h.1 (by decide) | (have := HF.out; have := h.2; omega))).trans ?_
                exact if_pos ⟨(by first | rfl | trivial), by have := HF.out; omega⟩
              go_wp2
              go_end0
              rw [HE]
              exact ⟨rfl, v4, HW4.out, HB4.out, HS4.out⟩
            · have HF := Aside0.mk (show n = 0 ∧ ys.length = 1 ∧ ¬ d < 64 from ⟨hn_, hy1_, hd_⟩)
              have q_n0 : (n == 0) = true := beq_iff_eq.2 (by omega)
              have q_nl : decide (n < 0) = false := decide_eq_false (by omega)
              have q_ng : decide (n > 0) = false := decide_eq_false (by omega)
              have q_y0 : ((ys.length : Int) == 0) = false := beq_eq_false_iff_ne.2 (by omega)
              have q_y1 : ((ys.length : Int) == 1) = true := beq_iff_eq.2 (by omega)
              have q_d : decide (d < 64) = false := decide_eq_false (by omega)
              try clear hz_
              try clear hy_
              try clear hd_
              try clear h3_
              try clear hn_
              try clear hy1_
              go_wp2_with fail
              refine (mapNum_any w0 _ g A l1.length c s.2 v s.1 247 _ 1 rfl (by decide) HW2.out HB2.out (by first | (have := HLEN.out; (try simp only [List.length_append, bigB_length]); omega) | (have := HLEN.out; have := HTL.out; have := HLX.out; (try simp only [List.length_append, bigB_length]); omega))).mono ?_
              rintro e3 w3 ⟨rfl, hb3, v3, hw3, hs3⟩
              have a3 := hs3.cell a2 HG.out HN2.out
              have b3 := hs3.cell b2 HG.out HN2.out
              have HN3 := Aside0.mk (BS.old_ne hs3 (q := w.heap.size) HZ2.out HN2.out)
              have HZ3 := Aside0.mk (show w.heap.size < w3.heap.size from Nat.lt_of_lt_of_le HZ2.out hs3.1.1)
              have HB3 := Aside0.mk hb3
              have HW3 := Aside0.mk hw3
              have HS3 := Aside0.mk (HS2.out.trans hs3)
              clear hb3 hw3 hs3 a2 b2
              go_wp2_with fail
              refine (mapNum_any w0 _ g A l1.length c s.2 v3 (s.1 ++ bigB (U64 247) 1) d _ 2 rfl (by decide) HW3.out HB3.out (by first | (have := HLEN.out; (try simp only [List.length_append, bigB_length]); omega) | (have := HLEN.out; have := HTL.out; have := HLX.out; (try simp only [List.length_append, bigB_length]); omega))).mono ?_
              rintro e4 w4 ⟨rfl, hb4, v4, hw4, hs4⟩
              have a4 := hs4.cell a3 HG.out HN3.out
              have b4 := hs4.cell b3 HG.out HN3.out
              have HN4 := Aside0.mk (BS.old_ne hs4 (q := w.heap.size) HZ3.out HN3.out)
              have HZ4 := Aside0.mk (show w.heap.size < w4.heap.size from Nat.lt_of_lt_of_le HZ3.out hs4.1.1)
              have HB4 := Aside0.mk hb4
              have HW4 := Aside0.mk hw4
              have HS4 := Aside0.mk (HS3.out.trans hs4)
              clear hb4 hw4 hs4 a3 b3
              go_wp2_with fail
              refine (values_any2 w0 _ g A c l1 v4 ((s.1 ++ bigB (U64 247) 1) ++ bigB (U64 d) 2) s.2 _ _ _ ys rfl HW4.out HB4.out HRP.out HC.out HLL.out H3.out HY.out HCY.out HTY.out (by have := HLEN.out; first | (have := HLX.out; have := HLY.out; simp only [List.length_append, bigB_length, List.length_drop]; omega) | (have := HTL.out; have := HLX.out; have := HLY.out; simp only [List.length_append, bigB_length]; omega))).mono ?_
              rintro e5 w5 ⟨rfl, v5, hw5, hb5, hs5⟩
              have a5 := hs5.cell a4 HG.out HN4.out
              have b5 := hs5.cell b4 HG.out HN4.out
              have HN5 := Aside0.mk (BS.old_ne hs5 (q := w.heap.size) HZ4.out HN4.out)
              have HZ5 := Aside0.mk (show w.heap.size < w5.heap.size from Nat.lt_of_lt_of_le HZ4.out hs5.1.1)
              have HB5 := Aside0.mk hb5
              have HW5 := Aside0.mk hw5
              have HS5 := Aside0.mk (HS4.out.trans hs5)
              clear hb5 hw5 hs5 a4 b4
              have HE : so = valsS l1 ys (((s.1 ++ bigB (U64 247) 1) ++ bigB (U64 d) 2), s.2) := by
                refine HS.out.trans ?_
                refine (if_neg (fun h => by first | exact absurd h.1 (by decide) | (have := HF.out; have := h.2; omega))).trans ?_
                refine (if_neg (fun h => by first | exact absurd h.1 (by decide) | (have := HF.out; have := h.2; omega))).trans ?_
                refine (if_neg (fun h => by first | exact absurd h.1 (by decide) | (have := HF.out; have := h.2; omega))).trans ?_
                exact if_pos ⟨(by first | rfl | trivial), by have := HF.out; omega⟩
              go_wp2
              go_end0
              rw [HE]
              exact ⟨rfl, v5, HW5.out, HB5.out, HS5.out⟩
          · have HF := Aside0.mk (show n = 0 ∧ ¬ ys.length = 0 ∧ ¬ ys.length = 1 from ⟨hn_, hy_, hy1_⟩)
            have q_n0 : (n == 0) = true := beq_iff_eq.2 (by omega)
            have q_nl : decide (n < 0) = false := decide_eq_false (by omega)
            have q_ng : decide (n > 0) = false := decide_eq_false (by omega)
            have q_y0 : ((ys.length : Int) == 0) = false := beq_eq_false_iff_ne.2 (by omega)
            have q_y1 : ((ys.length : Int) == 1) = false := beq_eq_false_iff_ne.2 (by omega)
            try clear hz_
            try clear hy_
            try clear hd_
            try clear h3_
            try clear hn_
            try clear hy1_
            go_wp2_with fail
            refine (mapNum_any w0 _ g A l1.length c s.2 v s.1 255 _ 1 rfl (by decide) HW2.out HB2.out (by first | (have := HLEN.out; (try simp only [List.length_append, bigB_length]); omega) | (have := HLEN.out; have := HTL.out; have := HLX.out; (try simp only [List.length_append, bigB_length]); omega))).mono ?_
            rintro e3 w3 ⟨rfl, hb3, v3, hw3, hs3⟩
            have a3 := hs3.cell a2 HG.out HN2.out
            have b3 := hs3.cell b2 HG.out HN2.out
            have HN3 := Aside0.mk (BS.old_ne hs3 (q := w.heap.size) HZ2.out HN2.out)
            have HZ3 := Aside0.mk (show w.heap.size < w3.heap.size from Nat.lt_of_lt_of_le HZ2.out hs3.1.1)
            have HB3 := Aside0.mk hb3
            have HW3 := Aside0.mk hw3
            have HS3 := Aside0.mk (HS2.out.trans hs3)
            clear hb3 hw3 hs3 a2 b2
            go_wp2_with fail
            refine (mapNum_any w0 _ g A l1.length c s.2 v3 (s.1 ++ bigB (U64 255) 1) d _ 2 rfl (by decide) HW3.out HB3.out (by first | (have := HLEN.out; (try simp only [List.length_append, bigB_length]); omega) | (have := HLEN.out; have := HTL.out; have := HLX.out; (try simp only [List.length_append, bigB_length]); omega))).mono ?_
            rintro e4 w4 ⟨rfl, hb4, v4, hw4, hs4⟩
            have a4 := hs4.cell a3 HG.out HN3.out
            have b4 := hs4.cell b3 HG.out HN3.out
            have HN4 := Aside0.mk (BS.old_ne hs4 (q := w.heap.size) HZ3.out HN3.out)
            have HZ4 := Aside0.mk (show w.heap.size < w4.heap.size from Nat.lt_of_lt_of_le HZ3.out hs4.1.1)
            have HB4 := Aside0.mk hb4
            have HW4 := Aside0.mk hw4
            have HS4 := Aside0.mk (HS3.out.trans hs4)
            clear hb4 hw4 hs4 a3 b3
            go_wp2_with fail
            refine (mapNum_any w0 _ g A l1.length c s.2 v4 ((s.1 ++ bigB (U64 255) 1) ++ bigB (U64 d) 2) (xs.length : Int) _ 2 rfl (by decide) HW4.out HB4.out (by first | (have := HLEN.out; (try simp only [List.length_append, bigB_length]); omega) | (have := HLEN.out; have := HTL.out; have := HLX.out; (try simp only [List.length_append, bigB_length]); omega))).mono ?_
            rintro e5 w5 ⟨rfl, hb5, v5, hw5, hs5⟩
            have a5 := hs5.cell a4 HG.out HN4.out
            have b5 := hs5.cell b4 HG.out HN4.out
            have HN5 := Aside0.mk (BS.old_ne hs5 (q := w.heap.size) HZ4.out HN4.out)
            have HZ5 := Aside0.mk (show w.heap.size < w5.heap.size from Nat.lt_of_lt_of_le HZ4.out hs5.1.1)
            have HB5 := Aside0.mk hb5
            have HW5 := Aside0.mk hw5
            have HS5 := Aside0.mk (HS4.out.trans hs5)
            clear hb5 hw5 hs5 a4 b4
            go_wp2_with fail
            refine (values_any2 w0 _ g A c l1 v5 (((s.1 ++ bigB (U64 255) 1) ++ bigB (U64 d) 2) ++ bigB (U64 (xs.length : Int)) 2) s.2 _ _ _ xs rfl HW5.out HB5.out HRP.out HC.out HLL.out H3.out HX.out HCX.out HTX.out (by have := HLEN.out; first | (have := HLX.out; have := HLY.out; simp only [List.length_append, bigB_length, List.length_drop]; omega) | (have := HTL.out; have := HLX.out; have := HLY.out; simp only [List.length_append, bigB_length]; omega))).mono ?_
            rintro e6 w6 ⟨rfl, v6, hw6, hb6, hs6⟩
            have a6 := hs6.cell a5 HG.out HN5.out
            have b6 := hs6.cell b5 HG.out HN5.out
            have HN6 := Aside0.mk (BS.old_ne hs6 (q := w.heap.size) HZ5.out HN5.out)
            have HZ6 := Aside0.mk (show w.heap.size < w6.heap.size from Nat.lt_of_lt_of_le HZ5.out hs6.1.1)
            have HB6 := Aside0.mk hb6
            have HW6 := Aside0.mk hw6
            have HS6 := Aside0.mk (HS5.out.trans hs6)
            clear hb6 hw6 hs6 a5 b5
            have HTL := Aside0.mk (one_len (l1 := l1) (xs := xs) (m := s.1.length + 5) rfl (s := ((((s.1 ++ bigB (U64 255) 1) ++ bigB (U64 d) 2) ++ bigB (U64 (xs.length : Int)) 2), s.2)) (by simp only [List.length_append, bigB_length]; omega))
            generalize ht : valsS l1 xs ((((s.1 ++ bigB (U64 255) 1) ++ bigB (U64 d) 2) ++ bigB (U64 (xs.length : Int)) 2), s.2) = t at *
            have HT := Aside0.mk ht
            clear ht
            go_wp2_with fail
            refine (mapNum_any w0 _ g A l1.length c t.2 v6 t.1 (ys.length : Int) _ 2 rfl (by decide) HW6.out HB6.out (by first | (have := HLEN.out; (try simp only [List.length_append, bigB_length]); omega) | (have := HLEN.out; have := HTL.out; have := HLX.out; (try simp only [List.length_append, bigB_length]); omega))).mono ?_
            rintro e7 w7 ⟨rfl, hb7, v7, hw7, hs7⟩
            have a7 := hs7.cell a6 HG.out HN6.out
            have b7 := hs7.cell b6 HG.out HN6.out
            have HN7 := Aside0.mk (BS.old_ne hs7 (q := w.heap.size) HZ6.out HN6.out)
            have HZ7 := Aside0.mk (show w.heap.size < w7.heap.size from Nat.lt_of_lt_of_le HZ6.out hs7.1.1)
            have HB7 := Aside0.mk hb7
            have HW7 := Aside0.mk hw7
            have HS7 := Aside0.mk (HS6.out.trans hs7)
            clear hb7 hw7 hs7 a6 b6
            go_wp2_with fail
            refine (values_any2 w0 _ g A c l1 v7 (t.1 ++ bigB (U64 (ys.length : Int)) 2) t.2 _ _ _ ys rfl HW7.out HB7.out HRP.out HC.out HLL.out H3.out HY.out HCY.out HTY.out (by have := HLEN.out; first | (have := HLX.out; have := HLY.out; simp only [List.length_append, bigB_length, List.length_drop]; omega) | (have := HTL.out; have := HLX.out; have := HLY.out; simp only [List.length_append, bigB_length]; omega))).mono ?_
            rintro e8 w8 ⟨rfl, v8, hw8, hb8, hs8⟩
            have a8 := hs8.cell a7 HG.out HN7.out
            have b8 := hs8.cell b7 HG.out HN7.out
            have HN8 := Aside0.mk (BS.old_ne hs8 (q := w.heap.size) HZ7.out HN7.out)
            have HZ8 := Aside0.mk (show w.heap.size < w8.heap.size from Nat.lt_of_lt_of_le HZ7.out hs8.1.1)
            have HB8 := Aside0.mk hb8
            have HW8 := Aside0.mk hw8
            have HS8 := Aside0.mk (HS7.out.trans hs8)
            clear hb8 hw8 hs8 a7 b7
            have HE : so = valsS l1 ys (t.1 ++ bigB (U64 (ys.length : Int)) 2, t.2) := by
              refine HS.out.trans ?_
              refine (if_neg (fun h => by first | exact absurd h.1 (by decide) | (have := HF.out; have := h.2; omega))).trans ?_
              refine (if_neg (fun h => by first | exact absurd h.1 (by decide) | (have := HF.out; have := h.2; omega))).trans ?_
              refine (if_neg (fun h => by first | exact absurd h.1 (by decide) | (have := HF.out; have := h.2; omega))).trans ?_
              refine (if_neg (fun h => by first | exact absurd h.1 (by decide) | (have := HF.out; have := h.2; omega))).trans ?_
              refine (if_neg (fun h => by first | exact absurd h.1 (by decide) | (have := HF.out; have := h.2; omega))).trans ?_
              refine (if_neg (fun h => by first | exact absurd h.1 (by decide) | (have := HF.out; have := h.2; omega))).trans ?_
              first | rfl | rw [HT.out]
            go_wp2
            go_end0
            rw [HE]
            exact ⟨rfl, v8, HW8.out, HB8.out, HS8.out⟩
      · have hl_ : n < 0 := by have := HN.out; omega
        by_cases h3_ : n ≥ -3
        · by_cases hy_ : ys.length = 0
          · have HF := Aside0.mk (show n < 0 ∧ n ≥ -3 ∧ ys.length = 0 from ⟨(by have := HN.out; omega), h3_, hy_⟩)
            have q_n0 : (n == 0) = false := beq_eq_false_iff_ne.2 (by omega)
            have q_nl : decide (n < 0) = true := decide_eq_true (by omega)
            have q_ng : decide (n > 0) = false := decide_eq_false (by omega)
            have q_n3 : decide (n ≥ -3) = true := decide_eq_true (by omega)
            have q_y0 : ((ys.length : Int) == 0) = true := beq_iff_eq.2 (by omega)
            have hw3 : IntKind.i64.wrap (251 + n) = 251 + n := by rw [IntKind.wrap_i64]; omega
            try clear hz_
            try clear hy_
            try clear hd_
            try clear h3_
            try clear hn_
            try clear hy1_
            go_wp2_with fail
            refine (mapNum_any w0 _ g A l1.length c s.2 v s.1 (251 + n) _ 1 rfl (by decide) HW2.out HB2.out (by first | (have := HLEN.out; (try simp only [List.length_append, bigB_length]); omega) | (have := HLEN.out; have := HTL.out; have := HLX.out; (try simp only [List.length_append, bigB_length]); omega))).mono ?_
            rintro e3 w3 ⟨rfl, hb3, v3, hw3, hs3⟩
            have a3 := hs3.cell a2 HG.out HN2.out
            have b3 := hs3.cell b2 HG.out HN2.out
            have HN3 := Aside0.mk (BS.old_ne hs3 (q := w.heap.size) HZ2.out HN2.out)
            have HZ3 := Aside0.mk (show w.heap.size < w3.heap.size from Nat.lt_of_lt_of_le HZ2.out hs3.1.1)
            have HB3 := Aside0.mk hb3
            have HW3 := Aside0.mk hw3
            have HS3 := Aside0.mk (HS2.out.trans hs3)
            clear hb3 hw3 hs3 a2 b2
            go_wp2_with fail
            refine (mapNum_any w0 _ g A l1.length c s.2 v3 (s.1 ++ bigB (U64 (251 + n)) 1) d _ 2 rfl (by decide) HW3.out HB3.out (by first | (have := HLEN.out; (try simp only [List.length_append, bigB_length]); omega) | (have := HLEN.out; have := HTL.out; have := HLX.out; (try simp only [List.length_append, bigB_length]); omega))).mono ?_
            rintro e4 w4 ⟨rfl, hb4, v4, hw4, hs4⟩
            have a4 := hs4.cell a3 HG.out HN3.out
            have b4 := hs4.cell b3 HG.out HN3.out
            have HN4 := Aside0.mk (BS.old_ne hs4 (q := w.heap.size) HZ3.out HN3.out)
            have HZ4 := Aside0.mk (show w.heap.size < w4.heap.size from Nat.lt_of_lt_of_le HZ3.out hs4.1.1)
            have HB4 := Aside0.mk hb4
            have HW4 := Aside0.mk hw4
            have HS4 := Aside0.mk (HS3.out.trans hs4)
            clear hb4 hw4 hs4 a3 b3
            have HE : so = (((s.1 ++ bigB (U64 (251 + n)) 1) ++ bigB (U64 d) 2), s.2) := by
              refine HS.out.trans ?_
              refine (if_neg (fun h => by first | exact absurd h.1 (by decide) | (have := HF.out; have := h.2; omega))).trans ?_
              refine (if_neg (fun h => by first | exact absurd h.1 (by decide) | (have := HF.out; have := h.2; omega))).trans ?_
              refine (if_neg (fun h => by first | exact absurd h.1 (by decide) | (have := HF.out; have := h.2; omega))).trans ?_
              refine (if_neg (fun h => by first | exact absurd h.1 (by decide) | (have := HF.out; have := h.2; omega))).trans ?_
              exact if_pos ⟨(by first | rfl | trivial), by have := HF.out; omega⟩
            go_wp2
            go_end0
            rw [HE]
            exact ⟨rfl, v4, HW4.out, HB4.out, HS4.out⟩
          · have HF := Aside0.mk (show n < 0 ∧ n ≥ -3 ∧ ¬ ys.length = 0 from ⟨(by have := HN.out; omega), h3_, hy_⟩)
            have q_n0 : (n == 0) = false := beq_eq_false_iff_ne.2 (by omega)
            have q_nl : decide (n < 0) = true := decide_eq_true (by omega)
            have q_ng : decide (n > 0) = false := decide_eq_false (by omega)
            have q_n3 : decide (n ≥ -3) = true := decide_eq_true (by omega)
            have q_y0 : ((ys.length : Int) == 0) = false := beq_eq_false_iff_ne.2 (by omega)
            try clear hz_
            try clear hy_
            try clear hd_
            try clear h3_
            try clear hn_
            try clear hy1_
            go_wp2_with fail
            refine (mapNum_any w0 _ g A l1.length c s.2 v s.1 255 _ 1 rfl (by decide) HW2.out HB2.out (by first | (have := HLEN.out; (try simp only [List.length_append, bigB_length]); omega) | (have := HLEN.out; have := HTL.out; have := HLX.out; (try simp only [List.length_append, bigB_length]); omega))).mono ?_
            rintro e3 w3 ⟨rfl, hb3, v3, hw3, hs3⟩
            have a3 := hs3.cell a2 HG.out HN2.out
            have b3 := hs3.cell b2 HG.out HN2.out
            have HN3 := Aside0.mk (BS.old_ne hs3 (q := w.heap.size) HZ2.out HN2.out)
            have HZ3 := Aside0.mk (show w.heap.size < w3.heap.size from Nat.lt_of_lt_of_le HZ2.out hs3.1.1)
            have HB3 := Aside0.mk hb3
            have HW3 := Aside0.mk hw3
            have HS3 := Aside0.mk (HS2.out.trans hs3)
            clear hb3 hw3 hs3 a2 b2
            go_wp2_with fail
            refine (mapNum_any w0 _ g A l1.length c s.2 v3 (s.1 ++ bigB (U64 255) 1) d _ 2 rfl (by decide) HW3.out HB3.out (by first | (have := HLEN.out; (try simp only [List.length_append, bigB_length]); omega) | (have := HLEN.out; have := HTL.out; have := HLX.out; (try simp only [List.length_append, bigB_length]); omega))).mono ?_
            rintro e4 w4 ⟨rfl, hb4, v4, hw4, hs4⟩
            have a4 := hs4.cell a3 HG.out HN3.out
            have b4 := hs4.cell b3 HG.out HN3.out
            have HN4 := Aside0.mk (BS.old_ne hs4 (q := w.heap.size) HZ3.out HN3.out)
            have HZ4 := Aside0.mk (show w.heap.size < w4.heap.size from Nat.lt_of_lt_of_le HZ3.out hs4.1.1)
            have HB4 := Aside0.mk hb4
            have HW4 := Aside0.mk hw4
            have HS4 := Aside0.mk (HS3.out.trans hs4)
            clear hb4 hw4 hs4 a3 b3
            go_wp2_with fail
            refine (mapNum_any w0 _ g A l1.length c s.2 v4 ((s.1 ++ bigB (U64 255) 1) ++ bigB (U64 d) 2) (xs.length : Int) _ 2 rfl (by decide) HW4.out HB4.out (by first | (have := HLEN.out; (try simp only [List.length_append, bigB_length]); omega) | (have := HLEN.out; have := HTL.out; have := HLX.out; (try simp only [List.length_append, bigB_length]); omega))).mono ?_
            rintro e5 w5 ⟨rfl, hb5, v5, hw5, hs5⟩
            have a5 := hs5.cell a4 HG.out HN4.out
            have b5 := hs5.cell b4 HG.out HN4.out
            have HN5 := Aside0.mk (BS.old_ne hs5 (q := w.heap.size) HZ4.out HN4.out)
            have HZ5 := Aside0.mk (show w.heap.size < w5.heap.size from Nat.lt_of_lt_of_le HZ4.out hs5.1.1)
            have HB5 := Aside0.mk hb5
            have HW5 := Aside0.mk hw5
            have HS5 := Aside0.mk (HS4.out.trans hs5)
            clear hb5 hw5 hs5 a4 b4
            go_wp2_with fail
            refine (values_any2 w0 _ g A c l1 v5 (((s.1 ++ bigB (U64 255) 1) ++ bigB (U64 d) 2) ++ bigB (U64 (xs.length : Int)) 2) s.2 _ _ _ xs rfl HW5.out HB5.out HRP.out HC.out HLL.out H3.out HX.out HCX.out HTX.out (by have := HLEN.out; first | (have := HLX.out; have := HLY.out; simp only [List.length_append, bigB_length, List.length_drop]; omega) | (have := HTL.out; have := HLX.out; have := HLY.out; simp only [List.length_append, bigB_length]; omega))).mono ?_
            rintro e6 w6 ⟨rfl, v6, hw6, hb6, hs6⟩
            have a6 := hs6.cell a5 HG.out HN5.out
            have b6 := hs6.cell b5 HG.out HN5.out
            have HN6 := Aside0.mk (BS.old_ne hs6 (q := w.heap.size) HZ5.out HN5.out)
            have HZ6 := Aside0.mk (show w.heap.size < w6.heap.size from Nat.lt_of_lt_of_le HZ5.out hs6.1.1)
            have HB6 := Aside0.mk hb6
            have HW6 := Aside0.mk hw6
            have HS6 := Aside0.mk (HS5.out.trans hs6)
            clear hb6 hw6 hs6 a5 b5
            have HTL := Aside0.mk (one_len (l1 := l1) (xs := xs) (m := s.1.length + 5) rfl (s := ((((s.1 ++ bigB (U64 255) 1) ++ bigB (U64 d) 2) ++ bigB (U64 (xs.length : Int)) 2), s.2)) (by simp only [List.length_append, bigB_length]; omega))
            generalize ht : valsS l1 xs ((((s.1 ++ bigB (U64 255) 1) ++ bigB (U64 d) 2) ++ bigB (U64 (xs.length : Int)) 2), s.2) = t at *
            have HT := Aside0.mk ht
            clear ht
            go_wp2_with fail
            refine (mapNum_any w0 _ g A l1.length c t.2 v6 t.1 (ys.length : Int) _ 2 rfl (by decide) HW6.out HB6.out (by first | (have := HLEN.out; (try simp only [List.length_append, bigB_length]); omega) | (have := HLEN.out; have := HTL.out; have := HLX.out; (try simp only [List.length_append, bigB_length]); omega))).mono ?_
            rintro e7 w7 ⟨rfl, hb7, v7, hw7, hs7⟩
            have a7 := hs7.cell a6 HG.out HN6.out
            have b7 := hs7.cell b6 HG.out HN6.out
            have HN7 := Aside0.mk (BS.old_ne hs7 (q := w.heap.size) HZ6.out HN6.out)
            have HZ7 := Aside0.mk (show w.heap.size < w7.heap.size from Nat.lt_of_lt_of_le HZ6.out hs7.1.1)
            have HB7 := Aside0.mk hb7
            have HW7 := Aside0.mk hw7
            have HS7 := Aside0.mk (HS6.out.trans hs7)
            clear hb7 hw7 hs7 a6 b6
            go_wp2_with fail
            refine (values_any2 w0 _ g A c l1 v7 (t.1 ++ bigB (U64 (ys.length : Int)) 2) t.2 _ _ _ ys rfl HW7.out HB7.out HRP.out HC.out HLL.out H3.out HY.out HCY.out HTY.out (by have := HLEN.out; first | (have := HLX.out; have := HLY.out; simp only [List.length_append, bigB_length, List.length_drop]; omega) | (have := HTL.out; have := HLX.out; have := HLY.out; simp only [List.length_append, bigB_length]; omega))).mono ?_
            rintro e8 w8 ⟨rfl, v8, hw8, hb8, hs8⟩
            have a8 := hs8.cell a7 HG.out HN7.out
            have b8 := hs8.cell b7 HG.out HN7.out
            have HN8 := Aside0.mk (BS.old_ne hs8 (q := w.heap.size) HZ7.out HN7.out)
            have HZ8 := Aside0.mk (show w.heap.size < w8.heap.size from Nat.lt_of_lt_of_le HZ7.out hs8.1.1)
            have HB8 := Aside0.mk hb8
            have HW8 := Aside0.mk hw8
            have HS8 := Aside0.mk (HS7.out.trans hs8)
            clear hb8 hw8 hs8 a7 b7
            have HE : so = valsS l1 ys (t.1 ++ bigB (U64 (ys.length : Int)) 2, t.2) := by
              refine HS.out.trans ?_
              refine (if_neg (fun h => by first | exact absurd h.1 (by decide) | (have := HF.out; have := h.2; omega))).trans ?_
              refine (if_neg (fun h => by first | exact absurd h.1 (by decide) | (have := HF.out; have := h.2; omega))).trans ?_
              refine (if_neg (fun h => by first | exact absurd h.1 (by decide) | (have := HF.out; have := h.2; omega))).trans ?_
              refine (if_neg (fun h => by first | exact absurd h.1 (by decide) | (have := HF.out; have := h.2; omega))).trans ?_
              refine (if_neg (fun h => by first | exact absurd h.1 (by decide) | (have := HF.out; have := h.2; omega))).trans ?_
              refine (if_neg (fun h => by first | exact absurd h.1 (by decide) | (have := HF.out; have := h.2; omega))).trans ?_
              first | rfl | rw [HT.out]
            go_wp2
            go_end0
            rw [HE]
            exact ⟨rfl, v8, HW8.out, HB8.out, HS8.out⟩
        · have HF := Aside0.mk (show n < 0 ∧ ¬ n ≥ -3 from ⟨(by have := HN.out; omega), h3_⟩)
          have q_n0 : (n == 0) = false := beq_eq_false_iff_ne.2 (by omega)
          have q_nl : decide (n < 0) = true := decide_eq_true (by omega)
          have q_ng : decide (n > 0) = false := decide_eq_false (by omega)
          have q_n3 : decide (n ≥ -3) = false := decide_eq_false (by omega)
          try clear hz_
          try clear hy_
          try clear hd_
          try clear h3_
          try clear hn_
          try clear hy1_
          go_wp2_with fail
          refine (mapNum_any w0 _ g A l1.length c s.2 v s.1 255 _ 1 rfl (by decide) HW2.out HB2.out (by first | (have := HLEN.out; (try simp only [List.length_append, bigB_length]); omega) | (have := HLEN.out; have := HTL.out; have := HLX.out; (try simp only [List.length_append, bigB_length]); omega))).mono ?_
          rintro e3 w3 ⟨rfl, hb3, v3, hw3, hs3⟩
          have a3 := hs3.cell a2 HG.out HN2.out
          have b3 := hs3.cell b2 HG.out HN2.out
          have HN3 := Aside0.mk (BS.old_ne hs3 (q := w.heap.size) HZ2.out HN2.out)
          have HZ3 := Aside0.mk (show w.heap.size < w3.heap.size from Nat.lt_of_lt_of_le HZ2.out hs3.1.1)
          have HB3 := Aside0.mk hb3
          have HW3 := Aside0.mk hw3
          have HS3 := Aside0.mk (HS2.out.trans hs3)
          clear hb3 hw3 hs3 a2 b2
          go_wp2_with fail
          refine (mapNum_any w0 _ g A l1.length c s.2 v3 (s.1 ++ bigB (U64 255) 1) d _ 2 rfl (by decide) HW3.out HB3.out (by first | (have := HLEN.out; (try simp only [List.length_append, bigB_length]); omega) | (have := HLEN.out; have := HTL.out; have := HLX.out; (try simp only [List.length_append, bigB_length]); omega))).mono ?_
          rintro e4 w4 ⟨rfl, hb4, v4, hw4, hs4⟩
          have a4 := hs4.cell a3 HG.out HN3.out
          have b4 := hs4.cell b3 HG.out HN3.out
          have HN4 := Aside0.mk (BS.old_ne hs4 (q := w.heap.size) HZ3.out HN3.out)
          have HZ4 := Aside0.mk (show w.heap.size < w4.heap.size from Nat.lt_of_lt_of_le HZ3.out hs4.1.1)
          have HB4 := Aside0.mk hb4
          have HW4 := Aside0.mk hw4
          have HS4 := Aside0.mk (HS3.out.trans hs4)
          clear hb4 hw4 hs4 a3 b3
          go_wp2_with fail
          refine (mapNum_any w0 _ g A l1.length c s.2 v4 ((s.1 ++ bigB (U64 255) 1) ++ bigB (U64 d) 2) (xs.length : Int) _ 2 rfl (by decide) HW4.out HB4.out (by first | (have := HLEN.out; (try simp only [List.length_append, bigB_length]); omega) | (have := HLEN.out; have := HTL.out; have := HLX.out; (try simp only [List.length_append, bigB_length]); omega))).mono ?_
          rintro e5 w5 ⟨rfl, hb5, v5, hw5, hs5⟩
          have a5 := hs5.cell a4 HG.out HN4.out
          have b5 := hs5.cell b4 HG.out HN4.out
          have HN5 := Aside0.mk (BS.old_ne hs5 (q := w.heap.size) HZ4.out HN4.out)
          have HZ5 := Aside0.mk (show w.heap.size < w5.heap.size from Nat.lt_of_lt_of_le HZ4.out hs5.1.1)
          have HB5 := Aside0.mk hb5
          have HW5 := Aside0.mk hw5
          have HS5 := Aside0.mk (HS4.out.trans hs5)
          clear hb5 hw5 hs5 a4 b4
          go_wp2_with fail
          refine (values_any2 w0 _ g A c l1 v5 (((s.1 ++ bigB (U64 255) 1) ++ bigB (U64 d) 2) ++ bigB (U64 (xs.length : Int)) 2) s.2 _ _ _ xs rfl HW5.out HB5.out HRP.out HC.out HLL.out H3.out HX.out HCX.out HTX.out (by have := HLEN.out; first | (have := HLX.out; have := HLY.out; simp only [List.length_append, bigB_length, List.length_drop]; omega) | (have := HTL.out; have := HLX.out; have := HLY.out; simp only [List.length_append, bigB_length]; omega))).mono ?_
          rintro e6 w6 ⟨rfl, v6, hw6, hb6, hs6⟩
          have a6 := hs6.cell a5 HG.out HN5.out
          have b6 := hs6.cell b5 HG.out HN5.out
          have HN6 := Aside0.mk (BS.old_ne hs6 (q := w.heap.size) HZ5.out HN5.out)
          have HZ6 := Aside0.mk (show w.heap.size < w6.heap.size from Nat.lt_of_lt_of_le HZ5.out hs6.1.1)
          have HB6 := Aside0.mk hb6
          have HW6 := Aside0.mk hw6
          have HS6 := Aside0.mk (HS5.out.trans hs6)
          clear hb6 hw6 hs6 a5 b5
          have HTL := Aside0.mk (one_len (l1 := l1) (xs := xs) (m := s.1.length + 5) rfl (s := ((((s.1 ++ bigB (U64 255) 1) ++ bigB (U64 d) 2) ++ bigB (U64 (xs.length : Int)) 2), s.2)) (by simp only [List.length_append, bigB_length]; omega))
          generalize ht : valsS l1 xs ((((s.1 ++ bigB (U64 255) 1) ++ bigB (U64 d) 2) ++ bigB (U64 (xs.length : Int)) 2), s.2) = t at *
          have HT := Aside0.mk ht
          clear ht
          go_wp2_with fail
          refine (mapNum_any w0 _ g A l1.length c t.2 v6 t.1 (ys.length : Int) _ 2 rfl (by decide) HW6.out HB6.out (by first | (have := HLEN.out; (try simp only [List.length_append, bigB_length]); omega) | (have := HLEN.out; have := HTL.out; have := HLX.out; (try simp only [List.length_append, bigB_length]); omega))).mono ?_
          rintro e7 w7 ⟨rfl, hb7, v7, hw7, hs7⟩
          have a7 := hs7.cell a6 HG.out HN6.out
          have b7 := hs7.cell b6 HG.out HN6.out
          have HN7 := Aside0.mk (BS.old_ne hs7 (q := w.heap.size) HZ6.out HN6.out)
          have HZ7 := Aside0.mk (show w.heap.size < w7.heap.size from Nat.lt_of_lt_of_le HZ6.out hs7.1.1)
          have HB7 := Aside0.mk hb7
          have HW7 := Aside0.mk hw7
          have HS7 := Aside0.mk (HS6.out.trans hs7)
          clear hb7 hw7 hs7 a6 b6
          go_wp2_with fail
          refine (values_any2 w0 _ g A c l1 v7 (t.1 ++ bigB (U64 (ys.length : Int)) 2) t.2 _ _ _ ys rfl HW7.out HB7.out HRP.out HC.out HLL.out H3.out HY.out HCY.out HTY.out (by have := HLEN.out; first | (have := HLX.out; have := HLY.out; simp only [List.length_append, bigB_length, List.length_drop]; omega) | (have := HTL.out; have := HLX.out; have := HLY.out; simp only [List.length_append, bigB_length]; omega))).mono ?_
          rintro e8 w8 ⟨rfl, v8, hw8, hb8, hs8⟩
          have a8 := hs8.cell a7 HG.out HN7.out
          have b8 := hs8.cell b7 HG.out HN7.out
          have HN8 := Aside0.mk (BS.old_ne hs8 (q := w.heap.size) HZ7.out HN7.out)
          have HZ8 := Aside0.mk (show w.heap.size < w8.heap.size from Nat.lt_of_lt_of_le HZ7.out hs8.1.1)
          have HB8 := Aside0.mk hb8
          have HW8 := Aside0.mk hw8
          have HS8 := Aside0.mk (HS7.out.trans hs8)
          clear hb8 hw8 hs8 a7 b7
          have HE : so = valsS l1 ys (t.1 ++ bigB (U64 (ys.length : Int)) 2, t.2) := by
            refine HS.out.trans ?_
            refine (if_neg (fun h => by first | exact absurd h.1 (by decide) | (have := HF.out; have := h.2; omega))).trans ?_
            refine (if_neg (fun h => by first | exact absurd h.1 (by decide) | (have := HF.out; have := h.2; omega))).trans ?_
            refine (if_neg (fun h => by first | exact absurd h.1 (by decide) | (have := HF.out; have := h.2; omega))).trans ?_
            refine (if_neg (fun h => by first | exact absurd h.1 (by decide) | (have := HF.out; have := h.2; omega))).trans ?_
            refine (if_neg (fun h => by first | exact absurd h.1 (by decide) | (have := HF.out; have := h.2; omega))).trans ?_
            refine (if_neg (fun h => by first | exact absurd h.1 (by decide) | (have := HF.out; have := h.2; omega))).trans ?_
            first | rfl | rw [HT.out]
          go_wp2
          go_end0
          rw [HE]
          exact ⟨rfl, v8, HW8.out, HB8.out, HS8.out⟩
end Go.Proofs.Ytfnjbmpolggdeaa.MR
