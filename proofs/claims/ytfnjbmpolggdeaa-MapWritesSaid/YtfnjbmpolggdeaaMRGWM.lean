/-
  ref WriteMap, given to the print. Written by wmap.py.
-/
import Derived.Test.YtfnjbmpolggdeaaMRGWMBase
namespace Go.Proofs.Ytfnjbmpolggdeaa.MR
open Go.RowKit Go.Proofs.YtfnjbmpolggdeaaW.PrintWords Go.Proofs.YtfnjbmpolggdeaaW.PrintLast Go.Proofs.YtfnjbmpolggdeaaW.PrintMore
set_option linter.unusedVariables false
set_option linter.unusedSimpArgs false
def jvmcoreref3_WriteMap.f (l0 : List S80) (l1 : List S37) (l2 : List S54) : Option (ByteArray × Int × Int) := maps_Write.f l0 l1 l2
theorem oneS_chain (l1 : List S37) (xs ys zs : List S54) (d n : Int) (s : List Nat × Int) (b : Bool) (m : Nat) (hm : m = min xs.length zs.length) (hb : likeB (xs.take m) (zs.take m) = b) (hn : n = (xs.length : Int) - (zs.length : Int)) : oneS l1 xs ys zs d s = (if b = true ∧ n = 0 ∧ ys.length = 0 ∧ d < 64 then (s.1 ++ bigB (U64 d) 1, s.2)
  else if b = true ∧ n = 0 ∧ ys.length = 0 then ((s.1 ++ bigB (U64 251) 1) ++ bigB (U64 d) 2, s.2)
  else if b = true ∧ n = 0 ∧ ys.length = 1 ∧ d < 64 then valsS l1 ys (s.1 ++ bigB (U64 (64 + d)) 1, s.2)
  else if b = true ∧ n = 0 ∧ ys.length = 1 then valsS l1 ys ((s.1 ++ bigB (U64 247) 1) ++ bigB (U64 d) 2, s.2)
  else if b = true ∧ n < 0 ∧ n ≥ -3 ∧ ys.length = 0 then ((s.1 ++ bigB (U64 (251 + n)) 1) ++ bigB (U64 d) 2, s.2)
  else if b = true ∧ n > 0 ∧ n ≤ 3 ∧ ys.length = 0 then valsS l1 (xs.drop m) ((s.1 ++ bigB (U64 (251 + n)) 1) ++ bigB (U64 d) 2, s.2)
  else valsS l1 ys ((valsS l1 xs (((s.1 ++ bigB (U64 255) 1) ++ bigB (U64 d) 2) ++ bigB (U64 xs.length) 2, s.2)).1 ++ bigB (U64 ys.length) 2, (valsS l1 xs (((s.1 ++ bigB (U64 255) 1) ++ bigB (U64 d) 2) ++ bigB (U64 xs.length) 2, s.2)).2)) := by
  subst hb hn hm; rfl
theorem box3 (wr : World) (a b c : Value) (T : TypeId) : (wr.alloc (.cells #[a, b, c] T)).cell? ⟨wr.heap.size, 0, none⟩ = some a ∧ (wr.alloc (.cells #[a, b, c] T)).cell? ⟨wr.heap.size, 1, none⟩ = some b ∧ (wr.alloc (.cells #[a, b, c] T)).cell? ⟨wr.heap.size, 2, none⟩ = some c := by
  have h : (wr.alloc (.cells #[a, b, c] T)).heap[wr.heap.size]? = some (.cells #[a, b, c] T (0, 0)) := Array.getElem?_push_size
  exact ⟨blk_cell h 0, blk_cell h 1, blk_cell h 2⟩
theorem rbig_x (x y : Int) (h : IntKind.u64.wrap x = y) (w : World) : Calls Try.prog 57 #[.int .u64 y, .int .i64 2] w fun e w' => e = .returned (.string (sb (bigB (U64 x) 2))) ∧ Below w.heap.size w w' := by
  subst h; exact rbig_any x w
theorem u64_id {x : Int} (h : 0 ≤ x ∧ x ≤ 65535) : IntKind.u64.wrap x = x := by simp only [IntKind.wrap, IntKind.bits, IntKind.signed]; simp; omega
theorem bs_app (a b : ByteArray) : bs (a ++ b) = bs a ++ bs b := by simp [bs]
theorem bs_one (x : Int) : bs (strOfNums [x % 256]) = bigB (U64 x) 1 := by
  have h : (bigB (U64 x) 1) = [(x % 256).toNat] := by
    unfold U64
    simp only [bigB, List.nil_append, IntKind.wrap, IntKind.bits, IntKind.signed]
    simp
    omega
  rw [h]
  have : (x % 256).toNat % 256 = (x % 256).toNat := by omega
  simp [bs, strOfNums, this]
theorem mrow_S {w : World} {base : Nat} {e : TypeId} {v : Value} {l S : List Nat} {X : ByteArray} (h : mrow w base e v (l.length + X.size) (u8s l ++ u8s (bs X))) (hX : bs X = S) : mrow w base e v (l ++ S).length (u8s (l ++ S)) := by
  have h2 : X.size = S.length := by rw [← hX, bs_length]
  rw [hX, h2, ← u8s_append, ← List.length_append] at h
  exact h
theorem grown_cell' {w w1 : World} {row : Option Nat} {a : Addr} {u : Value} (hg : w.grownBy w1 row) (hc : w.cell? a = some u) (hn : row ≠ some a.block) : w1.cell? a = some u := by
  have h1 : w1.heap[a.block]? = w.heap[a.block]? := hg.block a.block (World.block_lt_of_cell? w a hc) (fun e => hn e.symm)
  unfold World.cell? at *
  rw [h1]; exact hc
theorem below_dn {w w1 : World} {n : Nat} (h : Below (w.drewN n).heap.size (w.drewN n) w1) : Below w.heap.size w w1 := ⟨h.os, h.tape, h.output, h.size, h.block⟩
theorem bch2 {W W1 W2 : World} {a b : Nat} (h1 : Below (W.drewN a).heap.size (W.drewN a) W1) (h2 : Below (W1.drewN b).heap.size (W1.drewN b) W2) : Below W.heap.size W W2 := below_then (below_dn h1) (below_dn h1).size (below_dn h2)
theorem like_ne {a b : List S54} (h : a.length ≠ b.length) : likeB a b = false := by unfold likeB; rw [beq_eq_false_iff_ne.2 h, Bool.false_and]
theorem like_z {a c : List S54} {n : Int} {t : Bool} (hn : n = (a.length : Int) - (c.length : Int)) (h : likeB (a.take (min a.length c.length)) (c.take (min a.length c.length)) = t) : likeB a c = (t && decide (n = 0)) := by
  by_cases h0 : n = 0
  · have e : a.length = c.length := by omega
    rw [e, Nat.min_self, List.take_of_length_le (Nat.le_of_eq e), List.take_of_length_le (Nat.le_refl _)] at h
    rw [h, decide_eq_true h0, Bool.and_true]
  · rw [like_ne (by omega), decide_eq_false h0, Bool.and_false]
theorem like_n {a c : List S54} {n : Int} {t : Bool} (hn : n = (a.length : Int) - (c.length : Int)) (hl : n < 0) (h : likeB (a.take (min a.length c.length)) (c.take (min a.length c.length)) = t) : likeB a (c.take a.length) = t := by
  rw [Nat.min_eq_left (by omega), List.take_of_length_le (Nat.le_refl _)] at h; exact h
theorem like_g {a c : List S54} {n : Int} {t : Bool} (hn : n = (a.length : Int) - (c.length : Int)) (hl : n > 0) (h : likeB (a.take (min a.length c.length)) (c.take (min a.length c.length)) = t) : likeB (a.take c.length) c = t := by
  rw [Nat.min_eq_right (by omega), List.take_of_length_le (Nat.le_refl c.length)] at h; exact h
/-- what a cut keeps of the world. -/
def WF (w wr : World) (f : S80) (A1_ : Option Addr) (c1_ : Nat) (A2_ : Option Addr) (c2_ : Nat) (q9 : Value) (s : List Nat × Int) (wc : World) : Prop :=
  mrow wc w.heap.size 5 q9 s.1.length (u8s s.1) ∧ Below w.heap.size w wc ∧ wc.cell? ⟨wr.heap.size, 0, none⟩ = some (.int .i64 f.f0) ∧ wc.cell? ⟨wr.heap.size, 1, none⟩ = some (.slice A1_ f.f1.length c1_) ∧ wc.cell? ⟨wr.heap.size, 2, none⟩ = some (.slice A2_ f.f2.length c2_)
set_option maxHeartbeats 16000000 in
set_option maxRecDepth 100000 in
theorem jvmcoreref3_WriteMap.calls (A0 : Option Addr) (c0 : Nat) (l0 : List (S80)) (A1 : Option Addr) (c1 : Nat) (l1 : List (S37)) (A2 : Option Addr) (c2 : Nat) (l2 : List (S54)) (r1 : ByteArray) (r2 r3 : Int) (w : World) (hr0 : Kd.C k80 w A0 l0.length l0) (hc0 : l0.length ≤ c0) (hr1 : Kd.C k37 w A1 l1.length l1) (hc1 : l1.length ≤ c1) (hr2 : Kd.C k54 w A2 l2.length l2) (hc2 : l2.length ≤ c2) (h : jvmcoreref3_WriteMap.f l0 l1 l2 = some (r1, r2, r3)) :
    Calls Try.prog 28 #[.slice A0 l0.length c0, .slice A1 l1.length c1, .slice A2 l2.length c2] w fun e w' => e = .returned (.tuple #[.string r1, .int .i64 r2, .int .i64 r3]) ∧ Below w.heap.size w w' := by
  unfold jvmcoreref3_WriteMap.f maps_Write.f at h
  by_cases hp : l1.length ≤ 140737488355328 ∧ l2.length ≤ 140737488355328 ∧ (∀ x ∈ l1, 0 ≤ x.f3 ∧ x.f3 < 65536) ∧ (∀ f ∈ l0, (∀ x ∈ f.f1, 0 ≤ x.f0 ∧ x.f0 < 256) ∧ ∀ x ∈ f.f2, 0 ≤ x.f0 ∧ x.f0 < 256)
  · rw [if_pos hp, Option.some.injEq] at h
    have H := Aside0.mk h
    have HP1 := Aside0.mk hp.1
    have HP2 := Aside0.mk hp.2.1
    have H3 := Aside0.mk hp.2.2.1
    have HT := Aside0.mk hp.2.2.2
    have HR0 := Aside0.mk hr0
    have HC0 := Aside0.mk hc0
    have HR1 := Aside0.mk hr1
    have HC1 := Aside0.mk hc1
    have HR2 := Aside0.mk hr2
    have HC2 := Aside0.mk hc2
    clear h hp hr0 hc0 hr1 hc1 hr2 hc2
    have hbt := lit_str1 (P := Try.prog) Try.underlying87 Try.underlying5 Try.underlying9
    by_cases hl : (l0.length : Int) > 65535
    · have b0 : decide ((l0.length : Int) > 65535) = true := decide_eq_true hl
      have HL := Aside0.mk hl
      clear hl
      go_enter Try.func28, Try.ntmps28
      go_wp2
      go_ret3
      have h := H.out
      rw [if_pos HL.out] at h
      injection h with e1 e2
      injection e2 with e2 e3
      subst e1 e2 e3
      exact ⟨rfl, Below.refl _ _⟩
    · have b0 : decide ((l0.length : Int) > 65535) = false := decide_eq_false hl
      have HL := Aside0.mk hl
      have HS := Aside0.mk ((if_neg hl).symm.trans H.out)
      have hl2 : (l0.length : Int) ≤ 65535 := by omega
      have HL2 := Aside0.mk hl2
      have hvl : l0.length ≤ 140737488355328 := by omega
      clear hl hl2 H
      go_enter Try.func28, Try.ntmps28
      go_wp2_with fail
      refine (RefBig_any l0.length 2 _ rfl _ rfl _ (by omega) (by omega)).mono ?_
      rintro e1 w1 ⟨rfl, hb1⟩
      have hs1 := hb1.size
      have hsz : (sb (bigB l0.length 2)).size = 2 := by rw [sb_size, bigB_length]
      have HSZ := Aside0.mk hsz
      go_wp2_with (with_reducible refine conv_bytes rfl 9 87 _ rfl 5 Try.underlying9 Try.underlying87 Try.underlying5 w.heap.size hb1 (sb (bigB l0.length 2)) rfl (by omega) hs1 ?_; intro v2 w2 hown2 hbel2 hb2)
      rw [bs_sb (bigB_lt 2 l0.length), hsz] at hown2
      have HM2 := Aside0.mk (hown2.mono hs1)
      have HB2 := Aside0.mk hbel2
      clear hown2 hsz hbel2 hb2 hb1 hs1
      go_wp2_with fail
      go_loopw [9, 10, 11, 35] (fun q9 q10 q11 i wr => ∃ (k : Nat) (s : List Nat × Int) (place : Int) (A3 : Option Addr) (c3 : Nat) (zs : List S54), k ≤ l0.length ∧ i = .int .i64 k ∧ q11 = .int .i64 place ∧ q10 = .slice A3 zs.length c3 ∧ Aside0 (-1 ≤ place ∧ place ≤ 65535) ∧ Aside0 (mrow wr w.heap.size 5 q9 s.1.length (u8s s.1)) ∧ Aside0 (Below w.heap.size w wr) ∧ Aside0 (Kd.C k54 w A3 zs.length zs ∧ zs.length ≤ c3 ∧ zs.length ≤ 140737488355328) ∧ Aside0 (s.1.length ≤ 2 + 400000 * k ∧ s.2 = 0) ∧ Aside0 (writeL l1 (l0.drop k) k place zs s = (r1, r2, r3))) (fun _ _ _ i _ => l0.length - (intOf i).toNat)
      case atStart => exact ⟨0, (bigB (U64 l0.length) 2, 0), -1, A2, c2, l2, by omega, rfl, rfl, rfl, ⟨by omega⟩, ⟨by have := HM2.out; rw [show U64 (l0.length : Int) = l0.length by unfold U64; simp only [IntKind.wrap, IntKind.bits, IntKind.signed]; simp; omega, bigB_length]; exact this⟩, ⟨HB2.out⟩, ⟨HR2.out, HC2.out, HP2.out⟩, ⟨by simp [bigB_length], rfl⟩, ⟨HS.out⟩⟩
      case round =>
        obtain ⟨k, s, place, A3, c3, zs, hk, rfl, rfl, rfl, HPL, HM, HB, HZ, HN, HR⟩ := hrel
        have hpl0 := HPL.out.1
        have hpl1 := HPL.out.2
        by_cases hlt : k < l0.length
        · have HR2 := Aside0.mk ((show writeL l1 (l0[k] :: l0.drop (k + 1)) k place zs s = (r1, r2, r3) from (List.drop_eq_getElem_cons hlt) ▸ HR.out))
          clear HR
          obtain ⟨ad0, A1_, c1_, A2_, c2_, e0, x0, x1, x2, hl1, hi1, hl2, hi2⟩ := at_T80 HR0.out (k : Int) (by omega) (by omega)
          subst e0
          rw [rdF_at hlt] at x0 x1 x2 hl1 hi1 hl2 hi2
          simp only [Int.toNat_natCast] at x0 x1 x2
          have y0 := pw_cell_below HB.out x0
          have y1 := pw_cell_below HB.out x1
          have y2 := pw_cell_below HB.out x2
          have HX := Aside0.mk (And.intro hi1 hl1)
          have HY := Aside0.mk (And.intro hi2 hl2)
          have HTK := Aside0.mk (HT.out _ (List.getElem_mem hlt))
          have HLT := Aside0.mk hlt
          clear x0 x1 x2 hi1 hl1 hi2 hl2
          generalize l0[k] = f at *
          have HS2 := Aside0.mk ((writeL.eq_2 ..).symm.trans HR2.out)
          have hbel := below_alloc (Below.refl wr.heap.size wr) (.cells #[.int .i64 f.f0, .slice A1_ f.f1.length c1_, .slice A2_ f.f2.length c2_] 80)
          have HB1 := Aside0.mk (below_then HB.out HB.out.size hbel)
          have HM1 := Aside0.mk (HM.out.below hbel)
          clear hbel
          by_cases g0 : f.f0 ≤ place
          · have p0 : decide (f.f0 ≤ place) = true := decide_eq_true g0
            have HQ := Aside0.mk g0
            clear g0
            go_wp2
            go_ret3
            have HE := HS2.out.symm.trans (if_pos (.inl HQ.out))
            injection HE with e1 e2
            injection e2 with e2 e3
            subst e1 e2 e3
            exact ⟨rfl, HB1.out⟩
          · have p0 : decide (f.f0 ≤ place) = false := decide_eq_false g0
            by_cases g1 : f.f0 > 65535
            · have p1 : decide (f.f0 > 65535) = true := decide_eq_true g1
              have HQ := Aside0.mk g1
              clear g1
              go_wp2
              go_ret3
              have HE := HS2.out.symm.trans (if_pos (.inr (.inl HQ.out)))
              injection HE with e1 e2
              injection e2 with e2 e3
              subst e1 e2 e3
              exact ⟨rfl, HB1.out⟩
            · have p1 : decide (f.f0 > 65535) = false := decide_eq_false g1
              by_cases g2 : (f.f1.length : Int) > 65535
              · have p2 : decide ((f.f1.length : Int) > 65535) = true := decide_eq_true g2
                have HQ := Aside0.mk g2
                clear g2
                go_wp2
                go_ret3
                have HE := HS2.out.symm.trans (if_pos (.inr (.inr (.inl HQ.out))))
                injection HE with e1 e2
                injection e2 with e2 e3
                subst e1 e2 e3
                exact ⟨rfl, HB1.out⟩
              · have p2 : decide ((f.f1.length : Int) > 65535) = false := decide_eq_false g2
                by_cases g3 : (f.f2.length : Int) > 65535
                · have p3 : decide ((f.f2.length : Int) > 65535) = true := decide_eq_true g3
                  have HQ := Aside0.mk g3
                  clear g3
                  go_wp2
                  go_ret3
                  have HE := HS2.out.symm.trans (if_pos (.inr (.inr (.inr HQ.out))))
                  injection HE with e1 e2
                  injection e2 with e2 e3
                  subst e1 e2 e3
                  exact ⟨rfl, HB1.out⟩
                · have p3 : decide ((f.f2.length : Int) > 65535) = false := decide_eq_false g3
                  have HQ := Aside0.mk (show ¬(f.f0 ≤ place ∨ f.f0 > 65535 ∨ (f.f1.length : Int) > 65535 ∨ (f.f2.length : Int) > 65535) by omega)
                  have HF := Aside0.mk (show place < f.f0 ∧ f.f0 ≤ 65535 ∧ f.f1.length ≤ 65535 ∧ f.f2.length ≤ 65535 by omega)
                  have hf0 := HF.out.1
                  have hf1 := HF.out.2.1
                  obtain ⟨d, hd⟩ : ∃ d, d = f.f0 - place - 1 := ⟨_, rfl⟩
                  have hwa : IntKind.i64.wrap (f.f0 - place) = f.f0 - place := by rw [IntKind.wrap_i64]; omega
                  have hwb : IntKind.i64.wrap (f.f0 - place - 1) = d := by rw [IntKind.wrap_i64]; omega
                  have HS3 := Aside0.mk ((if_neg HQ.out).symm.trans HS2.out)
                  clear g0 g1 g2 g3 HS2
                  rw [← hd] at HS3
                  have HD := Aside0.mk (show 0 ≤ d ∧ d ≤ 65535 by omega)
                  have HDD := Aside0.mk hd
                  have hd0 := HD.out.1
                  have hd1 := HD.out.2
                  clear hd
                  obtain ⟨k0_1, k1_1, k2_1⟩ := box3 wr (.int .i64 f.f0) (.slice A1_ f.f1.length c1_) (.slice A2_ f.f2.length c2_) 80
                  have HQN := Aside0.mk HM.out.ge
                  obtain ⟨n, hn⟩ : ∃ n : Int, n = (f.f1.length : Int) - (zs.length : Int) := ⟨_, rfl⟩
                  have hnw : IntKind.i64.wrap ((f.f1.length : Int) - (zs.length : Int)) = n := by have := HZ.out.2.2; have := HF.out.2.2.1; rw [IntKind.wrap_i64]; omega
                  have HNN := Aside0.mk hn
                  obtain ⟨ty, hty⟩ : ∃ t, valsS l1 f.f2 ([], 0) = t := ⟨_, rfl⟩
                  have TY : Aside0 (∀ W, Below w.heap.size w W → Calls Try.prog 61 #[.slice A2_ f.f2.length c2_, .slice A1 l1.length c1] W fun e w' => e = .returned (.tuple #[.string (sb ty.1), .int .i64 ty.2]) ∧ Below W.heap.size W w') := ⟨fun W hb => by
                    rw [← hty]; exact told_any A2_ c2_ _ f.f2 rfl A1 c1 l1 W (Kd.C_below HY.out.1 hb) HY.out.2 (Kd.C_below HR1.out hb) HC1.out H3.out HP1.out HTK.out.2 HF.out.2.2.2⟩
                  have HTY := Aside0.mk hty
                  have YLT : Aside0 (∀ x ∈ ty.1, x < 256) := ⟨by rw [← hty]; exact valsS_lt l1 f.f2 _ (fun x hx => nomatch hx)⟩
                  have YLEN : Aside0 (ty.1.length ≤ 3 * f.f2.length) := ⟨by rw [← hty]; exact Nat.le_trans (valsS_len l1 f.f2 _) (by simp)⟩
                  obtain ⟨tx, htx⟩ : ∃ t, valsS l1 f.f1 ([], 0) = t := ⟨_, rfl⟩
                  have TX : Aside0 (∀ W, Below w.heap.size w W → Calls Try.prog 61 #[.slice A1_ f.f1.length c1_, .slice A1 l1.length c1] W fun e w' => e = .returned (.tuple #[.string (sb tx.1), .int .i64 tx.2]) ∧ Below W.heap.size W w') := ⟨fun W hb => by
                    rw [← htx]; exact told_any A1_ c1_ _ f.f1 rfl A1 c1 l1 W (Kd.C_below HX.out.1 hb) HX.out.2 (Kd.C_below HR1.out hb) HC1.out H3.out HP1.out HTK.out.1 HF.out.2.2.1⟩
                  have HTX := Aside0.mk htx
                  have XLT : Aside0 (∀ x ∈ tx.1, x < 256) := ⟨by rw [← htx]; exact valsS_lt l1 f.f1 _ (fun x hx => nomatch hx)⟩
                  have XLEN : Aside0 (tx.1.length ≤ 3 * f.f1.length) := ⟨by rw [← htx]; exact Nat.le_trans (valsS_len l1 f.f1 _) (by simp)⟩
                  obtain ⟨b, hb⟩ : ∃ b, likeB (f.f1.take (min f.f1.length zs.length)) (zs.take (min f.f1.length zs.length)) = b := ⟨_, rfl⟩
                  have HBB := Aside0.mk hb
                  have SM : Aside0 (∀ W, Below w.heap.size w W → Calls Try.prog 62 #[.slice A1_ f.f1.length c1_, .slice A3 zs.length c3] W fun e w' => e = .returned (.bool (b && decide (n = 0))) ∧ Drawn0 W w') := ⟨fun W hbw => by
                    rw [← like_z HNN.out hb]; exact same_any A1_ c1_ _ f.f1 rfl A3 c3 _ zs rfl W (Kd.C_below HX.out.1 hbw) (Kd.C_below HZ.out.1 hbw) HX.out.2 HZ.out.2.1 (by have := HF.out.2.2.1; omega)⟩
                  clear hb
                  have HLN := Aside0.mk (And.intro HX.out.2 HZ.out.2.1)
                  clear hty htx hn
                  go_wp2_with fail
                  refine (TY.out _ HB1.out).mono ?_
                  rintro e2 w2 ⟨rfl, hb2⟩
                  have k0_2 := pw_cell_below hb2 k0_1
                  have k1_2 := pw_cell_below hb2 k1_1
                  have k2_2 := pw_cell_below hb2 k2_1
                  have HB2 := Aside0.mk (below_then HB1.out HB1.out.size hb2)
                  have HM2 := Aside0.mk (HM1.out.below hb2)
                  clear hb2 k0_1 k1_1 k2_1
                  go_wp2_with fail
                  refine (rbig_x d d (u64_id HD.out) _).mono ?_
                  rintro e3 w3 ⟨rfl, hb3⟩
                  have k0_3 := pw_cell_below hb3 k0_2
                  have k1_3 := pw_cell_below hb3 k1_2
                  have k2_3 := pw_cell_below hb3 k2_2
                  have HB3 := Aside0.mk (below_then HB2.out HB2.out.size hb3)
                  have HM3 := Aside0.mk (HM2.out.below hb3)
                  clear hb3 k0_2 k1_2 k2_2
                  go_upto_region 20 with (fail)
                  go_cut [111] from 112 to 125 (fun v wc => v = .bool (decide (b = true ∧ n = 0 ∧ f.f2.length = 0 ∧ d < 64)) ∧ Aside0 (WF w wr f A1_ c1_ A2_ c2_ u9 s wc))
                  case first =>
                    as_aux_lemma =>
                      by_cases hn_ : n = 0
                      · rw [decide_eq_true hn_, Bool.and_true] at SM
                        have HHn := Aside0.mk hn_
                        clear hn_
                        cases b
                        · go_wp2_with fail
                          refine (SM.out _ HB3.out).mono ?_
                          rintro e4 w4 ⟨rfl, hd4⟩
                          have hb4 := hd4.below
                          have k0_4 := pw_cell_below hb4 k0_3
                          have k1_4 := pw_cell_below hb4 k1_3
                          have k2_4 := pw_cell_below hb4 k2_3
                          have HB4 := Aside0.mk (below_then HB3.out HB3.out.size hb4)
                          have HM4 := Aside0.mk (HM3.out.below hb4)
                          clear hb4 k0_3 k1_3 k2_3
                          go_wp2
                          go_meet
                          case rel => exact ⟨by rw [decide_eq_false]; exact (fun h => by (try have q1_ := HHn.out); (try have q2_ := HHy.out); (try have q3_ := HHd.out); (try have q4_ := HHl.out); (try have q5_ := HH3.out); (try have q6_ := HGT.out); (try have q7_ := HHg.out); first | exact absurd h.1 (by decide) | (have := h.2; omega)), ⟨by exact ⟨HM4.out, HB4.out, k0_4, k1_4, k2_4⟩⟩⟩
                        · go_wp2_with fail
                          refine (SM.out _ HB3.out).mono ?_
                          rintro e4 w4 ⟨rfl, hd4⟩
                          have hb4 := hd4.below
                          have k0_4 := pw_cell_below hb4 k0_3
                          have k1_4 := pw_cell_below hb4 k1_3
                          have k2_4 := pw_cell_below hb4 k2_3
                          have HB4 := Aside0.mk (below_then HB3.out HB3.out.size hb4)
                          have HM4 := Aside0.mk (HM3.out.below hb4)
                          clear hb4 k0_3 k1_3 k2_3
                          by_cases hy_ : f.f2.length = 0
                          · have q_y0 : ((f.f2.length : Int) == 0) = true := beq_iff_eq.2 (by omega)
                            have HHy := Aside0.mk hy_
                            clear hy_
                            by_cases hd_ : d < 64
                            · have q_d : decide (d < 64) = true := decide_eq_true (by omega)
                              have HHd := Aside0.mk hd_
                              clear hd_
                              go_wp2
                              go_meet
                              case rel => exact ⟨by rw [decide_eq_true]; exact ⟨by first | rfl | trivial, by (try have q1_ := HHn.out); (try have q2_ := HHy.out); (try have q3_ := HHd.out); (try have q4_ := HHl.out); (try have q5_ := HH3.out); (try have q6_ := HGT.out); (try have q7_ := HHg.out); omega⟩, ⟨by exact ⟨HM4.out, HB4.out, k0_4, k1_4, k2_4⟩⟩⟩
                            · have q_d : decide (d < 64) = false := decide_eq_false (by omega)
                              have HHd := Aside0.mk hd_
                              clear hd_
                              go_wp2
                              go_meet
                              case rel => exact ⟨by rw [decide_eq_false]; exact (fun h => by (try have q1_ := HHn.out); (try have q2_ := HHy.out); (try have q3_ := HHd.out); (try have q4_ := HHl.out); (try have q5_ := HH3.out); (try have q6_ := HGT.out); (try have q7_ := HHg.out); first | exact absurd h.1 (by decide) | (have := h.2; omega)), ⟨by exact ⟨HM4.out, HB4.out, k0_4, k1_4, k2_4⟩⟩⟩
                          · have q_y0 : ((f.f2.length : Int) == 0) = false := beq_eq_false_iff_ne.2 (by omega)
                            have HHy := Aside0.mk hy_
                            clear hy_
                            go_wp2
                            go_meet
                            case rel => exact ⟨by rw [decide_eq_false]; exact (fun h => by (try have q1_ := HHn.out); (try have q2_ := HHy.out); (try have q3_ := HHd.out); (try have q4_ := HHl.out); (try have q5_ := HH3.out); (try have q6_ := HGT.out); (try have q7_ := HHg.out); first | exact absurd h.1 (by decide) | (have := h.2; omega)), ⟨by exact ⟨HM4.out, HB4.out, k0_4, k1_4, k2_4⟩⟩⟩
                      · rw [decide_eq_false hn_, Bool.and_false] at SM
                        have HHn := Aside0.mk hn_
                        clear hn_
                        go_wp2_with fail
                        refine (SM.out _ HB3.out).mono ?_
                        rintro e4 w4 ⟨rfl, hd4⟩
                        have hb4 := hd4.below
                        have k0_4 := pw_cell_below hb4 k0_3
                        have k1_4 := pw_cell_below hb4 k1_3
                        have k2_4 := pw_cell_below hb4 k2_3
                        have HB4 := Aside0.mk (below_then HB3.out HB3.out.size hb4)
                        have HM4 := Aside0.mk (HM3.out.below hb4)
                        clear hb4 k0_3 k1_3 k2_3
                        go_wp2
                        go_meet
                        case rel => exact ⟨by rw [decide_eq_false]; exact (fun h => by (try have q1_ := HHn.out); (try have q2_ := HHy.out); (try have q3_ := HHd.out); (try have q4_ := HHl.out); (try have q5_ := HH3.out); (try have q6_ := HGT.out); (try have q7_ := HHg.out); first | exact absurd h.1 (by decide) | (have := h.2; omega)), ⟨by exact ⟨HM4.out, HB4.out, k0_4, k1_4, k2_4⟩⟩⟩
                  case rest =>
                    clear k0_3 k1_3 k2_3
                    obtain ⟨rfl, HW⟩ := hcut
                    obtain ⟨hm_, hB_, k0_20, k1_20, k2_20⟩ := HW.out
                    have HM20 := Aside0.mk hm_
                    have HB20 := Aside0.mk hB_
                    clear hm_ hB_ HW
                    by_cases hC : b = true ∧ n = 0 ∧ f.f2.length = 0 ∧ d < 64
                    · have HCN1 := Aside0.mk hC
                      rw [decide_eq_true hC]
                      clear hC
                      as_aux_lemma =>
                        have HCK := HCN1
                        have ey_ : ty = ([], 0) := by rw [← HTY.out, List.eq_nil_of_length_eq_zero (show f.f2.length = 0 by have := HCK.out; omega)]; rfl
                        have e0_ : ty.2 = 0 := by rw [ey_]
                        have be_ : (ty.2 != 0) = false := bne_eq_false_iff_eq.2 e0_
                        clear ey_
                        have HSO : Aside0 (oneS l1 f.f1 f.f2 zs d s = (s.1 ++ (bigB (U64 d) 1), 0)) := ⟨by
                          refine (oneS_chain l1 f.f1 f.f2 zs d n s b (min f.f1.length zs.length) rfl HBB.out HNN.out).trans ?_
                          refine (if_pos HCN1.out).trans ?_
                          have hs2 := HN.out.2
                          rw [hs2]⟩
                        have hbz := below_alloc (Below.refl wc.heap.size wc) (.cells #[.int .u8 (d % 256)] 5)
                        have k0_z := pw_cell_below hbz k0_20
                        have k1_z := pw_cell_below hbz k1_20
                        have HBZ := Aside0.mk (below_then HB20.out HB20.out.size hbz)
                        have HMZ := Aside0.mk (HM20.out.below hbz)
                        clear hbz
                        have HXS : Aside0 (bs (strOfNums [d % 256]) = bigB (U64 d) 1) := ⟨by rw [bs_one]⟩
                        have HXZ : Aside0 (s.1.length + (strOfNums [d % 256]).size ≤ 140737488355328) := ⟨by
                          have h1 := oneS_len l1 f.f1 f.f2 zs d s
                          rw [HSO.out] at h1
                          have h2 : (strOfNums [d % 256]).size = (bigB (U64 d) 1).length := by rw [← HXS.out, bs_length]
                          have := HN.out.1; have := HLT.out; have := HL2.out; have := HF.out
                          simp only [List.length_append] at h1 h2 ⊢
                          omega⟩
                        go_wp2_with (at_builtin; refine app_ms rfl _ _ 87 9 rfl 5 Try.underlying87 Try.underlying9 Try.infoB w.heap.size w.heap.size (w0 := w) (by first | exact HBZ.out | exact HB20.out | exact pw_below_drewN HB20.out _) (v := _) (n := s.1.length) (xs := u8s s.1) (by first | exact HMZ.out | exact HM20.out) rfl (strOfNums [d % 256]) rfl HXZ.out (by first | exact HBZ.out.size | exact HB20.out.size) (Nat.le_refl _) ?_; intro v9 w9 hown9 hbel9 hg9 hsep9; have c0_9 := grown_cell' hg9 (by first | exact k0_z | exact k0_20) (fun e => by have := (HQN.out _ e).2; simp at this); have c1_9 := grown_cell' hg9 (by first | exact k1_z | exact k1_20) (fun e => by have := (HQN.out _ e).2; simp at this))
                        have HB9 := Aside0.mk hbel9
                        have HM9 := Aside0.mk (mrow_S hown9 HXS.out)
                        have HS4 : Aside0 (writeL l1 (l0.drop (k + 1)) (k + 1) f.f0 f.f1 (s.1 ++ (bigB (U64 d) 1), 0) = (r1, r2, r3)) := ⟨by
                          have h := HS3.out
                          rw [HSO.out] at h
                          exact (if_pos rfl).symm.trans h⟩
                        have HL9 : Aside0 ((s.1 ++ (bigB (U64 d) 1)).length ≤ 2 + 400000 * (k + 1)) := ⟨by
                          have h1 := oneS_len l1 f.f1 f.f2 zs d s
                          rw [HSO.out] at h1
                          have := HN.out.1; have := HF.out
                          dsimp only at h1 ⊢
                          omega⟩
                        clear hown9 hbel9 hg9 hsep9
                        try go_wp2
                        go_roundw
                        case rel => exact ⟨k + 1, (s.1 ++ (bigB (U64 d) 1), 0), f.f0, A1_, c1_, f.f1, by have := HLT.out; omega, by go_num, rfl, rfl, ⟨by have := HF.out; have := HPL.out; omega⟩, HM9, HB9, ⟨HX.out.1, HX.out.2, by have := HF.out.2.2.1; omega⟩, ⟨HL9.out, rfl⟩, HS4⟩
                        case measure => have := HLT.out; simp [intOf]; omega
                    · have HCN1 := Aside0.mk hC
                      rw [decide_eq_false hC]
                      clear hC
                      go_upto_region 22 with (fail)
                      go_cut [130] from 131 to 140 (fun v wc => v = .bool (decide (b = true ∧ n = 0 ∧ f.f2.length = 0)) ∧ Aside0 (WF w wr f A1_ c1_ A2_ c2_ u9 s wc))
                      case first =>
                        as_aux_lemma =>
                          by_cases hn_ : n = 0
                          · rw [decide_eq_true hn_, Bool.and_true] at SM
                            have HHn := Aside0.mk hn_
                            clear hn_
                            cases b
                            · go_wp2_with fail
                              refine (SM.out _ HB20.out).mono ?_
                              rintro e21 w21 ⟨rfl, hd21⟩
                              have hb21 := hd21.below
                              have k0_21 := pw_cell_below hb21 k0_20
                              have k1_21 := pw_cell_below hb21 k1_20
                              have k2_21 := pw_cell_below hb21 k2_20
                              have HB21 := Aside0.mk (below_then HB20.out HB20.out.size hb21)
                              have HM21 := Aside0.mk (HM20.out.below hb21)
                              clear hb21 k0_20 k1_20 k2_20
                              go_wp2
                              go_meet
                              case rel => exact ⟨by rw [decide_eq_false]; exact (fun h => by (try have q1_ := HHn.out); (try have q2_ := HHy.out); (try have q3_ := HHd.out); (try have q4_ := HHl.out); (try have q5_ := HH3.out); (try have q6_ := HGT.out); (try have q7_ := HHg.out); first | exact absurd h.1 (by decide) | (have := h.2; omega)), ⟨by exact ⟨HM21.out, HB21.out, k0_21, k1_21, k2_21⟩⟩⟩
                            · go_wp2_with fail
                              refine (SM.out _ HB20.out).mono ?_
                              rintro e21 w21 ⟨rfl, hd21⟩
                              have hb21 := hd21.below
                              have k0_21 := pw_cell_below hb21 k0_20
                              have k1_21 := pw_cell_below hb21 k1_20
                              have k2_21 := pw_cell_below hb21 k2_20
                              have HB21 := Aside0.mk (below_then HB20.out HB20.out.size hb21)
                              have HM21 := Aside0.mk (HM20.out.below hb21)
                              clear hb21 k0_20 k1_20 k2_20
                              by_cases hy_ : f.f2.length = 0
                              · have q_y0 : ((f.f2.length : Int) == 0) = true := beq_iff_eq.2 (by omega)
                                have HHy := Aside0.mk hy_
                                clear hy_
                                go_wp2
                                go_meet
                                case rel => exact ⟨by rw [decide_eq_true]; exact ⟨by first | rfl | trivial, by (try have q1_ := HHn.out); (try have q2_ := HHy.out); (try have q3_ := HHd.out); (try have q4_ := HHl.out); (try have q5_ := HH3.out); (try have q6_ := HGT.out); (try have q7_ := HHg.out); omega⟩, ⟨by exact ⟨HM21.out, HB21.out, k0_21, k1_21, k2_21⟩⟩⟩
                              · have q_y0 : ((f.f2.length : Int) == 0) = false := beq_eq_false_iff_ne.2 (by omega)
                                have HHy := Aside0.mk hy_
                                clear hy_
                                go_wp2
                                go_meet
                                case rel => exact ⟨by rw [decide_eq_false]; exact (fun h => by (try have q1_ := HHn.out); (try have q2_ := HHy.out); (try have q3_ := HHd.out); (try have q4_ := HHl.out); (try have q5_ := HH3.out); (try have q6_ := HGT.out); (try have q7_ := HHg.out); first | exact absurd h.1 (by decide) | (have := h.2; omega)), ⟨by exact ⟨HM21.out, HB21.out, k0_21, k1_21, k2_21⟩⟩⟩
                          · rw [decide_eq_false hn_, Bool.and_false] at SM
                            have HHn := Aside0.mk hn_
                            clear hn_
                            go_wp2_with fail
                            refine (SM.out _ HB20.out).mono ?_
                            rintro e21 w21 ⟨rfl, hd21⟩
                            have hb21 := hd21.below
                            have k0_21 := pw_cell_below hb21 k0_20
                            have k1_21 := pw_cell_below hb21 k1_20
                            have k2_21 := pw_cell_below hb21 k2_20
                            have HB21 := Aside0.mk (below_then HB20.out HB20.out.size hb21)
                            have HM21 := Aside0.mk (HM20.out.below hb21)
                            clear hb21 k0_20 k1_20 k2_20
                            go_wp2
                            go_meet
                            case rel => exact ⟨by rw [decide_eq_false]; exact (fun h => by (try have q1_ := HHn.out); (try have q2_ := HHy.out); (try have q3_ := HHd.out); (try have q4_ := HHl.out); (try have q5_ := HH3.out); (try have q6_ := HGT.out); (try have q7_ := HHg.out); first | exact absurd h.1 (by decide) | (have := h.2; omega)), ⟨by exact ⟨HM21.out, HB21.out, k0_21, k1_21, k2_21⟩⟩⟩
                      case rest =>
                        clear k0_20 k1_20 k2_20
                        obtain ⟨rfl, HW⟩ := hcut
                        obtain ⟨hm_, hB_, k0_21, k1_21, k2_21⟩ := HW.out
                        have HM21 := Aside0.mk hm_
                        have HB21 := Aside0.mk hB_
                        clear hm_ hB_ HW
                        by_cases hC : b = true ∧ n = 0 ∧ f.f2.length = 0
                        · have HCN2 := Aside0.mk hC
                          rw [decide_eq_true hC]
                          clear hC
                          as_aux_lemma =>
                            have HCK := HCN2
                            have ey_ : ty = ([], 0) := by rw [← HTY.out, List.eq_nil_of_length_eq_zero (show f.f2.length = 0 by have := HCK.out; omega)]; rfl
                            have e0_ : ty.2 = 0 := by rw [ey_]
                            have be_ : (ty.2 != 0) = false := bne_eq_false_iff_eq.2 e0_
                            clear ey_
                            have hz_1 : ((⟨#[251]⟩ : ByteArray)).size + (sb (bigB (U64 d) 2)).size ≤ 9223372036854775807 := by
                              have := YLEN.out; have := XLEN.out; have := HF.out
                              have e1 : (⟨#[251]⟩ : ByteArray).size = 1 := rfl
                              have e2 : (⟨#[247]⟩ : ByteArray).size = 1 := rfl
                              have e3 : (⟨#[255]⟩ : ByteArray).size = 1 := rfl
                              simp only [ByteArray.size_append, sb_size, strOfNums_size, bigB_length, List.length_cons, List.length_nil, e1, e2, e3]; omega
                            have hy_1 : 1 + (sb (bigB (U64 d) 2)).size ≤ 9223372036854775807 := by
                              have h := hz_1
                              try simp only [ByteArray.size_append] at h
                              exact h
                            have hx_1 : (9223372036854775807 < 1 + (sb (bigB (U64 d) 2)).size) = False := eq_false (Nat.not_lt.2 hy_1)
                            have HSO : Aside0 (oneS l1 f.f1 f.f2 zs d s = (s.1 ++ (bigB (U64 251) 1 ++ bigB (U64 d) 2), 0)) := ⟨by
                              refine (oneS_chain l1 f.f1 f.f2 zs d n s b (min f.f1.length zs.length) rfl HBB.out HNN.out).trans ?_
                              refine (if_neg HCN1.out).trans ?_
                              refine (if_pos HCN2.out).trans ?_
                              have hs2 := HN.out.2
                              rw [hs2, List.append_assoc]⟩
                            have HXS : Aside0 (bs ((⟨#[251]⟩ : ByteArray) ++ sb (bigB (U64 d) 2)) = bigB (U64 251) 1 ++ bigB (U64 d) 2) := ⟨by rw [bs_app, bs_sb (bigB_lt _ _)]; rfl⟩
                            have HXZ : Aside0 (s.1.length + ((⟨#[251]⟩ : ByteArray) ++ sb (bigB (U64 d) 2)).size ≤ 140737488355328) := ⟨by
                              have h1 := oneS_len l1 f.f1 f.f2 zs d s
                              rw [HSO.out] at h1
                              have h2 : ((⟨#[251]⟩ : ByteArray) ++ sb (bigB (U64 d) 2)).size = (bigB (U64 251) 1 ++ bigB (U64 d) 2).length := by rw [← HXS.out, bs_length]
                              have := HN.out.1; have := HLT.out; have := HL2.out; have := HF.out
                              simp only [List.length_append] at h1 h2 ⊢
                              omega⟩
                            go_wp2_with (at_builtin; refine app_ms rfl _ _ 87 9 rfl 5 Try.underlying87 Try.underlying9 Try.infoB w.heap.size w.heap.size (w0 := w) (by first | exact HBZ.out | exact HB21.out | exact pw_below_drewN HB21.out _) (v := _) (n := s.1.length) (xs := u8s s.1) (by first | exact HMZ.out | exact HM21.out) rfl ((⟨#[251]⟩ : ByteArray) ++ sb (bigB (U64 d) 2)) rfl HXZ.out (by first | exact HBZ.out.size | exact HB21.out.size) (Nat.le_refl _) ?_; intro v9 w9 hown9 hbel9 hg9 hsep9; have c0_9 := grown_cell' hg9 (by first | exact k0_z | exact k0_21) (fun e => by have := (HQN.out _ e).2; simp at this); have c1_9 := grown_cell' hg9 (by first | exact k1_z | exact k1_21) (fun e => by have := (HQN.out _ e).2; simp at this))
                            have HB9 := Aside0.mk hbel9
                            have HM9 := Aside0.mk (mrow_S hown9 HXS.out)
                            have HS4 : Aside0 (writeL l1 (l0.drop (k + 1)) (k + 1) f.f0 f.f1 (s.1 ++ (bigB (U64 251) 1 ++ bigB (U64 d) 2), 0) = (r1, r2, r3)) := ⟨by
                              have h := HS3.out
                              rw [HSO.out] at h
                              exact (if_pos rfl).symm.trans h⟩
                            have HL9 : Aside0 ((s.1 ++ (bigB (U64 251) 1 ++ bigB (U64 d) 2)).length ≤ 2 + 400000 * (k + 1)) := ⟨by
                              have h1 := oneS_len l1 f.f1 f.f2 zs d s
                              rw [HSO.out] at h1
                              have := HN.out.1; have := HF.out
                              dsimp only at h1 ⊢
                              omega⟩
                            clear hown9 hbel9 hg9 hsep9
                            try go_wp2
                            go_roundw
                            case rel => exact ⟨k + 1, (s.1 ++ (bigB (U64 251) 1 ++ bigB (U64 d) 2), 0), f.f0, A1_, c1_, f.f1, by have := HLT.out; omega, by go_num, rfl, rfl, ⟨by have := HF.out; have := HPL.out; omega⟩, HM9, HB9, ⟨HX.out.1, HX.out.2, by have := HF.out.2.2.1; omega⟩, ⟨HL9.out, rfl⟩, HS4⟩
                            case measure => have := HLT.out; simp [intOf]; omega
                        · have HCN2 := Aside0.mk hC
                          rw [decide_eq_false hC]
                          clear hC
                          go_upto_region 24 with (fail)
                          go_cut [143] from 144 to 157 (fun v wc => v = .bool (decide (b = true ∧ n = 0 ∧ f.f2.length = 1 ∧ d < 64)) ∧ Aside0 (WF w wr f A1_ c1_ A2_ c2_ u9 s wc))
                          case first =>
                            as_aux_lemma =>
                              by_cases hn_ : n = 0
                              · rw [decide_eq_true hn_, Bool.and_true] at SM
                                have HHn := Aside0.mk hn_
                                clear hn_
                                cases b
                                · go_wp2_with fail
                                  refine (SM.out _ HB21.out).mono ?_
                                  rintro e22 w22 ⟨rfl, hd22⟩
                                  have hb22 := hd22.below
                                  have k0_22 := pw_cell_below hb22 k0_21
                                  have k1_22 := pw_cell_below hb22 k1_21
                                  have k2_22 := pw_cell_below hb22 k2_21
                                  have HB22 := Aside0.mk (below_then HB21.out HB21.out.size hb22)
                                  have HM22 := Aside0.mk (HM21.out.below hb22)
                                  clear hb22 k0_21 k1_21 k2_21
                                  go_wp2
                                  go_meet
                                  case rel => exact ⟨by rw [decide_eq_false]; exact (fun h => by (try have q1_ := HHn.out); (try have q2_ := HHy.out); (try have q3_ := HHd.out); (try have q4_ := HHl.out); (try have q5_ := HH3.out); (try have q6_ := HGT.out); (try have q7_ := HHg.out); first | exact absurd h.1 (by decide) | (have := h.2; omega)), ⟨by exact ⟨HM22.out, HB22.out, k0_22, k1_22, k2_22⟩⟩⟩
                                · go_wp2_with fail
                                  refine (SM.out _ HB21.out).mono ?_
                                  rintro e22 w22 ⟨rfl, hd22⟩
                                  have hb22 := hd22.below
                                  have k0_22 := pw_cell_below hb22 k0_21
                                  have k1_22 := pw_cell_below hb22 k1_21
                                  have k2_22 := pw_cell_below hb22 k2_21
                                  have HB22 := Aside0.mk (below_then HB21.out HB21.out.size hb22)
                                  have HM22 := Aside0.mk (HM21.out.below hb22)
                                  clear hb22 k0_21 k1_21 k2_21
                                  by_cases hy_ : f.f2.length = 1
                                  · have q_y1 : ((f.f2.length : Int) == 1) = true := beq_iff_eq.2 (by omega)
                                    have HHy := Aside0.mk hy_
                                    clear hy_
                                    by_cases hd_ : d < 64
                                    · have q_d : decide (d < 64) = true := decide_eq_true (by omega)
                                      have HHd := Aside0.mk hd_
                                      clear hd_
                                      go_wp2
                                      go_meet
                                      case rel => exact ⟨by rw [decide_eq_true]; exact ⟨by first | rfl | trivial, by (try have q1_ := HHn.out); (try have q2_ := HHy.out); (try have q3_ := HHd.out); (try have q4_ := HHl.out); (try have q5_ := HH3.out); (try have q6_ := HGT.out); (try have q7_ := HHg.out); omega⟩, ⟨by exact ⟨HM22.out, HB22.out, k0_22, k1_22, k2_22⟩⟩⟩
                                    · have q_d : decide (d < 64) = false := decide_eq_false (by omega)
                                      have HHd := Aside0.mk hd_
                                      clear hd_
                                      go_wp2
                                      go_meet
                                      case rel => exact ⟨by rw [decide_eq_false]; exact (fun h => by (try have q1_ := HHn.out); (try have q2_ := HHy.out); (try have q3_ := HHd.out); (try have q4_ := HHl.out); (try have q5_ := HH3.out); (try have q6_ := HGT.out); (try have q7_ := HHg.out); first | exact absurd h.1 (by decide) | (have := h.2; omega)), ⟨by exact ⟨HM22.out, HB22.out, k0_22, k1_22, k2_22⟩⟩⟩
                                  · have q_y1 : ((f.f2.length : Int) == 1) = false := beq_eq_false_iff_ne.2 (by omega)
                                    have HHy := Aside0.mk hy_
                                    clear hy_
                                    go_wp2
                                    go_meet
                                    case rel => exact ⟨by rw [decide_eq_false]; exact (fun h => by (try have q1_ := HHn.out); (try have q2_ := HHy.out); (try have q3_ := HHd.out); (try have q4_ := HHl.out); (try have q5_ := HH3.out); (try have q6_ := HGT.out); (try have q7_ := HHg.out); first | exact absurd h.1 (by decide) | (have := h.2; omega)), ⟨by exact ⟨HM22.out, HB22.out, k0_22, k1_22, k2_22⟩⟩⟩
                              · rw [decide_eq_false hn_, Bool.and_false] at SM
                                have HHn := Aside0.mk hn_
                                clear hn_
                                go_wp2_with fail
                                refine (SM.out _ HB21.out).mono ?_
                                rintro e22 w22 ⟨rfl, hd22⟩
                                have hb22 := hd22.below
                                have k0_22 := pw_cell_below hb22 k0_21
                                have k1_22 := pw_cell_below hb22 k1_21
                                have k2_22 := pw_cell_below hb22 k2_21
                                have HB22 := Aside0.mk (below_then HB21.out HB21.out.size hb22)
                                have HM22 := Aside0.mk (HM21.out.below hb22)
                                clear hb22 k0_21 k1_21 k2_21
                                go_wp2
                                go_meet
                                case rel => exact ⟨by rw [decide_eq_false]; exact (fun h => by (try have q1_ := HHn.out); (try have q2_ := HHy.out); (try have q3_ := HHd.out); (try have q4_ := HHl.out); (try have q5_ := HH3.out); (try have q6_ := HGT.out); (try have q7_ := HHg.out); first | exact absurd h.1 (by decide) | (have := h.2; omega)), ⟨by exact ⟨HM22.out, HB22.out, k0_22, k1_22, k2_22⟩⟩⟩
                          case rest =>
                            clear k0_21 k1_21 k2_21
                            obtain ⟨rfl, HW⟩ := hcut
                            obtain ⟨hm_, hB_, k0_22, k1_22, k2_22⟩ := HW.out
                            have HM22 := Aside0.mk hm_
                            have HB22 := Aside0.mk hB_
                            clear hm_ hB_ HW
                            by_cases hC : b = true ∧ n = 0 ∧ f.f2.length = 1 ∧ d < 64
                            · have HCN3 := Aside0.mk hC
                              rw [decide_eq_true hC]
                              clear hC
                              as_aux_lemma =>
                                have HCK := HCN3
                                have hw6 : IntKind.i64.wrap (64 + d) = 64 + d := by rw [IntKind.wrap_i64]; have := HCK.out; omega
                                have hz_1 : (strOfNums [(64 + d) % 256]).size + (sb ty.1).size ≤ 9223372036854775807 := by
                                  have := YLEN.out; have := XLEN.out; have := HF.out
                                  have e1 : (⟨#[251]⟩ : ByteArray).size = 1 := rfl
                                  have e2 : (⟨#[247]⟩ : ByteArray).size = 1 := rfl
                                  have e3 : (⟨#[255]⟩ : ByteArray).size = 1 := rfl
                                  simp only [ByteArray.size_append, sb_size, strOfNums_size, bigB_length, List.length_cons, List.length_nil, e1, e2, e3]; omega
                                have hy_1 : (strOfNums [(64 + d) % 256]).size + (sb ty.1).size ≤ 9223372036854775807 := by
                                  have h := hz_1
                                  try simp only [ByteArray.size_append] at h
                                  exact h
                                have hx_1 : (9223372036854775807 < (strOfNums [(64 + d) % 256]).size + (sb ty.1).size) = False := eq_false (Nat.not_lt.2 hy_1)
                                by_cases he_ : ty.2 = 0
                                · have be_ : (ty.2 != 0) = false := bne_eq_false_iff_eq.2 he_
                                  have ER := Aside0.mk he_
                                  clear he_
                                  have HSO : Aside0 (oneS l1 f.f1 f.f2 zs d s = (s.1 ++ (bigB (U64 (64 + d)) 1 ++ ty.1), 0)) := ⟨by
                                    refine (oneS_chain l1 f.f1 f.f2 zs d n s b (min f.f1.length zs.length) rfl HBB.out HNN.out).trans ?_
                                    refine (if_neg HCN1.out).trans ?_
                                    refine (if_neg HCN2.out).trans ?_
                                    refine (if_pos HCN3.out).trans ?_
                                    have hs2 := HN.out.2
                                    rw [valsS_at, hs2, if_pos rfl, HTY.out, List.append_assoc]
                                    rw [ER.out]⟩
                                  have hbz := below_alloc (Below.refl wc.heap.size wc) (.cells #[.int .u8 ((64 + d) % 256)] 5)
                                  have k0_z := pw_cell_below hbz k0_22
                                  have k1_z := pw_cell_below hbz k1_22
                                  have HBZ := Aside0.mk (below_then HB22.out HB22.out.size hbz)
                                  have HMZ := Aside0.mk (HM22.out.below hbz)
                                  clear hbz
                                  have HXS : Aside0 (bs (strOfNums [(64 + d) % 256] ++ sb ty.1) = bigB (U64 (64 + d)) 1 ++ ty.1) := ⟨by rw [bs_app, bs_one, bs_sb YLT.out]⟩
                                  have HXZ : Aside0 (s.1.length + (strOfNums [(64 + d) % 256] ++ sb ty.1).size ≤ 140737488355328) := ⟨by
                                    have h1 := oneS_len l1 f.f1 f.f2 zs d s
                                    rw [HSO.out] at h1
                                    have h2 : (strOfNums [(64 + d) % 256] ++ sb ty.1).size = (bigB (U64 (64 + d)) 1 ++ ty.1).length := by rw [← HXS.out, bs_length]
                                    have := HN.out.1; have := HLT.out; have := HL2.out; have := HF.out
                                    simp only [List.length_append] at h1 h2 ⊢
                                    omega⟩
                                  go_wp2_with (at_builtin; refine app_ms rfl _ _ 87 9 rfl 5 Try.underlying87 Try.underlying9 Try.infoB w.heap.size w.heap.size (w0 := w) (by first | exact HBZ.out | exact HB22.out | exact pw_below_drewN HB22.out _) (v := _) (n := s.1.length) (xs := u8s s.1) (by first | exact HMZ.out | exact HM22.out) rfl (strOfNums [(64 + d) % 256] ++ sb ty.1) rfl HXZ.out (by first | exact HBZ.out.size | exact HB22.out.size) (Nat.le_refl _) ?_; intro v9 w9 hown9 hbel9 hg9 hsep9; have c0_9 := grown_cell' hg9 (by first | exact k0_z | exact k0_22) (fun e => by have := (HQN.out _ e).2; simp at this); have c1_9 := grown_cell' hg9 (by first | exact k1_z | exact k1_22) (fun e => by have := (HQN.out _ e).2; simp at this))
                                  have HB9 := Aside0.mk hbel9
                                  have HM9 := Aside0.mk (mrow_S hown9 HXS.out)
                                  have HS4 : Aside0 (writeL l1 (l0.drop (k + 1)) (k + 1) f.f0 f.f1 (s.1 ++ (bigB (U64 (64 + d)) 1 ++ ty.1), 0) = (r1, r2, r3)) := ⟨by
                                    have h := HS3.out
                                    rw [HSO.out] at h
                                    exact (if_pos rfl).symm.trans h⟩
                                  have HL9 : Aside0 ((s.1 ++ (bigB (U64 (64 + d)) 1 ++ ty.1)).length ≤ 2 + 400000 * (k + 1)) := ⟨by
                                    have h1 := oneS_len l1 f.f1 f.f2 zs d s
                                    rw [HSO.out] at h1
                                    have := HN.out.1; have := HF.out
                                    dsimp only at h1 ⊢
                                    omega⟩
                                  clear hown9 hbel9 hg9 hsep9
                                  try go_wp2
                                  go_roundw
                                  case rel => exact ⟨k + 1, (s.1 ++ (bigB (U64 (64 + d)) 1 ++ ty.1), 0), f.f0, A1_, c1_, f.f1, by have := HLT.out; omega, by go_num, rfl, rfl, ⟨by have := HF.out; have := HPL.out; omega⟩, HM9, HB9, ⟨HX.out.1, HX.out.2, by have := HF.out.2.2.1; omega⟩, ⟨HL9.out, rfl⟩, HS4⟩
                                  case measure => have := HLT.out; simp [intOf]; omega
                                · have be_ : (ty.2 != 0) = true := bne_iff_ne.2 he_
                                  have ER := Aside0.mk he_
                                  clear he_
                                  have HSO : Aside0 (oneS l1 f.f1 f.f2 zs d s = (s.1 ++ (bigB (U64 (64 + d)) 1 ++ ty.1), ty.2)) := ⟨by
                                    refine (oneS_chain l1 f.f1 f.f2 zs d n s b (min f.f1.length zs.length) rfl HBB.out HNN.out).trans ?_
                                    refine (if_neg HCN1.out).trans ?_
                                    refine (if_neg HCN2.out).trans ?_
                                    refine (if_pos HCN3.out).trans ?_
                                    have hs2 := HN.out.2
                                    rw [valsS_at, hs2, if_pos rfl, HTY.out, List.append_assoc]⟩
                                  go_wp2
                                  go_ret3
                                  have HE := HS3.out
                                  rw [HSO.out] at HE
                                  replace HE := (if_neg ER.out).symm.trans HE
                                  injection HE with e1 e2
                                  injection e2 with e2 e3
                                  subst e1 e2 e3
                                  exact ⟨rfl, by first | exact HBZ.out | exact HB22.out | exact below_then HB22.out HB22.out.size (below_alloc (Below.refl _ _) _)⟩
                            · have HCN3 := Aside0.mk hC
                              rw [decide_eq_false hC]
                              clear hC
                              go_upto_region 26 with (fail)
                              go_cut [165] from 166 to 175 (fun v wc => v = .bool (decide (b = true ∧ n = 0 ∧ f.f2.length = 1)) ∧ Aside0 (WF w wr f A1_ c1_ A2_ c2_ u9 s wc))
                              case first =>
                                as_aux_lemma =>
                                  by_cases hn_ : n = 0
                                  · rw [decide_eq_true hn_, Bool.and_true] at SM
                                    have HHn := Aside0.mk hn_
                                    clear hn_
                                    cases b
                                    · go_wp2_with fail
                                      refine (SM.out _ HB22.out).mono ?_
                                      rintro e23 w23 ⟨rfl, hd23⟩
                                      have hb23 := hd23.below
                                      have k0_23 := pw_cell_below hb23 k0_22
                                      have k1_23 := pw_cell_below hb23 k1_22
                                      have k2_23 := pw_cell_below hb23 k2_22
                                      have HB23 := Aside0.mk (below_then HB22.out HB22.out.size hb23)
                                      have HM23 := Aside0.mk (HM22.out.below hb23)
                                      clear hb23 k0_22 k1_22 k2_22
                                      go_wp2
                                      go_meet
                                      case rel => exact ⟨by rw [decide_eq_false]; exact (fun h => by (try have q1_ := HHn.out); (try have q2_ := HHy.out); (try have q3_ := HHd.out); (try have q4_ := HHl.out); (try have q5_ := HH3.out); (try have q6_ := HGT.out); (try have q7_ := HHg.out); first | exact absurd h.1 (by decide) | (have := h.2; omega)), ⟨by exact ⟨HM23.out, HB23.out, k0_23, k1_23, k2_23⟩⟩⟩
                                    · go_wp2_with fail
                                      refine (SM.out _ HB22.out).mono ?_
                                      rintro e23 w23 ⟨rfl, hd23⟩
                                      have hb23 := hd23.below
                                      have k0_23 := pw_cell_below hb23 k0_22
                                      have k1_23 := pw_cell_below hb23 k1_22
                                      have k2_23 := pw_cell_below hb23 k2_22
                                      have HB23 := Aside0.mk (below_then HB22.out HB22.out.size hb23)
                                      have HM23 := Aside0.mk (HM22.out.below hb23)
                                      clear hb23 k0_22 k1_22 k2_22
                                      by_cases hy_ : f.f2.length = 1
                                      · have q_y1 : ((f.f2.length : Int) == 1) = true := beq_iff_eq.2 (by omega)
                                        have HHy := Aside0.mk hy_
                                        clear hy_
                                        go_wp2
                                        go_meet
                                        case rel => exact ⟨by rw [decide_eq_true]; exact ⟨by first | rfl | trivial, by (try have q1_ := HHn.out); (try have q2_ := HHy.out); (try have q3_ := HHd.out); (try have q4_ := HHl.out); (try have q5_ := HH3.out); (try have q6_ := HGT.out); (try have q7_ := HHg.out); omega⟩, ⟨by exact ⟨HM23.out, HB23.out, k0_23, k1_23, k2_23⟩⟩⟩
                                      · have q_y1 : ((f.f2.length : Int) == 1) = false := beq_eq_false_iff_ne.2 (by omega)
                                        have HHy := Aside0.mk hy_
                                        clear hy_
                                        go_wp2
                                        go_meet
                                        case rel => exact ⟨by rw [decide_eq_false]; exact (fun h => by (try have q1_ := HHn.out); (try have q2_ := HHy.out); (try have q3_ := HHd.out); (try have q4_ := HHl.out); (try have q5_ := HH3.out); (try have q6_ := HGT.out); (try have q7_ := HHg.out); first | exact absurd h.1 (by decide) | (have := h.2; omega)), ⟨by exact ⟨HM23.out, HB23.out, k0_23, k1_23, k2_23⟩⟩⟩
                                  · rw [decide_eq_false hn_, Bool.and_false] at SM
                                    have HHn := Aside0.mk hn_
                                    clear hn_
                                    go_wp2_with fail
                                    refine (SM.out _ HB22.out).mono ?_
                                    rintro e23 w23 ⟨rfl, hd23⟩
                                    have hb23 := hd23.below
                                    have k0_23 := pw_cell_below hb23 k0_22
                                    have k1_23 := pw_cell_below hb23 k1_22
                                    have k2_23 := pw_cell_below hb23 k2_22
                                    have HB23 := Aside0.mk (below_then HB22.out HB22.out.size hb23)
                                    have HM23 := Aside0.mk (HM22.out.below hb23)
                                    clear hb23 k0_22 k1_22 k2_22
                                    go_wp2
                                    go_meet
                                    case rel => exact ⟨by rw [decide_eq_false]; exact (fun h => by (try have q1_ := HHn.out); (try have q2_ := HHy.out); (try have q3_ := HHd.out); (try have q4_ := HHl.out); (try have q5_ := HH3.out); (try have q6_ := HGT.out); (try have q7_ := HHg.out); first | exact absurd h.1 (by decide) | (have := h.2; omega)), ⟨by exact ⟨HM23.out, HB23.out, k0_23, k1_23, k2_23⟩⟩⟩
                              case rest =>
                                clear k0_22 k1_22 k2_22
                                obtain ⟨rfl, HW⟩ := hcut
                                obtain ⟨hm_, hB_, k0_23, k1_23, k2_23⟩ := HW.out
                                have HM23 := Aside0.mk hm_
                                have HB23 := Aside0.mk hB_
                                clear hm_ hB_ HW
                                by_cases hC : b = true ∧ n = 0 ∧ f.f2.length = 1
                                · have HCN4 := Aside0.mk hC
                                  rw [decide_eq_true hC]
                                  clear hC
                                  as_aux_lemma =>
                                    have HCK := HCN4
                                    have hz_1 : ((⟨#[247]⟩ : ByteArray)).size + (sb (bigB (U64 d) 2)).size ≤ 9223372036854775807 := by
                                      have := YLEN.out; have := XLEN.out; have := HF.out
                                      have e1 : (⟨#[251]⟩ : ByteArray).size = 1 := rfl
                                      have e2 : (⟨#[247]⟩ : ByteArray).size = 1 := rfl
                                      have e3 : (⟨#[255]⟩ : ByteArray).size = 1 := rfl
                                      simp only [ByteArray.size_append, sb_size, strOfNums_size, bigB_length, List.length_cons, List.length_nil, e1, e2, e3]; omega
                                    have hy_1 : 1 + (sb (bigB (U64 d) 2)).size ≤ 9223372036854775807 := by
                                      have h := hz_1
                                      try simp only [ByteArray.size_append] at h
                                      exact h
                                    have hx_1 : (9223372036854775807 < 1 + (sb (bigB (U64 d) 2)).size) = False := eq_false (Nat.not_lt.2 hy_1)
                                    have hz_2 : ((⟨#[247]⟩ : ByteArray) ++ sb (bigB (U64 d) 2)).size + (sb ty.1).size ≤ 9223372036854775807 := by
                                      have := YLEN.out; have := XLEN.out; have := HF.out
                                      have e1 : (⟨#[251]⟩ : ByteArray).size = 1 := rfl
                                      have e2 : (⟨#[247]⟩ : ByteArray).size = 1 := rfl
                                      have e3 : (⟨#[255]⟩ : ByteArray).size = 1 := rfl
                                      simp only [ByteArray.size_append, sb_size, strOfNums_size, bigB_length, List.length_cons, List.length_nil, e1, e2, e3]; omega
                                    have hy_2 : 1 + (sb (bigB (U64 d) 2)).size + (sb ty.1).size ≤ 9223372036854775807 := by
                                      have h := hz_2
                                      try simp only [ByteArray.size_append] at h
                                      exact h
                                    have hx_2 : (9223372036854775807 < 1 + (sb (bigB (U64 d) 2)).size + (sb ty.1).size) = False := eq_false (Nat.not_lt.2 hy_2)
                                    by_cases he_ : ty.2 = 0
                                    · have be_ : (ty.2 != 0) = false := bne_eq_false_iff_eq.2 he_
                                      have ER := Aside0.mk he_
                                      clear he_
                                      have HSO : Aside0 (oneS l1 f.f1 f.f2 zs d s = (s.1 ++ (bigB (U64 247) 1 ++ bigB (U64 d) 2 ++ ty.1), 0)) := ⟨by
                                        refine (oneS_chain l1 f.f1 f.f2 zs d n s b (min f.f1.length zs.length) rfl HBB.out HNN.out).trans ?_
                                        refine (if_neg HCN1.out).trans ?_
                                        refine (if_neg HCN2.out).trans ?_
                                        refine (if_neg HCN3.out).trans ?_
                                        refine (if_pos HCN4.out).trans ?_
                                        have hs2 := HN.out.2
                                        rw [valsS_at, hs2, if_pos rfl, HTY.out, List.append_assoc, List.append_assoc, List.append_assoc]
                                        rw [ER.out]⟩
                                      have HXS : Aside0 (bs ((⟨#[247]⟩ : ByteArray) ++ sb (bigB (U64 d) 2) ++ sb ty.1) = bigB (U64 247) 1 ++ bigB (U64 d) 2 ++ ty.1) := ⟨by rw [bs_app, bs_app, bs_sb (bigB_lt _ _), bs_sb YLT.out]; rfl⟩
                                      have HXZ : Aside0 (s.1.length + ((⟨#[247]⟩ : ByteArray) ++ sb (bigB (U64 d) 2) ++ sb ty.1).size ≤ 140737488355328) := ⟨by
                                        have h1 := oneS_len l1 f.f1 f.f2 zs d s
                                        rw [HSO.out] at h1
                                        have h2 : ((⟨#[247]⟩ : ByteArray) ++ sb (bigB (U64 d) 2) ++ sb ty.1).size = (bigB (U64 247) 1 ++ bigB (U64 d) 2 ++ ty.1).length := by rw [← HXS.out, bs_length]
                                        have := HN.out.1; have := HLT.out; have := HL2.out; have := HF.out
                                        simp only [List.length_append] at h1 h2 ⊢
                                        omega⟩
                                      go_wp2_with (at_builtin; refine app_ms rfl _ _ 87 9 rfl 5 Try.underlying87 Try.underlying9 Try.infoB w.heap.size w.heap.size (w0 := w) (by first | exact HBZ.out | exact HB23.out | exact pw_below_drewN HB23.out _) (v := _) (n := s.1.length) (xs := u8s s.1) (by first | exact HMZ.out | exact HM23.out) rfl ((⟨#[247]⟩ : ByteArray) ++ sb (bigB (U64 d) 2) ++ sb ty.1) rfl HXZ.out (by first | exact HBZ.out.size | exact HB23.out.size) (Nat.le_refl _) ?_; intro v9 w9 hown9 hbel9 hg9 hsep9; have c0_9 := grown_cell' hg9 (by first | exact k0_z | exact k0_23) (fun e => by have := (HQN.out _ e).2; simp at this); have c1_9 := grown_cell' hg9 (by first | exact k1_z | exact k1_23) (fun e => by have := (HQN.out _ e).2; simp at this))
                                      have HB9 := Aside0.mk hbel9
                                      have HM9 := Aside0.mk (mrow_S hown9 HXS.out)
                                      have HS4 : Aside0 (writeL l1 (l0.drop (k + 1)) (k + 1) f.f0 f.f1 (s.1 ++ (bigB (U64 247) 1 ++ bigB (U64 d) 2 ++ ty.1), 0) = (r1, r2, r3)) := ⟨by
                                        have h := HS3.out
                                        rw [HSO.out] at h
                                        exact (if_pos rfl).symm.trans h⟩
                                      have HL9 : Aside0 ((s.1 ++ (bigB (U64 247) 1 ++ bigB (U64 d) 2 ++ ty.1)).length ≤ 2 + 400000 * (k + 1)) := ⟨by
                                        have h1 := oneS_len l1 f.f1 f.f2 zs d s
                                        rw [HSO.out] at h1
                                        have := HN.out.1; have := HF.out
                                        dsimp only at h1 ⊢
                                        omega⟩
                                      clear hown9 hbel9 hg9 hsep9
                                      try go_wp2
                                      go_roundw
                                      case rel => exact ⟨k + 1, (s.1 ++ (bigB (U64 247) 1 ++ bigB (U64 d) 2 ++ ty.1), 0), f.f0, A1_, c1_, f.f1, by have := HLT.out; omega, by go_num, rfl, rfl, ⟨by have := HF.out; have := HPL.out; omega⟩, HM9, HB9, ⟨HX.out.1, HX.out.2, by have := HF.out.2.2.1; omega⟩, ⟨HL9.out, rfl⟩, HS4⟩
                                      case measure => have := HLT.out; simp [intOf]; omega
                                    · have be_ : (ty.2 != 0) = true := bne_iff_ne.2 he_
                                      have ER := Aside0.mk he_
                                      clear he_
                                      have HSO : Aside0 (oneS l1 f.f1 f.f2 zs d s = (s.1 ++ (bigB (U64 247) 1 ++ bigB (U64 d) 2 ++ ty.1), ty.2)) := ⟨by
                                        refine (oneS_chain l1 f.f1 f.f2 zs d n s b (min f.f1.length zs.length) rfl HBB.out HNN.out).trans ?_
                                        refine (if_neg HCN1.out).trans ?_
                                        refine (if_neg HCN2.out).trans ?_
                                        refine (if_neg HCN3.out).trans ?_
                                        refine (if_pos HCN4.out).trans ?_
                                        have hs2 := HN.out.2
                                        rw [valsS_at, hs2, if_pos rfl, HTY.out, List.append_assoc, List.append_assoc, List.append_assoc]⟩
                                      go_wp2
                                      go_ret3
                                      have HE := HS3.out
                                      rw [HSO.out] at HE
                                      replace HE := (if_neg ER.out).symm.trans HE
                                      injection HE with e1 e2
                                      injection e2 with e2 e3
                                      subst e1 e2 e3
                                      exact ⟨rfl, by first | exact HBZ.out | exact HB23.out | exact below_then HB23.out HB23.out.size (below_alloc (Below.refl _ _) _)⟩
                                · have HCN4 := Aside0.mk hC
                                  rw [decide_eq_false hC]
                                  clear hC
                                  go_upto_region 28 with (fail)
                                  go_cut [180] from 181 to 202 (fun v wc => v = .bool (decide (b = true ∧ n < 0 ∧ n ≥ -3 ∧ f.f2.length = 0)) ∧ Aside0 (WF w wr f A1_ c1_ A2_ c2_ u9 s wc))
                                  case first =>
                                    as_aux_lemma =>
                                      by_cases hl_ : n < 0
                                      · have q_nl : decide (n < 0) = true := decide_eq_true (by omega)
                                        by_cases h3_ : n ≥ -3
                                        · have q_n3 : decide (n ≥ -3) = true := decide_eq_true (by omega)
                                          have hxz : (f.f1.length : Int) ≤ (c3 : Int) := by have := HLN.out.2; have := HNN.out; omega
                                          have hbn := like_n HNN.out hl_ HBB.out
                                          have SL : Aside0 (∀ W, Below w.heap.size w W → Calls Try.prog 62 #[.slice A1_ f.f1.length c1_, .slice A3 f.f1.length c3] W fun e w' => e = .returned (.bool b) ∧ Drawn0 W w') := ⟨fun W hb2 => by
                                            rw [← hbn]; exact same_any A1_ c1_ _ f.f1 rfl A3 c3 _ (zs.take f.f1.length) (by rw [List.length_take]; have := HNN.out; omega) W (Kd.C_below HX.out.1 hb2) (Kd.C_take (Kd.C_below HZ.out.1 hb2) (by have := HNN.out; omega)) HX.out.2 (by rw [List.length_take]; have := HZ.out.2.1; omega) (by have := HF.out.2.2.1; omega)⟩
                                          clear hbn
                                          have HHl := Aside0.mk hl_
                                          clear hl_
                                          have HH3 := Aside0.mk h3_
                                          clear h3_
                                          cases b
                                          · go_wp2_with fail
                                            go_quiet ((go_at_call 62; exact Calls.quiet_of ((SL.out _ (by first | exact HB23.out | exact pw_below_drewN HB23.out _)).mono fun e w' h => ⟨h.1, h.2.out⟩)))
                                            go_wp2
                                            go_meet
                                            case rel => exact ⟨by rw [decide_eq_false]; exact (fun h => by (try have q1_ := HHn.out); (try have q2_ := HHy.out); (try have q3_ := HHd.out); (try have q4_ := HHl.out); (try have q5_ := HH3.out); (try have q6_ := HGT.out); (try have q7_ := HHg.out); first | exact absurd h.1 (by decide) | (have := h.2; omega)), ⟨by first | exact ⟨HM23.out, HB23.out, k0_23, k1_23, k2_23⟩ | exact ⟨HM23.out.below (pw_below_drewN (Below.refl _ _) _), pw_below_drewN HB23.out _, k0_23, k1_23, k2_23⟩⟩⟩
                                          · by_cases hy_ : f.f2.length = 0
                                            · have q_y0 : ((f.f2.length : Int) == 0) = true := beq_iff_eq.2 (by omega)
                                              have HHy := Aside0.mk hy_
                                              clear hy_
                                              go_wp2_with fail
                                              go_quiet ((go_at_call 62; exact Calls.quiet_of ((SL.out _ (by first | exact HB23.out | exact pw_below_drewN HB23.out _)).mono fun e w' h => ⟨h.1, h.2.out⟩)))
                                              go_wp2
                                              go_meet
                                              case rel => exact ⟨by rw [decide_eq_true]; exact ⟨by first | rfl | trivial, by (try have q1_ := HHn.out); (try have q2_ := HHy.out); (try have q3_ := HHd.out); (try have q4_ := HHl.out); (try have q5_ := HH3.out); (try have q6_ := HGT.out); (try have q7_ := HHg.out); omega⟩, ⟨by first | exact ⟨HM23.out, HB23.out, k0_23, k1_23, k2_23⟩ | exact ⟨HM23.out.below (pw_below_drewN (Below.refl _ _) _), pw_below_drewN HB23.out _, k0_23, k1_23, k2_23⟩⟩⟩
                                            · have q_y0 : ((f.f2.length : Int) == 0) = false := beq_eq_false_iff_ne.2 (by omega)
                                              have HHy := Aside0.mk hy_
                                              clear hy_
                                              go_wp2_with fail
                                              go_quiet ((go_at_call 62; exact Calls.quiet_of ((SL.out _ (by first | exact HB23.out | exact pw_below_drewN HB23.out _)).mono fun e w' h => ⟨h.1, h.2.out⟩)))
                                              go_wp2
                                              go_meet
                                              case rel => exact ⟨by rw [decide_eq_false]; exact (fun h => by (try have q1_ := HHn.out); (try have q2_ := HHy.out); (try have q3_ := HHd.out); (try have q4_ := HHl.out); (try have q5_ := HH3.out); (try have q6_ := HGT.out); (try have q7_ := HHg.out); first | exact absurd h.1 (by decide) | (have := h.2; omega)), ⟨by first | exact ⟨HM23.out, HB23.out, k0_23, k1_23, k2_23⟩ | exact ⟨HM23.out.below (pw_below_drewN (Below.refl _ _) _), pw_below_drewN HB23.out _, k0_23, k1_23, k2_23⟩⟩⟩
                                        · have q_n3 : decide (n ≥ -3) = false := decide_eq_false (by omega)
                                          have HHl := Aside0.mk hl_
                                          clear hl_
                                          have HH3 := Aside0.mk h3_
                                          clear h3_
                                          go_wp2_with fail
                                          go_quiet (fail)
                                          go_wp2
                                          go_meet
                                          case rel => exact ⟨by rw [decide_eq_false]; exact (fun h => by (try have q1_ := HHn.out); (try have q2_ := HHy.out); (try have q3_ := HHd.out); (try have q4_ := HHl.out); (try have q5_ := HH3.out); (try have q6_ := HGT.out); (try have q7_ := HHg.out); first | exact absurd h.1 (by decide) | (have := h.2; omega)), ⟨by first | exact ⟨HM23.out, HB23.out, k0_23, k1_23, k2_23⟩ | exact ⟨HM23.out.below (pw_below_drewN (Below.refl _ _) _), pw_below_drewN HB23.out _, k0_23, k1_23, k2_23⟩⟩⟩
                                      · have q_nl : decide (n < 0) = false := decide_eq_false (by omega)
                                        have HHl := Aside0.mk hl_
                                        clear hl_
                                        go_wp2_with fail
                                        go_quiet (fail)
                                        go_wp2
                                        go_meet
                                        case rel => exact ⟨by rw [decide_eq_false]; exact (fun h => by (try have q1_ := HHn.out); (try have q2_ := HHy.out); (try have q3_ := HHd.out); (try have q4_ := HHl.out); (try have q5_ := HH3.out); (try have q6_ := HGT.out); (try have q7_ := HHg.out); first | exact absurd h.1 (by decide) | (have := h.2; omega)), ⟨by first | exact ⟨HM23.out, HB23.out, k0_23, k1_23, k2_23⟩ | exact ⟨HM23.out.below (pw_below_drewN (Below.refl _ _) _), pw_below_drewN HB23.out _, k0_23, k1_23, k2_23⟩⟩⟩
                                  case rest =>
                                    clear k0_23 k1_23 k2_23
                                    obtain ⟨rfl, HW⟩ := hcut
                                    obtain ⟨hm_, hB_, k0_24, k1_24, k2_24⟩ := HW.out
                                    have HM24 := Aside0.mk hm_
                                    have HB24 := Aside0.mk hB_
                                    clear hm_ hB_ HW
                                    by_cases hC : b = true ∧ n < 0 ∧ n ≥ -3 ∧ f.f2.length = 0
                                    · have HCN5 := Aside0.mk hC
                                      rw [decide_eq_true hC]
                                      clear hC
                                      as_aux_lemma =>
                                        have HCK := HCN5
                                        have ey_ : ty = ([], 0) := by rw [← HTY.out, List.eq_nil_of_length_eq_zero (show f.f2.length = 0 by have := HCK.out; omega)]; rfl
                                        have e0_ : ty.2 = 0 := by rw [ey_]
                                        have be_ : (ty.2 != 0) = false := bne_eq_false_iff_eq.2 e0_
                                        clear ey_
                                        have hw3 : IntKind.i64.wrap (251 + n) = 251 + n := by rw [IntKind.wrap_i64]; have := HCK.out; omega
                                        have hz_1 : (strOfNums [(251 + n) % 256]).size + (sb (bigB (U64 d) 2)).size ≤ 9223372036854775807 := by
                                          have := YLEN.out; have := XLEN.out; have := HF.out
                                          have e1 : (⟨#[251]⟩ : ByteArray).size = 1 := rfl
                                          have e2 : (⟨#[247]⟩ : ByteArray).size = 1 := rfl
                                          have e3 : (⟨#[255]⟩ : ByteArray).size = 1 := rfl
                                          simp only [ByteArray.size_append, sb_size, strOfNums_size, bigB_length, List.length_cons, List.length_nil, e1, e2, e3]; omega
                                        have hy_1 : (strOfNums [(251 + n) % 256]).size + (sb (bigB (U64 d) 2)).size ≤ 9223372036854775807 := by
                                          have h := hz_1
                                          try simp only [ByteArray.size_append] at h
                                          exact h
                                        have hx_1 : (9223372036854775807 < (strOfNums [(251 + n) % 256]).size + (sb (bigB (U64 d) 2)).size) = False := eq_false (Nat.not_lt.2 hy_1)
                                        have HSO : Aside0 (oneS l1 f.f1 f.f2 zs d s = (s.1 ++ (bigB (U64 (251 + n)) 1 ++ bigB (U64 d) 2), 0)) := ⟨by
                                          refine (oneS_chain l1 f.f1 f.f2 zs d n s b (min f.f1.length zs.length) rfl HBB.out HNN.out).trans ?_
                                          refine (if_neg HCN1.out).trans ?_
                                          refine (if_neg HCN2.out).trans ?_
                                          refine (if_neg HCN3.out).trans ?_
                                          refine (if_neg HCN4.out).trans ?_
                                          refine (if_pos HCN5.out).trans ?_
                                          have hs2 := HN.out.2
                                          rw [hs2, List.append_assoc]⟩
                                        have hbz := below_alloc (Below.refl wc.heap.size wc) (.cells #[.int .u8 ((251 + n) % 256)] 5)
                                        have k0_z := pw_cell_below hbz k0_24
                                        have k1_z := pw_cell_below hbz k1_24
                                        have HBZ := Aside0.mk (below_then HB24.out HB24.out.size hbz)
                                        have HMZ := Aside0.mk (HM24.out.below hbz)
                                        clear hbz
                                        have HXS : Aside0 (bs (strOfNums [(251 + n) % 256] ++ sb (bigB (U64 d) 2)) = bigB (U64 (251 + n)) 1 ++ bigB (U64 d) 2) := ⟨by rw [bs_app, bs_one, bs_sb (bigB_lt _ _)]⟩
                                        have HXZ : Aside0 (s.1.length + (strOfNums [(251 + n) % 256] ++ sb (bigB (U64 d) 2)).size ≤ 140737488355328) := ⟨by
                                          have h1 := oneS_len l1 f.f1 f.f2 zs d s
                                          rw [HSO.out] at h1
                                          have h2 : (strOfNums [(251 + n) % 256] ++ sb (bigB (U64 d) 2)).size = (bigB (U64 (251 + n)) 1 ++ bigB (U64 d) 2).length := by rw [← HXS.out, bs_length]
                                          have := HN.out.1; have := HLT.out; have := HL2.out; have := HF.out
                                          simp only [List.length_append] at h1 h2 ⊢
                                          omega⟩
                                        go_wp2_with (at_builtin; refine app_ms rfl _ _ 87 9 rfl 5 Try.underlying87 Try.underlying9 Try.infoB w.heap.size w.heap.size (w0 := w) (by first | exact HBZ.out | exact HB24.out | exact pw_below_drewN HB24.out _) (v := _) (n := s.1.length) (xs := u8s s.1) (by first | exact HMZ.out | exact HM24.out) rfl (strOfNums [(251 + n) % 256] ++ sb (bigB (U64 d) 2)) rfl HXZ.out (by first | exact HBZ.out.size | exact HB24.out.size) (Nat.le_refl _) ?_; intro v9 w9 hown9 hbel9 hg9 hsep9; have c0_9 := grown_cell' hg9 (by first | exact k0_z | exact k0_24) (fun e => by have := (HQN.out _ e).2; simp at this); have c1_9 := grown_cell' hg9 (by first | exact k1_z | exact k1_24) (fun e => by have := (HQN.out _ e).2; simp at this))
                                        have HB9 := Aside0.mk hbel9
                                        have HM9 := Aside0.mk (mrow_S hown9 HXS.out)
                                        have HS4 : Aside0 (writeL l1 (l0.drop (k + 1)) (k + 1) f.f0 f.f1 (s.1 ++ (bigB (U64 (251 + n)) 1 ++ bigB (U64 d) 2), 0) = (r1, r2, r3)) := ⟨by
                                          have h := HS3.out
                                          rw [HSO.out] at h
                                          exact (if_pos rfl).symm.trans h⟩
                                        have HL9 : Aside0 ((s.1 ++ (bigB (U64 (251 + n)) 1 ++ bigB (U64 d) 2)).length ≤ 2 + 400000 * (k + 1)) := ⟨by
                                          have h1 := oneS_len l1 f.f1 f.f2 zs d s
                                          rw [HSO.out] at h1
                                          have := HN.out.1; have := HF.out
                                          dsimp only at h1 ⊢
                                          omega⟩
                                        clear hown9 hbel9 hg9 hsep9
                                        try go_wp2
                                        go_roundw
                                        case rel => exact ⟨k + 1, (s.1 ++ (bigB (U64 (251 + n)) 1 ++ bigB (U64 d) 2), 0), f.f0, A1_, c1_, f.f1, by have := HLT.out; omega, by go_num, rfl, rfl, ⟨by have := HF.out; have := HPL.out; omega⟩, HM9, HB9, ⟨HX.out.1, HX.out.2, by have := HF.out.2.2.1; omega⟩, ⟨HL9.out, rfl⟩, HS4⟩
                                        case measure => have := HLT.out; simp [intOf]; omega
                                    · have HCN5 := Aside0.mk hC
                                      rw [decide_eq_false hC]
                                      clear hC
                                      go_upto_region 30 with (fail)
                                      go_cut [210] from 211 to 231 (fun v wc => v = .bool (decide (b = true ∧ n > 0 ∧ n ≤ 3 ∧ f.f2.length = 0)) ∧ Aside0 (WF w wr f A1_ c1_ A2_ c2_ u9 s wc))
                                      case first =>
                                        as_aux_lemma =>
                                          by_cases hg_ : n > 0
                                          · have q_ng : decide (n > 0) = true := decide_eq_true (by omega)
                                            have HGT := Aside0.mk hg_
                                            clear hg_
                                            by_cases h3_ : n ≤ 3
                                            · have q_m3 : decide (n ≤ 3) = true := decide_eq_true (by omega)
                                              have HH3 := Aside0.mk h3_
                                              clear h3_
                                              have hxz : (zs.length : Int) ≤ (c1_ : Int) := by have := HLN.out.1; have := HNN.out; have := HGT.out; omega
                                              have hxz2 : (zs.length : Int) ≤ (f.f1.length : Int) := by have := HNN.out; have := HGT.out; omega
                                              have hcn : ¬ c1_ = zs.length := by have := HLN.out.1; have := HNN.out; have := HGT.out; omega
                                              have hcn2 : ¬ (c1_ : Int) = (zs.length : Int) := by omega
                                              have hbn := like_g HNN.out HGT.out HBB.out
                                              have SG : Aside0 (∀ W, Below w.heap.size w W → Calls Try.prog 62 #[.slice A1_ zs.length c1_, .slice A3 zs.length c3] W fun e w' => e = .returned (.bool b) ∧ Drawn0 W w') := ⟨fun W hb2 => by
                                                rw [← hbn]; exact same_any A1_ c1_ _ (f.f1.take zs.length) (by rw [List.length_take]; have := HNN.out; have := HGT.out; omega) A3 c3 _ zs rfl W (Kd.C_take (Kd.C_below HX.out.1 hb2) (by have := HNN.out; have := HGT.out; omega)) (Kd.C_below HZ.out.1 hb2) (by rw [List.length_take]; have := HX.out.2; omega) HZ.out.2.1 (by rw [List.length_take]; have := HF.out.2.2.1; omega)⟩
                                              clear hbn
                                              cases b
                                              · go_wp2_with fail
                                                refine (SG.out _ HB24.out).mono ?_
                                                rintro e25 w25 ⟨rfl, hd25⟩
                                                have hb25 := hd25.below
                                                have k0_25 := pw_cell_below hb25 k0_24
                                                have k1_25 := pw_cell_below hb25 k1_24
                                                have k2_25 := pw_cell_below hb25 k2_24
                                                have HB25 := Aside0.mk (below_then HB24.out HB24.out.size hb25)
                                                have HM25 := Aside0.mk (HM24.out.below hb25)
                                                clear hb25 k0_24 k1_24 k2_24
                                                go_wp2
                                                go_meet
                                                case rel => exact ⟨by rw [decide_eq_false]; exact (fun h => by (try have q1_ := HHn.out); (try have q2_ := HHy.out); (try have q3_ := HHd.out); (try have q4_ := HHl.out); (try have q5_ := HH3.out); (try have q6_ := HGT.out); (try have q7_ := HHg.out); first | exact absurd h.1 (by decide) | (have := h.2; omega)), ⟨by exact ⟨HM25.out, HB25.out, k0_25, k1_25, k2_25⟩⟩⟩
                                              · go_wp2_with fail
                                                refine (SG.out _ HB24.out).mono ?_
                                                rintro e25 w25 ⟨rfl, hd25⟩
                                                have hb25 := hd25.below
                                                have k0_25 := pw_cell_below hb25 k0_24
                                                have k1_25 := pw_cell_below hb25 k1_24
                                                have k2_25 := pw_cell_below hb25 k2_24
                                                have HB25 := Aside0.mk (below_then HB24.out HB24.out.size hb25)
                                                have HM25 := Aside0.mk (HM24.out.below hb25)
                                                clear hb25 k0_24 k1_24 k2_24
                                                by_cases hy_ : f.f2.length = 0
                                                · have q_y0 : ((f.f2.length : Int) == 0) = true := beq_iff_eq.2 (by omega)
                                                  have HHy := Aside0.mk hy_
                                                  clear hy_
                                                  go_wp2
                                                  go_meet
                                                  case rel => exact ⟨by rw [decide_eq_true]; exact ⟨by first | rfl | trivial, by (try have q1_ := HHn.out); (try have q2_ := HHy.out); (try have q3_ := HHd.out); (try have q4_ := HHl.out); (try have q5_ := HH3.out); (try have q6_ := HGT.out); (try have q7_ := HHg.out); omega⟩, ⟨by exact ⟨HM25.out, HB25.out, k0_25, k1_25, k2_25⟩⟩⟩
                                                · have q_y0 : ((f.f2.length : Int) == 0) = false := beq_eq_false_iff_ne.2 (by omega)
                                                  have HHy := Aside0.mk hy_
                                                  clear hy_
                                                  go_wp2
                                                  go_meet
                                                  case rel => exact ⟨by rw [decide_eq_false]; exact (fun h => by (try have q1_ := HHn.out); (try have q2_ := HHy.out); (try have q3_ := HHd.out); (try have q4_ := HHl.out); (try have q5_ := HH3.out); (try have q6_ := HGT.out); (try have q7_ := HHg.out); first | exact absurd h.1 (by decide) | (have := h.2; omega)), ⟨by exact ⟨HM25.out, HB25.out, k0_25, k1_25, k2_25⟩⟩⟩
                                            · have q_m3 : decide (n ≤ 3) = false := decide_eq_false (by omega)
                                              have HH3 := Aside0.mk h3_
                                              clear h3_
                                              go_wp2
                                              go_meet
                                              case rel => exact ⟨by rw [decide_eq_false]; exact (fun h => by (try have q1_ := HHn.out); (try have q2_ := HHy.out); (try have q3_ := HHd.out); (try have q4_ := HHl.out); (try have q5_ := HH3.out); (try have q6_ := HGT.out); (try have q7_ := HHg.out); first | exact absurd h.1 (by decide) | (have := h.2; omega)), ⟨by exact ⟨HM24.out, HB24.out, k0_24, k1_24, k2_24⟩⟩⟩
                                          · have q_ng : decide (n > 0) = false := decide_eq_false (by omega)
                                            have HHg := Aside0.mk hg_
                                            clear hg_
                                            go_wp2
                                            go_meet
                                            case rel => exact ⟨by rw [decide_eq_false]; exact (fun h => by (try have q1_ := HHn.out); (try have q2_ := HHy.out); (try have q3_ := HHd.out); (try have q4_ := HHl.out); (try have q5_ := HH3.out); (try have q6_ := HGT.out); (try have q7_ := HHg.out); first | exact absurd h.1 (by decide) | (have := h.2; omega)), ⟨by exact ⟨HM24.out, HB24.out, k0_24, k1_24, k2_24⟩⟩⟩
                                      case rest =>
                                        clear k0_24 k1_24 k2_24
                                        obtain ⟨rfl, HW⟩ := hcut
                                        obtain ⟨hm_, hB_, k0_25, k1_25, k2_25⟩ := HW.out
                                        have HM25 := Aside0.mk hm_
                                        have HB25 := Aside0.mk hB_
                                        clear hm_ hB_ HW
                                        by_cases hC : b = true ∧ n > 0 ∧ n ≤ 3 ∧ f.f2.length = 0
                                        · have HCN6 := Aside0.mk hC
                                          rw [decide_eq_true hC]
                                          clear hC
                                          as_aux_lemma =>
                                            have HCK := HCN6
                                            have hl1_ : f.f1.length ≤ 140737488355328 := by have := HF.out; omega
                                            have hl2_ : f.f2.length ≤ 140737488355328 := by have := HF.out; omega
                                            have hxz : (zs.length : Int) ≤ (c1_ : Int) := by have := HLN.out.1; have := HNN.out; have := HCK.out; omega
                                            have hxz2 : (zs.length : Int) ≤ (f.f1.length : Int) := by have := HNN.out; have := HCK.out; omega
                                            have hcn : ¬ c1_ = zs.length := by have := HLN.out.1; have := HNN.out; have := HCK.out; omega
                                            have hcn2 : ¬ (c1_ : Int) = (zs.length : Int) := by omega
                                            obtain ⟨td, htd⟩ : ∃ t, valsS l1 (f.f1.drop zs.length) ([], 0) = t := ⟨_, rfl⟩
                                            have TD : Aside0 (∀ W A', Below w.heap.size w W → Kd.C k54 w A' (f.f1.drop zs.length).length (f.f1.drop zs.length) → Calls Try.prog 61 #[.slice A' (f.f1.length - zs.length) (c1_ - zs.length), .slice A1 l1.length c1] W fun e w' => e = .returned (.tuple #[.string (sb td.1), .int .i64 td.2]) ∧ Below W.heap.size W w') := ⟨fun W A' hb2 hk2 => by
                                              rw [← htd]; exact told_any A' _ _ (f.f1.drop zs.length) List.length_drop A1 c1 l1 W (Kd.C_below hk2 hb2) (by rw [List.length_drop]; have := HX.out.2; omega) (Kd.C_below HR1.out hb2) HC1.out H3.out HP1.out (fun x hx => HTK.out.1 x (List.mem_of_mem_drop hx)) (by rw [List.length_drop]; have := HF.out.2.2.1; omega)⟩
                                            have KD := Aside0.mk (show Kd.C k54 w (A1_.map (·.add (zs.length * k54.sz))) (f.f1.drop zs.length).length (f.f1.drop zs.length) by have := Kd.C_drop (m := zs.length) HX.out.1 (by have := HNN.out; have := HCK.out; omega) HX.out.2; rw [if_neg hcn] at this; exact this)
                                            have HTD := Aside0.mk htd
                                            have DLT : Aside0 (∀ x ∈ td.1, x < 256) := ⟨by rw [← htd]; exact valsS_lt l1 _ _ (fun x hx => nomatch hx)⟩
                                            have DLEN : Aside0 (td.1.length ≤ 3 * f.f1.length) := ⟨by rw [← htd]; exact Nat.le_trans (valsS_len l1 _ _) (by rw [List.length_drop]; simp only [List.length_nil]; omega)⟩
                                            clear htd
                                            have hw3 : IntKind.i64.wrap (251 + n) = 251 + n := by rw [IntKind.wrap_i64]; have := HCK.out; omega
                                            have hz_1 : (strOfNums [(251 + n) % 256]).size + (sb (bigB (U64 d) 2)).size ≤ 9223372036854775807 := by
                                              have := YLEN.out; have := XLEN.out; have := DLEN.out; have := HF.out
                                              have e1 : (⟨#[251]⟩ : ByteArray).size = 1 := rfl
                                              have e2 : (⟨#[247]⟩ : ByteArray).size = 1 := rfl
                                              have e3 : (⟨#[255]⟩ : ByteArray).size = 1 := rfl
                                              simp only [ByteArray.size_append, sb_size, strOfNums_size, bigB_length, List.length_cons, List.length_nil, e1, e2, e3]; omega
                                            have hy_1 : (strOfNums [(251 + n) % 256]).size + (sb (bigB (U64 d) 2)).size ≤ 9223372036854775807 := by
                                              have h := hz_1
                                              try simp only [ByteArray.size_append] at h
                                              exact h
                                            have hx_1 : (9223372036854775807 < (strOfNums [(251 + n) % 256]).size + (sb (bigB (U64 d) 2)).size) = False := eq_false (Nat.not_lt.2 hy_1)
                                            have hz_2 : (strOfNums [(251 + n) % 256] ++ sb (bigB (U64 d) 2)).size + (sb td.1).size ≤ 9223372036854775807 := by
                                              have := YLEN.out; have := XLEN.out; have := DLEN.out; have := HF.out
                                              have e1 : (⟨#[251]⟩ : ByteArray).size = 1 := rfl
                                              have e2 : (⟨#[247]⟩ : ByteArray).size = 1 := rfl
                                              have e3 : (⟨#[255]⟩ : ByteArray).size = 1 := rfl
                                              simp only [ByteArray.size_append, sb_size, strOfNums_size, bigB_length, List.length_cons, List.length_nil, e1, e2, e3]; omega
                                            have hy_2 : (strOfNums [(251 + n) % 256]).size + (sb (bigB (U64 d) 2)).size + (sb td.1).size ≤ 9223372036854775807 := by
                                              have h := hz_2
                                              try simp only [ByteArray.size_append] at h
                                              exact h
                                            have hx_2 : (9223372036854775807 < (strOfNums [(251 + n) % 256]).size + (sb (bigB (U64 d) 2)).size + (sb td.1).size) = False := eq_false (Nat.not_lt.2 hy_2)
                                            by_cases he_ : td.2 = 0
                                            · have be_ : (td.2 != 0) = false := bne_eq_false_iff_eq.2 he_
                                              have ER := Aside0.mk he_
                                              clear he_
                                              have HSO : Aside0 (oneS l1 f.f1 f.f2 zs d s = (s.1 ++ (bigB (U64 (251 + n)) 1 ++ bigB (U64 d) 2 ++ td.1), 0)) := ⟨by
                                                refine (oneS_chain l1 f.f1 f.f2 zs d n s b (min f.f1.length zs.length) rfl HBB.out HNN.out).trans ?_
                                                refine (if_neg HCN1.out).trans ?_
                                                refine (if_neg HCN2.out).trans ?_
                                                refine (if_neg HCN3.out).trans ?_
                                                refine (if_neg HCN4.out).trans ?_
                                                refine (if_neg HCN5.out).trans ?_
                                                refine (if_pos HCN6.out).trans ?_
                                                have hs2 := HN.out.2
                                                rw [valsS_at, hs2, if_pos rfl, Nat.min_eq_right (by have := HNN.out; have := HCK.out; omega), HTD.out, List.append_assoc, List.append_assoc, List.append_assoc]
                                                rw [ER.out]⟩
                                              go_wp2_with fail
                                              refine (TD.out _ _ HB25.out (KD.out)).mono ?_
                                              rintro e26 w26 ⟨rfl, hb26⟩
                                              have k0_26 := pw_cell_below hb26 k0_25
                                              have k1_26 := pw_cell_below hb26 k1_25
                                              have k2_26 := pw_cell_below hb26 k2_25
                                              have HB26 := Aside0.mk (below_then HB25.out HB25.out.size hb26)
                                              have HM26 := Aside0.mk (HM25.out.below hb26)
                                              clear hb26 k0_25 k1_25 k2_25
                                              have hbz := below_alloc (Below.refl w26.heap.size w26) (.cells #[.int .u8 ((251 + n) % 256)] 5)
                                              have k0_z := pw_cell_below hbz k0_26
                                              have k1_z := pw_cell_below hbz k1_26
                                              have HBZ := Aside0.mk (below_then HB26.out HB26.out.size hbz)
                                              have HMZ := Aside0.mk (HM26.out.below hbz)
                                              clear hbz
                                              have HXS : Aside0 (bs (strOfNums [(251 + n) % 256] ++ sb (bigB (U64 d) 2) ++ sb td.1) = bigB (U64 (251 + n)) 1 ++ bigB (U64 d) 2 ++ td.1) := ⟨by rw [bs_app, bs_app, bs_one, bs_sb (bigB_lt _ _), bs_sb DLT.out]⟩
                                              have HXZ : Aside0 (s.1.length + (strOfNums [(251 + n) % 256] ++ sb (bigB (U64 d) 2) ++ sb td.1).size ≤ 140737488355328) := ⟨by
                                                have h1 := oneS_len l1 f.f1 f.f2 zs d s
                                                rw [HSO.out] at h1
                                                have h2 : (strOfNums [(251 + n) % 256] ++ sb (bigB (U64 d) 2) ++ sb td.1).size = (bigB (U64 (251 + n)) 1 ++ bigB (U64 d) 2 ++ td.1).length := by rw [← HXS.out, bs_length]
                                                have := HN.out.1; have := HLT.out; have := HL2.out; have := HF.out
                                                simp only [List.length_append] at h1 h2 ⊢
                                                omega⟩
                                              go_wp2_with (at_builtin; refine app_ms rfl _ _ 87 9 rfl 5 Try.underlying87 Try.underlying9 Try.infoB w.heap.size w.heap.size (w0 := w) (by first | exact HBZ.out | exact HB26.out | exact pw_below_drewN HB26.out _) (v := _) (n := s.1.length) (xs := u8s s.1) (by first | exact HMZ.out | exact HM26.out) rfl (strOfNums [(251 + n) % 256] ++ sb (bigB (U64 d) 2) ++ sb td.1) rfl HXZ.out (by first | exact HBZ.out.size | exact HB26.out.size) (Nat.le_refl _) ?_; intro v9 w9 hown9 hbel9 hg9 hsep9; have c0_9 := grown_cell' hg9 (by first | exact k0_z | exact k0_26) (fun e => by have := (HQN.out _ e).2; simp at this); have c1_9 := grown_cell' hg9 (by first | exact k1_z | exact k1_26) (fun e => by have := (HQN.out _ e).2; simp at this))
                                              have HB9 := Aside0.mk hbel9
                                              have HM9 := Aside0.mk (mrow_S hown9 HXS.out)
                                              have HS4 : Aside0 (writeL l1 (l0.drop (k + 1)) (k + 1) f.f0 f.f1 (s.1 ++ (bigB (U64 (251 + n)) 1 ++ bigB (U64 d) 2 ++ td.1), 0) = (r1, r2, r3)) := ⟨by
                                                have h := HS3.out
                                                rw [HSO.out] at h
                                                exact (if_pos rfl).symm.trans h⟩
                                              have HL9 : Aside0 ((s.1 ++ (bigB (U64 (251 + n)) 1 ++ bigB (U64 d) 2 ++ td.1)).length ≤ 2 + 400000 * (k + 1)) := ⟨by
                                                have h1 := oneS_len l1 f.f1 f.f2 zs d s
                                                rw [HSO.out] at h1
                                                have := HN.out.1; have := HF.out
                                                dsimp only at h1 ⊢
                                                omega⟩
                                              clear hown9 hbel9 hg9 hsep9
                                              try go_wp2
                                              go_roundw
                                              case rel => exact ⟨k + 1, (s.1 ++ (bigB (U64 (251 + n)) 1 ++ bigB (U64 d) 2 ++ td.1), 0), f.f0, A1_, c1_, f.f1, by have := HLT.out; omega, by go_num, rfl, rfl, ⟨by have := HF.out; have := HPL.out; omega⟩, HM9, HB9, ⟨HX.out.1, HX.out.2, by have := HF.out.2.2.1; omega⟩, ⟨HL9.out, rfl⟩, HS4⟩
                                              case measure => have := HLT.out; simp [intOf]; omega
                                            · have be_ : (td.2 != 0) = true := bne_iff_ne.2 he_
                                              have ER := Aside0.mk he_
                                              clear he_
                                              have HSO : Aside0 (oneS l1 f.f1 f.f2 zs d s = (s.1 ++ (bigB (U64 (251 + n)) 1 ++ bigB (U64 d) 2 ++ td.1), td.2)) := ⟨by
                                                refine (oneS_chain l1 f.f1 f.f2 zs d n s b (min f.f1.length zs.length) rfl HBB.out HNN.out).trans ?_
                                                refine (if_neg HCN1.out).trans ?_
                                                refine (if_neg HCN2.out).trans ?_
                                                refine (if_neg HCN3.out).trans ?_
                                                refine (if_neg HCN4.out).trans ?_
                                                refine (if_neg HCN5.out).trans ?_
                                                refine (if_pos HCN6.out).trans ?_
                                                have hs2 := HN.out.2
                                                rw [valsS_at, hs2, if_pos rfl, Nat.min_eq_right (by have := HNN.out; have := HCK.out; omega), HTD.out, List.append_assoc, List.append_assoc, List.append_assoc]⟩
                                              go_wp2_with fail
                                              refine (TD.out _ _ HB25.out (KD.out)).mono ?_
                                              rintro e26 w26 ⟨rfl, hb26⟩
                                              have k0_26 := pw_cell_below hb26 k0_25
                                              have k1_26 := pw_cell_below hb26 k1_25
                                              have k2_26 := pw_cell_below hb26 k2_25
                                              have HB26 := Aside0.mk (below_then HB25.out HB25.out.size hb26)
                                              have HM26 := Aside0.mk (HM25.out.below hb26)
                                              clear hb26 k0_25 k1_25 k2_25
                                              go_wp2
                                              go_ret3
                                              have HE := HS3.out
                                              rw [HSO.out] at HE
                                              replace HE := (if_neg ER.out).symm.trans HE
                                              injection HE with e1 e2
                                              injection e2 with e2 e3
                                              subst e1 e2 e3
                                              exact ⟨rfl, by first | exact HBZ.out | exact HB26.out | exact below_then HB26.out HB26.out.size (below_alloc (Below.refl _ _) _)⟩
                                        · have HCN6 := Aside0.mk hC
                                          rw [decide_eq_false hC]
                                          clear hC
                                          as_aux_lemma =>
                                            have hl1_ : f.f1.length ≤ 140737488355328 := by have := HF.out; omega
                                            have hl2_ : f.f2.length ≤ 140737488355328 := by have := HF.out; omega
                                            have hz_1 : ((⟨#[255]⟩ : ByteArray)).size + (sb (bigB (U64 d) 2)).size ≤ 9223372036854775807 := by
                                              have := YLEN.out; have := XLEN.out; have := HF.out
                                              have e1 : (⟨#[251]⟩ : ByteArray).size = 1 := rfl
                                              have e2 : (⟨#[247]⟩ : ByteArray).size = 1 := rfl
                                              have e3 : (⟨#[255]⟩ : ByteArray).size = 1 := rfl
                                              simp only [ByteArray.size_append, sb_size, strOfNums_size, bigB_length, List.length_cons, List.length_nil, e1, e2, e3]; omega
                                            have hy_1 : 1 + (sb (bigB (U64 d) 2)).size ≤ 9223372036854775807 := by
                                              have h := hz_1
                                              try simp only [ByteArray.size_append] at h
                                              exact h
                                            have hx_1 : (9223372036854775807 < 1 + (sb (bigB (U64 d) 2)).size) = False := eq_false (Nat.not_lt.2 hy_1)
                                            have hz_2 : ((⟨#[255]⟩ : ByteArray) ++ sb (bigB (U64 d) 2)).size + (sb (bigB (U64 (f.f1.length : Int)) 2)).size ≤ 9223372036854775807 := by
                                              have := YLEN.out; have := XLEN.out; have := HF.out
                                              have e1 : (⟨#[251]⟩ : ByteArray).size = 1 := rfl
                                              have e2 : (⟨#[247]⟩ : ByteArray).size = 1 := rfl
                                              have e3 : (⟨#[255]⟩ : ByteArray).size = 1 := rfl
                                              simp only [ByteArray.size_append, sb_size, strOfNums_size, bigB_length, List.length_cons, List.length_nil, e1, e2, e3]; omega
                                            have hy_2 : 1 + (sb (bigB (U64 d) 2)).size + (sb (bigB (U64 (f.f1.length : Int)) 2)).size ≤ 9223372036854775807 := by
                                              have h := hz_2
                                              try simp only [ByteArray.size_append] at h
                                              exact h
                                            have hx_2 : (9223372036854775807 < 1 + (sb (bigB (U64 d) 2)).size + (sb (bigB (U64 (f.f1.length : Int)) 2)).size) = False := eq_false (Nat.not_lt.2 hy_2)
                                            have hz_3 : ((⟨#[255]⟩ : ByteArray) ++ sb (bigB (U64 d) 2) ++ sb (bigB (U64 (f.f1.length : Int)) 2)).size + (sb tx.1).size ≤ 9223372036854775807 := by
                                              have := YLEN.out; have := XLEN.out; have := HF.out
                                              have e1 : (⟨#[251]⟩ : ByteArray).size = 1 := rfl
                                              have e2 : (⟨#[247]⟩ : ByteArray).size = 1 := rfl
                                              have e3 : (⟨#[255]⟩ : ByteArray).size = 1 := rfl
                                              simp only [ByteArray.size_append, sb_size, strOfNums_size, bigB_length, List.length_cons, List.length_nil, e1, e2, e3]; omega
                                            have hy_3 : 1 + (sb (bigB (U64 d) 2)).size + (sb (bigB (U64 (f.f1.length : Int)) 2)).size + (sb tx.1).size ≤ 9223372036854775807 := by
                                              have h := hz_3
                                              try simp only [ByteArray.size_append] at h
                                              exact h
                                            have hx_3 : (9223372036854775807 < 1 + (sb (bigB (U64 d) 2)).size + (sb (bigB (U64 (f.f1.length : Int)) 2)).size + (sb tx.1).size) = False := eq_false (Nat.not_lt.2 hy_3)
                                            have hz_4 : ((⟨#[255]⟩ : ByteArray) ++ sb (bigB (U64 d) 2) ++ sb (bigB (U64 (f.f1.length : Int)) 2) ++ sb tx.1).size + (sb (bigB (U64 (f.f2.length : Int)) 2)).size ≤ 9223372036854775807 := by
                                              have := YLEN.out; have := XLEN.out; have := HF.out
                                              have e1 : (⟨#[251]⟩ : ByteArray).size = 1 := rfl
                                              have e2 : (⟨#[247]⟩ : ByteArray).size = 1 := rfl
                                              have e3 : (⟨#[255]⟩ : ByteArray).size = 1 := rfl
                                              simp only [ByteArray.size_append, sb_size, strOfNums_size, bigB_length, List.length_cons, List.length_nil, e1, e2, e3]; omega
                                            have hy_4 : 1 + (sb (bigB (U64 d) 2)).size + (sb (bigB (U64 (f.f1.length : Int)) 2)).size + (sb tx.1).size + (sb (bigB (U64 (f.f2.length : Int)) 2)).size ≤ 9223372036854775807 := by
                                              have h := hz_4
                                              try simp only [ByteArray.size_append] at h
                                              exact h
                                            have hx_4 : (9223372036854775807 < 1 + (sb (bigB (U64 d) 2)).size + (sb (bigB (U64 (f.f1.length : Int)) 2)).size + (sb tx.1).size + (sb (bigB (U64 (f.f2.length : Int)) 2)).size) = False := eq_false (Nat.not_lt.2 hy_4)
                                            have hz_5 : ((⟨#[255]⟩ : ByteArray) ++ sb (bigB (U64 d) 2) ++ sb (bigB (U64 (f.f1.length : Int)) 2) ++ sb tx.1 ++ sb (bigB (U64 (f.f2.length : Int)) 2)).size + (sb ty.1).size ≤ 9223372036854775807 := by
                                              have := YLEN.out; have := XLEN.out; have := HF.out
                                              have e1 : (⟨#[251]⟩ : ByteArray).size = 1 := rfl
                                              have e2 : (⟨#[247]⟩ : ByteArray).size = 1 := rfl
                                              have e3 : (⟨#[255]⟩ : ByteArray).size = 1 := rfl
                                              simp only [ByteArray.size_append, sb_size, strOfNums_size, bigB_length, List.length_cons, List.length_nil, e1, e2, e3]; omega
                                            have hy_5 : 1 + (sb (bigB (U64 d) 2)).size + (sb (bigB (U64 (f.f1.length : Int)) 2)).size + (sb tx.1).size + (sb (bigB (U64 (f.f2.length : Int)) 2)).size + (sb ty.1).size ≤ 9223372036854775807 := by
                                              have h := hz_5
                                              try simp only [ByteArray.size_append] at h
                                              exact h
                                            have hx_5 : (9223372036854775807 < 1 + (sb (bigB (U64 d) 2)).size + (sb (bigB (U64 (f.f1.length : Int)) 2)).size + (sb tx.1).size + (sb (bigB (U64 (f.f2.length : Int)) 2)).size + (sb ty.1).size) = False := eq_false (Nat.not_lt.2 hy_5)
                                            by_cases he_ : tx.2 = 0
                                            · have be_ : (tx.2 != 0) = false := bne_eq_false_iff_eq.2 he_
                                              have ER := Aside0.mk he_
                                              clear he_
                                              have EX := ER
                                              clear ER
                                              go_wp2_with fail
                                              refine (TX.out _ HB25.out).mono ?_
                                              rintro e26 w26 ⟨rfl, hb26⟩
                                              have k0_26 := pw_cell_below hb26 k0_25
                                              have k1_26 := pw_cell_below hb26 k1_25
                                              have k2_26 := pw_cell_below hb26 k2_25
                                              have HB26 := Aside0.mk (below_then HB25.out HB25.out.size hb26)
                                              have HM26 := Aside0.mk (HM25.out.below hb26)
                                              clear hb26 k0_25 k1_25 k2_25
                                              go_wp2_with fail
                                              go_region_held3 (fun w' => w'.cell? ⟨wr.heap.size, 1, none⟩ = some (.slice A1_ f.f1.length c1_) ∧ w'.cell? ⟨wr.heap.size, 2, none⟩ = some (.slice A2_ f.f2.length c2_)) (first | exact ⟨k1_26, k2_26⟩ | exact And.imp (pw_cell_below hby) (pw_cell_below hby) (by assumption) | exact And.imp (pw_cell_below hbx) (pw_cell_below hbx) (by assumption) | exact And.imp (pw_cell_below (below_drew0 (by assumption))) (pw_cell_below (below_drew0 (by assumption))) (by assumption) | exact ⟨pw_cell_below (below_drew0 (by assumption)) k1_26, pw_cell_below (below_drew0 (by assumption)) k2_26⟩) ((go_at_call 57; first | (with_reducible refine (rbig_any (f.f1.length : Int) _).mono ?_; rintro e_ wx ⟨rfl, hbx⟩) | (with_reducible refine (rbig_any (f.f2.length : Int) _).mono ?_; rintro e_ wy ⟨rfl, hby⟩)))
                                              all_goals (
                                                first | have hbz := bch2 hbx hby | have hbz := bch2 hby hbx | have hbz := below_then (below_drew0 hbx) (below_drew0 hbx).size hby | have hbz := below_then (below_drew0 hby) (below_drew0 hby).size hbx
                                                have k0_z := pw_cell_below hbz k0_26
                                                have k1_z := pw_cell_below hbz k1_26
                                                have HBZ := Aside0.mk (below_then HB26.out HB26.out.size hbz)
                                                have HMZ := Aside0.mk (HM26.out.below hbz)
                                                clear hbz hbx hby
                                                by_cases hey_ : ty.2 = 0
                                                · have bey_ : (ty.2 != 0) = false := bne_eq_false_iff_eq.2 hey_
                                                  have ER := Aside0.mk hey_
                                                  clear hey_
                                                  have HSO : Aside0 (oneS l1 f.f1 f.f2 zs d s = (s.1 ++ (bigB (U64 255) 1 ++ bigB (U64 d) 2 ++ bigB (U64 (f.f1.length : Int)) 2 ++ tx.1 ++ bigB (U64 (f.f2.length : Int)) 2 ++ ty.1), 0)) := ⟨by
                                                    refine (oneS_chain l1 f.f1 f.f2 zs d n s b (min f.f1.length zs.length) rfl HBB.out HNN.out).trans ?_
                                                    refine (if_neg HCN1.out).trans ?_
                                                    refine (if_neg HCN2.out).trans ?_
                                                    refine (if_neg HCN3.out).trans ?_
                                                    refine (if_neg HCN4.out).trans ?_
                                                    refine (if_neg HCN5.out).trans ?_
                                                    refine (if_neg HCN6.out).trans ?_
                                                    have hs2 := HN.out.2
                                                    rw [hs2, valsS_at l1 f.f1, HTX.out, if_pos rfl]
                                                    dsimp only
                                                    rw [valsS_at l1 f.f2, HTY.out]
                                                    rw [if_pos EX.out, ER.out]
                                                    simp only [List.append_assoc]⟩
                                                  have HXS : Aside0 (bs ((⟨#[255]⟩ : ByteArray) ++ sb (bigB (U64 d) 2) ++ sb (bigB (U64 (f.f1.length : Int)) 2) ++ sb tx.1 ++ sb (bigB (U64 (f.f2.length : Int)) 2) ++ sb ty.1) = bigB (U64 255) 1 ++ bigB (U64 d) 2 ++ bigB (U64 (f.f1.length : Int)) 2 ++ tx.1 ++ bigB (U64 (f.f2.length : Int)) 2 ++ ty.1) := ⟨by rw [bs_app, bs_app, bs_app, bs_app, bs_app, bs_sb (bigB_lt _ _), bs_sb (bigB_lt _ _), bs_sb (bigB_lt _ _), bs_sb XLT.out, bs_sb YLT.out]; rfl⟩
                                                  have HXZ : Aside0 (s.1.length + ((⟨#[255]⟩ : ByteArray) ++ sb (bigB (U64 d) 2) ++ sb (bigB (U64 (f.f1.length : Int)) 2) ++ sb tx.1 ++ sb (bigB (U64 (f.f2.length : Int)) 2) ++ sb ty.1).size ≤ 140737488355328) := ⟨by
                                                    have h1 := oneS_len l1 f.f1 f.f2 zs d s
                                                    rw [HSO.out] at h1
                                                    have h2 : ((⟨#[255]⟩ : ByteArray) ++ sb (bigB (U64 d) 2) ++ sb (bigB (U64 (f.f1.length : Int)) 2) ++ sb tx.1 ++ sb (bigB (U64 (f.f2.length : Int)) 2) ++ sb ty.1).size = (bigB (U64 255) 1 ++ bigB (U64 d) 2 ++ bigB (U64 (f.f1.length : Int)) 2 ++ tx.1 ++ bigB (U64 (f.f2.length : Int)) 2 ++ ty.1).length := by rw [← HXS.out, bs_length]
                                                    have := HN.out.1; have := HLT.out; have := HL2.out; have := HF.out
                                                    simp only [List.length_append] at h1 h2 ⊢
                                                    omega⟩
                                                  go_wp2_with (at_builtin; refine app_ms rfl _ _ 87 9 rfl 5 Try.underlying87 Try.underlying9 Try.infoB w.heap.size w.heap.size (w0 := w) (by first | exact HBZ.out | exact HB26.out | exact pw_below_drewN HB26.out _) (v := _) (n := s.1.length) (xs := u8s s.1) (by first | exact HMZ.out | exact HM26.out) rfl ((⟨#[255]⟩ : ByteArray) ++ sb (bigB (U64 d) 2) ++ sb (bigB (U64 (f.f1.length : Int)) 2) ++ sb tx.1 ++ sb (bigB (U64 (f.f2.length : Int)) 2) ++ sb ty.1) rfl HXZ.out (by first | exact HBZ.out.size | exact HB26.out.size) (Nat.le_refl _) ?_; intro v9 w9 hown9 hbel9 hg9 hsep9; have c0_9 := grown_cell' hg9 (by first | exact k0_z | exact k0_26) (fun e => by have := (HQN.out _ e).2; simp at this); have c1_9 := grown_cell' hg9 (by first | exact k1_z | exact k1_26) (fun e => by have := (HQN.out _ e).2; simp at this))
                                                  have HB9 := Aside0.mk hbel9
                                                  have HM9 := Aside0.mk (mrow_S hown9 HXS.out)
                                                  have HS4 : Aside0 (writeL l1 (l0.drop (k + 1)) (k + 1) f.f0 f.f1 (s.1 ++ (bigB (U64 255) 1 ++ bigB (U64 d) 2 ++ bigB (U64 (f.f1.length : Int)) 2 ++ tx.1 ++ bigB (U64 (f.f2.length : Int)) 2 ++ ty.1), 0) = (r1, r2, r3)) := ⟨by
                                                    have h := HS3.out
                                                    rw [HSO.out] at h
                                                    exact (if_pos rfl).symm.trans h⟩
                                                  have HL9 : Aside0 ((s.1 ++ (bigB (U64 255) 1 ++ bigB (U64 d) 2 ++ bigB (U64 (f.f1.length : Int)) 2 ++ tx.1 ++ bigB (U64 (f.f2.length : Int)) 2 ++ ty.1)).length ≤ 2 + 400000 * (k + 1)) := ⟨by
                                                    have h1 := oneS_len l1 f.f1 f.f2 zs d s
                                                    rw [HSO.out] at h1
                                                    have := HN.out.1; have := HF.out
                                                    dsimp only at h1 ⊢
                                                    omega⟩
                                                  clear hown9 hbel9 hg9 hsep9
                                                  try go_wp2
                                                  go_roundw
                                                  case rel => exact ⟨k + 1, (s.1 ++ (bigB (U64 255) 1 ++ bigB (U64 d) 2 ++ bigB (U64 (f.f1.length : Int)) 2 ++ tx.1 ++ bigB (U64 (f.f2.length : Int)) 2 ++ ty.1), 0), f.f0, A1_, c1_, f.f1, by have := HLT.out; omega, by go_num, rfl, rfl, ⟨by have := HF.out; have := HPL.out; omega⟩, HM9, HB9, ⟨HX.out.1, HX.out.2, by have := HF.out.2.2.1; omega⟩, ⟨HL9.out, rfl⟩, HS4⟩
                                                  case measure => have := HLT.out; simp [intOf]; omega
                                                · have bey_ : (ty.2 != 0) = true := bne_iff_ne.2 hey_
                                                  have ER := Aside0.mk hey_
                                                  clear hey_
                                                  have HSO : Aside0 (oneS l1 f.f1 f.f2 zs d s = (s.1 ++ (bigB (U64 255) 1 ++ bigB (U64 d) 2 ++ bigB (U64 (f.f1.length : Int)) 2 ++ tx.1 ++ bigB (U64 (f.f2.length : Int)) 2 ++ ty.1), ty.2)) := ⟨by
                                                    refine (oneS_chain l1 f.f1 f.f2 zs d n s b (min f.f1.length zs.length) rfl HBB.out HNN.out).trans ?_
                                                    refine (if_neg HCN1.out).trans ?_
                                                    refine (if_neg HCN2.out).trans ?_
                                                    refine (if_neg HCN3.out).trans ?_
                                                    refine (if_neg HCN4.out).trans ?_
                                                    refine (if_neg HCN5.out).trans ?_
                                                    refine (if_neg HCN6.out).trans ?_
                                                    have hs2 := HN.out.2
                                                    rw [hs2, valsS_at l1 f.f1, HTX.out, if_pos rfl]
                                                    dsimp only
                                                    rw [valsS_at l1 f.f2, HTY.out]
                                                    rw [if_pos EX.out]
                                                    simp only [List.append_assoc]⟩
                                                  go_wp2
                                                  go_ret3
                                                  have HE := HS3.out
                                                  rw [HSO.out] at HE
                                                  replace HE := (if_neg ER.out).symm.trans HE
                                                  injection HE with e1 e2
                                                  injection e2 with e2 e3
                                                  subst e1 e2 e3
                                                  exact ⟨rfl, by first | exact HBZ.out | exact HB26.out | exact below_then HB26.out HB26.out.size (below_alloc (Below.refl _ _) _)⟩)
                                            · have be_ : (tx.2 != 0) = true := bne_iff_ne.2 he_
                                              have ER := Aside0.mk he_
                                              clear he_
                                              have HSO : Aside0 (oneS l1 f.f1 f.f2 zs d s = (s.1 ++ (bigB (U64 255) 1 ++ bigB (U64 d) 2 ++ bigB (U64 (f.f1.length : Int)) 2 ++ tx.1 ++ bigB (U64 (f.f2.length : Int)) 2 ++ ty.1), tx.2)) := ⟨by
                                                refine (oneS_chain l1 f.f1 f.f2 zs d n s b (min f.f1.length zs.length) rfl HBB.out HNN.out).trans ?_
                                                refine (if_neg HCN1.out).trans ?_
                                                refine (if_neg HCN2.out).trans ?_
                                                refine (if_neg HCN3.out).trans ?_
                                                refine (if_neg HCN4.out).trans ?_
                                                refine (if_neg HCN5.out).trans ?_
                                                refine (if_neg HCN6.out).trans ?_
                                                have hs2 := HN.out.2
                                                rw [hs2, valsS_at l1 f.f1, HTX.out, if_pos rfl]
                                                dsimp only
                                                rw [valsS_at l1 f.f2, HTY.out]
                                                rw [if_neg ER.out]
                                                simp only [List.append_assoc]⟩
                                              go_wp2_with fail
                                              refine (TX.out _ HB25.out).mono ?_
                                              rintro e26 w26 ⟨rfl, hb26⟩
                                              have k0_26 := pw_cell_below hb26 k0_25
                                              have k1_26 := pw_cell_below hb26 k1_25
                                              have k2_26 := pw_cell_below hb26 k2_25
                                              have HB26 := Aside0.mk (below_then HB25.out HB25.out.size hb26)
                                              have HM26 := Aside0.mk (HM25.out.below hb26)
                                              clear hb26 k0_25 k1_25 k2_25
                                              go_wp2_with fail
                                              go_region_held3 (fun w' => w'.cell? ⟨wr.heap.size, 1, none⟩ = some (.slice A1_ f.f1.length c1_) ∧ w'.cell? ⟨wr.heap.size, 2, none⟩ = some (.slice A2_ f.f2.length c2_)) (first | exact ⟨k1_26, k2_26⟩ | exact And.imp (pw_cell_below hby) (pw_cell_below hby) (by assumption) | exact And.imp (pw_cell_below hbx) (pw_cell_below hbx) (by assumption) | exact And.imp (pw_cell_below (below_drew0 (by assumption))) (pw_cell_below (below_drew0 (by assumption))) (by assumption) | exact ⟨pw_cell_below (below_drew0 (by assumption)) k1_26, pw_cell_below (below_drew0 (by assumption)) k2_26⟩) ((go_at_call 57; first | (with_reducible refine (rbig_any (f.f1.length : Int) _).mono ?_; rintro e_ wx ⟨rfl, hbx⟩) | (with_reducible refine (rbig_any (f.f2.length : Int) _).mono ?_; rintro e_ wy ⟨rfl, hby⟩)))
                                              all_goals (
                                                first | have hbz := bch2 hbx hby | have hbz := bch2 hby hbx | have hbz := below_then (below_drew0 hbx) (below_drew0 hbx).size hby | have hbz := below_then (below_drew0 hby) (below_drew0 hby).size hbx
                                                have k0_z := pw_cell_below hbz k0_26
                                                have k1_z := pw_cell_below hbz k1_26
                                                have HBZ := Aside0.mk (below_then HB26.out HB26.out.size hbz)
                                                have HMZ := Aside0.mk (HM26.out.below hbz)
                                                clear hbz hbx hby
                                                go_wp2
                                                go_ret3
                                                have HE := HS3.out
                                                rw [HSO.out] at HE
                                                replace HE := (if_neg ER.out).symm.trans HE
                                                injection HE with e1 e2
                                                injection e2 with e2 e3
                                                subst e1 e2 e3
                                                exact ⟨rfl, by first | exact HBZ.out | exact HB26.out | exact below_then HB26.out HB26.out.size (below_alloc (Below.refl _ _) _)⟩)
        · obtain rfl : k = l0.length := by omega
          have HE := HR.out
          rw [List.drop_length] at HE
          unfold writeL at HE
          injection HE with e1 e2
          injection e2 with e2 e3
          subst e1 e2 e3
          have hs := mrow_str (P := Try.prog) Try.underlying87 Try.underlying5 Try.underlying9 HM.out
          go_wp2
          go_ret3
          exact ⟨rfl, HB.out⟩
  · rw [if_neg hp] at h
    exact absurd h (by simp)
end Go.Proofs.Ytfnjbmpolggdeaa.MR
