/-
  Texts that the proof in the last of these files needs: Any instructions as bytes, or the first that may not stand there: the code's answer is the document's, and they stay as they are; no condition.
-/
import Derived.Maps.OwnSet
import Derived.Test.YtfnjbmpolggdeaaQW2
section
namespace Go.Proofs.Ytfnjbmpolggdeaa.CW
open Go.RowKit Go.Lib Go.Proofs.YtfnjbmpolggdeaaW.PrintWords Go.Proofs.YtfnjbmpolggdeaaW.PrintLast Go.Proofs.YtfnjbmpolggdeaaW.PrintMore
set_option linter.unusedVariables false
set_option linter.unusedSimpArgs false
set_option maxHeartbeats 8000000 in
set_option maxRecDepth 100000 in
theorem choice_10 (w0 w : World) (g : Nat) (v : Value) (s : List Nat × Bool) (x0 x1 : Int) (x2 : Bool) (x3 x4 x5 : Int) (A6 : Option Addr) (c6 : Nat) (x6 : List Int) (A7 : Option Addr) (c7 : Nat) (x7 : List Int) (hr6 : Kd.C (Kd.int .i64) w0 A6 x6.length x6) (hc6 : x6.length ≤ c6) (hr7 : Kd.C (Kd.int .i64) w0 A7 x7.length x7) (hc7 : x7.length ≤ c7) (hW : BW w0.heap.size w g 114 (ewC s.2) v s.1) (hB : Below w0.heap.size w0 w) (hl : s.1.length + 103 + 8 * x7.length ≤ 140737488355328) :
    Calls Try.prog 119 #[.pointer (some ⟨g, 0, none⟩), .agg #[.int .i64 x0, .int .u8 x1, .bool x2, .int .i64 x3, .int .i64 x4, .int .i64 x5, .slice A6 x6.length c6, .slice A7 x7.length c7], .int .i64 10] w (EncPost w0 w g v (choS x0 x5 x6 x7 10 s)) := by
  have HW := Lib.hid hW
  have HB := Lib.hid hB
  have HL := Lib.hid hl
  have H6 := Lib.hid hr6
  have H7 := Lib.hid hr7
  have HC6 := Lib.hid hc6
  have HC7 := Lib.hid hc7
  clear hW hB hl hr6 hr7 hc6 hc7
  have H0 := Lib.hid (St.start (c := #[.int .i64 x0, .int .u8 x1, .bool x2, .int .i64 x3, .int .i64 x4, .int .i64 x5, .slice A6 x6.length c6, .slice A7 x7.length c7]) HW.out HB.out)
  have HG := Lib.hid (show w.heap.size ≠ g by have := HW.out.lt; omega)
  obtain ⟨b0_0, b1_0, b2_0, b3_0, b4_0, b5_0, b6_0, b7_0⟩ := box8 H0.out.2.2.2
  have c0_0 := H0.out.c0
  have c1_0 := H0.out.c1
  have f0_0 := H0.out.f0
  have f1_0 := H0.out.f1
  go_enter Try.func119, Try.ntmps119
  go_wp2_with fail
  generalize w.alloc (.cells #[.int .i64 x0, .int .u8 x1, .bool x2, .int .i64 x3, .int .i64 x4, .int .i64 x5, .slice A6 x6.length c6, .slice A7 x7.length c7] 82) = W0 at *
  go_loopw [9] (fun q wr => ∃ (m : Nat) (V : Value), m ≤ padN s.1.length ∧ Aside0 (St w0 w g v w.heap.size (.cells #[.int .i64 x0, .int .u8 x1, .bool x2, .int .i64 x3, .int .i64 x4, .int .i64 x5, .slice A6 x6.length c6, .slice A7 x7.length c7] 82 (0, 0)) (s.1 ++ List.replicate m 0, s.2) wr V)) (fun _ wr => padM g wr)
  case atStart => exact ⟨0, v, Nat.zero_le _, ⟨by simpa using H0.out⟩⟩
  case round =>
    clear b0_0 b1_0 b2_0 b3_0 b4_0 b5_0 b6_0 b7_0 c0_0 c1_0 f0_0 f1_0
    obtain ⟨m, V, hm, HS⟩ := hrel
    have hn : (s.1 ++ List.replicate m 0).length = s.1.length + m := by simp
    obtain ⟨A, c, rfl⟩ := HS.out.sl (s.1.length + m) hn
    have H1 := Lib.hid HS.out
    obtain ⟨b0_1, b1_1, b2_1, b3_1, b4_1, b5_1, b6_1, b7_1⟩ := box8 H1.out.2.2.2
    have c0_1 := H1.out.c0
    have c1_1 := H1.out.c1
    have f0_1 := H1.out.f0
    have f1_1 := H1.out.f1
    have HP := Lib.hid (show padM g wr = padN (s.1.length + m) from padM_at c0_1)
    have HMM := Lib.hid hm
    have hr : Int.tmod (((s.1.length + m : Nat) : Int)) 4 = (((s.1.length + m) % 4 : Nat) : Int) := (Int.ofNat_tmod (s.1.length + m) 4).symm
    by_cases hlt : m < padN s.1.length
    · have b0 : (((s.1.length : Int) + (m : Int)) % 4 != 0) = true := by rw [bne_iff_ne]; unfold padN at hlt; omega
      have HLT := Lib.hid hlt
      clear hlt hm HS
      as_aux_lemma =>
        go_wp2_with (at_builtin; refine app_e rfl _ _ 87 rfl Try.underlying87 w0.heap.size H1.out.1.2.2 rfl 0 1 (by first | rfl | (go_simp; done) | (simp [World.alloc]; done)) (by show (s.1 ++ List.replicate m 0).length + 1 ≤ _; have := HL.out; have := HMM.out; unfold padN at this; omega) H1.out.2.1.size ?_ rfl; intro v2 w2 hm2 hg2 hat2; obtain ⟨A2, m2, c2, rfl⟩ := mrow_sl hm2; have k0 := ew_cell hg2 H1.out.1; have k1 := ew_frozen hg2 H1.out.1)
        have H2 := Lib.hid (H1.out.byte HG.out (b := 0) rfl hm2 hg2 hat2)
        clear hm2 hg2 hat2 k0 k1 H1
        generalize w2.setCell ⟨g, 0, none⟩ _ = W2 at *
        go_roundw
        case rel => exact ⟨m + 1, _, by have := HLT.out; omega, ⟨by have := H2.out; rw [List.replicate_succ', ← List.append_assoc]; exact this⟩⟩
        case measure =>
          obtain ⟨A3, c3, e3⟩ := H2.out.sl (s.1.length + (m + 1)) (by simp)
          have := H2.out.c0
          rw [e3] at this
          rw [padM_at this, HP.out]
          have := HLT.out
          unfold padN at *
          omega
    · obtain rfl : m = padN s.1.length := by omega
      have b0 : (((s.1.length : Int) + ((padN s.1.length : Nat) : Int)) % 4 != 0) = false := by rw [bne_eq_false_iff_eq]; unfold padN; omega
      clear hlt hm HS HP hr hn
      have HPB : s.1 ++ List.replicate (padN s.1.length) 0 = padB s.1 := rfl
      rw [HPB] at H1
      have HLB := Lib.hid (show (padB s.1).length + 100 + 8 * x7.length ≤ 140737488355328 by have := pad_len s.1; have := HL.out; omega)
      have hw1 : IntKind.i64.wrap ((x7.length : Int) - 1) = (x7.length : Int) - 1 := by rw [IntKind.wrap_i64]; have := HL.out; omega
      by_cases h0 : x7.length = 0
      · have d0 : decide ((x7.length : Int) - 1 < 0) = true := decide_eq_true (by omega)
        as_aux_lemma =>
          have HC : Aside0 (choS x0 x5 x6 x7 10 s = (padB s.1, false)) := ⟨if_pos (.inl h0)⟩
          go_wp2
          go_end0
          rw [HC.out]
          exact (H1.out.setok HG.out false).post
      · have d0 : decide ((x7.length : Int) - 1 < 0) = false := decide_eq_false (by omega)
        by_cases h1 : x7.length = 1
        · have d1 : ((x7.length : Int) - 1 == 0) = true := beq_iff_eq.2 (by omega)
          as_aux_lemma =>
            have HC : Aside0 (choS x0 x5 x6 x7 10 s = (padB s.1, false)) := ⟨if_pos (.inr (.inl ⟨rfl, h1⟩))⟩
            go_wp2
            go_end0
            rw [HC.out]
            exact (H1.out.setok HG.out false).post
        · have d1 : ((x7.length : Int) - 1 == 0) = false := beq_eq_false_iff_ne.2 (by omega)
          have HC : Aside0 (choS x0 x5 x6 x7 10 s = rowsS x0 x6 x7 10 (x7.length - 1) (headS x0 x5 x7 10 s)) := ⟨if_neg (by rintro (h | ⟨_, h⟩ | ⟨_, h⟩) <;> first | exact h0 h | exact h1 h | omega)⟩
          have HX := Lib.hid (show x7.length ≠ 0  by omega)
          obtain ⟨ad, e7, y0⟩ := Kd.at_int H7.out 0 (by omega) (by omega)
          subst e7
          have e0 : ad.add 0 = ad := by cases ad; unfold Addr.add; split <;> simp_all
          have y1 := pw_cell_below H1.out.2.1 y0
          have y2 := pw_cell_below (drewB _) y1
          simp only [Int.toNat_zero, e0] at y0 y1 y2
          have z0 : (0 : Int) < (x7.length : Int) := by omega
          have z1 : 0 < x7.length := by omega
          clear h0 h1 e0
          go_wp2_with fail
          go_region_held3 (fun w' => w'.cell? ⟨w.heap.size, 7, none⟩ = some (.slice (some ad) x7.length c7) ∧ w'.cell? ⟨w.heap.size, 0, none⟩ = some (.int .i64 x0) ∧ w'.cell? ad = some (.int .i64 (rd x7 0))) (first | exact ⟨b7_1, b0_1, y1⟩ | exact ⟨q2.2.2.2.2.2.2.2, q2.1, q3⟩) ((go_at_call 117; first | (refine (signed_any w0 _ g _ (padB s.1, s.2) (IntKind.i64.wrap (rd x7 0 - x0)) 4 4 rfl (by omega) (H1.out.1.below (drewB _)) (below_then H1.out.2.1 H1.out.2.1.size (drewB _)) (by have := HLB.out; dsimp only; omega)).mono ?_; rintro e2 w2 ⟨rfl, hb2, v2, hw2, hs2⟩; have q2 := box8 ((H1.out.quiet HG.out (drewB _)).call HG.out hw2 hb2 hs2).2.2.2; have q3 := pw_cell_below hb2 y0)))
          all_goals
            as_aux_lemma =>
            try simp only [i64_w] at hw2 hs2
            have H2 := Lib.hid ((H1.out.quiet HG.out (drewB _)).call HG.out hw2 hb2 hs2)
            clear b0_1 b1_1 b2_1 b3_1 b4_1 b5_1 b6_1 b7_1 c0_1 c1_1 f0_1 f1_1
            clear hb2 hw2 hs2 H1 y1 y2 y0
            try clear q2 q3
            obtain ⟨b0_2, b1_2, b2_2, b3_2, b4_2, b5_2, b6_2, b7_2⟩ := box8 H2.out.2.2.2
            have c0_2 := H2.out.c0
            have c1_2 := H2.out.c1
            have f0_2 := H2.out.f0
            have f1_2 := H2.out.f1
            go_wp2_with fail
            refine (signed_any w0 _ g _ (sgnS (wrap64 (rd x7 0 - x0)) 4 (padB s.1, s.2)) (x5) 4 4 rfl (by omega) H2.out.1 H2.out.2.1 (by have := HLB.out; simp only [sgn_len]; omega)).mono ?_
            rintro e3 w3 ⟨rfl, hb3, v3, hw3, hs3⟩
            have H3 := Lib.hid (H2.out.call HG.out hw3 hb3 hs3)
            clear b0_2 b1_2 b2_2 b3_2 b4_2 b5_2 b6_2 b7_2 c0_2 c1_2 f0_2 f1_2
            clear hb3 hw3 hs3 H2
            obtain ⟨b0_3, b1_3, b2_3, b3_3, b4_3, b5_3, b6_3, b7_3⟩ := box8 H3.out.2.2.2
            have c0_3 := H3.out.c0
            have c1_3 := H3.out.c1
            have f0_3 := H3.out.f0
            have f1_3 := H3.out.f1
            go_wp2_with fail
            refine (signed_any w0 _ g _ (sgnS x5 4 (sgnS (wrap64 (rd x7 0 - x0)) 4 (padB s.1, s.2))) (wrap64 (wrap64 (x5 + ((x7.length : Int) - 1)) - 1)) 4 4 rfl (by omega) H3.out.1 H3.out.2.1 (by have := HLB.out; simp only [sgn_len]; omega)).mono ?_
            rintro e4 w4 ⟨rfl, hb4, v4, hw4, hs4⟩
            have H4 := Lib.hid (H3.out.call HG.out hw4 hb4 hs4)
            clear b0_3 b1_3 b2_3 b3_3 b4_3 b5_3 b6_3 b7_3 c0_3 c1_3 f0_3 f1_3
            clear hb4 hw4 hs4 H3
            obtain ⟨b0_4, b1_4, b2_4, b3_4, b4_4, b5_4, b6_4, b7_4⟩ := box8 H4.out.2.2.2
            have c0_4 := H4.out.c0
            have c1_4 := H4.out.c1
            have f0_4 := H4.out.f0
            have f1_4 := H4.out.f1
            have HH : Aside0 (St w0 w g v w.heap.size (.cells #[.int .i64 x0, .int .u8 x1, .bool x2, .int .i64 x3, .int .i64 x4, .int .i64 x5, .slice A6 x6.length c6, .slice (some ad) x7.length c7] 82 (0, 0)) (headS x0 x5 x7 10 s) w4 v4) := ⟨H4.out⟩
            obtain ⟨i3, hi3, _, hs3, _⟩ := info_parts info3
            obtain ⟨A', hrun, hrd, hle⟩ := print_drop_of (P := Try.prog) (Value.int .i64) (0 : Int) 22 3 .i64 Try.underlying22 hi3 hs3 (some ad) c7 x7 1 (by omega) (by omega) HC7.out
            simp only [Int.toNat_one] at hrun
            have hdl : (x7.drop 1).length = x7.length - 1 := List.length_drop
            rw [hdl] at hrun
            have HRD := Lib.hid (hrd w0 (Kd.reads_of_C H7.out))
            obtain ⟨N, hN⟩ : ∃ N, x7.length - 1 = N := ⟨_, rfl⟩
            rw [hN] at hrun
            have HN := Lib.hid (show x7.length = N + 1 by omega)
            have HHL := Lib.hid (show (headS x0 x5 x7 10 s).1.length + 88 + 8 * x7.length ≤ 140737488355328 by have := head_len x0 x5 x7 10 s; have := HL.out; omega)
            clear hdl hle hrd
            go_wp2_with fail
            go_loopw [82] (fun i wr => ∃ (k : Nat) (V : Value), k ≤ N ∧ i = .int .i64 k ∧ Aside0 (St w0 w g v w.heap.size (.cells #[.int .i64 x0, .int .u8 x1, .bool x2, .int .i64 x3, .int .i64 x4, .int .i64 x5, .slice A6 x6.length c6, .slice (some ad) x7.length c7] 82 (0, 0)) (rowsS x0 x6 x7 10 k (headS x0 x5 x7 10 s)) wr V)) (fun i _ => N - (intOf i).toNat)
            case atStart => exact ⟨0, v4, Nat.zero_le _, rfl, ⟨HH.out⟩⟩
            case round =>
              clear b0_4 b1_4 b2_4 b3_4 b4_4 b5_4 b6_4 b7_4 c0_4 c1_4 f0_4 f1_4
              clear H4
              obtain ⟨k, V, hk, rfl, HS⟩ := hrel
              have HLR := Lib.hid (show (rowsS x0 x6 x7 10 k (headS x0 x5 x7 10 s)).1.length + 50 ≤ 140737488355328 by have := rows_len x0 x6 x7 10 k (headS x0 x5 x7 10 s); have := HHL.out; have := HN.out; omega)
              by_cases hlt : k < N
              · have d2 : decide ((k : Int) < (N : Int)) = true := decide_eq_true (by omega)
                as_aux_lemma =>
                have i0 : (0 : Int) ≤ (k : Int) := by omega
                have i1 : (k : Int) < (N : Int) := by omega
                have i2 : k < N := hlt
                have hdl : (x7.drop 1).length = N := by rw [List.length_drop]; omega
                obtain ⟨ad', e', z0⟩ := ReadsOf.at_ HRD.out (k : Int) i0 (by rw [Int.toNat_one, hdl]; exact i1)
                subst e'
                have hv : rdOf (0 : Int) (x7.drop (1 : Int).toNat) (k : Int) = rd x7 ((k : Int) + 1) := by
                  have e1 : ((k : Int) + 1).toNat = 1 + k := by omega
                  unfold rdOf rd
                  rw [Int.toNat_one, Int.toNat_natCast, e1, List.getD_eq_getElem?_getD, List.getD_eq_getElem?_getD, List.getElem?_drop]
                rw [hv] at z0
                simp only [Int.toNat_natCast] at z0
                have HK := Lib.hid hk
                have z1 := pw_cell_below HS.out.2.1 z0
                have HZ := Lib.hid z0
                have HLT := Lib.hid hlt
                clear hv hdl z0 hlt hk
                have H8 := Lib.hid HS.out
                obtain ⟨b0_8, b1_8, b2_8, b3_8, b4_8, b5_8, b6_8, b7_8⟩ := box8 H8.out.2.2.2
                have c0_8 := H8.out.c0
                have c1_8 := H8.out.c1
                have f0_8 := H8.out.f0
                have f1_8 := H8.out.f1
                go_wp2_with fail
                refine (signed_any w0 _ g _ (rowsS x0 x6 x7 10 k (headS x0 x5 x7 10 s)) (wrap64 (rd x7 ((k : Int) + 1) - x0)) 4 4 rfl (by omega) H8.out.1 H8.out.2.1 (by have := HLR.out; omega)).mono ?_
                rintro e9 w9 ⟨rfl, hb9, v9, hw9, hs9⟩
                have H9 := Lib.hid (H8.out.call HG.out hw9 hb9 hs9)
                clear b0_8 b1_8 b2_8 b3_8 b4_8 b5_8 b6_8 b7_8 c0_8 c1_8 f0_8 f1_8
                clear hb9 hw9 hs9 H8
                have wk := wk_of HLT.out HN.out HL.out
                have WN := Lib.hid (congrArg (Value.int IntKind.i64) wk)
                have WM := Lib.hid ((congrArg Int.toNat wk).trans (Int.toNat_natCast _))
                clear wk
                go_wp2
                go_roundw
                case rel => as_aux_lemma => exact ⟨k + 1, v9, HLT.out, WN.out, ⟨by rw [rows10]; exact H9.out⟩⟩
                case measure => exact ms_val HLT.out WN.out
              · obtain rfl : k = N := by omega
                have d2 : decide ((k : Int) < (k : Int)) = false := decide_eq_false (by omega)
                as_aux_lemma =>
                go_wp2
                go_end0
                rw [HC.out, hN]
                exact HS.out.post
end Go.Proofs.Ytfnjbmpolggdeaa.CW
end
section
namespace Go.Proofs.Ytfnjbmpolggdeaa.CW
open Go.RowKit Go.Lib Go.Proofs.YtfnjbmpolggdeaaW.PrintWords Go.Proofs.YtfnjbmpolggdeaaW.PrintLast Go.Proofs.YtfnjbmpolggdeaaW.PrintMore
set_option linter.unusedVariables false
set_option linter.unusedSimpArgs false
attribute [local go_sem] max2_int min2_int max_two min_two max_three min_three max_four min_four
def oneF10 (x0 x1 : Int) (x2 : Bool) (x3 x4 x5 : Int) (x6 x7 : List Int) (s : List Nat × Bool) : List Nat × Bool := choS x0 x5 x6 x7 10 (opS x1 x2 s)
set_option maxHeartbeats 8000000 in
set_option maxRecDepth 100000 in
theorem one_f10 (w0 w : World) (g : Nat) (v : Value) (s : List Nat × Bool) (x0 x1 : Int) (x2 : Bool) (x3 x4 x5 : Int) (A6 : Option Addr) (c6 : Nat) (x6 : List Int) (A7 : Option Addr) (c7 : Nat) (x7 : List Int) (hx1 : 0 ≤ x1 ∧ x1 < 256) (hr6 : Kd.C (Kd.int .i64) w0 A6 x6.length x6) (hc6 : x6.length ≤ c6) (hr7 : Kd.C (Kd.int .i64) w0 A7 x7.length x7) (hc7 : x7.length ≤ c7) (hW : BW w0.heap.size w g 114 (ewC s.2) v s.1) (hB : Below w0.heap.size w0 w) (hl : s.1.length + 120 + 8 * x7.length ≤ 140737488355328) :
    Calls Try.prog 79 #[.pointer (some ⟨g, 0, none⟩), .agg #[.int .i64 x0, .int .u8 x1, .bool x2, .int .i64 x3, .int .i64 x4, .int .i64 x5, .slice A6 x6.length c6, .slice A7 x7.length c7], .int .i64 10] w (EncPost w0 w g v (oneF10 x0 x1 x2 x3 x4 x5 x6 x7 s)) := by
  unfold oneF10
  have HX1 := Lib.hid hx1
  have HW := Lib.hid hW
  have HB := Lib.hid hB
  have HL := Lib.hid hl
  clear hx1 hW hB hl
  have H7 := Lib.hid hr7
  clear hr7
  have H6 := Lib.hid hr6
  have HC6 := Lib.hid hc6
  have HC7 := Lib.hid hc7
  clear hr6 hc6 hc7
  cases x2 with
  | false =>
    have H0 := Lib.hid (St.start (c := #[.int .i64 x0, .int .u8 x1, .bool false, .int .i64 x3, .int .i64 x4, .int .i64 x5, .slice A6 x6.length c6, .slice A7 x7.length c7]) HW.out HB.out)
    have HG := Lib.hid (show w.heap.size ≠ g by have := HW.out.lt; omega)
    obtain ⟨b0_0, b1_0, b2_0, b3_0, b4_0, b5_0, b6_0, b7_0⟩ := box8 H0.out.2.2.2
    have c0_0 := H0.out.c0
    have c1_0 := H0.out.c1
    have f0_0 := H0.out.f0
    go_enter Try.func79, Try.ntmps79
    go_wp2_with fail
    generalize w.alloc (.cells #[.int .i64 x0, .int .u8 x1, .bool false, .int .i64 x3, .int .i64 x4, .int .i64 x5, .slice A6 x6.length c6, .slice A7 x7.length c7] 82) = W0 at *
    have ca : ∀ o, (W0.alloc o).cell? ⟨g, 0, none⟩ = some _ := fun o => pw_cell_below (below_alloc (Below.refl _ _) o) c0_0
    have cb : ∀ o, (W0.alloc o).cell? ⟨w.heap.size, 1, none⟩ = some _ := fun o => pw_cell_below (below_alloc (Below.refl _ _) o) b1_0
    go_region_law (first | (refine elem_step (by rfl) (.tmp 22) (.tmp 25) 87 rfl Try.underlying87 w0.heap.size (H0.out.1.below (drewB _)).2.2 rfl x1 1 (by first | rfl | (go_simp; done) | (simp [World.alloc]; done)) (by have := HL.out; omega) (Nat.le_trans H0.out.2.1.size (drewB _).size) ?_ rfl; intro v9 w9 hm9 hg9 hat9; obtain ⟨A9, m9, c9, rfl⟩ := mrow_sl hm9; have k9 := ew_cell hg9 (H0.out.1.below (drewB _)); have k8 := ew_frozen hg9 (H0.out.1.below (drewB _))))
    all_goals
      have H9 := Lib.hid ((H0.out.quiet HG.out (drewB _)).byte HG.out (b := x1.toNat) (by have := HX1.out; omega) hm9 hg9 hat9)
      clear b0_0 b1_0 b2_0 b3_0 b4_0 b5_0 b6_0 b7_0 c0_0 c1_0 f0_0
      clear hm9 hg9 hat9 k9 k8 ca cb H0
      generalize w9.setCell ⟨g, 0, none⟩ _ = W9 at *
      obtain ⟨b0_9, b1_9, b2_9, b3_9, b4_9, b5_9, b6_9, b7_9⟩ := box8 H9.out.2.2.2
      have c0_9 := H9.out.c0
      have c1_9 := H9.out.c1
      have f0_9 := H9.out.f0
      go_wp2_with fail
      refine (choice_10 w0 _ g _ (opS x1 false s) x0 x1 false x3 x4 x5 A6 c6 x6 A7 c7 x7 H6.out HC6.out H7.out HC7.out H9.out.1 H9.out.2.1 (by have := HL.out; simp only [opS, Bool.false_eq_true, ↓reduceIte, List.length_append, List.length_cons, List.length_nil]; omega)).mono ?_
      rintro e10 w10 ⟨rfl, hb10, v10, hw10, hs10⟩
      have H10 := Lib.hid (H9.out.call HG.out hw10 hb10 hs10)
      go_wp2
      go_end0
      exact H10.out.post
  | true =>
    have H0 := Lib.hid (St.start (c := #[.int .i64 x0, .int .u8 x1, .bool true, .int .i64 x3, .int .i64 x4, .int .i64 x5, .slice A6 x6.length c6, .slice A7 x7.length c7]) HW.out HB.out)
    have HG := Lib.hid (show w.heap.size ≠ g by have := HW.out.lt; omega)
    obtain ⟨b0_0, b1_0, b2_0, b3_0, b4_0, b5_0, b6_0, b7_0⟩ := box8 H0.out.2.2.2
    have c0_0 := H0.out.c0
    have c1_0 := H0.out.c1
    have f0_0 := H0.out.f0
    go_enter Try.func79, Try.ntmps79
    go_wp2_with (at_builtin; refine app_e rfl _ _ 87 rfl Try.underlying87 w0.heap.size H0.out.1.2.2 rfl 196 1 (by first | rfl | (go_simp; done) | (simp [World.alloc]; done)) (by have := HL.out; omega) H0.out.2.1.size ?_ rfl; intro v1 w1 hm1 hg1 hat1; obtain ⟨A1, m1, c1, rfl⟩ := mrow_sl hm1; have k0 := ew_cell hg1 H0.out.1; have k1 := ew_frozen hg1 H0.out.1)
    have H1 := Lib.hid (H0.out.byte HG.out (b := 196) rfl hm1 hg1 hat1)
    clear b0_0 b1_0 b2_0 b3_0 b4_0 b5_0 b6_0 b7_0 c0_0 c1_0 f0_0
    clear hm1 hg1 hat1 k0 k1 H0
    generalize w1.setCell ⟨g, 0, none⟩ _ = W1 at *
    obtain ⟨b0_1, b1_1, b2_1, b3_1, b4_1, b5_1, b6_1, b7_1⟩ := box8 H1.out.2.2.2
    have c0_1 := H1.out.c0
    have c1_1 := H1.out.c1
    have f0_1 := H1.out.f0
    have ca : ∀ o, (W1.alloc o).cell? ⟨g, 0, none⟩ = some _ := fun o => pw_cell_below (below_alloc (Below.refl _ _) o) c0_1
    have cb : ∀ o, (W1.alloc o).cell? ⟨w.heap.size, 1, none⟩ = some _ := fun o => pw_cell_below (below_alloc (Below.refl _ _) o) b1_1
    go_region_law (first | (refine elem_step (by rfl) (.tmp 22) (.tmp 25) 87 rfl Try.underlying87 w0.heap.size (H1.out.1.below (drewB _)).2.2 rfl x1 1 (by first | rfl | (go_simp; done) | (simp [World.alloc]; done)) (by have := HL.out; simp only [List.length_append, List.length_cons, List.length_nil]; omega) (Nat.le_trans H1.out.2.1.size (drewB _).size) ?_ rfl; intro v9 w9 hm9 hg9 hat9; obtain ⟨A9, m9, c9, rfl⟩ := mrow_sl hm9; have k9 := ew_cell hg9 (H1.out.1.below (drewB _)); have k8 := ew_frozen hg9 (H1.out.1.below (drewB _))))
    all_goals
      have H9 := Lib.hid ((H1.out.quiet HG.out (drewB _)).byte HG.out (b := x1.toNat) (by have := HX1.out; omega) hm9 hg9 hat9)
      clear b0_1 b1_1 b2_1 b3_1 b4_1 b5_1 b6_1 b7_1 c0_1 c1_1 f0_1
      clear hm9 hg9 hat9 k9 k8 ca cb H1
      generalize w9.setCell ⟨g, 0, none⟩ _ = W9 at *
      obtain ⟨b0_9, b1_9, b2_9, b3_9, b4_9, b5_9, b6_9, b7_9⟩ := box8 H9.out.2.2.2
      have c0_9 := H9.out.c0
      have c1_9 := H9.out.c1
      have f0_9 := H9.out.f0
      go_wp2_with fail
      refine (choice_10 w0 _ g _ (opS x1 true s) x0 x1 true x3 x4 x5 A6 c6 x6 A7 c7 x7 H6.out HC6.out H7.out HC7.out H9.out.1 H9.out.2.1 (by have := HL.out; simp only [opS, Bool.false_eq_true, ↓reduceIte, List.length_append, List.length_cons, List.length_nil]; omega)).mono ?_
      rintro e10 w10 ⟨rfl, hb10, v10, hw10, hs10⟩
      have H10 := Lib.hid (H9.out.call HG.out hw10 hb10 hs10)
      go_wp2
      go_end0
      exact H10.out.post
end Go.Proofs.Ytfnjbmpolggdeaa.CW
end
section
namespace Go.Proofs.Ytfnjbmpolggdeaa.CW
open Go.RowKit Go.Lib Go.Proofs.YtfnjbmpolggdeaaW.PrintWords Go.Proofs.YtfnjbmpolggdeaaW.PrintLast Go.Proofs.YtfnjbmpolggdeaaW.PrintMore
set_option linter.unusedVariables false
set_option linter.unusedSimpArgs false
set_option maxHeartbeats 8000000 in
set_option maxRecDepth 100000 in
theorem choice_11 (w0 w : World) (g : Nat) (v : Value) (s : List Nat × Bool) (x0 x1 : Int) (x2 : Bool) (x3 x4 x5 : Int) (A6 : Option Addr) (c6 : Nat) (x6 : List Int) (A7 : Option Addr) (c7 : Nat) (x7 : List Int) (hr6 : Kd.C (Kd.int .i64) w0 A6 x6.length x6) (hc6 : x6.length ≤ c6) (hr7 : Kd.C (Kd.int .i64) w0 A7 x7.length x7) (hc7 : x7.length ≤ c7) (hW : BW w0.heap.size w g 114 (ewC s.2) v s.1) (hB : Below w0.heap.size w0 w) (hl : s.1.length + 103 + 8 * x7.length ≤ 140737488355328) :
    Calls Try.prog 119 #[.pointer (some ⟨g, 0, none⟩), .agg #[.int .i64 x0, .int .u8 x1, .bool x2, .int .i64 x3, .int .i64 x4, .int .i64 x5, .slice A6 x6.length c6, .slice A7 x7.length c7], .int .i64 11] w (EncPost w0 w g v (choS x0 x5 x6 x7 11 s)) := by
  have HW := Lib.hid hW
  have HB := Lib.hid hB
  have HL := Lib.hid hl
  have H6 := Lib.hid hr6
  have H7 := Lib.hid hr7
  have HC6 := Lib.hid hc6
  have HC7 := Lib.hid hc7
  clear hW hB hl hr6 hr7 hc6 hc7
  have H0 := Lib.hid (St.start (c := #[.int .i64 x0, .int .u8 x1, .bool x2, .int .i64 x3, .int .i64 x4, .int .i64 x5, .slice A6 x6.length c6, .slice A7 x7.length c7]) HW.out HB.out)
  have HG := Lib.hid (show w.heap.size ≠ g by have := HW.out.lt; omega)
  obtain ⟨b0_0, b1_0, b2_0, b3_0, b4_0, b5_0, b6_0, b7_0⟩ := box8 H0.out.2.2.2
  have c0_0 := H0.out.c0
  have c1_0 := H0.out.c1
  have f0_0 := H0.out.f0
  have f1_0 := H0.out.f1
  go_enter Try.func119, Try.ntmps119
  go_wp2_with fail
  generalize w.alloc (.cells #[.int .i64 x0, .int .u8 x1, .bool x2, .int .i64 x3, .int .i64 x4, .int .i64 x5, .slice A6 x6.length c6, .slice A7 x7.length c7] 82) = W0 at *
  go_loopw [9] (fun q wr => ∃ (m : Nat) (V : Value), m ≤ padN s.1.length ∧ Aside0 (St w0 w g v w.heap.size (.cells #[.int .i64 x0, .int .u8 x1, .bool x2, .int .i64 x3, .int .i64 x4, .int .i64 x5, .slice A6 x6.length c6, .slice A7 x7.length c7] 82 (0, 0)) (s.1 ++ List.replicate m 0, s.2) wr V)) (fun _ wr => padM g wr)
  case atStart => exact ⟨0, v, Nat.zero_le _, ⟨by simpa using H0.out⟩⟩
  case round =>
    clear b0_0 b1_0 b2_0 b3_0 b4_0 b5_0 b6_0 b7_0 c0_0 c1_0 f0_0 f1_0
    obtain ⟨m, V, hm, HS⟩ := hrel
    have hn : (s.1 ++ List.replicate m 0).length = s.1.length + m := by simp
    obtain ⟨A, c, rfl⟩ := HS.out.sl (s.1.length + m) hn
    have H1 := Lib.hid HS.out
    obtain ⟨b0_1, b1_1, b2_1, b3_1, b4_1, b5_1, b6_1, b7_1⟩ := box8 H1.out.2.2.2
    have c0_1 := H1.out.c0
    have c1_1 := H1.out.c1
    have f0_1 := H1.out.f0
    have f1_1 := H1.out.f1
    have HP := Lib.hid (show padM g wr = padN (s.1.length + m) from padM_at c0_1)
    have HMM := Lib.hid hm
    have hr : Int.tmod (((s.1.length + m : Nat) : Int)) 4 = (((s.1.length + m) % 4 : Nat) : Int) := (Int.ofNat_tmod (s.1.length + m) 4).symm
    by_cases hlt : m < padN s.1.length
    · have b0 : (((s.1.length : Int) + (m : Int)) % 4 != 0) = true := by rw [bne_iff_ne]; unfold padN at hlt; omega
      have HLT := Lib.hid hlt
      clear hlt hm HS
      as_aux_lemma =>
        go_wp2_with (at_builtin; refine app_e rfl _ _ 87 rfl Try.underlying87 w0.heap.size H1.out.1.2.2 rfl 0 1 (by first | rfl | (go_simp; done) | (simp [World.alloc]; done)) (by show (s.1 ++ List.replicate m 0).length + 1 ≤ _; have := HL.out; have := HMM.out; unfold padN at this; omega) H1.out.2.1.size ?_ rfl; intro v2 w2 hm2 hg2 hat2; obtain ⟨A2, m2, c2, rfl⟩ := mrow_sl hm2; have k0 := ew_cell hg2 H1.out.1; have k1 := ew_frozen hg2 H1.out.1)
        have H2 := Lib.hid (H1.out.byte HG.out (b := 0) rfl hm2 hg2 hat2)
        clear hm2 hg2 hat2 k0 k1 H1
        generalize w2.setCell ⟨g, 0, none⟩ _ = W2 at *
        go_roundw
        case rel => exact ⟨m + 1, _, by have := HLT.out; omega, ⟨by have := H2.out; rw [List.replicate_succ', ← List.append_assoc]; exact this⟩⟩
        case measure =>
          obtain ⟨A3, c3, e3⟩ := H2.out.sl (s.1.length + (m + 1)) (by simp)
          have := H2.out.c0
          rw [e3] at this
          rw [padM_at this, HP.out]
          have := HLT.out
          unfold padN at *
          omega
    · obtain rfl : m = padN s.1.length := by omega
      have b0 : (((s.1.length : Int) + ((padN s.1.length : Nat) : Int)) % 4 != 0) = false := by rw [bne_eq_false_iff_eq]; unfold padN; omega
      clear hlt hm HS HP hr hn
      have HPB : s.1 ++ List.replicate (padN s.1.length) 0 = padB s.1 := rfl
      rw [HPB] at H1
      have HLB := Lib.hid (show (padB s.1).length + 100 + 8 * x7.length ≤ 140737488355328 by have := pad_len s.1; have := HL.out; omega)
      have hw1 : IntKind.i64.wrap ((x7.length : Int) - 1) = (x7.length : Int) - 1 := by rw [IntKind.wrap_i64]; have := HL.out; omega
      by_cases h0 : x7.length = 0
      · have d0 : decide ((x7.length : Int) - 1 < 0) = true := decide_eq_true (by omega)
        as_aux_lemma =>
          have HC : Aside0 (choS x0 x5 x6 x7 11 s = (padB s.1, false)) := ⟨if_pos (.inl h0)⟩
          go_wp2
          go_end0
          rw [HC.out]
          exact (H1.out.setok HG.out false).post
      · have d0 : decide ((x7.length : Int) - 1 < 0) = false := decide_eq_false (by omega)
        by_cases h1 : x7.length ≠ x6.length + 1
        · have d1 : ((x7.length : Int) - 1 != (x6.length : Int)) = true := bne_iff_ne.2 (by omega)
          as_aux_lemma =>
            have HC : Aside0 (choS x0 x5 x6 x7 11 s = (padB s.1, false)) := ⟨if_pos (.inr (.inr ⟨rfl, h1⟩))⟩
            go_wp2
            go_end0
            rw [HC.out]
            exact (H1.out.setok HG.out false).post
        · have d1 : ((x7.length : Int) - 1 != (x6.length : Int)) = false := bne_eq_false_iff_eq.2 (by omega)
          have HC : Aside0 (choS x0 x5 x6 x7 11 s = rowsS x0 x6 x7 11 (x7.length - 1) (headS x0 x5 x7 11 s)) := ⟨if_neg (by rintro (h | ⟨_, h⟩ | ⟨_, h⟩) <;> first | exact h0 h | exact h1 h | omega)⟩
          have HX := Lib.hid (show x7.length ≠ 0 ∧ x7.length = x6.length + 1 by omega)
          obtain ⟨ad, e7, y0⟩ := Kd.at_int H7.out 0 (by omega) (by omega)
          subst e7
          have e0 : ad.add 0 = ad := by cases ad; unfold Addr.add; split <;> simp_all
          have y1 := pw_cell_below H1.out.2.1 y0
          have y2 := pw_cell_below (drewB _) y1
          simp only [Int.toNat_zero, e0] at y0 y1 y2
          have z0 : (0 : Int) < (x7.length : Int) := by omega
          have z1 : 0 < x7.length := by omega
          clear h0 h1 e0
          go_wp2_with fail
          go_region_held3 (fun w' => w'.cell? ⟨w.heap.size, 7, none⟩ = some (.slice (some ad) x7.length c7) ∧ w'.cell? ⟨w.heap.size, 0, none⟩ = some (.int .i64 x0) ∧ w'.cell? ad = some (.int .i64 (rd x7 0))) (first | exact ⟨b7_1, b0_1, y1⟩ | exact ⟨q2.2.2.2.2.2.2.2, q2.1, q3⟩) ((go_at_call 117; first | (refine (signed_any w0 _ g _ (padB s.1, s.2) (IntKind.i64.wrap (rd x7 0 - x0)) 4 4 rfl (by omega) (H1.out.1.below (drewB _)) (below_then H1.out.2.1 H1.out.2.1.size (drewB _)) (by have := HLB.out; dsimp only; omega)).mono ?_; rintro e2 w2 ⟨rfl, hb2, v2, hw2, hs2⟩; have q2 := box8 ((H1.out.quiet HG.out (drewB _)).call HG.out hw2 hb2 hs2).2.2.2; have q3 := pw_cell_below hb2 y0)))
          all_goals
            as_aux_lemma =>
            try simp only [i64_w] at hw2 hs2 ⊢
            have H2 := Lib.hid ((H1.out.quiet HG.out (drewB _)).call HG.out hw2 hb2 hs2)
            clear b0_1 b1_1 b2_1 b3_1 b4_1 b5_1 b6_1 b7_1 c0_1 c1_1 f0_1 f1_1
            clear hb2 hw2 hs2 H1 y1 y2 y0
            try clear q2 q3
            obtain ⟨b0_2, b1_2, b2_2, b3_2, b4_2, b5_2, b6_2, b7_2⟩ := box8 H2.out.2.2.2
            have c0_2 := H2.out.c0
            have c1_2 := H2.out.c1
            have f0_2 := H2.out.f0
            have f1_2 := H2.out.f1
            go_wp2_with fail
            refine (signed_any w0 _ g _ (sgnS (wrap64 (rd x7 0 - x0)) 4 (padB s.1, s.2)) ((x7.length : Int) - 1) 4 4 rfl (by omega) H2.out.1 H2.out.2.1 (by have := HLB.out; simp only [sgn_len]; omega)).mono ?_
            rintro e3 w3 ⟨rfl, hb3, v3, hw3, hs3⟩
            have H3 := Lib.hid (H2.out.call HG.out hw3 hb3 hs3)
            clear b0_2 b1_2 b2_2 b3_2 b4_2 b5_2 b6_2 b7_2 c0_2 c1_2 f0_2 f1_2
            clear hb3 hw3 hs3 H2
            obtain ⟨b0_3, b1_3, b2_3, b3_3, b4_3, b5_3, b6_3, b7_3⟩ := box8 H3.out.2.2.2
            have c0_3 := H3.out.c0
            have c1_3 := H3.out.c1
            have f0_3 := H3.out.f0
            have f1_3 := H3.out.f1
            have HH : Aside0 (St w0 w g v w.heap.size (.cells #[.int .i64 x0, .int .u8 x1, .bool x2, .int .i64 x3, .int .i64 x4, .int .i64 x5, .slice A6 x6.length c6, .slice (some ad) x7.length c7] 82 (0, 0)) (headS x0 x5 x7 11 s) w3 v3) := ⟨H3.out⟩
            obtain ⟨i3, hi3, _, hs3, _⟩ := info_parts info3
            obtain ⟨A', hrun, hrd, hle⟩ := print_drop_of (P := Try.prog) (Value.int .i64) (0 : Int) 22 3 .i64 Try.underlying22 hi3 hs3 (some ad) c7 x7 1 (by omega) (by omega) HC7.out
            simp only [Int.toNat_one] at hrun
            have hdl : (x7.drop 1).length = x7.length - 1 := List.length_drop
            rw [hdl] at hrun
            have HRD := Lib.hid (hrd w0 (Kd.reads_of_C H7.out))
            obtain ⟨N, hN⟩ : ∃ N, x7.length - 1 = N := ⟨_, rfl⟩
            rw [hN] at hrun
            have HN := Lib.hid (show x7.length = N + 1 by omega)
            have HHL := Lib.hid (show (headS x0 x5 x7 11 s).1.length + 88 + 8 * x7.length ≤ 140737488355328 by have := head_len x0 x5 x7 11 s; have := HL.out; omega)
            clear hdl hle hrd
            go_wp2_with fail
            go_loopw [82] (fun i wr => ∃ (k : Nat) (V : Value), k ≤ N ∧ i = .int .i64 k ∧ Aside0 (St w0 w g v w.heap.size (.cells #[.int .i64 x0, .int .u8 x1, .bool x2, .int .i64 x3, .int .i64 x4, .int .i64 x5, .slice A6 x6.length c6, .slice (some ad) x7.length c7] 82 (0, 0)) (rowsS x0 x6 x7 11 k (headS x0 x5 x7 11 s)) wr V)) (fun i _ => N - (intOf i).toNat)
            case atStart => exact ⟨0, v3, Nat.zero_le _, rfl, ⟨HH.out⟩⟩
            case round =>
              clear b0_3 b1_3 b2_3 b3_3 b4_3 b5_3 b6_3 b7_3 c0_3 c1_3 f0_3 f1_3
              clear H3
              obtain ⟨k, V, hk, rfl, HS⟩ := hrel
              have HLR := Lib.hid (show (rowsS x0 x6 x7 11 k (headS x0 x5 x7 11 s)).1.length + 50 ≤ 140737488355328 by have := rows_len x0 x6 x7 11 k (headS x0 x5 x7 11 s); have := HHL.out; have := HN.out; omega)
              by_cases hlt : k < N
              · have d2 : decide ((k : Int) < (N : Int)) = true := decide_eq_true (by omega)
                as_aux_lemma =>
                have i0 : (0 : Int) ≤ (k : Int) := by omega
                have i1 : (k : Int) < (N : Int) := by omega
                have i2 : k < N := hlt
                have hdl : (x7.drop 1).length = N := by rw [List.length_drop]; omega
                obtain ⟨ad', e', z0⟩ := ReadsOf.at_ HRD.out (k : Int) i0 (by rw [Int.toNat_one, hdl]; exact i1)
                subst e'
                have hv : rdOf (0 : Int) (x7.drop (1 : Int).toNat) (k : Int) = rd x7 ((k : Int) + 1) := by
                  have e1 : ((k : Int) + 1).toNat = 1 + k := by omega
                  unfold rdOf rd
                  rw [Int.toNat_one, Int.toNat_natCast, e1, List.getD_eq_getElem?_getD, List.getD_eq_getElem?_getD, List.getElem?_drop]
                rw [hv] at z0
                simp only [Int.toNat_natCast] at z0
                have HK := Lib.hid hk
                have z1 := pw_cell_below HS.out.2.1 z0
                have HZ := Lib.hid z0
                have HLT := Lib.hid hlt
                clear hv hdl z0 hlt hk
                have hNx : N = x6.length := Nat.succ.inj (HN.out.symm.trans HX.out.2)
                have HKL0 : k < x6.length := by rw [← hNx]; exact HLT.out
                have HKL := Lib.hid HKL0
                have i6b : (k : Int) < (x6.length : Int) := Int.ofNat_lt.2 HKL0
                clear hNx
                obtain ⟨ad6, e6, z6⟩ := Kd.at_int H6.out (k : Int) i0 i6b
                subst e6
                simp only [Int.toNat_natCast] at z6
                have i6c : k < x6.length := HKL0
                obtain ⟨b, hb⟩ : ∃ b, ((k : Int) == 0 || decide (rd x6 ((k : Int) - 1) < rd x6 k)) = b := ⟨_, rfl⟩
                have HBB := Lib.hid hb
                obtain ⟨q, hq⟩ : ∃ q, (rowsS x0 x6 x7 11 k (headS x0 x5 x7 11 s)) = q := ⟨_, rfl⟩
                have HQ := Lib.hid hq
                rw [hq] at HS HLR
                clear hq
                obtain ⟨ql, qo⟩ := q
                have H8 := Lib.hid HS.out
                obtain ⟨b0_8, b1_8, b2_8, b3_8, b4_8, b5_8, b6_8, b7_8⟩ := box8 H8.out.2.2.2
                have c0_8 := H8.out.c0
                have c1_8 := H8.out.c1
                have f0_8 := H8.out.f0
                have f1_8 := H8.out.f1
                have z8 := pw_cell_below H8.out.2.1 z6
                clear HS
                go_upto_region 15 with (fail)
                go_cut [111] from 89 to 113 (fun vv wc => Aside0 (St w0 w g v w.heap.size (.cells #[.int .i64 x0, .int .u8 x1, .bool x2, .int .i64 x3, .int .i64 x4, .int .i64 x5, .slice (some ad6) x6.length c6, .slice (some ad) x7.length c7] 82 (0, 0)) (ql, qo && b) wc V))
                case first =>
                  cases qo with
                  | false =>
                    have HD := Lib.hid (H8.out.quiet HG.out (drewB _))
                    obtain ⟨b0_d, b1_d, b2_d, b3_d, b4_d, b5_d, b6_d, b7_d⟩ := box8 HD.out.2.2.2
                    have c0_d := HD.out.c0
                    have c1_d := HD.out.c1
                    have f0_d := HD.out.f0
                    have f1_d := HD.out.f1
                    clear b0_8 b1_8 b2_8 b3_8 b4_8 b5_8 b6_8 b7_8 c0_8 c1_8 f0_8 f1_8
                    refine start_ (n := 26) (S := fun w' => w'.cell? ⟨g, 1, none⟩ = some (.bool false)) (ds := [25]) #[false, false, false, false, false, false, false, false, false, false, false, false, false, false, false, false, false, false, false, false, false, false, false, false, false, false] (by kernel_rfl) rfl rfl (c1_d) (fun hHeld => ?_)
                    refine pure_ (i := 0) (N := some 89) (v := ?_) (a' := ?_) #[true, false, false, false, false, false, false, false, false, false, false, false, false, false, false, false, false, false, false, false, false, false, false, false, false, false] rfl rfl (by kernel_rfl) (fun _ _ _ h => h) (Or.inl ⟨by rfl, ?_⟩) ?_ ?_
                    rotate_left
                    · intro w'
                      go_simp
                      with_reducible rfl
                    rotate_left
                    · simp only [Act.put, List.setIfInBounds_toArray, List.set_cons_zero, List.set_cons_succ, i64_w, i32_w]
                      rfl
                    refine pure_ (i := 1) (N := some 90) (v := ?_) (a' := ?_) #[true, true, false, false, false, false, false, false, false, false, false, false, false, false, false, false, false, false, false, false, false, false, false, false, false, false] rfl rfl (by kernel_rfl) (fun _ _ _ h => h) (Or.inl ⟨by rfl, ?_⟩) ?_ ?_
                    rotate_left
                    · intro w'
                      go_simp
                      with_reducible rfl
                    rotate_left
                    · simp only [Act.put, List.setIfInBounds_toArray, List.set_cons_zero, List.set_cons_succ, i64_w, i32_w]
                      rfl
                    refine pure_ (i := 2) (N := some 91) (v := ?_) (a' := ?_) #[true, true, true, false, false, false, false, false, false, false, false, false, false, false, false, false, false, false, false, false, false, false, false, false, false, false] rfl rfl (by kernel_rfl) (fun _ _ _ h => h) (Or.inl ⟨by rfl, ?_⟩) ?_ ?_
                    rotate_left
                    · intro w'
                      go_simp
                      with_reducible rfl
                    rotate_left
                    · simp only [Act.put, List.setIfInBounds_toArray, List.set_cons_zero, List.set_cons_succ, i64_w, i32_w]
                      rfl
                    refine pure_ (i := 3) (N := some 92) (v := ?_) (a' := ?_) #[true, true, true, true, false, false, false, false, false, false, false, false, false, false, false, false, false, false, false, false, false, false, false, false, false, false] rfl rfl (by kernel_rfl) (fun _ _ _ h => h) (Or.inl ⟨by rfl, ?_⟩) ?_ ?_
                    rotate_left
                    · intro w'
                      go_simp
                      with_reducible rfl
                    rotate_left
                    · simp only [Act.put, List.setIfInBounds_toArray, List.set_cons_zero, List.set_cons_succ, i64_w, i32_w]
                      rfl
                    refine take_ (i := 4) (N := some 93) (v := ?_) (a' := ?_) #[true, true, true, true, true, false, false, false, false, false, false, false, false, false, false, false, false, false, false, false, false, false, false, false, false, false] rfl rfl (by kernel_rfl) (fun _ _ _ h => h) (Or.inl ⟨by rfl, ?_⟩) hHeld ?_ ?_
                    rotate_left
                    · intro w' s0
                      go_simp
                      with_reducible rfl
                    rotate_left
                    · simp only [Act.put, List.setIfInBounds_toArray, List.set_cons_zero, List.set_cons_succ, i64_w, i32_w]
                      rfl
                    refine pure_ (i := 5) (N := some 94) (v := ?_) (a' := ?_) #[true, true, true, true, true, true, false, false, false, false, false, false, false, false, false, false, false, false, false, false, false, false, false, false, false, false] rfl rfl (by kernel_rfl) (fun _ _ _ h => h) (Or.inl ⟨by rfl, ?_⟩) ?_ ?_
                    rotate_left
                    · intro w'
                      go_simp
                      with_reducible rfl
                    rotate_left
                    · simp only [Act.put, List.setIfInBounds_toArray, List.set_cons_zero, List.set_cons_succ, i64_w, i32_w]
                      rfl
                    refine pure_ (i := 6) (N := some 95) (v := undef) (a' := ?_) #[true, true, true, true, true, true, true, false, false, false, false, false, false, false, false, false, false, false, false, false, false, false, false, false, false, false] rfl rfl (by kernel_rfl) (fun _ _ _ h => h) (Or.inr ⟨by rfl, rfl⟩) ?_ ?_
                    rotate_left
                    · simp only [Act.put, List.setIfInBounds_toArray, List.set_cons_zero, List.set_cons_succ, i64_w, i32_w]
                      rfl
                    refine pure_ (i := 7) (N := some 96) (v := undef) (a' := ?_) #[true, true, true, true, true, true, true, true, false, false, false, false, false, false, false, false, false, false, false, false, false, false, false, false, false, false] rfl rfl (by kernel_rfl) (fun _ _ _ h => h) (Or.inr ⟨by rfl, rfl⟩) ?_ ?_
                    rotate_left
                    · simp only [Act.put, List.setIfInBounds_toArray, List.set_cons_zero, List.set_cons_succ, i64_w, i32_w]
                      rfl
                    refine pure_ (i := 8) (N := some 97) (v := undef) (a' := ?_) #[true, true, true, true, true, true, true, true, true, false, false, false, false, false, false, false, false, false, false, false, false, false, false, false, false, false] rfl rfl (by kernel_rfl) (fun _ _ _ h => h) (Or.inr ⟨by rfl, rfl⟩) ?_ ?_
                    rotate_left
                    · simp only [Act.put, List.setIfInBounds_toArray, List.set_cons_zero, List.set_cons_succ, i64_w, i32_w]
                      rfl
                    refine pure_ (i := 9) (N := some 98) (v := undef) (a' := ?_) #[true, true, true, true, true, true, true, true, true, true, false, false, false, false, false, false, false, false, false, false, false, false, false, false, false, false] rfl rfl (by kernel_rfl) (fun _ _ _ h => h) (Or.inr ⟨by rfl, rfl⟩) ?_ ?_
                    rotate_left
                    · simp only [Act.put, List.setIfInBounds_toArray, List.set_cons_zero, List.set_cons_succ, i64_w, i32_w]
                      rfl
                    refine pure_ (i := 10) (N := some 99) (v := undef) (a' := ?_) #[true, true, true, true, true, true, true, true, true, true, true, false, false, false, false, false, false, false, false, false, false, false, false, false, false, false] rfl rfl (by kernel_rfl) (fun _ _ _ h => h) (Or.inr ⟨by rfl, rfl⟩) ?_ ?_
                    rotate_left
                    · simp only [Act.put, List.setIfInBounds_toArray, List.set_cons_zero, List.set_cons_succ, i64_w, i32_w]
                      rfl
                    refine pure_ (i := 11) (N := some 100) (v := undef) (a' := ?_) #[true, true, true, true, true, true, true, true, true, true, true, true, false, false, false, false, false, false, false, false, false, false, false, false, false, false] rfl rfl (by kernel_rfl) (fun _ _ _ h => h) (Or.inr ⟨by rfl, rfl⟩) ?_ ?_
                    rotate_left
                    · simp only [Act.put, List.setIfInBounds_toArray, List.set_cons_zero, List.set_cons_succ, i64_w, i32_w]
                      rfl
                    refine pure_ (i := 12) (N := some 101) (v := undef) (a' := ?_) #[true, true, true, true, true, true, true, true, true, true, true, true, true, false, false, false, false, false, false, false, false, false, false, false, false, false] rfl rfl (by kernel_rfl) (fun _ _ _ h => h) (Or.inr ⟨by rfl, rfl⟩) ?_ ?_
                    rotate_left
                    · simp only [Act.put, List.setIfInBounds_toArray, List.set_cons_zero, List.set_cons_succ, i64_w, i32_w]
                      rfl
                    refine pure_ (i := 13) (N := some 102) (v := undef) (a' := ?_) #[true, true, true, true, true, true, true, true, true, true, true, true, true, true, false, false, false, false, false, false, false, false, false, false, false, false] rfl rfl (by kernel_rfl) (fun _ _ _ h => h) (Or.inr ⟨by rfl, rfl⟩) ?_ ?_
                    rotate_left
                    · simp only [Act.put, List.setIfInBounds_toArray, List.set_cons_zero, List.set_cons_succ, i64_w, i32_w]
                      rfl
                    refine pure_ (i := 14) (N := some 103) (v := undef) (a' := ?_) #[true, true, true, true, true, true, true, true, true, true, true, true, true, true, true, false, false, false, false, false, false, false, false, false, false, false] rfl rfl (by kernel_rfl) (fun _ _ _ h => h) (Or.inr ⟨by rfl, rfl⟩) ?_ ?_
                    rotate_left
                    · simp only [Act.put, List.setIfInBounds_toArray, List.set_cons_zero, List.set_cons_succ, i64_w, i32_w]
                      rfl
                    refine pure_ (i := 15) (N := some 104) (v := undef) (a' := ?_) #[true, true, true, true, true, true, true, true, true, true, true, true, true, true, true, true, false, false, false, false, false, false, false, false, false, false] rfl rfl (by kernel_rfl) (fun _ _ _ h => h) (Or.inr ⟨by rfl, rfl⟩) ?_ ?_
                    rotate_left
                    · simp only [Act.put, List.setIfInBounds_toArray, List.set_cons_zero, List.set_cons_succ, i64_w, i32_w]
                      rfl
                    refine pure_ (i := 16) (N := some 105) (v := undef) (a' := ?_) #[true, true, true, true, true, true, true, true, true, true, true, true, true, true, true, true, true, false, false, false, false, false, false, false, false, false] rfl rfl (by kernel_rfl) (fun _ _ _ h => h) (Or.inr ⟨by rfl, rfl⟩) ?_ ?_
                    rotate_left
                    · simp only [Act.put, List.setIfInBounds_toArray, List.set_cons_zero, List.set_cons_succ, i64_w, i32_w]
                      rfl
                    refine pure_ (i := 17) (N := some 106) (v := undef) (a' := ?_) #[true, true, true, true, true, true, true, true, true, true, true, true, true, true, true, true, true, true, false, false, false, false, false, false, false, false] rfl rfl (by kernel_rfl) (fun _ _ _ h => h) (Or.inr ⟨by rfl, rfl⟩) ?_ ?_
                    rotate_left
                    · simp only [Act.put, List.setIfInBounds_toArray, List.set_cons_zero, List.set_cons_succ, i64_w, i32_w]
                      rfl
                    refine pure_ (i := 18) (N := some 107) (v := undef) (a' := ?_) #[true, true, true, true, true, true, true, true, true, true, true, true, true, true, true, true, true, true, true, false, false, false, false, false, false, false] rfl rfl (by kernel_rfl) (fun _ _ _ h => h) (Or.inr ⟨by rfl, rfl⟩) ?_ ?_
                    rotate_left
                    · simp only [Act.put, List.setIfInBounds_toArray, List.set_cons_zero, List.set_cons_succ, i64_w, i32_w]
                      rfl
                    refine pure_ (i := 19) (N := some 108) (v := undef) (a' := ?_) #[true, true, true, true, true, true, true, true, true, true, true, true, true, true, true, true, true, true, true, true, false, false, false, false, false, false] rfl rfl (by kernel_rfl) (fun _ _ _ h => h) (Or.inr ⟨by rfl, rfl⟩) ?_ ?_
                    rotate_left
                    · simp only [Act.put, List.setIfInBounds_toArray, List.set_cons_zero, List.set_cons_succ, i64_w, i32_w]
                      rfl
                    refine pure_ (i := 20) (N := some 109) (v := undef) (a' := ?_) #[true, true, true, true, true, true, true, true, true, true, true, true, true, true, true, true, true, true, true, true, true, false, false, false, false, false] rfl rfl (by kernel_rfl) (fun _ _ _ h => h) (Or.inr ⟨by rfl, rfl⟩) ?_ ?_
                    rotate_left
                    · simp only [Act.put, List.setIfInBounds_toArray, List.set_cons_zero, List.set_cons_succ, i64_w, i32_w]
                      rfl
                    refine pure_ (i := 21) (N := some 110) (v := undef) (a' := ?_) #[true, true, true, true, true, true, true, true, true, true, true, true, true, true, true, true, true, true, true, true, true, true, false, false, false, false] rfl rfl (by kernel_rfl) (fun _ _ _ h => h) (Or.inr ⟨by rfl, rfl⟩) ?_ ?_
                    rotate_left
                    · simp only [Act.put, List.setIfInBounds_toArray, List.set_cons_zero, List.set_cons_succ, i64_w, i32_w]
                      rfl
                    refine pure_ (i := 22) (N := some 111) (v := ?_) (a' := ?_) #[true, true, true, true, true, true, true, true, true, true, true, true, true, true, true, true, true, true, true, true, true, true, true, false, false, false] rfl rfl (by kernel_rfl) (fun _ _ _ h => h) (Or.inl ⟨by rfl, ?_⟩) ?_ ?_
                    rotate_left
                    · intro w'
                      go_simp
                      with_reducible rfl
                    rotate_left
                    · simp only [Act.put, List.setIfInBounds_toArray, List.set_cons_zero, List.set_cons_succ, i64_w, i32_w]
                      rfl
                    refine pure_ (i := 23) (N := some 112) (v := ?_) (a' := ?_) #[true, true, true, true, true, true, true, true, true, true, true, true, true, true, true, true, true, true, true, true, true, true, true, true, false, false] rfl rfl (by kernel_rfl) (fun _ _ _ h => h) (Or.inl ⟨by rfl, ?_⟩) ?_ ?_
                    rotate_left
                    · intro w'
                      go_simp
                      with_reducible rfl
                    rotate_left
                    · simp only [Act.put, List.setIfInBounds_toArray, List.set_cons_zero, List.set_cons_succ, i64_w, i32_w]
                      rfl
                    refine pure_ (i := 24) (N := some 113) (v := ?_) (a' := ?_) #[true, true, true, true, true, true, true, true, true, true, true, true, true, true, true, true, true, true, true, true, true, true, true, true, true, false] rfl rfl (by kernel_rfl) (fun _ _ _ h => h) (Or.inl ⟨by rfl, ?_⟩) ?_ ?_
                    rotate_left
                    · intro w'
                      go_simp
                      with_reducible rfl
                    rotate_left
                    · simp only [Act.put, List.setIfInBounds_toArray, List.set_cons_zero, List.set_cons_succ, i64_w, i32_w]
                      rfl
                    refine last_ (i := 25) (N := none) #[true, true, true, true, true, true, true, true, true, true, true, true, true, true, true, true, true, true, true, true, true, true, true, true, true, true] rfl rfl (by kernel_rfl) (by decide) (fun K hK => ?_)
                    refine skip_ (w1 := ?_) (by rfl) rfl ?_ ?_
                    rotate_left
                    · go_simp
                      rfl
                    refine hK.out _ _ ?_
                    clear hK K
                    refine done_ (by kernel_rfl) ?_
                    go_wp2
                    go_meet
                    case rel => exact ⟨by have h := HD.out.setok HG.out (false); rw [Bool.false_and]; exact h⟩
                  | true =>
                    by_cases hk0 : k = 0
                    · have q0 : ((k : Int) == 0) = true := beq_iff_eq.2 (by omega)
                      have hb2 : b = true := by rw [← HBB.out, q0, Bool.true_or]
                      subst hb2
                      clear hk0
                      have HD := Lib.hid (H8.out.quiet HG.out (drewB _))
                      obtain ⟨b0_d, b1_d, b2_d, b3_d, b4_d, b5_d, b6_d, b7_d⟩ := box8 HD.out.2.2.2
                      have c0_d := HD.out.c0
                      have c1_d := HD.out.c1
                      have f0_d := HD.out.f0
                      have f1_d := HD.out.f1
                      clear b0_8 b1_8 b2_8 b3_8 b4_8 b5_8 b6_8 b7_8 c0_8 c1_8 f0_8 f1_8
                      refine start_ (n := 26) (S := fun w' => w'.cell? ⟨g, 1, none⟩ = some (.bool true)) (ds := [25]) #[false, false, false, false, false, false, false, false, false, false, false, false, false, false, false, false, false, false, false, false, false, false, false, false, false, false] (by kernel_rfl) rfl rfl (c1_d) (fun hHeld => ?_)
                      refine pure_ (i := 0) (N := some 89) (v := ?_) (a' := ?_) #[true, false, false, false, false, false, false, false, false, false, false, false, false, false, false, false, false, false, false, false, false, false, false, false, false, false] rfl rfl (by kernel_rfl) (fun _ _ _ h => h) (Or.inl ⟨by rfl, ?_⟩) ?_ ?_
                      rotate_left
                      · intro w'
                        go_simp
                        with_reducible rfl
                      rotate_left
                      · simp only [Act.put, List.setIfInBounds_toArray, List.set_cons_zero, List.set_cons_succ, i64_w, i32_w]
                        rfl
                      refine pure_ (i := 1) (N := some 90) (v := ?_) (a' := ?_) #[true, true, false, false, false, false, false, false, false, false, false, false, false, false, false, false, false, false, false, false, false, false, false, false, false, false] rfl rfl (by kernel_rfl) (fun _ _ _ h => h) (Or.inl ⟨by rfl, ?_⟩) ?_ ?_
                      rotate_left
                      · intro w'
                        go_simp
                        with_reducible rfl
                      rotate_left
                      · simp only [Act.put, List.setIfInBounds_toArray, List.set_cons_zero, List.set_cons_succ, i64_w, i32_w]
                        rfl
                      refine pure_ (i := 2) (N := some 91) (v := ?_) (a' := ?_) #[true, true, true, false, false, false, false, false, false, false, false, false, false, false, false, false, false, false, false, false, false, false, false, false, false, false] rfl rfl (by kernel_rfl) (fun _ _ _ h => h) (Or.inl ⟨by rfl, ?_⟩) ?_ ?_
                      rotate_left
                      · intro w'
                        go_simp
                        with_reducible rfl
                      rotate_left
                      · simp only [Act.put, List.setIfInBounds_toArray, List.set_cons_zero, List.set_cons_succ, i64_w, i32_w]
                        rfl
                      refine pure_ (i := 3) (N := some 92) (v := ?_) (a' := ?_) #[true, true, true, true, false, false, false, false, false, false, false, false, false, false, false, false, false, false, false, false, false, false, false, false, false, false] rfl rfl (by kernel_rfl) (fun _ _ _ h => h) (Or.inl ⟨by rfl, ?_⟩) ?_ ?_
                      rotate_left
                      · intro w'
                        go_simp
                        with_reducible rfl
                      rotate_left
                      · simp only [Act.put, List.setIfInBounds_toArray, List.set_cons_zero, List.set_cons_succ, i64_w, i32_w]
                        rfl
                      refine take_ (i := 4) (N := some 93) (v := ?_) (a' := ?_) #[true, true, true, true, true, false, false, false, false, false, false, false, false, false, false, false, false, false, false, false, false, false, false, false, false, false] rfl rfl (by kernel_rfl) (fun _ _ _ h => h) (Or.inl ⟨by rfl, ?_⟩) hHeld ?_ ?_
                      rotate_left
                      · intro w' s0
                        go_simp
                        with_reducible rfl
                      rotate_left
                      · simp only [Act.put, List.setIfInBounds_toArray, List.set_cons_zero, List.set_cons_succ, i64_w, i32_w]
                        rfl
                      refine pure_ (i := 5) (N := some 94) (v := ?_) (a' := ?_) #[true, true, true, true, true, true, false, false, false, false, false, false, false, false, false, false, false, false, false, false, false, false, false, false, false, false] rfl rfl (by kernel_rfl) (fun _ _ _ h => h) (Or.inl ⟨by rfl, ?_⟩) ?_ ?_
                      rotate_left
                      · intro w'
                        go_simp
                        with_reducible rfl
                      rotate_left
                      · simp only [Act.put, List.setIfInBounds_toArray, List.set_cons_zero, List.set_cons_succ, i64_w, i32_w]
                        rfl
                      refine pure_ (i := 6) (N := some 95) (v := ?_) (a' := ?_) #[true, true, true, true, true, true, true, false, false, false, false, false, false, false, false, false, false, false, false, false, false, false, false, false, false, false] rfl rfl (by kernel_rfl) (fun _ _ _ h => h) (Or.inl ⟨by rfl, ?_⟩) ?_ ?_
                      rotate_left
                      · intro w'
                        go_simp
                        with_reducible rfl
                      rotate_left
                      · simp only [Act.put, List.setIfInBounds_toArray, List.set_cons_zero, List.set_cons_succ, i64_w, i32_w]
                        rfl
                      refine pure_ (i := 7) (N := some 96) (v := ?_) (a' := ?_) #[true, true, true, true, true, true, true, true, false, false, false, false, false, false, false, false, false, false, false, false, false, false, false, false, false, false] rfl rfl (by kernel_rfl) (fun _ _ _ h => h) (Or.inl ⟨by rfl, ?_⟩) ?_ ?_
                      rotate_left
                      · intro w'
                        go_simp
                        with_reducible rfl
                      rotate_left
                      · simp only [Act.put, List.setIfInBounds_toArray, List.set_cons_zero, List.set_cons_succ, i64_w, i32_w]
                        rfl
                      refine pure_ (i := 8) (N := some 97) (v := ?_) (a' := ?_) #[true, true, true, true, true, true, true, true, true, false, false, false, false, false, false, false, false, false, false, false, false, false, false, false, false, false] rfl rfl (by kernel_rfl) (fun _ _ _ h => h) (Or.inl ⟨by rfl, ?_⟩) ?_ ?_
                      rotate_left
                      · intro w'
                        go_simp
                        with_reducible rfl
                      rotate_left
                      · simp only [Act.put, List.setIfInBounds_toArray, List.set_cons_zero, List.set_cons_succ, i64_w, i32_w]
                        rfl
                      refine pure_ (i := 9) (N := some 98) (v := undef) (a' := ?_) #[true, true, true, true, true, true, true, true, true, true, false, false, false, false, false, false, false, false, false, false, false, false, false, false, false, false] rfl rfl (by kernel_rfl) (fun _ _ _ h => h) (Or.inr ⟨by rfl, rfl⟩) ?_ ?_
                      rotate_left
                      · simp only [Act.put, List.setIfInBounds_toArray, List.set_cons_zero, List.set_cons_succ, i64_w, i32_w]
                        rfl
                      refine pure_ (i := 10) (N := some 99) (v := undef) (a' := ?_) #[true, true, true, true, true, true, true, true, true, true, true, false, false, false, false, false, false, false, false, false, false, false, false, false, false, false] rfl rfl (by kernel_rfl) (fun _ _ _ h => h) (Or.inr ⟨by rfl, rfl⟩) ?_ ?_
                      rotate_left
                      · simp only [Act.put, List.setIfInBounds_toArray, List.set_cons_zero, List.set_cons_succ, i64_w, i32_w]
                        rfl
                      refine pure_ (i := 11) (N := some 100) (v := undef) (a' := ?_) #[true, true, true, true, true, true, true, true, true, true, true, true, false, false, false, false, false, false, false, false, false, false, false, false, false, false] rfl rfl (by kernel_rfl) (fun _ _ _ h => h) (Or.inr ⟨by rfl, rfl⟩) ?_ ?_
                      rotate_left
                      · simp only [Act.put, List.setIfInBounds_toArray, List.set_cons_zero, List.set_cons_succ, i64_w, i32_w]
                        rfl
                      refine pure_ (i := 12) (N := some 101) (v := undef) (a' := ?_) #[true, true, true, true, true, true, true, true, true, true, true, true, true, false, false, false, false, false, false, false, false, false, false, false, false, false] rfl rfl (by kernel_rfl) (fun _ _ _ h => h) (Or.inr ⟨by rfl, rfl⟩) ?_ ?_
                      rotate_left
                      · simp only [Act.put, List.setIfInBounds_toArray, List.set_cons_zero, List.set_cons_succ, i64_w, i32_w]
                        rfl
                      refine pure_ (i := 13) (N := some 102) (v := undef) (a' := ?_) #[true, true, true, true, true, true, true, true, true, true, true, true, true, true, false, false, false, false, false, false, false, false, false, false, false, false] rfl rfl (by kernel_rfl) (fun _ _ _ h => h) (Or.inr ⟨by rfl, rfl⟩) ?_ ?_
                      rotate_left
                      · simp only [Act.put, List.setIfInBounds_toArray, List.set_cons_zero, List.set_cons_succ, i64_w, i32_w]
                        rfl
                      refine pure_ (i := 14) (N := some 103) (v := undef) (a' := ?_) #[true, true, true, true, true, true, true, true, true, true, true, true, true, true, true, false, false, false, false, false, false, false, false, false, false, false] rfl rfl (by kernel_rfl) (fun _ _ _ h => h) (Or.inr ⟨by rfl, rfl⟩) ?_ ?_
                      rotate_left
                      · simp only [Act.put, List.setIfInBounds_toArray, List.set_cons_zero, List.set_cons_succ, i64_w, i32_w]
                        rfl
                      refine pure_ (i := 15) (N := some 104) (v := undef) (a' := ?_) #[true, true, true, true, true, true, true, true, true, true, true, true, true, true, true, true, false, false, false, false, false, false, false, false, false, false] rfl rfl (by kernel_rfl) (fun _ _ _ h => h) (Or.inr ⟨by rfl, rfl⟩) ?_ ?_
                      rotate_left
                      · simp only [Act.put, List.setIfInBounds_toArray, List.set_cons_zero, List.set_cons_succ, i64_w, i32_w]
                        rfl
                      refine pure_ (i := 16) (N := some 105) (v := undef) (a' := ?_) #[true, true, true, true, true, true, true, true, true, true, true, true, true, true, true, true, true, false, false, false, false, false, false, false, false, false] rfl rfl (by kernel_rfl) (fun _ _ _ h => h) (Or.inr ⟨by rfl, rfl⟩) ?_ ?_
                      rotate_left
                      · simp only [Act.put, List.setIfInBounds_toArray, List.set_cons_zero, List.set_cons_succ, i64_w, i32_w]
                        rfl
                      refine pure_ (i := 17) (N := some 106) (v := undef) (a' := ?_) #[true, true, true, true, true, true, true, true, true, true, true, true, true, true, true, true, true, true, false, false, false, false, false, false, false, false] rfl rfl (by kernel_rfl) (fun _ _ _ h => h) (Or.inr ⟨by rfl, rfl⟩) ?_ ?_
                      rotate_left
                      · simp only [Act.put, List.setIfInBounds_toArray, List.set_cons_zero, List.set_cons_succ, i64_w, i32_w]
                        rfl
                      refine pure_ (i := 18) (N := some 107) (v := undef) (a' := ?_) #[true, true, true, true, true, true, true, true, true, true, true, true, true, true, true, true, true, true, true, false, false, false, false, false, false, false] rfl rfl (by kernel_rfl) (fun _ _ _ h => h) (Or.inr ⟨by rfl, rfl⟩) ?_ ?_
                      rotate_left
                      · simp only [Act.put, List.setIfInBounds_toArray, List.set_cons_zero, List.set_cons_succ, i64_w, i32_w]
                        rfl
                      refine pure_ (i := 19) (N := some 108) (v := undef) (a' := ?_) #[true, true, true, true, true, true, true, true, true, true, true, true, true, true, true, true, true, true, true, true, false, false, false, false, false, false] rfl rfl (by kernel_rfl) (fun _ _ _ h => h) (Or.inr ⟨by rfl, rfl⟩) ?_ ?_
                      rotate_left
                      · simp only [Act.put, List.setIfInBounds_toArray, List.set_cons_zero, List.set_cons_succ, i64_w, i32_w]
                        rfl
                      refine pure_ (i := 20) (N := some 109) (v := undef) (a' := ?_) #[true, true, true, true, true, true, true, true, true, true, true, true, true, true, true, true, true, true, true, true, true, false, false, false, false, false] rfl rfl (by kernel_rfl) (fun _ _ _ h => h) (Or.inr ⟨by rfl, rfl⟩) ?_ ?_
                      rotate_left
                      · simp only [Act.put, List.setIfInBounds_toArray, List.set_cons_zero, List.set_cons_succ, i64_w, i32_w]
                        rfl
                      refine pure_ (i := 21) (N := some 110) (v := ?_) (a' := ?_) #[true, true, true, true, true, true, true, true, true, true, true, true, true, true, true, true, true, true, true, true, true, true, false, false, false, false] rfl rfl (by kernel_rfl) (fun _ _ _ h => h) (Or.inl ⟨by rfl, ?_⟩) ?_ ?_
                      rotate_left
                      · intro w'
                        go_simp
                        with_reducible rfl
                      rotate_left
                      · simp only [Act.put, List.setIfInBounds_toArray, List.set_cons_zero, List.set_cons_succ, i64_w, i32_w]
                        rfl
                      refine pure_ (i := 22) (N := some 111) (v := ?_) (a' := ?_) #[true, true, true, true, true, true, true, true, true, true, true, true, true, true, true, true, true, true, true, true, true, true, true, false, false, false] rfl rfl (by kernel_rfl) (fun _ _ _ h => h) (Or.inl ⟨by rfl, ?_⟩) ?_ ?_
                      rotate_left
                      · intro w'
                        go_simp
                        with_reducible rfl
                      rotate_left
                      · simp only [Act.put, List.setIfInBounds_toArray, List.set_cons_zero, List.set_cons_succ, i64_w, i32_w]
                        rfl
                      refine pure_ (i := 23) (N := some 112) (v := ?_) (a' := ?_) #[true, true, true, true, true, true, true, true, true, true, true, true, true, true, true, true, true, true, true, true, true, true, true, true, false, false] rfl rfl (by kernel_rfl) (fun _ _ _ h => h) (Or.inl ⟨by rfl, ?_⟩) ?_ ?_
                      rotate_left
                      · intro w'
                        go_simp
                        with_reducible rfl
                      rotate_left
                      · simp only [Act.put, List.setIfInBounds_toArray, List.set_cons_zero, List.set_cons_succ, i64_w, i32_w]
                        rfl
                      refine pure_ (i := 24) (N := some 113) (v := ?_) (a' := ?_) #[true, true, true, true, true, true, true, true, true, true, true, true, true, true, true, true, true, true, true, true, true, true, true, true, true, false] rfl rfl (by kernel_rfl) (fun _ _ _ h => h) (Or.inl ⟨by rfl, ?_⟩) ?_ ?_
                      rotate_left
                      · intro w'
                        go_simp
                        with_reducible rfl
                      rotate_left
                      · simp only [Act.put, List.setIfInBounds_toArray, List.set_cons_zero, List.set_cons_succ, i64_w, i32_w]
                        rfl
                      refine last_ (i := 25) (N := none) #[true, true, true, true, true, true, true, true, true, true, true, true, true, true, true, true, true, true, true, true, true, true, true, true, true, true] rfl rfl (by kernel_rfl) (by decide) (fun K hK => ?_)
                      refine skip_ (w1 := ?_) (by rfl) rfl ?_ ?_
                      rotate_left
                      · go_simp
                        rfl
                      refine hK.out _ _ ?_
                      clear hK K
                      refine done_ (by kernel_rfl) ?_
                      go_wp2
                      go_meet
                      case rel => exact ⟨by have h := HD.out.setok HG.out (true); rw [Bool.true_and]; exact h⟩
                    · have q0 : ((k : Int) == 0) = false := beq_eq_false_iff_ne.2 (by omega)
                      have hb2 : b = decide (rd x6 ((k : Int) - 1) < rd x6 k) := by rw [← HBB.out, q0, Bool.false_or]
                      subst hb2
                      obtain ⟨ad6', e6', z6'⟩ := Kd.at_int H6.out ((k : Int) - 1) (by omega) (by have := HKL.out; omega)
                      injection e6' with e6'
                      subst e6'
                      rw [show ((k : Int) - 1).toNat = k - 1 by omega] at z6'
                      have j4 : (1 : Int) ≤ (k : Int) := by omega
                      have j5 : k - 1 < x6.length := by have := HKL.out; omega
                      have j0 : (0 : Int) ≤ (k : Int) - 1 := by omega
                      have j1 : (k : Int) - 1 < (x6.length : Int) := by have := HKL.out; omega
                      have j2 : IntKind.i64.wrap ((k : Int) - 1) = (k : Int) - 1 := by rw [IntKind.wrap_i64]; have := HKL.out; have := HL.out; have := HX.out; omega
                      have j3 : wrap64 ((k : Int) - 1) = (k : Int) - 1 := (i64_w _).symm.trans j2
                      have HD := Lib.hid (H8.out.quiet HG.out (drewB _))
                      obtain ⟨b0_d, b1_d, b2_d, b3_d, b4_d, b5_d, b6_d, b7_d⟩ := box8 HD.out.2.2.2
                      have c0_d := HD.out.c0
                      have c1_d := HD.out.c1
                      have f0_d := HD.out.f0
                      have f1_d := HD.out.f1
                      have z6d := pw_cell_below HD.out.2.1 z6
                      have z6d' := pw_cell_below HD.out.2.1 z6'
                      clear b0_8 b1_8 b2_8 b3_8 b4_8 b5_8 b6_8 b7_8 c0_8 c1_8 f0_8 f1_8
                      refine start_ (n := 26) (S := fun w' => w'.cell? ⟨g, 1, none⟩ = some (.bool true) ∧ w'.cell? ⟨w.heap.size, 6, none⟩ = some (.slice (some ad6) x6.length c6) ∧ w'.cell? (ad6.add (k - 1)) = some (.int .i64 (rd x6 ((k : Int) - 1))) ∧ w'.cell? (ad6.add k) = some (.int .i64 (rd x6 (k : Int)))) (ds := [25]) #[false, false, false, false, false, false, false, false, false, false, false, false, false, false, false, false, false, false, false, false, false, false, false, false, false, false] (by kernel_rfl) rfl rfl ⟨c1_d, b6_d, z6d', z6d⟩ (fun hHeld => ?_)
                      refine pure_ (i := 0) (N := some 89) (v := ?_) (a' := ?_) #[true, false, false, false, false, false, false, false, false, false, false, false, false, false, false, false, false, false, false, false, false, false, false, false, false, false] rfl rfl (by kernel_rfl) (fun _ _ _ h => h) (Or.inl ⟨by rfl, ?_⟩) ?_ ?_
                      rotate_left
                      · intro w'
                        go_simp
                        with_reducible rfl
                      rotate_left
                      · simp only [Act.put, List.setIfInBounds_toArray, List.set_cons_zero, List.set_cons_succ, i64_w, i32_w]
                        rfl
                      refine pure_ (i := 1) (N := some 90) (v := ?_) (a' := ?_) #[true, true, false, false, false, false, false, false, false, false, false, false, false, false, false, false, false, false, false, false, false, false, false, false, false, false] rfl rfl (by kernel_rfl) (fun _ _ _ h => h) (Or.inl ⟨by rfl, ?_⟩) ?_ ?_
                      rotate_left
                      · intro w'
                        go_simp
                        with_reducible rfl
                      rotate_left
                      · simp only [Act.put, List.setIfInBounds_toArray, List.set_cons_zero, List.set_cons_succ, i64_w, i32_w]
                        rfl
                      refine pure_ (i := 2) (N := some 91) (v := ?_) (a' := ?_) #[true, true, true, false, false, false, false, false, false, false, false, false, false, false, false, false, false, false, false, false, false, false, false, false, false, false] rfl rfl (by kernel_rfl) (fun _ _ _ h => h) (Or.inl ⟨by rfl, ?_⟩) ?_ ?_
                      rotate_left
                      · intro w'
                        go_simp
                        with_reducible rfl
                      rotate_left
                      · simp only [Act.put, List.setIfInBounds_toArray, List.set_cons_zero, List.set_cons_succ, i64_w, i32_w]
                        rfl
                      refine pure_ (i := 3) (N := some 92) (v := ?_) (a' := ?_) #[true, true, true, true, false, false, false, false, false, false, false, false, false, false, false, false, false, false, false, false, false, false, false, false, false, false] rfl rfl (by kernel_rfl) (fun _ _ _ h => h) (Or.inl ⟨by rfl, ?_⟩) ?_ ?_
                      rotate_left
                      · intro w'
                        go_simp
                        with_reducible rfl
                      rotate_left
                      · simp only [Act.put, List.setIfInBounds_toArray, List.set_cons_zero, List.set_cons_succ, i64_w, i32_w]
                        rfl
                      refine take_ (i := 4) (N := some 93) (v := ?_) (a' := ?_) #[true, true, true, true, true, false, false, false, false, false, false, false, false, false, false, false, false, false, false, false, false, false, false, false, false, false] rfl rfl (by kernel_rfl) (fun _ _ _ h => h) (Or.inl ⟨by rfl, ?_⟩) hHeld ?_ ?_
                      rotate_left
                      · rintro w' ⟨s0, s1, s2, s3⟩
                        go_simp
                        with_reducible rfl
                      rotate_left
                      · simp only [Act.put, List.setIfInBounds_toArray, List.set_cons_zero, List.set_cons_succ, i64_w, i32_w]
                        rfl
                      refine pure_ (i := 5) (N := some 94) (v := ?_) (a' := ?_) #[true, true, true, true, true, true, false, false, false, false, false, false, false, false, false, false, false, false, false, false, false, false, false, false, false, false] rfl rfl (by kernel_rfl) (fun _ _ _ h => h) (Or.inl ⟨by rfl, ?_⟩) ?_ ?_
                      rotate_left
                      · intro w'
                        go_simp
                        with_reducible rfl
                      rotate_left
                      · simp only [Act.put, List.setIfInBounds_toArray, List.set_cons_zero, List.set_cons_succ, i64_w, i32_w]
                        rfl
                      refine pure_ (i := 6) (N := some 95) (v := ?_) (a' := ?_) #[true, true, true, true, true, true, true, false, false, false, false, false, false, false, false, false, false, false, false, false, false, false, false, false, false, false] rfl rfl (by kernel_rfl) (fun _ _ _ h => h) (Or.inl ⟨by rfl, ?_⟩) ?_ ?_
                      rotate_left
                      · intro w'
                        go_simp
                        with_reducible rfl
                      rotate_left
                      · simp only [Act.put, List.setIfInBounds_toArray, List.set_cons_zero, List.set_cons_succ, i64_w, i32_w]
                        rfl
                      refine pure_ (i := 7) (N := some 96) (v := ?_) (a' := ?_) #[true, true, true, true, true, true, true, true, false, false, false, false, false, false, false, false, false, false, false, false, false, false, false, false, false, false] rfl rfl (by kernel_rfl) (fun _ _ _ h => h) (Or.inl ⟨by rfl, ?_⟩) ?_ ?_
                      rotate_left
                      · intro w'
                        go_simp
                        with_reducible rfl
                      rotate_left
                      · simp only [Act.put, List.setIfInBounds_toArray, List.set_cons_zero, List.set_cons_succ, i64_w, i32_w]
                        rfl
                      refine pure_ (i := 8) (N := some 97) (v := ?_) (a' := ?_) #[true, true, true, true, true, true, true, true, true, false, false, false, false, false, false, false, false, false, false, false, false, false, false, false, false, false] rfl rfl (by kernel_rfl) (fun _ _ _ h => h) (Or.inl ⟨by rfl, ?_⟩) ?_ ?_
                      rotate_left
                      · intro w'
                        go_simp
                        with_reducible rfl
                      rotate_left
                      · simp only [Act.put, List.setIfInBounds_toArray, List.set_cons_zero, List.set_cons_succ, i64_w, i32_w]
                        rfl
                      refine pure_ (i := 9) (N := some 98) (v := ?_) (a' := ?_) #[true, true, true, true, true, true, true, true, true, true, false, false, false, false, false, false, false, false, false, false, false, false, false, false, false, false] rfl rfl (by kernel_rfl) (fun _ _ _ h => h) (Or.inl ⟨by rfl, ?_⟩) ?_ ?_
                      rotate_left
                      · intro w'
                        go_simp
                        with_reducible rfl
                      rotate_left
                      · simp only [Act.put, List.setIfInBounds_toArray, List.set_cons_zero, List.set_cons_succ, i64_w, i32_w]
                        rfl
                      refine pure_ (i := 11) (N := some 100) (v := ?_) (a' := ?_) #[true, true, true, true, true, true, true, true, true, true, false, true, false, false, false, false, false, false, false, false, false, false, false, false, false, false] rfl rfl (by kernel_rfl) (fun _ _ _ h => h) (Or.inl ⟨by rfl, ?_⟩) ?_ ?_
                      rotate_left
                      · intro w'
                        go_simp
                        with_reducible rfl
                      rotate_left
                      · simp only [Act.put, List.setIfInBounds_toArray, List.set_cons_zero, List.set_cons_succ, i64_w, i32_w]
                        rfl
                      refine pure_ (i := 12) (N := some 101) (v := ?_) (a' := ?_) #[true, true, true, true, true, true, true, true, true, true, false, true, true, false, false, false, false, false, false, false, false, false, false, false, false, false] rfl rfl (by kernel_rfl) (fun _ _ _ h => h) (Or.inl ⟨by rfl, ?_⟩) ?_ ?_
                      rotate_left
                      · intro w'
                        go_simp
                        with_reducible rfl
                      rotate_left
                      · simp only [Act.put, List.setIfInBounds_toArray, List.set_cons_zero, List.set_cons_succ, i64_w, i32_w]
                        rfl
                      refine pure_ (i := 15) (N := some 104) (v := ?_) (a' := ?_) #[true, true, true, true, true, true, true, true, true, true, false, true, true, false, false, true, false, false, false, false, false, false, false, false, false, false] rfl rfl (by kernel_rfl) (fun _ _ _ h => h) (Or.inl ⟨by rfl, ?_⟩) ?_ ?_
                      rotate_left
                      · intro w'
                        go_simp
                        with_reducible rfl
                      rotate_left
                      · simp only [Act.put, List.setIfInBounds_toArray, List.set_cons_zero, List.set_cons_succ, i64_w, i32_w]
                        rfl
                      refine pure_ (i := 17) (N := some 106) (v := ?_) (a' := ?_) #[true, true, true, true, true, true, true, true, true, true, false, true, true, false, false, true, false, true, false, false, false, false, false, false, false, false] rfl rfl (by kernel_rfl) (fun _ _ _ h => h) (Or.inl ⟨by rfl, ?_⟩) ?_ ?_
                      rotate_left
                      · intro w'
                        go_simp
                        with_reducible rfl
                      rotate_left
                      · simp only [Act.put, List.setIfInBounds_toArray, List.set_cons_zero, List.set_cons_succ, i64_w, i32_w]
                        rfl
                      refine take_ (i := 10) (N := some 99) (v := ?_) (a' := ?_) #[true, true, true, true, true, true, true, true, true, true, true, true, true, false, false, true, false, true, false, false, false, false, false, false, false, false] rfl rfl (by kernel_rfl) (fun _ _ _ h => h) (Or.inl ⟨by rfl, ?_⟩) hHeld ?_ ?_
                      rotate_left
                      · rintro w' ⟨s0, s1, s2, s3⟩
                        go_simp
                        with_reducible rfl
                      rotate_left
                      · simp only [Act.put, List.setIfInBounds_toArray, List.set_cons_zero, List.set_cons_succ, i64_w, i32_w]
                        rfl
                      refine pure_ (i := 13) (N := some 102) (v := ?_) (a' := ?_) #[true, true, true, true, true, true, true, true, true, true, true, true, true, true, false, true, false, true, false, false, false, false, false, false, false, false] rfl rfl (by kernel_rfl) (fun _ _ _ h => h) (Or.inl ⟨by rfl, ?_⟩) ?_ ?_
                      rotate_left
                      · intro w'
                        go_simp
                        with_reducible rfl
                      rotate_left
                      · simp only [Act.put, List.setIfInBounds_toArray, List.set_cons_zero, List.set_cons_succ, i64_w, i32_w]
                        rfl
                      refine take_ (i := 14) (N := some 103) (v := ?_) (a' := ?_) #[true, true, true, true, true, true, true, true, true, true, true, true, true, true, true, true, false, true, false, false, false, false, false, false, false, false] rfl rfl (by kernel_rfl) (fun _ _ _ h => h) (Or.inl ⟨by rfl, ?_⟩) hHeld ?_ ?_
                      rotate_left
                      · rintro w' ⟨s0, s1, s2, s3⟩
                        go_simp
                        with_reducible rfl
                      rotate_left
                      · simp only [Act.put, List.setIfInBounds_toArray, List.set_cons_zero, List.set_cons_succ, i64_w, i32_w]
                        rfl
                      refine take_ (i := 16) (N := some 105) (v := ?_) (a' := ?_) #[true, true, true, true, true, true, true, true, true, true, true, true, true, true, true, true, true, true, false, false, false, false, false, false, false, false] rfl rfl (by kernel_rfl) (fun _ _ _ h => h) (Or.inl ⟨by rfl, ?_⟩) hHeld ?_ ?_
                      rotate_left
                      · rintro w' ⟨s0, s1, s2, s3⟩
                        go_simp
                        with_reducible rfl
                      rotate_left
                      · simp only [Act.put, List.setIfInBounds_toArray, List.set_cons_zero, List.set_cons_succ, i64_w, i32_w]
                        rfl
                      refine pure_ (i := 18) (N := some 107) (v := ?_) (a' := ?_) #[true, true, true, true, true, true, true, true, true, true, true, true, true, true, true, true, true, true, true, false, false, false, false, false, false, false] rfl rfl (by kernel_rfl) (fun _ _ _ h => h) (Or.inl ⟨by rfl, ?_⟩) ?_ ?_
                      rotate_left
                      · intro w'
                        go_simp
                        with_reducible rfl
                      rotate_left
                      · simp only [Act.put, List.setIfInBounds_toArray, List.set_cons_zero, List.set_cons_succ, i64_w, i32_w]
                        rfl
                      refine take_ (i := 19) (N := some 108) (v := ?_) (a' := ?_) #[true, true, true, true, true, true, true, true, true, true, true, true, true, true, true, true, true, true, true, true, false, false, false, false, false, false] rfl rfl (by kernel_rfl) (fun _ _ _ h => h) (Or.inl ⟨by rfl, ?_⟩) hHeld ?_ ?_
                      rotate_left
                      · rintro w' ⟨s0, s1, s2, s3⟩
                        go_simp
                        with_reducible rfl
                      rotate_left
                      · simp only [Act.put, List.setIfInBounds_toArray, List.set_cons_zero, List.set_cons_succ, i64_w, i32_w]
                        rfl
                      refine pure_ (i := 20) (N := some 109) (v := ?_) (a' := ?_) #[true, true, true, true, true, true, true, true, true, true, true, true, true, true, true, true, true, true, true, true, true, false, false, false, false, false] rfl rfl (by kernel_rfl) (fun _ _ _ h => h) (Or.inl ⟨by rfl, ?_⟩) ?_ ?_
                      rotate_left
                      · intro w'
                        go_simp
                        with_reducible rfl
                      rotate_left
                      · simp only [Act.put, List.setIfInBounds_toArray, List.set_cons_zero, List.set_cons_succ, i64_w, i32_w]
                        rfl
                      refine pure_ (i := 21) (N := some 110) (v := ?_) (a' := ?_) #[true, true, true, true, true, true, true, true, true, true, true, true, true, true, true, true, true, true, true, true, true, true, false, false, false, false] rfl rfl (by kernel_rfl) (fun _ _ _ h => h) (Or.inl ⟨by rfl, ?_⟩) ?_ ?_
                      rotate_left
                      · intro w'
                        go_simp
                        with_reducible rfl
                      rotate_left
                      · simp only [Act.put, List.setIfInBounds_toArray, List.set_cons_zero, List.set_cons_succ, i64_w, i32_w]
                        rfl
                      refine pure_ (i := 22) (N := some 111) (v := ?_) (a' := ?_) #[true, true, true, true, true, true, true, true, true, true, true, true, true, true, true, true, true, true, true, true, true, true, true, false, false, false] rfl rfl (by kernel_rfl) (fun _ _ _ h => h) (Or.inl ⟨by rfl, ?_⟩) ?_ ?_
                      rotate_left
                      · intro w'
                        go_simp
                        with_reducible rfl
                      rotate_left
                      · simp only [Act.put, List.setIfInBounds_toArray, List.set_cons_zero, List.set_cons_succ, i64_w, i32_w]
                        rfl
                      refine pure_ (i := 23) (N := some 112) (v := ?_) (a' := ?_) #[true, true, true, true, true, true, true, true, true, true, true, true, true, true, true, true, true, true, true, true, true, true, true, true, false, false] rfl rfl (by kernel_rfl) (fun _ _ _ h => h) (Or.inl ⟨by rfl, ?_⟩) ?_ ?_
                      rotate_left
                      · intro w'
                        go_simp
                        with_reducible rfl
                      rotate_left
                      · simp only [Act.put, List.setIfInBounds_toArray, List.set_cons_zero, List.set_cons_succ, i64_w, i32_w]
                        rfl
                      refine pure_ (i := 24) (N := some 113) (v := ?_) (a' := ?_) #[true, true, true, true, true, true, true, true, true, true, true, true, true, true, true, true, true, true, true, true, true, true, true, true, true, false] rfl rfl (by kernel_rfl) (fun _ _ _ h => h) (Or.inl ⟨by rfl, ?_⟩) ?_ ?_
                      rotate_left
                      · intro w'
                        go_simp
                        with_reducible rfl
                      rotate_left
                      · simp only [Act.put, List.setIfInBounds_toArray, List.set_cons_zero, List.set_cons_succ, i64_w, i32_w]
                        rfl
                      refine last_ (i := 25) (N := none) #[true, true, true, true, true, true, true, true, true, true, true, true, true, true, true, true, true, true, true, true, true, true, true, true, true, true] rfl rfl (by kernel_rfl) (by decide) (fun K hK => ?_)
                      refine skip_ (w1 := ?_) (by rfl) rfl ?_ ?_
                      rotate_left
                      · go_simp
                        rfl
                      refine hK.out _ _ ?_
                      clear hK K
                      refine done_ (by kernel_rfl) ?_
                      go_wp2
                      go_meet
                      case rel => exact ⟨by have h := HD.out.setok HG.out (decide (rd x6 ((k : Int) - 1) < rd x6 (k : Int))); rw [Bool.true_and]; exact h⟩
                case rest =>
                  clear b0_8 b1_8 b2_8 b3_8 b4_8 b5_8 b6_8 b7_8 c0_8 c1_8 f0_8 f1_8
                  clear H8 z8
                  have H9 := Lib.hid hcut.out
                  clear hcut
                  obtain ⟨b0_9, b1_9, b2_9, b3_9, b4_9, b5_9, b6_9, b7_9⟩ := box8 H9.out.2.2.2
                  have c0_9 := H9.out.c0
                  have c1_9 := H9.out.c1
                  have f0_9 := H9.out.f0
                  have f1_9 := H9.out.f1
                  have z9 := pw_cell_below H9.out.2.1 z6
                  have z1' := pw_cell_below H9.out.2.1 HZ.out
                  go_wp2_with fail
                  refine (signed_any w0 _ g _ (ql, qo && b) (rd x6 (k : Int)) 4 4 rfl (by omega) H9.out.1 H9.out.2.1 (by have := HLR.out; (try dsimp only at *); omega)).mono ?_
                  rintro e10 w10 ⟨rfl, hb10, v10, hw10, hs10⟩
                  have H10 := Lib.hid (H9.out.call HG.out hw10 hb10 hs10)
                  clear b0_9 b1_9 b2_9 b3_9 b4_9 b5_9 b6_9 b7_9 c0_9 c1_9 f0_9 f1_9
                  clear hb10 hw10 hs10 H9
                  obtain ⟨b0_10, b1_10, b2_10, b3_10, b4_10, b5_10, b6_10, b7_10⟩ := box8 H10.out.2.2.2
                  have c0_10 := H10.out.c0
                  have c1_10 := H10.out.c1
                  have f0_10 := H10.out.f0
                  have f1_10 := H10.out.f1
                  go_wp2_with fail
                  refine (signed_any w0 _ g _ (sgnS (rd x6 (k : Int)) 4 (ql, qo && b)) (wrap64 (rd x7 ((k : Int) + 1) - x0)) 4 4 rfl (by omega) H10.out.1 H10.out.2.1 (by have := HLR.out; simp only [sgn_len]; (try dsimp only at *); omega)).mono ?_
                  rintro e11 w11 ⟨rfl, hb11, v11, hw11, hs11⟩
                  have H11 := Lib.hid (H10.out.call HG.out hw11 hb11 hs11)
                  clear b0_10 b1_10 b2_10 b3_10 b4_10 b5_10 b6_10 b7_10 c0_10 c1_10 f0_10 f1_10
                  clear hb11 hw11 hs11 H10
                  have wk := wk_of HLT.out HN.out HL.out
                  have WN := Lib.hid (congrArg (Value.int IntKind.i64) wk)
                  have WM := Lib.hid ((congrArg Int.toNat wk).trans (Int.toNat_natCast _))
                  clear wk
                  go_wp2
                  go_roundw
                  case rel => exact ⟨k + 1, v11, HLT.out, WN.out, ⟨by rw [rows11, HQ.out, HBB.out]; exact H11.out⟩⟩
                  case measure => exact ms_val HLT.out WN.out
              · obtain rfl : k = N := by omega
                have d2 : decide ((k : Int) < (k : Int)) = false := decide_eq_false (by omega)
                as_aux_lemma =>
                go_wp2
                go_end0
                rw [HC.out, hN]
                exact HS.out.post
end Go.Proofs.Ytfnjbmpolggdeaa.CW
end
section
namespace Go.Proofs.Ytfnjbmpolggdeaa.CW
open Go.RowKit Go.Lib Go.Proofs.YtfnjbmpolggdeaaW.PrintWords Go.Proofs.YtfnjbmpolggdeaaW.PrintLast Go.Proofs.YtfnjbmpolggdeaaW.PrintMore
set_option linter.unusedVariables false
set_option linter.unusedSimpArgs false
attribute [local go_sem] max2_int min2_int max_two min_two max_three min_three max_four min_four
def oneF11 (x0 x1 : Int) (x2 : Bool) (x3 x4 x5 : Int) (x6 x7 : List Int) (s : List Nat × Bool) : List Nat × Bool := choS x0 x5 x6 x7 11 (opS x1 x2 s)
set_option maxHeartbeats 8000000 in
set_option maxRecDepth 100000 in
theorem one_f11 (w0 w : World) (g : Nat) (v : Value) (s : List Nat × Bool) (x0 x1 : Int) (x2 : Bool) (x3 x4 x5 : Int) (A6 : Option Addr) (c6 : Nat) (x6 : List Int) (A7 : Option Addr) (c7 : Nat) (x7 : List Int) (hx1 : 0 ≤ x1 ∧ x1 < 256) (hr6 : Kd.C (Kd.int .i64) w0 A6 x6.length x6) (hc6 : x6.length ≤ c6) (hr7 : Kd.C (Kd.int .i64) w0 A7 x7.length x7) (hc7 : x7.length ≤ c7) (hW : BW w0.heap.size w g 114 (ewC s.2) v s.1) (hB : Below w0.heap.size w0 w) (hl : s.1.length + 120 + 8 * x7.length ≤ 140737488355328) :
    Calls Try.prog 79 #[.pointer (some ⟨g, 0, none⟩), .agg #[.int .i64 x0, .int .u8 x1, .bool x2, .int .i64 x3, .int .i64 x4, .int .i64 x5, .slice A6 x6.length c6, .slice A7 x7.length c7], .int .i64 11] w (EncPost w0 w g v (oneF11 x0 x1 x2 x3 x4 x5 x6 x7 s)) := by
  unfold oneF11
  have HX1 := Lib.hid hx1
  have HW := Lib.hid hW
  have HB := Lib.hid hB
  have HL := Lib.hid hl
  clear hx1 hW hB hl
  have H7 := Lib.hid hr7
  clear hr7
  have H6 := Lib.hid hr6
  have HC6 := Lib.hid hc6
  have HC7 := Lib.hid hc7
  clear hr6 hc6 hc7
  cases x2 with
  | false =>
    have H0 := Lib.hid (St.start (c := #[.int .i64 x0, .int .u8 x1, .bool false, .int .i64 x3, .int .i64 x4, .int .i64 x5, .slice A6 x6.length c6, .slice A7 x7.length c7]) HW.out HB.out)
    have HG := Lib.hid (show w.heap.size ≠ g by have := HW.out.lt; omega)
    obtain ⟨b0_0, b1_0, b2_0, b3_0, b4_0, b5_0, b6_0, b7_0⟩ := box8 H0.out.2.2.2
    have c0_0 := H0.out.c0
    have c1_0 := H0.out.c1
    have f0_0 := H0.out.f0
    go_enter Try.func79, Try.ntmps79
    go_wp2_with fail
    generalize w.alloc (.cells #[.int .i64 x0, .int .u8 x1, .bool false, .int .i64 x3, .int .i64 x4, .int .i64 x5, .slice A6 x6.length c6, .slice A7 x7.length c7] 82) = W0 at *
    have ca : ∀ o, (W0.alloc o).cell? ⟨g, 0, none⟩ = some _ := fun o => pw_cell_below (below_alloc (Below.refl _ _) o) c0_0
    have cb : ∀ o, (W0.alloc o).cell? ⟨w.heap.size, 1, none⟩ = some _ := fun o => pw_cell_below (below_alloc (Below.refl _ _) o) b1_0
    go_region_law (first | (refine elem_step (by rfl) (.tmp 22) (.tmp 25) 87 rfl Try.underlying87 w0.heap.size (H0.out.1.below (drewB _)).2.2 rfl x1 1 (by first | rfl | (go_simp; done) | (simp [World.alloc]; done)) (by have := HL.out; omega) (Nat.le_trans H0.out.2.1.size (drewB _).size) ?_ rfl; intro v9 w9 hm9 hg9 hat9; obtain ⟨A9, m9, c9, rfl⟩ := mrow_sl hm9; have k9 := ew_cell hg9 (H0.out.1.below (drewB _)); have k8 := ew_frozen hg9 (H0.out.1.below (drewB _))))
    all_goals
      have H9 := Lib.hid ((H0.out.quiet HG.out (drewB _)).byte HG.out (b := x1.toNat) (by have := HX1.out; omega) hm9 hg9 hat9)
      clear b0_0 b1_0 b2_0 b3_0 b4_0 b5_0 b6_0 b7_0 c0_0 c1_0 f0_0
      clear hm9 hg9 hat9 k9 k8 ca cb H0
      generalize w9.setCell ⟨g, 0, none⟩ _ = W9 at *
      obtain ⟨b0_9, b1_9, b2_9, b3_9, b4_9, b5_9, b6_9, b7_9⟩ := box8 H9.out.2.2.2
      have c0_9 := H9.out.c0
      have c1_9 := H9.out.c1
      have f0_9 := H9.out.f0
      go_wp2_with fail
      refine (choice_11 w0 _ g _ (opS x1 false s) x0 x1 false x3 x4 x5 A6 c6 x6 A7 c7 x7 H6.out HC6.out H7.out HC7.out H9.out.1 H9.out.2.1 (by have := HL.out; simp only [opS, Bool.false_eq_true, ↓reduceIte, List.length_append, List.length_cons, List.length_nil]; omega)).mono ?_
      rintro e10 w10 ⟨rfl, hb10, v10, hw10, hs10⟩
      have H10 := Lib.hid (H9.out.call HG.out hw10 hb10 hs10)
      go_wp2
      go_end0
      exact H10.out.post
  | true =>
    have H0 := Lib.hid (St.start (c := #[.int .i64 x0, .int .u8 x1, .bool true, .int .i64 x3, .int .i64 x4, .int .i64 x5, .slice A6 x6.length c6, .slice A7 x7.length c7]) HW.out HB.out)
    have HG := Lib.hid (show w.heap.size ≠ g by have := HW.out.lt; omega)
    obtain ⟨b0_0, b1_0, b2_0, b3_0, b4_0, b5_0, b6_0, b7_0⟩ := box8 H0.out.2.2.2
    have c0_0 := H0.out.c0
    have c1_0 := H0.out.c1
    have f0_0 := H0.out.f0
    go_enter Try.func79, Try.ntmps79
    go_wp2_with (at_builtin; refine app_e rfl _ _ 87 rfl Try.underlying87 w0.heap.size H0.out.1.2.2 rfl 196 1 (by first | rfl | (go_simp; done) | (simp [World.alloc]; done)) (by have := HL.out; omega) H0.out.2.1.size ?_ rfl; intro v1 w1 hm1 hg1 hat1; obtain ⟨A1, m1, c1, rfl⟩ := mrow_sl hm1; have k0 := ew_cell hg1 H0.out.1; have k1 := ew_frozen hg1 H0.out.1)
    have H1 := Lib.hid (H0.out.byte HG.out (b := 196) rfl hm1 hg1 hat1)
    clear b0_0 b1_0 b2_0 b3_0 b4_0 b5_0 b6_0 b7_0 c0_0 c1_0 f0_0
    clear hm1 hg1 hat1 k0 k1 H0
    generalize w1.setCell ⟨g, 0, none⟩ _ = W1 at *
    obtain ⟨b0_1, b1_1, b2_1, b3_1, b4_1, b5_1, b6_1, b7_1⟩ := box8 H1.out.2.2.2
    have c0_1 := H1.out.c0
    have c1_1 := H1.out.c1
    have f0_1 := H1.out.f0
    have ca : ∀ o, (W1.alloc o).cell? ⟨g, 0, none⟩ = some _ := fun o => pw_cell_below (below_alloc (Below.refl _ _) o) c0_1
    have cb : ∀ o, (W1.alloc o).cell? ⟨w.heap.size, 1, none⟩ = some _ := fun o => pw_cell_below (below_alloc (Below.refl _ _) o) b1_1
    go_region_law (first | (refine elem_step (by rfl) (.tmp 22) (.tmp 25) 87 rfl Try.underlying87 w0.heap.size (H1.out.1.below (drewB _)).2.2 rfl x1 1 (by first | rfl | (go_simp; done) | (simp [World.alloc]; done)) (by have := HL.out; simp only [List.length_append, List.length_cons, List.length_nil]; omega) (Nat.le_trans H1.out.2.1.size (drewB _).size) ?_ rfl; intro v9 w9 hm9 hg9 hat9; obtain ⟨A9, m9, c9, rfl⟩ := mrow_sl hm9; have k9 := ew_cell hg9 (H1.out.1.below (drewB _)); have k8 := ew_frozen hg9 (H1.out.1.below (drewB _))))
    all_goals
      have H9 := Lib.hid ((H1.out.quiet HG.out (drewB _)).byte HG.out (b := x1.toNat) (by have := HX1.out; omega) hm9 hg9 hat9)
      clear b0_1 b1_1 b2_1 b3_1 b4_1 b5_1 b6_1 b7_1 c0_1 c1_1 f0_1
      clear hm9 hg9 hat9 k9 k8 ca cb H1
      generalize w9.setCell ⟨g, 0, none⟩ _ = W9 at *
      obtain ⟨b0_9, b1_9, b2_9, b3_9, b4_9, b5_9, b6_9, b7_9⟩ := box8 H9.out.2.2.2
      have c0_9 := H9.out.c0
      have c1_9 := H9.out.c1
      have f0_9 := H9.out.f0
      go_wp2_with fail
      refine (choice_11 w0 _ g _ (opS x1 true s) x0 x1 true x3 x4 x5 A6 c6 x6 A7 c7 x7 H6.out HC6.out H7.out HC7.out H9.out.1 H9.out.2.1 (by have := HL.out; simp only [opS, Bool.false_eq_true, ↓reduceIte, List.length_append, List.length_cons, List.length_nil]; omega)).mono ?_
      rintro e10 w10 ⟨rfl, hb10, v10, hw10, hs10⟩
      have H10 := Lib.hid (H9.out.call HG.out hw10 hb10 hs10)
      go_wp2
      go_end0
      exact H10.out.post
end Go.Proofs.Ytfnjbmpolggdeaa.CW
end
section
namespace Go.Proofs.Ytfnjbmpolggdeaa.CW
open Go.RowKit Go.Lib Go.Proofs.YtfnjbmpolggdeaaW.PrintWords Go.Proofs.YtfnjbmpolggdeaaW.PrintLast Go.Proofs.YtfnjbmpolggdeaaW.PrintMore
set_option linter.unusedVariables false
set_option linter.unusedSimpArgs false
def F15 (o : Option Int) : Prop := ∃ v : Int, o = some v ∧ 0 ≤ v ∧ v ≤ 15
theorem F15.mk (v : Int) (h : 0 ≤ v ∧ v ≤ 15) : F15 (some v) := ⟨v, rfl, h⟩
theorem F15.ite {c : Prop} [Decidable c] {a b : Option Int} (ha : F15 a) (hb : F15 b) : F15 (if c then a else b) := by split <;> assumption
theorem form_j2 (k : Nat) (x : Int) (b : Bool) : F15 (code_form.j2 (k + 1) x b) := by
  show F15 (code_form.j2 (k + 1) x b)
  simp only [code_form.j2]
  repeat' first
    | (with_reducible exact F15.mk _ (by decide))
    | (with_reducible refine F15.ite ?_ ?_)
theorem form_j1 (k : Nat) (x : Int) (b : Bool) : F15 (code_form.j1 (k + 2) x b) := by
  show F15 (code_form.j1 ((k + 1) + 1) x b)
  simp only [code_form.j1]
  repeat' first
    | (with_reducible exact F15.mk _ (by decide))
    | (with_reducible exact form_j2 _ _ _)
    | (with_reducible refine F15.ite ?_ ?_)
theorem form_j0 (k : Nat) (x : Int) (b : Bool) : F15 (code_form.j0 (k + 3) x b) := by
  show F15 (code_form.j0 ((k + 2) + 1) x b)
  simp only [code_form.j0]
  repeat' first
    | (with_reducible exact F15.mk _ (by decide))
    | (with_reducible exact form_j1 _ _ _)
    | (with_reducible refine F15.ite ?_ ?_)
theorem form_f (k : Nat) (x : Int) : F15 (code_form.f (k + 3) x) := by
  unfold code_form.f
  repeat' first
    | (with_reducible exact F15.mk _ (by decide))
    | (with_reducible exact form_j0 _ _ _)
    | (with_reducible refine F15.ite ?_ ?_)
def formF (op : Int) : Int := (code_form.f 3 op).getD 0
theorem formF_some (op : Int) : code_form.f 3 op = some (formF op) := by
  obtain ⟨v, h, _⟩ := form_f 0 op
  unfold formF
  rw [h]; rfl
theorem formF_le (op : Int) : 0 ≤ formF op ∧ formF op ≤ 15 := by
  obtain ⟨v, h, h1⟩ := form_f 0 op
  unfold formF
  rw [h]; exact h1
def badF (x : S82) : Bool := (formF x.f1 == 1 || formF x.f1 == 15) || (x.f2 && formF x.f1 != 6 && formF x.f1 != 7)
def oneF (f : Int) (x : S82) (s : List Nat × Bool) : List Nat × Bool :=
  if f = 2 then oneF2 x.f0 x.f1 x.f2 x.f3 x.f4 x.f5 x.f6 x.f7 s else
  if f = 3 then oneF3 x.f0 x.f1 x.f2 x.f3 x.f4 x.f5 x.f6 x.f7 s else
  if f = 4 then oneF4 x.f0 x.f1 x.f2 x.f3 x.f4 x.f5 x.f6 x.f7 s else
  if f = 5 then oneF5 x.f0 x.f1 x.f2 x.f3 x.f4 x.f5 x.f6 x.f7 s else
  if f = 6 then oneF6 x.f0 x.f1 x.f2 x.f3 x.f4 x.f5 x.f6 x.f7 s else
  if f = 7 then oneF7 x.f0 x.f1 x.f2 x.f3 x.f4 x.f5 x.f6 x.f7 s else
  if f = 8 then oneF8 x.f0 x.f1 x.f2 x.f3 x.f4 x.f5 x.f6 x.f7 s else
  if f = 9 then oneF9 x.f0 x.f1 x.f2 x.f3 x.f4 x.f5 x.f6 x.f7 s else
  if f = 10 then oneF10 x.f0 x.f1 x.f2 x.f3 x.f4 x.f5 x.f6 x.f7 s else
  if f = 11 then oneF11 x.f0 x.f1 x.f2 x.f3 x.f4 x.f5 x.f6 x.f7 s else
  if f = 12 then oneF12 x.f0 x.f1 x.f2 x.f3 x.f4 x.f5 x.f6 x.f7 s else
  if f = 13 then oneF13 x.f0 x.f1 x.f2 x.f3 x.f4 x.f5 x.f6 x.f7 s else
  if f = 14 then oneF14 x.f0 x.f1 x.f2 x.f3 x.f4 x.f5 x.f6 x.f7 s else
  oneF0 x.f0 x.f1 x.f2 x.f3 x.f4 x.f5 x.f6 x.f7 s
theorem one_any (w0 w : World) (g : Nat) (v : Value) (s : List Nat × Bool) (x : S82) (A6 : Option Addr) (c6 : Nat) (A7 : Option Addr) (c7 : Nat) (f : Int) (hf : 0 ≤ f ∧ f ≤ 15 ∧ f ≠ 1 ∧ f ≠ 15) (hx1 : 0 ≤ x.f1 ∧ x.f1 < 256)
    (hr6 : Kd.C (Kd.int .i64) w0 A6 x.f6.length x.f6) (hc6 : x.f6.length ≤ c6) (hr7 : Kd.C (Kd.int .i64) w0 A7 x.f7.length x.f7) (hc7 : x.f7.length ≤ c7)
    (hW : BW w0.heap.size w g 114 (ewC s.2) v s.1) (hB : Below w0.heap.size w0 w) (hl : s.1.length + 120 + 8 * x.f7.length ≤ 140737488355328) :
    Calls Try.prog 79 #[.pointer (some ⟨g, 0, none⟩), .agg #[.int .i64 x.f0, .int .u8 x.f1, .bool x.f2, .int .i64 x.f3, .int .i64 x.f4, .int .i64 x.f5, .slice A6 x.f6.length c6, .slice A7 x.f7.length c7], .int .i64 f] w (EncPost w0 w g v (oneF f x s)) := by
  have hl' : s.1.length + 100 ≤ 140737488355328 := by omega
  have h : f = 0 ∨ f = 2 ∨ f = 3 ∨ f = 4 ∨ f = 5 ∨ f = 6 ∨ f = 7 ∨ f = 8 ∨ f = 9 ∨ f = 10 ∨ f = 11 ∨ f = 12 ∨ f = 13 ∨ f = 14 := by omega
  rcases h with rfl | rfl | rfl | rfl | rfl | rfl | rfl | rfl | rfl | rfl | rfl | rfl | rfl | rfl
  · exact one_f0 w0 w g v s x.f0 x.f1 x.f2 x.f3 x.f4 x.f5 A6 c6 x.f6 A7 c7 x.f7 hx1 hW hB hl'
  · exact one_f2 w0 w g v s x.f0 x.f1 x.f2 x.f3 x.f4 x.f5 A6 c6 x.f6 A7 c7 x.f7 hx1 hW hB hl'
  · exact one_f3 w0 w g v s x.f0 x.f1 x.f2 x.f3 x.f4 x.f5 A6 c6 x.f6 A7 c7 x.f7 hx1 hW hB hl'
  · exact one_f4 w0 w g v s x.f0 x.f1 x.f2 x.f3 x.f4 x.f5 A6 c6 x.f6 A7 c7 x.f7 hx1 hW hB hl'
  · exact one_f5 w0 w g v s x.f0 x.f1 x.f2 x.f3 x.f4 x.f5 A6 c6 x.f6 A7 c7 x.f7 hx1 hW hB hl'
  · exact one_f6 w0 w g v s x.f0 x.f1 x.f2 x.f3 x.f4 x.f5 A6 c6 x.f6 A7 c7 x.f7 hx1 hW hB hl'
  · exact one_f7 w0 w g v s x.f0 x.f1 x.f2 x.f3 x.f4 x.f5 A6 c6 x.f6 A7 c7 x.f7 hx1 hW hB hl'
  · exact one_f8 w0 w g v s x.f0 x.f1 x.f2 x.f3 x.f4 x.f5 A6 c6 x.f6 A7 c7 x.f7 hx1 hr7 hW hB hl'
  · exact one_f9 w0 w g v s x.f0 x.f1 x.f2 x.f3 x.f4 x.f5 A6 c6 x.f6 A7 c7 x.f7 hx1 hr7 hW hB hl'
  · exact one_f10 w0 w g v s x.f0 x.f1 x.f2 x.f3 x.f4 x.f5 A6 c6 x.f6 A7 c7 x.f7 hx1 hr6 hc6 hr7 hc7 hW hB hl
  · exact one_f11 w0 w g v s x.f0 x.f1 x.f2 x.f3 x.f4 x.f5 A6 c6 x.f6 A7 c7 x.f7 hx1 hr6 hc6 hr7 hc7 hW hB hl
  · exact one_f12 w0 w g v s x.f0 x.f1 x.f2 x.f3 x.f4 x.f5 A6 c6 x.f6 A7 c7 x.f7 hx1 hW hB hl'
  · exact one_f13 w0 w g v s x.f0 x.f1 x.f2 x.f3 x.f4 x.f5 A6 c6 x.f6 A7 c7 x.f7 hx1 hW hB hl'
  · exact one_f14 w0 w g v s x.f0 x.f1 x.f2 x.f3 x.f4 x.f5 A6 c6 x.f6 A7 c7 x.f7 hx1 hW hB hl'
def tgtG (ks : List Int) (b : List Nat) : List S82 → Nat → ByteArray × Int × Int
  | [], _ => (sb b, 0, 0)
  | x :: r, k => if x.f7.all (fun t => decide (t ∈ ks)) = true then tgtG ks b r (k + 1) else (⟨#[]⟩, 16, k)
def encG (l0 : List S82) : List S82 → Nat → List Nat → ByteArray × Int × Int
  | [], _, b => if l0.length = 0 then (⟨#[]⟩, 12, 0) else tgtG (l0.map (·.f0)) b l0 0
  | x :: r, k, b => if x.f0 ≠ b.length then (⟨#[]⟩, 16, k) else if badF x = true then (⟨#[]⟩, 14, k) else
      if (oneF (formF x.f1) x (b, true)).2 = false then (⟨#[]⟩, 15, k) else if 65535 < (oneF (formF x.f1) x (b, true)).1.length then (⟨#[]⟩, 12, k) else encG l0 r (k + 1) (oneF (formF x.f1) x (b, true)).1
def encOK (l0 : List S82) : Prop := l0.length ≤ 1000000 ∧ ∀ x ∈ l0, (0 ≤ x.f1 ∧ x.f1 < 256) ∧ x.f6.length ≤ 1000000 ∧ x.f7.length ≤ 1000000 ∧ ∀ t ∈ x.f7, (Lit.int .i64 t).wf = true
instance (l0 : List S82) : Decidable (encOK l0) := by unfold encOK; infer_instance
def code_Encode.f (l0 : List S82) : Option (ByteArray × Int × Int) := if encOK l0 then some (encG l0 l0 0 []) else none
abbrev MapOf (W : World) (m n : Nat) (D : DataW Unit) : Prop := W.ownsMap Try.prog 3 (plainElem Try.prog 3) m n D
theorem MapOf.ne_row {W : World} {m n base e k : Nat} {D : DataW Unit} {v : Value} {xs : List Value} (h : MapOf W m n D) (hm : mrow W base e v k xs) : v.ownBlock ≠ some m := by
  intro he
  obtain ⟨cur, fr, hc⟩ := hm.typed _ he
  obtain ⟨es, clock, h0, _⟩ := h
  rw [hc] at h0
  cases h0
theorem MapOf.ne_blk {W : World} {m n g : Nat} {D : DataW Unit} {c : Array Value} {t : TypeId} {fr : Nat × Nat} (h : MapOf W m n D) (hc : W.heap[g]? = some (.cells c t fr)) : g ≠ m := by
  rintro rfl
  obtain ⟨es, clock, h0, _⟩ := h
  rw [hc] at h0
  cases h0
def EL (w W : World) (D : DataW Unit) (n : Nat) (V : Value) (s : List Nat × Bool) : Prop :=
  BW w.heap.size W w.heap.size 114 (ewC s.2) V s.1 ∧ Below w.heap.size w W ∧ MapOf W (w.heap.size + 1) n D
theorem EL.step {w W W1 : World} {D : DataW Unit} {n : Nat} {V : Value} {s : List Nat × Bool} (h : EL w W D n V s) (hb : Below W.heap.size W W1) : EL w W1 D n V s := by
  refine ⟨h.1.below hb, below_then h.2.1 h.2.1.size hb, ?_⟩
  have hlt := h.2.2.lt
  obtain ⟨es, clock, h0, r⟩ := h.2.2
  exact ⟨es, clock, (hb.block _ hlt).trans h0, r⟩
theorem EL.call {w W W1 : World} {D : DataW Unit} {n : Nat} {V V1 : Value} {s s1 : List Nat × Bool} (h : EL w W D n V s)
    (h1 : BW w.heap.size W1 w.heap.size 114 (ewC s1.2) V1 s1.1) (h2 : Below w.heap.size w W1) (h3 : BS W w.heap.size V W1 V1) : EL w W1 D n V1 s1 := by
  refine ⟨h1, h2, ?_⟩
  have hn := h.2.2.ne_row h.1.2.2
  obtain ⟨es, clock, h0, r⟩ := h.2.2
  exact ⟨es, clock, h3.blk h0 (by omega) hn, r⟩
theorem EL.map {w W W1 : World} {D D1 : DataW Unit} {n n1 : Nat} {V : Value} {s : List Nat × Bool} (h : EL w W D n V s) (hm : MapOf W1 (w.heap.size + 1) n1 D1) (hg : W.grownBy W1 (some (w.heap.size + 1))) : EL w W1 D1 n1 V s := by
  refine ⟨⟨(hg.block _ (blk_lt h.1.1) (fun e => by injection e; omega)).trans h.1.1, h.1.2.1, h.1.2.2.kept hg (.inr (h.2.2.ne_row h.1.2.2))⟩, ?_, hm⟩
  exact pw_below_grown h.2.1 _ h.2.1.size hg (fun k hk => by injection hk; omega)
def ES (w W : World) (D : DataW Unit) (n : Nat) (V : Value) (s : List Nat × Bool) (bx : Nat) (c : Array Value) : Prop :=
  EL w W D n V s ∧ W.heap[bx]? = some (.cells c 82 (0, 0)) ∧ bx ≠ w.heap.size
theorem ES.start {w W : World} {D : DataW Unit} {n : Nat} {V : Value} {s : List Nat × Bool} (h : EL w W D n V s) (c : Array Value) : ES w (W.alloc (.cells c 82)) D n V s W.heap.size c :=
  ⟨h.step (below_alloc (Below.refl _ _) _), Array.getElem?_push_size, by have := h.2.2.lt; omega⟩
theorem ES.step {w W W1 : World} {D : DataW Unit} {n bx : Nat} {V : Value} {s : List Nat × Bool} {c : Array Value} (h : ES w W D n V s bx c) (hb : Below W.heap.size W W1) : ES w W1 D n V s bx c :=
  ⟨h.1.step hb, (hb.block _ (blk_lt h.2.1)).trans h.2.1, h.2.2⟩
theorem ES.call {w W W1 : World} {D : DataW Unit} {n bx : Nat} {V V1 : Value} {s s1 : List Nat × Bool} {c : Array Value} (h : ES w W D n V s bx c)
    (h1 : BW w.heap.size W1 w.heap.size 114 (ewC s1.2) V1 s1.1) (h2 : Below w.heap.size w W1) (h3 : BS W w.heap.size V W1 V1) : ES w W1 D n V1 s1 bx c :=
  ⟨h.1.call h1 h2 h3, h3.blk h.2.1 h.2.2 (mrow_nb h.1.1.2.2 h.2.1 (by decide)), h.2.2⟩
theorem ES.map {w W W1 : World} {D D1 : DataW Unit} {n n1 bx : Nat} {V : Value} {s : List Nat × Bool} {c : Array Value} (h : ES w W D n V s bx c) (hm : MapOf W1 (w.heap.size + 1) n1 D1) (hg : W.grownBy W1 (some (w.heap.size + 1))) : ES w W1 D1 n1 V s bx c :=
  ⟨h.1.map hm hg, (hg.block _ (blk_lt h.2.1) (fun e => h.1.2.2.ne_blk h.2.1 (by injection e))).trans h.2.1, h.2.2⟩
theorem EL.c0 {w W : World} {D : DataW Unit} {n : Nat} {V : Value} {s : List Nat × Bool} (h : EL w W D n V s) : W.cell? ⟨w.heap.size, 0, none⟩ = some V := blk_cell h.1.1 0
theorem EL.c1 {w W : World} {D : DataW Unit} {n : Nat} {V : Value} {s : List Nat × Bool} (h : EL w W D n V s) : W.cell? ⟨w.heap.size, 1, none⟩ = some (.bool s.2) := blk_cell h.1.1 1
theorem EL.sl {w W : World} {D : DataW Unit} {n : Nat} {V : Value} {s : List Nat × Bool} (h : EL w W D n V s) : ∃ A c, V = .slice A s.1.length c := mrow_slice h.1.2.2
theorem EL.str {w W : World} {D : DataW Unit} {n : Nat} {V : Value} {s : List Nat × Bool} (h : EL w W D n V s) : (convert 87 9 V).run Try.prog W = .ok (.string (sb s.1)) W :=
  rd_str Try.underlying87 Try.underlying5 Try.underlying9 h.1.2.2.rd rfl
theorem rdI_at {xs : List S82} {k : Nat} (h : k < xs.length) : rd_T82 xs (k : Int) = xs[k] := by
  unfold rd_T82
  rw [Int.toNat_natCast, List.getD_eq_getElem?_getD, List.getElem?_eq_getElem h]; rfl
theorem lawI : Maps.Keyed Try.prog 3 := Maps.int_keyed Try.underlying3
theorem zeroI (w : World) : (zeroValue 3).run Try.prog w = .ok (.int .i64 0) w := by kernel_rfl
theorem wf_nat {n : Nat} (h : n ≤ 1000000) : (Lit.int .i64 (n : Int)).wf = true := by
  have h1 : wrap64 (n : Int) = (n : Int) := by rw [← i64_w, IntKind.wrap_i64]; omega
  rw [← h1]
  exact wrap64_wf _
def Has (D : DataW Unit) (ks : List Int) : Prop := ∀ t : Int, Maps.has D (.int .i64 t) = decide (t ∈ ks)
theorem Has.nil : Has (.map []) [] := fun t => by simp [Maps.has]
theorem Has.put {D : DataW Unit} {ks : List Int} (h : Has D ks) (hD : Maps.IsMap D) (k : Int) (d : DataW Unit) : Has (D.put (.int .i64 k) d) (ks ++ [k]) := by
  intro t
  by_cases ht : t = k
  · subst ht
    have hk : WideAt.IsKeyLit (Lit.int .i64 t) := trivial
    rw [Maps.has_put_same hD hk]
    simp
  · rw [Maps.has_put_other (by intro e; injection e; exact ht ‹_›), h t]
    simp [ht]
end Go.Proofs.Ytfnjbmpolggdeaa.CW
end
section
namespace Go.Proofs.Ytfnjbmpolggdeaa.CW
open Go.RowKit Go.Lib Go.Proofs.YtfnjbmpolggdeaaW.PrintWords Go.Proofs.YtfnjbmpolggdeaaW.PrintLast Go.Proofs.YtfnjbmpolggdeaaW.PrintMore
set_option linter.unusedVariables false
set_option linter.unusedSimpArgs false
set_option maxHeartbeats 8000000 in
set_option maxRecDepth 100000 in
theorem code_Encode.calls (A0 : Option Addr) (c0 : Nat) (l0 : List (S82)) (r1 : ByteArray) (r2 : Int) (r3 : Int) (w : World) (hr0 : Kd.C k82 w A0 l0.length l0) (hc0 : l0.length ≤ c0) (h : code_Encode.f l0 = some (r1, r2, r3)) :
    Calls Try.prog 39 #[.slice A0 l0.length c0] w fun e w' => e = .returned (.tuple #[.string r1, .int .i64 r2, .int .i64 r3]) ∧ Below w.heap.size w w' := by
  unfold code_Encode.f at h
  by_cases hp : encOK l0
  · rw [if_pos hp, Option.some.injEq] at h
    have H := Aside0.mk h
    have HP := Aside0.mk hp
    have HN0 := Aside0.mk hp.1
    have HR0 := Aside0.mk hr0
    have HC0 := Aside0.mk hc0
    clear h hp hr0 hc0
    have hbelA := below_alloc (Below.refl w.heap.size w) (.cells #[.slice none 0 0, .bool true] 114)
    have hEL : EL w ((w.alloc (.cells #[.slice none 0 0, .bool true] 114)).alloc (.map #[] 0)) (.map []) 0 (.slice none 0 0) ([], true) := by
      have hs : (w.alloc (.cells #[.slice none 0 0, .bool true] 114)).heap.size = w.heap.size + 1 := Array.size_push _
      have hbw : BW w.heap.size (w.alloc (.cells #[.slice none 0 0, .bool true] 114)) w.heap.size 114 (ewC true) (.slice none 0 0) [] := ⟨Array.getElem?_push_size, Nat.le_refl _, mrow.nil _ _ _⟩
      have hbelB := below_alloc (Below.refl _ (w.alloc (.cells #[.slice none 0 0, .bool true] 114))) (.map #[] 0)
      refine ⟨hbw.below hbelB, below_then hbelA hbelA.size hbelB, ?_⟩
      rw [← hs]
      exact World.ownsMap_made _ _ _ _
    have HEL := Aside0.mk hEL
    clear hbelA hEL
    have hmm := @run_makeMap Try.prog
    go_enter Try.func39, Try.ntmps39
    go_wp2_with fail
    clear hmm
    go_loopw [21] (fun i wr => ∃ (k n : Nat) (V : Value) (b : List Nat) (D : DataW Unit), k ≤ l0.length ∧ i = .int .i64 k ∧ Aside0 (EL w wr D n V (b, true)) ∧ Aside0 (n ≤ k ∧ b.length ≤ 65535) ∧ Aside0 (Has D ((l0.take k).map (·.f0))) ∧ Aside0 (encG l0 (l0.drop k) k b = (r1, r2, r3))) (fun i _ => l0.length - (intOf i).toNat)
    case atStart => exact ⟨0, 0, .slice none 0 0, [], .map [], Nat.zero_le _, rfl, HEL, ⟨Nat.le_refl _, Nat.zero_le _⟩, ⟨Has.nil⟩, H⟩
    case round =>
      clear HEL H
      obtain ⟨k, n, V, b, D, hk, rfl, HE, HNB, HD, HG⟩ := hrel
      by_cases hlt : k < l0.length
      · have bk : decide ((k : Int) < (l0.length : Int)) = true := decide_eq_true (by omega)
        have HG2 := Aside0.mk ((show encG l0 (l0[k] :: l0.drop (k + 1)) k b = (r1, r2, r3) from (List.drop_eq_getElem_cons hlt) ▸ HG.out))
        have HTK := Aside0.mk (show (l0.take (k + 1)).map (·.f0) = (l0.take k).map (·.f0) ++ [l0[k].f0] by rw [List.take_succ_eq_append_getElem hlt, List.map_append]; rfl)
        clear HG
        obtain ⟨ad0, A6, c6, A7, c7, e0, x0, x1, x2, x3, x4, x5, x6, x7, hl6, hi6, hl7, hi7⟩ := at_T82 HR0.out (k : Int) (by omega) (by omega)
        subst e0
        rw [rdI_at hlt] at x0 x1 x2 x3 x4 x5 x6 x7 hl6 hi6 hl7 hi7
        simp only [Int.toNat_natCast] at x0 x1 x2 x3 x4 x5 x6 x7
        have y0 := pw_cell_below HE.out.2.1 x0
        have y1 := pw_cell_below HE.out.2.1 x1
        have y2 := pw_cell_below HE.out.2.1 x2
        have y3 := pw_cell_below HE.out.2.1 x3
        have y4 := pw_cell_below HE.out.2.1 x4
        have y5 := pw_cell_below HE.out.2.1 x5
        have y6 := pw_cell_below HE.out.2.1 x6
        have y7 := pw_cell_below HE.out.2.1 x7
        have HX6 := Aside0.mk (And.intro hi6 hl6)
        have HX7 := Aside0.mk (And.intro hi7 hl7)
        have HOK := Aside0.mk (HP.out.2 _ (List.getElem_mem hlt))
        have HLT := Aside0.mk hlt
        clear x0 x1 x2 x3 x4 x5 x6 x7 hi6 hl6 hi7 hl7 hk
        generalize l0[k] = x at *
        have HS := Aside0.mk ((encG.eq_2 ..).symm.trans HG2.out)
        clear HG2
        have HISM := Aside0.mk (show Maps.IsMap D from World.ownsMap.isMap HE.out.2.2)
        obtain ⟨A, c, rfl⟩ := HE.out.sl
        have HB1 := Aside0.mk (ES.start HE.out #[.int .i64 x.f0, .int .u8 x.f1, .bool x.f2, .int .i64 x.f3, .int .i64 x.f4, .int .i64 x.f5, .slice A6 x.f6.length c6, .slice A7 x.f7.length c7])
        clear HE
        go_wp2_with fail
        have c0_1 := HB1.out.1.c0
        have c1_1 := HB1.out.1.c1
        obtain ⟨b0_1, b1_1, b2_1, b3_1, b4_1, b5_1, b6_1, b7_1⟩ := box8 HB1.out.2.1
        by_cases g0 : x.f0 = (b.length : Int)
        · have q0 : (x.f0 != (b.length : Int)) = false := bne_eq_false_iff_eq.2 g0
          have HKEY := Aside0.mk (Maps.keyOf_int_mk (P := Try.prog) Try.underlying3 (a := x.f0) (by rw [g0]; exact wf_nat (by have := HNB.out.2; omega)))
          have HVAL := Aside0.mk (plainElem_int (H := Unit) (P := Try.prog) Try.underlying3 (a := (k : Int)) (wf_nat (by have := HN0.out; omega)))
          have HROOM : n < maxLen := by have := HNB.out.1; have := HN0.out; unfold maxLen; omega
          have HG0 := Aside0.mk g0
          clear g0
          go_quiet (fail)
          go_upto_region 9 with (first | (at_mapUpdate; refine wpList_mapUpdate_own _ rfl _ _ _ 115 rfl 3 3 lawI Try.underlying115 _ (w.heap.size + 1) n D rfl (by first | exact HB1.out.1.2.2 | exact (HB1.out.step (drewNB _ _)).1.2.2 | exact (HB1.out.step (drewB _)).1.2.2) HROOM (.int .i64 x.f0) (.int .i64 k) (.int .i64 x.f0) rfl rfl HKEY.out (.lit (.int .i64 k)) [] HVAL.out ?_; intro w2 hown2 hg2; have HB2 := Aside0.mk (ES.map (by first | exact HB1.out | exact HB1.out.step (drewNB _ _) | exact HB1.out.step (drewB _)) hown2 hg2); obtain ⟨b0_2, b1_2, b2_2, b3_2, b4_2, b5_2, b6_2, b7_2⟩ := box8 HB2.out.2.1; clear hown2 hg2) | go_in)
          go_upto_region 10 with ((go_at_call 78; refine (code_form.calls 3 x.f1 (formF x.f1) _ (formF_some _)).mono ?_; rintro e3 w3 ⟨rfl, hd3⟩))
          have HB3 := Aside0.mk (HB2.out.step hd3.below)
          clear b0_1 b1_1 b2_1 b3_1 b4_1 b5_1 b6_1 b7_1
          clear b0_2 b1_2 b2_2 b3_2 b4_2 b5_2 b6_2 b7_2
          clear hd3 HB1 HB2 HKEY HVAL HROOM q0 c0_1 c1_1
          have HD2 := Aside0.mk (HD.out.put HISM.out x.f0 (.lit (.int .i64 k)))
          rw [← HTK.out] at HD2
          obtain ⟨f, hf⟩ : ∃ f, formF x.f1 = f := ⟨_, rfl⟩
          rw [hf] at HS ⊢
          have HF := Aside0.mk hf
          have HFR := Aside0.mk (hf ▸ formF_le x.f1)
          clear hf
          obtain ⟨b0_3, b1_3, b2_3, b3_3, b4_3, b5_3, b6_3, b7_3⟩ := box8 HB3.out.2.1
          have HS2 := Aside0.mk ((if_neg (fun h => h HG0.out)).symm.trans HS.out)
          go_cut [59] from 42 to 58 (fun vv wc => vv = .bool (badF x) ∧ Aside0 (ES w wc (D.put (.int .i64 x.f0) (.lit (.int .i64 k))) (n + 1) (.slice A b.length c) (b, true) wr.heap.size #[.int .i64 x.f0, .int .u8 x.f1, .bool x.f2, .int .i64 x.f3, .int .i64 x.f4, .int .i64 x.f5, .slice A6 x.f6.length c6, .slice A7 x.f7.length c7]))
          case first =>
            as_aux_lemma =>
            by_cases h1 : f = 1
            · have q1 : (f == 1) = true := beq_iff_eq.2 h1
              have hbad : badF x = true := by unfold badF; rw [HF.out]; simp [*]
              clear hlt
              go_wp2
              go_meet
              case rel => exact ⟨by rw [hbad], ⟨HB3.out⟩⟩
              
            · have q1 : (f == 1) = false := beq_eq_false_iff_ne.2 h1
              by_cases h2 : f = 15
              · have q2 : (f == 15) = true := beq_iff_eq.2 h2
                have hbad : badF x = true := by unfold badF; rw [HF.out]; simp [*]
                clear hlt
                go_wp2
                go_meet
                case rel => exact ⟨by rw [hbad], ⟨HB3.out⟩⟩
                
              · have q2 : (f == 15) = false := beq_eq_false_iff_ne.2 h2
                obtain ⟨z2, hz2⟩ : ∃ z2, x.f2 = z2 := ⟨_, rfl⟩
                have hz3 := b2_3
                rw [hz2] at hz3
                cases z2 with
                | false =>
                  have hbad : badF x = false := by unfold badF; rw [HF.out]; simp [*]
                  clear hlt
                  go_wp2
                  go_meet
                  case rel => exact ⟨by rw [hbad], ⟨HB3.out⟩⟩
                  
                | true =>
                  by_cases h6 : f = 6
                  · have q6 : (f != 6) = false := bne_eq_false_iff_eq.2 h6
                    have hbad : badF x = false := by unfold badF; rw [HF.out]; simp [*]
                    clear hlt
                    go_wp2
                    go_meet
                    case rel => exact ⟨by rw [hbad], ⟨HB3.out⟩⟩
                    
                  · have q6 : (f != 6) = true := bne_iff_ne.2 h6
                    by_cases h7 : f = 7
                    · have q7 : (f != 7) = false := bne_eq_false_iff_eq.2 h7
                      have hbad : badF x = false := by unfold badF; rw [HF.out]; simp [*]
                      clear hlt
                      go_wp2
                      go_meet
                      case rel => exact ⟨by rw [hbad], ⟨HB3.out⟩⟩
                      
                    · have q7 : (f != 7) = true := bne_iff_ne.2 h7
                      have hbad : badF x = true := by unfold badF; rw [HF.out]; simp [*]
                      clear hlt
                      go_wp2
                      go_meet
                      case rel => exact ⟨by rw [hbad], ⟨HB3.out⟩⟩
                      
          case rest =>
            obtain ⟨rfl, HW⟩ := hcut
            clear b0_3 b1_3 b2_3 b3_3 b4_3 b5_3 b6_3 b7_3
            clear HB3
            obtain ⟨b0_4, b1_4, b2_4, b3_4, b4_4, b5_4, b6_4, b7_4⟩ := box8 HW.out.2.1
            by_cases hC : badF x = true
            · rw [hC]
              have HC := Aside0.mk hC
              clear hC
              as_aux_lemma =>
              go_wp2
              go_ret3
              have hs := HS2.out
              (try dsimp only at hs)
              rw [if_pos HC.out] at hs
              injection hs with e1 e2
              injection e2 with e2 e3
              subst e1 e2 e3
              exact ⟨rfl, HW.out.1.2.1⟩
            · have hC2 : badF x = false := Bool.eq_false_iff.2 hC
              rw [hC2]
              have HC := Aside0.mk hC
              have HFG : Aside0 (0 ≤ f ∧ f ≤ 15 ∧ f ≠ 1 ∧ f ≠ 15) := ⟨by
                have h := HF.out
                have h2 := HFR.out
                refine ⟨h2.1, h2.2, ?_, ?_⟩
                · rintro rfl; unfold badF at hC2; rw [h] at hC2; simp at hC2
                · rintro rfl; unfold badF at hC2; rw [h] at hC2; simp at hC2⟩
              clear hC hC2
              go_wp2_with fail
              refine (one_any w _ w.heap.size _ (b, true) x A6 c6 A7 c7 f HFG.out HOK.out.1 HX6.out.1 HX6.out.2 HX7.out.1 HX7.out.2 HW.out.1.1 HW.out.1.2.1 (by have := HOK.out.2.2.1; have := HNB.out.2; dsimp only; omega)).mono ?_
              rintro e5 w5 ⟨rfl, hb5, v5, hw5, hs5⟩
              have H5 := Aside0.mk (HW.out.call hw5 hb5 hs5)
              clear b0_4 b1_4 b2_4 b3_4 b4_4 b5_4 b6_4 b7_4
              clear hw5 hb5 hs5 HW
              have HQ5 : Aside0 (x.f0 ≠ (b.length : Int) → False) := ⟨fun h => h HG0.out⟩
              generalize oneF f x (b, true) = s5 at *
              obtain ⟨b5, ok5⟩ := s5
              have c1_5 := H5.out.1.c1
              cases ok5 with
              | false =>
                dsimp only at c1_5
                as_aux_lemma =>
                go_wp2
                go_ret3
                have hs : ((⟨#[]⟩ : ByteArray), (15 : Int), (k : Int)) = (r1, r2, r3) := by
                  have h := HS2.out
                  rw [if_neg HC.out] at h
                  exact h
                injection hs with e1 e2
                injection e2 with e2 e3
                subst e1 e2 e3
                exact ⟨rfl, H5.out.1.2.1⟩
              | true =>
                dsimp only at c1_5
                obtain ⟨A5, c5, rfl⟩ := H5.out.1.sl
                have c0_5 := H5.out.1.c0
                by_cases hl : 65535 < b5.length
                · have ql : decide ((b5.length : Int) > 65535) = true := decide_eq_true (by omega)
                  have HLL := Aside0.mk hl
                  clear hl
                  as_aux_lemma =>
                  go_wp2
                  go_ret3
                  have hs := HS2.out
                  (try dsimp only at hs)
                  rw [if_neg HC.out, if_neg (show ¬ (true = false) by decide), if_pos HLL.out] at hs
                  injection hs with e1 e2
                  injection e2 with e2 e3
                  subst e1 e2 e3
                  exact ⟨rfl, H5.out.1.2.1⟩
                · have ql : decide ((b5.length : Int) > 65535) = false := decide_eq_false (by omega)
                  have HS4 : Aside0 (encG l0 (l0.drop (k + 1)) (k + 1) b5 = (r1, r2, r3)) := ⟨by
                    have hs := HS2.out
                    (try dsimp only at hs)
                    rw [if_neg HC.out, if_neg (show ¬ (true = false) by decide), if_neg hl] at hs
                    exact hs⟩
                  have HL5 := Aside0.mk (show b5.length ≤ 65535 by omega)
                  clear hl
                  have wk : wrap64 ((k : Int) + 1) = ((k + 1 : Nat) : Int) := by rw [← i64_w, IntKind.wrap_i64]; have := HN0.out; omega
                  have WN := Aside0.mk (congrArg (Value.int IntKind.i64) wk)
                  have WI := Aside0.mk wk
                  clear wk
                  go_wp2
                  go_roundw
                  case rel => exact ⟨k + 1, n + 1, _, b5, _, HLT.out, by first | exact WN.out | exact WI.out, ⟨H5.out.1⟩, ⟨by have := HNB.out.1; omega, HL5.out⟩, HD2, HS4⟩
                  case measure => exact ms_val HLT.out WN.out
        · have q0 : (x.f0 != (b.length : Int)) = true := bne_iff_ne.2 g0
          have HQ := Aside0.mk g0
          clear g0
          as_aux_lemma =>
          go_quiet (fail)
          go_wp2
          go_ret3
          have hs := HS.out
          rw [if_pos HQ.out] at hs
          injection hs with e1 e2
          injection e2 with e2 e3
          subst e1 e2 e3
          exact ⟨rfl, by first | exact HB1.out.1.2.1 | exact pw_below_drewN HB1.out.1.2.1 _ | exact (HB1.out.step (drewB _)).1.2.1⟩
      · obtain rfl : k = l0.length := by omega
        have bk : decide ((l0.length : Int) < (l0.length : Int)) = false := decide_eq_false (by omega)
        have HS0 := HG.out
        rw [List.drop_length] at HS0
        have HS := Aside0.mk ((encG.eq_1 ..).symm.trans HS0)
        have HKS : Aside0 (Has D (l0.map (·.f0))) := ⟨by have h := HD.out; rw [List.take_length] at h; exact h⟩
        clear HS0 HG HD hlt
        by_cases hz : l0.length = 0
        · have qz : ((l0.length : Int) == 0) = true := beq_iff_eq.2 (by omega)
          have HZ := Aside0.mk hz
          clear hz
          as_aux_lemma =>
          go_wp2
          go_ret3
          have hs := HS.out
          rw [if_pos HZ.out] at hs
          injection hs with e1 e2
          injection e2 with e2 e3
          subst e1 e2 e3
          exact ⟨rfl, HE.out.2.1⟩
        · have qz : ((l0.length : Int) == 0) = false := beq_eq_false_iff_ne.2 (by omega)
          have HT : Aside0 (tgtG (l0.map (·.f0)) b l0 0 = (r1, r2, r3)) := ⟨(if_neg hz).symm.trans HS.out⟩
          clear hz HS
          have HEE := HE
          go_wp2_with fail
          go_loopw [84] (fun i wr2 => ∃ k : Nat, k ≤ l0.length ∧ i = .int .i64 k ∧ Aside0 (EL w wr2 D n V (b, true)) ∧ Aside0 (tgtG (l0.map (·.f0)) b (l0.drop k) k = (r1, r2, r3))) (fun i _ => l0.length - (intOf i).toNat)
          case atStart => exact ⟨0, Nat.zero_le _, rfl, ⟨HEE.out⟩, HT⟩
          case round =>
            clear HE HEE HT
            obtain ⟨k, hk, rfl, HE, HG⟩ := hrel
            by_cases hlt : k < l0.length
            · have bk2 : decide ((k : Int) < (l0.length : Int)) = true := decide_eq_true (by omega)
              have HG2 := Aside0.mk ((show tgtG (l0.map (·.f0)) b (l0[k] :: l0.drop (k + 1)) k = (r1, r2, r3) from (List.drop_eq_getElem_cons hlt) ▸ HG.out))
              clear HG
              obtain ⟨ad0, A6, c6, A7, c7, e0, x0, x1, x2, x3, x4, x5, x6, x7, hl6, hi6, hl7, hi7⟩ := at_T82 HR0.out (k : Int) (by omega) (by omega)
              subst e0
              rw [rdI_at hlt] at x0 x1 x2 x3 x4 x5 x6 x7 hl6 hi6 hl7 hi7
              simp only [Int.toNat_natCast] at x0 x1 x2 x3 x4 x5 x6 x7
              have y0 := pw_cell_below HE.out.2.1 x0
              have y1 := pw_cell_below HE.out.2.1 x1
              have y2 := pw_cell_below HE.out.2.1 x2
              have y3 := pw_cell_below HE.out.2.1 x3
              have y4 := pw_cell_below HE.out.2.1 x4
              have y5 := pw_cell_below HE.out.2.1 x5
              have y6 := pw_cell_below HE.out.2.1 x6
              have y7 := pw_cell_below HE.out.2.1 x7
              have HX6 := Aside0.mk (And.intro hi6 hl6)
              have HX7 := Aside0.mk (And.intro hi7 hl7)
              have HOK := Aside0.mk (HP.out.2 _ (List.getElem_mem hlt))
              have HLT := Aside0.mk hlt
              clear x0 x1 x2 x3 x4 x5 x6 x7 hi6 hl6 hi7 hl7 hk
              generalize l0[k] = x at *
              have HS := Aside0.mk ((tgtG.eq_2 ..).symm.trans HG2.out)
              clear HG2
              have HB1 := Aside0.mk (ES.start HE.out #[.int .i64 x.f0, .int .u8 x.f1, .bool x.f2, .int .i64 x.f3, .int .i64 x.f4, .int .i64 x.f5, .slice A6 x.f6.length c6, .slice A7 x.f7.length c7])
              clear HE
              go_wp2_with fail
              go_loopw [92] (fun i wr3 => ∃ j : Nat, j ≤ x.f7.length ∧ i = .int .i64 j ∧ Aside0 (EL w wr3 D n V (b, true)) ∧ Aside0 ((if (x.f7.drop j).all (fun t => decide (t ∈ l0.map (·.f0))) = true then tgtG (l0.map (·.f0)) b (l0.drop (k + 1)) (k + 1) else ((⟨#[]⟩ : ByteArray), 16, (k : Int))) = (r1, r2, r3))) (fun i _ => x.f7.length - (intOf i).toNat)
              case atStart => exact ⟨0, Nat.zero_le _, rfl, ⟨HB1.out.1⟩, HS⟩
              case round =>
                clear HB1 HS y0 y1 y2 y3 y4 y5 y6 y7
                obtain ⟨j, hj, rfl, HE, HG⟩ := hrel
                by_cases hjt : j < x.f7.length
                · have bj : decide ((j : Int) < (x.f7.length : Int)) = true := decide_eq_true (by omega)
                  obtain ⟨ad7, e7, z0⟩ := Kd.at_int HX7.out.1 (j : Int) (by omega) (by omega)
                  subst e7
                  simp only [Int.toNat_natCast] at z0
                  have y0 := pw_cell_below HE.out.2.1 z0
                  have hrd : rd x.f7 (j : Int) = x.f7[j] := by unfold rd; rw [Int.toNat_natCast, List.getD_eq_getElem?_getD, List.getElem?_eq_getElem hjt]; rfl
                  rw [hrd] at y0
                  have HKEY := Aside0.mk (Maps.keyOf_int_mk (P := Try.prog) Try.underlying3 (a := x.f7[j]) (HOK.out.2.2.2 _ (List.getElem_mem hjt)))
                  have HG2 : Aside0 ((if (x.f7[j] :: x.f7.drop (j + 1)).all (fun t => decide (t ∈ l0.map (·.f0))) = true then tgtG (l0.map (·.f0)) b (l0.drop (k + 1)) (k + 1) else ((⟨#[]⟩ : ByteArray), 16, (k : Int))) = (r1, r2, r3)) := ⟨(List.drop_eq_getElem_cons hjt) ▸ HG.out⟩
                  clear HG z0 hrd
                  have HJT := Aside0.mk hjt
                  have HHT := Aside0.mk (HKS.out x.f7[j])
                  generalize x.f7[j] = t at *
                  by_cases ht : t ∈ l0.map (·.f0)
                  · have HH : Maps.has D (.int .i64 t) = true := by rw [HHT.out]; exact decide_eq_true ht
                    have HT3 : Aside0 ((if (x.f7.drop (j + 1)).all (fun t => decide (t ∈ l0.map (·.f0))) = true then tgtG (l0.map (·.f0)) b (l0.drop (k + 1)) (k + 1) else ((⟨#[]⟩ : ByteArray), 16, (k : Int))) = (r1, r2, r3)) := ⟨by
                      have h := HG2.out
                      rw [List.all_cons, decide_eq_true ht, Bool.true_and] at h
                      exact h⟩
                    have wk : wrap64 ((j : Int) + 1) = ((j + 1 : Nat) : Int) := by rw [← i64_w, IntKind.wrap_i64]; have := HOK.out.2.2.1; omega
                    have WN := Aside0.mk (congrArg (Value.int IntKind.i64) wk)
                    have WI := Aside0.mk wk
                    clear wk ht HG2 hj
                    go_wp2_with (first | (at_lookup; refine wpList_lookup_own_ok_int _ rfl _ _ 115 rfl 3 3 .i64 lawI Try.underlying115 Try.underlying3 (zeroI _) (w.heap.size + 1) n D rfl HE.out.2.2 (.int .i64 t) (.int .i64 t) rfl HKEY.out ?_; intro cc hat hwc; clear hat hwc) | go_in)
                    go_roundw
                    case rel => exact ⟨j + 1, HJT.out, by first | exact WN.out | exact WI.out, HE, HT3⟩
                    case measure => exact ms_val HJT.out WN.out
                  · have HH : Maps.has D (.int .i64 t) = false := by rw [HHT.out]; exact decide_eq_false ht
                    have hs : ((⟨#[]⟩ : ByteArray), (16 : Int), (k : Int)) = (r1, r2, r3) := by
                      have h := HG2.out
                      rw [List.all_cons, decide_eq_false ht, Bool.false_and, if_neg (by decide)] at h
                      exact h
                    have HSS := Aside0.mk hs
                    clear hs ht HG2 hj
                    go_wp2_with (first | (at_lookup; refine wpList_lookup_own_ok_int _ rfl _ _ 115 rfl 3 3 .i64 lawI Try.underlying115 Try.underlying3 (zeroI _) (w.heap.size + 1) n D rfl HE.out.2.2 (.int .i64 t) (.int .i64 t) rfl HKEY.out ?_; intro cc hat hwc; clear hat hwc) | go_in)
                    go_ret3
                    have hs := HSS.out
                    injection hs with e1 e2
                    injection e2 with e2 e3
                    subst e1 e2 e3
                    exact ⟨rfl, HE.out.2.1⟩
                · obtain rfl : j = x.f7.length := by omega
                  have bj : decide ((x.f7.length : Int) < (x.f7.length : Int)) = false := decide_eq_false (by omega)
                  have HT3 : Aside0 (tgtG (l0.map (·.f0)) b (l0.drop (k + 1)) (k + 1) = (r1, r2, r3)) := ⟨by
                    have h := HG.out
                    rw [List.drop_length] at h
                    exact h⟩
                  have wk : wrap64 ((k : Int) + 1) = ((k + 1 : Nat) : Int) := by rw [← i64_w, IntKind.wrap_i64]; have := HN0.out; omega
                  have WN := Aside0.mk (congrArg (Value.int IntKind.i64) wk)
                  have WI := Aside0.mk wk
                  clear wk
                  go_wp2
                  go_roundw
                  case rel => exact ⟨k + 1, HLT.out, by first | exact WN.out | exact WI.out, HE, HT3⟩
                  case measure => exact ms_val HLT.out WN.out
            · obtain rfl : k = l0.length := by omega
              have bk2 : decide ((l0.length : Int) < (l0.length : Int)) = false := decide_eq_false (by omega)
              have hs0 := HG.out
              rw [List.drop_length] at hs0
              have HSS := Aside0.mk ((tgtG.eq_1 ..).symm.trans hs0)
              have hstr := HE.out.str
              have c0_9 := HE.out.c0
              obtain ⟨A, c, rfl⟩ := HE.out.sl
              clear hs0 HG hlt
              go_wp2
              go_ret3
              have hs := HSS.out
              injection hs with e1 e2
              injection e2 with e2 e3
              subst e1 e2 e3
              exact ⟨rfl, HE.out.2.1⟩
  · rw [if_neg hp] at h
    exact absurd h (by simp)
end Go.Proofs.Ytfnjbmpolggdeaa.CW
end
section
namespace Go.Proofs.Ytfnjbmpolggdeaa.CW
open Go.RowKit Go.Proofs.YtfnjbmpolggdeaaW.PrintWords Go.Proofs.YtfnjbmpolggdeaaW.PrintLast Go.Proofs.YtfnjbmpolggdeaaW.PrintMore
attribute [local go_sem] max2_int min2_int max_two min_two max_three min_three max_four min_four   -- for this text's walks alone
set_option linter.unusedVariables false
set_option linter.unusedSimpArgs false
def jvmcoreref2_form.f (a0 : Int) : Option (ByteArray) := if a0 ≥ 201 then (some (⟨#[120]⟩ : ByteArray)) else (if 0 ≤ a0 then (if a0 ≤ (wrap64 (a0 + 1)) then (if (wrap64 (a0 + 1)) ≤ 201 then (some ((⟨#[46, 46, 46, 46, 46, 46, 46, 46, 46, 46, 46, 46, 46, 46, 46, 46, 98, 115, 99, 105, 105, 108, 108, 108, 108, 108, 46, 46, 46, 46, 46, 46, 46, 46, 46, 46, 46, 46, 46, 46, 46, 46, 46, 46, 46, 46, 46, 46, 46, 46, 46, 46, 46, 46, 108, 108, 108, 108, 108, 46, 46, 46, 46, 46, 46, 46, 46, 46, 46, 46, 46, 46, 46, 46, 46, 46, 46, 46, 46, 46, 46, 46, 46, 46, 46, 46, 46, 46, 46, 46, 46, 46, 46, 46, 46, 46, 46, 46, 46, 46, 46, 46, 46, 46, 46, 46, 46, 46, 46, 46, 46, 46, 46, 46, 46, 46, 46, 46, 46, 46, 46, 46, 46, 46, 46, 46, 46, 46, 46, 46, 46, 46, 110, 46, 46, 46, 46, 46, 46, 46, 46, 46, 46, 46, 46, 46, 46, 46, 46, 46, 46, 46, 46, 106, 106, 106, 106, 106, 106, 106, 106, 106, 106, 106, 106, 106, 106, 106, 120, 120, 116, 107, 46, 46, 46, 46, 46, 46, 105, 105, 105, 105, 105, 105, 105, 102, 120, 105, 97, 105, 46, 46, 105, 105, 46, 46, 119, 109, 106, 106, 74]⟩ : ByteArray).extract (a0 : Int).toNat ((wrap64 (a0 + 1)) : Int).toNat)) else (none)) else (none)) else (none))
set_option maxHeartbeats 8000000 in
set_option maxRecDepth 100000 in
theorem jvmcoreref2_form.calls (a0 : Int) (r : ByteArray) (w : World) (h : jvmcoreref2_form.f a0 = some r) :
    Calls Try.prog 80 #[.int .i64 a0] w fun e w' => e = .returned (.string r) ∧ Drawn0 w w' := by
  have H : (if a0 ≥ 201 then (some (⟨#[120]⟩ : ByteArray)) else (if 0 ≤ a0 then (if a0 ≤ (wrap64 (a0 + 1)) then (if (wrap64 (a0 + 1)) ≤ 201 then (some ((⟨#[46, 46, 46, 46, 46, 46, 46, 46, 46, 46, 46, 46, 46, 46, 46, 46, 98, 115, 99, 105, 105, 108, 108, 108, 108, 108, 46, 46, 46, 46, 46, 46, 46, 46, 46, 46, 46, 46, 46, 46, 46, 46, 46, 46, 46, 46, 46, 46, 46, 46, 46, 46, 46, 46, 108, 108, 108, 108, 108, 46, 46, 46, 46, 46, 46, 46, 46, 46, 46, 46, 46, 46, 46, 46, 46, 46, 46, 46, 46, 46, 46, 46, 46, 46, 46, 46, 46, 46, 46, 46, 46, 46, 46, 46, 46, 46, 46, 46, 46, 46, 46, 46, 46, 46, 46, 46, 46, 46, 46, 46, 46, 46, 46, 46, 46, 46, 46, 46, 46, 46, 46, 46, 46, 46, 46, 46, 46, 46, 46, 46, 46, 46, 110, 46, 46, 46, 46, 46, 46, 46, 46, 46, 46, 46, 46, 46, 46, 46, 46, 46, 46, 46, 46, 106, 106, 106, 106, 106, 106, 106, 106, 106, 106, 106, 106, 106, 106, 106, 120, 120, 116, 107, 46, 46, 46, 46, 46, 46, 105, 105, 105, 105, 105, 105, 105, 102, 120, 105, 97, 105, 46, 46, 105, 105, 46, 46, 119, 109, 106, 106, 74]⟩ : ByteArray).extract (a0 : Int).toNat ((wrap64 (a0 + 1)) : Int).toNat)) else (none)) else (none)) else (none))) = some r := h
  clear h
  by_cases c2 : a0 ≥ 201
  · rw [if_pos c2] at H
    have c2b0 : decide (201 ≤ a0) = true := decide_eq_true c2
    clear c2
    obtain rfl := Option.some.inj H
    go_enter Try.func80, Try.ntmps80
    go_wp2
    go_ret
    exact ⟨by first | rfl | (simp; done) | (simp [*]; done), by repeat (first | exact Drawn0.refl _ | apply Drawn0.step)⟩
  · rw [if_neg c2] at H
    have c2b0 : decide (201 ≤ a0) = false := decide_eq_false c2
    clear c2
    by_cases c3 : 0 ≤ a0
    · rw [if_pos c3] at H
      have c3b0 := eq_true c3
      have c3b1 : decide (0 ≤ a0) = true := decide_eq_true c3
      clear c3
      by_cases c4 : a0 ≤ (wrap64 (a0 + 1))
      · rw [if_pos c4] at H
        have c4b0 := eq_true c4
        have c4b1 : decide (a0 ≤ (wrap64 (a0 + 1))) = true := decide_eq_true c4
        by_cases c5 : (wrap64 (a0 + 1)) ≤ 201
        · rw [if_pos c5] at H
          have c5b0 := eq_true c5
          have c5b1 : decide ((wrap64 (a0 + 1)) ≤ 201) = true := decide_eq_true c5
          obtain rfl := Option.some.inj H
          go_enter Try.func80, Try.ntmps80
          go_wp2
          go_ret
          exact ⟨by first | rfl | (simp; done) | (simp [*]; done), by repeat (first | exact Drawn0.refl _ | apply Drawn0.step)⟩
        · rw [if_neg c5] at H
          exact absurd H (by simp)
      · rw [if_neg c4] at H
        exact absurd H (by simp)
    · rw [if_neg c3] at H
      exact absurd H (by simp)
end Go.Proofs.Ytfnjbmpolggdeaa.CW
end
section
namespace Go.Proofs.Ytfnjbmpolggdeaa.CW
open Go.RowKit Go.Lib Go.Proofs.YtfnjbmpolggdeaaW.PrintWords Go.Proofs.YtfnjbmpolggdeaaW.PrintLast Go.Proofs.YtfnjbmpolggdeaaW.PrintMore
set_option linter.unusedVariables false
set_option linter.unusedSimpArgs false
def inB (x : Int) (m : Nat) (sg : Bool) : Bool := if sg = true then (decide (-(2 ^ (8 * m - 1) : Nat) ≤ x) && decide (x ≤ (2 ^ (8 * m - 1) : Nat) - 1)) else (decide (0 ≤ x) && decide (x ≤ (2 ^ (8 * m) : Nat) - 1))
def jvmcoreref2_bytes.f (a0 : Int) (a1 : Int) (a2 : Bool) : Option (ByteArray × Bool) := if a1 = 1 ∨ a1 = 2 ∨ a1 = 4 then some (sb (bigB (U64 a0) a1.toNat), inB a0 a1.toNat a2) else none
set_option maxHeartbeats 4000000 in
set_option maxRecDepth 100000 in
theorem in_any (x : Int) (j : Int) (m : Nat) (hj : j = m) (hm : m = 1 ∨ m = 2 ∨ m = 4) (sg : Bool) (w : World) :
    Calls Try.prog 140 #[.int .i64 x, .int .i64 j, .bool sg] w fun e w' => e = .returned (.bool (inB x m sg)) ∧ Below w.heap.size w w' := by
  rcases hm with rfl | rfl | rfl
  · obtain rfl : j = 1 := hj
    cases sg with
    | true =>
      by_cases h : x ≥ -128
      · have q : decide (x ≥ -128) = true := decide_eq_true h
        have q' : decide (-128 ≤ x) = true := decide_eq_true h
        have HR : Aside0 (inB x 1 true = decide (x < 128)) := ⟨by rw [show inB x 1 true = (decide ((-128 : Int) ≤ x) && decide (x ≤ 127)) from rfl, q', Bool.true_and]; congr 1; exact propext ⟨fun h => by omega, fun h => by omega⟩⟩
        have wa : IntKind.i64.wrap (8 * 1) = 8 := by decide
        have wa' : IntKind.i64.wrap 8 = 8 := by decide
        have wb : IntKind.i64.wrap (8 - 1) = 7 := by decide
        have wb' : IntKind.i64.wrap 7 = 7 := by decide
        have s2 : ∀ W : World, (Op.shift BinOp.shl IntKind.i64 1 IntKind.i64 7).run Try.prog W = .ok (.int .i64 128) W := fun W => by rfl
        have we : IntKind.i64.wrap 128 = 128 := by decide
        have s1 : ∀ W : World, (Op.shift BinOp.shl IntKind.i64 (-1) IntKind.i64 7).run Try.prog W = .ok (.int .i64 (-128)) W := fun W => by rfl
        have we' : IntKind.i64.wrap (-128) = -128 := by decide
        clear h
        go_enter Try.func140, Try.ntmps140
        go_wp2
        go_ret
        exact ⟨by rw [HR.out]; rfl, Below.refl _ _⟩
      · have q : decide (x ≥ -128) = false := decide_eq_false h
        have q' : decide (-128 ≤ x) = false := decide_eq_false h
        have HR : Aside0 (inB x 1 true = false) := ⟨by rw [show inB x 1 true = (decide ((-128 : Int) ≤ x) && decide (x ≤ 127)) from rfl, q', Bool.false_and]⟩
        have wa : IntKind.i64.wrap (8 * 1) = 8 := by decide
        have wa' : IntKind.i64.wrap 8 = 8 := by decide
        have wb : IntKind.i64.wrap (8 - 1) = 7 := by decide
        have wb' : IntKind.i64.wrap 7 = 7 := by decide
        have s2 : ∀ W : World, (Op.shift BinOp.shl IntKind.i64 1 IntKind.i64 7).run Try.prog W = .ok (.int .i64 128) W := fun W => by rfl
        have we : IntKind.i64.wrap 128 = 128 := by decide
        have s1 : ∀ W : World, (Op.shift BinOp.shl IntKind.i64 (-1) IntKind.i64 7).run Try.prog W = .ok (.int .i64 (-128)) W := fun W => by rfl
        have we' : IntKind.i64.wrap (-128) = -128 := by decide
        clear h
        go_enter Try.func140, Try.ntmps140
        go_wp2
        go_ret
        exact ⟨by rw [HR.out]; rfl, Below.refl _ _⟩
    | false =>
      by_cases h : x ≥ 0
      · have q : decide (x ≥ 0) = true := decide_eq_true h
        have q' : decide (0 ≤ x) = true := decide_eq_true h
        have HR : Aside0 (inB x 1 false = decide (x < 256)) := ⟨by rw [show inB x 1 false = (decide ((0 : Int) ≤ x) && decide (x ≤ 255)) from rfl, q', Bool.true_and]; congr 1; exact propext ⟨fun h => by omega, fun h => by omega⟩⟩
        have wa : IntKind.i64.wrap (8 * 1) = 8 := by decide
        have wa' : IntKind.i64.wrap 8 = 8 := by decide
        have wb : IntKind.i64.wrap (8 - 1) = 7 := by decide
        have wb' : IntKind.i64.wrap 7 = 7 := by decide
        have s2 : ∀ W : World, (Op.shift BinOp.shl IntKind.i64 1 IntKind.i64 8).run Try.prog W = .ok (.int .i64 256) W := fun W => by rfl
        have we : IntKind.i64.wrap 256 = 256 := by decide
        clear h
        go_enter Try.func140, Try.ntmps140
        go_wp2
        go_ret
        exact ⟨by rw [HR.out]; rfl, Below.refl _ _⟩
      · have q : decide (x ≥ 0) = false := decide_eq_false h
        have q' : decide (0 ≤ x) = false := decide_eq_false h
        have HR : Aside0 (inB x 1 false = false) := ⟨by rw [show inB x 1 false = (decide ((0 : Int) ≤ x) && decide (x ≤ 255)) from rfl, q', Bool.false_and]⟩
        have wa : IntKind.i64.wrap (8 * 1) = 8 := by decide
        have wa' : IntKind.i64.wrap 8 = 8 := by decide
        have wb : IntKind.i64.wrap (8 - 1) = 7 := by decide
        have wb' : IntKind.i64.wrap 7 = 7 := by decide
        have s2 : ∀ W : World, (Op.shift BinOp.shl IntKind.i64 1 IntKind.i64 8).run Try.prog W = .ok (.int .i64 256) W := fun W => by rfl
        have we : IntKind.i64.wrap 256 = 256 := by decide
        clear h
        go_enter Try.func140, Try.ntmps140
        go_wp2
        go_ret
        exact ⟨by rw [HR.out]; rfl, Below.refl _ _⟩
  · obtain rfl : j = 2 := hj
    cases sg with
    | true =>
      by_cases h : x ≥ -32768
      · have q : decide (x ≥ -32768) = true := decide_eq_true h
        have q' : decide (-32768 ≤ x) = true := decide_eq_true h
        have HR : Aside0 (inB x 2 true = decide (x < 32768)) := ⟨by rw [show inB x 2 true = (decide ((-32768 : Int) ≤ x) && decide (x ≤ 32767)) from rfl, q', Bool.true_and]; congr 1; exact propext ⟨fun h => by omega, fun h => by omega⟩⟩
        have wa : IntKind.i64.wrap (8 * 2) = 16 := by decide
        have wa' : IntKind.i64.wrap 16 = 16 := by decide
        have wb : IntKind.i64.wrap (16 - 1) = 15 := by decide
        have wb' : IntKind.i64.wrap 15 = 15 := by decide
        have s2 : ∀ W : World, (Op.shift BinOp.shl IntKind.i64 1 IntKind.i64 15).run Try.prog W = .ok (.int .i64 32768) W := fun W => by rfl
        have we : IntKind.i64.wrap 32768 = 32768 := by decide
        have s1 : ∀ W : World, (Op.shift BinOp.shl IntKind.i64 (-1) IntKind.i64 15).run Try.prog W = .ok (.int .i64 (-32768)) W := fun W => by rfl
        have we' : IntKind.i64.wrap (-32768) = -32768 := by decide
        clear h
        go_enter Try.func140, Try.ntmps140
        go_wp2
        go_ret
        exact ⟨by rw [HR.out]; rfl, Below.refl _ _⟩
      · have q : decide (x ≥ -32768) = false := decide_eq_false h
        have q' : decide (-32768 ≤ x) = false := decide_eq_false h
        have HR : Aside0 (inB x 2 true = false) := ⟨by rw [show inB x 2 true = (decide ((-32768 : Int) ≤ x) && decide (x ≤ 32767)) from rfl, q', Bool.false_and]⟩
        have wa : IntKind.i64.wrap (8 * 2) = 16 := by decide
        have wa' : IntKind.i64.wrap 16 = 16 := by decide
        have wb : IntKind.i64.wrap (16 - 1) = 15 := by decide
        have wb' : IntKind.i64.wrap 15 = 15 := by decide
        have s2 : ∀ W : World, (Op.shift BinOp.shl IntKind.i64 1 IntKind.i64 15).run Try.prog W = .ok (.int .i64 32768) W := fun W => by rfl
        have we : IntKind.i64.wrap 32768 = 32768 := by decide
        have s1 : ∀ W : World, (Op.shift BinOp.shl IntKind.i64 (-1) IntKind.i64 15).run Try.prog W = .ok (.int .i64 (-32768)) W := fun W => by rfl
        have we' : IntKind.i64.wrap (-32768) = -32768 := by decide
        clear h
        go_enter Try.func140, Try.ntmps140
        go_wp2
        go_ret
        exact ⟨by rw [HR.out]; rfl, Below.refl _ _⟩
    | false =>
      by_cases h : x ≥ 0
      · have q : decide (x ≥ 0) = true := decide_eq_true h
        have q' : decide (0 ≤ x) = true := decide_eq_true h
        have HR : Aside0 (inB x 2 false = decide (x < 65536)) := ⟨by rw [show inB x 2 false = (decide ((0 : Int) ≤ x) && decide (x ≤ 65535)) from rfl, q', Bool.true_and]; congr 1; exact propext ⟨fun h => by omega, fun h => by omega⟩⟩
        have wa : IntKind.i64.wrap (8 * 2) = 16 := by decide
        have wa' : IntKind.i64.wrap 16 = 16 := by decide
        have wb : IntKind.i64.wrap (16 - 1) = 15 := by decide
        have wb' : IntKind.i64.wrap 15 = 15 := by decide
        have s2 : ∀ W : World, (Op.shift BinOp.shl IntKind.i64 1 IntKind.i64 16).run Try.prog W = .ok (.int .i64 65536) W := fun W => by rfl
        have we : IntKind.i64.wrap 65536 = 65536 := by decide
        clear h
        go_enter Try.func140, Try.ntmps140
        go_wp2
        go_ret
        exact ⟨by rw [HR.out]; rfl, Below.refl _ _⟩
      · have q : decide (x ≥ 0) = false := decide_eq_false h
        have q' : decide (0 ≤ x) = false := decide_eq_false h
        have HR : Aside0 (inB x 2 false = false) := ⟨by rw [show inB x 2 false = (decide ((0 : Int) ≤ x) && decide (x ≤ 65535)) from rfl, q', Bool.false_and]⟩
        have wa : IntKind.i64.wrap (8 * 2) = 16 := by decide
        have wa' : IntKind.i64.wrap 16 = 16 := by decide
        have wb : IntKind.i64.wrap (16 - 1) = 15 := by decide
        have wb' : IntKind.i64.wrap 15 = 15 := by decide
        have s2 : ∀ W : World, (Op.shift BinOp.shl IntKind.i64 1 IntKind.i64 16).run Try.prog W = .ok (.int .i64 65536) W := fun W => by rfl
        have we : IntKind.i64.wrap 65536 = 65536 := by decide
        clear h
        go_enter Try.func140, Try.ntmps140
        go_wp2
        go_ret
        exact ⟨by rw [HR.out]; rfl, Below.refl _ _⟩
  · obtain rfl : j = 4 := hj
    cases sg with
    | true =>
      by_cases h : x ≥ -2147483648
      · have q : decide (x ≥ -2147483648) = true := decide_eq_true h
        have q' : decide (-2147483648 ≤ x) = true := decide_eq_true h
        have HR : Aside0 (inB x 4 true = decide (x < 2147483648)) := ⟨by rw [show inB x 4 true = (decide ((-2147483648 : Int) ≤ x) && decide (x ≤ 2147483647)) from rfl, q', Bool.true_and]; congr 1; exact propext ⟨fun h => by omega, fun h => by omega⟩⟩
        have wa : IntKind.i64.wrap (8 * 4) = 32 := by decide
        have wa' : IntKind.i64.wrap 32 = 32 := by decide
        have wb : IntKind.i64.wrap (32 - 1) = 31 := by decide
        have wb' : IntKind.i64.wrap 31 = 31 := by decide
        have s2 : ∀ W : World, (Op.shift BinOp.shl IntKind.i64 1 IntKind.i64 31).run Try.prog W = .ok (.int .i64 2147483648) W := fun W => by rfl
        have we : IntKind.i64.wrap 2147483648 = 2147483648 := by decide
        have s1 : ∀ W : World, (Op.shift BinOp.shl IntKind.i64 (-1) IntKind.i64 31).run Try.prog W = .ok (.int .i64 (-2147483648)) W := fun W => by rfl
        have we' : IntKind.i64.wrap (-2147483648) = -2147483648 := by decide
        clear h
        go_enter Try.func140, Try.ntmps140
        go_wp2
        go_ret
        exact ⟨by rw [HR.out]; rfl, Below.refl _ _⟩
      · have q : decide (x ≥ -2147483648) = false := decide_eq_false h
        have q' : decide (-2147483648 ≤ x) = false := decide_eq_false h
        have HR : Aside0 (inB x 4 true = false) := ⟨by rw [show inB x 4 true = (decide ((-2147483648 : Int) ≤ x) && decide (x ≤ 2147483647)) from rfl, q', Bool.false_and]⟩
        have wa : IntKind.i64.wrap (8 * 4) = 32 := by decide
        have wa' : IntKind.i64.wrap 32 = 32 := by decide
        have wb : IntKind.i64.wrap (32 - 1) = 31 := by decide
        have wb' : IntKind.i64.wrap 31 = 31 := by decide
        have s2 : ∀ W : World, (Op.shift BinOp.shl IntKind.i64 1 IntKind.i64 31).run Try.prog W = .ok (.int .i64 2147483648) W := fun W => by rfl
        have we : IntKind.i64.wrap 2147483648 = 2147483648 := by decide
        have s1 : ∀ W : World, (Op.shift BinOp.shl IntKind.i64 (-1) IntKind.i64 31).run Try.prog W = .ok (.int .i64 (-2147483648)) W := fun W => by rfl
        have we' : IntKind.i64.wrap (-2147483648) = -2147483648 := by decide
        clear h
        go_enter Try.func140, Try.ntmps140
        go_wp2
        go_ret
        exact ⟨by rw [HR.out]; rfl, Below.refl _ _⟩
    | false =>
      by_cases h : x ≥ 0
      · have q : decide (x ≥ 0) = true := decide_eq_true h
        have q' : decide (0 ≤ x) = true := decide_eq_true h
        have HR : Aside0 (inB x 4 false = decide (x < 4294967296)) := ⟨by rw [show inB x 4 false = (decide ((0 : Int) ≤ x) && decide (x ≤ 4294967295)) from rfl, q', Bool.true_and]; congr 1; exact propext ⟨fun h => by omega, fun h => by omega⟩⟩
        have wa : IntKind.i64.wrap (8 * 4) = 32 := by decide
        have wa' : IntKind.i64.wrap 32 = 32 := by decide
        have wb : IntKind.i64.wrap (32 - 1) = 31 := by decide
        have wb' : IntKind.i64.wrap 31 = 31 := by decide
        have s2 : ∀ W : World, (Op.shift BinOp.shl IntKind.i64 1 IntKind.i64 32).run Try.prog W = .ok (.int .i64 4294967296) W := fun W => by rfl
        have we : IntKind.i64.wrap 4294967296 = 4294967296 := by decide
        clear h
        go_enter Try.func140, Try.ntmps140
        go_wp2
        go_ret
        exact ⟨by rw [HR.out]; rfl, Below.refl _ _⟩
      · have q : decide (x ≥ 0) = false := decide_eq_false h
        have q' : decide (0 ≤ x) = false := decide_eq_false h
        have HR : Aside0 (inB x 4 false = false) := ⟨by rw [show inB x 4 false = (decide ((0 : Int) ≤ x) && decide (x ≤ 4294967295)) from rfl, q', Bool.false_and]⟩
        have wa : IntKind.i64.wrap (8 * 4) = 32 := by decide
        have wa' : IntKind.i64.wrap 32 = 32 := by decide
        have wb : IntKind.i64.wrap (32 - 1) = 31 := by decide
        have wb' : IntKind.i64.wrap 31 = 31 := by decide
        have s2 : ∀ W : World, (Op.shift BinOp.shl IntKind.i64 1 IntKind.i64 32).run Try.prog W = .ok (.int .i64 4294967296) W := fun W => by rfl
        have we : IntKind.i64.wrap 4294967296 = 4294967296 := by decide
        clear h
        go_enter Try.func140, Try.ntmps140
        go_wp2
        go_ret
        exact ⟨by rw [HR.out]; rfl, Below.refl _ _⟩
set_option maxHeartbeats 2000000 in
set_option maxRecDepth 100000 in
theorem bytes_any (x : Int) (j : Int) (m : Nat) (hj : j = m) (hm : m = 1 ∨ m = 2 ∨ m = 4) (sg : Bool) (w : World) :
    Calls Try.prog 122 #[.int .i64 x, .int .i64 j, .bool sg] w fun e w' => e = .returned (.tuple #[.string (sb (bigB (U64 x) m)), .bool (inB x m sg)]) ∧ Below w.heap.size w w' := by
  have HJ := Lib.hid hj
  have HM := Lib.hid hm
  clear hj hm
  go_enter Try.func122, Try.ntmps122
  go_wp2_with fail
  refine (RefBig_any (U64 x) m _ (u64_nat x) j HJ.out _ (u64_lt x) (by have := HM.out; omega)).mono ?_
  rintro e1 w1 ⟨rfl, h1⟩
  go_wp2_with fail
  refine (in_any x j m HJ.out HM.out sg _).mono ?_
  rintro e2 w2 ⟨rfl, h2⟩
  go_wp2
  go_ret2
  exact ⟨rfl, below_then h1 h1.size h2⟩
theorem jvmcoreref2_bytes.calls (a0 : Int) (a1 : Int) (a2 : Bool) (r1 : ByteArray) (r2 : Bool) (w : World) (h : jvmcoreref2_bytes.f a0 a1 a2 = some (r1, r2)) :
    Calls Try.prog 122 #[.int .i64 a0, .int .i64 a1, .bool a2] w fun e w' => e = .returned (.tuple #[.string r1, .bool r2]) ∧ Below w.heap.size w w' := by
  unfold jvmcoreref2_bytes.f at h
  split at h
  · rename_i hc
    rw [Option.some.injEq, Prod.mk.injEq] at h
    obtain ⟨rfl, rfl⟩ := h
    exact bytes_any a0 a1 a1.toNat (by omega) (by omega) a2 w
  · cases h
end Go.Proofs.Ytfnjbmpolggdeaa.CW
end
section
namespace Go.Proofs.Ytfnjbmpolggdeaa.CW
open Go.RowKit Go.Lib Go.Proofs.YtfnjbmpolggdeaaW.PrintWords Go.Proofs.YtfnjbmpolggdeaaW.PrintLast Go.Proofs.YtfnjbmpolggdeaaW.PrintMore
set_option linter.unusedVariables false
set_option linter.unusedSimpArgs false
theorem rc_app (a b : List Nat) : sb a ++ sb b = sb (a ++ b) := by
  unfold sb
  apply ByteArray.ext
  simp [ByteArray.data_append]
def headR (x0 x5 : Int) (x7 : List Int) (f : Int) (s : List Nat × Bool) : List Nat × Bool :=
  if f = 10 then sgnS (wrap64 (wrap64 (x5 + ((x7.length : Int) - 1)) - 1)) 4 (sgnS x5 4 (sgnS (wrap64 (rd x7 0 - x0)) 4 s))
  else sgnS ((x7.length : Int) - 1) 4 (sgnS (wrap64 (rd x7 0 - x0)) 4 s)
def strt (n0 : Nat) (x1 : Int) : List Nat × Bool := (x1.toNat :: List.replicate (padN (n0 + 1)) 0, true)
def refCho (n0 : Nat) (x1 x5 : Int) (x6 x7 : List Int) (f : Int) : List Nat × Bool :=
  if x7.length = 0 ∨ (f = 10 ∧ x7.length = 1) ∨ (f = 11 ∧ x7.length ≠ x6.length + 1) then ([], false) else rowsS n0 x6 x7 f (x7.length - 1) (headR n0 x5 x7 f (strt n0 x1))
def jvmcoreref2_choice.f (x0 x1 : Int) (x2 : Bool) (x3 x4 x5 : Int) (l6 l7 : List Int) (keys : Bool) : Option (ByteArray × Bool) :=
  if 0 ≤ x0 ∧ x0 ≤ 1000000 ∧ 0 ≤ x1 ∧ x1 < 256 ∧ l6.length ≤ 1000000 ∧ l7.length ≤ 1000000 then
    some (sb (refCho x0.toNat x1 x5 l6 l7 (if keys = true then 11 else 10)).1, (refCho x0.toNat x1 x5 l6 l7 (if keys = true then 11 else 10)).2)
  else none
def RS (w W : World) (o : Obj) : Prop := Below w.heap.size w W ∧ W.heap[w.heap.size]? = some o
theorem RS.start (w : World) (c : Array Value) : RS w (w.alloc (.cells c 82)) (.cells c 82 (0, 0)) := ⟨below_alloc (Below.refl _ _) _, Array.getElem?_push_size⟩
theorem RS.step {w W W1 : World} {o : Obj} (h : RS w W o) (hb : Below W.heap.size W W1) : RS w W1 o :=
  ⟨below_then h.1 h.1.size hb, (hb.block w.heap.size (Array.getElem?_eq_some_iff.1 h.2).1).trans h.2⟩
theorem RS.lt {w W : World} {o : Obj} (h : RS w W o) : w.heap.size < W.heap.size := (Array.getElem?_eq_some_iff.1 h.2).1
theorem bytes4 (x : Int) (w : World) : Calls Try.prog 122 #[.int .i64 x, .int .i64 4, .bool true] w fun e w' => e = .returned (.tuple #[.string (sb (bigB (U64 x) 4)), .bool (inB x 4 true)]) ∧ Below w.heap.size w w' :=
  jvmcoreref2_bytes.calls x 4 true _ _ w (by unfold jvmcoreref2_bytes.f; rfl)
def strZ : Value → Nat | .string b => b.size | _ => 0
theorem rc_sgn (x : Int) (s : List Nat × Bool) : sgnS x 4 s = (s.1 ++ bigB (U64 x) 4, s.2 && inB x 4 true) := by rfl
theorem rc_len (n0 : Nat) (x1 : Int) (m : Nat) : (sb (x1.toNat :: List.replicate m 0)).size = m + 1 := by simp [sb_size]
theorem rc_zero (x1 : Int) (m : Nat) : sb (x1.toNat :: List.replicate m 0) ++ (⟨#[0]⟩ : ByteArray) = sb (x1.toNat :: List.replicate (m + 1) 0) := by
  rw [show (⟨#[0]⟩ : ByteArray) = sb [0] from rfl, rc_app, List.replicate_succ', List.cons_append]
theorem sgn_lt (x : Int) (s : List Nat × Bool) (h : ∀ b ∈ s.1, b < 256) : ∀ b ∈ (sgnS x 4 s).1, b < 256 := by
  intro b hb
  rw [rc_sgn] at hb
  rcases List.mem_append.1 hb with hb | hb
  · exact h b hb
  · exact bigB_lt _ _ b hb
theorem strt_lt (n0 : Nat) (x1 : Int) (h : 0 ≤ x1 ∧ x1 < 256) : ∀ b ∈ (strt n0 x1).1, b < 256 := by
  intro b hb
  rcases List.mem_cons.1 hb with rfl | hb
  · omega
  · have := (List.mem_replicate.1 hb).2; omega
theorem strt_len (n0 : Nat) (x1 : Int) : (strt n0 x1).1.length ≤ 4 := by unfold strt padN; simp; omega
theorem headR_lt (n0 : Nat) (x1 x5 : Int) (x7 : List Int) (f : Int) (h : 0 ≤ x1 ∧ x1 < 256) : ∀ b ∈ (headR n0 x5 x7 f (strt n0 x1)).1, b < 256 := by
  unfold headR
  split
  · exact sgn_lt _ _ (sgn_lt _ _ (sgn_lt _ _ (strt_lt n0 x1 h)))
  · exact sgn_lt _ _ (sgn_lt _ _ (strt_lt n0 x1 h))
theorem headR_len (n0 : Nat) (x1 x5 : Int) (x7 : List Int) (f : Int) : (headR n0 x5 x7 f (strt n0 x1)).1.length ≤ 16 := by
  have := strt_len n0 x1
  unfold headR
  split
  · simp only [sgn_len]; omega
  · simp only [sgn_len]; omega
def RM (w W : World) (o : Obj) (v : Value) (l : List Nat) : Prop := RS w W o ∧ mrow W (w.heap.size + 1) 5 v l.length (u8s l)
theorem RM.start {w W W1 : World} {o : Obj} {v : Value} {l : List Nat} (h : RS w W o) (hb : Below W.heap.size W W1) (hm : mrow W1 W.heap.size 5 v (sb l).size (u8s (bs (sb l)))) (hl : ∀ b ∈ l, b < 256) : RM w W1 o v l := by
  rw [bs_sb hl, sb_size] at hm
  exact ⟨h.step hb, hm.mono h.lt⟩
theorem RM.step {w W W1 : World} {o : Obj} {v : Value} {l : List Nat} (h : RM w W o v l) (hb : Below W.heap.size W W1) : RM w W1 o v l := ⟨h.1.step hb, h.2.below hb⟩
theorem RM.app {w W W1 : World} {o : Obj} {v v1 : Value} {l : List Nat} {x : Nat} (h : RM w W o v l) (hb : Below w.heap.size w W1) (hg : W.grownBy W1 v.ownBlock)
    (hm : mrow W1 (w.heap.size + 1) 5 v1 (l.length + (sb (bigB x 4)).size) (u8s l ++ u8s (bs (sb (bigB x 4))))) : RM w W1 o v1 (l ++ bigB x 4) := by
  rw [bs_sb (bigB_lt 4 x), ← u8s_append, sb_size, ← List.length_append] at hm
  exact ⟨⟨hb, (hg.block _ h.1.lt (fun e => by have := (h.2.ge _ e.symm).1; omega)).trans h.1.2⟩, hm⟩
theorem RM.str {w W : World} {o : Obj} {v : Value} {l : List Nat} (h : RM w W o v l) : (convert 87 9 v).run Try.prog W = .ok (.string (sb l)) W :=
  rd_str Try.underlying87 Try.underlying5 Try.underlying9 h.2.rd rfl
theorem ms_val2 {k N : Nat} {v : Value} (h : k < N) (hv : v = .int .i64 (((k + 1 : Nat) : Int) + 1)) : N + 1 - (intOf v).toNat < N + 1 - (intOf (.int .i64 ((k : Int) + 1))).toNat := by
  subst hv
  show N + 1 - ((((k + 1 : Nat) : Int)) + 1).toNat < N + 1 - ((k : Int) + 1).toNat
  omega
theorem rows10_eq {n0 k : Nat} {x6 x7 : List Int} {t : List Nat × Bool} {ql : List Nat} {qo : Bool} (h : rowsS n0 x6 x7 10 k t = (ql, qo)) : rowsS n0 x6 x7 10 (k + 1) t = (ql ++ bigB (U64 (wrap64 (rd x7 ((k : Int) + 1) - (n0 : Int)))) 4, qo && inB (wrap64 (rd x7 ((k : Int) + 1) - (n0 : Int))) 4 true) := by
  rw [rows10, h, rc_sgn]
theorem rows11_eq {n0 k : Nat} {x6 x7 : List Int} {t : List Nat × Bool} {ql : List Nat} {qo : Bool} (h : rowsS n0 x6 x7 11 k t = (ql, qo)) :
    rowsS n0 x6 x7 11 (k + 1) t = ((ql ++ bigB (U64 (rd x6 (k : Int))) 4) ++ bigB (U64 (wrap64 (rd x7 ((k : Int) + 1) - (n0 : Int)))) 4, ((qo && inB (rd x6 (k : Int)) 4 true) && (((k : Int) == 0) || decide (rd x6 ((k : Int) - 1) < rd x6 (k : Int)))) && inB (wrap64 (rd x7 ((k : Int) + 1) - (n0 : Int))) 4 true) := by
  rw [rows11, h, rc_sgn, rc_sgn]
  dsimp only
  congr 2
  exact Bool.and_right_comm _ _ _
theorem str_fits {a b : Nat} (h : a + b ≤ 4000) : (9223372036854775807 < a + b) = False := eq_false (by omega)
end Go.Proofs.Ytfnjbmpolggdeaa.CW
end
section
namespace Go.Proofs.Ytfnjbmpolggdeaa.CW
open Go.RowKit Go.Lib Go.Proofs.YtfnjbmpolggdeaaW.PrintWords Go.Proofs.YtfnjbmpolggdeaaW.PrintLast Go.Proofs.YtfnjbmpolggdeaaW.PrintMore
set_option linter.unusedVariables false
set_option linter.unusedSimpArgs false
set_option maxHeartbeats 8000000 in
set_option maxRecDepth 100000 in
theorem rch_10 (w : World) (n0 : Nat) (x1 : Int) (x2 : Bool) (x3 x4 x5 : Int) (A6 : Option Addr) (c6 : Nat) (x6 : List Int) (A7 : Option Addr) (c7 : Nat) (x7 : List Int) (hx1 : 0 ≤ x1 ∧ x1 < 256) (hn0 : n0 ≤ 1000000) (hl6 : x6.length ≤ 1000000) (hl7 : x7.length ≤ 1000000) (hr6 : Kd.C (Kd.int .i64) w A6 x6.length x6) (hc6 : x6.length ≤ c6) (hr7 : Kd.C (Kd.int .i64) w A7 x7.length x7) (hc7 : x7.length ≤ c7) :
    Calls Try.prog 121 #[.agg #[.int .i64 (n0 : Int), .int .u8 x1, .bool x2, .int .i64 x3, .int .i64 x4, .int .i64 x5, .slice A6 x6.length c6, .slice A7 x7.length c7], .bool false] w fun e w' => e = .returned (.tuple #[.string (sb (refCho n0 x1 x5 x6 x7 10).1), .bool (refCho n0 x1 x5 x6 x7 10).2]) ∧ Below w.heap.size w w' := by
  have HX1 := Lib.hid hx1
  have HN0 := Lib.hid hn0
  have HL6 := Lib.hid hl6
  have HL7 := Lib.hid hl7
  have H6 := Lib.hid hr6
  have H7 := Lib.hid hr7
  have HC6 := Lib.hid hc6
  have HC7 := Lib.hid hc7
  clear hx1 hn0 hl6 hl7 hr6 hr7 hc6 hc7
  have H0 := Lib.hid (RS.start w #[.int .i64 (n0 : Int), .int .u8 x1, .bool x2, .int .i64 x3, .int .i64 x4, .int .i64 x5, .slice A6 x6.length c6, .slice A7 x7.length c7])
  have hs1 : strOfNums [x1] = sb [x1.toNat] := by have := strOfNums_nats [x1.toNat]; rw [← this]; simp only [List.map_cons, List.map_nil]; rw [Int.toNat_of_nonneg HX1.out.1]
  have hl1 : (convert 87 9 (Value.slice (some ⟨w.heap.size + 1, 0, none⟩) 1 1)).run Try.prog ((w.alloc (.cells #[.int .i64 (n0 : Int), .int .u8 x1, .bool x2, .int .i64 x3, .int .i64 x4, .int .i64 x5, .slice A6 x6.length c6, .slice A7 x7.length c7] 82)).alloc (.cells #[.int .u8 x1] 5)) = .ok (.string (strOfNums [x1])) ((w.alloc (.cells #[.int .i64 (n0 : Int), .int .u8 x1, .bool x2, .int .i64 x3, .int .i64 x4, .int .i64 x5, .slice A6 x6.length c6, .slice A7 x7.length c7] 82)).alloc (.cells #[.int .u8 x1] 5)) := by
    have h := lit_str1 (P := Try.prog) Try.underlying87 Try.underlying5 Try.underlying9 (w.alloc (.cells #[.int .i64 (n0 : Int), .int .u8 x1, .bool x2, .int .i64 x3, .int .i64 x4, .int .i64 x5, .slice A6 x6.length c6, .slice A7 x7.length c7] 82)) x1
    rw [show (w.alloc (.cells #[.int .i64 (n0 : Int), .int .u8 x1, .bool x2, .int .i64 x3, .int .i64 x4, .int .i64 x5, .slice A6 x6.length c6, .slice A7 x7.length c7] 82)).heap.size = w.heap.size + 1 from Array.size_push _] at h
    exact h
  rw [hs1] at hl1
  go_enter Try.func121, Try.ntmps121
  go_wp2
  go_loopw [6] (fun s wr => ∃ m : Nat, m ≤ padN (n0 + 1) ∧ s = .string (sb (x1.toNat :: List.replicate m 0)) ∧ Aside0 (RS w wr (.cells #[.int .i64 (n0 : Int), .int .u8 x1, .bool x2, .int .i64 x3, .int .i64 x4, .int .i64 x5, .slice A6 x6.length c6, .slice A7 x7.length c7] 82 (0, 0)))) (fun s _ => padN (n0 + 1) + 1 - strZ s)
  case atStart => exact ⟨0, Nat.zero_le _, by first | rfl | (rw [hs1]; rfl) | simp [hs1], ⟨(RS.start w _).step (below_alloc (Below.refl _ _) _)⟩⟩
  case round =>
    clear hs1 hl1
    obtain ⟨m, hm, rfl, HS⟩ := hrel
    have H1 := Lib.hid HS.out
    obtain ⟨b0_1, b1_1, b2_1, b3_1, b4_1, b5_1, b6_1, b7_1⟩ := box8 H1.out.2
    have hz := rc_len n0 x1 m
    have hz0 := rc_zero x1 m
    have hz1 : ¬ (9223372036854775807 < m + 1 + 1) := by unfold padN at hm; omega
    have hN0 := HN0.out
    have hv : wrap64 ((n0 : Int) + ((m : Int) + 1)) = (n0 : Int) + ((m : Int) + 1) := by rw [← i64_w, IntKind.wrap_i64]; unfold padN at hm; omega
    have hr : Int.tmod ((n0 : Int) + ((m : Int) + 1)) 4 = (((n0 + (m + 1)) % 4 : Nat) : Int) := (Int.ofNat_tmod (n0 + (m + 1)) 4).symm
    by_cases hlt : m < padN (n0 + 1)
    · have b0 : ((((n0 + (m + 1)) % 4 : Nat) : Int) != 0) = true := by rw [bne_iff_ne]; unfold padN at hlt; omega
      have b0' : (((n0 : Int) + ((m : Int) + 1)) % 4 != 0) = true := by rw [bne_iff_ne]; unfold padN at hlt; omega
      go_wp2
      go_roundw
      case rel => exact ⟨m + 1, hlt, by first | rfl | rw [hz0] | simp [hz0], HS⟩
      case measure => simp only [strZ]; try rw [hz0]
                      try rw [rc_len n0]
                      try rw [hz]
                      omega
    · obtain rfl : m = padN (n0 + 1) := by omega
      have b0 : ((((n0 + (padN (n0 + 1) + 1)) % 4 : Nat) : Int) != 0) = false := by rw [bne_eq_false_iff_eq]; unfold padN; omega
      have b0' : (((n0 : Int) + ((padN (n0 + 1) : Int) + 1)) % 4 != 0) = false := by rw [bne_eq_false_iff_eq]; unfold padN; omega
      have hlen : (strt n0 x1).1.length ≤ 4 := by unfold strt padN; simp; omega
      have HLEN := Lib.hid hlen
      clear hlt hm HS hlen hz0 hz1
      have hw0 : IntKind.i64.wrap ((x7.length : Int) - 1) = (x7.length : Int) - 1 := by rw [IntKind.wrap_i64]; have := HL7.out; omega
      have hw1 : wrap64 ((x7.length : Int) - 1) = (x7.length : Int) - 1 := by rw [← i64_w, IntKind.wrap_i64]; have := HL7.out; omega
      by_cases h0 : x7.length = 0
      · have d0 : decide ((x7.length : Int) - 1 < 0) = true := decide_eq_true (by omega)
        as_aux_lemma =>
        have HC : Aside0 (refCho n0 x1 x5 x6 x7 10 = ([], false)) := ⟨if_pos (.inl h0)⟩
        go_wp2
        go_ret2
        rw [HC.out]
        exact ⟨rfl, H1.out.1⟩
      · have d0 : decide ((x7.length : Int) - 1 < 0) = false := decide_eq_false (by omega)
        by_cases h1 : x7.length = 1
        · have d1 : decide ((x7.length : Int) - 1 < 1) = true := decide_eq_true (by omega)
          as_aux_lemma =>
          have HC : Aside0 (refCho n0 x1 x5 x6 x7 10 = ([], false)) := ⟨if_pos (.inr (.inl ⟨rfl, h1⟩))⟩
          go_wp2
          go_ret2
          rw [HC.out]
          exact ⟨rfl, H1.out.1⟩
        · have d1 : decide ((x7.length : Int) - 1 < 1) = false := decide_eq_false (by omega)
          have HC : Aside0 (refCho n0 x1 x5 x6 x7 10 = rowsS n0 x6 x7 10 (x7.length - 1) (headR n0 x5 x7 10 (strt n0 x1))) := ⟨if_neg (by rintro (h | ⟨_, h⟩ | ⟨_, h⟩) <;> first | exact h0 h | exact h1 h | omega)⟩
          have HX := Lib.hid (show x7.length ≠ 0  by omega)
          obtain ⟨ad, e7, y0⟩ := Kd.at_int H7.out 0 (by omega) (by omega)
          subst e7
          have e0 : ad.add 0 = ad := by cases ad; unfold Addr.add; split <;> simp_all
          have y1 := pw_cell_below H1.out.1 y0
          have y2 := pw_cell_below (drewB _) y1
          simp only [Int.toNat_zero, e0] at y0 y1 y2
          have z0 : (0 : Int) < (x7.length : Int) := by omega
          have z1 : 0 < x7.length := by omega
          clear h0 h1 e0
          go_wp2_with fail
          go_region_held3 (fun w' => w'.cell? ⟨w.heap.size, 7, none⟩ = some (.slice (some ad) x7.length c7) ∧ w'.cell? ⟨w.heap.size, 0, none⟩ = some (.int .i64 (n0 : Int)) ∧ w'.cell? ad = some (.int .i64 (rd x7 0))) (first | exact ⟨b7_1, b0_1, y1⟩ | exact ⟨q2.2.2.2.2.2.2.2, q2.1, q3⟩) ((go_at_call 122; first | (refine (bytes4 (IntKind.i64.wrap (rd x7 0 - (n0 : Int))) _).mono ?_; rintro e2 w2 ⟨rfl, hb2⟩; have q2 := box8 ((H1.out.step (drewB _)).step hb2).2; have q3 := pw_cell_below hb2 y2)))
          all_goals
            as_aux_lemma =>
            simp only [i64_w]
            have H2 := Lib.hid ((H1.out.step (drewB _)).step hb2)
            clear b0_1 b1_1 b2_1 b3_1 b4_1 b5_1 b6_1 b7_1
            clear hb2 H1 y0 y1 y2 hw0
            try clear q2 q3
            try clear hN0
            try clear hr
            try clear hv
            try clear hz
            obtain ⟨b0_2, b1_2, b2_2, b3_2, b4_2, b5_2, b6_2, b7_2⟩ := box8 H2.out.2
            have HLL := strt_len n0 x1
            obtain ⟨k1, hk1⟩ : ∃ k1, inB (wrap64 (rd x7 0 - (n0 : Int))) 4 true = k1 := ⟨_, rfl⟩
            obtain ⟨l1, hl1⟩ : ∃ l1, (strt n0 x1).1 ++ bigB (U64 (wrap64 (rd x7 0 - (n0 : Int)))) 4 = l1 := ⟨_, rfl⟩
            have hs1 : sgnS (wrap64 (rd x7 0 - (n0 : Int))) 4 (strt n0 x1) = (l1, k1) := by rw [rc_sgn, hl1, hk1]; rfl
            have HS1 := Lib.hid hs1
            have hz1 : l1.length ≤ 8 := by rw [← hl1, List.length_append, bigB_length]; omega
            have HZ1 := Lib.hid hz1
            have hap1 : sb (x1.toNat :: List.replicate (padN (n0 + 1)) 0) ++ sb (bigB (U64 (wrap64 (rd x7 0 - (n0 : Int)))) 4) = sb l1 := by rw [rc_app]; exact congrArg sb hl1
            have hzz : (9223372036854775807 < (sb (x1.toNat :: List.replicate (padN (n0 + 1)) 0)).size + (sb (bigB (U64 (wrap64 (rd x7 0 - (n0 : Int)))) 4)).size) = False := by
              rw [rc_len n0, sb_size, bigB_length]; exact eq_false (by unfold padN; omega)
            rw [hk1]
            clear hk1 hl1 hs1 hz1 HLL
            go_wp2_with fail
            refine (bytes4 x5 _).mono ?_
            rintro e3 w3 ⟨rfl, hb3⟩
            have H3 := Lib.hid (H2.out.step hb3)
            clear b0_2 b1_2 b2_2 b3_2 b4_2 b5_2 b6_2 b7_2
            clear hb3 H2 hap1 hzz
            obtain ⟨b0_3, b1_3, b2_3, b3_3, b4_3, b5_3, b6_3, b7_3⟩ := box8 H3.out.2
            go_wp2_with fail
            refine (bytes4 (wrap64 (wrap64 (x5 + ((x7.length : Int) - 1)) - 1)) _).mono ?_
            rintro e4 w4 ⟨rfl, hb4⟩
            have H4 := Lib.hid (H3.out.step hb4)
            clear b0_3 b1_3 b2_3 b3_3 b4_3 b5_3 b6_3 b7_3
            clear hb4 H3
            obtain ⟨b0_4, b1_4, b2_4, b3_4, b4_4, b5_4, b6_4, b7_4⟩ := box8 H4.out.2
            obtain ⟨k2, hk2⟩ : ∃ k2, inB x5 4 true = k2 := ⟨_, rfl⟩
            obtain ⟨k3, hk3⟩ : ∃ k3, inB (wrap64 (wrap64 (x5 + ((x7.length : Int) - 1)) - 1)) 4 true = k3 := ⟨_, rfl⟩
            have HH : Aside0 (headR n0 x5 x7 10 (strt n0 x1) = (l1 ++ (bigB (U64 x5) 4 ++ bigB (U64 (wrap64 (wrap64 (x5 + ((x7.length : Int) - 1)) - 1))) 4), (k1 && k2) && k3)) := ⟨by unfold headR; rw [if_pos rfl, HS1.out, rc_sgn, rc_sgn, hk2, hk3]; dsimp only; rw [List.append_assoc]⟩
            rw [hk2, hk3]
            clear hk2 hk3
            have hap2 : sb (bigB (U64 x5) 4) ++ sb (bigB (U64 (wrap64 (wrap64 (x5 + ((x7.length : Int) - 1)) - 1))) 4) = sb (bigB (U64 x5) 4 ++ bigB (U64 (wrap64 (wrap64 (x5 + ((x7.length : Int) - 1)) - 1))) 4) := rc_app _ _
            have hap3 : sb l1 ++ sb (bigB (U64 x5) 4 ++ bigB (U64 (wrap64 (wrap64 (x5 + ((x7.length : Int) - 1)) - 1))) 4) = sb (l1 ++ (bigB (U64 x5) 4 ++ bigB (U64 (wrap64 (wrap64 (x5 + ((x7.length : Int) - 1)) - 1))) 4)) := rc_app _ _
            have hz2 : (9223372036854775807 < (sb (bigB (U64 x5) 4)).size + (sb (bigB (U64 (wrap64 (wrap64 (x5 + ((x7.length : Int) - 1)) - 1))) 4)).size) = False := by rw [sb_size, sb_size, bigB_length, bigB_length]; exact str_fits (by omega)
            have hz3 : (9223372036854775807 < (sb l1).size + (sb (bigB (U64 x5) 4 ++ bigB (U64 (wrap64 (wrap64 (x5 + ((x7.length : Int) - 1)) - 1))) 4)).size) = False := by rw [sb_size, sb_size, List.length_append, bigB_length, bigB_length]; exact str_fits (by have := HZ1.out; omega)
            go_upto_region 14 with (fail)
            go_cut [9] from 97 to 103 (fun vv wc => vv = .bool ((k1 && k2) && k3) ∧ Aside0 (RS w wc (.cells #[.int .i64 (n0 : Int), .int .u8 x1, .bool x2, .int .i64 x3, .int .i64 x4, .int .i64 x5, .slice A6 x6.length c6, .slice (some ad) x7.length c7] 82 (0, 0))))
            case first =>
              clear b0_4 b1_4 b2_4 b3_4 b4_4 b5_4 b6_4 b7_4
              cases k1 <;> cases k2 <;> cases k3
              all_goals
                go_wp2
                go_meet
                case rel => exact ⟨rfl, ⟨H4.out⟩⟩
            case rest =>
              obtain ⟨rfl, HW⟩ := hcut
              clear b0_4 b1_4 b2_4 b3_4 b4_4 b5_4 b6_4 b7_4
              clear hap2 hap3 hz2 hz3 H4
              have H5 := Lib.hid HW.out
              clear HW
              have HNN : Aside0 (∃ N, x7.length = N + 1) := ⟨⟨x7.length - 1, by have := HX.out; omega⟩⟩
              obtain ⟨N, hN⟩ := HNN.out
              have HN := Lib.hid hN
              clear hN HNN
              have hbel5 : Below w.heap.size w wc := H5.out.1
              have hsz5 := hbel5.size
              have hlen5 : (sb (l1 ++ (bigB (U64 x5) 4 ++ bigB (U64 (wrap64 (wrap64 (x5 + ((x7.length : Int) - 1)) - 1))) 4))).size ≤ 140737488355328 := by rw [sb_size]; have := headR_len n0 x1 x5 x7 10; rw [HH.out] at this; exact Nat.le_trans this (by decide)
              go_wp2_with ((with_reducible refine conv_bytes rfl 9 87 _ rfl 5 Try.underlying9 Try.underlying87 Try.underlying5 w.heap.size hbel5 (sb (l1 ++ (bigB (U64 x5) 4 ++ bigB (U64 (wrap64 (wrap64 (x5 + ((x7.length : Int) - 1)) - 1))) 4))) rfl hlen5 hsz5 ?_); intro v6 w6 hown6 hbel6 hb6)
              have H6_ := Lib.hid (RM.start H5.out hb6 hown6 (by have := headR_lt n0 x1 x5 x7 10 HX1.out; rw [HH.out] at this; exact this))
              clear hown6 hbel6 hb6 H5 hbel5 hsz5 hlen5
              go_wp2_with fail
              go_loopw [9, 14, 15] (fun okv v i wr => ∃ (k : Nat), k ≤ N ∧ i = .int .i64 ((k : Int) + 1) ∧ okv = .bool (rowsS n0 x6 x7 10 k (headR n0 x5 x7 10 (strt n0 x1))).2 ∧ Aside0 (RM w wr (.cells #[.int .i64 (n0 : Int), .int .u8 x1, .bool x2, .int .i64 x3, .int .i64 x4, .int .i64 x5, .slice A6 x6.length c6, .slice (some ad) x7.length c7] 82 (0, 0)) v (rowsS n0 x6 x7 10 k (headR n0 x5 x7 10 (strt n0 x1))).1)) (fun _ _ i _ => N + 1 - (intOf i).toNat)
              case atStart => exact ⟨0, Nat.zero_le _, rfl, by rw [show rowsS n0 x6 x7 10 0 (headR n0 x5 x7 10 (strt n0 x1)) = headR n0 x5 x7 10 (strt n0 x1) from rfl, HH.out], ⟨by rw [show rowsS n0 x6 x7 10 0 (headR n0 x5 x7 10 (strt n0 x1)) = headR n0 x5 x7 10 (strt n0 x1) from rfl, HH.out]; exact H6_.out⟩⟩
              case round =>
                clear H6_
                obtain ⟨k, hk, rfl, rfl, HS⟩ := hrel
                have HLR := Lib.hid (show (rowsS n0 x6 x7 10 k (headR n0 x5 x7 10 (strt n0 x1))).1.length ≤ 16 + 8 * k by have := rows_len n0 x6 x7 10 k (headR n0 x5 x7 10 (strt n0 x1)); have := headR_len n0 x1 x5 x7 10; omega)
                obtain ⟨q, hq⟩ : ∃ q, rowsS n0 x6 x7 10 k (headR n0 x5 x7 10 (strt n0 x1)) = q := ⟨_, rfl⟩
                rw [hq] at HS HLR ⊢
                obtain ⟨ql, qo⟩ := q
                have H8 := Lib.hid HS.out
                have HQ := Lib.hid hq
                clear hq HS
                by_cases hlt : k < N
                · have d2 : decide ((k : Int) + 1 ≤ (x7.length : Int) - 1) = true := decide_eq_true (by have := HN.out; omega)
                  as_aux_lemma =>
                  have i0 : (0 : Int) ≤ (k : Int) + 1 := by omega
                  have i1 : (k : Int) + 1 < (x7.length : Int) := by have := HN.out; omega
                  have i2 : k + 1 < x7.length := by have := HN.out; omega
                  obtain ⟨ad', e', z0⟩ := Kd.at_int H7.out ((k : Int) + 1) i0 i1
                  injection e' with e'
                  subst e'
                  rw [show ((k : Int) + 1).toNat = k + 1 by omega, Addr.add_succ'] at z0
                  have HLT := Lib.hid hlt
                  have wk : wrap64 ((k : Int) + 1 + 1) = ((k + 1 : Nat) : Int) + 1 := by rw [← i64_w, IntKind.wrap_i64]; have := HL7.out; omega
                  have WN := Lib.hid (congrArg (Value.int IntKind.i64) wk)
                  have WI := Lib.hid wk
                  clear wk hlt hk
                  obtain ⟨b0_8, b1_8, b2_8, b3_8, b4_8, b5_8, b6_8, b7_8⟩ := box8 H8.out.1.2
                  have z8 := pw_cell_below H8.out.1.1 z0
                  go_wp2_with fail
                  go_region_held3 (fun w' => w'.cell? ⟨w.heap.size, 7, none⟩ = some (.slice (some ad) x7.length c7) ∧ w'.cell? ⟨w.heap.size, 0, none⟩ = some (.int .i64 (n0 : Int)) ∧ w'.cell? ⟨ad.block, ad.off + (k + 1), none⟩ = some (.int .i64 (rd x7 ((k : Int) + 1)))) (first | exact ⟨b7_8, b0_8, z8⟩ | exact ⟨q2.2.2.2.2.2.2.2, q2.1, q3⟩) ((go_at_call 122; first | (refine (bytes4 (IntKind.i64.wrap (rd x7 ((k : Int) + 1) - (n0 : Int))) _).mono ?_; rintro e9 w9 ⟨rfl, hb9⟩; have q2 := box8 ((H8.out.1.step (drewB _)).step hb9).2; have q3 := pw_cell_below hb9 (pw_cell_below (drewB _) z8))))
                  all_goals
                    simp only [i64_w]
                    have H9 := Lib.hid ((H8.out.step (drewB _)).step hb9)
                    clear b0_8 b1_8 b2_8 b3_8 b4_8 b5_8 b6_8 b7_8
                    clear hb9 H8 z8
                    try clear q2 q3
                    obtain ⟨k4, hk4⟩ : ∃ k4, inB (wrap64 (rd x7 ((k : Int) + 1) - (n0 : Int))) 4 true = k4 := ⟨_, rfl⟩
                    rw [hk4]
                    have HE : Aside0 (rowsS n0 x6 x7 10 (k + 1) (headR n0 x5 x7 10 (strt n0 x1)) = (ql ++ bigB (U64 (wrap64 (rd x7 ((k : Int) + 1) - (n0 : Int)))) 4, qo && k4)) := ⟨by rw [rows10_eq HQ.out, hk4]⟩
                    clear hk4
                    have hbel9 : Below w.heap.size w w9 := H9.out.1.1
                    have hm9 : mrow w9 (w.heap.size + 1) 5 _ ql.length (u8s ql) := H9.out.2
                    have hlt9 : w.heap.size + 1 ≤ w9.heap.size := H9.out.1.lt
                    have hfit9 : ql.length + (sb (bigB (U64 (wrap64 (rd x7 ((k : Int) + 1) - (n0 : Int)))) 4)).size ≤ 140737488355328 := by
                      rw [sb_size, bigB_length]
                      have h1 : ql.length ≤ 16 + 8 * k := HLR.out
                      have := HL7.out; have := HN.out; have := HLT.out
                      omega
                    cases qo <;> cases k4
                    all_goals
                      go_wp2_with (at_builtin; refine app_ms rfl _ _ 87 9 rfl 5 Try.underlying87 Try.underlying9 Try.infoB w.heap.size (w.heap.size + 1) (w0 := w) hbel9 (v := _) (n := ql.length) (xs := u8s ql) hm9 rfl (sb (bigB (U64 (wrap64 (rd x7 ((k : Int) + 1) - (n0 : Int)))) 4)) rfl hfit9 hlt9 (Nat.le_succ _) ?_; intro v10 w10 hown10 hbel10 hg10 hsep10)
                      have H10 := Lib.hid (H9.out.app hbel10 hg10 hown10)
                      clear hown10 hbel10 hg10 hsep10 H9 hbel9 hm9 hlt9 hfit9
                      go_wp2
                      go_roundw
                      case rel => exact ⟨k + 1, HLT.out, by first | exact WN.out | exact WI.out, by rw [HE.out]; rfl, ⟨by rw [HE.out]; exact H10.out⟩⟩
                      case measure => exact ms_val2 HLT.out WN.out
                · obtain rfl : k = N := by omega
                  have d2 : decide ((k : Int) + 1 ≤ (x7.length : Int) - 1) = false := decide_eq_false (by have := HN.out; omega)
                  have hstr := H8.out.str
                  obtain ⟨A8, m8, c8, rfl⟩ := mrow_sl H8.out.2
                  go_wp2
                  go_ret2
                  rw [HC.out, show x7.length - 1 = k by have := HN.out; omega, HQ.out]
                  exact ⟨rfl, H8.out.1.1⟩
end Go.Proofs.Ytfnjbmpolggdeaa.CW
end
section
namespace Go.Proofs.Ytfnjbmpolggdeaa.CW
open Go.RowKit Go.Lib Go.Proofs.YtfnjbmpolggdeaaW.PrintWords Go.Proofs.YtfnjbmpolggdeaaW.PrintLast Go.Proofs.YtfnjbmpolggdeaaW.PrintMore
set_option linter.unusedVariables false
set_option linter.unusedSimpArgs false
set_option maxHeartbeats 8000000 in
set_option maxRecDepth 100000 in
theorem rch_11 (w : World) (n0 : Nat) (x1 : Int) (x2 : Bool) (x3 x4 x5 : Int) (A6 : Option Addr) (c6 : Nat) (x6 : List Int) (A7 : Option Addr) (c7 : Nat) (x7 : List Int) (hx1 : 0 ≤ x1 ∧ x1 < 256) (hn0 : n0 ≤ 1000000) (hl6 : x6.length ≤ 1000000) (hl7 : x7.length ≤ 1000000) (hr6 : Kd.C (Kd.int .i64) w A6 x6.length x6) (hc6 : x6.length ≤ c6) (hr7 : Kd.C (Kd.int .i64) w A7 x7.length x7) (hc7 : x7.length ≤ c7) :
    Calls Try.prog 121 #[.agg #[.int .i64 (n0 : Int), .int .u8 x1, .bool x2, .int .i64 x3, .int .i64 x4, .int .i64 x5, .slice A6 x6.length c6, .slice A7 x7.length c7], .bool true] w fun e w' => e = .returned (.tuple #[.string (sb (refCho n0 x1 x5 x6 x7 11).1), .bool (refCho n0 x1 x5 x6 x7 11).2]) ∧ Below w.heap.size w w' := by
  have HX1 := Lib.hid hx1
  have HN0 := Lib.hid hn0
  have HL6 := Lib.hid hl6
  have HL7 := Lib.hid hl7
  have H6 := Lib.hid hr6
  have H7 := Lib.hid hr7
  have HC6 := Lib.hid hc6
  have HC7 := Lib.hid hc7
  clear hx1 hn0 hl6 hl7 hr6 hr7 hc6 hc7
  have H0 := Lib.hid (RS.start w #[.int .i64 (n0 : Int), .int .u8 x1, .bool x2, .int .i64 x3, .int .i64 x4, .int .i64 x5, .slice A6 x6.length c6, .slice A7 x7.length c7])
  have hs1 : strOfNums [x1] = sb [x1.toNat] := by have := strOfNums_nats [x1.toNat]; rw [← this]; simp only [List.map_cons, List.map_nil]; rw [Int.toNat_of_nonneg HX1.out.1]
  have hl1 : (convert 87 9 (Value.slice (some ⟨w.heap.size + 1, 0, none⟩) 1 1)).run Try.prog ((w.alloc (.cells #[.int .i64 (n0 : Int), .int .u8 x1, .bool x2, .int .i64 x3, .int .i64 x4, .int .i64 x5, .slice A6 x6.length c6, .slice A7 x7.length c7] 82)).alloc (.cells #[.int .u8 x1] 5)) = .ok (.string (strOfNums [x1])) ((w.alloc (.cells #[.int .i64 (n0 : Int), .int .u8 x1, .bool x2, .int .i64 x3, .int .i64 x4, .int .i64 x5, .slice A6 x6.length c6, .slice A7 x7.length c7] 82)).alloc (.cells #[.int .u8 x1] 5)) := by
    have h := lit_str1 (P := Try.prog) Try.underlying87 Try.underlying5 Try.underlying9 (w.alloc (.cells #[.int .i64 (n0 : Int), .int .u8 x1, .bool x2, .int .i64 x3, .int .i64 x4, .int .i64 x5, .slice A6 x6.length c6, .slice A7 x7.length c7] 82)) x1
    rw [show (w.alloc (.cells #[.int .i64 (n0 : Int), .int .u8 x1, .bool x2, .int .i64 x3, .int .i64 x4, .int .i64 x5, .slice A6 x6.length c6, .slice A7 x7.length c7] 82)).heap.size = w.heap.size + 1 from Array.size_push _] at h
    exact h
  rw [hs1] at hl1
  go_enter Try.func121, Try.ntmps121
  go_wp2
  go_loopw [6] (fun s wr => ∃ m : Nat, m ≤ padN (n0 + 1) ∧ s = .string (sb (x1.toNat :: List.replicate m 0)) ∧ Aside0 (RS w wr (.cells #[.int .i64 (n0 : Int), .int .u8 x1, .bool x2, .int .i64 x3, .int .i64 x4, .int .i64 x5, .slice A6 x6.length c6, .slice A7 x7.length c7] 82 (0, 0)))) (fun s _ => padN (n0 + 1) + 1 - strZ s)
  case atStart => exact ⟨0, Nat.zero_le _, by first | rfl | (rw [hs1]; rfl) | simp [hs1], ⟨(RS.start w _).step (below_alloc (Below.refl _ _) _)⟩⟩
  case round =>
    clear hs1 hl1
    obtain ⟨m, hm, rfl, HS⟩ := hrel
    have H1 := Lib.hid HS.out
    obtain ⟨b0_1, b1_1, b2_1, b3_1, b4_1, b5_1, b6_1, b7_1⟩ := box8 H1.out.2
    have hz := rc_len n0 x1 m
    have hz0 := rc_zero x1 m
    have hz1 : ¬ (9223372036854775807 < m + 1 + 1) := by unfold padN at hm; omega
    have hN0 := HN0.out
    have hv : wrap64 ((n0 : Int) + ((m : Int) + 1)) = (n0 : Int) + ((m : Int) + 1) := by rw [← i64_w, IntKind.wrap_i64]; unfold padN at hm; omega
    have hr : Int.tmod ((n0 : Int) + ((m : Int) + 1)) 4 = (((n0 + (m + 1)) % 4 : Nat) : Int) := (Int.ofNat_tmod (n0 + (m + 1)) 4).symm
    by_cases hlt : m < padN (n0 + 1)
    · have b0 : ((((n0 + (m + 1)) % 4 : Nat) : Int) != 0) = true := by rw [bne_iff_ne]; unfold padN at hlt; omega
      have b0' : (((n0 : Int) + ((m : Int) + 1)) % 4 != 0) = true := by rw [bne_iff_ne]; unfold padN at hlt; omega
      go_wp2
      go_roundw
      case rel => exact ⟨m + 1, hlt, by first | rfl | rw [hz0] | simp [hz0], HS⟩
      case measure => simp only [strZ]; try rw [hz0]
                      try rw [rc_len n0]
                      try rw [hz]
                      omega
    · obtain rfl : m = padN (n0 + 1) := by omega
      have b0 : ((((n0 + (padN (n0 + 1) + 1)) % 4 : Nat) : Int) != 0) = false := by rw [bne_eq_false_iff_eq]; unfold padN; omega
      have b0' : (((n0 : Int) + ((padN (n0 + 1) : Int) + 1)) % 4 != 0) = false := by rw [bne_eq_false_iff_eq]; unfold padN; omega
      have hlen : (strt n0 x1).1.length ≤ 4 := by unfold strt padN; simp; omega
      have HLEN := Lib.hid hlen
      clear hlt hm HS hlen hz0 hz1
      have hw0 : IntKind.i64.wrap ((x7.length : Int) - 1) = (x7.length : Int) - 1 := by rw [IntKind.wrap_i64]; have := HL7.out; omega
      have hw1 : wrap64 ((x7.length : Int) - 1) = (x7.length : Int) - 1 := by rw [← i64_w, IntKind.wrap_i64]; have := HL7.out; omega
      by_cases h0 : x7.length = 0
      · have d0 : decide ((x7.length : Int) - 1 < 0) = true := decide_eq_true (by omega)
        as_aux_lemma =>
        have HC : Aside0 (refCho n0 x1 x5 x6 x7 11 = ([], false)) := ⟨if_pos (.inl h0)⟩
        go_wp2
        go_ret2
        rw [HC.out]
        exact ⟨rfl, H1.out.1⟩
      · have d0 : decide ((x7.length : Int) - 1 < 0) = false := decide_eq_false (by omega)
        by_cases h1 : x7.length ≠ x6.length + 1
        · have d1 : ((x7.length : Int) - 1 != (x6.length : Int)) = true := bne_iff_ne.2 (by omega)
          as_aux_lemma =>
          have HC : Aside0 (refCho n0 x1 x5 x6 x7 11 = ([], false)) := ⟨if_pos (.inr (.inr ⟨rfl, h1⟩))⟩
          go_wp2
          go_ret2
          rw [HC.out]
          exact ⟨rfl, H1.out.1⟩
        · have d1 : ((x7.length : Int) - 1 != (x6.length : Int)) = false := bne_eq_false_iff_eq.2 (by omega)
          have HC : Aside0 (refCho n0 x1 x5 x6 x7 11 = rowsS n0 x6 x7 11 (x7.length - 1) (headR n0 x5 x7 11 (strt n0 x1))) := ⟨if_neg (by rintro (h | ⟨_, h⟩ | ⟨_, h⟩) <;> first | exact h0 h | exact h1 h | omega)⟩
          have HX := Lib.hid (show x7.length ≠ 0 ∧ x7.length = x6.length + 1 by omega)
          obtain ⟨ad, e7, y0⟩ := Kd.at_int H7.out 0 (by omega) (by omega)
          subst e7
          have e0 : ad.add 0 = ad := by cases ad; unfold Addr.add; split <;> simp_all
          have y1 := pw_cell_below H1.out.1 y0
          have y2 := pw_cell_below (drewB _) y1
          simp only [Int.toNat_zero, e0] at y0 y1 y2
          have z0 : (0 : Int) < (x7.length : Int) := by omega
          have z1 : 0 < x7.length := by omega
          clear h0 h1 e0
          go_wp2_with fail
          go_region_held3 (fun w' => w'.cell? ⟨w.heap.size, 7, none⟩ = some (.slice (some ad) x7.length c7) ∧ w'.cell? ⟨w.heap.size, 0, none⟩ = some (.int .i64 (n0 : Int)) ∧ w'.cell? ad = some (.int .i64 (rd x7 0))) (first | exact ⟨b7_1, b0_1, y1⟩ | exact ⟨q2.2.2.2.2.2.2.2, q2.1, q3⟩) ((go_at_call 122; first | (refine (bytes4 (IntKind.i64.wrap (rd x7 0 - (n0 : Int))) _).mono ?_; rintro e2 w2 ⟨rfl, hb2⟩; have q2 := box8 ((H1.out.step (drewB _)).step hb2).2; have q3 := pw_cell_below hb2 y2)))
          all_goals
            as_aux_lemma =>
            simp only [i64_w]
            have H2 := Lib.hid ((H1.out.step (drewB _)).step hb2)
            clear b0_1 b1_1 b2_1 b3_1 b4_1 b5_1 b6_1 b7_1
            clear hb2 H1 y0 y1 y2 hw0
            try clear q2 q3
            try clear hN0
            try clear hr
            try clear hv
            try clear hz
            obtain ⟨b0_2, b1_2, b2_2, b3_2, b4_2, b5_2, b6_2, b7_2⟩ := box8 H2.out.2
            have HLL := strt_len n0 x1
            obtain ⟨k1, hk1⟩ : ∃ k1, inB (wrap64 (rd x7 0 - (n0 : Int))) 4 true = k1 := ⟨_, rfl⟩
            obtain ⟨l1, hl1⟩ : ∃ l1, (strt n0 x1).1 ++ bigB (U64 (wrap64 (rd x7 0 - (n0 : Int)))) 4 = l1 := ⟨_, rfl⟩
            have hs1 : sgnS (wrap64 (rd x7 0 - (n0 : Int))) 4 (strt n0 x1) = (l1, k1) := by rw [rc_sgn, hl1, hk1]; rfl
            have HS1 := Lib.hid hs1
            have hz1 : l1.length ≤ 8 := by rw [← hl1, List.length_append, bigB_length]; omega
            have HZ1 := Lib.hid hz1
            have hap1 : sb (x1.toNat :: List.replicate (padN (n0 + 1)) 0) ++ sb (bigB (U64 (wrap64 (rd x7 0 - (n0 : Int)))) 4) = sb l1 := by rw [rc_app]; exact congrArg sb hl1
            have hzz : (9223372036854775807 < (sb (x1.toNat :: List.replicate (padN (n0 + 1)) 0)).size + (sb (bigB (U64 (wrap64 (rd x7 0 - (n0 : Int)))) 4)).size) = False := by
              rw [rc_len n0, sb_size, bigB_length]; exact eq_false (by unfold padN; omega)
            rw [hk1]
            clear hk1 hl1 hs1 hz1 HLL
            obtain ⟨N, hN⟩ : ∃ N, x7.length = N + 1 := ⟨x7.length - 1, by have := HX.out; omega⟩
            have hu : IntKind.u64.wrap ((x7.length : Int) - 1) = (N : Int) := by unfold IntKind.wrap; have := HL7.out; simp [IntKind.signed, IntKind.bits]; omega
            have hU : U64 ((x7.length : Int) - 1) = N := by unfold U64; rw [hu]; exact Int.toNat_natCast N
            have HU := Lib.hid hU
            have HNS := Lib.hid (show N < 18446744073709551616 by have := HL7.out; omega)
            clear hU
            have HNQ := Lib.hid hN
            clear hN
            go_wp2_with fail
            refine (RefBig_any N 4 _ (by first | rfl | exact hu) 4 rfl _ HNS.out (by decide)).mono ?_
            rintro e3 w3 ⟨rfl, hb3⟩
            have H3 := Lib.hid (H2.out.step hb3)
            clear b0_2 b1_2 b2_2 b3_2 b4_2 b5_2 b6_2 b7_2
            clear hb3 H2 hap1 hzz hu
            have hinb : inB ((x7.length : Int) - 1) 4 true = true := by
              unfold inB
              rw [if_pos rfl, decide_eq_true (by have := HL7.out; omega), decide_eq_true (by have := HL7.out; omega)]; rfl
            have HH : Aside0 (headR n0 x5 x7 11 (strt n0 x1) = (l1 ++ (bigB N 4), k1)) := ⟨by unfold headR; rw [if_neg (by decide), HS1.out, rc_sgn, HU.out, hinb]; dsimp only; rw [Bool.and_true]⟩
            clear hinb
            have hap3 : sb l1 ++ sb (bigB N 4) = sb (l1 ++ (bigB N 4)) := rc_app _ _
            have hz3 : (9223372036854775807 < (sb l1).size + (sb (bigB N 4)).size) = False := by rw [sb_size, sb_size, bigB_length]; exact str_fits (by have := HZ1.out; omega)
            have HW : Aside0 (RS w w3 (.cells #[.int .i64 (n0 : Int), .int .u8 x1, .bool x2, .int .i64 x3, .int .i64 x4, .int .i64 x5, .slice A6 x6.length c6, .slice (some ad) x7.length c7] 82 (0, 0))) := ⟨H3.out⟩
            have H5 := Lib.hid HW.out
            clear HW
            have HN := HNQ
            skip
            skip
            skip
            have hbel5 : Below w.heap.size w w3 := H5.out.1
            have hsz5 := hbel5.size
            have hlen5 : (sb (l1 ++ (bigB N 4))).size ≤ 140737488355328 := by rw [sb_size]; have := headR_len n0 x1 x5 x7 11; rw [HH.out] at this; exact Nat.le_trans this (by decide)
            go_wp2_with ((with_reducible refine conv_bytes rfl 9 87 _ rfl 5 Try.underlying9 Try.underlying87 Try.underlying5 w.heap.size hbel5 (sb (l1 ++ (bigB N 4))) rfl hlen5 hsz5 ?_); intro v6 w6 hown6 hbel6 hb6)
            have H6_ := Lib.hid (RM.start H5.out hb6 hown6 (by have := headR_lt n0 x1 x5 x7 11 HX1.out; rw [HH.out] at this; exact this))
            clear hown6 hbel6 hb6 H5 hbel5 hsz5 hlen5 H3 hap3 hz3
            go_wp2_with fail
            go_loopw [9, 14, 15] (fun okv v i wr => ∃ (k : Nat), k ≤ N ∧ i = .int .i64 ((k : Int) + 1) ∧ okv = .bool (rowsS n0 x6 x7 11 k (headR n0 x5 x7 11 (strt n0 x1))).2 ∧ Aside0 (RM w wr (.cells #[.int .i64 (n0 : Int), .int .u8 x1, .bool x2, .int .i64 x3, .int .i64 x4, .int .i64 x5, .slice A6 x6.length c6, .slice (some ad) x7.length c7] 82 (0, 0)) v (rowsS n0 x6 x7 11 k (headR n0 x5 x7 11 (strt n0 x1))).1)) (fun _ _ i _ => N + 1 - (intOf i).toNat)
            case atStart => exact ⟨0, Nat.zero_le _, rfl, by rw [show rowsS n0 x6 x7 11 0 (headR n0 x5 x7 11 (strt n0 x1)) = headR n0 x5 x7 11 (strt n0 x1) from rfl, HH.out], ⟨by rw [show rowsS n0 x6 x7 11 0 (headR n0 x5 x7 11 (strt n0 x1)) = headR n0 x5 x7 11 (strt n0 x1) from rfl, HH.out]; exact H6_.out⟩⟩
            case round =>
              clear H6_
              obtain ⟨k, hk, rfl, rfl, HS⟩ := hrel
              have HLR := Lib.hid (show (rowsS n0 x6 x7 11 k (headR n0 x5 x7 11 (strt n0 x1))).1.length ≤ 16 + 8 * k by have := rows_len n0 x6 x7 11 k (headR n0 x5 x7 11 (strt n0 x1)); have := headR_len n0 x1 x5 x7 11; omega)
              obtain ⟨q, hq⟩ : ∃ q, rowsS n0 x6 x7 11 k (headR n0 x5 x7 11 (strt n0 x1)) = q := ⟨_, rfl⟩
              rw [hq] at HS HLR ⊢
              obtain ⟨ql, qo⟩ := q
              have H8 := Lib.hid HS.out
              have HQ := Lib.hid hq
              clear hq HS
              by_cases hlt : k < N
              · have d2 : decide ((k : Int) + 1 ≤ (x7.length : Int) - 1) = true := decide_eq_true (by have := HN.out; omega)
                as_aux_lemma =>
                have i0 : (0 : Int) ≤ (k : Int) + 1 := by omega
                have i1 : (k : Int) + 1 < (x7.length : Int) := by have := HN.out; omega
                have i2 : k + 1 < x7.length := by have := HN.out; omega
                obtain ⟨ad', e', z0⟩ := Kd.at_int H7.out ((k : Int) + 1) i0 i1
                injection e' with e'
                subst e'
                rw [show ((k : Int) + 1).toNat = k + 1 by omega, Addr.add_succ'] at z0
                have HLT := Lib.hid hlt
                have wk : wrap64 ((k : Int) + 1 + 1) = ((k + 1 : Nat) : Int) + 1 := by rw [← i64_w, IntKind.wrap_i64]; have := HL7.out; omega
                have WN := Lib.hid (congrArg (Value.int IntKind.i64) wk)
                have WI := Lib.hid wk
                clear wk hlt hk
                obtain ⟨b0_8, b1_8, b2_8, b3_8, b4_8, b5_8, b6_8, b7_8⟩ := box8 H8.out.1.2
                have z8 := pw_cell_below H8.out.1.1 z0
                have hKL : k < x6.length := by have := HX.out.2; have := HN.out; have := HLT.out; omega
                have m1 : (k : Int) < (x6.length : Int) := by omega
                have m0 : (0 : Int) ≤ (k : Int) := by omega
                obtain ⟨ad6, e6, y6⟩ := Kd.at_int H6.out (k : Int) m0 m1
                subst e6
                rw [Int.toNat_natCast] at y6
                have HY6 := Lib.hid y6
                have y8 := pw_cell_below H8.out.1.1 y6
                have n1 : wrap64 ((k : Int) + 1 - 1) = (k : Int) := by rw [← i64_w, IntKind.wrap_i64]; have := HL6.out; omega
                have n2 : IntKind.i64.wrap ((k : Int) + 1 - 1) = (k : Int) := (i64_w _).trans n1
                have n4 : wrap64 (k : Int) = (k : Int) := by rw [← i64_w, IntKind.wrap_i64]; have := HL6.out; omega
                have n5 : IntKind.i64.wrap (k : Int) = (k : Int) := (i64_w _).trans n4
                clear y6
                go_wp2_with fail
                refine (bytes4 (rd x6 (k : Int)) _).mono ?_
                rintro e9 w9 ⟨rfl, hb9⟩
                have H9 := Lib.hid (H8.out.step hb9)
                clear b0_8 b1_8 b2_8 b3_8 b4_8 b5_8 b6_8 b7_8
                clear hb9 H8 z8 y8
                obtain ⟨k4, hk4⟩ : ∃ k4, inB (rd x6 (k : Int)) 4 true = k4 := ⟨_, rfl⟩
                rw [hk4]
                have HK4 := Lib.hid hk4
                clear hk4
                have hbel9 : Below w.heap.size w w9 := H9.out.1.1
                have hm9 : mrow w9 (w.heap.size + 1) 5 _ (ql).length (u8s (ql)) := H9.out.2
                have hlt9 : w.heap.size + 1 ≤ w9.heap.size := H9.out.1.lt
                have hfit9 : (ql).length + (sb (bigB (U64 (rd x6 (k : Int))) 4)).size ≤ 140737488355328 := by
                  rw [sb_size, bigB_length]
                  have h1 : ql.length ≤ 16 + 8 * k := HLR.out
                  have := HL7.out; have := HN.out; have := HLT.out
                  
                  omega
                go_wp2_with (at_builtin; refine app_ms rfl _ _ 87 9 rfl 5 Try.underlying87 Try.underlying9 Try.infoB w.heap.size (w.heap.size + 1) (w0 := w) hbel9 (v := _) (n := (ql).length) (xs := u8s (ql)) hm9 rfl (sb (bigB (U64 (rd x6 (k : Int))) 4)) rfl hfit9 hlt9 (Nat.le_succ _) ?_; intro v10 w10 hown10 hbel10 hg10 hsep10)
                have H10 := Lib.hid (H9.out.app hbel10 hg10 hown10)
                clear hown10 hbel10 hg10 hsep10 H9 hbel9 hm9 hlt9 hfit9
                obtain ⟨b0_10, b1_10, b2_10, b3_10, b4_10, b5_10, b6_10, b7_10⟩ := box8 H10.out.1.2
                have z10 := pw_cell_below H10.out.1.1 HY6.out
                go_upto_region 22 with (fail)
                go_cut [9] from 125 to 147 (fun vv wc => vv = .bool ((qo && k4) && (((k : Int) == 0) || decide (rd x6 ((k : Int) - 1) < rd x6 (k : Int)))) ∧ Aside0 (RM w wc (.cells #[.int .i64 (n0 : Int), .int .u8 x1, .bool x2, .int .i64 x3, .int .i64 x4, .int .i64 x5, .slice (some ad6) x6.length c6, .slice (some ad) x7.length c7] 82 (0, 0)) v10 (ql ++ bigB (U64 (rd x6 (k : Int))) 4)))
                case first =>
                  cases qo with
                  | false =>
                    refine start_ (n := 24) (S := fun w' => True) (ds := []) #[false, false, false, false, false, false, false, false, false, false, false, false, false, false, false, false, false, false, false, false, false, false, false, false] (by kernel_rfl) rfl rfl trivial (fun hHeld => ?_)
                    refine pure_ (i := 0) (N := some 125) (v := ?_) (a' := ?_) #[true, false, false, false, false, false, false, false, false, false, false, false, false, false, false, false, false, false, false, false, false, false, false, false] rfl rfl (by kernel_rfl) (fun _ _ _ h => h) (Or.inl ⟨by rfl, ?_⟩) ?_ ?_
                    rotate_left
                    · intro w'
                      go_simp
                      with_reducible rfl
                    rotate_left
                    · simp only [Act.put, List.setIfInBounds_toArray, List.set_cons_zero, List.set_cons_succ, i64_w, i32_w]
                      rfl
                    refine pure_ (i := 1) (N := some 126) (v := ?_) (a' := ?_) #[true, true, false, false, false, false, false, false, false, false, false, false, false, false, false, false, false, false, false, false, false, false, false, false] rfl rfl (by kernel_rfl) (fun _ _ _ h => h) (Or.inl ⟨by rfl, ?_⟩) ?_ ?_
                    rotate_left
                    · intro w'
                      go_simp
                      with_reducible rfl
                    rotate_left
                    · simp only [Act.put, List.setIfInBounds_toArray, List.set_cons_zero, List.set_cons_succ, i64_w, i32_w]
                      rfl
                    refine pure_ (i := 2) (N := some 127) (v := undef) (a' := ?_) #[true, true, true, false, false, false, false, false, false, false, false, false, false, false, false, false, false, false, false, false, false, false, false, false] rfl rfl (by kernel_rfl) (fun _ _ _ h => h) (Or.inr ⟨by rfl, rfl⟩) ?_ ?_
                    rotate_left
                    · simp only [Act.put, List.setIfInBounds_toArray, List.set_cons_zero, List.set_cons_succ, i64_w, i32_w]
                      rfl
                    refine pure_ (i := 3) (N := some 128) (v := ?_) (a' := ?_) #[true, true, true, true, false, false, false, false, false, false, false, false, false, false, false, false, false, false, false, false, false, false, false, false] rfl rfl (by kernel_rfl) (fun _ _ _ h => h) (Or.inl ⟨by rfl, ?_⟩) ?_ ?_
                    rotate_left
                    · intro w'
                      go_simp
                      with_reducible rfl
                    rotate_left
                    · simp only [Act.put, List.setIfInBounds_toArray, List.set_cons_zero, List.set_cons_succ, i64_w, i32_w]
                      rfl
                    refine pure_ (i := 4) (N := some 129) (v := ?_) (a' := ?_) #[true, true, true, true, true, false, false, false, false, false, false, false, false, false, false, false, false, false, false, false, false, false, false, false] rfl rfl (by kernel_rfl) (fun _ _ _ h => h) (Or.inl ⟨by rfl, ?_⟩) ?_ ?_
                    rotate_left
                    · intro w'
                      go_simp
                      with_reducible rfl
                    rotate_left
                    · simp only [Act.put, List.setIfInBounds_toArray, List.set_cons_zero, List.set_cons_succ, i64_w, i32_w]
                      rfl
                    refine pure_ (i := 5) (N := some 130) (v := undef) (a' := ?_) #[true, true, true, true, true, true, false, false, false, false, false, false, false, false, false, false, false, false, false, false, false, false, false, false] rfl rfl (by kernel_rfl) (fun _ _ _ h => h) (Or.inr ⟨by rfl, rfl⟩) ?_ ?_
                    rotate_left
                    · simp only [Act.put, List.setIfInBounds_toArray, List.set_cons_zero, List.set_cons_succ, i64_w, i32_w]
                      rfl
                    refine pure_ (i := 6) (N := some 131) (v := undef) (a' := ?_) #[true, true, true, true, true, true, true, false, false, false, false, false, false, false, false, false, false, false, false, false, false, false, false, false] rfl rfl (by kernel_rfl) (fun _ _ _ h => h) (Or.inr ⟨by rfl, rfl⟩) ?_ ?_
                    rotate_left
                    · simp only [Act.put, List.setIfInBounds_toArray, List.set_cons_zero, List.set_cons_succ, i64_w, i32_w]
                      rfl
                    refine pure_ (i := 7) (N := some 132) (v := undef) (a' := ?_) #[true, true, true, true, true, true, true, true, false, false, false, false, false, false, false, false, false, false, false, false, false, false, false, false] rfl rfl (by kernel_rfl) (fun _ _ _ h => h) (Or.inr ⟨by rfl, rfl⟩) ?_ ?_
                    rotate_left
                    · simp only [Act.put, List.setIfInBounds_toArray, List.set_cons_zero, List.set_cons_succ, i64_w, i32_w]
                      rfl
                    refine pure_ (i := 8) (N := some 133) (v := undef) (a' := ?_) #[true, true, true, true, true, true, true, true, true, false, false, false, false, false, false, false, false, false, false, false, false, false, false, false] rfl rfl (by kernel_rfl) (fun _ _ _ h => h) (Or.inr ⟨by rfl, rfl⟩) ?_ ?_
                    rotate_left
                    · simp only [Act.put, List.setIfInBounds_toArray, List.set_cons_zero, List.set_cons_succ, i64_w, i32_w]
                      rfl
                    refine pure_ (i := 9) (N := some 134) (v := undef) (a' := ?_) #[true, true, true, true, true, true, true, true, true, true, false, false, false, false, false, false, false, false, false, false, false, false, false, false] rfl rfl (by kernel_rfl) (fun _ _ _ h => h) (Or.inr ⟨by rfl, rfl⟩) ?_ ?_
                    rotate_left
                    · simp only [Act.put, List.setIfInBounds_toArray, List.set_cons_zero, List.set_cons_succ, i64_w, i32_w]
                      rfl
                    refine pure_ (i := 10) (N := some 135) (v := undef) (a' := ?_) #[true, true, true, true, true, true, true, true, true, true, true, false, false, false, false, false, false, false, false, false, false, false, false, false] rfl rfl (by kernel_rfl) (fun _ _ _ h => h) (Or.inr ⟨by rfl, rfl⟩) ?_ ?_
                    rotate_left
                    · simp only [Act.put, List.setIfInBounds_toArray, List.set_cons_zero, List.set_cons_succ, i64_w, i32_w]
                      rfl
                    refine pure_ (i := 11) (N := some 136) (v := undef) (a' := ?_) #[true, true, true, true, true, true, true, true, true, true, true, true, false, false, false, false, false, false, false, false, false, false, false, false] rfl rfl (by kernel_rfl) (fun _ _ _ h => h) (Or.inr ⟨by rfl, rfl⟩) ?_ ?_
                    rotate_left
                    · simp only [Act.put, List.setIfInBounds_toArray, List.set_cons_zero, List.set_cons_succ, i64_w, i32_w]
                      rfl
                    refine pure_ (i := 12) (N := some 137) (v := undef) (a' := ?_) #[true, true, true, true, true, true, true, true, true, true, true, true, true, false, false, false, false, false, false, false, false, false, false, false] rfl rfl (by kernel_rfl) (fun _ _ _ h => h) (Or.inr ⟨by rfl, rfl⟩) ?_ ?_
                    rotate_left
                    · simp only [Act.put, List.setIfInBounds_toArray, List.set_cons_zero, List.set_cons_succ, i64_w, i32_w]
                      rfl
                    refine pure_ (i := 13) (N := some 138) (v := undef) (a' := ?_) #[true, true, true, true, true, true, true, true, true, true, true, true, true, true, false, false, false, false, false, false, false, false, false, false] rfl rfl (by kernel_rfl) (fun _ _ _ h => h) (Or.inr ⟨by rfl, rfl⟩) ?_ ?_
                    rotate_left
                    · simp only [Act.put, List.setIfInBounds_toArray, List.set_cons_zero, List.set_cons_succ, i64_w, i32_w]
                      rfl
                    refine pure_ (i := 14) (N := some 139) (v := undef) (a' := ?_) #[true, true, true, true, true, true, true, true, true, true, true, true, true, true, true, false, false, false, false, false, false, false, false, false] rfl rfl (by kernel_rfl) (fun _ _ _ h => h) (Or.inr ⟨by rfl, rfl⟩) ?_ ?_
                    rotate_left
                    · simp only [Act.put, List.setIfInBounds_toArray, List.set_cons_zero, List.set_cons_succ, i64_w, i32_w]
                      rfl
                    refine pure_ (i := 15) (N := some 140) (v := undef) (a' := ?_) #[true, true, true, true, true, true, true, true, true, true, true, true, true, true, true, true, false, false, false, false, false, false, false, false] rfl rfl (by kernel_rfl) (fun _ _ _ h => h) (Or.inr ⟨by rfl, rfl⟩) ?_ ?_
                    rotate_left
                    · simp only [Act.put, List.setIfInBounds_toArray, List.set_cons_zero, List.set_cons_succ, i64_w, i32_w]
                      rfl
                    refine pure_ (i := 16) (N := some 141) (v := undef) (a' := ?_) #[true, true, true, true, true, true, true, true, true, true, true, true, true, true, true, true, true, false, false, false, false, false, false, false] rfl rfl (by kernel_rfl) (fun _ _ _ h => h) (Or.inr ⟨by rfl, rfl⟩) ?_ ?_
                    rotate_left
                    · simp only [Act.put, List.setIfInBounds_toArray, List.set_cons_zero, List.set_cons_succ, i64_w, i32_w]
                      rfl
                    refine pure_ (i := 17) (N := some 142) (v := undef) (a' := ?_) #[true, true, true, true, true, true, true, true, true, true, true, true, true, true, true, true, true, true, false, false, false, false, false, false] rfl rfl (by kernel_rfl) (fun _ _ _ h => h) (Or.inr ⟨by rfl, rfl⟩) ?_ ?_
                    rotate_left
                    · simp only [Act.put, List.setIfInBounds_toArray, List.set_cons_zero, List.set_cons_succ, i64_w, i32_w]
                      rfl
                    refine pure_ (i := 18) (N := some 143) (v := undef) (a' := ?_) #[true, true, true, true, true, true, true, true, true, true, true, true, true, true, true, true, true, true, true, false, false, false, false, false] rfl rfl (by kernel_rfl) (fun _ _ _ h => h) (Or.inr ⟨by rfl, rfl⟩) ?_ ?_
                    rotate_left
                    · simp only [Act.put, List.setIfInBounds_toArray, List.set_cons_zero, List.set_cons_succ, i64_w, i32_w]
                      rfl
                    refine pure_ (i := 19) (N := some 144) (v := undef) (a' := ?_) #[true, true, true, true, true, true, true, true, true, true, true, true, true, true, true, true, true, true, true, true, false, false, false, false] rfl rfl (by kernel_rfl) (fun _ _ _ h => h) (Or.inr ⟨by rfl, rfl⟩) ?_ ?_
                    rotate_left
                    · simp only [Act.put, List.setIfInBounds_toArray, List.set_cons_zero, List.set_cons_succ, i64_w, i32_w]
                      rfl
                    refine pure_ (i := 20) (N := some 145) (v := undef) (a' := ?_) #[true, true, true, true, true, true, true, true, true, true, true, true, true, true, true, true, true, true, true, true, true, false, false, false] rfl rfl (by kernel_rfl) (fun _ _ _ h => h) (Or.inr ⟨by rfl, rfl⟩) ?_ ?_
                    rotate_left
                    · simp only [Act.put, List.setIfInBounds_toArray, List.set_cons_zero, List.set_cons_succ, i64_w, i32_w]
                      rfl
                    refine pure_ (i := 21) (N := some 146) (v := undef) (a' := ?_) #[true, true, true, true, true, true, true, true, true, true, true, true, true, true, true, true, true, true, true, true, true, true, false, false] rfl rfl (by kernel_rfl) (fun _ _ _ h => h) (Or.inr ⟨by rfl, rfl⟩) ?_ ?_
                    rotate_left
                    · simp only [Act.put, List.setIfInBounds_toArray, List.set_cons_zero, List.set_cons_succ, i64_w, i32_w]
                      rfl
                    refine pure_ (i := 22) (N := some 147) (v := ?_) (a' := ?_) #[true, true, true, true, true, true, true, true, true, true, true, true, true, true, true, true, true, true, true, true, true, true, true, false] rfl rfl (by kernel_rfl) (fun _ _ _ h => h) (Or.inl ⟨by rfl, ?_⟩) ?_ ?_
                    rotate_left
                    · intro w'
                      go_simp
                      with_reducible rfl
                    rotate_left
                    · simp only [Act.put, List.setIfInBounds_toArray, List.set_cons_zero, List.set_cons_succ, i64_w, i32_w]
                      rfl
                    refine pure_ (i := 23) (N := some 9) (v := ?_) (a' := ?_) #[true, true, true, true, true, true, true, true, true, true, true, true, true, true, true, true, true, true, true, true, true, true, true, true] rfl rfl (by kernel_rfl) (fun _ _ _ h => h) (Or.inl ⟨by rfl, ?_⟩) ?_ ?_
                    rotate_left
                    · intro w'
                      go_simp
                      with_reducible rfl
                    rotate_left
                    · simp only [Act.put, List.setIfInBounds_toArray, List.set_cons_zero, List.set_cons_succ, i64_w, i32_w]
                      rfl
                    refine done_ (by kernel_rfl) ?_
                    go_wp2
                    go_meet
                    case rel => exact ⟨by simp [], ⟨(H10.out.step (drewB _))⟩⟩
                  | true =>
                    cases k4 with
                    | false =>
                      refine start_ (n := 24) (S := fun w' => True) (ds := []) #[false, false, false, false, false, false, false, false, false, false, false, false, false, false, false, false, false, false, false, false, false, false, false, false] (by kernel_rfl) rfl rfl trivial (fun hHeld => ?_)
                      refine pure_ (i := 0) (N := some 125) (v := ?_) (a' := ?_) #[true, false, false, false, false, false, false, false, false, false, false, false, false, false, false, false, false, false, false, false, false, false, false, false] rfl rfl (by kernel_rfl) (fun _ _ _ h => h) (Or.inl ⟨by rfl, ?_⟩) ?_ ?_
                      rotate_left
                      · intro w'
                        go_simp
                        with_reducible rfl
                      rotate_left
                      · simp only [Act.put, List.setIfInBounds_toArray, List.set_cons_zero, List.set_cons_succ, i64_w, i32_w]
                        rfl
                      refine pure_ (i := 1) (N := some 126) (v := ?_) (a' := ?_) #[true, true, false, false, false, false, false, false, false, false, false, false, false, false, false, false, false, false, false, false, false, false, false, false] rfl rfl (by kernel_rfl) (fun _ _ _ h => h) (Or.inl ⟨by rfl, ?_⟩) ?_ ?_
                      rotate_left
                      · intro w'
                        go_simp
                        with_reducible rfl
                      rotate_left
                      · simp only [Act.put, List.setIfInBounds_toArray, List.set_cons_zero, List.set_cons_succ, i64_w, i32_w]
                        rfl
                      refine pure_ (i := 2) (N := some 127) (v := ?_) (a' := ?_) #[true, true, true, false, false, false, false, false, false, false, false, false, false, false, false, false, false, false, false, false, false, false, false, false] rfl rfl (by kernel_rfl) (fun _ _ _ h => h) (Or.inl ⟨by rfl, ?_⟩) ?_ ?_
                      rotate_left
                      · intro w'
                        go_simp
                        with_reducible rfl
                      rotate_left
                      · simp only [Act.put, List.setIfInBounds_toArray, List.set_cons_zero, List.set_cons_succ, i64_w, i32_w]
                        rfl
                      refine pure_ (i := 3) (N := some 128) (v := ?_) (a' := ?_) #[true, true, true, true, false, false, false, false, false, false, false, false, false, false, false, false, false, false, false, false, false, false, false, false] rfl rfl (by kernel_rfl) (fun _ _ _ h => h) (Or.inl ⟨by rfl, ?_⟩) ?_ ?_
                      rotate_left
                      · intro w'
                        go_simp
                        with_reducible rfl
                      rotate_left
                      · simp only [Act.put, List.setIfInBounds_toArray, List.set_cons_zero, List.set_cons_succ, i64_w, i32_w]
                        rfl
                      refine pure_ (i := 4) (N := some 129) (v := ?_) (a' := ?_) #[true, true, true, true, true, false, false, false, false, false, false, false, false, false, false, false, false, false, false, false, false, false, false, false] rfl rfl (by kernel_rfl) (fun _ _ _ h => h) (Or.inl ⟨by rfl, ?_⟩) ?_ ?_
                      rotate_left
                      · intro w'
                        go_simp
                        with_reducible rfl
                      rotate_left
                      · simp only [Act.put, List.setIfInBounds_toArray, List.set_cons_zero, List.set_cons_succ, i64_w, i32_w]
                        rfl
                      refine pure_ (i := 5) (N := some 130) (v := undef) (a' := ?_) #[true, true, true, true, true, true, false, false, false, false, false, false, false, false, false, false, false, false, false, false, false, false, false, false] rfl rfl (by kernel_rfl) (fun _ _ _ h => h) (Or.inr ⟨by rfl, rfl⟩) ?_ ?_
                      rotate_left
                      · simp only [Act.put, List.setIfInBounds_toArray, List.set_cons_zero, List.set_cons_succ, i64_w, i32_w]
                        rfl
                      refine pure_ (i := 6) (N := some 131) (v := undef) (a' := ?_) #[true, true, true, true, true, true, true, false, false, false, false, false, false, false, false, false, false, false, false, false, false, false, false, false] rfl rfl (by kernel_rfl) (fun _ _ _ h => h) (Or.inr ⟨by rfl, rfl⟩) ?_ ?_
                      rotate_left
                      · simp only [Act.put, List.setIfInBounds_toArray, List.set_cons_zero, List.set_cons_succ, i64_w, i32_w]
                        rfl
                      refine pure_ (i := 7) (N := some 132) (v := undef) (a' := ?_) #[true, true, true, true, true, true, true, true, false, false, false, false, false, false, false, false, false, false, false, false, false, false, false, false] rfl rfl (by kernel_rfl) (fun _ _ _ h => h) (Or.inr ⟨by rfl, rfl⟩) ?_ ?_
                      rotate_left
                      · simp only [Act.put, List.setIfInBounds_toArray, List.set_cons_zero, List.set_cons_succ, i64_w, i32_w]
                        rfl
                      refine pure_ (i := 8) (N := some 133) (v := undef) (a' := ?_) #[true, true, true, true, true, true, true, true, true, false, false, false, false, false, false, false, false, false, false, false, false, false, false, false] rfl rfl (by kernel_rfl) (fun _ _ _ h => h) (Or.inr ⟨by rfl, rfl⟩) ?_ ?_
                      rotate_left
                      · simp only [Act.put, List.setIfInBounds_toArray, List.set_cons_zero, List.set_cons_succ, i64_w, i32_w]
                        rfl
                      refine pure_ (i := 9) (N := some 134) (v := undef) (a' := ?_) #[true, true, true, true, true, true, true, true, true, true, false, false, false, false, false, false, false, false, false, false, false, false, false, false] rfl rfl (by kernel_rfl) (fun _ _ _ h => h) (Or.inr ⟨by rfl, rfl⟩) ?_ ?_
                      rotate_left
                      · simp only [Act.put, List.setIfInBounds_toArray, List.set_cons_zero, List.set_cons_succ, i64_w, i32_w]
                        rfl
                      refine pure_ (i := 10) (N := some 135) (v := undef) (a' := ?_) #[true, true, true, true, true, true, true, true, true, true, true, false, false, false, false, false, false, false, false, false, false, false, false, false] rfl rfl (by kernel_rfl) (fun _ _ _ h => h) (Or.inr ⟨by rfl, rfl⟩) ?_ ?_
                      rotate_left
                      · simp only [Act.put, List.setIfInBounds_toArray, List.set_cons_zero, List.set_cons_succ, i64_w, i32_w]
                        rfl
                      refine pure_ (i := 11) (N := some 136) (v := undef) (a' := ?_) #[true, true, true, true, true, true, true, true, true, true, true, true, false, false, false, false, false, false, false, false, false, false, false, false] rfl rfl (by kernel_rfl) (fun _ _ _ h => h) (Or.inr ⟨by rfl, rfl⟩) ?_ ?_
                      rotate_left
                      · simp only [Act.put, List.setIfInBounds_toArray, List.set_cons_zero, List.set_cons_succ, i64_w, i32_w]
                        rfl
                      refine pure_ (i := 12) (N := some 137) (v := undef) (a' := ?_) #[true, true, true, true, true, true, true, true, true, true, true, true, true, false, false, false, false, false, false, false, false, false, false, false] rfl rfl (by kernel_rfl) (fun _ _ _ h => h) (Or.inr ⟨by rfl, rfl⟩) ?_ ?_
                      rotate_left
                      · simp only [Act.put, List.setIfInBounds_toArray, List.set_cons_zero, List.set_cons_succ, i64_w, i32_w]
                        rfl
                      refine pure_ (i := 13) (N := some 138) (v := undef) (a' := ?_) #[true, true, true, true, true, true, true, true, true, true, true, true, true, true, false, false, false, false, false, false, false, false, false, false] rfl rfl (by kernel_rfl) (fun _ _ _ h => h) (Or.inr ⟨by rfl, rfl⟩) ?_ ?_
                      rotate_left
                      · simp only [Act.put, List.setIfInBounds_toArray, List.set_cons_zero, List.set_cons_succ, i64_w, i32_w]
                        rfl
                      refine pure_ (i := 14) (N := some 139) (v := undef) (a' := ?_) #[true, true, true, true, true, true, true, true, true, true, true, true, true, true, true, false, false, false, false, false, false, false, false, false] rfl rfl (by kernel_rfl) (fun _ _ _ h => h) (Or.inr ⟨by rfl, rfl⟩) ?_ ?_
                      rotate_left
                      · simp only [Act.put, List.setIfInBounds_toArray, List.set_cons_zero, List.set_cons_succ, i64_w, i32_w]
                        rfl
                      refine pure_ (i := 15) (N := some 140) (v := undef) (a' := ?_) #[true, true, true, true, true, true, true, true, true, true, true, true, true, true, true, true, false, false, false, false, false, false, false, false] rfl rfl (by kernel_rfl) (fun _ _ _ h => h) (Or.inr ⟨by rfl, rfl⟩) ?_ ?_
                      rotate_left
                      · simp only [Act.put, List.setIfInBounds_toArray, List.set_cons_zero, List.set_cons_succ, i64_w, i32_w]
                        rfl
                      refine pure_ (i := 16) (N := some 141) (v := undef) (a' := ?_) #[true, true, true, true, true, true, true, true, true, true, true, true, true, true, true, true, true, false, false, false, false, false, false, false] rfl rfl (by kernel_rfl) (fun _ _ _ h => h) (Or.inr ⟨by rfl, rfl⟩) ?_ ?_
                      rotate_left
                      · simp only [Act.put, List.setIfInBounds_toArray, List.set_cons_zero, List.set_cons_succ, i64_w, i32_w]
                        rfl
                      refine pure_ (i := 17) (N := some 142) (v := undef) (a' := ?_) #[true, true, true, true, true, true, true, true, true, true, true, true, true, true, true, true, true, true, false, false, false, false, false, false] rfl rfl (by kernel_rfl) (fun _ _ _ h => h) (Or.inr ⟨by rfl, rfl⟩) ?_ ?_
                      rotate_left
                      · simp only [Act.put, List.setIfInBounds_toArray, List.set_cons_zero, List.set_cons_succ, i64_w, i32_w]
                        rfl
                      refine pure_ (i := 18) (N := some 143) (v := undef) (a' := ?_) #[true, true, true, true, true, true, true, true, true, true, true, true, true, true, true, true, true, true, true, false, false, false, false, false] rfl rfl (by kernel_rfl) (fun _ _ _ h => h) (Or.inr ⟨by rfl, rfl⟩) ?_ ?_
                      rotate_left
                      · simp only [Act.put, List.setIfInBounds_toArray, List.set_cons_zero, List.set_cons_succ, i64_w, i32_w]
                        rfl
                      refine pure_ (i := 19) (N := some 144) (v := undef) (a' := ?_) #[true, true, true, true, true, true, true, true, true, true, true, true, true, true, true, true, true, true, true, true, false, false, false, false] rfl rfl (by kernel_rfl) (fun _ _ _ h => h) (Or.inr ⟨by rfl, rfl⟩) ?_ ?_
                      rotate_left
                      · simp only [Act.put, List.setIfInBounds_toArray, List.set_cons_zero, List.set_cons_succ, i64_w, i32_w]
                        rfl
                      refine pure_ (i := 20) (N := some 145) (v := undef) (a' := ?_) #[true, true, true, true, true, true, true, true, true, true, true, true, true, true, true, true, true, true, true, true, true, false, false, false] rfl rfl (by kernel_rfl) (fun _ _ _ h => h) (Or.inr ⟨by rfl, rfl⟩) ?_ ?_
                      rotate_left
                      · simp only [Act.put, List.setIfInBounds_toArray, List.set_cons_zero, List.set_cons_succ, i64_w, i32_w]
                        rfl
                      refine pure_ (i := 21) (N := some 146) (v := undef) (a' := ?_) #[true, true, true, true, true, true, true, true, true, true, true, true, true, true, true, true, true, true, true, true, true, true, false, false] rfl rfl (by kernel_rfl) (fun _ _ _ h => h) (Or.inr ⟨by rfl, rfl⟩) ?_ ?_
                      rotate_left
                      · simp only [Act.put, List.setIfInBounds_toArray, List.set_cons_zero, List.set_cons_succ, i64_w, i32_w]
                        rfl
                      refine pure_ (i := 22) (N := some 147) (v := ?_) (a' := ?_) #[true, true, true, true, true, true, true, true, true, true, true, true, true, true, true, true, true, true, true, true, true, true, true, false] rfl rfl (by kernel_rfl) (fun _ _ _ h => h) (Or.inl ⟨by rfl, ?_⟩) ?_ ?_
                      rotate_left
                      · intro w'
                        go_simp
                        with_reducible rfl
                      rotate_left
                      · simp only [Act.put, List.setIfInBounds_toArray, List.set_cons_zero, List.set_cons_succ, i64_w, i32_w]
                        rfl
                      refine pure_ (i := 23) (N := some 9) (v := ?_) (a' := ?_) #[true, true, true, true, true, true, true, true, true, true, true, true, true, true, true, true, true, true, true, true, true, true, true, true] rfl rfl (by kernel_rfl) (fun _ _ _ h => h) (Or.inl ⟨by rfl, ?_⟩) ?_ ?_
                      rotate_left
                      · intro w'
                        go_simp
                        with_reducible rfl
                      rotate_left
                      · simp only [Act.put, List.setIfInBounds_toArray, List.set_cons_zero, List.set_cons_succ, i64_w, i32_w]
                        rfl
                      refine done_ (by kernel_rfl) ?_
                      go_wp2
                      go_meet
                      case rel => exact ⟨by simp [], ⟨(H10.out.step (drewB _))⟩⟩
                    | true =>
                      by_cases hk0 : k = 0
                      · have q0 : (((k : Int) + 1) == 1) = true := beq_iff_eq.2 (by omega)
                        have hb_ : (((k : Int) == 0) || decide (rd x6 ((k : Int) - 1) < rd x6 (k : Int))) = true := by rw [show ((k : Int) == 0) = true from beq_iff_eq.2 (by omega), Bool.true_or]
                        clear hk0
                        refine start_ (n := 24) (S := fun w' => True) (ds := []) #[false, false, false, false, false, false, false, false, false, false, false, false, false, false, false, false, false, false, false, false, false, false, false, false] (by kernel_rfl) rfl rfl trivial (fun hHeld => ?_)
                        refine pure_ (i := 0) (N := some 125) (v := ?_) (a' := ?_) #[true, false, false, false, false, false, false, false, false, false, false, false, false, false, false, false, false, false, false, false, false, false, false, false] rfl rfl (by kernel_rfl) (fun _ _ _ h => h) (Or.inl ⟨by rfl, ?_⟩) ?_ ?_
                        rotate_left
                        · intro w'
                          go_simp
                          with_reducible rfl
                        rotate_left
                        · simp only [Act.put, List.setIfInBounds_toArray, List.set_cons_zero, List.set_cons_succ, i64_w, i32_w]
                          rfl
                        refine pure_ (i := 1) (N := some 126) (v := ?_) (a' := ?_) #[true, true, false, false, false, false, false, false, false, false, false, false, false, false, false, false, false, false, false, false, false, false, false, false] rfl rfl (by kernel_rfl) (fun _ _ _ h => h) (Or.inl ⟨by rfl, ?_⟩) ?_ ?_
                        rotate_left
                        · intro w'
                          go_simp
                          with_reducible rfl
                        rotate_left
                        · simp only [Act.put, List.setIfInBounds_toArray, List.set_cons_zero, List.set_cons_succ, i64_w, i32_w]
                          rfl
                        refine pure_ (i := 2) (N := some 127) (v := ?_) (a' := ?_) #[true, true, true, false, false, false, false, false, false, false, false, false, false, false, false, false, false, false, false, false, false, false, false, false] rfl rfl (by kernel_rfl) (fun _ _ _ h => h) (Or.inl ⟨by rfl, ?_⟩) ?_ ?_
                        rotate_left
                        · intro w'
                          go_simp
                          with_reducible rfl
                        rotate_left
                        · simp only [Act.put, List.setIfInBounds_toArray, List.set_cons_zero, List.set_cons_succ, i64_w, i32_w]
                          rfl
                        refine pure_ (i := 3) (N := some 128) (v := ?_) (a' := ?_) #[true, true, true, true, false, false, false, false, false, false, false, false, false, false, false, false, false, false, false, false, false, false, false, false] rfl rfl (by kernel_rfl) (fun _ _ _ h => h) (Or.inl ⟨by rfl, ?_⟩) ?_ ?_
                        rotate_left
                        · intro w'
                          go_simp
                          with_reducible rfl
                        rotate_left
                        · simp only [Act.put, List.setIfInBounds_toArray, List.set_cons_zero, List.set_cons_succ, i64_w, i32_w]
                          rfl
                        refine pure_ (i := 4) (N := some 129) (v := ?_) (a' := ?_) #[true, true, true, true, true, false, false, false, false, false, false, false, false, false, false, false, false, false, false, false, false, false, false, false] rfl rfl (by kernel_rfl) (fun _ _ _ h => h) (Or.inl ⟨by rfl, ?_⟩) ?_ ?_
                        rotate_left
                        · intro w'
                          go_simp
                          with_reducible rfl
                        rotate_left
                        · simp only [Act.put, List.setIfInBounds_toArray, List.set_cons_zero, List.set_cons_succ, i64_w, i32_w]
                          rfl
                        refine pure_ (i := 5) (N := some 130) (v := ?_) (a' := ?_) #[true, true, true, true, true, true, false, false, false, false, false, false, false, false, false, false, false, false, false, false, false, false, false, false] rfl rfl (by kernel_rfl) (fun _ _ _ h => h) (Or.inl ⟨by rfl, ?_⟩) ?_ ?_
                        rotate_left
                        · intro w'
                          go_simp
                          with_reducible rfl
                        rotate_left
                        · simp only [Act.put, List.setIfInBounds_toArray, List.set_cons_zero, List.set_cons_succ, i64_w, i32_w]
                          rfl
                        refine pure_ (i := 6) (N := some 131) (v := ?_) (a' := ?_) #[true, true, true, true, true, true, true, false, false, false, false, false, false, false, false, false, false, false, false, false, false, false, false, false] rfl rfl (by kernel_rfl) (fun _ _ _ h => h) (Or.inl ⟨by rfl, ?_⟩) ?_ ?_
                        rotate_left
                        · intro w'
                          go_simp
                          with_reducible rfl
                        rotate_left
                        · simp only [Act.put, List.setIfInBounds_toArray, List.set_cons_zero, List.set_cons_succ, i64_w, i32_w]
                          rfl
                        refine pure_ (i := 7) (N := some 132) (v := ?_) (a' := ?_) #[true, true, true, true, true, true, true, true, false, false, false, false, false, false, false, false, false, false, false, false, false, false, false, false] rfl rfl (by kernel_rfl) (fun _ _ _ h => h) (Or.inl ⟨by rfl, ?_⟩) ?_ ?_
                        rotate_left
                        · intro w'
                          go_simp
                          with_reducible rfl
                        rotate_left
                        · simp only [Act.put, List.setIfInBounds_toArray, List.set_cons_zero, List.set_cons_succ, i64_w, i32_w]
                          rfl
                        refine pure_ (i := 8) (N := some 133) (v := undef) (a' := ?_) #[true, true, true, true, true, true, true, true, true, false, false, false, false, false, false, false, false, false, false, false, false, false, false, false] rfl rfl (by kernel_rfl) (fun _ _ _ h => h) (Or.inr ⟨by rfl, rfl⟩) ?_ ?_
                        rotate_left
                        · simp only [Act.put, List.setIfInBounds_toArray, List.set_cons_zero, List.set_cons_succ, i64_w, i32_w]
                          rfl
                        refine pure_ (i := 9) (N := some 134) (v := undef) (a' := ?_) #[true, true, true, true, true, true, true, true, true, true, false, false, false, false, false, false, false, false, false, false, false, false, false, false] rfl rfl (by kernel_rfl) (fun _ _ _ h => h) (Or.inr ⟨by rfl, rfl⟩) ?_ ?_
                        rotate_left
                        · simp only [Act.put, List.setIfInBounds_toArray, List.set_cons_zero, List.set_cons_succ, i64_w, i32_w]
                          rfl
                        refine pure_ (i := 10) (N := some 135) (v := undef) (a' := ?_) #[true, true, true, true, true, true, true, true, true, true, true, false, false, false, false, false, false, false, false, false, false, false, false, false] rfl rfl (by kernel_rfl) (fun _ _ _ h => h) (Or.inr ⟨by rfl, rfl⟩) ?_ ?_
                        rotate_left
                        · simp only [Act.put, List.setIfInBounds_toArray, List.set_cons_zero, List.set_cons_succ, i64_w, i32_w]
                          rfl
                        refine pure_ (i := 11) (N := some 136) (v := undef) (a' := ?_) #[true, true, true, true, true, true, true, true, true, true, true, true, false, false, false, false, false, false, false, false, false, false, false, false] rfl rfl (by kernel_rfl) (fun _ _ _ h => h) (Or.inr ⟨by rfl, rfl⟩) ?_ ?_
                        rotate_left
                        · simp only [Act.put, List.setIfInBounds_toArray, List.set_cons_zero, List.set_cons_succ, i64_w, i32_w]
                          rfl
                        refine pure_ (i := 12) (N := some 137) (v := undef) (a' := ?_) #[true, true, true, true, true, true, true, true, true, true, true, true, true, false, false, false, false, false, false, false, false, false, false, false] rfl rfl (by kernel_rfl) (fun _ _ _ h => h) (Or.inr ⟨by rfl, rfl⟩) ?_ ?_
                        rotate_left
                        · simp only [Act.put, List.setIfInBounds_toArray, List.set_cons_zero, List.set_cons_succ, i64_w, i32_w]
                          rfl
                        refine pure_ (i := 13) (N := some 138) (v := undef) (a' := ?_) #[true, true, true, true, true, true, true, true, true, true, true, true, true, true, false, false, false, false, false, false, false, false, false, false] rfl rfl (by kernel_rfl) (fun _ _ _ h => h) (Or.inr ⟨by rfl, rfl⟩) ?_ ?_
                        rotate_left
                        · simp only [Act.put, List.setIfInBounds_toArray, List.set_cons_zero, List.set_cons_succ, i64_w, i32_w]
                          rfl
                        refine pure_ (i := 14) (N := some 139) (v := undef) (a' := ?_) #[true, true, true, true, true, true, true, true, true, true, true, true, true, true, true, false, false, false, false, false, false, false, false, false] rfl rfl (by kernel_rfl) (fun _ _ _ h => h) (Or.inr ⟨by rfl, rfl⟩) ?_ ?_
                        rotate_left
                        · simp only [Act.put, List.setIfInBounds_toArray, List.set_cons_zero, List.set_cons_succ, i64_w, i32_w]
                          rfl
                        refine pure_ (i := 15) (N := some 140) (v := undef) (a' := ?_) #[true, true, true, true, true, true, true, true, true, true, true, true, true, true, true, true, false, false, false, false, false, false, false, false] rfl rfl (by kernel_rfl) (fun _ _ _ h => h) (Or.inr ⟨by rfl, rfl⟩) ?_ ?_
                        rotate_left
                        · simp only [Act.put, List.setIfInBounds_toArray, List.set_cons_zero, List.set_cons_succ, i64_w, i32_w]
                          rfl
                        refine pure_ (i := 16) (N := some 141) (v := undef) (a' := ?_) #[true, true, true, true, true, true, true, true, true, true, true, true, true, true, true, true, true, false, false, false, false, false, false, false] rfl rfl (by kernel_rfl) (fun _ _ _ h => h) (Or.inr ⟨by rfl, rfl⟩) ?_ ?_
                        rotate_left
                        · simp only [Act.put, List.setIfInBounds_toArray, List.set_cons_zero, List.set_cons_succ, i64_w, i32_w]
                          rfl
                        refine pure_ (i := 17) (N := some 142) (v := undef) (a' := ?_) #[true, true, true, true, true, true, true, true, true, true, true, true, true, true, true, true, true, true, false, false, false, false, false, false] rfl rfl (by kernel_rfl) (fun _ _ _ h => h) (Or.inr ⟨by rfl, rfl⟩) ?_ ?_
                        rotate_left
                        · simp only [Act.put, List.setIfInBounds_toArray, List.set_cons_zero, List.set_cons_succ, i64_w, i32_w]
                          rfl
                        refine pure_ (i := 18) (N := some 143) (v := undef) (a' := ?_) #[true, true, true, true, true, true, true, true, true, true, true, true, true, true, true, true, true, true, true, false, false, false, false, false] rfl rfl (by kernel_rfl) (fun _ _ _ h => h) (Or.inr ⟨by rfl, rfl⟩) ?_ ?_
                        rotate_left
                        · simp only [Act.put, List.setIfInBounds_toArray, List.set_cons_zero, List.set_cons_succ, i64_w, i32_w]
                          rfl
                        refine pure_ (i := 19) (N := some 144) (v := undef) (a' := ?_) #[true, true, true, true, true, true, true, true, true, true, true, true, true, true, true, true, true, true, true, true, false, false, false, false] rfl rfl (by kernel_rfl) (fun _ _ _ h => h) (Or.inr ⟨by rfl, rfl⟩) ?_ ?_
                        rotate_left
                        · simp only [Act.put, List.setIfInBounds_toArray, List.set_cons_zero, List.set_cons_succ, i64_w, i32_w]
                          rfl
                        refine pure_ (i := 20) (N := some 145) (v := undef) (a' := ?_) #[true, true, true, true, true, true, true, true, true, true, true, true, true, true, true, true, true, true, true, true, true, false, false, false] rfl rfl (by kernel_rfl) (fun _ _ _ h => h) (Or.inr ⟨by rfl, rfl⟩) ?_ ?_
                        rotate_left
                        · simp only [Act.put, List.setIfInBounds_toArray, List.set_cons_zero, List.set_cons_succ, i64_w, i32_w]
                          rfl
                        refine pure_ (i := 21) (N := some 146) (v := ?_) (a' := ?_) #[true, true, true, true, true, true, true, true, true, true, true, true, true, true, true, true, true, true, true, true, true, true, false, false] rfl rfl (by kernel_rfl) (fun _ _ _ h => h) (Or.inl ⟨by rfl, ?_⟩) ?_ ?_
                        rotate_left
                        · intro w'
                          go_simp
                          with_reducible rfl
                        rotate_left
                        · simp only [Act.put, List.setIfInBounds_toArray, List.set_cons_zero, List.set_cons_succ, i64_w, i32_w]
                          rfl
                        refine pure_ (i := 22) (N := some 147) (v := ?_) (a' := ?_) #[true, true, true, true, true, true, true, true, true, true, true, true, true, true, true, true, true, true, true, true, true, true, true, false] rfl rfl (by kernel_rfl) (fun _ _ _ h => h) (Or.inl ⟨by rfl, ?_⟩) ?_ ?_
                        rotate_left
                        · intro w'
                          go_simp
                          with_reducible rfl
                        rotate_left
                        · simp only [Act.put, List.setIfInBounds_toArray, List.set_cons_zero, List.set_cons_succ, i64_w, i32_w]
                          rfl
                        refine pure_ (i := 23) (N := some 9) (v := ?_) (a' := ?_) #[true, true, true, true, true, true, true, true, true, true, true, true, true, true, true, true, true, true, true, true, true, true, true, true] rfl rfl (by kernel_rfl) (fun _ _ _ h => h) (Or.inl ⟨by rfl, ?_⟩) ?_ ?_
                        rotate_left
                        · intro w'
                          go_simp
                          with_reducible rfl
                        rotate_left
                        · simp only [Act.put, List.setIfInBounds_toArray, List.set_cons_zero, List.set_cons_succ, i64_w, i32_w]
                          rfl
                        refine done_ (by kernel_rfl) ?_
                        go_wp2
                        go_meet
                        case rel => exact ⟨by simp [hb_], ⟨(H10.out.step (drewB _))⟩⟩
                      · have q0 : (((k : Int) + 1) == 1) = false := beq_eq_false_iff_ne.2 (by omega)
                        have hb_ : (((k : Int) == 0) || decide (rd x6 ((k : Int) - 1) < rd x6 (k : Int))) = decide (rd x6 ((k : Int) - 1) < rd x6 (k : Int)) := by rw [show ((k : Int) == 0) = false from beq_eq_false_iff_ne.2 (by omega), Bool.false_or]
                        obtain ⟨ad6', e6', z6'⟩ := Kd.at_int H6.out ((k : Int) - 1) (by omega) (by omega)
                        injection e6' with e6'
                        subst e6'
                        rw [show ((k : Int) - 1).toNat = k - 1 by omega] at z6'
                        have z10' := pw_cell_below H10.out.1.1 z6'
                        have j0 : (0 : Int) ≤ (k : Int) - 1 := by omega
                        have j1 : (k : Int) - 1 < (x6.length : Int) := by omega
                        have j3 : wrap64 ((k : Int) + 1 - 2) = (k : Int) - 1 := by rw [← i64_w, IntKind.wrap_i64]; have := HL6.out; omega
                        have j6 : IntKind.i64.wrap ((k : Int) + 1 - 2) = (k : Int) - 1 := (i64_w _).trans j3
                        have j7 : wrap64 ((k : Int) - 1) = (k : Int) - 1 := by rw [← i64_w, IntKind.wrap_i64]; have := HL6.out; omega
                        have j4 : (1 : Int) ≤ (k : Int) := by omega
                        have j5 : k - 1 < x6.length := by omega
                        clear hk0
                        refine start_ (n := 24) (S := fun w' => w'.cell? ⟨w.heap.size, 6, none⟩ = some (.slice (some ad6) x6.length c6) ∧ w'.cell? (ad6.add (k - 1)) = some (.int .i64 (rd x6 ((k : Int) - 1))) ∧ w'.cell? (ad6.add k) = some (.int .i64 (rd x6 (k : Int)))) (ds := []) #[false, false, false, false, false, false, false, false, false, false, false, false, false, false, false, false, false, false, false, false, false, false, false, false] (by kernel_rfl) rfl rfl ⟨b6_10, z10', z10⟩ (fun hHeld => ?_)
                        refine pure_ (i := 0) (N := some 125) (v := ?_) (a' := ?_) #[true, false, false, false, false, false, false, false, false, false, false, false, false, false, false, false, false, false, false, false, false, false, false, false] rfl rfl (by kernel_rfl) (fun _ _ _ h => h) (Or.inl ⟨by rfl, ?_⟩) ?_ ?_
                        rotate_left
                        · intro w'
                          go_simp
                          with_reducible rfl
                        rotate_left
                        · simp only [Act.put, List.setIfInBounds_toArray, List.set_cons_zero, List.set_cons_succ, i64_w, i32_w]
                          rfl
                        refine pure_ (i := 1) (N := some 126) (v := ?_) (a' := ?_) #[true, true, false, false, false, false, false, false, false, false, false, false, false, false, false, false, false, false, false, false, false, false, false, false] rfl rfl (by kernel_rfl) (fun _ _ _ h => h) (Or.inl ⟨by rfl, ?_⟩) ?_ ?_
                        rotate_left
                        · intro w'
                          go_simp
                          with_reducible rfl
                        rotate_left
                        · simp only [Act.put, List.setIfInBounds_toArray, List.set_cons_zero, List.set_cons_succ, i64_w, i32_w]
                          rfl
                        refine pure_ (i := 2) (N := some 127) (v := ?_) (a' := ?_) #[true, true, true, false, false, false, false, false, false, false, false, false, false, false, false, false, false, false, false, false, false, false, false, false] rfl rfl (by kernel_rfl) (fun _ _ _ h => h) (Or.inl ⟨by rfl, ?_⟩) ?_ ?_
                        rotate_left
                        · intro w'
                          go_simp
                          with_reducible rfl
                        rotate_left
                        · simp only [Act.put, List.setIfInBounds_toArray, List.set_cons_zero, List.set_cons_succ, i64_w, i32_w]
                          rfl
                        refine pure_ (i := 3) (N := some 128) (v := ?_) (a' := ?_) #[true, true, true, true, false, false, false, false, false, false, false, false, false, false, false, false, false, false, false, false, false, false, false, false] rfl rfl (by kernel_rfl) (fun _ _ _ h => h) (Or.inl ⟨by rfl, ?_⟩) ?_ ?_
                        rotate_left
                        · intro w'
                          go_simp
                          with_reducible rfl
                        rotate_left
                        · simp only [Act.put, List.setIfInBounds_toArray, List.set_cons_zero, List.set_cons_succ, i64_w, i32_w]
                          rfl
                        refine pure_ (i := 4) (N := some 129) (v := ?_) (a' := ?_) #[true, true, true, true, true, false, false, false, false, false, false, false, false, false, false, false, false, false, false, false, false, false, false, false] rfl rfl (by kernel_rfl) (fun _ _ _ h => h) (Or.inl ⟨by rfl, ?_⟩) ?_ ?_
                        rotate_left
                        · intro w'
                          go_simp
                          with_reducible rfl
                        rotate_left
                        · simp only [Act.put, List.setIfInBounds_toArray, List.set_cons_zero, List.set_cons_succ, i64_w, i32_w]
                          rfl
                        refine pure_ (i := 5) (N := some 130) (v := ?_) (a' := ?_) #[true, true, true, true, true, true, false, false, false, false, false, false, false, false, false, false, false, false, false, false, false, false, false, false] rfl rfl (by kernel_rfl) (fun _ _ _ h => h) (Or.inl ⟨by rfl, ?_⟩) ?_ ?_
                        rotate_left
                        · intro w'
                          go_simp
                          with_reducible rfl
                        rotate_left
                        · simp only [Act.put, List.setIfInBounds_toArray, List.set_cons_zero, List.set_cons_succ, i64_w, i32_w]
                          rfl
                        refine pure_ (i := 6) (N := some 131) (v := ?_) (a' := ?_) #[true, true, true, true, true, true, true, false, false, false, false, false, false, false, false, false, false, false, false, false, false, false, false, false] rfl rfl (by kernel_rfl) (fun _ _ _ h => h) (Or.inl ⟨by rfl, ?_⟩) ?_ ?_
                        rotate_left
                        · intro w'
                          go_simp
                          with_reducible rfl
                        rotate_left
                        · simp only [Act.put, List.setIfInBounds_toArray, List.set_cons_zero, List.set_cons_succ, i64_w, i32_w]
                          rfl
                        refine pure_ (i := 7) (N := some 132) (v := ?_) (a' := ?_) #[true, true, true, true, true, true, true, true, false, false, false, false, false, false, false, false, false, false, false, false, false, false, false, false] rfl rfl (by kernel_rfl) (fun _ _ _ h => h) (Or.inl ⟨by rfl, ?_⟩) ?_ ?_
                        rotate_left
                        · intro w'
                          go_simp
                          with_reducible rfl
                        rotate_left
                        · simp only [Act.put, List.setIfInBounds_toArray, List.set_cons_zero, List.set_cons_succ, i64_w, i32_w]
                          rfl
                        refine pure_ (i := 8) (N := some 133) (v := ?_) (a' := ?_) #[true, true, true, true, true, true, true, true, true, false, false, false, false, false, false, false, false, false, false, false, false, false, false, false] rfl rfl (by kernel_rfl) (fun _ _ _ h => h) (Or.inl ⟨by rfl, ?_⟩) ?_ ?_
                        rotate_left
                        · intro w'
                          go_simp
                          with_reducible rfl
                        rotate_left
                        · simp only [Act.put, List.setIfInBounds_toArray, List.set_cons_zero, List.set_cons_succ, i64_w, i32_w]
                          rfl
                        refine pure_ (i := 10) (N := some 135) (v := ?_) (a' := ?_) #[true, true, true, true, true, true, true, true, true, false, true, false, false, false, false, false, false, false, false, false, false, false, false, false] rfl rfl (by kernel_rfl) (fun _ _ _ h => h) (Or.inl ⟨by rfl, ?_⟩) ?_ ?_
                        rotate_left
                        · intro w'
                          go_simp
                          with_reducible rfl
                        rotate_left
                        · simp only [Act.put, List.setIfInBounds_toArray, List.set_cons_zero, List.set_cons_succ, i64_w, i32_w]
                          rfl
                        refine pure_ (i := 11) (N := some 136) (v := ?_) (a' := ?_) #[true, true, true, true, true, true, true, true, true, false, true, true, false, false, false, false, false, false, false, false, false, false, false, false] rfl rfl (by kernel_rfl) (fun _ _ _ h => h) (Or.inl ⟨by rfl, ?_⟩) ?_ ?_
                        rotate_left
                        · intro w'
                          go_simp
                          with_reducible rfl
                        rotate_left
                        · simp only [Act.put, List.setIfInBounds_toArray, List.set_cons_zero, List.set_cons_succ, i64_w, i32_w]
                          rfl
                        refine pure_ (i := 14) (N := some 139) (v := ?_) (a' := ?_) #[true, true, true, true, true, true, true, true, true, false, true, true, false, false, true, false, false, false, false, false, false, false, false, false] rfl rfl (by kernel_rfl) (fun _ _ _ h => h) (Or.inl ⟨by rfl, ?_⟩) ?_ ?_
                        rotate_left
                        · intro w'
                          go_simp
                          with_reducible rfl
                        rotate_left
                        · simp only [Act.put, List.setIfInBounds_toArray, List.set_cons_zero, List.set_cons_succ, i64_w, i32_w]
                          rfl
                        refine pure_ (i := 16) (N := some 141) (v := ?_) (a' := ?_) #[true, true, true, true, true, true, true, true, true, false, true, true, false, false, true, false, true, false, false, false, false, false, false, false] rfl rfl (by kernel_rfl) (fun _ _ _ h => h) (Or.inl ⟨by rfl, ?_⟩) ?_ ?_
                        rotate_left
                        · intro w'
                          go_simp
                          with_reducible rfl
                        rotate_left
                        · simp only [Act.put, List.setIfInBounds_toArray, List.set_cons_zero, List.set_cons_succ, i64_w, i32_w]
                          rfl
                        refine pure_ (i := 17) (N := some 142) (v := ?_) (a' := ?_) #[true, true, true, true, true, true, true, true, true, false, true, true, false, false, true, false, true, true, false, false, false, false, false, false] rfl rfl (by kernel_rfl) (fun _ _ _ h => h) (Or.inl ⟨by rfl, ?_⟩) ?_ ?_
                        rotate_left
                        · intro w'
                          go_simp
                          with_reducible rfl
                        rotate_left
                        · simp only [Act.put, List.setIfInBounds_toArray, List.set_cons_zero, List.set_cons_succ, i64_w, i32_w]
                          rfl
                        refine take_ (i := 9) (N := some 134) (v := ?_) (a' := ?_) #[true, true, true, true, true, true, true, true, true, true, true, true, false, false, true, false, true, true, false, false, false, false, false, false] rfl rfl (by kernel_rfl) (fun _ _ _ h => h) (Or.inl ⟨by rfl, ?_⟩) hHeld ?_ ?_
                        rotate_left
                        · rintro w' ⟨s0, s1, s2⟩
                          go_simp
                          with_reducible rfl
                        rotate_left
                        · simp only [Act.put, List.setIfInBounds_toArray, List.set_cons_zero, List.set_cons_succ, i64_w, i32_w]
                          rfl
                        refine pure_ (i := 12) (N := some 137) (v := ?_) (a' := ?_) #[true, true, true, true, true, true, true, true, true, true, true, true, true, false, true, false, true, true, false, false, false, false, false, false] rfl rfl (by kernel_rfl) (fun _ _ _ h => h) (Or.inl ⟨by rfl, ?_⟩) ?_ ?_
                        rotate_left
                        · intro w'
                          go_simp
                          with_reducible rfl
                        rotate_left
                        · simp only [Act.put, List.setIfInBounds_toArray, List.set_cons_zero, List.set_cons_succ, i64_w, i32_w]
                          rfl
                        refine take_ (i := 13) (N := some 138) (v := ?_) (a' := ?_) #[true, true, true, true, true, true, true, true, true, true, true, true, true, true, true, false, true, true, false, false, false, false, false, false] rfl rfl (by kernel_rfl) (fun _ _ _ h => h) (Or.inl ⟨by rfl, ?_⟩) hHeld ?_ ?_
                        rotate_left
                        · rintro w' ⟨s0, s1, s2⟩
                          go_simp
                          with_reducible rfl
                        rotate_left
                        · simp only [Act.put, List.setIfInBounds_toArray, List.set_cons_zero, List.set_cons_succ, i64_w, i32_w]
                          rfl
                        refine take_ (i := 15) (N := some 140) (v := ?_) (a' := ?_) #[true, true, true, true, true, true, true, true, true, true, true, true, true, true, true, true, true, true, false, false, false, false, false, false] rfl rfl (by kernel_rfl) (fun _ _ _ h => h) (Or.inl ⟨by rfl, ?_⟩) hHeld ?_ ?_
                        rotate_left
                        · rintro w' ⟨s0, s1, s2⟩
                          go_simp
                          with_reducible rfl
                        rotate_left
                        · simp only [Act.put, List.setIfInBounds_toArray, List.set_cons_zero, List.set_cons_succ, i64_w, i32_w]
                          rfl
                        refine pure_ (i := 18) (N := some 143) (v := ?_) (a' := ?_) #[true, true, true, true, true, true, true, true, true, true, true, true, true, true, true, true, true, true, true, false, false, false, false, false] rfl rfl (by kernel_rfl) (fun _ _ _ h => h) (Or.inl ⟨by rfl, ?_⟩) ?_ ?_
                        rotate_left
                        · intro w'
                          go_simp
                          with_reducible rfl
                        rotate_left
                        · simp only [Act.put, List.setIfInBounds_toArray, List.set_cons_zero, List.set_cons_succ, i64_w, i32_w]
                          rfl
                        refine take_ (i := 19) (N := some 144) (v := ?_) (a' := ?_) #[true, true, true, true, true, true, true, true, true, true, true, true, true, true, true, true, true, true, true, true, false, false, false, false] rfl rfl (by kernel_rfl) (fun _ _ _ h => h) (Or.inl ⟨by rfl, ?_⟩) hHeld ?_ ?_
                        rotate_left
                        · rintro w' ⟨s0, s1, s2⟩
                          go_simp
                          with_reducible rfl
                        rotate_left
                        · simp only [Act.put, List.setIfInBounds_toArray, List.set_cons_zero, List.set_cons_succ, i64_w, i32_w]
                          rfl
                        refine pure_ (i := 20) (N := some 145) (v := ?_) (a' := ?_) #[true, true, true, true, true, true, true, true, true, true, true, true, true, true, true, true, true, true, true, true, true, false, false, false] rfl rfl (by kernel_rfl) (fun _ _ _ h => h) (Or.inl ⟨by rfl, ?_⟩) ?_ ?_
                        rotate_left
                        · intro w'
                          go_simp
                          with_reducible rfl
                        rotate_left
                        · simp only [Act.put, List.setIfInBounds_toArray, List.set_cons_zero, List.set_cons_succ, i64_w, i32_w]
                          rfl
                        refine pure_ (i := 21) (N := some 146) (v := ?_) (a' := ?_) #[true, true, true, true, true, true, true, true, true, true, true, true, true, true, true, true, true, true, true, true, true, true, false, false] rfl rfl (by kernel_rfl) (fun _ _ _ h => h) (Or.inl ⟨by rfl, ?_⟩) ?_ ?_
                        rotate_left
                        · intro w'
                          go_simp
                          with_reducible rfl
                        rotate_left
                        · simp only [Act.put, List.setIfInBounds_toArray, List.set_cons_zero, List.set_cons_succ, i64_w, i32_w]
                          rfl
                        refine pure_ (i := 22) (N := some 147) (v := ?_) (a' := ?_) #[true, true, true, true, true, true, true, true, true, true, true, true, true, true, true, true, true, true, true, true, true, true, true, false] rfl rfl (by kernel_rfl) (fun _ _ _ h => h) (Or.inl ⟨by rfl, ?_⟩) ?_ ?_
                        rotate_left
                        · intro w'
                          go_simp
                          with_reducible rfl
                        rotate_left
                        · simp only [Act.put, List.setIfInBounds_toArray, List.set_cons_zero, List.set_cons_succ, i64_w, i32_w]
                          rfl
                        refine pure_ (i := 23) (N := some 9) (v := ?_) (a' := ?_) #[true, true, true, true, true, true, true, true, true, true, true, true, true, true, true, true, true, true, true, true, true, true, true, true] rfl rfl (by kernel_rfl) (fun _ _ _ h => h) (Or.inl ⟨by rfl, ?_⟩) ?_ ?_
                        rotate_left
                        · intro w'
                          go_simp
                          with_reducible rfl
                        rotate_left
                        · simp only [Act.put, List.setIfInBounds_toArray, List.set_cons_zero, List.set_cons_succ, i64_w, i32_w]
                          rfl
                        refine done_ (by kernel_rfl) ?_
                        go_wp2
                        go_meet
                        case rel => exact ⟨by simp [hb_], ⟨(H10.out.step (drewB _))⟩⟩
                case rest =>
                  obtain ⟨rfl, HC_⟩ := hcut
                  clear b0_10 b1_10 b2_10 b3_10 b4_10 b5_10 b6_10 b7_10
                  clear z10 H10 n1 n2 n4 n5 m0 m1
                  have H8 := Lib.hid HC_.out
                  clear HC_
                  obtain ⟨bb, hbb⟩ : ∃ bb, (((k : Int) == 0) || decide (rd x6 ((k : Int) - 1) < rd x6 (k : Int))) = bb := ⟨_, rfl⟩
                  rw [hbb]
                  have HBB := Lib.hid hbb
                  clear hbb
                  obtain ⟨b0_8, b1_8, b2_8, b3_8, b4_8, b5_8, b6_8, b7_8⟩ := box8 H8.out.1.2
                  have z8 := pw_cell_below H8.out.1.1 z0
                  go_wp2_with fail
                  go_region_held3 (fun w' => w'.cell? ⟨w.heap.size, 7, none⟩ = some (.slice (some ad) x7.length c7) ∧ w'.cell? ⟨w.heap.size, 0, none⟩ = some (.int .i64 (n0 : Int)) ∧ w'.cell? ⟨ad.block, ad.off + (k + 1), none⟩ = some (.int .i64 (rd x7 ((k : Int) + 1)))) (first | exact ⟨b7_8, b0_8, z8⟩ | exact ⟨q2.2.2.2.2.2.2.2, q2.1, q3⟩) ((go_at_call 122; first | (refine (bytes4 (IntKind.i64.wrap (rd x7 ((k : Int) + 1) - (n0 : Int))) _).mono ?_; rintro e11 w11 ⟨rfl, hb11⟩; have q2 := box8 ((H8.out.1.step (drewB _)).step hb11).2; have q3 := pw_cell_below hb11 (pw_cell_below (drewB _) z8))))
                  all_goals
                    simp only [i64_w]
                    have H11 := Lib.hid ((H8.out.step (drewB _)).step hb11)
                    clear b0_8 b1_8 b2_8 b3_8 b4_8 b5_8 b6_8 b7_8
                    clear hb11 H8 z8
                    try clear q2 q3
                    obtain ⟨k5, hkv⟩ : ∃ k5, inB (wrap64 (rd x7 ((k : Int) + 1) - (n0 : Int))) 4 true = k5 := ⟨_, rfl⟩
                    rw [hkv]
                    have HE : Aside0 (rowsS n0 x6 x7 11 (k + 1) (headR n0 x5 x7 11 (strt n0 x1)) = ((ql ++ bigB (U64 (rd x6 (k : Int))) 4) ++ bigB (U64 (wrap64 (rd x7 ((k : Int) + 1) - (n0 : Int)))) 4, ((qo && k4) && bb) && k5)) := ⟨by rw [rows11_eq HQ.out, HK4.out, HBB.out, hkv]⟩
                    clear hkv
                    have hbel11 : Below w.heap.size w w11 := H11.out.1.1
                    have hm11 : mrow w11 (w.heap.size + 1) 5 _ ((ql ++ bigB (U64 (rd x6 (k : Int))) 4)).length (u8s ((ql ++ bigB (U64 (rd x6 (k : Int))) 4))) := H11.out.2
                    have hlt11 : w.heap.size + 1 ≤ w11.heap.size := H11.out.1.lt
                    have hfit11 : ((ql ++ bigB (U64 (rd x6 (k : Int))) 4)).length + (sb (bigB (U64 (wrap64 (rd x7 ((k : Int) + 1) - (n0 : Int)))) 4)).size ≤ 140737488355328 := by
                      rw [sb_size, bigB_length]
                      have h1 : ql.length ≤ 16 + 8 * k := HLR.out
                      have := HL7.out; have := HN.out; have := HLT.out
                      rw [List.length_append, bigB_length]
                      omega
                    cases qo <;> cases k4 <;> cases bb <;> cases k5
                    all_goals
                      go_wp2_with (at_builtin; refine app_ms rfl _ _ 87 9 rfl 5 Try.underlying87 Try.underlying9 Try.infoB w.heap.size (w.heap.size + 1) (w0 := w) hbel11 (v := _) (n := ((ql ++ bigB (U64 (rd x6 (k : Int))) 4)).length) (xs := u8s ((ql ++ bigB (U64 (rd x6 (k : Int))) 4))) hm11 rfl (sb (bigB (U64 (wrap64 (rd x7 ((k : Int) + 1) - (n0 : Int)))) 4)) rfl hfit11 hlt11 (Nat.le_succ _) ?_; intro v12 w12 hown12 hbel12 hg12 hsep12)
                      have H12 := Lib.hid (H11.out.app hbel12 hg12 hown12)
                      clear hown12 hbel12 hg12 hsep12 H11 hbel11 hm11 hlt11 hfit11
                      go_wp2
                      go_roundw
                      case rel => exact ⟨k + 1, HLT.out, by first | exact WN.out | exact WI.out, by rw [HE.out]; rfl, ⟨by rw [HE.out]; exact H12.out⟩⟩
                      case measure => exact ms_val2 HLT.out WN.out
              · obtain rfl : k = N := by omega
                have d2 : decide ((k : Int) + 1 ≤ (x7.length : Int) - 1) = false := decide_eq_false (by have := HN.out; omega)
                have hstr := H8.out.str
                obtain ⟨A8, m8, c8, rfl⟩ := mrow_sl H8.out.2
                go_wp2
                go_ret2
                rw [HC.out, show x7.length - 1 = k by have := HN.out; omega, HQ.out]
                exact ⟨rfl, H8.out.1.1⟩
end Go.Proofs.Ytfnjbmpolggdeaa.CW
end
section
namespace Go.Proofs.Ytfnjbmpolggdeaa.CW
open Go.RowKit Go.Lib Go.Proofs.YtfnjbmpolggdeaaW.PrintWords Go.Proofs.YtfnjbmpolggdeaaW.PrintLast Go.Proofs.YtfnjbmpolggdeaaW.PrintMore
set_option linter.unusedVariables false
set_option linter.unusedSimpArgs false
theorem jvmcoreref2_choice.calls (a0_0 : Int) (a0_1 : Int) (a0_2 : Bool) (a0_3 : Int) (a0_4 : Int) (a0_5 : Int) (A0_6 : Option Addr) (c0_6 : Nat) (l0_6 : List Int) (A0_7 : Option Addr) (c0_7 : Nat) (l0_7 : List Int) (a1 : Bool) (r1 : ByteArray) (r2 : Bool) (w : World) (hr0_6 : Kd.C (Kd.int .i64) w A0_6 l0_6.length l0_6) (hc0_6 : l0_6.length ≤ c0_6) (hr0_7 : Kd.C (Kd.int .i64) w A0_7 l0_7.length l0_7) (hc0_7 : l0_7.length ≤ c0_7) (h : jvmcoreref2_choice.f a0_0 a0_1 a0_2 a0_3 a0_4 a0_5 l0_6 l0_7 a1 = some (r1, r2)) :
    Calls Try.prog 121 #[.agg #[.int .i64 a0_0, .int .u8 a0_1, .bool a0_2, .int .i64 a0_3, .int .i64 a0_4, .int .i64 a0_5, .slice A0_6 l0_6.length c0_6, .slice A0_7 l0_7.length c0_7], .bool a1] w fun e w' => e = .returned (.tuple #[.string r1, .bool r2]) ∧ Below w.heap.size w w' := by
  unfold jvmcoreref2_choice.f at h
  by_cases hg : 0 ≤ a0_0 ∧ a0_0 ≤ 1000000 ∧ 0 ≤ a0_1 ∧ a0_1 < 256 ∧ l0_6.length ≤ 1000000 ∧ l0_7.length ≤ 1000000
  · rw [if_pos hg] at h
    obtain ⟨g0, g1, g2, g3, g4, g5⟩ := hg
    obtain ⟨n0, rfl⟩ := Int.eq_ofNat_of_zero_le g0
    rw [Int.toNat_natCast] at h
    have hp := Option.some.inj h
    have h1 : sb (refCho n0 a0_1 a0_5 l0_6 l0_7 (if a1 = true then 11 else 10)).1 = r1 := congrArg Prod.fst hp
    have h2 : (refCho n0 a0_1 a0_5 l0_6 l0_7 (if a1 = true then 11 else 10)).2 = r2 := congrArg Prod.snd hp
    clear h hp
    cases a1 with
    | false =>
      rw [if_neg (by decide)] at h1 h2
      rw [← h1, ← h2]
      exact rch_10 w n0 a0_1 a0_2 a0_3 a0_4 a0_5 A0_6 c0_6 l0_6 A0_7 c0_7 l0_7 ⟨g2, g3⟩ (by omega) g4 g5 hr0_6 hc0_6 hr0_7 hc0_7
    | true =>
      rw [if_pos rfl] at h1 h2
      rw [← h1, ← h2]
      exact rch_11 w n0 a0_1 a0_2 a0_3 a0_4 a0_5 A0_6 c0_6 l0_6 A0_7 c0_7 l0_7 ⟨g2, g3⟩ (by omega) g4 g5 hr0_6 hc0_6 hr0_7 hc0_7
  · rw [if_neg hg] at h
    exact absurd h (by simp)
end Go.Proofs.Ytfnjbmpolggdeaa.CW
end
