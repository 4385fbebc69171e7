/-
  Texts that the proof in the last of these files needs: CodeRounds of jvmcorelaw2: whatever the bytes are, what code.Decode makes of them is encoded by code.Encode as the same bytes; nothing is assumed.
-/
import Derived.Maps.OwnSet
import Derived.Test.YtfnjbmpolggdeaaQR2
section
namespace Go.Proofs.Ytfnjbmpolggdeaa.CW
open Go.RowKit Go.Lib Go.Proofs.YtfnjbmpolggdeaaW.PrintWords Go.Proofs.YtfnjbmpolggdeaaW.PrintLast Go.Proofs.YtfnjbmpolggdeaaW.PrintMore
set_option linter.unusedVariables false
set_option linter.unusedSimpArgs false
set_option maxHeartbeats 8000000 in
set_option maxRecDepth 100000 in
theorem choice_11 (w0 w : World) (g : Nat) (v : Value) (s : List Nat × Bool) (x0 x1 : Int) (x2 : Bool) (x3 x4 x5 : Int) (A6 : Option Addr) (c6 : Nat) (x6 : List Int) (A7 : Option Addr) (c7 : Nat) (x7 : List Int) (hr6 : Kd.C (Kd.int .i64) w0 A6 x6.length x6) (hc6 : x6.length ≤ c6) (hr7 : Kd.C (Kd.int .i64) w0 A7 x7.length x7) (hc7 : x7.length ≤ c7) (hW : BW w0.heap.size w g 114 (ewC s.2) v s.1) (hB : Below w0.heap.size w0 w) (hl : s.1.length + 103 + 8 * x7.length ≤ 140737488355328) :
    Calls Try.prog 119 #[.pointer (some ⟨g, 0, none⟩), .agg #[.int .i64 x0, .int .u8 x1, .bool x2, .int .i64 x3, .int .i64 x4, .int .i64 x5, .slice A6 x6.length c6, .slice A7 x7.length c7], .int .i64 11] w (EncPost w0 w g v (choS x0 x5 x6 x7 11 s)) := by
  have HW := Lib.hid hW
  have HB := Lib.hid hB
  have HL := Lib.hid hl
  have H6 := Lib.hid hr6
  have H7 := Lib.hid hr7
  have HC6 := Lib.hid hc6
  have HC7 := Lib.hid hc7
  clear hW hB hl hr6 hr7 hc6 hc7
  have H0 := Lib.hid (St.start (c := #[.int .i64 x0, .int .u8 x1, .bool x2, .int .i64 x3, .int .i64 x4, .int .i64 x5, .slice A6 x6.length c6, .slice A7 x7.length c7]) HW.out HB.out)
  have HG := Lib.hid (show w.heap.size ≠ g by have := HW.out.lt; omega)
  obtain ⟨b0_0, b1_0, b2_0, b3_0, b4_0, b5_0, b6_0, b7_0⟩ := box8 H0.out.2.2.2
  have c0_0 := H0.out.c0
  have c1_0 := H0.out.c1
  have f0_0 := H0.out.f0
  have f1_0 := H0.out.f1
  go_enter Try.func119, Try.ntmps119
  go_wp2_with fail
  generalize w.alloc (.cells #[.int .i64 x0, .int .u8 x1, .bool x2, .int .i64 x3, .int .i64 x4, .int .i64 x5, .slice A6 x6.length c6, .slice A7 x7.length c7] 82) = W0 at *
  go_loopw [9] (fun q wr => ∃ (m : Nat) (V : Value), m ≤ padN s.1.length ∧ Aside0 (St w0 w g v w.heap.size (.cells #[.int .i64 x0, .int .u8 x1, .bool x2, .int .i64 x3, .int .i64 x4, .int .i64 x5, .slice A6 x6.length c6, .slice A7 x7.length c7] 82 (0, 0)) (s.1 ++ List.replicate m 0, s.2) wr V)) (fun _ wr => padM g wr)
  case atStart => exact ⟨0, v, Nat.zero_le _, ⟨by simpa using H0.out⟩⟩
  case round =>
    clear b0_0 b1_0 b2_0 b3_0 b4_0 b5_0 b6_0 b7_0 c0_0 c1_0 f0_0 f1_0
    obtain ⟨m, V, hm, HS⟩ := hrel
    have hn : (s.1 ++ List.replicate m 0).length = s.1.length + m := by simp
    obtain ⟨A, c, rfl⟩ := HS.out.sl (s.1.length + m) hn
    have H1 := Lib.hid HS.out
    obtain ⟨b0_1, b1_1, b2_1, b3_1, b4_1, b5_1, b6_1, b7_1⟩ := box8 H1.out.2.2.2
    have c0_1 := H1.out.c0
    have c1_1 := H1.out.c1
    have f0_1 := H1.out.f0
    have f1_1 := H1.out.f1
    have HP := Lib.hid (show padM g wr = padN (s.1.length + m) from padM_at c0_1)
    have HMM := Lib.hid hm
    have hr : Int.tmod (((s.1.length + m : Nat) : Int)) 4 = (((s.1.length + m) % 4 : Nat) : Int) := (Int.ofNat_tmod (s.1.length + m) 4).symm
    by_cases hlt : m < padN s.1.length
    · have b0 : (((s.1.length : Int) + (m : Int)) % 4 != 0) = true := by rw [bne_iff_ne]; unfold padN at hlt; omega
      have HLT := Lib.hid hlt
      clear hlt hm HS
      as_aux_lemma =>
        go_wp2_with (at_builtin; refine app_e rfl _ _ 87 rfl Try.underlying87 w0.heap.size H1.out.1.2.2 rfl 0 1 (by first | rfl | (go_simp; done) | (simp [World.alloc]; done)) (by show (s.1 ++ List.replicate m 0).length + 1 ≤ _; have := HL.out; have := HMM.out; unfold padN at this; omega) H1.out.2.1.size ?_ rfl; intro v2 w2 hm2 hg2 hat2; obtain ⟨A2, m2, c2, rfl⟩ := mrow_sl hm2; have k0 := ew_cell hg2 H1.out.1; have k1 := ew_frozen hg2 H1.out.1)
        have H2 := Lib.hid (H1.out.byte HG.out (b := 0) rfl hm2 hg2 hat2)
        clear hm2 hg2 hat2 k0 k1 H1
        generalize w2.setCell ⟨g, 0, none⟩ _ = W2 at *
        go_roundw
        case rel => exact ⟨m + 1, _, by have := HLT.out; omega, ⟨by have := H2.out; rw [List.replicate_succ', ← List.append_assoc]; exact this⟩⟩
        case measure =>
          obtain ⟨A3, c3, e3⟩ := H2.out.sl (s.1.length + (m + 1)) (by simp)
          have := H2.out.c0
          rw [e3] at this
          rw [padM_at this, HP.out]
          have := HLT.out
          unfold padN at *
          omega
    · obtain rfl : m = padN s.1.length := by omega
      have b0 : (((s.1.length : Int) + ((padN s.1.length : Nat) : Int)) % 4 != 0) = false := by rw [bne_eq_false_iff_eq]; unfold padN; omega
      clear hlt hm HS HP hr hn
      have HPB : s.1 ++ List.replicate (padN s.1.length) 0 = padB s.1 := rfl
      rw [HPB] at H1
      have HLB := Lib.hid (show (padB s.1).length + 100 + 8 * x7.length ≤ 140737488355328 by have := pad_len s.1; have := HL.out; omega)
      have hw1 : IntKind.i64.wrap ((x7.length : Int) - 1) = (x7.length : Int) - 1 := by rw [IntKind.wrap_i64]; have := HL.out; omega
      by_cases h0 : x7.length = 0
      · have d0 : decide ((x7.length : Int) - 1 < 0) = true := decide_eq_true (by omega)
        as_aux_lemma =>
          have HC : Aside0 (choS x0 x5 x6 x7 11 s = (padB s.1, false)) := ⟨if_pos (.inl h0)⟩
          go_wp2
          go_end0
          rw [HC.out]
          exact (H1.out.setok HG.out false).post
      · have d0 : decide ((x7.length : Int) - 1 < 0) = false := decide_eq_false (by omega)
        by_cases h1 : x7.length ≠ x6.length + 1
        · have d1 : ((x7.length : Int) - 1 != (x6.length : Int)) = true := bne_iff_ne.2 (by omega)
          as_aux_lemma =>
            have HC : Aside0 (choS x0 x5 x6 x7 11 s = (padB s.1, false)) := ⟨if_pos (.inr (.inr ⟨rfl, h1⟩))⟩
            go_wp2
            go_end0
            rw [HC.out]
            exact (H1.out.setok HG.out false).post
        · have d1 : ((x7.length : Int) - 1 != (x6.length : Int)) = false := bne_eq_false_iff_eq.2 (by omega)
          have HC : Aside0 (choS x0 x5 x6 x7 11 s = rowsS x0 x6 x7 11 (x7.length - 1) (headS x0 x5 x7 11 s)) := ⟨if_neg (by rintro (h | ⟨_, h⟩ | ⟨_, h⟩) <;> first | exact h0 h | exact h1 h | omega)⟩
          have HX := Lib.hid (show x7.length ≠ 0 ∧ x7.length = x6.length + 1 by omega)
          obtain ⟨ad, e7, y0⟩ := Kd.at_int H7.out 0 (by omega) (by omega)
          subst e7
          have e0 : ad.add 0 = ad := by cases ad; unfold Addr.add; split <;> simp_all
          have y1 := pw_cell_below H1.out.2.1 y0
          have y2 := pw_cell_below (drewB _) y1
          simp only [Int.toNat_zero, e0] at y0 y1 y2
          have z0 : (0 : Int) < (x7.length : Int) := by omega
          have z1 : 0 < x7.length := by omega
          clear h0 h1 e0
          go_wp2_with fail
          go_region_held3 (fun w' => w'.cell? ⟨w.heap.size, 7, none⟩ = some (.slice (some ad) x7.length c7) ∧ w'.cell? ⟨w.heap.size, 0, none⟩ = some (.int .i64 x0) ∧ w'.cell? ad = some (.int .i64 (rd x7 0))) (first | exact ⟨b7_1, b0_1, y1⟩ | exact ⟨q2.2.2.2.2.2.2.2, q2.1, q3⟩) ((go_at_call 117; first | (refine (signed_any w0 _ g _ (padB s.1, s.2) (IntKind.i64.wrap (rd x7 0 - x0)) 4 4 rfl (by omega) (H1.out.1.below (drewB _)) (below_then H1.out.2.1 H1.out.2.1.size (drewB _)) (by have := HLB.out; dsimp only; omega)).mono ?_; rintro e2 w2 ⟨rfl, hb2, v2, hw2, hs2⟩; have q2 := box8 ((H1.out.quiet HG.out (drewB _)).call HG.out hw2 hb2 hs2).2.2.2; have q3 := pw_cell_below hb2 y0)))
          all_goals
            as_aux_lemma =>
            try simp only [i64_w] at hw2 hs2 ⊢
            have H2 := Lib.hid ((H1.out.quiet HG.out (drewB _)).call HG.out hw2 hb2 hs2)
            clear b0_1 b1_1 b2_1 b3_1 b4_1 b5_1 b6_1 b7_1 c0_1 c1_1 f0_1 f1_1
            clear hb2 hw2 hs2 H1 y1 y2 y0
            try clear q2 q3
            obtain ⟨b0_2, b1_2, b2_2, b3_2, b4_2, b5_2, b6_2, b7_2⟩ := box8 H2.out.2.2.2
            have c0_2 := H2.out.c0
            have c1_2 := H2.out.c1
            have f0_2 := H2.out.f0
            have f1_2 := H2.out.f1
            go_wp2_with fail
            refine (signed_any w0 _ g _ (sgnS (wrap64 (rd x7 0 - x0)) 4 (padB s.1, s.2)) ((x7.length : Int) - 1) 4 4 rfl (by omega) H2.out.1 H2.out.2.1 (by have := HLB.out; simp only [sgn_len]; omega)).mono ?_
            rintro e3 w3 ⟨rfl, hb3, v3, hw3, hs3⟩
            have H3 := Lib.hid (H2.out.call HG.out hw3 hb3 hs3)
            clear b0_2 b1_2 b2_2 b3_2 b4_2 b5_2 b6_2 b7_2 c0_2 c1_2 f0_2 f1_2
            clear hb3 hw3 hs3 H2
            obtain ⟨b0_3, b1_3, b2_3, b3_3, b4_3, b5_3, b6_3, b7_3⟩ := box8 H3.out.2.2.2
            have c0_3 := H3.out.c0
            have c1_3 := H3.out.c1
            have f0_3 := H3.out.f0
            have f1_3 := H3.out.f1
            have HH : Aside0 (St w0 w g v w.heap.size (.cells #[.int .i64 x0, .int .u8 x1, .bool x2, .int .i64 x3, .int .i64 x4, .int .i64 x5, .slice A6 x6.length c6, .slice (some ad) x7.length c7] 82 (0, 0)) (headS x0 x5 x7 11 s) w3 v3) := ⟨H3.out⟩
            obtain ⟨i3, hi3, _, hs3, _⟩ := info_parts info3
            obtain ⟨A', hrun, hrd, hle⟩ := print_drop_of (P := Try.prog) (Value.int .i64) (0 : Int) 22 3 .i64 Try.underlying22 hi3 hs3 (some ad) c7 x7 1 (by omega) (by omega) HC7.out
            simp only [Int.toNat_one] at hrun
            have hdl : (x7.drop 1).length = x7.length - 1 := List.length_drop
            rw [hdl] at hrun
            have HRD := Lib.hid (hrd w0 (Kd.reads_of_C H7.out))
            obtain ⟨N, hN⟩ : ∃ N, x7.length - 1 = N := ⟨_, rfl⟩
            rw [hN] at hrun
            have HN := Lib.hid (show x7.length = N + 1 by omega)
            have HHL := Lib.hid (show (headS x0 x5 x7 11 s).1.length + 88 + 8 * x7.length ≤ 140737488355328 by have := head_len x0 x5 x7 11 s; have := HL.out; omega)
            clear hdl hle hrd
            go_wp2_with fail
            go_loopw [82] (fun i wr => ∃ (k : Nat) (V : Value), k ≤ N ∧ i = .int .i64 k ∧ Aside0 (St w0 w g v w.heap.size (.cells #[.int .i64 x0, .int .u8 x1, .bool x2, .int .i64 x3, .int .i64 x4, .int .i64 x5, .slice A6 x6.length c6, .slice (some ad) x7.length c7] 82 (0, 0)) (rowsS x0 x6 x7 11 k (headS x0 x5 x7 11 s)) wr V)) (fun i _ => N - (intOf i).toNat)
            case atStart => exact ⟨0, v3, Nat.zero_le _, rfl, ⟨HH.out⟩⟩
            case round =>
              clear b0_3 b1_3 b2_3 b3_3 b4_3 b5_3 b6_3 b7_3 c0_3 c1_3 f0_3 f1_3
              clear H3
              obtain ⟨k, V, hk, rfl, HS⟩ := hrel
              have HLR := Lib.hid (show (rowsS x0 x6 x7 11 k (headS x0 x5 x7 11 s)).1.length + 50 ≤ 140737488355328 by have := rows_len x0 x6 x7 11 k (headS x0 x5 x7 11 s); have := HHL.out; have := HN.out; omega)
              by_cases hlt : k < N
              · have d2 : decide ((k : Int) < (N : Int)) = true := decide_eq_true (by omega)
                as_aux_lemma =>
                have i0 : (0 : Int) ≤ (k : Int) := by omega
                have i1 : (k : Int) < (N : Int) := by omega
                have i2 : k < N := hlt
                have hdl : (x7.drop 1).length = N := by rw [List.length_drop]; omega
                obtain ⟨ad', e', z0⟩ := ReadsOf.at_ HRD.out (k : Int) i0 (by rw [Int.toNat_one, hdl]; exact i1)
                subst e'
                have hv : rdOf (0 : Int) (x7.drop (1 : Int).toNat) (k : Int) = rd x7 ((k : Int) + 1) := by
                  have e1 : ((k : Int) + 1).toNat = 1 + k := by omega
                  unfold rdOf rd
                  rw [Int.toNat_one, Int.toNat_natCast, e1, List.getD_eq_getElem?_getD, List.getD_eq_getElem?_getD, List.getElem?_drop]
                rw [hv] at z0
                simp only [Int.toNat_natCast] at z0
                have HK := Lib.hid hk
                have z1 := pw_cell_below HS.out.2.1 z0
                have HZ := Lib.hid z0
                have HLT := Lib.hid hlt
                clear hv hdl z0 hlt hk
                have hNx : N = x6.length := Nat.succ.inj (HN.out.symm.trans HX.out.2)
                have HKL0 : k < x6.length := by rw [← hNx]; exact HLT.out
                have HKL := Lib.hid HKL0
                have i6b : (k : Int) < (x6.length : Int) := Int.ofNat_lt.2 HKL0
                clear hNx
                obtain ⟨ad6, e6, z6⟩ := Kd.at_int H6.out (k : Int) i0 i6b
                subst e6
                simp only [Int.toNat_natCast] at z6
                have i6c : k < x6.length := HKL0
                obtain ⟨b, hb⟩ : ∃ b, ((k : Int) == 0 || decide (rd x6 ((k : Int) - 1) < rd x6 k)) = b := ⟨_, rfl⟩
                have HBB := Lib.hid hb
                obtain ⟨q, hq⟩ : ∃ q, (rowsS x0 x6 x7 11 k (headS x0 x5 x7 11 s)) = q := ⟨_, rfl⟩
                have HQ := Lib.hid hq
                rw [hq] at HS HLR
                clear hq
                obtain ⟨ql, qo⟩ := q
                have H8 := Lib.hid HS.out
                obtain ⟨b0_8, b1_8, b2_8, b3_8, b4_8, b5_8, b6_8, b7_8⟩ := box8 H8.out.2.2.2
                have c0_8 := H8.out.c0
                have c1_8 := H8.out.c1
                have f0_8 := H8.out.f0
                have f1_8 := H8.out.f1
                have z8 := pw_cell_below H8.out.2.1 z6
                clear HS
                go_upto_region 15 with (fail)
                go_cut [111] from 89 to 113 (fun vv wc => Aside0 (St w0 w g v w.heap.size (.cells #[.int .i64 x0, .int .u8 x1, .bool x2, .int .i64 x3, .int .i64 x4, .int .i64 x5, .slice (some ad6) x6.length c6, .slice (some ad) x7.length c7] 82 (0, 0)) (ql, qo && b) wc V))
                case first =>
                  cases qo with
                  | false =>
                    have HD := Lib.hid (H8.out.quiet HG.out (drewB _))
                    obtain ⟨b0_d, b1_d, b2_d, b3_d, b4_d, b5_d, b6_d, b7_d⟩ := box8 HD.out.2.2.2
                    have c0_d := HD.out.c0
                    have c1_d := HD.out.c1
                    have f0_d := HD.out.f0
                    have f1_d := HD.out.f1
                    clear b0_8 b1_8 b2_8 b3_8 b4_8 b5_8 b6_8 b7_8 c0_8 c1_8 f0_8 f1_8
                    refine start_ (n := 26) (S := fun w' => w'.cell? ⟨g, 1, none⟩ = some (.bool false)) (ds := [25]) #[false, false, false, false, false, false, false, false, false, false, false, false, false, false, false, false, false, false, false, false, false, false, false, false, false, false] (by kernel_rfl) rfl rfl (c1_d) (fun hHeld => ?_)
                    refine pure_ (i := 0) (N := some 89) (v := ?_) (a' := ?_) #[true, false, false, false, false, false, false, false, false, false, false, false, false, false, false, false, false, false, false, false, false, false, false, false, false, false] rfl rfl (by kernel_rfl) (fun _ _ _ h => h) (Or.inl ⟨by rfl, ?_⟩) ?_ ?_
                    rotate_left
                    · intro w'
                      go_simp
                      with_reducible rfl
                    rotate_left
                    · simp only [Act.put, List.setIfInBounds_toArray, List.set_cons_zero, List.set_cons_succ, i64_w, i32_w]
                      rfl
                    refine pure_ (i := 1) (N := some 90) (v := ?_) (a' := ?_) #[true, true, false, false, false, false, false, false, false, false, false, false, false, false, false, false, false, false, false, false, false, false, false, false, false, false] rfl rfl (by kernel_rfl) (fun _ _ _ h => h) (Or.inl ⟨by rfl, ?_⟩) ?_ ?_
                    rotate_left
                    · intro w'
                      go_simp
                      with_reducible rfl
                    rotate_left
                    · simp only [Act.put, List.setIfInBounds_toArray, List.set_cons_zero, List.set_cons_succ, i64_w, i32_w]
                      rfl
                    refine pure_ (i := 2) (N := some 91) (v := ?_) (a' := ?_) #[true, true, true, false, false, false, false, false, false, false, false, false, false, false, false, false, false, false, false, false, false, false, false, false, false, false] rfl rfl (by kernel_rfl) (fun _ _ _ h => h) (Or.inl ⟨by rfl, ?_⟩) ?_ ?_
                    rotate_left
                    · intro w'
                      go_simp
                      with_reducible rfl
                    rotate_left
                    · simp only [Act.put, List.setIfInBounds_toArray, List.set_cons_zero, List.set_cons_succ, i64_w, i32_w]
                      rfl
                    refine pure_ (i := 3) (N := some 92) (v := ?_) (a' := ?_) #[true, true, true, true, false, false, false, false, false, false, false, false, false, false, false, false, false, false, false, false, false, false, false, false, false, false] rfl rfl (by kernel_rfl) (fun _ _ _ h => h) (Or.inl ⟨by rfl, ?_⟩) ?_ ?_
                    rotate_left
                    · intro w'
                      go_simp
                      with_reducible rfl
                    rotate_left
                    · simp only [Act.put, List.setIfInBounds_toArray, List.set_cons_zero, List.set_cons_succ, i64_w, i32_w]
                      rfl
                    refine take_ (i := 4) (N := some 93) (v := ?_) (a' := ?_) #[true, true, true, true, true, false, false, false, false, false, false, false, false, false, false, false, false, false, false, false, false, false, false, false, false, false] rfl rfl (by kernel_rfl) (fun _ _ _ h => h) (Or.inl ⟨by rfl, ?_⟩) hHeld ?_ ?_
                    rotate_left
                    · intro w' s0
                      go_simp
                      with_reducible rfl
                    rotate_left
                    · simp only [Act.put, List.setIfInBounds_toArray, List.set_cons_zero, List.set_cons_succ, i64_w, i32_w]
                      rfl
                    refine pure_ (i := 5) (N := some 94) (v := ?_) (a' := ?_) #[true, true, true, true, true, true, false, false, false, false, false, false, false, false, false, false, false, false, false, false, false, false, false, false, false, false] rfl rfl (by kernel_rfl) (fun _ _ _ h => h) (Or.inl ⟨by rfl, ?_⟩) ?_ ?_
                    rotate_left
                    · intro w'
                      go_simp
                      with_reducible rfl
                    rotate_left
                    · simp only [Act.put, List.setIfInBounds_toArray, List.set_cons_zero, List.set_cons_succ, i64_w, i32_w]
                      rfl
                    refine pure_ (i := 6) (N := some 95) (v := undef) (a' := ?_) #[true, true, true, true, true, true, true, false, false, false, false, false, false, false, false, false, false, false, false, false, false, false, false, false, false, false] rfl rfl (by kernel_rfl) (fun _ _ _ h => h) (Or.inr ⟨by rfl, rfl⟩) ?_ ?_
                    rotate_left
                    · simp only [Act.put, List.setIfInBounds_toArray, List.set_cons_zero, List.set_cons_succ, i64_w, i32_w]
                      rfl
                    refine pure_ (i := 7) (N := some 96) (v := undef) (a' := ?_) #[true, true, true, true, true, true, true, true, false, false, false, false, false, false, false, false, false, false, false, false, false, false, false, false, false, false] rfl rfl (by kernel_rfl) (fun _ _ _ h => h) (Or.inr ⟨by rfl, rfl⟩) ?_ ?_
                    rotate_left
                    · simp only [Act.put, List.setIfInBounds_toArray, List.set_cons_zero, List.set_cons_succ, i64_w, i32_w]
                      rfl
                    refine pure_ (i := 8) (N := some 97) (v := undef) (a' := ?_) #[true, true, true, true, true, true, true, true, true, false, false, false, false, false, false, false, false, false, false, false, false, false, false, false, false, false] rfl rfl (by kernel_rfl) (fun _ _ _ h => h) (Or.inr ⟨by rfl, rfl⟩) ?_ ?_
                    rotate_left
                    · simp only [Act.put, List.setIfInBounds_toArray, List.set_cons_zero, List.set_cons_succ, i64_w, i32_w]
                      rfl
                    refine pure_ (i := 9) (N := some 98) (v := undef) (a' := ?_) #[true, true, true, true, true, true, true, true, true, true, false, false, false, false, false, false, false, false, false, false, false, false, false, false, false, false] rfl rfl (by kernel_rfl) (fun _ _ _ h => h) (Or.inr ⟨by rfl, rfl⟩) ?_ ?_
                    rotate_left
                    · simp only [Act.put, List.setIfInBounds_toArray, List.set_cons_zero, List.set_cons_succ, i64_w, i32_w]
                      rfl
                    refine pure_ (i := 10) (N := some 99) (v := undef) (a' := ?_) #[true, true, true, true, true, true, true, true, true, true, true, false, false, false, false, false, false, false, false, false, false, false, false, false, false, false] rfl rfl (by kernel_rfl) (fun _ _ _ h => h) (Or.inr ⟨by rfl, rfl⟩) ?_ ?_
                    rotate_left
                    · simp only [Act.put, List.setIfInBounds_toArray, List.set_cons_zero, List.set_cons_succ, i64_w, i32_w]
                      rfl
                    refine pure_ (i := 11) (N := some 100) (v := undef) (a' := ?_) #[true, true, true, true, true, true, true, true, true, true, true, true, false, false, false, false, false, false, false, false, false, false, false, false, false, false] rfl rfl (by kernel_rfl) (fun _ _ _ h => h) (Or.inr ⟨by rfl, rfl⟩) ?_ ?_
                    rotate_left
                    · simp only [Act.put, List.setIfInBounds_toArray, List.set_cons_zero, List.set_cons_succ, i64_w, i32_w]
                      rfl
                    refine pure_ (i := 12) (N := some 101) (v := undef) (a' := ?_) #[true, true, true, true, true, true, true, true, true, true, true, true, true, false, false, false, false, false, false, false, false, false, false, false, false, false] rfl rfl (by kernel_rfl) (fun _ _ _ h => h) (Or.inr ⟨by rfl, rfl⟩) ?_ ?_
                    rotate_left
                    · simp only [Act.put, List.setIfInBounds_toArray, List.set_cons_zero, List.set_cons_succ, i64_w, i32_w]
                      rfl
                    refine pure_ (i := 13) (N := some 102) (v := undef) (a' := ?_) #[true, true, true, true, true, true, true, true, true, true, true, true, true, true, false, false, false, false, false, false, false, false, false, false, false, false] rfl rfl (by kernel_rfl) (fun _ _ _ h => h) (Or.inr ⟨by rfl, rfl⟩) ?_ ?_
                    rotate_left
                    · simp only [Act.put, List.setIfInBounds_toArray, List.set_cons_zero, List.set_cons_succ, i64_w, i32_w]
                      rfl
                    refine pure_ (i := 14) (N := some 103) (v := undef) (a' := ?_) #[true, true, true, true, true, true, true, true, true, true, true, true, true, true, true, false, false, false, false, false, false, false, false, false, false, false] rfl rfl (by kernel_rfl) (fun _ _ _ h => h) (Or.inr ⟨by rfl, rfl⟩) ?_ ?_
                    rotate_left
                    · simp only [Act.put, List.setIfInBounds_toArray, List.set_cons_zero, List.set_cons_succ, i64_w, i32_w]
                      rfl
                    refine pure_ (i := 15) (N := some 104) (v := undef) (a' := ?_) #[true, true, true, true, true, true, true, true, true, true, true, true, true, true, true, true, false, false, false, false, false, false, false, false, false, false] rfl rfl (by kernel_rfl) (fun _ _ _ h => h) (Or.inr ⟨by rfl, rfl⟩) ?_ ?_
                    rotate_left
                    · simp only [Act.put, List.setIfInBounds_toArray, List.set_cons_zero, List.set_cons_succ, i64_w, i32_w]
                      rfl
                    refine pure_ (i := 16) (N := some 105) (v := undef) (a' := ?_) #[true, true, true, true, true, true, true, true, true, true, true, true, true, true, true, true, true, false, false, false, false, false, false, false, false, false] rfl rfl (by kernel_rfl) (fun _ _ _ h => h) (Or.inr ⟨by rfl, rfl⟩) ?_ ?_
                    rotate_left
                    · simp only [Act.put, List.setIfInBounds_toArray, List.set_cons_zero, List.set_cons_succ, i64_w, i32_w]
                      rfl
                    refine pure_ (i := 17) (N := some 106) (v := undef) (a' := ?_) #[true, true, true, true, true, true, true, true, true, true, true, true, true, true, true, true, true, true, false, false, false, false, false, false, false, false] rfl rfl (by kernel_rfl) (fun _ _ _ h => h) (Or.inr ⟨by rfl, rfl⟩) ?_ ?_
                    rotate_left
                    · simp only [Act.put, List.setIfInBounds_toArray, List.set_cons_zero, List.set_cons_succ, i64_w, i32_w]
                      rfl
                    refine pure_ (i := 18) (N := some 107) (v := undef) (a' := ?_) #[true, true, true, true, true, true, true, true, true, true, true, true, true, true, true, true, true, true, true, false, false, false, false, false, false, false] rfl rfl (by kernel_rfl) (fun _ _ _ h => h) (Or.inr ⟨by rfl, rfl⟩) ?_ ?_
                    rotate_left
                    · simp only [Act.put, List.setIfInBounds_toArray, List.set_cons_zero, List.set_cons_succ, i64_w, i32_w]
                      rfl
                    refine pure_ (i := 19) (N := some 108) (v := undef) (a' := ?_) #[true, true, true, true, true, true, true, true, true, true, true, true, true, true, true, true, true, true, true, true, false, false, false, false, false, false] rfl rfl (by kernel_rfl) (fun _ _ _ h => h) (Or.inr ⟨by rfl, rfl⟩) ?_ ?_
                    rotate_left
                    · simp only [Act.put, List.setIfInBounds_toArray, List.set_cons_zero, List.set_cons_succ, i64_w, i32_w]
                      rfl
                    refine pure_ (i := 20) (N := some 109) (v := undef) (a' := ?_) #[true, true, true, true, true, true, true, true, true, true, true, true, true, true, true, true, true, true, true, true, true, false, false, false, false, false] rfl rfl (by kernel_rfl) (fun _ _ _ h => h) (Or.inr ⟨by rfl, rfl⟩) ?_ ?_
                    rotate_left
                    · simp only [Act.put, List.setIfInBounds_toArray, List.set_cons_zero, List.set_cons_succ, i64_w, i32_w]
                      rfl
                    refine pure_ (i := 21) (N := some 110) (v := undef) (a' := ?_) #[true, true, true, true, true, true, true, true, true, true, true, true, true, true, true, true, true, true, true, true, true, true, false, false, false, false] rfl rfl (by kernel_rfl) (fun _ _ _ h => h) (Or.inr ⟨by rfl, rfl⟩) ?_ ?_
                    rotate_left
                    · simp only [Act.put, List.setIfInBounds_toArray, List.set_cons_zero, List.set_cons_succ, i64_w, i32_w]
                      rfl
                    refine pure_ (i := 22) (N := some 111) (v := ?_) (a' := ?_) #[true, true, true, true, true, true, true, true, true, true, true, true, true, true, true, true, true, true, true, true, true, true, true, false, false, false] rfl rfl (by kernel_rfl) (fun _ _ _ h => h) (Or.inl ⟨by rfl, ?_⟩) ?_ ?_
                    rotate_left
                    · intro w'
                      go_simp
                      with_reducible rfl
                    rotate_left
                    · simp only [Act.put, List.setIfInBounds_toArray, List.set_cons_zero, List.set_cons_succ, i64_w, i32_w]
                      rfl
                    refine pure_ (i := 23) (N := some 112) (v := ?_) (a' := ?_) #[true, true, true, true, true, true, true, true, true, true, true, true, true, true, true, true, true, true, true, true, true, true, true, true, false, false] rfl rfl (by kernel_rfl) (fun _ _ _ h => h) (Or.inl ⟨by rfl, ?_⟩) ?_ ?_
                    rotate_left
                    · intro w'
                      go_simp
                      with_reducible rfl
                    rotate_left
                    · simp only [Act.put, List.setIfInBounds_toArray, List.set_cons_zero, List.set_cons_succ, i64_w, i32_w]
                      rfl
                    refine pure_ (i := 24) (N := some 113) (v := ?_) (a' := ?_) #[true, true, true, true, true, true, true, true, true, true, true, true, true, true, true, true, true, true, true, true, true, true, true, true, true, false] rfl rfl (by kernel_rfl) (fun _ _ _ h => h) (Or.inl ⟨by rfl, ?_⟩) ?_ ?_
                    rotate_left
                    · intro w'
                      go_simp
                      with_reducible rfl
                    rotate_left
                    · simp only [Act.put, List.setIfInBounds_toArray, List.set_cons_zero, List.set_cons_succ, i64_w, i32_w]
                      rfl
                    refine last_ (i := 25) (N := none) #[true, true, true, true, true, true, true, true, true, true, true, true, true, true, true, true, true, true, true, true, true, true, true, true, true, true] rfl rfl (by kernel_rfl) (by decide) (fun K hK => ?_)
                    refine skip_ (w1 := ?_) (by rfl) rfl ?_ ?_
                    rotate_left
                    · go_simp
                      rfl
                    refine hK.out _ _ ?_
                    clear hK K
                    refine done_ (by kernel_rfl) ?_
                    go_wp2
                    go_meet
                    case rel => exact ⟨by have h := HD.out.setok HG.out (false); rw [Bool.false_and]; exact h⟩
                  | true =>
                    by_cases hk0 : k = 0
                    · have q0 : ((k : Int) == 0) = true := beq_iff_eq.2 (by omega)
                      have hb2 : b = true := by rw [← HBB.out, q0, Bool.true_or]
                      subst hb2
                      clear hk0
                      have HD := Lib.hid (H8.out.quiet HG.out (drewB _))
                      obtain ⟨b0_d, b1_d, b2_d, b3_d, b4_d, b5_d, b6_d, b7_d⟩ := box8 HD.out.2.2.2
                      have c0_d := HD.out.c0
                      have c1_d := HD.out.c1
                      have f0_d := HD.out.f0
                      have f1_d := HD.out.f1
                      clear b0_8 b1_8 b2_8 b3_8 b4_8 b5_8 b6_8 b7_8 c0_8 c1_8 f0_8 f1_8
                      refine start_ (n := 26) (S := fun w' => w'.cell? ⟨g, 1, none⟩ = some (.bool true)) (ds := [25]) #[false, false, false, false, false, false, false, false, false, false, false, false, false, false, false, false, false, false, false, false, false, false, false, false, false, false] (by kernel_rfl) rfl rfl (c1_d) (fun hHeld => ?_)
                      refine pure_ (i := 0) (N := some 89) (v := ?_) (a' := ?_) #[true, false, false, false, false, false, false, false, false, false, false, false, false, false, false, false, false, false, false, false, false, false, false, false, false, false] rfl rfl (by kernel_rfl) (fun _ _ _ h => h) (Or.inl ⟨by rfl, ?_⟩) ?_ ?_
                      rotate_left
                      · intro w'
                        go_simp
                        with_reducible rfl
                      rotate_left
                      · simp only [Act.put, List.setIfInBounds_toArray, List.set_cons_zero, List.set_cons_succ, i64_w, i32_w]
                        rfl
                      refine pure_ (i := 1) (N := some 90) (v := ?_) (a' := ?_) #[true, true, false, false, false, false, false, false, false, false, false, false, false, false, false, false, false, false, false, false, false, false, false, false, false, false] rfl rfl (by kernel_rfl) (fun _ _ _ h => h) (Or.inl ⟨by rfl, ?_⟩) ?_ ?_
                      rotate_left
                      · intro w'
                        go_simp
                        with_reducible rfl
                      rotate_left
                      · simp only [Act.put, List.setIfInBounds_toArray, List.set_cons_zero, List.set_cons_succ, i64_w, i32_w]
                        rfl
                      refine pure_ (i := 2) (N := some 91) (v := ?_) (a' := ?_) #[true, true, true, false, false, false, false, false, false, false, false, false, false, false, false, false, false, false, false, false, false, false, false, false, false, false] rfl rfl (by kernel_rfl) (fun _ _ _ h => h) (Or.inl ⟨by rfl, ?_⟩) ?_ ?_
                      rotate_left
                      · intro w'
                        go_simp
                        with_reducible rfl
                      rotate_left
                      · simp only [Act.put, List.setIfInBounds_toArray, List.set_cons_zero, List.set_cons_succ, i64_w, i32_w]
                        rfl
                      refine pure_ (i := 3) (N := some 92) (v := ?_) (a' := ?_) #[true, true, true, true, false, false, false, false, false, false, false, false, false, false, false, false, false, false, false, false, false, false, false, false, false, false] rfl rfl (by kernel_rfl) (fun _ _ _ h => h) (Or.inl ⟨by rfl, ?_⟩) ?_ ?_
                      rotate_left
                      · intro w'
                        go_simp
                        with_reducible rfl
                      rotate_left
                      · simp only [Act.put, List.setIfInBounds_toArray, List.set_cons_zero, List.set_cons_succ, i64_w, i32_w]
                        rfl
                      refine take_ (i := 4) (N := some 93) (v := ?_) (a' := ?_) #[true, true, true, true, true, false, false, false, false, false, false, false, false, false, false, false, false, false, false, false, false, false, false, false, false, false] rfl rfl (by kernel_rfl) (fun _ _ _ h => h) (Or.inl ⟨by rfl, ?_⟩) hHeld ?_ ?_
                      rotate_left
                      · intro w' s0
                        go_simp
                        with_reducible rfl
                      rotate_left
                      · simp only [Act.put, List.setIfInBounds_toArray, List.set_cons_zero, List.set_cons_succ, i64_w, i32_w]
                        rfl
                      refine pure_ (i := 5) (N := some 94) (v := ?_) (a' := ?_) #[true, true, true, true, true, true, false, false, false, false, false, false, false, false, false, false, false, false, false, false, false, false, false, false, false, false] rfl rfl (by kernel_rfl) (fun _ _ _ h => h) (Or.inl ⟨by rfl, ?_⟩) ?_ ?_
                      rotate_left
                      · intro w'
                        go_simp
                        with_reducible rfl
                      rotate_left
                      · simp only [Act.put, List.setIfInBounds_toArray, List.set_cons_zero, List.set_cons_succ, i64_w, i32_w]
                        rfl
                      refine pure_ (i := 6) (N := some 95) (v := ?_) (a' := ?_) #[true, true, true, true, true, true, true, false, false, false, false, false, false, false, false, false, false, false, false, false, false, false, false, false, false, false] rfl rfl (by kernel_rfl) (fun _ _ _ h => h) (Or.inl ⟨by rfl, ?_⟩) ?_ ?_
                      rotate_left
                      · intro w'
                        go_simp
                        with_reducible rfl
                      rotate_left
                      · simp only [Act.put, List.setIfInBounds_toArray, List.set_cons_zero, List.set_cons_succ, i64_w, i32_w]
                        rfl
                      refine pure_ (i := 7) (N := some 96) (v := ?_) (a' := ?_) #[true, true, true, true, true, true, true, true, false, false, false, false, false, false, false, false, false, false, false, false, false, false, false, false, false, false] rfl rfl (by kernel_rfl) (fun _ _ _ h => h) (Or.inl ⟨by rfl, ?_⟩) ?_ ?_
                      rotate_left
                      · intro w'
                        go_simp
                        with_reducible rfl
                      rotate_left
                      · simp only [Act.put, List.setIfInBounds_toArray, List.set_cons_zero, List.set_cons_succ, i64_w, i32_w]
                        rfl
                      refine pure_ (i := 8) (N := some 97) (v := ?_) (a' := ?_) #[true, true, true, true, true, true, true, true, true, false, false, false, false, false, false, false, false, false, false, false, false, false, false, false, false, false] rfl rfl (by kernel_rfl) (fun _ _ _ h => h) (Or.inl ⟨by rfl, ?_⟩) ?_ ?_
                      rotate_left
                      · intro w'
                        go_simp
                        with_reducible rfl
                      rotate_left
                      · simp only [Act.put, List.setIfInBounds_toArray, List.set_cons_zero, List.set_cons_succ, i64_w, i32_w]
                        rfl
                      refine pure_ (i := 9) (N := some 98) (v := undef) (a' := ?_) #[true, true, true, true, true, true, true, true, true, true, false, false, false, false, false, false, false, false, false, false, false, false, false, false, false, false] rfl rfl (by kernel_rfl) (fun _ _ _ h => h) (Or.inr ⟨by rfl, rfl⟩) ?_ ?_
                      rotate_left
                      · simp only [Act.put, List.setIfInBounds_toArray, List.set_cons_zero, List.set_cons_succ, i64_w, i32_w]
                        rfl
                      refine pure_ (i := 10) (N := some 99) (v := undef) (a' := ?_) #[true, true, true, true, true, true, true, true, true, true, true, false, false, false, false, false, false, false, false, false, false, false, false, false, false, false] rfl rfl (by kernel_rfl) (fun _ _ _ h => h) (Or.inr ⟨by rfl, rfl⟩) ?_ ?_
                      rotate_left
                      · simp only [Act.put, List.setIfInBounds_toArray, List.set_cons_zero, List.set_cons_succ, i64_w, i32_w]
                        rfl
                      refine pure_ (i := 11) (N := some 100) (v := undef) (a' := ?_) #[true, true, true, true, true, true, true, true, true, true, true, true, false, false, false, false, false, false, false, false, false, false, false, false, false, false] rfl rfl (by kernel_rfl) (fun _ _ _ h => h) (Or.inr ⟨by rfl, rfl⟩) ?_ ?_
                      rotate_left
                      · simp only [Act.put, List.setIfInBounds_toArray, List.set_cons_zero, List.set_cons_succ, i64_w, i32_w]
                        rfl
                      refine pure_ (i := 12) (N := some 101) (v := undef) (a' := ?_) #[true, true, true, true, true, true, true, true, true, true, true, true, true, false, false, false, false, false, false, false, false, false, false, false, false, false] rfl rfl (by kernel_rfl) (fun _ _ _ h => h) (Or.inr ⟨by rfl, rfl⟩) ?_ ?_
                      rotate_left
                      · simp only [Act.put, List.setIfInBounds_toArray, List.set_cons_zero, List.set_cons_succ, i64_w, i32_w]
                        rfl
                      refine pure_ (i := 13) (N := some 102) (v := undef) (a' := ?_) #[true, true, true, true, true, true, true, true, true, true, true, true, true, true, false, false, false, false, false, false, false, false, false, false, false, false] rfl rfl (by kernel_rfl) (fun _ _ _ h => h) (Or.inr ⟨by rfl, rfl⟩) ?_ ?_
                      rotate_left
                      · simp only [Act.put, List.setIfInBounds_toArray, List.set_cons_zero, List.set_cons_succ, i64_w, i32_w]
                        rfl
                      refine pure_ (i := 14) (N := some 103) (v := undef) (a' := ?_) #[true, true, true, true, true, true, true, true, true, true, true, true, true, true, true, false, false, false, false, false, false, false, false, false, false, false] rfl rfl (by kernel_rfl) (fun _ _ _ h => h) (Or.inr ⟨by rfl, rfl⟩) ?_ ?_
                      rotate_left
                      · simp only [Act.put, List.setIfInBounds_toArray, List.set_cons_zero, List.set_cons_succ, i64_w, i32_w]
                        rfl
                      refine pure_ (i := 15) (N := some 104) (v := undef) (a' := ?_) #[true, true, true, true, true, true, true, true, true, true, true, true, true, true, true, true, false, false, false, false, false, false, false, false, false, false] rfl rfl (by kernel_rfl) (fun _ _ _ h => h) (Or.inr ⟨by rfl, rfl⟩) ?_ ?_
                      rotate_left
                      · simp only [Act.put, List.setIfInBounds_toArray, List.set_cons_zero, List.set_cons_succ, i64_w, i32_w]
                        rfl
                      refine pure_ (i := 16) (N := some 105) (v := undef) (a' := ?_) #[true, true, true, true, true, true, true, true, true, true, true, true, true, true, true, true, true, false, false, false, false, false, false, false, false, false] rfl rfl (by kernel_rfl) (fun _ _ _ h => h) (Or.inr ⟨by rfl, rfl⟩) ?_ ?_
                      rotate_left
                      · simp only [Act.put, List.setIfInBounds_toArray, List.set_cons_zero, List.set_cons_succ, i64_w, i32_w]
                        rfl
                      refine pure_ (i := 17) (N := some 106) (v := undef) (a' := ?_) #[true, true, true, true, true, true, true, true, true, true, true, true, true, true, true, true, true, true, false, false, false, false, false, false, false, false] rfl rfl (by kernel_rfl) (fun _ _ _ h => h) (Or.inr ⟨by rfl, rfl⟩) ?_ ?_
                      rotate_left
                      · simp only [Act.put, List.setIfInBounds_toArray, List.set_cons_zero, List.set_cons_succ, i64_w, i32_w]
                        rfl
                      refine pure_ (i := 18) (N := some 107) (v := undef) (a' := ?_) #[true, true, true, true, true, true, true, true, true, true, true, true, true, true, true, true, true, true, true, false, false, false, false, false, false, false] rfl rfl (by kernel_rfl) (fun _ _ _ h => h) (Or.inr ⟨by rfl, rfl⟩) ?_ ?_
                      rotate_left
                      · simp only [Act.put, List.setIfInBounds_toArray, List.set_cons_zero, List.set_cons_succ, i64_w, i32_w]
                        rfl
                      refine pure_ (i := 19) (N := some 108) (v := undef) (a' := ?_) #[true, true, true, true, true, true, true, true, true, true, true, true, true, true, true, true, true, true, true, true, false, false, false, false, false, false] rfl rfl (by kernel_rfl) (fun _ _ _ h => h) (Or.inr ⟨by rfl, rfl⟩) ?_ ?_
                      rotate_left
                      · simp only [Act.put, List.setIfInBounds_toArray, List.set_cons_zero, List.set_cons_succ, i64_w, i32_w]
                        rfl
                      refine pure_ (i := 20) (N := some 109) (v := undef) (a' := ?_) #[true, true, true, true, true, true, true, true, true, true, true, true, true, true, true, true, true, true, true, true, true, false, false, false, false, false] rfl rfl (by kernel_rfl) (fun _ _ _ h => h) (Or.inr ⟨by rfl, rfl⟩) ?_ ?_
                      rotate_left
                      · simp only [Act.put, List.setIfInBounds_toArray, List.set_cons_zero, List.set_cons_succ, i64_w, i32_w]
                        rfl
                      refine pure_ (i := 21) (N := some 110) (v := ?_) (a' := ?_) #[true, true, true, true, true, true, true, true, true, true, true, true, true, true, true, true, true, true, true, true, true, true, false, false, false, false] rfl rfl (by kernel_rfl) (fun _ _ _ h => h) (Or.inl ⟨by rfl, ?_⟩) ?_ ?_
                      rotate_left
                      · intro w'
                        go_simp
                        with_reducible rfl
                      rotate_left
                      · simp only [Act.put, List.setIfInBounds_toArray, List.set_cons_zero, List.set_cons_succ, i64_w, i32_w]
                        rfl
                      refine pure_ (i := 22) (N := some 111) (v := ?_) (a' := ?_) #[true, true, true, true, true, true, true, true, true, true, true, true, true, true, true, true, true, true, true, true, true, true, true, false, false, false] rfl rfl (by kernel_rfl) (fun _ _ _ h => h) (Or.inl ⟨by rfl, ?_⟩) ?_ ?_
                      rotate_left
                      · intro w'
                        go_simp
                        with_reducible rfl
                      rotate_left
                      · simp only [Act.put, List.setIfInBounds_toArray, List.set_cons_zero, List.set_cons_succ, i64_w, i32_w]
                        rfl
                      refine pure_ (i := 23) (N := some 112) (v := ?_) (a' := ?_) #[true, true, true, true, true, true, true, true, true, true, true, true, true, true, true, true, true, true, true, true, true, true, true, true, false, false] rfl rfl (by kernel_rfl) (fun _ _ _ h => h) (Or.inl ⟨by rfl, ?_⟩) ?_ ?_
                      rotate_left
                      · intro w'
                        go_simp
                        with_reducible rfl
                      rotate_left
                      · simp only [Act.put, List.setIfInBounds_toArray, List.set_cons_zero, List.set_cons_succ, i64_w, i32_w]
                        rfl
                      refine pure_ (i := 24) (N := some 113) (v := ?_) (a' := ?_) #[true, true, true, true, true, true, true, true, true, true, true, true, true, true, true, true, true, true, true, true, true, true, true, true, true, false] rfl rfl (by kernel_rfl) (fun _ _ _ h => h) (Or.inl ⟨by rfl, ?_⟩) ?_ ?_
                      rotate_left
                      · intro w'
                        go_simp
                        with_reducible rfl
                      rotate_left
                      · simp only [Act.put, List.setIfInBounds_toArray, List.set_cons_zero, List.set_cons_succ, i64_w, i32_w]
                        rfl
                      refine last_ (i := 25) (N := none) #[true, true, true, true, true, true, true, true, true, true, true, true, true, true, true, true, true, true, true, true, true, true, true, true, true, true] rfl rfl (by kernel_rfl) (by decide) (fun K hK => ?_)
                      refine skip_ (w1 := ?_) (by rfl) rfl ?_ ?_
                      rotate_left
                      · go_simp
                        rfl
                      refine hK.out _ _ ?_
                      clear hK K
                      refine done_ (by kernel_rfl) ?_
                      go_wp2
                      go_meet
                      case rel => exact ⟨by have h := HD.out.setok HG.out (true); rw [Bool.true_and]; exact h⟩
                    · have q0 : ((k : Int) == 0) = false := beq_eq_false_iff_ne.2 (by omega)
                      have hb2 : b = decide (rd x6 ((k : Int) - 1) < rd x6 k) := by rw [← HBB.out, q0, Bool.false_or]
                      subst hb2
                      obtain ⟨ad6', e6', z6'⟩ := Kd.at_int H6.out ((k : Int) - 1) (by omega) (by have := HKL.out; omega)
                      injection e6' with e6'
                      subst e6'
                      rw [show ((k : Int) - 1).toNat = k - 1 by omega] at z6'
                      have j4 : (1 : Int) ≤ (k : Int) := by omega
                      have j5 : k - 1 < x6.length := by have := HKL.out; omega
                      have j0 : (0 : Int) ≤ (k : Int) - 1 := by omega
                      have j1 : (k : Int) - 1 < (x6.length : Int) := by have := HKL.out; omega
                      have j2 : IntKind.i64.wrap ((k : Int) - 1) = (k : Int) - 1 := by rw [IntKind.wrap_i64]; have := HKL.out; have := HL.out; have := HX.out; omega
                      have j3 : wrap64 ((k : Int) - 1) = (k : Int) - 1 := (i64_w _).symm.trans j2
                      have HD := Lib.hid (H8.out.quiet HG.out (drewB _))
                      obtain ⟨b0_d, b1_d, b2_d, b3_d, b4_d, b5_d, b6_d, b7_d⟩ := box8 HD.out.2.2.2
                      have c0_d := HD.out.c0
                      have c1_d := HD.out.c1
                      have f0_d := HD.out.f0
                      have f1_d := HD.out.f1
                      have z6d := pw_cell_below HD.out.2.1 z6
                      have z6d' := pw_cell_below HD.out.2.1 z6'
                      clear b0_8 b1_8 b2_8 b3_8 b4_8 b5_8 b6_8 b7_8 c0_8 c1_8 f0_8 f1_8
                      refine start_ (n := 26) (S := fun w' => w'.cell? ⟨g, 1, none⟩ = some (.bool true) ∧ w'.cell? ⟨w.heap.size, 6, none⟩ = some (.slice (some ad6) x6.length c6) ∧ w'.cell? (ad6.add (k - 1)) = some (.int .i64 (rd x6 ((k : Int) - 1))) ∧ w'.cell? (ad6.add k) = some (.int .i64 (rd x6 (k : Int)))) (ds := [25]) #[false, false, false, false, false, false, false, false, false, false, false, false, false, false, false, false, false, false, false, false, false, false, false, false, false, false] (by kernel_rfl) rfl rfl ⟨c1_d, b6_d, z6d', z6d⟩ (fun hHeld => ?_)
                      refine pure_ (i := 0) (N := some 89) (v := ?_) (a' := ?_) #[true, false, false, false, false, false, false, false, false, false, false, false, false, false, false, false, false, false, false, false, false, false, false, false, false, false] rfl rfl (by kernel_rfl) (fun _ _ _ h => h) (Or.inl ⟨by rfl, ?_⟩) ?_ ?_
                      rotate_left
                      · intro w'
                        go_simp
                        with_reducible rfl
                      rotate_left
                      · simp only [Act.put, List.setIfInBounds_toArray, List.set_cons_zero, List.set_cons_succ, i64_w, i32_w]
                        rfl
                      refine pure_ (i := 1) (N := some 90) (v := ?_) (a' := ?_) #[true, true, false, false, false, false, false, false, false, false, false, false, false, false, false, false, false, false, false, false, false, false, false, false, false, false] rfl rfl (by kernel_rfl) (fun _ _ _ h => h) (Or.inl ⟨by rfl, ?_⟩) ?_ ?_
                      rotate_left
                      · intro w'
                        go_simp
                        with_reducible rfl
                      rotate_left
                      · simp only [Act.put, List.setIfInBounds_toArray, List.set_cons_zero, List.set_cons_succ, i64_w, i32_w]
                        rfl
                      refine pure_ (i := 2) (N := some 91) (v := ?_) (a' := ?_) #[true, true, true, false, false, false, false, false, false, false, false, false, false, false, false, false, false, false, false, false, false, false, false, false, false, false] rfl rfl (by kernel_rfl) (fun _ _ _ h => h) (Or.inl ⟨by rfl, ?_⟩) ?_ ?_
                      rotate_left
                      · intro w'
                        go_simp
                        with_reducible rfl
                      rotate_left
                      · simp only [Act.put, List.setIfInBounds_toArray, List.set_cons_zero, List.set_cons_succ, i64_w, i32_w]
                        rfl
                      refine pure_ (i := 3) (N := some 92) (v := ?_) (a' := ?_) #[true, true, true, true, false, false, false, false, false, false, false, false, false, false, false, false, false, false, false, false, false, false, false, false, false, false] rfl rfl (by kernel_rfl) (fun _ _ _ h => h) (Or.inl ⟨by rfl, ?_⟩) ?_ ?_
                      rotate_left
                      · intro w'
                        go_simp
                        with_reducible rfl
                      rotate_left
                      · simp only [Act.put, List.setIfInBounds_toArray, List.set_cons_zero, List.set_cons_succ, i64_w, i32_w]
                        rfl
                      refine take_ (i := 4) (N := some 93) (v := ?_) (a' := ?_) #[true, true, true, true, true, false, false, false, false, false, false, false, false, false, false, false, false, false, false, false, false, false, false, false, false, false] rfl rfl (by kernel_rfl) (fun _ _ _ h => h) (Or.inl ⟨by rfl, ?_⟩) hHeld ?_ ?_
                      rotate_left
                      · rintro w' ⟨s0, s1, s2, s3⟩
                        go_simp
                        with_reducible rfl
                      rotate_left
                      · simp only [Act.put, List.setIfInBounds_toArray, List.set_cons_zero, List.set_cons_succ, i64_w, i32_w]
                        rfl
                      refine pure_ (i := 5) (N := some 94) (v := ?_) (a' := ?_) #[true, true, true, true, true, true, false, false, false, false, false, false, false, false, false, false, false, false, false, false, false, false, false, false, false, false] rfl rfl (by kernel_rfl) (fun _ _ _ h => h) (Or.inl ⟨by rfl, ?_⟩) ?_ ?_
                      rotate_left
                      · intro w'
                        go_simp
                        with_reducible rfl
                      rotate_left
                      · simp only [Act.put, List.setIfInBounds_toArray, List.set_cons_zero, List.set_cons_succ, i64_w, i32_w]
                        rfl
                      refine pure_ (i := 6) (N := some 95) (v := ?_) (a' := ?_) #[true, true, true, true, true, true, true, false, false, false, false, false, false, false, false, false, false, false, false, false, false, false, false, false, false, false] rfl rfl (by kernel_rfl) (fun _ _ _ h => h) (Or.inl ⟨by rfl, ?_⟩) ?_ ?_
                      rotate_left
                      · intro w'
                        go_simp
                        with_reducible rfl
                      rotate_left
                      · simp only [Act.put, List.setIfInBounds_toArray, List.set_cons_zero, List.set_cons_succ, i64_w, i32_w]
                        rfl
                      refine pure_ (i := 7) (N := some 96) (v := ?_) (a' := ?_) #[true, true, true, true, true, true, true, true, false, false, false, false, false, false, false, false, false, false, false, false, false, false, false, false, false, false] rfl rfl (by kernel_rfl) (fun _ _ _ h => h) (Or.inl ⟨by rfl, ?_⟩) ?_ ?_
                      rotate_left
                      · intro w'
                        go_simp
                        with_reducible rfl
                      rotate_left
                      · simp only [Act.put, List.setIfInBounds_toArray, List.set_cons_zero, List.set_cons_succ, i64_w, i32_w]
                        rfl
                      refine pure_ (i := 8) (N := some 97) (v := ?_) (a' := ?_) #[true, true, true, true, true, true, true, true, true, false, false, false, false, false, false, false, false, false, false, false, false, false, false, false, false, false] rfl rfl (by kernel_rfl) (fun _ _ _ h => h) (Or.inl ⟨by rfl, ?_⟩) ?_ ?_
                      rotate_left
                      · intro w'
                        go_simp
                        with_reducible rfl
                      rotate_left
                      · simp only [Act.put, List.setIfInBounds_toArray, List.set_cons_zero, List.set_cons_succ, i64_w, i32_w]
                        rfl
                      refine pure_ (i := 9) (N := some 98) (v := ?_) (a' := ?_) #[true, true, true, true, true, true, true, true, true, true, false, false, false, false, false, false, false, false, false, false, false, false, false, false, false, false] rfl rfl (by kernel_rfl) (fun _ _ _ h => h) (Or.inl ⟨by rfl, ?_⟩) ?_ ?_
                      rotate_left
                      · intro w'
                        go_simp
                        with_reducible rfl
                      rotate_left
                      · simp only [Act.put, List.setIfInBounds_toArray, List.set_cons_zero, List.set_cons_succ, i64_w, i32_w]
                        rfl
                      refine pure_ (i := 11) (N := some 100) (v := ?_) (a' := ?_) #[true, true, true, true, true, true, true, true, true, true, false, true, false, false, false, false, false, false, false, false, false, false, false, false, false, false] rfl rfl (by kernel_rfl) (fun _ _ _ h => h) (Or.inl ⟨by rfl, ?_⟩) ?_ ?_
                      rotate_left
                      · intro w'
                        go_simp
                        with_reducible rfl
                      rotate_left
                      · simp only [Act.put, List.setIfInBounds_toArray, List.set_cons_zero, List.set_cons_succ, i64_w, i32_w]
                        rfl
                      refine pure_ (i := 12) (N := some 101) (v := ?_) (a' := ?_) #[true, true, true, true, true, true, true, true, true, true, false, true, true, false, false, false, false, false, false, false, false, false, false, false, false, false] rfl rfl (by kernel_rfl) (fun _ _ _ h => h) (Or.inl ⟨by rfl, ?_⟩) ?_ ?_
                      rotate_left
                      · intro w'
                        go_simp
                        with_reducible rfl
                      rotate_left
                      · simp only [Act.put, List.setIfInBounds_toArray, List.set_cons_zero, List.set_cons_succ, i64_w, i32_w]
                        rfl
                      refine pure_ (i := 15) (N := some 104) (v := ?_) (a' := ?_) #[true, true, true, true, true, true, true, true, true, true, false, true, true, false, false, true, false, false, false, false, false, false, false, false, false, false] rfl rfl (by kernel_rfl) (fun _ _ _ h => h) (Or.inl ⟨by rfl, ?_⟩) ?_ ?_
                      rotate_left
                      · intro w'
                        go_simp
                        with_reducible rfl
                      rotate_left
                      · simp only [Act.put, List.setIfInBounds_toArray, List.set_cons_zero, List.set_cons_succ, i64_w, i32_w]
                        rfl
                      refine pure_ (i := 17) (N := some 106) (v := ?_) (a' := ?_) #[true, true, true, true, true, true, true, true, true, true, false, true, true, false, false, true, false, true, false, false, false, false, false, false, false, false] rfl rfl (by kernel_rfl) (fun _ _ _ h => h) (Or.inl ⟨by rfl, ?_⟩) ?_ ?_
                      rotate_left
                      · intro w'
                        go_simp
                        with_reducible rfl
                      rotate_left
                      · simp only [Act.put, List.setIfInBounds_toArray, List.set_cons_zero, List.set_cons_succ, i64_w, i32_w]
                        rfl
                      refine take_ (i := 10) (N := some 99) (v := ?_) (a' := ?_) #[true, true, true, true, true, true, true, true, true, true, true, true, true, false, false, true, false, true, false, false, false, false, false, false, false, false] rfl rfl (by kernel_rfl) (fun _ _ _ h => h) (Or.inl ⟨by rfl, ?_⟩) hHeld ?_ ?_
                      rotate_left
                      · rintro w' ⟨s0, s1, s2, s3⟩
                        go_simp
                        with_reducible rfl
                      rotate_left
                      · simp only [Act.put, List.setIfInBounds_toArray, List.set_cons_zero, List.set_cons_succ, i64_w, i32_w]
                        rfl
                      refine pure_ (i := 13) (N := some 102) (v := ?_) (a' := ?_) #[true, true, true, true, true, true, true, true, true, true, true, true, true, true, false, true, false, true, false, false, false, false, false, false, false, false] rfl rfl (by kernel_rfl) (fun _ _ _ h => h) (Or.inl ⟨by rfl, ?_⟩) ?_ ?_
                      rotate_left
                      · intro w'
                        go_simp
                        with_reducible rfl
                      rotate_left
                      · simp only [Act.put, List.setIfInBounds_toArray, List.set_cons_zero, List.set_cons_succ, i64_w, i32_w]
                        rfl
                      refine take_ (i := 14) (N := some 103) (v := ?_) (a' := ?_) #[true, true, true, true, true, true, true, true, true, true, true, true, true, true, true, true, false, true, false, false, false, false, false, false, false, false] rfl rfl (by kernel_rfl) (fun _ _ _ h => h) (Or.inl ⟨by rfl, ?_⟩) hHeld ?_ ?_
                      rotate_left
                      · rintro w' ⟨s0, s1, s2, s3⟩
                        go_simp
                        with_reducible rfl
                      rotate_left
                      · simp only [Act.put, List.setIfInBounds_toArray, List.set_cons_zero, List.set_cons_succ, i64_w, i32_w]
                        rfl
                      refine take_ (i := 16) (N := some 105) (v := ?_) (a' := ?_) #[true, true, true, true, true, true, true, true, true, true, true, true, true, true, true, true, true, true, false, false, false, false, false, false, false, false] rfl rfl (by kernel_rfl) (fun _ _ _ h => h) (Or.inl ⟨by rfl, ?_⟩) hHeld ?_ ?_
                      rotate_left
                      · rintro w' ⟨s0, s1, s2, s3⟩
                        go_simp
                        with_reducible rfl
                      rotate_left
                      · simp only [Act.put, List.setIfInBounds_toArray, List.set_cons_zero, List.set_cons_succ, i64_w, i32_w]
                        rfl
                      refine pure_ (i := 18) (N := some 107) (v := ?_) (a' := ?_) #[true, true, true, true, true, true, true, true, true, true, true, true, true, true, true, true, true, true, true, false, false, false, false, false, false, false] rfl rfl (by kernel_rfl) (fun _ _ _ h => h) (Or.inl ⟨by rfl, ?_⟩) ?_ ?_
                      rotate_left
                      · intro w'
                        go_simp
                        with_reducible rfl
                      rotate_left
                      · simp only [Act.put, List.setIfInBounds_toArray, List.set_cons_zero, List.set_cons_succ, i64_w, i32_w]
                        rfl
                      refine take_ (i := 19) (N := some 108) (v := ?_) (a' := ?_) #[true, true, true, true, true, true, true, true, true, true, true, true, true, true, true, true, true, true, true, true, false, false, false, false, false, false] rfl rfl (by kernel_rfl) (fun _ _ _ h => h) (Or.inl ⟨by rfl, ?_⟩) hHeld ?_ ?_
                      rotate_left
                      · rintro w' ⟨s0, s1, s2, s3⟩
                        go_simp
                        with_reducible rfl
                      rotate_left
                      · simp only [Act.put, List.setIfInBounds_toArray, List.set_cons_zero, List.set_cons_succ, i64_w, i32_w]
                        rfl
                      refine pure_ (i := 20) (N := some 109) (v := ?_) (a' := ?_) #[true, true, true, true, true, true, true, true, true, true, true, true, true, true, true, true, true, true, true, true, true, false, false, false, false, false] rfl rfl (by kernel_rfl) (fun _ _ _ h => h) (Or.inl ⟨by rfl, ?_⟩) ?_ ?_
                      rotate_left
                      · intro w'
                        go_simp
                        with_reducible rfl
                      rotate_left
                      · simp only [Act.put, List.setIfInBounds_toArray, List.set_cons_zero, List.set_cons_succ, i64_w, i32_w]
                        rfl
                      refine pure_ (i := 21) (N := some 110) (v := ?_) (a' := ?_) #[true, true, true, true, true, true, true, true, true, true, true, true, true, true, true, true, true, true, true, true, true, true, false, false, false, false] rfl rfl (by kernel_rfl) (fun _ _ _ h => h) (Or.inl ⟨by rfl, ?_⟩) ?_ ?_
                      rotate_left
                      · intro w'
                        go_simp
                        with_reducible rfl
                      rotate_left
                      · simp only [Act.put, List.setIfInBounds_toArray, List.set_cons_zero, List.set_cons_succ, i64_w, i32_w]
                        rfl
                      refine pure_ (i := 22) (N := some 111) (v := ?_) (a' := ?_) #[true, true, true, true, true, true, true, true, true, true, true, true, true, true, true, true, true, true, true, true, true, true, true, false, false, false] rfl rfl (by kernel_rfl) (fun _ _ _ h => h) (Or.inl ⟨by rfl, ?_⟩) ?_ ?_
                      rotate_left
                      · intro w'
                        go_simp
                        with_reducible rfl
                      rotate_left
                      · simp only [Act.put, List.setIfInBounds_toArray, List.set_cons_zero, List.set_cons_succ, i64_w, i32_w]
                        rfl
                      refine pure_ (i := 23) (N := some 112) (v := ?_) (a' := ?_) #[true, true, true, true, true, true, true, true, true, true, true, true, true, true, true, true, true, true, true, true, true, true, true, true, false, false] rfl rfl (by kernel_rfl) (fun _ _ _ h => h) (Or.inl ⟨by rfl, ?_⟩) ?_ ?_
                      rotate_left
                      · intro w'
                        go_simp
                        with_reducible rfl
                      rotate_left
                      · simp only [Act.put, List.setIfInBounds_toArray, List.set_cons_zero, List.set_cons_succ, i64_w, i32_w]
                        rfl
                      refine pure_ (i := 24) (N := some 113) (v := ?_) (a' := ?_) #[true, true, true, true, true, true, true, true, true, true, true, true, true, true, true, true, true, true, true, true, true, true, true, true, true, false] rfl rfl (by kernel_rfl) (fun _ _ _ h => h) (Or.inl ⟨by rfl, ?_⟩) ?_ ?_
                      rotate_left
                      · intro w'
                        go_simp
                        with_reducible rfl
                      rotate_left
                      · simp only [Act.put, List.setIfInBounds_toArray, List.set_cons_zero, List.set_cons_succ, i64_w, i32_w]
                        rfl
                      refine last_ (i := 25) (N := none) #[true, true, true, true, true, true, true, true, true, true, true, true, true, true, true, true, true, true, true, true, true, true, true, true, true, true] rfl rfl (by kernel_rfl) (by decide) (fun K hK => ?_)
                      refine skip_ (w1 := ?_) (by rfl) rfl ?_ ?_
                      rotate_left
                      · go_simp
                        rfl
                      refine hK.out _ _ ?_
                      clear hK K
                      refine done_ (by kernel_rfl) ?_
                      go_wp2
                      go_meet
                      case rel => exact ⟨by have h := HD.out.setok HG.out (decide (rd x6 ((k : Int) - 1) < rd x6 (k : Int))); rw [Bool.true_and]; exact h⟩
                case rest =>
                  clear b0_8 b1_8 b2_8 b3_8 b4_8 b5_8 b6_8 b7_8 c0_8 c1_8 f0_8 f1_8
                  clear H8 z8
                  have H9 := Lib.hid hcut.out
                  clear hcut
                  obtain ⟨b0_9, b1_9, b2_9, b3_9, b4_9, b5_9, b6_9, b7_9⟩ := box8 H9.out.2.2.2
                  have c0_9 := H9.out.c0
                  have c1_9 := H9.out.c1
                  have f0_9 := H9.out.f0
                  have f1_9 := H9.out.f1
                  have z9 := pw_cell_below H9.out.2.1 z6
                  have z1' := pw_cell_below H9.out.2.1 HZ.out
                  go_wp2_with fail
                  refine (signed_any w0 _ g _ (ql, qo && b) (rd x6 (k : Int)) 4 4 rfl (by omega) H9.out.1 H9.out.2.1 (by have := HLR.out; (try dsimp only at *); omega)).mono ?_
                  rintro e10 w10 ⟨rfl, hb10, v10, hw10, hs10⟩
                  have H10 := Lib.hid (H9.out.call HG.out hw10 hb10 hs10)
                  clear b0_9 b1_9 b2_9 b3_9 b4_9 b5_9 b6_9 b7_9 c0_9 c1_9 f0_9 f1_9
                  clear hb10 hw10 hs10 H9
                  obtain ⟨b0_10, b1_10, b2_10, b3_10, b4_10, b5_10, b6_10, b7_10⟩ := box8 H10.out.2.2.2
                  have c0_10 := H10.out.c0
                  have c1_10 := H10.out.c1
                  have f0_10 := H10.out.f0
                  have f1_10 := H10.out.f1
                  go_wp2_with fail
                  refine (signed_any w0 _ g _ (sgnS (rd x6 (k : Int)) 4 (ql, qo && b)) (wrap64 (rd x7 ((k : Int) + 1) - x0)) 4 4 rfl (by omega) H10.out.1 H10.out.2.1 (by have := HLR.out; simp only [sgn_len]; (try dsimp only at *); omega)).mono ?_
                  rintro e11 w11 ⟨rfl, hb11, v11, hw11, hs11⟩
                  have H11 := Lib.hid (H10.out.call HG.out hw11 hb11 hs11)
                  clear b0_10 b1_10 b2_10 b3_10 b4_10 b5_10 b6_10 b7_10 c0_10 c1_10 f0_10 f1_10
                  clear hb11 hw11 hs11 H10
                  have wk := wk_of HLT.out HN.out HL.out
                  have WN := Lib.hid (congrArg (Value.int IntKind.i64) wk)
                  have WM := Lib.hid ((congrArg Int.toNat wk).trans (Int.toNat_natCast _))
                  clear wk
                  go_wp2
                  go_roundw
                  case rel => exact ⟨k + 1, v11, HLT.out, WN.out, ⟨by rw [rows11, HQ.out, HBB.out]; exact H11.out⟩⟩
                  case measure => exact ms_val HLT.out WN.out
              · obtain rfl : k = N := by omega
                have d2 : decide ((k : Int) < (k : Int)) = false := decide_eq_false (by omega)
                as_aux_lemma =>
                go_wp2
                go_end0
                rw [HC.out, hN]
                exact HS.out.post
end Go.Proofs.Ytfnjbmpolggdeaa.CW
end
section
namespace Go.Proofs.Ytfnjbmpolggdeaa.CW
open Go.RowKit Go.Lib Go.Proofs.YtfnjbmpolggdeaaW.PrintWords Go.Proofs.YtfnjbmpolggdeaaW.PrintLast Go.Proofs.YtfnjbmpolggdeaaW.PrintMore
set_option linter.unusedVariables false
set_option linter.unusedSimpArgs false
attribute [local go_sem] max2_int min2_int max_two min_two max_three min_three max_four min_four
def oneF11 (x0 x1 : Int) (x2 : Bool) (x3 x4 x5 : Int) (x6 x7 : List Int) (s : List Nat × Bool) : List Nat × Bool := choS x0 x5 x6 x7 11 (opS x1 x2 s)
set_option maxHeartbeats 8000000 in
set_option maxRecDepth 100000 in
theorem one_f11 (w0 w : World) (g : Nat) (v : Value) (s : List Nat × Bool) (x0 x1 : Int) (x2 : Bool) (x3 x4 x5 : Int) (A6 : Option Addr) (c6 : Nat) (x6 : List Int) (A7 : Option Addr) (c7 : Nat) (x7 : List Int) (hx1 : 0 ≤ x1 ∧ x1 < 256) (hr6 : Kd.C (Kd.int .i64) w0 A6 x6.length x6) (hc6 : x6.length ≤ c6) (hr7 : Kd.C (Kd.int .i64) w0 A7 x7.length x7) (hc7 : x7.length ≤ c7) (hW : BW w0.heap.size w g 114 (ewC s.2) v s.1) (hB : Below w0.heap.size w0 w) (hl : s.1.length + 120 + 8 * x7.length ≤ 140737488355328) :
    Calls Try.prog 79 #[.pointer (some ⟨g, 0, none⟩), .agg #[.int .i64 x0, .int .u8 x1, .bool x2, .int .i64 x3, .int .i64 x4, .int .i64 x5, .slice A6 x6.length c6, .slice A7 x7.length c7], .int .i64 11] w (EncPost w0 w g v (oneF11 x0 x1 x2 x3 x4 x5 x6 x7 s)) := by
  unfold oneF11
  have HX1 := Lib.hid hx1
  have HW := Lib.hid hW
  have HB := Lib.hid hB
  have HL := Lib.hid hl
  clear hx1 hW hB hl
  have H7 := Lib.hid hr7
  clear hr7
  have H6 := Lib.hid hr6
  have HC6 := Lib.hid hc6
  have HC7 := Lib.hid hc7
  clear hr6 hc6 hc7
  cases x2 with
  | false =>
    have H0 := Lib.hid (St.start (c := #[.int .i64 x0, .int .u8 x1, .bool false, .int .i64 x3, .int .i64 x4, .int .i64 x5, .slice A6 x6.length c6, .slice A7 x7.length c7]) HW.out HB.out)
    have HG := Lib.hid (show w.heap.size ≠ g by have := HW.out.lt; omega)
    obtain ⟨b0_0, b1_0, b2_0, b3_0, b4_0, b5_0, b6_0, b7_0⟩ := box8 H0.out.2.2.2
    have c0_0 := H0.out.c0
    have c1_0 := H0.out.c1
    have f0_0 := H0.out.f0
    go_enter Try.func79, Try.ntmps79
    go_wp2_with fail
    generalize w.alloc (.cells #[.int .i64 x0, .int .u8 x1, .bool false, .int .i64 x3, .int .i64 x4, .int .i64 x5, .slice A6 x6.length c6, .slice A7 x7.length c7] 82) = W0 at *
    have ca : ∀ o, (W0.alloc o).cell? ⟨g, 0, none⟩ = some _ := fun o => pw_cell_below (below_alloc (Below.refl _ _) o) c0_0
    have cb : ∀ o, (W0.alloc o).cell? ⟨w.heap.size, 1, none⟩ = some _ := fun o => pw_cell_below (below_alloc (Below.refl _ _) o) b1_0
    go_region_law (first | (refine elem_step (by rfl) (.tmp 22) (.tmp 25) 87 rfl Try.underlying87 w0.heap.size (H0.out.1.below (drewB _)).2.2 rfl x1 1 (by first | rfl | (go_simp; done) | (simp [World.alloc]; done)) (by have := HL.out; omega) (Nat.le_trans H0.out.2.1.size (drewB _).size) ?_ rfl; intro v9 w9 hm9 hg9 hat9; obtain ⟨A9, m9, c9, rfl⟩ := mrow_sl hm9; have k9 := ew_cell hg9 (H0.out.1.below (drewB _)); have k8 := ew_frozen hg9 (H0.out.1.below (drewB _))))
    all_goals
      have H9 := Lib.hid ((H0.out.quiet HG.out (drewB _)).byte HG.out (b := x1.toNat) (by have := HX1.out; omega) hm9 hg9 hat9)
      clear b0_0 b1_0 b2_0 b3_0 b4_0 b5_0 b6_0 b7_0 c0_0 c1_0 f0_0
      clear hm9 hg9 hat9 k9 k8 ca cb H0
      generalize w9.setCell ⟨g, 0, none⟩ _ = W9 at *
      obtain ⟨b0_9, b1_9, b2_9, b3_9, b4_9, b5_9, b6_9, b7_9⟩ := box8 H9.out.2.2.2
      have c0_9 := H9.out.c0
      have c1_9 := H9.out.c1
      have f0_9 := H9.out.f0
      go_wp2_with fail
      refine (choice_11 w0 _ g _ (opS x1 false s) x0 x1 false x3 x4 x5 A6 c6 x6 A7 c7 x7 H6.out HC6.out H7.out HC7.out H9.out.1 H9.out.2.1 (by have := HL.out; simp only [opS, Bool.false_eq_true, ↓reduceIte, List.length_append, List.length_cons, List.length_nil]; omega)).mono ?_
      rintro e10 w10 ⟨rfl, hb10, v10, hw10, hs10⟩
      have H10 := Lib.hid (H9.out.call HG.out hw10 hb10 hs10)
      go_wp2
      go_end0
      exact H10.out.post
  | true =>
    have H0 := Lib.hid (St.start (c := #[.int .i64 x0, .int .u8 x1, .bool true, .int .i64 x3, .int .i64 x4, .int .i64 x5, .slice A6 x6.length c6, .slice A7 x7.length c7]) HW.out HB.out)
    have HG := Lib.hid (show w.heap.size ≠ g by have := HW.out.lt; omega)
    obtain ⟨b0_0, b1_0, b2_0, b3_0, b4_0, b5_0, b6_0, b7_0⟩ := box8 H0.out.2.2.2
    have c0_0 := H0.out.c0
    have c1_0 := H0.out.c1
    have f0_0 := H0.out.f0
    go_enter Try.func79, Try.ntmps79
    go_wp2_with (at_builtin; refine app_e rfl _ _ 87 rfl Try.underlying87 w0.heap.size H0.out.1.2.2 rfl 196 1 (by first | rfl | (go_simp; done) | (simp [World.alloc]; done)) (by have := HL.out; omega) H0.out.2.1.size ?_ rfl; intro v1 w1 hm1 hg1 hat1; obtain ⟨A1, m1, c1, rfl⟩ := mrow_sl hm1; have k0 := ew_cell hg1 H0.out.1; have k1 := ew_frozen hg1 H0.out.1)
    have H1 := Lib.hid (H0.out.byte HG.out (b := 196) rfl hm1 hg1 hat1)
    clear b0_0 b1_0 b2_0 b3_0 b4_0 b5_0 b6_0 b7_0 c0_0 c1_0 f0_0
    clear hm1 hg1 hat1 k0 k1 H0
    generalize w1.setCell ⟨g, 0, none⟩ _ = W1 at *
    obtain ⟨b0_1, b1_1, b2_1, b3_1, b4_1, b5_1, b6_1, b7_1⟩ := box8 H1.out.2.2.2
    have c0_1 := H1.out.c0
    have c1_1 := H1.out.c1
    have f0_1 := H1.out.f0
    have ca : ∀ o, (W1.alloc o).cell? ⟨g, 0, none⟩ = some _ := fun o => pw_cell_below (below_alloc (Below.refl _ _) o) c0_1
    have cb : ∀ o, (W1.alloc o).cell? ⟨w.heap.size, 1, none⟩ = some _ := fun o => pw_cell_below (below_alloc (Below.refl _ _) o) b1_1
    go_region_law (first | (refine elem_step (by rfl) (.tmp 22) (.tmp 25) 87 rfl Try.underlying87 w0.heap.size (H1.out.1.below (drewB _)).2.2 rfl x1 1 (by first | rfl | (go_simp; done) | (simp [World.alloc]; done)) (by have := HL.out; simp only [List.length_append, List.length_cons, List.length_nil]; omega) (Nat.le_trans H1.out.2.1.size (drewB _).size) ?_ rfl; intro v9 w9 hm9 hg9 hat9; obtain ⟨A9, m9, c9, rfl⟩ := mrow_sl hm9; have k9 := ew_cell hg9 (H1.out.1.below (drewB _)); have k8 := ew_frozen hg9 (H1.out.1.below (drewB _))))
    all_goals
      have H9 := Lib.hid ((H1.out.quiet HG.out (drewB _)).byte HG.out (b := x1.toNat) (by have := HX1.out; omega) hm9 hg9 hat9)
      clear b0_1 b1_1 b2_1 b3_1 b4_1 b5_1 b6_1 b7_1 c0_1 c1_1 f0_1
      clear hm9 hg9 hat9 k9 k8 ca cb H1
      generalize w9.setCell ⟨g, 0, none⟩ _ = W9 at *
      obtain ⟨b0_9, b1_9, b2_9, b3_9, b4_9, b5_9, b6_9, b7_9⟩ := box8 H9.out.2.2.2
      have c0_9 := H9.out.c0
      have c1_9 := H9.out.c1
      have f0_9 := H9.out.f0
      go_wp2_with fail
      refine (choice_11 w0 _ g _ (opS x1 true s) x0 x1 true x3 x4 x5 A6 c6 x6 A7 c7 x7 H6.out HC6.out H7.out HC7.out H9.out.1 H9.out.2.1 (by have := HL.out; simp only [opS, Bool.false_eq_true, ↓reduceIte, List.length_append, List.length_cons, List.length_nil]; omega)).mono ?_
      rintro e10 w10 ⟨rfl, hb10, v10, hw10, hs10⟩
      have H10 := Lib.hid (H9.out.call HG.out hw10 hb10 hs10)
      go_wp2
      go_end0
      exact H10.out.post
end Go.Proofs.Ytfnjbmpolggdeaa.CW
end
section
namespace Go.Proofs.Ytfnjbmpolggdeaa.CW
open Go.RowKit Go.Lib Go.Proofs.YtfnjbmpolggdeaaW.PrintWords Go.Proofs.YtfnjbmpolggdeaaW.PrintLast Go.Proofs.YtfnjbmpolggdeaaW.PrintMore
set_option linter.unusedVariables false
set_option linter.unusedSimpArgs false
def F15 (o : Option Int) : Prop := ∃ v : Int, o = some v ∧ 0 ≤ v ∧ v ≤ 15
theorem F15.mk (v : Int) (h : 0 ≤ v ∧ v ≤ 15) : F15 (some v) := ⟨v, rfl, h⟩
theorem F15.ite {c : Prop} [Decidable c] {a b : Option Int} (ha : F15 a) (hb : F15 b) : F15 (if c then a else b) := by split <;> assumption
theorem form_j2 (k : Nat) (x : Int) (b : Bool) : F15 (code_form.j2 (k + 1) x b) := by
  show F15 (code_form.j2 (k + 1) x b)
  simp only [code_form.j2]
  repeat' first
    | (with_reducible exact F15.mk _ (by decide))
    | (with_reducible refine F15.ite ?_ ?_)
theorem form_j1 (k : Nat) (x : Int) (b : Bool) : F15 (code_form.j1 (k + 2) x b) := by
  show F15 (code_form.j1 ((k + 1) + 1) x b)
  simp only [code_form.j1]
  repeat' first
    | (with_reducible exact F15.mk _ (by decide))
    | (with_reducible exact form_j2 _ _ _)
    | (with_reducible refine F15.ite ?_ ?_)
theorem form_j0 (k : Nat) (x : Int) (b : Bool) : F15 (code_form.j0 (k + 3) x b) := by
  show F15 (code_form.j0 ((k + 2) + 1) x b)
  simp only [code_form.j0]
  repeat' first
    | (with_reducible exact F15.mk _ (by decide))
    | (with_reducible exact form_j1 _ _ _)
    | (with_reducible refine F15.ite ?_ ?_)
theorem form_f (k : Nat) (x : Int) : F15 (code_form.f (k + 3) x) := by
  unfold code_form.f
  repeat' first
    | (with_reducible exact F15.mk _ (by decide))
    | (with_reducible exact form_j0 _ _ _)
    | (with_reducible refine F15.ite ?_ ?_)
def formF (op : Int) : Int := (code_form.f 3 op).getD 0
theorem formF_some (op : Int) : code_form.f 3 op = some (formF op) := by
  obtain ⟨v, h, _⟩ := form_f 0 op
  unfold formF
  rw [h]; rfl
theorem formF_le (op : Int) : 0 ≤ formF op ∧ formF op ≤ 15 := by
  obtain ⟨v, h, h1⟩ := form_f 0 op
  unfold formF
  rw [h]; exact h1
def badF (x : S82) : Bool := (formF x.f1 == 1 || formF x.f1 == 15) || (x.f2 && formF x.f1 != 6 && formF x.f1 != 7)
def oneF (f : Int) (x : S82) (s : List Nat × Bool) : List Nat × Bool :=
  if f = 2 then oneF2 x.f0 x.f1 x.f2 x.f3 x.f4 x.f5 x.f6 x.f7 s else
  if f = 3 then oneF3 x.f0 x.f1 x.f2 x.f3 x.f4 x.f5 x.f6 x.f7 s else
  if f = 4 then oneF4 x.f0 x.f1 x.f2 x.f3 x.f4 x.f5 x.f6 x.f7 s else
  if f = 5 then oneF5 x.f0 x.f1 x.f2 x.f3 x.f4 x.f5 x.f6 x.f7 s else
  if f = 6 then oneF6 x.f0 x.f1 x.f2 x.f3 x.f4 x.f5 x.f6 x.f7 s else
  if f = 7 then oneF7 x.f0 x.f1 x.f2 x.f3 x.f4 x.f5 x.f6 x.f7 s else
  if f = 8 then oneF8 x.f0 x.f1 x.f2 x.f3 x.f4 x.f5 x.f6 x.f7 s else
  if f = 9 then oneF9 x.f0 x.f1 x.f2 x.f3 x.f4 x.f5 x.f6 x.f7 s else
  if f = 10 then oneF10 x.f0 x.f1 x.f2 x.f3 x.f4 x.f5 x.f6 x.f7 s else
  if f = 11 then oneF11 x.f0 x.f1 x.f2 x.f3 x.f4 x.f5 x.f6 x.f7 s else
  if f = 12 then oneF12 x.f0 x.f1 x.f2 x.f3 x.f4 x.f5 x.f6 x.f7 s else
  if f = 13 then oneF13 x.f0 x.f1 x.f2 x.f3 x.f4 x.f5 x.f6 x.f7 s else
  if f = 14 then oneF14 x.f0 x.f1 x.f2 x.f3 x.f4 x.f5 x.f6 x.f7 s else
  oneF0 x.f0 x.f1 x.f2 x.f3 x.f4 x.f5 x.f6 x.f7 s
theorem one_any (w0 w : World) (g : Nat) (v : Value) (s : List Nat × Bool) (x : S82) (A6 : Option Addr) (c6 : Nat) (A7 : Option Addr) (c7 : Nat) (f : Int) (hf : 0 ≤ f ∧ f ≤ 15 ∧ f ≠ 1 ∧ f ≠ 15) (hx1 : 0 ≤ x.f1 ∧ x.f1 < 256)
    (hr6 : Kd.C (Kd.int .i64) w0 A6 x.f6.length x.f6) (hc6 : x.f6.length ≤ c6) (hr7 : Kd.C (Kd.int .i64) w0 A7 x.f7.length x.f7) (hc7 : x.f7.length ≤ c7)
    (hW : BW w0.heap.size w g 114 (ewC s.2) v s.1) (hB : Below w0.heap.size w0 w) (hl : s.1.length + 120 + 8 * x.f7.length ≤ 140737488355328) :
    Calls Try.prog 79 #[.pointer (some ⟨g, 0, none⟩), .agg #[.int .i64 x.f0, .int .u8 x.f1, .bool x.f2, .int .i64 x.f3, .int .i64 x.f4, .int .i64 x.f5, .slice A6 x.f6.length c6, .slice A7 x.f7.length c7], .int .i64 f] w (EncPost w0 w g v (oneF f x s)) := by
  have hl' : s.1.length + 100 ≤ 140737488355328 := by omega
  have h : f = 0 ∨ f = 2 ∨ f = 3 ∨ f = 4 ∨ f = 5 ∨ f = 6 ∨ f = 7 ∨ f = 8 ∨ f = 9 ∨ f = 10 ∨ f = 11 ∨ f = 12 ∨ f = 13 ∨ f = 14 := by omega
  rcases h with rfl | rfl | rfl | rfl | rfl | rfl | rfl | rfl | rfl | rfl | rfl | rfl | rfl | rfl
  · exact one_f0 w0 w g v s x.f0 x.f1 x.f2 x.f3 x.f4 x.f5 A6 c6 x.f6 A7 c7 x.f7 hx1 hW hB hl'
  · exact one_f2 w0 w g v s x.f0 x.f1 x.f2 x.f3 x.f4 x.f5 A6 c6 x.f6 A7 c7 x.f7 hx1 hW hB hl'
  · exact one_f3 w0 w g v s x.f0 x.f1 x.f2 x.f3 x.f4 x.f5 A6 c6 x.f6 A7 c7 x.f7 hx1 hW hB hl'
  · exact one_f4 w0 w g v s x.f0 x.f1 x.f2 x.f3 x.f4 x.f5 A6 c6 x.f6 A7 c7 x.f7 hx1 hW hB hl'
  · exact one_f5 w0 w g v s x.f0 x.f1 x.f2 x.f3 x.f4 x.f5 A6 c6 x.f6 A7 c7 x.f7 hx1 hW hB hl'
  · exact one_f6 w0 w g v s x.f0 x.f1 x.f2 x.f3 x.f4 x.f5 A6 c6 x.f6 A7 c7 x.f7 hx1 hW hB hl'
  · exact one_f7 w0 w g v s x.f0 x.f1 x.f2 x.f3 x.f4 x.f5 A6 c6 x.f6 A7 c7 x.f7 hx1 hW hB hl'
  · exact one_f8 w0 w g v s x.f0 x.f1 x.f2 x.f3 x.f4 x.f5 A6 c6 x.f6 A7 c7 x.f7 hx1 hr7 hW hB hl'
  · exact one_f9 w0 w g v s x.f0 x.f1 x.f2 x.f3 x.f4 x.f5 A6 c6 x.f6 A7 c7 x.f7 hx1 hr7 hW hB hl'
  · exact one_f10 w0 w g v s x.f0 x.f1 x.f2 x.f3 x.f4 x.f5 A6 c6 x.f6 A7 c7 x.f7 hx1 hr6 hc6 hr7 hc7 hW hB hl
  · exact one_f11 w0 w g v s x.f0 x.f1 x.f2 x.f3 x.f4 x.f5 A6 c6 x.f6 A7 c7 x.f7 hx1 hr6 hc6 hr7 hc7 hW hB hl
  · exact one_f12 w0 w g v s x.f0 x.f1 x.f2 x.f3 x.f4 x.f5 A6 c6 x.f6 A7 c7 x.f7 hx1 hW hB hl'
  · exact one_f13 w0 w g v s x.f0 x.f1 x.f2 x.f3 x.f4 x.f5 A6 c6 x.f6 A7 c7 x.f7 hx1 hW hB hl'
  · exact one_f14 w0 w g v s x.f0 x.f1 x.f2 x.f3 x.f4 x.f5 A6 c6 x.f6 A7 c7 x.f7 hx1 hW hB hl'
def tgtG (ks : List Int) (b : List Nat) : List S82 → Nat → ByteArray × Int × Int
  | [], _ => (sb b, 0, 0)
  | x :: r, k => if x.f7.all (fun t => decide (t ∈ ks)) = true then tgtG ks b r (k + 1) else (⟨#[]⟩, 16, k)
def encG (l0 : List S82) : List S82 → Nat → List Nat → ByteArray × Int × Int
  | [], _, b => if l0.length = 0 then (⟨#[]⟩, 12, 0) else tgtG (l0.map (·.f0)) b l0 0
  | x :: r, k, b => if x.f0 ≠ b.length then (⟨#[]⟩, 16, k) else if badF x = true then (⟨#[]⟩, 14, k) else
      if (oneF (formF x.f1) x (b, true)).2 = false then (⟨#[]⟩, 15, k) else if 65535 < (oneF (formF x.f1) x (b, true)).1.length then (⟨#[]⟩, 12, k) else encG l0 r (k + 1) (oneF (formF x.f1) x (b, true)).1
def encOK (l0 : List S82) : Prop := l0.length ≤ 1000000 ∧ ∀ x ∈ l0, (0 ≤ x.f1 ∧ x.f1 < 256) ∧ x.f6.length ≤ 1000000 ∧ x.f7.length ≤ 1000000 ∧ ∀ t ∈ x.f7, (Lit.int .i64 t).wf = true
instance (l0 : List S82) : Decidable (encOK l0) := by unfold encOK; infer_instance
def code_Encode.f (l0 : List S82) : Option (ByteArray × Int × Int) := if encOK l0 then some (encG l0 l0 0 []) else none
abbrev MapOf (W : World) (m n : Nat) (D : DataW Unit) : Prop := W.ownsMap Try.prog 3 (plainElem Try.prog 3) m n D
theorem MapOf.ne_row {W : World} {m n base e k : Nat} {D : DataW Unit} {v : Value} {xs : List Value} (h : MapOf W m n D) (hm : mrow W base e v k xs) : v.ownBlock ≠ some m := by
  intro he
  obtain ⟨cur, fr, hc⟩ := hm.typed _ he
  obtain ⟨es, clock, h0, _⟩ := h
  rw [hc] at h0
  cases h0
theorem MapOf.ne_blk {W : World} {m n g : Nat} {D : DataW Unit} {c : Array Value} {t : TypeId} {fr : Nat × Nat} (h : MapOf W m n D) (hc : W.heap[g]? = some (.cells c t fr)) : g ≠ m := by
  rintro rfl
  obtain ⟨es, clock, h0, _⟩ := h
  rw [hc] at h0
  cases h0
def EL (w W : World) (D : DataW Unit) (n : Nat) (V : Value) (s : List Nat × Bool) : Prop :=
  BW w.heap.size W w.heap.size 114 (ewC s.2) V s.1 ∧ Below w.heap.size w W ∧ MapOf W (w.heap.size + 1) n D
theorem EL.step {w W W1 : World} {D : DataW Unit} {n : Nat} {V : Value} {s : List Nat × Bool} (h : EL w W D n V s) (hb : Below W.heap.size W W1) : EL w W1 D n V s := by
  refine ⟨h.1.below hb, below_then h.2.1 h.2.1.size hb, ?_⟩
  have hlt := h.2.2.lt
  obtain ⟨es, clock, h0, r⟩ := h.2.2
  exact ⟨es, clock, (hb.block _ hlt).trans h0, r⟩
theorem EL.call {w W W1 : World} {D : DataW Unit} {n : Nat} {V V1 : Value} {s s1 : List Nat × Bool} (h : EL w W D n V s)
    (h1 : BW w.heap.size W1 w.heap.size 114 (ewC s1.2) V1 s1.1) (h2 : Below w.heap.size w W1) (h3 : BS W w.heap.size V W1 V1) : EL w W1 D n V1 s1 := by
  refine ⟨h1, h2, ?_⟩
  have hn := h.2.2.ne_row h.1.2.2
  obtain ⟨es, clock, h0, r⟩ := h.2.2
  exact ⟨es, clock, h3.blk h0 (by omega) hn, r⟩
theorem EL.map {w W W1 : World} {D D1 : DataW Unit} {n n1 : Nat} {V : Value} {s : List Nat × Bool} (h : EL w W D n V s) (hm : MapOf W1 (w.heap.size + 1) n1 D1) (hg : W.grownBy W1 (some (w.heap.size + 1))) : EL w W1 D1 n1 V s := by
  refine ⟨⟨(hg.block _ (blk_lt h.1.1) (fun e => by injection e; omega)).trans h.1.1, h.1.2.1, h.1.2.2.kept hg (.inr (h.2.2.ne_row h.1.2.2))⟩, ?_, hm⟩
  exact pw_below_grown h.2.1 _ h.2.1.size hg (fun k hk => by injection hk; omega)
def ES (w W : World) (D : DataW Unit) (n : Nat) (V : Value) (s : List Nat × Bool) (bx : Nat) (c : Array Value) : Prop :=
  EL w W D n V s ∧ W.heap[bx]? = some (.cells c 82 (0, 0)) ∧ bx ≠ w.heap.size
theorem ES.start {w W : World} {D : DataW Unit} {n : Nat} {V : Value} {s : List Nat × Bool} (h : EL w W D n V s) (c : Array Value) : ES w (W.alloc (.cells c 82)) D n V s W.heap.size c :=
  ⟨h.step (below_alloc (Below.refl _ _) _), Array.getElem?_push_size, by have := h.2.2.lt; omega⟩
theorem ES.step {w W W1 : World} {D : DataW Unit} {n bx : Nat} {V : Value} {s : List Nat × Bool} {c : Array Value} (h : ES w W D n V s bx c) (hb : Below W.heap.size W W1) : ES w W1 D n V s bx c :=
  ⟨h.1.step hb, (hb.block _ (blk_lt h.2.1)).trans h.2.1, h.2.2⟩
theorem ES.call {w W W1 : World} {D : DataW Unit} {n bx : Nat} {V V1 : Value} {s s1 : List Nat × Bool} {c : Array Value} (h : ES w W D n V s bx c)
    (h1 : BW w.heap.size W1 w.heap.size 114 (ewC s1.2) V1 s1.1) (h2 : Below w.heap.size w W1) (h3 : BS W w.heap.size V W1 V1) : ES w W1 D n V1 s1 bx c :=
  ⟨h.1.call h1 h2 h3, h3.blk h.2.1 h.2.2 (mrow_nb h.1.1.2.2 h.2.1 (by decide)), h.2.2⟩
theorem ES.map {w W W1 : World} {D D1 : DataW Unit} {n n1 bx : Nat} {V : Value} {s : List Nat × Bool} {c : Array Value} (h : ES w W D n V s bx c) (hm : MapOf W1 (w.heap.size + 1) n1 D1) (hg : W.grownBy W1 (some (w.heap.size + 1))) : ES w W1 D1 n1 V s bx c :=
  ⟨h.1.map hm hg, (hg.block _ (blk_lt h.2.1) (fun e => h.1.2.2.ne_blk h.2.1 (by injection e))).trans h.2.1, h.2.2⟩
theorem EL.c0 {w W : World} {D : DataW Unit} {n : Nat} {V : Value} {s : List Nat × Bool} (h : EL w W D n V s) : W.cell? ⟨w.heap.size, 0, none⟩ = some V := blk_cell h.1.1 0
theorem EL.c1 {w W : World} {D : DataW Unit} {n : Nat} {V : Value} {s : List Nat × Bool} (h : EL w W D n V s) : W.cell? ⟨w.heap.size, 1, none⟩ = some (.bool s.2) := blk_cell h.1.1 1
theorem EL.sl {w W : World} {D : DataW Unit} {n : Nat} {V : Value} {s : List Nat × Bool} (h : EL w W D n V s) : ∃ A c, V = .slice A s.1.length c := mrow_slice h.1.2.2
theorem EL.str {w W : World} {D : DataW Unit} {n : Nat} {V : Value} {s : List Nat × Bool} (h : EL w W D n V s) : (convert 87 9 V).run Try.prog W = .ok (.string (sb s.1)) W :=
  rd_str Try.underlying87 Try.underlying5 Try.underlying9 h.1.2.2.rd rfl
theorem rdI_at {xs : List S82} {k : Nat} (h : k < xs.length) : rd_T82 xs (k : Int) = xs[k] := by
  unfold rd_T82
  rw [Int.toNat_natCast, List.getD_eq_getElem?_getD, List.getElem?_eq_getElem h]; rfl
theorem lawI : Maps.Keyed Try.prog 3 := Maps.int_keyed Try.underlying3
theorem zeroI (w : World) : (zeroValue 3).run Try.prog w = .ok (.int .i64 0) w := by kernel_rfl
theorem wf_nat {n : Nat} (h : n ≤ 1000000) : (Lit.int .i64 (n : Int)).wf = true := by
  have h1 : wrap64 (n : Int) = (n : Int) := by rw [← i64_w, IntKind.wrap_i64]; omega
  rw [← h1]
  exact wrap64_wf _
def Has (D : DataW Unit) (ks : List Int) : Prop := ∀ t : Int, Maps.has D (.int .i64 t) = decide (t ∈ ks)
theorem Has.nil : Has (.map []) [] := fun t => by simp [Maps.has]
theorem Has.put {D : DataW Unit} {ks : List Int} (h : Has D ks) (hD : Maps.IsMap D) (k : Int) (d : DataW Unit) : Has (D.put (.int .i64 k) d) (ks ++ [k]) := by
  intro t
  by_cases ht : t = k
  · subst ht
    have hk : WideAt.IsKeyLit (Lit.int .i64 t) := trivial
    rw [Maps.has_put_same hD hk]
    simp
  · rw [Maps.has_put_other (by intro e; injection e; exact ht ‹_›), h t]
    simp [ht]
end Go.Proofs.Ytfnjbmpolggdeaa.CW
end
section
namespace Go.Proofs.Ytfnjbmpolggdeaa.CW
open Go.RowKit Go.Lib Go.Proofs.YtfnjbmpolggdeaaW.PrintWords Go.Proofs.YtfnjbmpolggdeaaW.PrintLast Go.Proofs.YtfnjbmpolggdeaaW.PrintMore
set_option linter.unusedVariables false
set_option linter.unusedSimpArgs false
structure HS (w0 w W : World) (g : Nat) (s : ByteArray) (t : RdS) : Prop where
  ri : RI w0 W g s t
  dec : W.heap[w.heap.size]? = some (.cells #[.pointer (some ⟨g, 0, none⟩)] 144 (0, 0))
  res : W.heap[w.heap.size + 1]? = some (.cells #[.int .i64 0, .int .u8 0, .bool false, .int .i64 0, .int .i64 0, .int .i64 0, .slice none 0 0, .slice none 0 0] 82 (0, 0))
  kept : w.heap.size ≤ W.heap.size ∧ ∀ i, i < w.heap.size → i ≠ g → W.heap[i]? = w.heap[i]?
namespace HS
variable {w0 w W W1 : World} {g : Nat} {s : ByteArray} {t t1 : RdS}
theorem rd (h : HS w0 w W g s t) (hI : RI w0 W1 g s t1) (hk : KeepBut W W1 g none) : HS w0 w W1 g s t1 where
  ri := hI
  dec := (hk.2 _ (blk_lt h.dec) (fun e => h.ri.1.ne_blk h.dec (by decide) e.symm) (by simp)).trans h.dec
  res := (hk.2 _ (blk_lt h.res) (fun e => h.ri.1.ne_blk h.res (by decide) e.symm) (by simp)).trans h.res
  kept := ⟨Nat.le_trans h.kept.1 hk.1, fun i hi hg => (hk.2 i (Nat.lt_of_lt_of_le hi h.kept.1) hg (by simp)).trans (h.kept.2 i hi hg)⟩
theorem below (h : HS w0 w W g s t) (hb : Below W.heap.size W W1) : HS w0 w W1 g s t := h.rd (h.ri.below hb) (KeepBut.of_below hb g none)
theorem start (hI : RI w0 w g s t) : HS w0 w ((w.alloc (.cells #[.pointer (some ⟨g, 0, none⟩)] 144)).alloc (.cells #[.int .i64 0, .int .u8 0, .bool false, .int .i64 0, .int .i64 0, .int .i64 0, .slice none 0 0, .slice none 0 0] 82)) g s t := by
  have h1 := below_alloc (Below.refl w.heap.size w) (.cells #[.pointer (some ⟨g, 0, none⟩)] 144)
  have h2 := below_alloc (Below.refl (w.alloc (.cells #[.pointer (some ⟨g, 0, none⟩)] 144)).heap.size (w.alloc (.cells #[.pointer (some ⟨g, 0, none⟩)] 144))) (.cells #[.int .i64 0, .int .u8 0, .bool false, .int .i64 0, .int .i64 0, .int .i64 0, .slice none 0 0, .slice none 0 0] 82)
  have e1 : (w.alloc (.cells #[.pointer (some ⟨g, 0, none⟩)] 144)).heap[w.heap.size]? = some (.cells #[.pointer (some ⟨g, 0, none⟩)] 144 (0, 0)) := Array.getElem?_push_size
  have es : (w.alloc (.cells #[.pointer (some ⟨g, 0, none⟩)] 144)).heap.size = w.heap.size + 1 := Array.size_push _
  have hb := below_alloc h1 (.cells #[.int .i64 0, .int .u8 0, .bool false, .int .i64 0, .int .i64 0, .int .i64 0, .slice none 0 0, .slice none 0 0] 82)
  exact {
    ri := hI.below hb
    dec := (h2.block _ (by rw [es]; omega)).trans e1
    res := by rw [← es]; exact Array.getElem?_push_size
    kept := ⟨hb.size, fun i hi _ => hb.block i hi⟩ }
end HS
def X0 (t : RdS) (op : Int) (wd : Bool) : S82 := ⟨t.1, op, wd, 0, 0, 0, [], []⟩
structure OS (w0 w W : World) (g : Nat) (s : ByteArray) (t : RdS) (bx : Nat) (x : S82) (v6 v7 : Value) : Prop where
  cs : CS w0 w W g s t bx x v6 v7
  hs : HS w0 w W g s t
  rb : bx ≠ w.heap.size + 1
  nb : w.heap.size ≤ bx
namespace OS
variable {w0 w W W1 : World} {g bx : Nat} {s : ByteArray} {t t1 : RdS} {x : S82} {v6 v7 v1 : Value}
theorem rd (h : OS w0 w W g s t bx x v6 v7) (hI : RI w0 W1 g s t1) (hk : KeepBut W W1 g none) : OS w0 w W1 g s t1 bx x v6 v7 := ⟨h.cs.rd hI hk, h.hs.rd hI hk, h.rb, h.nb⟩
theorem below (h : OS w0 w W g s t bx x v6 v7) (hb : Below W.heap.size W W1) : OS w0 w W1 g s t bx x v6 v7 := ⟨h.cs.below hb, h.hs.below hb, h.rb, h.nb⟩
theorem drew (h : OS w0 w W g s t bx x v6 v7) : OS w0 w W.drew g s t bx x v6 v7 := h.below (below_drew (Below.refl _ _))
theorem set (h : OS w0 w W g s t bx x v6 v7) (j : Nat) (u : Value) (x1 : S82) (hx : (insC x v6 v7).setIfInBounds j u = insC x1 v6 v7) (h6 : x1.f6 = x.f6) (h7 : x1.f7 = x.f7) : OS w0 w (W.setCell ⟨bx, j, none⟩ u) g s t bx x1 v6 v7 where
  cs := h.cs.set j u x1 hx h6 h7
  hs := {
    ri := (h.cs.set j u x1 hx h6 h7).ri
    dec := (h.cs.set j u x1 hx h6 h7).dec
    res := (Below.heap_setCell W ⟨bx, j, none⟩ u _ (fun e => h.rb e.symm)).trans h.hs.res
    kept := ⟨(h.cs.set j u x1 hx h6 h7).kept.1, fun i hi hg => (h.cs.set j u x1 hx h6 h7).kept.2 i hi hg (by have := h.nb; omega)⟩ }
  rb := h.rb
  nb := h.nb
theorem put7 (h : OS w0 w W g s t bx x v6 (.slice none 0 0)) {y : Int} (hw : w0.heap.size ≤ w.heap.size) :
    OS w0 w ((W.alloc (.cells #[.int .i64 y] 3)).setCell ⟨bx, 7, none⟩ (.slice (some ⟨W.heap.size, 0, none⟩) 1 1)) g s t bx ⟨x.f0, x.f1, x.f2, x.f3, x.f4, x.f5, x.f6, [y]⟩ v6 (.slice (some ⟨W.heap.size, 0, none⟩) 1 1) := by
  have hb := below_alloc (Below.refl W.heap.size W) (.cells #[.int .i64 y] 3)
  have hc := h.cs.put7 (W1 := W.alloc (.cells #[.int .i64 y] 3)) (Below.refl _ _) (v1 := .slice (some ⟨W.heap.size, 0, none⟩) 1 1) (World.grownBy_alloc W _ _) (RW.lit W w.heap.size y h.cs.kept.1) (.inr ⟨_, rfl, Nat.le_refl _⟩) hw
  exact { cs := hc, hs := { ri := hc.ri, dec := hc.dec, res := (Below.heap_setCell _ ⟨bx, 7, none⟩ _ _ (fun e => h.rb e.symm)).trans ((hb.block _ (blk_lt h.hs.res)).trans h.hs.res), kept := ⟨hc.kept.1, fun i hi hg => hc.kept.2 i hi hg (by have := h.nb; omega)⟩ }, rb := h.rb, nb := h.nb }
end OS
def sgnI (s : ByteArray) (x : S82) (t : RdS) (n : Nat) : S82 × RdS := (⟨x.f0, x.f1, x.f2, (sgnR s t n).1, x.f4, x.f5, x.f6, x.f7⟩, (sgnR s t n).2)
def numI (s : ByteArray) (x : S82) (t : RdS) (n : Nat) : S82 × RdS := (⟨x.f0, x.f1, x.f2, (numR s t n).1, x.f4, x.f5, x.f6, x.f7⟩, (numR s t n).2)
def incI (s : ByteArray) (x : S82) (t : RdS) (n : Nat) : S82 × RdS := (⟨x.f0, x.f1, x.f2, (numR s t n).1, (sgnR s (numR s t n).2 n).1, x.f5, x.f6, x.f7⟩, (sgnR s (numR s t n).2 n).2)
def tgtI (s : ByteArray) (x : S82) (t : RdS) (n : Nat) : S82 × RdS := (⟨x.f0, x.f1, x.f2, x.f3, x.f4, x.f5, x.f6, [wrap64 (x.f0 + (sgnR s t n).1)]⟩, (sgnR s t n).2)
def bodyD (s : ByteArray) (x : S82) (f : Int) (t : RdS) : S82 × RdS :=
  if f = 1 then (x, failR t 14 x.f0) else
  if f = 2 then sgnI s x t 1 else
  if f = 3 then sgnI s x t 2 else
  if f = 4 then numI s x t 1 else
  if f = 5 then numI s x t 2 else
  if f = 6 then numI s x t (if x.f2 then 2 else 1) else
  if f = 7 then incI s x t (if x.f2 then 2 else 1) else
  if f = 8 then tgtI s x t 2 else
  if f = 9 then tgtI s x t 4 else moreD s x f t
def oneD (s : ByteArray) (t : RdS) : S82 × RdS :=
  if formF (numR s t 1).1 = 15 then
    if formF (numR s (numR s t 1).2 1).1 = 6 ∨ formF (numR s (numR s t 1).2 1).1 = 7 then bodyD s (X0 t (numR s (numR s t 1).2 1).1 true) (formF (numR s (numR s t 1).2 1).1) (numR s (numR s t 1).2 1).2
    else (X0 t (numR s (numR s t 1).2 1).1 true, failR (numR s (numR s t 1).2 1).2 14 t.1)
  else bodyD s (X0 t (numR s t 1).1 false) (formF (numR s t 1).1) (numR s t 1).2
def OnePost (w0 w : World) (g : Nat) (s : ByteArray) (p : S82 × RdS) (e : Ending) (w' : World) : Prop :=
  ∃ v6 v7, e = .returned (.agg (insC p.1 v6 v7)) ∧ RI w0 w' g s p.2 ∧ RW w' w.heap.size v6 p.1.f6 ∧ RW w' w.heap.size v7 p.1.f7 ∧ KeepBut w w' g none
theorem fill8 {W : World} {b ty : Nat} {c0 c1 c2 c3 c4 c5 c6 c7 : Value} (h : W.heap[b]? = some (.cells #[c0, c1, c2, c3, c4, c5, c6, c7] ty (0, 0))) (v0 v1 v2 v3 v4 v5 v6 v7 : Value) :
    (∃ u, W.cell? ⟨b, 0, none⟩ = some u) ∧ W.frozen? ⟨b, 0, none⟩ = false ∧ (∃ u, (W.setCell ⟨b, 0, none⟩ v0).cell? ⟨b, 1, none⟩ = some u) ∧ (W.setCell ⟨b, 0, none⟩ v0).frozen? ⟨b, 1, none⟩ = false ∧ (∃ u, ((W.setCell ⟨b, 0, none⟩ v0).setCell ⟨b, 1, none⟩ v1).cell? ⟨b, 2, none⟩ = some u) ∧ ((W.setCell ⟨b, 0, none⟩ v0).setCell ⟨b, 1, none⟩ v1).frozen? ⟨b, 2, none⟩ = false ∧ (∃ u, (((W.setCell ⟨b, 0, none⟩ v0).setCell ⟨b, 1, none⟩ v1).setCell ⟨b, 2, none⟩ v2).cell? ⟨b, 3, none⟩ = some u) ∧ (((W.setCell ⟨b, 0, none⟩ v0).setCell ⟨b, 1, none⟩ v1).setCell ⟨b, 2, none⟩ v2).frozen? ⟨b, 3, none⟩ = false ∧ (∃ u, ((((W.setCell ⟨b, 0, none⟩ v0).setCell ⟨b, 1, none⟩ v1).setCell ⟨b, 2, none⟩ v2).setCell ⟨b, 3, none⟩ v3).cell? ⟨b, 4, none⟩ = some u) ∧ ((((W.setCell ⟨b, 0, none⟩ v0).setCell ⟨b, 1, none⟩ v1).setCell ⟨b, 2, none⟩ v2).setCell ⟨b, 3, none⟩ v3).frozen? ⟨b, 4, none⟩ = false ∧ (∃ u, (((((W.setCell ⟨b, 0, none⟩ v0).setCell ⟨b, 1, none⟩ v1).setCell ⟨b, 2, none⟩ v2).setCell ⟨b, 3, none⟩ v3).setCell ⟨b, 4, none⟩ v4).cell? ⟨b, 5, none⟩ = some u) ∧ (((((W.setCell ⟨b, 0, none⟩ v0).setCell ⟨b, 1, none⟩ v1).setCell ⟨b, 2, none⟩ v2).setCell ⟨b, 3, none⟩ v3).setCell ⟨b, 4, none⟩ v4).frozen? ⟨b, 5, none⟩ = false ∧ (∃ u, ((((((W.setCell ⟨b, 0, none⟩ v0).setCell ⟨b, 1, none⟩ v1).setCell ⟨b, 2, none⟩ v2).setCell ⟨b, 3, none⟩ v3).setCell ⟨b, 4, none⟩ v4).setCell ⟨b, 5, none⟩ v5).cell? ⟨b, 6, none⟩ = some u) ∧ ((((((W.setCell ⟨b, 0, none⟩ v0).setCell ⟨b, 1, none⟩ v1).setCell ⟨b, 2, none⟩ v2).setCell ⟨b, 3, none⟩ v3).setCell ⟨b, 4, none⟩ v4).setCell ⟨b, 5, none⟩ v5).frozen? ⟨b, 6, none⟩ = false ∧ (∃ u, (((((((W.setCell ⟨b, 0, none⟩ v0).setCell ⟨b, 1, none⟩ v1).setCell ⟨b, 2, none⟩ v2).setCell ⟨b, 3, none⟩ v3).setCell ⟨b, 4, none⟩ v4).setCell ⟨b, 5, none⟩ v5).setCell ⟨b, 6, none⟩ v6).cell? ⟨b, 7, none⟩ = some u) ∧ (((((((W.setCell ⟨b, 0, none⟩ v0).setCell ⟨b, 1, none⟩ v1).setCell ⟨b, 2, none⟩ v2).setCell ⟨b, 3, none⟩ v3).setCell ⟨b, 4, none⟩ v4).setCell ⟨b, 5, none⟩ v5).setCell ⟨b, 6, none⟩ v6).frozen? ⟨b, 7, none⟩ = false ∧
    ((((((((W.setCell ⟨b, 0, none⟩ v0).setCell ⟨b, 1, none⟩ v1).setCell ⟨b, 2, none⟩ v2).setCell ⟨b, 3, none⟩ v3).setCell ⟨b, 4, none⟩ v4).setCell ⟨b, 5, none⟩ v5).setCell ⟨b, 6, none⟩ v6).setCell ⟨b, 7, none⟩ v7).heap[b]? = some (.cells #[v0, v1, v2, v3, v4, v5, v6, v7] ty (0, 0)) ∧ (∀ k, k ≠ b → ((((((((W.setCell ⟨b, 0, none⟩ v0).setCell ⟨b, 1, none⟩ v1).setCell ⟨b, 2, none⟩ v2).setCell ⟨b, 3, none⟩ v3).setCell ⟨b, 4, none⟩ v4).setCell ⟨b, 5, none⟩ v5).setCell ⟨b, 6, none⟩ v6).setCell ⟨b, 7, none⟩ v7).heap[k]? = W.heap[k]?) ∧ ((((((((W.setCell ⟨b, 0, none⟩ v0).setCell ⟨b, 1, none⟩ v1).setCell ⟨b, 2, none⟩ v2).setCell ⟨b, 3, none⟩ v3).setCell ⟨b, 4, none⟩ v4).setCell ⟨b, 5, none⟩ v5).setCell ⟨b, 6, none⟩ v6).setCell ⟨b, 7, none⟩ v7).heap.size = W.heap.size := by
  have s1 : (W.setCell ⟨b, 0, none⟩ v0).heap[b]? = some (.cells #[v0, c1, c2, c3, c4, c5, c6, c7] ty (0, 0)) := blk_set h 0 v0
  have s2 : ((W.setCell ⟨b, 0, none⟩ v0).setCell ⟨b, 1, none⟩ v1).heap[b]? = some (.cells #[v0, v1, c2, c3, c4, c5, c6, c7] ty (0, 0)) := blk_set s1 1 v1
  have s3 : (((W.setCell ⟨b, 0, none⟩ v0).setCell ⟨b, 1, none⟩ v1).setCell ⟨b, 2, none⟩ v2).heap[b]? = some (.cells #[v0, v1, v2, c3, c4, c5, c6, c7] ty (0, 0)) := blk_set s2 2 v2
  have s4 : ((((W.setCell ⟨b, 0, none⟩ v0).setCell ⟨b, 1, none⟩ v1).setCell ⟨b, 2, none⟩ v2).setCell ⟨b, 3, none⟩ v3).heap[b]? = some (.cells #[v0, v1, v2, v3, c4, c5, c6, c7] ty (0, 0)) := blk_set s3 3 v3
  have s5 : (((((W.setCell ⟨b, 0, none⟩ v0).setCell ⟨b, 1, none⟩ v1).setCell ⟨b, 2, none⟩ v2).setCell ⟨b, 3, none⟩ v3).setCell ⟨b, 4, none⟩ v4).heap[b]? = some (.cells #[v0, v1, v2, v3, v4, c5, c6, c7] ty (0, 0)) := blk_set s4 4 v4
  have s6 : ((((((W.setCell ⟨b, 0, none⟩ v0).setCell ⟨b, 1, none⟩ v1).setCell ⟨b, 2, none⟩ v2).setCell ⟨b, 3, none⟩ v3).setCell ⟨b, 4, none⟩ v4).setCell ⟨b, 5, none⟩ v5).heap[b]? = some (.cells #[v0, v1, v2, v3, v4, v5, c6, c7] ty (0, 0)) := blk_set s5 5 v5
  have s7 : (((((((W.setCell ⟨b, 0, none⟩ v0).setCell ⟨b, 1, none⟩ v1).setCell ⟨b, 2, none⟩ v2).setCell ⟨b, 3, none⟩ v3).setCell ⟨b, 4, none⟩ v4).setCell ⟨b, 5, none⟩ v5).setCell ⟨b, 6, none⟩ v6).heap[b]? = some (.cells #[v0, v1, v2, v3, v4, v5, v6, c7] ty (0, 0)) := blk_set s6 6 v6
  have s8 : ((((((((W.setCell ⟨b, 0, none⟩ v0).setCell ⟨b, 1, none⟩ v1).setCell ⟨b, 2, none⟩ v2).setCell ⟨b, 3, none⟩ v3).setCell ⟨b, 4, none⟩ v4).setCell ⟨b, 5, none⟩ v5).setCell ⟨b, 6, none⟩ v6).setCell ⟨b, 7, none⟩ v7).heap[b]? = some (.cells #[v0, v1, v2, v3, v4, v5, v6, v7] ty (0, 0)) := blk_set s7 7 v7
  refine ⟨⟨_, blk_cell h 0⟩, blk_frozen h 0, ⟨_, blk_cell s1 1⟩, blk_frozen s1 1, ⟨_, blk_cell s2 2⟩, blk_frozen s2 2, ⟨_, blk_cell s3 3⟩, blk_frozen s3 3, ⟨_, blk_cell s4 4⟩, blk_frozen s4 4, ⟨_, blk_cell s5 5⟩, blk_frozen s5 5, ⟨_, blk_cell s6 6⟩, blk_frozen s6 6, ⟨_, blk_cell s7 7⟩, blk_frozen s7 7, s8, fun k hk => ?_, ?_⟩
  · exact (Below.heap_setCell (((((((W.setCell ⟨b, 0, none⟩ v0).setCell ⟨b, 1, none⟩ v1).setCell ⟨b, 2, none⟩ v2).setCell ⟨b, 3, none⟩ v3).setCell ⟨b, 4, none⟩ v4).setCell ⟨b, 5, none⟩ v5).setCell ⟨b, 6, none⟩ v6) ⟨b, 7, none⟩ v7 k hk).trans ((Below.heap_setCell ((((((W.setCell ⟨b, 0, none⟩ v0).setCell ⟨b, 1, none⟩ v1).setCell ⟨b, 2, none⟩ v2).setCell ⟨b, 3, none⟩ v3).setCell ⟨b, 4, none⟩ v4).setCell ⟨b, 5, none⟩ v5) ⟨b, 6, none⟩ v6 k hk).trans ((Below.heap_setCell (((((W.setCell ⟨b, 0, none⟩ v0).setCell ⟨b, 1, none⟩ v1).setCell ⟨b, 2, none⟩ v2).setCell ⟨b, 3, none⟩ v3).setCell ⟨b, 4, none⟩ v4) ⟨b, 5, none⟩ v5 k hk).trans ((Below.heap_setCell ((((W.setCell ⟨b, 0, none⟩ v0).setCell ⟨b, 1, none⟩ v1).setCell ⟨b, 2, none⟩ v2).setCell ⟨b, 3, none⟩ v3) ⟨b, 4, none⟩ v4 k hk).trans ((Below.heap_setCell (((W.setCell ⟨b, 0, none⟩ v0).setCell ⟨b, 1, none⟩ v1).setCell ⟨b, 2, none⟩ v2) ⟨b, 3, none⟩ v3 k hk).trans ((Below.heap_setCell ((W.setCell ⟨b, 0, none⟩ v0).setCell ⟨b, 1, none⟩ v1) ⟨b, 2, none⟩ v2 k hk).trans ((Below.heap_setCell (W.setCell ⟨b, 0, none⟩ v0) ⟨b, 1, none⟩ v1 k hk).trans ((Below.heap_setCell W ⟨b, 0, none⟩ v0 k hk))))))))
  · simp [World.setCell]
theorem HS.nx {w0 w W w2 : World} {g : Nat} {s : ByteArray} {t : RdS} (h : HS w0 w W g s t) (hk : KeepBut (W.alloc (.cells #[.int .i64 0, .int .u8 0, .bool false, .int .i64 0, .int .i64 0, .int .i64 0, .slice none 0 0, .slice none 0 0] 82)) w2 g none) : w2.heap[W.heap.size]? = some (.cells #[.int .i64 0, .int .u8 0, .bool false, .int .i64 0, .int .i64 0, .int .i64 0, .slice none 0 0, .slice none 0 0] 82 (0, 0)) := by
  have e1 : (W.alloc (.cells #[.int .i64 0, .int .u8 0, .bool false, .int .i64 0, .int .i64 0, .int .i64 0, .slice none 0 0, .slice none 0 0] 82)).heap[W.heap.size]? = some (.cells #[.int .i64 0, .int .u8 0, .bool false, .int .i64 0, .int .i64 0, .int .i64 0, .slice none 0 0, .slice none 0 0] 82 (0, 0)) := Array.getElem?_push_size
  exact (hk.2 _ (blk_lt e1) (fun e => (h.below (below_alloc (Below.refl _ _) (.cells #[.int .i64 0, .int .u8 0, .bool false, .int .i64 0, .int .i64 0, .int .i64 0, .slice none 0 0, .slice none 0 0] 82))).ri.1.ne_blk e1 (by decide) e.symm) (by simp)).trans e1
theorem HS.nk {w0 w W w2 : World} {g b : Nat} {s : ByteArray} {t : RdS} (h : HS w0 w W g s t) (hb : W.heap[b]? = some (.cells #[.int .i64 0, .int .u8 0, .bool false, .int .i64 0, .int .i64 0, .int .i64 0, .slice none 0 0, .slice none 0 0] 82 (0, 0))) (hk : KeepBut W w2 g none) : w2.heap[b]? = some (.cells #[.int .i64 0, .int .u8 0, .bool false, .int .i64 0, .int .i64 0, .int .i64 0, .slice none 0 0, .slice none 0 0] 82 (0, 0)) :=
  (hk.2 _ (blk_lt hb) (fun e => h.ri.1.ne_blk hb (by decide) e.symm) (by simp)).trans hb
theorem HS.first {w0 w W : World} {g b : Nat} {s : ByteArray} {t : RdS} (h : HS w0 w W g s t) (hb : W.heap[b]? = some (.cells #[.int .i64 0, .int .u8 0, .bool false, .int .i64 0, .int .i64 0, .int .i64 0, .slice none 0 0, .slice none 0 0] 82 (0, 0))) (hbw : w.heap.size ≤ b) (hb1 : b ≠ w.heap.size + 1) (hw : w0.heap.size ≤ w.heap.size) (a op : Int) :
    OS w0 w (((((((((W.setCell ⟨b, 0, none⟩ (.int .i64 a)).setCell ⟨b, 1, none⟩ (.int .u8 op)).setCell ⟨b, 2, none⟩ (.bool false)).setCell ⟨b, 3, none⟩ (.int .i64 0)).setCell ⟨b, 4, none⟩ (.int .i64 0)).setCell ⟨b, 5, none⟩ (.int .i64 0)).setCell ⟨b, 6, none⟩ (.slice none 0 0)).setCell ⟨b, 7, none⟩ (.slice none 0 0))) g s t b (⟨a, op, false, 0, 0, 0, [], []⟩ : S82) (.slice none 0 0) (.slice none 0 0) := by
  obtain ⟨_, _, _, _, _, _, _, _, _, _, _, _, _, _, _, _, e1, e2, e3⟩ := fill8 hb (.int .i64 a) (.int .u8 op) (.bool false) (.int .i64 0) (.int .i64 0) (.int .i64 0) (.slice none 0 0) (.slice none 0 0)
  have hg : b ≠ g := fun e => h.ri.1.ne_blk hb (by decide) e.symm
  have hd : w.heap.size ≠ b := fun e => by
    have h1 := h.dec
    rw [e, hb] at h1
    injection h1 with h2
    injection h2 with _ h3
    exact absurd h3 (by decide)
  have hk : ∀ i, i < w.heap.size → i ≠ g → _ := fun i hi hgi => (e2 i (by omega)).trans (h.kept.2 i hi hgi)
  have hr : RI w0 (((((((((W.setCell ⟨b, 0, none⟩ (.int .i64 a)).setCell ⟨b, 1, none⟩ (.int .u8 op)).setCell ⟨b, 2, none⟩ (.bool false)).setCell ⟨b, 3, none⟩ (.int .i64 0)).setCell ⟨b, 4, none⟩ (.int .i64 0)).setCell ⟨b, 5, none⟩ (.int .i64 0)).setCell ⟨b, 6, none⟩ (.slice none 0 0)).setCell ⟨b, 7, none⟩ (.slice none 0 0))) g s t := ⟨(((((((h.ri.1.far (fun e => hg e.symm) _).far (fun e => hg e.symm) _).far (fun e => hg e.symm) _).far (fun e => hg e.symm) _).far (fun e => hg e.symm) _).far (fun e => hg e.symm) _).far (fun e => hg e.symm) _).far (fun e => hg e.symm) _, (((((((h.ri.2.setCell (p := ⟨b, 0, none⟩) (Nat.le_trans hw hbw) _).setCell (p := ⟨b, 1, none⟩) (Nat.le_trans hw hbw) _).setCell (p := ⟨b, 2, none⟩) (Nat.le_trans hw hbw) _).setCell (p := ⟨b, 3, none⟩) (Nat.le_trans hw hbw) _).setCell (p := ⟨b, 4, none⟩) (Nat.le_trans hw hbw) _).setCell (p := ⟨b, 5, none⟩) (Nat.le_trans hw hbw) _).setCell (p := ⟨b, 6, none⟩) (Nat.le_trans hw hbw) _).setCell (p := ⟨b, 7, none⟩) (Nat.le_trans hw hbw) _⟩
  exact {
    cs := { ri := hr, dec := (e2 _ hd).trans h.dec, ins := e1, new := Nat.le_trans hw hbw, r6 := RW.nil _ _, r7 := RW.nil _ _, ap := fun k e => by simp [Value.ownBlock] at e, kept := ⟨by rw [e3]; exact h.kept.1, fun i hi hgi _ => hk i hi hgi⟩ }
    hs := { ri := hr, dec := (e2 _ hd).trans h.dec, res := (e2 _ (fun e => hb1 e.symm)).trans h.res, kept := ⟨by rw [e3]; exact h.kept.1, hk⟩ }
    rb := hb1
    nb := hbw }
theorem HS.last {w0 w W : World} {g : Nat} {s : ByteArray} {t : RdS} (h : HS w0 w W g s t) (hw : w0.heap.size ≤ w.heap.size) (a op : Int) :
    OS w0 w (W.alloc (.cells #[.int .i64 a, .int .u8 op, .bool false, .int .i64 0, .int .i64 0, .int .i64 0, .slice none 0 0, .slice none 0 0] 82)) g s t W.heap.size (⟨a, op, false, 0, 0, 0, [], []⟩ : S82) (.slice none 0 0) (.slice none 0 0) := by
  have hb := below_alloc (Below.refl W.heap.size W) (.cells #[.int .i64 a, .int .u8 op, .bool false, .int .i64 0, .int .i64 0, .int .i64 0, .slice none 0 0, .slice none 0 0] 82)
  have h1 := h.below hb
  have hl := blk_lt h.res
  exact {
    cs := { ri := h1.ri, dec := h1.dec, ins := Array.getElem?_push_size, new := by omega, r6 := RW.nil _ _, r7 := RW.nil _ _, ap := fun k e => by simp [Value.ownBlock] at e, kept := ⟨h1.kept.1, fun i hi hgi _ => h1.kept.2 i hi hgi⟩ }
    hs := h1
    rb := by omega
    nb := by omega }
structure OE (w0 w W : World) (g : Nat) (s : ByteArray) (t : RdS) (bx : Nat) (x : S82) (v6 v7 : Value) : Prop where
  ri : RI w0 W g s t
  ins : W.heap[bx]? = some (.cells (insC x v6 v7) 82 (0, 0))
  res : W.heap[w.heap.size + 1]? = some (.cells #[.int .i64 0, .int .u8 0, .bool false, .int .i64 0, .int .i64 0, .int .i64 0, .slice none 0 0, .slice none 0 0] 82 (0, 0))
  r6 : RW W w.heap.size v6 x.f6
  r7 : RW W w.heap.size v7 x.f7
  kept : w.heap.size ≤ W.heap.size ∧ ∀ i, i < w.heap.size → i ≠ g → W.heap[i]? = w.heap[i]?
theorem OS.oe {w0 w W : World} {g bx : Nat} {s : ByteArray} {t : RdS} {x : S82} {v6 v7 : Value} (h : OS w0 w W g s t bx x v6 v7) : OE w0 w W g s t bx x v6 v7 := ⟨h.cs.ri, h.cs.ins, h.hs.res, h.cs.r6, h.cs.r7, h.hs.kept⟩
theorem OS.more {w0 w W W1 : World} {g bx : Nat} {s : ByteArray} {t t1 : RdS} {x x1 : S82} {v6 v7 u6 u7 : Value} (h : OS w0 w W g s t bx x v6 v7) (k : XS w0 W W1 g s t1 bx x1 u6 u7) : OE w0 w W1 g s t1 bx x1 u6 u7 where
  ri := k.ri
  ins := k.ins
  res := (k.kept.2 _ (blk_lt h.hs.res) (fun e => h.hs.ri.1.ne_blk h.hs.res (by decide) e.symm) (fun e => h.rb e.symm)).trans h.hs.res
  r6 := Kd.R_lower k.r6 h.hs.kept.1
  r7 := Kd.R_lower k.r7 h.hs.kept.1
  kept := ⟨Nat.le_trans h.hs.kept.1 k.kept.1, fun i hi hg => (k.kept.2 i (Nat.lt_of_lt_of_le hi h.hs.kept.1) hg (by have := h.nb; omega)).trans (h.hs.kept.2 i hi hg)⟩
theorem OE.fin {w0 w W : World} {g bx : Nat} {s : ByteArray} {t : RdS} {x : S82} {v6 v7 : Value} (h : OE w0 w W g s t bx x v6 v7) (hw : w0.heap.size ≤ w.heap.size) :
    ((((((((W.setCell ⟨w.heap.size + 1, 0, none⟩ (.int .i64 x.f0)).setCell ⟨w.heap.size + 1, 1, none⟩ (.int .u8 x.f1)).setCell ⟨w.heap.size + 1, 2, none⟩ (.bool x.f2)).setCell ⟨w.heap.size + 1, 3, none⟩ (.int .i64 x.f3)).setCell ⟨w.heap.size + 1, 4, none⟩ (.int .i64 x.f4)).setCell ⟨w.heap.size + 1, 5, none⟩ (.int .i64 x.f5)).setCell ⟨w.heap.size + 1, 6, none⟩ v6).setCell ⟨w.heap.size + 1, 7, none⟩ v7).heap[w.heap.size + 1]? = some (.cells (insC x v6 v7) 82 (0, 0)) ∧ RI w0 ((((((((W.setCell ⟨w.heap.size + 1, 0, none⟩ (.int .i64 x.f0)).setCell ⟨w.heap.size + 1, 1, none⟩ (.int .u8 x.f1)).setCell ⟨w.heap.size + 1, 2, none⟩ (.bool x.f2)).setCell ⟨w.heap.size + 1, 3, none⟩ (.int .i64 x.f3)).setCell ⟨w.heap.size + 1, 4, none⟩ (.int .i64 x.f4)).setCell ⟨w.heap.size + 1, 5, none⟩ (.int .i64 x.f5)).setCell ⟨w.heap.size + 1, 6, none⟩ v6).setCell ⟨w.heap.size + 1, 7, none⟩ v7) g s t ∧ RW ((((((((W.setCell ⟨w.heap.size + 1, 0, none⟩ (.int .i64 x.f0)).setCell ⟨w.heap.size + 1, 1, none⟩ (.int .u8 x.f1)).setCell ⟨w.heap.size + 1, 2, none⟩ (.bool x.f2)).setCell ⟨w.heap.size + 1, 3, none⟩ (.int .i64 x.f3)).setCell ⟨w.heap.size + 1, 4, none⟩ (.int .i64 x.f4)).setCell ⟨w.heap.size + 1, 5, none⟩ (.int .i64 x.f5)).setCell ⟨w.heap.size + 1, 6, none⟩ v6).setCell ⟨w.heap.size + 1, 7, none⟩ v7) w.heap.size v6 x.f6 ∧ RW ((((((((W.setCell ⟨w.heap.size + 1, 0, none⟩ (.int .i64 x.f0)).setCell ⟨w.heap.size + 1, 1, none⟩ (.int .u8 x.f1)).setCell ⟨w.heap.size + 1, 2, none⟩ (.bool x.f2)).setCell ⟨w.heap.size + 1, 3, none⟩ (.int .i64 x.f3)).setCell ⟨w.heap.size + 1, 4, none⟩ (.int .i64 x.f4)).setCell ⟨w.heap.size + 1, 5, none⟩ (.int .i64 x.f5)).setCell ⟨w.heap.size + 1, 6, none⟩ v6).setCell ⟨w.heap.size + 1, 7, none⟩ v7) w.heap.size v7 x.f7 ∧ KeepBut w ((((((((W.setCell ⟨w.heap.size + 1, 0, none⟩ (.int .i64 x.f0)).setCell ⟨w.heap.size + 1, 1, none⟩ (.int .u8 x.f1)).setCell ⟨w.heap.size + 1, 2, none⟩ (.bool x.f2)).setCell ⟨w.heap.size + 1, 3, none⟩ (.int .i64 x.f3)).setCell ⟨w.heap.size + 1, 4, none⟩ (.int .i64 x.f4)).setCell ⟨w.heap.size + 1, 5, none⟩ (.int .i64 x.f5)).setCell ⟨w.heap.size + 1, 6, none⟩ v6).setCell ⟨w.heap.size + 1, 7, none⟩ v7) g none := by
  obtain ⟨_, _, _, _, _, _, _, _, _, _, _, _, _, _, _, _, e1, e2, e3⟩ := fill8 h.res (.int .i64 x.f0) (.int .u8 x.f1) (.bool x.f2) (.int .i64 x.f3) (.int .i64 x.f4) (.int .i64 x.f5) v6 v7
  have hg : g ≠ w.heap.size + 1 := fun e => h.ri.1.ne_blk h.res (by decide) e
  have hbw : w0.heap.size ≤ w.heap.size + 1 := by omega
  refine ⟨e1, ⟨(((((((h.ri.1.far hg _).far hg _).far hg _).far hg _).far hg _).far hg _).far hg _).far hg _, (((((((h.ri.2.setCell (p := ⟨w.heap.size + 1, 0, none⟩) hbw _).setCell (p := ⟨w.heap.size + 1, 1, none⟩) hbw _).setCell (p := ⟨w.heap.size + 1, 2, none⟩) hbw _).setCell (p := ⟨w.heap.size + 1, 3, none⟩) hbw _).setCell (p := ⟨w.heap.size + 1, 4, none⟩) hbw _).setCell (p := ⟨w.heap.size + 1, 5, none⟩) hbw _).setCell (p := ⟨w.heap.size + 1, 6, none⟩) hbw _).setCell (p := ⟨w.heap.size + 1, 7, none⟩) hbw _⟩, ?_, ?_, ?_⟩
  · exact h.r6.step (fun k e => e2 k (fun he => h.r6.ne h.res (by decide) (by rw [← he]; exact e)))
  · exact h.r7.step (fun k e => e2 k (fun he => h.r7.ne h.res (by decide) (by rw [← he]; exact e)))
  · exact ⟨by rw [e3]; exact h.kept.1, fun i hi hgi _ => (e2 i (by omega)).trans (h.kept.2 i hi hgi)⟩
end Go.Proofs.Ytfnjbmpolggdeaa.CW
end
section
namespace Go.Proofs.Ytfnjbmpolggdeaa.CW
open Go.RowKit Go.Lib Go.Proofs.YtfnjbmpolggdeaaW.PrintWords Go.Proofs.YtfnjbmpolggdeaaW.PrintLast Go.Proofs.YtfnjbmpolggdeaaW.PrintMore
set_option linter.unusedVariables false
set_option linter.unusedSimpArgs false
theorem bigB_numB : ∀ (n : Nat) (l : List Nat), l.length = n → (∀ b ∈ l, b < 256) → bigB (numB l) n = l := by
  intro n
  induction n with
  | zero => intro l hl _; rw [List.length_eq_zero_iff.1 hl]; rfl
  | succ n ih =>
    intro l hl hb
    obtain ⟨a, b, rfl⟩ : ∃ a b, l = a ++ [b] := ⟨l.dropLast, l.getLast (by intro h; rw [h] at hl; simp at hl), (List.dropLast_concat_getLast _).symm⟩
    rw [List.length_append, List.length_singleton] at hl
    have h1 : b < 256 := hb b (by simp)
    rw [numB_snoc]
    show bigB ((numB a * 256 + b) / 256) n ++ [(numB a * 256 + b) % 256] = _
    rw [show (numB a * 256 + b) / 256 = numB a by omega, show (numB a * 256 + b) % 256 = b by omega, ih a (by omega) (fun c hc => hb c (by simp [hc]))]
theorem bigB_add : ∀ (n x k : Nat), bigB (x + 256 ^ n * k) n = bigB x n := by
  intro n
  induction n with
  | zero => intro x k; rfl
  | succ n ih =>
    intro x k
    have e : 256 ^ (n + 1) * k = 256 * (256 ^ n * k) := by rw [Nat.pow_succ]; ac_rfl
    show bigB ((x + 256 ^ (n + 1) * k) / 256) n ++ [(x + 256 ^ (n + 1) * k) % 256] = bigB (x / 256) n ++ [x % 256]
    rw [e, Nat.add_mul_div_left _ _ (by decide), Nat.add_mul_mod_self_left, ih]
theorem U64_eq (x : Int) : U64 x = (x % 18446744073709551616).toNat := by unfold U64; rw [Go.IntKind.wrap_u64]
theorem wrap_id {x : Int} (h : -9223372036854775808 ≤ x ∧ x < 9223372036854775808) : wrap64 x = x := by unfold wrap64; omega
def preD (s : ByteArray) (t : RdS) : List Nat := (bs s).take t.1.toNat
theorem pre_len {s : ByteArray} {t : RdS} (h : OKR s t) : ((preD s t).length : Int) = t.1 := by
  obtain ⟨h0, h1, h2⟩ := h
  unfold preD
  rw [List.length_take, bs_length]; omega
theorem numOK {s : ByteArray} {t : RdS} {n : Nat} (hn : n ≤ 4) (ht : OKR s t) (h : (numR s t n).2.2.1 = 0) :
    t.2.1 = 0 ∧ (numR s t n).2.1 = t.1 + n ∧ 0 ≤ (numR s t n).1 ∧ (numR s t n).1 < ((256 ^ n : Nat) : Int) ∧ (∀ k : Nat, bigB ((numR s t n).1.toNat + 256 ^ n * k) n = bigB (numR s t n).1.toNat n) ∧ preD s (numR s t n).2 = preD s t ++ bigB (numR s t n).1.toNat n := by
  obtain ⟨h0, h1, h2⟩ := ht
  by_cases h3 : t.2.1 ≠ 0
  · exfalso
    unfold numR at h
    rw [if_pos h3] at h
    exact h3 h
  · by_cases h4 : (n : Int) > (s.size : Int) - t.1
    · exfalso
      unfold numR at h
      rw [if_neg h3, if_pos h4] at h
      exact absurd (show (1 : Int) = 0 from h) (by decide)
    · have e : numR s t n = (((numB (((bs s).drop t.1.toNat).take n) : Nat) : Int), (t.1 + n, t.2.1, t.2.2)) := by unfold numR; rw [if_neg h3, if_neg h4]
      have hl : (((bs s).drop t.1.toNat).take n).length = n := by rw [List.length_take, List.length_drop, bs_length]; omega
      have hb : ∀ b ∈ ((bs s).drop t.1.toNat).take n, b < 256 := fun b hb => bs_lt s b (List.mem_of_mem_drop (List.mem_of_mem_take hb))
      have hlt := numB_lt _ hb
      rw [hl] at hlt
      rw [e]
      refine ⟨Classical.not_not.1 h3, rfl, Int.natCast_nonneg _, Int.ofNat_lt.2 hlt, fun k => bigB_add _ _ _, ?_⟩
      show (bs s).take (t.1 + n).toNat = (bs s).take t.1.toNat ++ bigB (((numB (((bs s).drop t.1.toNat).take n) : Nat) : Int)).toNat n
      rw [Int.toNat_natCast, bigB_numB n _ hl hb, show (t.1 + (n : Int)).toNat = t.1.toNat + n by omega, List.take_add]
def DG (s : ByteArray) (t : RdS) (b : List Nat × Bool) : Prop := b = (preD s t, true)
theorem putG {s : ByteArray} {t : RdS} {n : Nat} {b : List Nat × Bool} {lo hi : Int} (hn : n ≤ 4) (ht : OKR s t) (h : (numR s t n).2.2.1 = 0) (hG : DG s t b) (h1 : lo ≤ (numR s t n).1) (h2 : (numR s t n).1 ≤ hi) :
    DG s (numR s t n).2 (putS (numR s t n).1 n lo hi b) := by
  obtain ⟨a1, a2, a3, a4, a5, a6⟩ := numOK hn ht h
  unfold DG at hG ⊢
  subst hG
  unfold putS
  have e : U64 (numR s t n).1 = (numR s t n).1.toNat := by
    rw [U64_eq]
    have : (256 ^ n : Nat) ≤ 256 ^ 4 := Nat.pow_le_pow_right (by decide) hn
    have : (256 : Nat) ^ 4 = 4294967296 := by decide
    omega
  rw [a6, e, decide_eq_true h1, decide_eq_true h2]
  rfl
theorem unsG {s : ByteArray} {t : RdS} {n : Nat} {b : List Nat × Bool} (hn : n = 1 ∨ n = 2) (ht : OKR s t) (h : (numR s t n).2.2.1 = 0) (hG : DG s t b) : DG s (numR s t n).2 (unsS (numR s t n).1 n b) := by
  obtain ⟨a1, a2, a3, a4, a5, a6⟩ := numOK (by omega) ht h
  refine putG (by omega) ht h hG a3 ?_
  have e : (256 ^ n : Nat) = 2 ^ (8 * n) := by rw [Nat.pow_mul]
  rw [← e]
  omega
theorem sgnG {s : ByteArray} {t : RdS} {n : Nat} {b : List Nat × Bool} (hn : n = 1 ∨ n = 2 ∨ n = 4) (ht : OKR s t) (h : (sgnR s t n).2.2.1 = 0) (hG : DG s t b) : DG s (sgnR s t n).2 (sgnS (sgnR s t n).1 n b) ∧ -2147483648 ≤ (sgnR s t n).1 ∧ (sgnR s t n).1 < 2147483648 := by
  obtain ⟨a1, a2, a3, a4, a5, a6⟩ := numOK (by omega) ht h
  have h6 := a5 (256 ^ (8 - n) - 1)
  have key : ∀ (H F : Nat), 2 ^ (8 * n - 1) = H → 256 ^ n = 2 * H → 256 ^ (8 - n) - 1 = F → 2 * H * (F + 1) = 18446744073709551616 → H ≤ 2147483648 → 1 ≤ H → DG s (sgnR s t n).2 (sgnS (sgnR s t n).1 n b) ∧ -2147483648 ≤ (sgnR s t n).1 ∧ (sgnR s t n).1 < 2147483648 := by
    intro H F e1 e2 e3 e4 e5 e7
    rw [e2, e3] at h6
    rw [e2] at a4
    unfold DG at hG ⊢
    subst hG
    unfold sgnS putS
    rw [e1]
    have hv : (sgnR s t n).1 = if (numR s t n).1 ≥ (H : Int) then (numR s t n).1 - 2 * (H : Int) else (numR s t n).1 := by show signV _ _ = _; unfold signV; rw [e1]
    have ev : (-(H : Int) ≤ (sgnR s t n).1 ∧ (sgnR s t n).1 ≤ (H : Int) - 1) := by rw [hv]; split <;> omega
    have eU : bigB (U64 (sgnR s t n).1) n = bigB (numR s t n).1.toNat n := by
      rw [hv]
      split
      · rw [U64_eq, ← h6]
        congr 1
        have e8 : 2 * H * F = 18446744073709551616 - 2 * H := by rw [Nat.mul_add] at e4; omega
        rw [e8]
        omega
      · rw [U64_eq]
        congr 1
        omega
    refine ⟨?_, by omega, by omega⟩
    show (_ : List Nat × Bool) = (preD s (numR s t n).2, true)
    rw [eU, a6, decide_eq_true ev.1, decide_eq_true ev.2]
    rfl
  rcases hn with rfl | rfl | rfl
  · exact key 128 72057594037927935 (by decide) (by decide) (by decide) (by decide) (by decide) (by decide)
  · exact key 32768 281474976710655 (by decide) (by decide) (by decide) (by decide) (by decide) (by decide)
  · exact key 2147483648 4294967295 (by decide) (by decide) (by decide) (by decide) (by decide) (by decide)
theorem failNo {t : RdS} {e p : Int} (he : e ≠ 0) : (failR t e p).2.1 ≠ 0 := by
  unfold failR
  split
  · exact he
  · assumption
theorem sgnOK {s : ByteArray} {t : RdS} {n : Nat} (hn : n ≤ 4) (ht : OKR s t) (h : (sgnR s t n).2.2.1 = 0) : t.2.1 = 0 ∧ (sgnR s t n).2.1 = t.1 + n := by
  obtain ⟨a1, a2, _⟩ := numOK hn ht h
  exact ⟨a1, a2⟩
theorem failIf {c : Prop} [Decidable c] {t : RdS} {e p : Int} (he : e ≠ 0) (h : (if c then failR t e p else t).2.1 = 0) : ¬ c ∧ (if c then failR t e p else t) = t := by
  by_cases hc : c
  · rw [if_pos hc] at h
    exact absurd h (failNo he)
  · exact ⟨hc, if_neg hc⟩
theorem DG.len {s : ByteArray} {t : RdS} {b : List Nat × Bool} (h : DG s t b) (ht : OKR s t) : (b.1.length : Int) = t.1 := by
  unfold DG at h
  subst h
  exact pre_len ht
theorem padStuck {s : ByteArray} {x0 : Int} : ∀ (k : Nat) {t : RdS}, (padR s x0 k t).2.1 = 0 → OKR s t → t.2.1 = 0
  | 0, t, h, _ => h
  | k + 1, t, h, ht => by
    by_cases hc : t.1 % 4 ≠ 0 ∧ t.2.1 = 0
    · exact hc.2
    · unfold padR at h
      rw [if_neg hc] at h
      exact h
theorem padG {s : ByteArray} {x0 : Int} : ∀ (k : Nat) {t : RdS} {l : List Nat}, padN t.1.toNat ≤ k → (padR s x0 k t).2.1 = 0 → OKR s t → DG s t (l, true) →
    OKR s (padR s x0 k t) ∧ DG s (padR s x0 k t) (l ++ List.replicate (padN l.length) 0, true) ∧ t.1 ≤ (padR s x0 k t).1
  | 0, t, l, hk, h, ht, hG => by
    have h1 : padN l.length = 0 := by
      have := hG.len ht
      have e : l.length = t.1.toNat := by have := ht.1; simp only at *; omega
      rw [e]; omega
    rw [h1]
    refine ⟨ht, ?_, Int.le_refl _⟩
    rw [List.replicate_zero, List.append_nil]
    exact hG
  | k + 1, t, l, hk, h, ht, hG => by
    have hl : (l.length : Int) = t.1 := hG.len ht
    have e : l.length = t.1.toNat := by omega
    by_cases hc : t.1 % 4 ≠ 0 ∧ t.2.1 = 0
    · unfold padR at h ⊢
      rw [if_pos hc] at h ⊢
      have ht' : OKR s (if (numR s t 1).1 ≠ 0 then failR (numR s t 1).2 15 x0 else (numR s t 1).2) := by
        split
        · exact (ht.num 1).fail _ _
        · exact ht.num 1
      have h2 := padStuck k h ht'
      obtain ⟨h3, h4⟩ := failIf (by decide) h2
      rw [h4] at h h2 ⊢
      obtain ⟨a1, a2, a3, a4, a5, a6⟩ := numOK (by decide) ht h2
      have hz : (numR s t 1).1 = 0 := Classical.not_not.1 h3
      have hG1 : DG s (numR s t 1).2 (l ++ [0], true) := by
        unfold DG at hG ⊢
        injection hG with e1 _
        rw [a6, hz, e1]; rfl
      have hp : padN t.1.toNat = padN (t.1 + 1).toNat + 1 := by unfold padN; omega
      have hp2 : padN (numR s t 1).2.1.toNat + 1 = padN t.1.toNat := by rw [a2, hp]; rfl
      obtain ⟨b1, b2, b3⟩ := padG k (t := (numR s t 1).2) (l := l ++ [0]) (by omega) h (ht.num 1) hG1
      refine ⟨b1, ?_, by rw [a2] at b3; omega⟩
      have e5 : (l ++ [0]).length = l.length + 1 := by simp
      have e6 : padN l.length = padN (l ++ [0]).length + 1 := by rw [e5]; unfold padN; unfold padN at hp; omega
      rw [e6, List.replicate_succ]
      rw [List.append_assoc] at b2
      exact b2
    · unfold padR at h ⊢
      rw [if_neg hc] at h ⊢
      have h0 : t.1 % 4 = 0 := by
        apply Classical.byContradiction
        intro hn
        exact hc ⟨hn, h⟩
      have h1 : padN l.length = 0 := by unfold padN; omega
      rw [h1]
      refine ⟨ht, ?_, Int.le_refl _⟩
      simpa using hG
theorem rowsStuck {s : ByteArray} {f : Int} : ∀ (r k : Nat) {x : S82} {t : RdS}, (rowsD s f r k x t).2.2.1 = 0 → OKR s t → t.2.1 = 0
  | 0, k, x, t, h, ht => h
  | r + 1, k, x, t, h, ht => by
    by_cases hc : t.2.1 ≠ 0
    · unfold rowsD at h
      rw [if_pos hc] at h
      exact h
    · exact Classical.not_not.1 hc
theorem rd_app {l r : List Int} {y : Int} {k : Nat} (h : l.length = k) : rd (l ++ y :: r) (k : Int) = y := by
  subst h
  unfold rd
  rw [Int.toNat_natCast, List.getD_eq_getElem?_getD, List.getElem?_append_right (Nat.le_refl _)]
  simp
theorem rd_app0 {l r : List Int} {k : Nat} (h : k < l.length) : rd (l ++ r) (k : Int) = rd l k := by
  unfold rd
  rw [Int.toNat_natCast, List.getD_eq_getElem?_getD, List.getD_eq_getElem?_getD, List.getElem?_append_left h]
theorem tgt_id {x0 v : Int} (h0 : 0 ≤ x0 ∧ x0 ≤ 65535) (h : -2147483648 ≤ v ∧ v < 2147483648) : wrap64 (x0 + v) = x0 + v ∧ wrap64 (wrap64 (x0 + v) - x0) = v := by
  have e : wrap64 (x0 + v) = x0 + v := wrap_id (by omega)
  refine ⟨e, ?_⟩
  rw [e, show x0 + v - x0 = v by omega]
  exact wrap_id (by omega)
theorem rows10G {s : ByteArray} : ∀ (r k : Nat) {x : S82} {t : RdS}, 0 ≤ x.f0 ∧ x.f0 ≤ 65535 → x.f7.length = k + 1 → (rowsD s 10 r k x t).2.2.1 = 0 → OKR s t →
    OKR s (rowsD s 10 r k x t).2 ∧ t.1 ≤ (rowsD s 10 r k x t).2.1 ∧ ((rowsD s 10 r k x t).2.1 = t.1 + 4 * r) ∧ ∃ q, (rowsD s 10 r k x t).1 = ⟨x.f0, x.f1, x.f2, x.f3, x.f4, x.f5, x.f6, x.f7 ++ q⟩ ∧ q.length = r ∧
      ∀ F6 H, DG s t (rowsS x.f0 F6 (x.f7 ++ q) 10 k H) → DG s (rowsD s 10 r k x t).2 (rowsS x.f0 F6 (x.f7 ++ q) 10 (k + r) H)
  | 0, k, x, t, h0, hl, h, ht => ⟨ht, Int.le_refl _, by show t.1 = t.1 + 4 * ((0 : Nat) : Int); omega, [], by simp [rowsD], rfl, fun F6 H hG => hG⟩
  | r + 1, k, x, t, h0, hl, h, ht => by
    have ht0 := rowsStuck (r + 1) k h ht
    unfold rowsD at h ⊢
    rw [if_neg (fun hn => hn ht0), if_neg (by decide)] at h ⊢
    have h2 := rowsStuck r (k + 1) h (ht.sgn 4)
    obtain ⟨b1, b1', b1'', q, b2, b3, b4⟩ := rows10G r (k + 1) (x := ⟨x.f0, x.f1, x.f2, x.f3, x.f4, x.f5, x.f6, x.f7 ++ [wrap64 (x.f0 + (sgnR s t 4).1)]⟩) h0 (by simp [hl]) h (ht.sgn 4)
    obtain ⟨c1, c2⟩ := sgnOK (by decide) ht h2
    refine ⟨b1, by rw [c2] at b1'; omega, by rw [b1'', c2]; omega, wrap64 (x.f0 + (sgnR s t 4).1) :: q, ?_, by simp [b3], fun F6 H hG => ?_⟩
    · rw [b2]; simp
    · have e : x.f7 ++ wrap64 (x.f0 + (sgnR s t 4).1) :: q = (x.f7 ++ [wrap64 (x.f0 + (sgnR s t 4).1)]) ++ q := by simp
      have h5 := b4 F6 H (by
        show DG s _ (rowsS x.f0 F6 ((x.f7 ++ [wrap64 (x.f0 + (sgnR s t 4).1)]) ++ q) 10 (k + 1) H)
        rw [← e]
        have hv := sgnG (.inr (.inr rfl)) ht h2 hG
        show DG s _ (rndS _ _ _ _ k _)
        unfold rndS
        rw [if_neg (by decide), show ((k : Int) + 1) = ((k + 1 : Nat) : Int) by omega, rd_app hl, (tgt_id h0 hv.2).2]
        exact hv.1)
      rw [e, show k + (r + 1) = k + 1 + r by omega]
      exact h5
theorem rows11G {s : ByteArray} : ∀ (r k : Nat) {x : S82} {t : RdS}, 0 ≤ x.f0 ∧ x.f0 ≤ 65535 → x.f7.length = k + 1 → x.f6.length = k → (rowsD s 11 r k x t).2.2.1 = 0 → OKR s t →
    OKR s (rowsD s 11 r k x t).2 ∧ t.1 ≤ (rowsD s 11 r k x t).2.1 ∧ ((rowsD s 11 r k x t).2.1 = t.1 + 8 * r) ∧ ∃ p q, (rowsD s 11 r k x t).1 = ⟨x.f0, x.f1, x.f2, x.f3, x.f4, x.f5, x.f6 ++ p, x.f7 ++ q⟩ ∧ q.length = r ∧ p.length = r ∧
      ∀ H, DG s t (rowsS x.f0 (x.f6 ++ p) (x.f7 ++ q) 11 k H) → DG s (rowsD s 11 r k x t).2 (rowsS x.f0 (x.f6 ++ p) (x.f7 ++ q) 11 (k + r) H)
  | 0, k, x, t, h0, hl, hl6, h, ht => ⟨ht, Int.le_refl _, by show t.1 = t.1 + 8 * ((0 : Nat) : Int); omega, [], [], by simp [rowsD], rfl, rfl, fun H hG => hG⟩
  | r + 1, k, x, t, h0, hl, hl6, h, ht => by
    have ht0 := rowsStuck (r + 1) k h ht
    unfold rowsD at h ⊢
    rw [if_neg (fun hn => hn ht0), if_pos rfl] at h ⊢
    have ho2 : OKR s (if 0 < k ∧ (sgnR s t 4).1 ≤ rd x.f6 ((k : Int) - 1) then failR (sgnR s t 4).2 15 x.f0 else (sgnR s t 4).2) := by
      split
      · exact (ht.sgn 4).fail _ _
      · exact ht.sgn 4
    have h2 := rowsStuck r (k + 1) h (ho2.sgn 4)
    obtain ⟨d1, d2⟩ := sgnOK (by decide) ho2 h2
    obtain ⟨h3, h4⟩ := failIf (by decide) d1
    rw [h4] at h h2 d1 d2 ho2 ⊢
    obtain ⟨b1, b1', b1'', p, q, b2, b3, b3', b4⟩ := rows11G r (k + 1) (x := ⟨x.f0, x.f1, x.f2, x.f3, x.f4, x.f5, x.f6 ++ [(sgnR s t 4).1], x.f7 ++ [wrap64 (x.f0 + (sgnR s (sgnR s t 4).2 4).1)]⟩) h0 (by simp [hl]) (by simp [hl6]) h (ho2.sgn 4)
    obtain ⟨c1, c2⟩ := sgnOK (by decide) ht d1
    refine ⟨b1, by rw [d2, c2] at b1'; omega, by rw [b1'', d2, c2]; omega, (sgnR s t 4).1 :: p, wrap64 (x.f0 + (sgnR s (sgnR s t 4).2 4).1) :: q, ?_, by simp [b3], by simp [b3'], fun H hG => ?_⟩
    · rw [b2]; simp
    · have e : x.f7 ++ wrap64 (x.f0 + (sgnR s (sgnR s t 4).2 4).1) :: q = (x.f7 ++ [wrap64 (x.f0 + (sgnR s (sgnR s t 4).2 4).1)]) ++ q := by simp
      have e6 : x.f6 ++ (sgnR s t 4).1 :: p = (x.f6 ++ [(sgnR s t 4).1]) ++ p := by simp
      have h5 := b4 H (by
        show DG s _ (rowsS x.f0 ((x.f6 ++ [(sgnR s t 4).1]) ++ p) ((x.f7 ++ [wrap64 (x.f0 + (sgnR s (sgnR s t 4).2 4).1)]) ++ q) 11 (k + 1) H)
        rw [← e, ← e6]
        have hv := sgnG (.inr (.inr rfl)) ht d1 hG
        have hw := sgnG (.inr (.inr rfl)) ho2 h2 hv.1
        show DG s _ (rndS _ _ _ _ k _)
        unfold rndS
        rw [if_pos rfl, show ((k : Int) + 1) = ((k + 1 : Nat) : Int) by omega, rd_app hl, (tgt_id h0 hw.2).2, rd_app hl6]
        have hb : ((k : Int) == 0 || decide (rd (x.f6 ++ (sgnR s t 4).1 :: p) ((k : Int) - 1) < (sgnR s t 4).1)) = true := by
          by_cases hk : k = 0
          · subst hk; rfl
          · rw [Bool.or_eq_true]
            right
            rw [show ((k : Int) - 1) = ((k - 1 : Nat) : Int) by omega, rd_app0 (by omega)]
            refine decide_eq_true ?_
            rw [show ((k - 1 : Nat) : Int) = (k : Int) - 1 by omega]
            exact Int.not_le.1 (fun hc => h3 ⟨by omega, hc⟩)
        rw [hb, Bool.and_true]
        exact hw.1)
      rw [e, e6, show k + (r + 1) = k + 1 + r by omega]
      exact h5
def BG (s : ByteArray) (t : RdS) (f : Int) (x : S82) (b : List Nat × Bool) (p : S82 × RdS) : Prop :=
  t.2.1 = 0 ∧ OKR s p.2 ∧ t.1 ≤ p.2.1 ∧ p.1.f0 = x.f0 ∧ p.1.f1 = x.f1 ∧ p.1.f2 = x.f2 ∧ p.1.f6.length ≤ 65535 ∧ p.1.f7.length ≤ 65536 ∧ DG s p.2 (oneF f p.1 b)
theorem rd0 (y : Int) (q : List Int) : rd ([y] ++ q) 0 = y := rfl
theorem tgt0 {s : ByteArray} {t : RdS} {b : List Nat × Bool} (h : DG s t b) : DG s t (tgtS [] 0 b) := by
  unfold DG at h ⊢; subst h; rfl
theorem tgt1 {s : ByteArray} {t : RdS} {y : Int} {b : List Nat × Bool} (h : DG s t b) : DG s t (tgtS [y] 1 b) ∧ (tgtS [y] 1 b).2 = true := by
  unfold DG at h ⊢; subst h; exact ⟨rfl, rfl⟩
theorem one8G {s : ByteArray} {t : RdS} {x : S82} {b : List Nat × Bool} {n : Nat} (hn : n = 2 ∨ n = 4) (h0 : 0 ≤ x.f0 ∧ x.f0 ≤ 65535) (ht : OKR s t) (h : (sgnR s t n).2.2.1 = 0) (hG : DG s t b) :
    DG s (sgnR s t n).2 (if (tgtS [wrap64 (x.f0 + (sgnR s t n).1)] 1 b).2 = true then sgnS (Go.IntKind.i64.wrap (rd [wrap64 (x.f0 + (sgnR s t n).1)] 0 - x.f0)) n (tgtS [wrap64 (x.f0 + (sgnR s t n).1)] 1 b) else tgtS [wrap64 (x.f0 + (sgnR s t n).1)] 1 b) := by
  obtain ⟨g1, g2⟩ := tgt1 (y := wrap64 (x.f0 + (sgnR s t n).1)) hG
  have hv := sgnG (.inr (by omega)) ht h g1
  rw [if_pos g2]
  have e : Go.IntKind.i64.wrap (rd [wrap64 (x.f0 + (sgnR s t n).1)] 0 - x.f0) = (sgnR s t n).1 := (show _ = wrap64 _ by rw [i64_w]; rfl).trans (tgt_id h0 hv.2).2
  rw [e]
  exact hv.1
theorem choG10 {s : ByteArray} {t : RdS} {x : S82} {b : List Nat × Bool} (h0 : 0 ≤ x.f0 ∧ x.f0 ≤ 65535) (h6 : x.f6 = []) (ht : OKR s t) (h : (choD s x 10 t).2.2.1 = 0) (hG : DG s t (opS x.f1 x.f2 b)) : BG s t 10 x b (choD s x 10 t) := by
  obtain ⟨f0, f1, f2, f3, f4, f5, f6, f7⟩ := x
  dsimp only at h0 h6 hG
  subst h6
  unfold choD at h ⊢
  rw [if_pos rfl] at h ⊢
  unfold choD10 at h ⊢
  by_cases hc : (sgnR s (sgnR s (headD s ⟨f0, f1, f2, f3, f4, f5, [], f7⟩ t).2 4).2 4).1 < (sgnR s (headD s ⟨f0, f1, f2, f3, f4, f5, [], f7⟩ t).2 4).1
  · rw [if_pos hc] at h
    exact absurd h (failNo (by decide))
  · rw [if_neg hc] at h ⊢
    unfold headD at h hc ⊢
    dsimp only at h hc ⊢
    generalize hp : padR s f0 4 t = tp at *
    have op : OKR s tp → OKR s (sgnR s tp 4).2 ∧ OKR s (sgnR s (sgnR s tp 4).2 4).2 ∧ OKR s (sgnR s (sgnR s (sgnR s tp 4).2 4).2 4).2 := fun o => ⟨o.sgn 4, (o.sgn 4).sgn 4, ((o.sgn 4).sgn 4).sgn 4⟩
    have hop : OKR s tp := by
      rw [← hp]
      have : ∀ (k : Nat) (t : RdS), OKR s t → OKR s (padR s f0 k t) := by
        intro k
        induction k with
        | zero => intro t h; exact h
        | succ k ih =>
          intro t h
          unfold padR
          split
          · refine ih _ ?_
            split
            · exact (h.num 1).fail _ _
            · exact h.num 1
          · exact h
      exact this 4 t ht
    obtain ⟨o1, o2, o3⟩ := op hop
    have z3 := rowsStuck _ _ h o3
    have z2 := (sgnOK (by decide) o2 z3).1
    have z1 := (sgnOK (by decide) o1 z2).1
    have z0 := (sgnOK (by decide) hop z1).1
    have p1 := (sgnOK (by decide) o2 z3).2
    have p2 := (sgnOK (by decide) o1 z2).2
    have p3 := (sgnOK (by decide) hop z1).2
    have zt := padStuck 4 (by rw [hp]; exact z0) ht
    obtain ⟨c1, c2, c3, q, c4, c5, c6⟩ := rows10G _ 0 (x := ⟨f0, f1, f2, f3, f4, (sgnR s (sgnR s tp 4).2 4).1, [], [wrap64 (f0 + (sgnR s tp 4).1)]⟩) h0 rfl h o3
    have hl : ((opS f1 f2 b).1.length : Int) = t.1 := hG.len ht
    have hG' : DG s t ((opS f1 f2 b).1, true) := by unfold DG at hG ⊢; rw [hG]
    obtain ⟨d1, d2, d3⟩ := padG (s := s) (x0 := f0) 4 (t := t) (l := (opS f1 f2 b).1) (by unfold padN; omega) (by rw [hp]; exact z0) ht hG'
    rw [hp] at d2 d3
    have hb2 : (opS f1 f2 b).2 = true := by unfold DG at hG; rw [hG]
    have e1 := sgnG (.inr (.inr rfl)) hop z1 d2
    have e2 := sgnG (.inr (.inr rfl)) o1 z2 e1.1
    have e3 := sgnG (.inr (.inr rfl)) o2 z3 e2.1
    have hq : (q.length : Int) = (sgnR s (sgnR s (sgnR s tp 4).2 4).2 4).1 - (sgnR s (sgnR s tp 4).2 4).1 + 1 := by rw [c5]; omega
    have hr : 4 * (q.length : Int) ≤ 65535 := by
      have := c1.2.1
      have := c1.2.2
      rw [c5]
      have := o3.1
      omega
    unfold BG
    rw [c4]
    refine ⟨zt, c1, by omega, rfl, rfl, rfl, Nat.zero_le _, by simp; omega, ?_⟩
    show DG s _ (choS f0 (sgnR s (sgnR s tp 4).2 4).1 [] ([wrap64 (f0 + (sgnR s tp 4).1)] ++ q) 10 (opS f1 f2 b))
    unfold choS
    have hlen : ([wrap64 (f0 + (sgnR s tp 4).1)] ++ q).length = q.length + 1 := by simp
    rw [hlen, if_neg (by rintro (h | ⟨_, h⟩ | ⟨h, _⟩) <;> first | omega | exact absurd h (by decide))]
    have hh : headS f0 (sgnR s (sgnR s tp 4).2 4).1 ([wrap64 (f0 + (sgnR s tp 4).1)] ++ q) 10 (opS f1 f2 b) = sgnS (sgnR s (sgnR s (sgnR s tp 4).2 4).2 4).1 4 (sgnS (sgnR s (sgnR s tp 4).2 4).1 4 (sgnS (sgnR s tp 4).1 4 ((opS f1 f2 b).1 ++ List.replicate (padN (opS f1 f2 b).1.length) 0, true))) := by
      unfold headS
      rw [if_pos rfl, hlen, hb2]
      have w1 : wrap64 (wrap64 ((sgnR s (sgnR s tp 4).2 4).1 + (((q.length + 1 : Nat) : Int) - 1)) - 1) = (sgnR s (sgnR s (sgnR s tp 4).2 4).2 4).1 := by
        rw [show (((q.length + 1 : Nat) : Int) - 1) = q.length by omega, hq]
        rw [wrap_id (x := (sgnR s (sgnR s tp 4).2 4).1 + _) (by omega), wrap_id (by omega)]
        omega
      have w2 : wrap64 (rd ([wrap64 (f0 + (sgnR s tp 4).1)] ++ q) 0 - f0) = (sgnR s tp 4).1 := by
        rw [rd0]
        exact (tgt_id h0 e1.2).2
      rw [w1, w2]
      rfl
    have h7 := c6 [] (sgnS (sgnR s (sgnR s (sgnR s tp 4).2 4).2 4).1 4 (sgnS (sgnR s (sgnR s tp 4).2 4).1 4 (sgnS (sgnR s tp 4).1 4 ((opS f1 f2 b).1 ++ List.replicate (padN (opS f1 f2 b).1.length) 0, true)))) e3.1
    rw [hh, show q.length + 1 - 1 = 0 + ((sgnR s (sgnR s (sgnR s tp 4).2 4).2 4).1 - (sgnR s (sgnR s tp 4).2 4).1 + 1).toNat by omega]
    exact h7
theorem choG11 {s : ByteArray} {t : RdS} {x : S82} {b : List Nat × Bool} (h0 : 0 ≤ x.f0 ∧ x.f0 ≤ 65535) (h6 : x.f6 = []) (ht : OKR s t) (h : (choD s x 11 t).2.2.1 = 0) (hG : DG s t (opS x.f1 x.f2 b)) : BG s t 11 x b (choD s x 11 t) := by
  obtain ⟨f0, f1, f2, f3, f4, f5, f6, f7⟩ := x
  dsimp only at h0 h6 hG
  subst h6
  unfold choD at h ⊢
  rw [if_neg (by decide)] at h ⊢
  unfold choD11 at h ⊢
  by_cases hc : (sgnR s (headD s ⟨f0, f1, f2, f3, f4, f5, [], f7⟩ t).2 4).1 < 0
  · rw [if_pos hc] at h
    exact absurd h (failNo (by decide))
  · rw [if_neg hc] at h ⊢
    unfold headD at h hc ⊢
    dsimp only at h hc ⊢
    generalize hp : padR s f0 4 t = tp at *
    have hop : OKR s tp := by
      rw [← hp]
      have : ∀ (k : Nat) (t : RdS), OKR s t → OKR s (padR s f0 k t) := by
        intro k
        induction k with
        | zero => intro t h; exact h
        | succ k ih =>
          intro t h
          unfold padR
          split
          · refine ih _ ?_
            split
            · exact (h.num 1).fail _ _
            · exact h.num 1
          · exact h
      exact this 4 t ht
    have o1 := hop.sgn 4
    have o2 := o1.sgn 4
    have z2 := rowsStuck _ _ h o2
    have z1 := (sgnOK (by decide) o1 z2).1
    have z0 := (sgnOK (by decide) hop z1).1
    have p2 := (sgnOK (by decide) o1 z2).2
    have p3 := (sgnOK (by decide) hop z1).2
    have zt := padStuck 4 (by rw [hp]; exact z0) ht
    obtain ⟨c1, c2, c3, p, q, c4, c5, c5', c6⟩ := rows11G _ 0 (x := ⟨f0, f1, f2, f3, f4, f5, [], [wrap64 (f0 + (sgnR s tp 4).1)]⟩) h0 rfl rfl h o2
    have hl : ((opS f1 f2 b).1.length : Int) = t.1 := hG.len ht
    have hG' : DG s t ((opS f1 f2 b).1, true) := by unfold DG at hG ⊢; rw [hG]
    obtain ⟨d1, d2, d3⟩ := padG (s := s) (x0 := f0) 4 (t := t) (l := (opS f1 f2 b).1) (by unfold padN; omega) (by rw [hp]; exact z0) ht hG'
    rw [hp] at d2 d3
    have hb2 : (opS f1 f2 b).2 = true := by unfold DG at hG; rw [hG]
    have e1 := sgnG (.inr (.inr rfl)) hop z1 d2
    have e2 := sgnG (.inr (.inr rfl)) o1 z2 e1.1
    have hq : (q.length : Int) = (sgnR s (sgnR s tp 4).2 4).1 := by rw [c5]; omega
    have hr : 8 * (q.length : Int) ≤ 65535 := by
      have := c1.2.1
      have := c1.2.2
      rw [c5]
      have := o2.1
      omega
    unfold BG
    rw [c4]
    refine ⟨zt, c1, by omega, rfl, rfl, rfl, by simp; omega, by simp; omega, ?_⟩
    show DG s _ (choS f0 f5 ([] ++ p) ([wrap64 (f0 + (sgnR s tp 4).1)] ++ q) 11 (opS f1 f2 b))
    unfold choS
    have hlen : ([wrap64 (f0 + (sgnR s tp 4).1)] ++ q).length = q.length + 1 := by simp
    rw [hlen, if_neg (by rintro (h | ⟨h, _⟩ | ⟨_, h⟩) <;> first | (exact absurd h (by decide)) | (rw [List.nil_append] at h; omega) | omega)]
    have hh : headS f0 f5 ([wrap64 (f0 + (sgnR s tp 4).1)] ++ q) 11 (opS f1 f2 b) = sgnS (sgnR s (sgnR s tp 4).2 4).1 4 (sgnS (sgnR s tp 4).1 4 ((opS f1 f2 b).1 ++ List.replicate (padN (opS f1 f2 b).1.length) 0, true)) := by
      unfold headS
      rw [if_neg (by decide), hlen, hb2]
      have w2 : wrap64 (rd ([wrap64 (f0 + (sgnR s tp 4).1)] ++ q) 0 - f0) = (sgnR s tp 4).1 := by
        rw [rd0]
        exact (tgt_id h0 e1.2).2
      rw [w2, show (((q.length + 1 : Nat) : Int) - 1) = q.length by omega, hq]
      rfl
    have h7 := c6 (sgnS (sgnR s (sgnR s tp 4).2 4).1 4 (sgnS (sgnR s tp 4).1 4 ((opS f1 f2 b).1 ++ List.replicate (padN (opS f1 f2 b).1.length) 0, true))) e2.1
    rw [hh, show q.length + 1 - 1 = 0 + ((sgnR s (sgnR s tp 4).2 4).1).toNat by omega]
    exact h7
theorem bodyG {s : ByteArray} {t : RdS} {x : S82} {b : List Nat × Bool} {f : Int} (hf : 0 ≤ f ∧ f ≤ 15 ∧ f ≠ 15) (h0 : 0 ≤ x.f0 ∧ x.f0 ≤ 65535) (h6 : x.f6 = []) (h7 : x.f7 = []) (ht : OKR s t) (h : (bodyD s x f t).2.2.1 = 0) (hG : DG s t (opS x.f1 x.f2 b)) : f ≠ 1 ∧ BG s t f x b (bodyD s x f t) := by
  obtain ⟨f0, f1, f2, f3, f4, f5, f6, f7⟩ := x
  dsimp only at h0 h6 h7 hG
  subst h6 h7
  have hc : f = 0 ∨ f = 1 ∨ f = 2 ∨ f = 3 ∨ f = 4 ∨ f = 5 ∨ f = 6 ∨ f = 7 ∨ f = 8 ∨ f = 9 ∨ f = 10 ∨ f = 11 ∨ f = 12 ∨ f = 13 ∨ f = 14 := by omega
  have hT := tgt0 hG
  rcases hc with rfl | rfl | rfl | rfl | rfl | rfl | rfl | rfl | rfl | rfl | rfl | rfl | rfl | rfl | rfl
  · exact ⟨by decide, h, ht, Int.le_refl _, rfl, rfl, rfl, Nat.zero_le _, Nat.zero_le _, hT⟩
  · exact absurd h (failNo (by decide))
  · obtain ⟨a1, a2⟩ := sgnOK (n := 1) (by decide) ht h
    exact ⟨by decide, a1, ht.sgn 1, by show t.1 ≤ (sgnR s t 1).2.1; omega, rfl, rfl, rfl, Nat.zero_le _, Nat.zero_le _, (sgnG (.inl rfl) ht h hT).1⟩
  · obtain ⟨a1, a2⟩ := sgnOK (n := 2) (by decide) ht h
    exact ⟨by decide, a1, ht.sgn 2, by show t.1 ≤ (sgnR s t 2).2.1; omega, rfl, rfl, rfl, Nat.zero_le _, Nat.zero_le _, (sgnG (.inr (.inl rfl)) ht h hT).1⟩
  · obtain ⟨a1, a2, _⟩ := numOK (n := 1) (by decide) ht h
    exact ⟨by decide, a1, ht.num 1, by show t.1 ≤ (numR s t 1).2.1; omega, rfl, rfl, rfl, Nat.zero_le _, Nat.zero_le _, unsG (.inl rfl) ht h hT⟩
  · obtain ⟨a1, a2, _⟩ := numOK (n := 2) (by decide) ht h
    exact ⟨by decide, a1, ht.num 2, by show t.1 ≤ (numR s t 2).2.1; omega, rfl, rfl, rfl, Nat.zero_le _, Nat.zero_le _, unsG (.inr rfl) ht h hT⟩
  · have key : ∀ n : Nat, n = 1 ∨ n = 2 → n = szI f2 → (numR s t n).2.2.1 = 0 → BG s t 6 ⟨f0, f1, f2, f3, f4, f5, [], []⟩ b (numI s ⟨f0, f1, f2, f3, f4, f5, [], []⟩ t n) := by
      intro n hn he h
      obtain ⟨a1, a2, _⟩ := numOK (by omega) ht h
      refine ⟨a1, ht.num n, by show t.1 ≤ (numR s t n).2.1; omega, rfl, rfl, rfl, Nat.zero_le _, Nat.zero_le _, ?_⟩
      show DG s _ (unsS _ (szI f2) _)
      rw [← he]
      exact unsG hn ht h hT
    exact ⟨by decide, key (if f2 = true then 2 else 1) (by split <;> omega) rfl h⟩
  · have key : ∀ n : Nat, n = 1 ∨ n = 2 → n = szI f2 → (sgnR s (numR s t n).2 n).2.2.1 = 0 → BG s t 7 ⟨f0, f1, f2, f3, f4, f5, [], []⟩ b (incI s ⟨f0, f1, f2, f3, f4, f5, [], []⟩ t n) := by
      intro n hn he h
      obtain ⟨b1, b2⟩ := sgnOK (by omega) (ht.num n) h
      obtain ⟨a1, a2, _⟩ := numOK (by omega) ht b1
      refine ⟨a1, (ht.num n).sgn n, by show t.1 ≤ (sgnR s (numR s t n).2 n).2.1; omega, rfl, rfl, rfl, Nat.zero_le _, Nat.zero_le _, ?_⟩
      show DG s _ (sgnS _ (szI f2) (unsS _ (szI f2) _))
      rw [← he]
      exact (sgnG (by omega) (ht.num n) h (unsG hn ht b1 hT)).1
    exact ⟨by decide, key (if f2 = true then 2 else 1) (by split <;> omega) rfl h⟩
  · obtain ⟨a1, a2⟩ := sgnOK (n := 2) (by decide) ht h
    exact ⟨by decide, a1, ht.sgn 2, by show t.1 ≤ (sgnR s t 2).2.1; omega, rfl, rfl, rfl, Nat.zero_le _, (show 1 ≤ 65536 by decide), one8G (x := ⟨f0, f1, f2, f3, f4, f5, [], []⟩) (.inl rfl) h0 ht h hG⟩
  · obtain ⟨a1, a2⟩ := sgnOK (n := 4) (by decide) ht h
    exact ⟨by decide, a1, ht.sgn 4, by show t.1 ≤ (sgnR s t 4).2.1; omega, rfl, rfl, rfl, Nat.zero_le _, (show 1 ≤ 65536 by decide), one8G (x := ⟨f0, f1, f2, f3, f4, f5, [], []⟩) (.inr rfl) h0 ht h hG⟩
  · exact ⟨by decide, choG10 h0 rfl ht h hG⟩
  · exact ⟨by decide, choG11 h0 rfl ht h hG⟩
  · obtain ⟨h1, h2⟩ := failIf (t := (numR s (numR s (numR s t 2).2 1).2 1).2) (by decide) h
    have h' : (numR s (numR s (numR s t 2).2 1).2 1).2.2.1 = 0 := by rw [← h2]; exact h
    have z0 : (numR s (numR s (numR s t 2).2 1).2 1).1 = 0 := Classical.not_not.1 (fun hn => h1 (.inl hn))
    have z1 : (numR s (numR s t 2).2 1).1 ≠ 0 := fun hn => h1 (.inr hn)
    obtain ⟨c1, c2, c3, c4, c5, c6⟩ := numOK (by decide) ((ht.num 2).num 1) h'
    obtain ⟨b1, b2, b3, b4, _⟩ := numOK (by decide) (ht.num 2) c1
    obtain ⟨a1, a2, _⟩ := numOK (by decide) ht b1
    have e : (256 : Nat) ^ 1 = 256 := by decide
    have hg := putG (lo := 1) (hi := 255) (by decide) (ht.num 2) c1 (unsG (.inr rfl) ht b1 hT) (by omega) (by rw [e] at b4; omega)
    refine ⟨by decide, a1, ?_, ?_, rfl, rfl, rfl, Nat.zero_le _, Nat.zero_le _, ?_⟩
    · show OKR s (if _ then _ else _)
      rw [h2]
      exact ((ht.num 2).num 1).num 1
    · show t.1 ≤ (if (numR s (numR s (numR s t 2).2 1).2 1).1 ≠ 0 ∨ (numR s (numR s t 2).2 1).1 = 0 then failR (numR s (numR s (numR s t 2).2 1).2 1).2 15 f0 else (numR s (numR s (numR s t 2).2 1).2 1).2).1
      rw [h2]
      omega
    · show DG s (if (numR s (numR s (numR s t 2).2 1).2 1).1 ≠ 0 ∨ (numR s (numR s t 2).2 1).1 = 0 then failR (numR s (numR s (numR s t 2).2 1).2 1).2 15 f0 else (numR s (numR s (numR s t 2).2 1).2 1).2) ((putS (numR s (numR s t 2).2 1).1 1 1 255 (unsS (numR s t 2).1 2 (tgtS [] 0 (opS f1 f2 b)))).1 ++ [0], (putS (numR s (numR s t 2).2 1).1 1 1 255 (unsS (numR s t 2).1 2 (tgtS [] 0 (opS f1 f2 b)))).2)
      rw [h2]
      unfold DG at hg ⊢
      rw [hg, c6, z0]
      rfl
  · obtain ⟨h1, h2⟩ := failIf (t := (numR s t 1).2) (by decide) h
    have h' : (numR s t 1).2.2.1 = 0 := by rw [← h2]; exact h
    obtain ⟨a1, a2, _⟩ := numOK (by decide) ht h'
    refine ⟨by decide, a1, ?_, ?_, rfl, rfl, rfl, Nat.zero_le _, Nat.zero_le _, ?_⟩
    · show OKR s (if _ then _ else _)
      rw [h2]
      exact ht.num 1
    · show t.1 ≤ (if (numR s t 1).1 < 4 ∨ (numR s t 1).1 > 11 then failR (numR s t 1).2 15 f0 else (numR s t 1).2).1
      rw [h2]
      omega
    · show DG s (if (numR s t 1).1 < 4 ∨ (numR s t 1).1 > 11 then failR (numR s t 1).2 15 f0 else (numR s t 1).2) (putS _ 1 4 11 _)
      rw [h2]
      exact putG (by decide) ht h' hT (Int.not_lt.1 (fun hn => h1 (.inl hn))) (Int.not_lt.1 (fun hn => h1 (.inr hn)))
  · obtain ⟨h1, h2⟩ := failIf (t := (numR s (numR s t 2).2 1).2) (by decide) h
    have h' : (numR s (numR s t 2).2 1).2.2.1 = 0 := by rw [← h2]; exact h
    obtain ⟨b1, b2, b3, b4, _⟩ := numOK (by decide) (ht.num 2) h'
    obtain ⟨a1, a2, _⟩ := numOK (by decide) ht b1
    have e : (256 : Nat) ^ 1 = 256 := by decide
    refine ⟨by decide, a1, ?_, ?_, rfl, rfl, rfl, Nat.zero_le _, Nat.zero_le _, ?_⟩
    · show OKR s (if _ then _ else _)
      rw [h2]
      exact (ht.num 2).num 1
    · show t.1 ≤ (if (numR s (numR s t 2).2 1).1 = 0 then failR (numR s (numR s t 2).2 1).2 15 f0 else (numR s (numR s t 2).2 1).2).1
      rw [h2]
      omega
    · show DG s (if (numR s (numR s t 2).2 1).1 = 0 then failR (numR s (numR s t 2).2 1).2 15 f0 else (numR s (numR s t 2).2 1).2) (putS _ 1 1 255 (unsS _ 2 _))
      rw [h2]
      exact putG (by decide) (ht.num 2) h' (unsG (.inr rfl) ht b1 hT) (by omega) (by rw [e] at b4; omega)
theorem numStuck {s : ByteArray} {t : RdS} (hz : t.2.1 ≠ 0) (n : Nat) : numR s t n = (0, t) := by unfold numR; rw [if_pos hz]
theorem sgnStuck {s : ByteArray} {t : RdS} (hz : t.2.1 ≠ 0) (n : Nat) : (sgnR s t n).2 = t := by unfold sgnR; rw [numStuck hz]
theorem failStuck {t : RdS} (hz : t.2.1 ≠ 0) (e p : Int) : failR t e p = t := by unfold failR; rw [if_neg hz]
theorem padStays {s : ByteArray} {t : RdS} (hz : t.2.1 ≠ 0) (x0 : Int) : ∀ k, padR s x0 k t = t
  | 0 => rfl
  | k + 1 => by unfold padR; rw [if_neg (fun h => hz h.2)]
theorem rowsStays {s : ByteArray} {t : RdS} (hz : t.2.1 ≠ 0) (f : Int) (x : S82) : ∀ r k, (rowsD s f r k x t).2 = t
  | 0, _ => rfl
  | r + 1, k => by unfold rowsD; rw [if_pos hz]
theorem choStuck {s : ByteArray} {t : RdS} {x : S82} (hz : t.2.1 ≠ 0) (f : Int) : (choD s x f t).2 = t := by
  have e1 : ∀ n, (sgnR s t n).2 = t := sgnStuck hz
  unfold choD headD
  rw [padStays hz]
  dsimp only
  rw [e1, e1, e1]
  split
  · unfold choD10
    split
    · exact failStuck hz _ _
    · exact rowsStays hz _ _ _ _
  · unfold choD11
    split
    · exact failStuck hz _ _
    · exact rowsStays hz _ _ _ _
theorem bodyStuck {s : ByteArray} {t : RdS} {x : S82} {f : Int} (hz : t.2.1 ≠ 0) : (bodyD s x f t).2 = t := by
  have e1 : ∀ n, (sgnR s t n).2 = t := sgnStuck hz
  have e2 : ∀ n, (numR s t n).2 = t := fun n => by rw [numStuck hz]
  have e3 : ∀ e p, failR t e p = t := failStuck hz
  have e4 : ∀ f, (choD s x f t).2 = t := choStuck hz
  have e5 : ∀ (c : Prop) [Decidable c] (t : RdS), (if c then t else t) = t := fun c _ t => by split <;> rfl
  unfold bodyD
  simp only [apply_ite Prod.snd, e3, sgnI, numI, incI, tgtI, moreD, e1, e2, e4, e5]
structure OG (s : ByteArray) (t : RdS) (p : S82 × RdS) : Prop where
  z : t.2.1 = 0
  ok : OKR s p.2
  up : t.1 < p.2.1
  at0 : p.1.f0 = t.1
  bad : badF p.1 = false
  op : 0 ≤ p.1.f1 ∧ p.1.f1 < 256
  l6 : p.1.f6.length ≤ 65535
  l7 : p.1.f7.length ≤ 65536
  put : oneF (formF p.1.f1) p.1 (preD s t, true) = (preD s p.2, true)
theorem form_all : ∀ n : Fin 256, formF (n.val : Int) = 15 → n.val = 196 := by decide +kernel
theorem form196 {op : Int} (h0 : 0 ≤ op ∧ op < 256) (h : formF op = 15) : op = 196 := by
  have h1 := form_all ⟨op.toNat, by omega⟩
  have e : ((op.toNat : Nat) : Int) = op := by omega
  have h2 := h1 (by show formF ((op.toNat : Nat) : Int) = 15; rw [e]; exact h)
  have h3 : op.toNat = 196 := h2
  omega
theorem bigB1 {x : Int} (h : 0 ≤ x ∧ x < 256) : bigB x.toNat 1 = [x.toNat] := by
  show [] ++ [x.toNat % 256] = [x.toNat]
  rw [Nat.mod_eq_of_lt (by omega)]; rfl
theorem oneG {s : ByteArray} {t : RdS} (ht : OKR s t) (h : (oneD s t).2.2.1 = 0) : OG s t (oneD s t) := by
  have e : ((256 ^ 1 : Nat) : Int) = 256 := by decide
  have hx0 : 0 ≤ t.1 ∧ t.1 ≤ 65535 := by
    have := ht.1
    have := ht.2.1
    have := ht.2.2
    omega
  unfold oneD at h ⊢
  by_cases h1 : formF (numR s t 1).1 = 15
  · rw [if_pos h1] at h ⊢
    by_cases h2 : formF (numR s (numR s t 1).2 1).1 = 6 ∨ formF (numR s (numR s t 1).2 1).1 = 7
    · rw [if_pos h2] at h ⊢
      have hbk : ∀ (hz : (numR s (numR s t 1).2 1).2.2.1 = 0), OG s t (bodyD s (X0 t (numR s (numR s t 1).2 1).1 true) (formF (numR s (numR s t 1).2 1).1) (numR s (numR s t 1).2 1).2) := by
        intro hz
        obtain ⟨b1, b2, b3, b4, b5, b6⟩ := numOK (by decide) (ht.num 1) hz
        obtain ⟨a1, a2, a3, a4, a5, a6⟩ := numOK (by decide) ht b1
        rw [e] at a4 b4
        have hop := form196 ⟨a3, a4⟩ h1
        have hG : DG s (numR s (numR s t 1).2 1).2 (opS (numR s (numR s t 1).2 1).1 true (preD s t, true)) := by
          unfold DG
          rw [b6, a6, hop, bigB1 ⟨b3, b4⟩]
          rfl
        obtain ⟨g0, g1, g2, g3, g4, g5, g6, g7, g8, g9⟩ := bodyG (x := X0 t (numR s (numR s t 1).2 1).1 true) ⟨(formF_le _).1, (formF_le _).2, by omega⟩ hx0 rfl rfl ((ht.num 1).num 1) h hG
        exact ⟨a1, g2, by omega, g4, by unfold badF; rw [g5, g6]; show ((formF (numR s (numR s t 1).2 1).1 == 1 || formF (numR s (numR s t 1).2 1).1 == 15) || (true && formF (numR s (numR s t 1).2 1).1 != 6 && formF (numR s (numR s t 1).2 1).1 != 7)) = false; rcases h2 with h2 | h2 <;> rw [h2] <;> rfl, by rw [g5]; exact ⟨b3, b4⟩, g7, g8, by rw [g5]; exact g9⟩
      apply hbk
      apply Classical.byContradiction
      intro hz
      rw [bodyStuck hz] at h
      exact hz h
    · rw [if_neg h2] at h
      exact absurd h (failNo (by decide))
  · rw [if_neg h1] at h ⊢
    -- nothing is wrong ahead of the body
    have hz : (numR s t 1).2.2.1 = 0 := by
      apply Classical.byContradiction
      intro hz
      rw [bodyStuck hz] at h
      exact hz h
    obtain ⟨a1, a2, a3, a4, a5, a6⟩ := numOK (by decide) ht hz
    rw [e] at a4
    have hG : DG s (numR s t 1).2 (opS (numR s t 1).1 false (preD s t, true)) := by
      unfold DG
      rw [a6, bigB1 ⟨a3, a4⟩]
      rfl
    obtain ⟨g0, g1, g2, g3, g4, g5, g6, g7, g8, g9⟩ := bodyG (x := X0 t (numR s t 1).1 false) ⟨(formF_le _).1, (formF_le _).2, h1⟩ hx0 rfl rfl (ht.num 1) h hG
    exact ⟨a1, g2, by omega, g4, by unfold badF; rw [g5, g6]; show ((formF (numR s t 1).1 == 1 || formF (numR s t 1).1 == 15) || (false && formF (numR s t 1).1 != 6 && formF (numR s t 1).1 != 7)) = false; rw [beq_eq_false_iff_ne.2 g0, beq_eq_false_iff_ne.2 h1]; rfl, by rw [g5]; exact ⟨a3, a4⟩, g7, g8, by rw [g5]; exact g9⟩
theorem okr_if {s : ByteArray} {c : Prop} [Decidable c] {a b : RdS} (h1 : OKR s a) (h2 : OKR s b) : OKR s (if c then a else b) := by split <;> assumption
theorem OKR.pad {s : ByteArray} {x0 : Int} : ∀ (k : Nat) {t : RdS}, OKR s t → OKR s (padR s x0 k t)
  | 0, t, h => h
  | k + 1, t, h => by
    unfold padR
    split
    · exact OKR.pad k (okr_if ((h.num 1).fail _ _) (h.num 1))
    · exact h
theorem OKR.rows {s : ByteArray} {f : Int} : ∀ (r k : Nat) {x : S82} {t : RdS}, OKR s t → OKR s (rowsD s f r k x t).2
  | 0, k, x, t, h => h
  | r + 1, k, x, t, h => by
    unfold rowsD
    split
    · exact h
    · split
      · exact OKR.rows r (k + 1) ((okr_if ((h.sgn 4).fail _ _) (h.sgn 4)).sgn 4)
      · exact OKR.rows r (k + 1) (h.sgn 4)
theorem OKR.cho {s : ByteArray} {f : Int} {x : S82} {t : RdS} (h : OKR s t) : OKR s (choD s x f t).2 := by
  have h1 : OKR s (headD s x t).2 := (OKR.pad 4 h).sgn 4
  unfold choD
  split
  · unfold choD10
    split
    · exact ((h1.sgn 4).sgn 4).fail _ _
    · exact OKR.rows _ _ ((h1.sgn 4).sgn 4)
  · unfold choD11
    split
    · exact (h1.sgn 4).fail _ _
    · exact OKR.rows _ _ (h1.sgn 4)
theorem OKR.more {s : ByteArray} {f : Int} {x : S82} {t : RdS} (h : OKR s t) : OKR s (moreD s x f t).2 := by
  unfold moreD
  split
  · exact h.cho
  · split
    · exact okr_if ((((h.num 2).num 1).num 1).fail _ _) (((h.num 2).num 1).num 1)
    · split
      · exact okr_if ((h.num 1).fail _ _) (h.num 1)
      · split
        · exact okr_if (((h.num 2).num 1).fail _ _) ((h.num 2).num 1)
        · exact h
theorem OKR.body {s : ByteArray} {f : Int} {x : S82} {t : RdS} (h : OKR s t) : OKR s (bodyD s x f t).2 := by
  unfold bodyD
  repeat' (with_reducible split)
  all_goals first
    | exact h.fail _ _
    | exact h.sgn _
    | exact h.num _
    | exact (h.num _).sgn _
    | exact h.more
theorem OKR.one {s : ByteArray} {t : RdS} (h : OKR s t) : OKR s (oneD s t).2 := by
  unfold oneD
  split
  · split
    · exact ((h.num 1).num 1).body
    · exact ((h.num 1).num 1).fail _ _
  · exact (h.num 1).body
def allD (s : ByteArray) : Nat → RdS → List S82 × RdS
  | 0, t => ([], t)
  | k + 1, t => if 0 < (s.size : Int) - t.1 ∧ t.2.1 = 0 then ((oneD s t).1 :: (allD s k (oneD s t).2).1, (allD s k (oneD s t).2).2) else ([], t)
def badT (s : ByteArray) (ks : List Int) (y : Int) : Bool := decide (y < 0) || (decide ((s.size : Int) ≤ y) || !decide (y ∈ ks))
def chk1 (s : ByteArray) (ks : List Int) (x0 : Int) : List Int → RdS → RdS
  | [], t => t
  | y :: r, t => chk1 s ks x0 r (if badT s ks y = true then failR t 16 x0 else t)
def chkD (s : ByteArray) (ks : List Int) : List S82 → RdS → RdS
  | [], t => t
  | x :: r, t => chkD s ks r (chk1 s ks x.f0 x.f7 t)
def finD (s : ByteArray) (l : List S82) (t : RdS) : List S82 × Int × Int := if t.2.1 ≠ 0 then ([], t.2.1, t.2.2) else (l, 0, 0)
def decD (s : ByteArray) : List S82 × Int × Int :=
  if s.size = 0 ∨ 65535 < s.size then ([], 12, 0) else
    finD s (allD s s.size (0, 0, 0)).1 (chkD s ((allD s s.size (0, 0, 0)).1.map (·.f0)) (allD s s.size (0, 0, 0)).1 (allD s s.size (0, 0, 0)).2)
theorem chk1_no {s : ByteArray} {ks : List Int} {x0 : Int} : ∀ (l : List Int) {t : RdS}, (chk1 s ks x0 l t).2.1 = 0 → t.2.1 = 0 ∧ (∀ y ∈ l, badT s ks y = false)
  | [], t, h => ⟨h, fun y hy => absurd hy (by simp)⟩
  | y :: r, t, h => by
    obtain ⟨h1, h2⟩ := chk1_no r h
    obtain ⟨h3, h4⟩ := failIf (by decide) h1
    refine ⟨by rw [h4] at h1; exact h1, fun z hz => ?_⟩
    rcases List.mem_cons.1 hz with rfl | hz
    · exact Bool.eq_false_iff.2 h3
    · exact h2 z hz
theorem chkD_no {s : ByteArray} {ks : List Int} : ∀ (l : List S82) {t : RdS}, (chkD s ks l t).2.1 = 0 → t.2.1 = 0 ∧ (∀ x ∈ l, ∀ y ∈ x.f7, badT s ks y = false)
  | [], t, h => ⟨h, fun y hy => absurd hy (by simp)⟩
  | x :: r, t, h => by
    obtain ⟨h1, h2⟩ := chkD_no r h
    obtain ⟨h3, h4⟩ := chk1_no _ h1
    refine ⟨h3, fun z hz => ?_⟩
    rcases List.mem_cons.1 hz with rfl | hz
    · exact h4
    · exact h2 z hz
theorem bad_no {s : ByteArray} {ks : List Int} {y : Int} (h : badT s ks y = false) : 0 ≤ y ∧ y < s.size ∧ y ∈ ks := by
  unfold badT at h
  simp only [Bool.or_eq_false_iff, decide_eq_false_iff_not, Bool.not_eq_false', decide_eq_true_iff] at h
  exact ⟨by omega, by omega, h.2.2⟩
theorem allStuck {s : ByteArray} {t : RdS} (hz : t.2.1 ≠ 0) : ∀ k, allD s k t = ([], t)
  | 0 => rfl
  | k + 1 => by unfold allD; rw [if_neg (fun h => hz h.2)]
theorem allG {s : ByteArray} : ∀ (k : Nat) {t : RdS}, OKR s t → (s.size : Int) - t.1 ≤ k → (allD s k t).2.2.1 = 0 →
    ((allD s k t).1.length : Int) ≤ (s.size : Int) - t.1 ∧ (∀ x ∈ (allD s k t).1, (0 ≤ x.f1 ∧ x.f1 < 256) ∧ x.f6.length ≤ 1000000 ∧ x.f7.length ≤ 1000000) ∧
      ∀ l0 n, encG l0 (allD s k t).1 n (preD s t) = encG l0 [] 0 (bs s)
  | 0, t, ht, hk, h => by
    refine ⟨by have := ht.2.1; show ((0 : Nat) : Int) ≤ _; omega, fun x hx => absurd hx (by simp [allD]), fun l0 n => ?_⟩
    have e : preD s t = bs s := by
      unfold preD
      rw [List.take_of_length_le]
      rw [bs_length]
      omega
    rw [← e]; rfl
  | k + 1, t, ht, hk, h => by
    by_cases hc : 0 < (s.size : Int) - t.1 ∧ t.2.1 = 0
    · unfold allD at h ⊢
      rw [if_pos hc] at h ⊢
      have hz : (oneD s t).2.2.1 = 0 := by
        apply Classical.byContradiction
        intro hz
        rw [allStuck hz] at h
        exact hz h
      obtain ⟨g1, g2, g3, g4, g5, g6, g7, g8, g9⟩ := oneG ht hz
      obtain ⟨a1, a2, a3⟩ := allG k g2 (by omega) h
      refine ⟨?_, ?_, fun l0 n => ?_⟩
      · rw [List.length_cons]; omega
      · intro x hx
        rcases List.mem_cons.1 hx with rfl | hx
        · exact ⟨g6, by omega, by omega⟩
        · exact a2 x hx
      · unfold encG
        have e1 : ((preD s t).length : Int) = t.1 := pre_len ht
        have e2 : ((preD s (oneD s t).2).length : Int) = (oneD s t).2.1 := pre_len g2
        have := g2.2.1
        have := g2.2.2
        rw [if_neg (fun hn => hn (by rw [g4, e1])), if_neg (by rw [g5]; decide), g9, if_neg (fun hn => absurd (show true = false from hn) (by decide)), if_neg (by dsimp only; omega)]
        exact a3 l0 (n + 1)
    · unfold allD at h ⊢
      rw [if_neg hc] at h ⊢
      have h0 : (s.size : Int) - t.1 ≤ 0 := by
        apply Classical.byContradiction
        intro hn
        exact hc ⟨by omega, h⟩
      refine ⟨by have := ht.2.1; show ((0 : Nat) : Int) ≤ _; omega, fun x hx => absurd hx (by simp), fun l0 n => ?_⟩
      have e : preD s t = bs s := by
        unfold preD
        rw [List.take_of_length_le]
        rw [bs_length]
        omega
      rw [← e]; rfl
theorem tgtG_ok {ks : List Int} {b : List Nat} : ∀ (l : List S82) (k : Nat), (∀ x ∈ l, ∀ y ∈ x.f7, y ∈ ks) → tgtG ks b l k = (sb b, 0, 0)
  | [], k, _ => rfl
  | x :: r, k, h => by
    unfold tgtG
    rw [if_pos (List.all_eq_true.2 (fun y hy => decide_eq_true (h x (by simp) y hy)))]
    exact tgtG_ok r (k + 1) (fun z hz => h z (by simp [hz]))
theorem allD_nil {s : ByteArray} (h : s.size ≠ 0) : (allD s s.size (0, 0, 0)).1.length ≠ 0 := by
  obtain ⟨k, hk⟩ : ∃ k, s.size = k + 1 := ⟨s.size - 1, by omega⟩
  rw [hk]
  unfold allD
  rw [if_pos ⟨by show (0 : Int) < (s.size : Int) - 0; omega, rfl⟩]
  simp
theorem decG {s : ByteArray} {l : List S82} {p : Int} (h : decD s = (l, 0, p)) : encOK l ∧ encG l l 0 [] = (s, 0, 0) := by
  unfold decD at h
  by_cases hc : s.size = 0 ∨ 65535 < s.size
  · rw [if_pos hc] at h
    injection h with _ h
    injection h with h _
    exact absurd h (by decide)
  · rw [if_neg hc] at h
    have hO : OKR s (0, 0, 0) := ⟨Int.le_refl _, Int.natCast_nonneg _, by omega⟩
    unfold finD at h
    split at h
    · next hn =>
      injection h with _ h
      injection h with h _
      exact absurd h hn
    · next hn =>
      injection h with h _
      obtain ⟨h1, h2⟩ := chkD_no _ (Classical.not_not.1 hn)
      obtain ⟨a1, a2, a3⟩ := allG s.size hO (by show (s.size : Int) - 0 ≤ _; omega) h1
      have hne := allD_nil (s := s) (by omega)
      rw [h] at h2 a1 a2 a3 hne
      have hT : ∀ x ∈ l, ∀ y ∈ x.f7, 0 ≤ y ∧ y < s.size ∧ y ∈ l.map (·.f0) := fun x hx y hy => bad_no (h2 x hx y hy)
      refine ⟨⟨by simp only at a1; omega, fun x hx => ?_⟩, ?_⟩
      · obtain ⟨b1, b2, b3⟩ := a2 x hx
        exact ⟨b1, b2, b3, fun y hy => by
          have hy1 := hT x hx y hy
          obtain ⟨m, rfl⟩ := Int.eq_ofNat_of_zero_le hy1.1
          exact wf_nat (by omega)⟩
      · have e := a3 l 0
        have e0 : preD s (0, 0, 0) = [] := rfl
        rw [e0] at e
        rw [e]
        unfold encG
        rw [if_neg hne, tgtG_ok l 0 (fun x hx y hy => (hT x hx y hy).2.2), sb_bs]
end Go.Proofs.Ytfnjbmpolggdeaa.CW
end
section
namespace Go.Proofs.Ytfnjbmpolggdeaa.CW
open Go.RowKit Go.Lib Go.Proofs.YtfnjbmpolggdeaaW.PrintWords Go.Proofs.YtfnjbmpolggdeaaW.PrintLast Go.Proofs.YtfnjbmpolggdeaaW.PrintMore
set_option linter.unusedVariables false
set_option linter.unusedSimpArgs false
theorem infoBool : (Try.prog.info? 4).map (fun i => (i.zero, i.size, i.bytes)) = some (some (.bool false), 1, 1) := by kernel_rfl
abbrev BR (W : World) (B : Nat) (v : Value) (xs : List Bool) : Prop := Kd.bool.R 4 W B (fun _ => True) v xs
theorem BR.step {W W1 : World} {B : Nat} {v : Value} {xs : List Bool} (h : BR W B v xs) (hs : ∀ k, v.ownBlock = some k → W1.heap[k]? = W.heap[k]?) : BR W1 B v xs :=
  Kd.R_of_own (enc := Value.bool) (h1 := fun _ => rfl) (own_move (Kd.own_of_R (enc := Value.bool) (h1 := fun _ => rfl) h) hs) (fun _ _ => trivial)
theorem BR.ne {W : World} {B : Nat} {v : Value} {xs : List Bool} (h : BR W B v xs) {g t : Nat} {cells : Array Value} {fr : Nat × Nat} (hb : W.heap[g]? = some (.cells cells t fr)) (ht : t ≠ 4) : v.ownBlock ≠ some g := by
  intro e
  obtain ⟨c2, hc⟩ := Kd.R_typed h g e
  rw [hc] at hb
  injection hb with e1
  injection e1 with _ e2
  exact ht e2.symm
abbrev IR (W : World) (B : Nat) (V : Value) (l : List S82) : Prop := Kd.S k82 82 W B (fun _ => True) V l
theorem IR.keep {W W1 : World} {B g t : Nat} {V : Value} {l : List S82} {cells : Array Value} (h : IR W B V l) (hb : W.heap[g]? = some (.cells cells t (0, 0))) (ht : ∀ q, q ∈ 82 :: k82.E → q ≠ t) (hs : ∀ k, k < W.heap.size → k ≠ g → W1.heap[k]? = W.heap[k]?) : IR W1 B V l :=
  Kd.S_mono (Kd.S_step (Kd.S_types h hb ht) (fun k hk hlt => hs k hlt hk.2)) (fun _ _ => trivial)
structure DS (w W : World) (g d b c : Nat) (s : ByteArray) (t : RdS) (bl : List Bool) (V : Value) (l : List S82) : Prop where
  ri : RI w W g s t
  dec : W.heap[d]? = some (.cells #[.pointer (some ⟨g, 0, none⟩)] 144 (0, 0))
  dge : w.heap.size ≤ d
  row : BR W w.heap.size (.slice (some ⟨b, 0, none⟩) s.size c) bl
  out : IR W w.heap.size V l
namespace DS
variable {w W W1 : World} {g d b c : Nat} {s : ByteArray} {t t1 : RdS} {bl : List Bool} {V V1 : Value} {l : List S82}
theorem dne (h : DS w W g d b c s t bl V l) : d ≠ g := fun e => h.ri.1.ne_blk h.dec (by decide) e.symm
theorem bne (h : DS w W g d b c s t bl V l) : b ≠ g := fun e => h.row.ne h.ri.1.1 (by decide) (by rw [← e]; rfl)
theorem bnd (h : DS w W g d b c s t bl V l) : b ≠ d := fun e => h.row.ne h.dec (by decide) (by rw [← e]; rfl)
theorem rd (h : DS w W g d b c s t bl V l) (hI : RI w W1 g s t1) (hk : KeepBut W W1 g none) : DS w W1 g d b c s t1 bl V l where
  ri := hI
  dec := (hk.2 _ (blk_lt h.dec) h.dne (by simp)).trans h.dec
  dge := h.dge
  row := h.row.step (fun k e => hk.2 k (Kd.R_lt h.row k e) (fun he => h.row.ne h.ri.1.1 (by decide) (he ▸ e)) (by simp))
  out := h.out.keep h.ri.1.1 (by decide) (fun k hlt hne => hk.2 k hlt hne (by simp))
theorem below (h : DS w W g d b c s t bl V l) (hb : Below W.heap.size W W1) : DS w W1 g d b c s t bl V l := h.rd (h.ri.below hb) (KeepBut.of_below hb g none)
theorem drew (h : DS w W g d b c s t bl V l) : DS w W.drew g d b c s t bl V l := h.below (below_drew (Below.refl _ _))
theorem app (h : DS w W g d b c s t bl V l) {l1 : List S82} (hg : W.grownBy W1 V.ownBlock) (hr : IR W1 w.heap.size V1 l1) : DS w W1 g d b c s t bl V1 l1 where
  ri := ⟨h.ri.1.grown hg (fun e => Kd.S_ne h.out h.ri.1.1 (by decide) e), pw_below_grown h.ri.2 _ h.ri.2.size hg (fun k hk => Kd.S_base h.out k hk)⟩
  dec := (hg.block _ (blk_lt h.dec) (Kd.S_ne h.out h.dec (by decide))).trans h.dec
  dge := h.dge
  row := h.row.step (fun k e => hg.block k (Kd.R_lt h.row k e) (fun he => by
    obtain ⟨c1, h1⟩ := Kd.R_typed h.row k e
    exact Kd.S_ne h.out h1 (by decide) he))
  out := hr
theorem mark (h : DS w W g d b c s t bl V l) (i : Int) : DS w (W.setCell ⟨b, i.toNat, none⟩ (.bool true)) g d b c s t (bl.set i.toNat true) V l where
  ri := ⟨h.ri.1.far (fun e => h.bne e.symm) _, h.ri.2.setCell (p := ⟨b, i.toNat, none⟩) (Kd.R_base h.row b rfl) _⟩
  dec := (Below.heap_setCell W ⟨b, i.toNat, none⟩ _ _ (fun e => h.bnd e.symm)).trans h.dec
  dge := h.dge
  row := Kd.R_putn h.row i true
  out := by
    obtain ⟨c1, h1⟩ := Kd.R_typed h.row b rfl
    exact Kd.S_set h.out h1 (by decide) i.toNat (.bool true)
theorem c0 (h : DS w W g d b c s t bl V l) : W.cell? ⟨d, 0, none⟩ = some (.pointer (some ⟨g, 0, none⟩)) := blk_cell h.dec 0
end DS
theorem DS.start {w w1 w2 : World} {g b c : Nat} {s : ByteArray} {bl : List Bool} (hI : RI w w1 g s (0, 0, 0)) (hb : w.heap.size ≤ w1.heap.size) (hg : (w1.alloc (.cells #[.pointer (some ⟨g, 0, none⟩)] 144)).grownBy w2 none) (hU : BR w2 w.heap.size (.slice (some ⟨b, 0, none⟩) s.size c) bl) : DS w w2 g w1.heap.size b c s (0, 0, 0) bl (.slice none 0 0) [] := by
  have hI1 := hI.below (below_alloc (Below.refl _ w1) (.cells #[.pointer (some ⟨g, 0, none⟩)] 144))
  have e1 : (w1.alloc (.cells #[.pointer (some ⟨g, 0, none⟩)] 144)).heap[w1.heap.size]? = some (.cells #[.pointer (some ⟨g, 0, none⟩)] 144 (0, 0)) := Array.getElem?_push_size
  exact {
    ri := ⟨hI1.1.grown hg (by simp), pw_below_grown hI1.2 _ hI1.2.size hg (fun k hk => by simp at hk)⟩
    dec := (hg.block _ (blk_lt e1) (by simp)).trans e1
    dge := hb
    row := hU
    out := Kd.S_nil _ _ _ _ _ }
def BL (s : ByteArray) (ks : List Int) (bl : List Bool) : Prop := bl.length = s.size ∧ ∀ i : Int, 0 ≤ i → i < (s.size : Int) → bl.getD i.toNat false = decide (i ∈ ks)
theorem BL.nil (s : ByteArray) : BL s [] (List.replicate (s.size : Int).toNat false) := by
  refine ⟨by simp, fun i h0 h1 => ?_⟩
  rw [List.getD_eq_getElem?_getD, List.getElem?_replicate]
  split <;> rfl
theorem BL.mark {s : ByteArray} {ks : List Int} {bl : List Bool} (h : BL s ks bl) (i : Int) (h0 : 0 ≤ i) (h1 : i < (s.size : Int)) : BL s (ks ++ [i]) (bl.set i.toNat true) := by
  obtain ⟨e, hb⟩ := h
  refine ⟨by rw [List.length_set]; exact e, fun j j0 j1 => ?_⟩
  rw [List.getD_eq_getElem?_getD, List.getElem?_set]
  by_cases hc : i.toNat = j.toNat
  · rw [if_pos hc, if_pos (by omega)]
    obtain rfl : i = j := by omega
    simp
  · rw [if_neg hc, ← List.getD_eq_getElem?_getD, hb j j0 j1]
    refine decide_eq_decide.2 ?_
    simp only [List.mem_append, List.mem_singleton]
    exact ⟨Or.inl, fun h => h.elim id (fun h => absurd (by rw [h]) hc)⟩
def lenV : Value → Nat
  | .slice _ n _ => n
  | _ => 0
theorem all_step {s : ByteArray} {n m : Nat} {t : RdS} (h : 0 < (s.size : Int) - t.1 ∧ t.2.1 = 0) (hn : n = m + 1) : allD s n t = ((oneD s t).1 :: (allD s m (oneD s t).2).1, (allD s m (oneD s t).2).2) := by
  subst hn
  show (if _ then _ else _) = _
  rw [if_pos h]
theorem all_end {s : ByteArray} {n : Nat} {t : RdS} (h : ¬ (0 < (s.size : Int) - t.1 ∧ t.2.1 = 0)) : allD s n t = ([], t) := by
  cases n with
  | zero => rfl
  | succ n => unfold allD; rw [if_neg h]
theorem OnePost.elem {w0 w W : World} {x : S82} {v6 v7 : Value} (h6 : RW W w.heap.size v6 x.f6) (h7 : RW W w.heap.size v7 x.f7) (hw : w0.heap.size ≤ w.heap.size) :
    k82.M W w0.heap.size (fun k => w.heap.size ≤ k) x [.int .i64 x.f0, .int .u8 x.f1, .bool x.f2, .int .i64 x.f3, .int .i64 x.f4, .int .i64 x.f5, v6, v7] := by
  have q6 : (Kd.int .i64).R 3 W w0.heap.size (fun k => w.heap.size ≤ k) v6 x.f6 := Kd.R_mono (Kd.R_lower (Kd.R_tight rfl h6) hw) (fun k hk => Kd.R_base h6 k hk.symm)
  have q7 : (Kd.int .i64).R 3 W w0.heap.size (fun k => w.heap.size ≤ k) v7 x.f7 := Kd.R_mono (Kd.R_lower (Kd.R_tight rfl h7) hw) (fun k hk => Kd.R_base h7 k hk.symm)
  exact k82_mkM W w0.heap.size _ x q6 q7
theorem IR.elder {W W1 : World} {B g t : Nat} {V : Value} {l : List S82} {cells : Array Value} (h : IR W B V l) (hb : W.heap[g]? = some (.cells cells t (0, 0))) (ht : ∀ q, q ∈ 82 :: k82.E → q ≠ t) (hs : ∀ k, k < W.heap.size → k ≠ g → W1.heap[k]? = W.heap[k]?) : Kd.S k82 82 W1 B (fun k => True ∧ ¬ W.heap.size ≤ k) V l :=
  Kd.S_mono (Kd.S_step (Kd.S_bound (Kd.S_types h hb ht)) (fun k hk hlt => hs k hlt hk.1.2)) (fun k hk => ⟨trivial, by have := hk.2.2.1; omega⟩)
theorem ite_f0 {c : Prop} [Decidable c] {a b : S82 × RdS} {z : Int} (ha : a.1.f0 = z) (hb : b.1.f0 = z) : (if c then a else b).1.f0 = z := by split <;> assumption
theorem one_at (s : ByteArray) (t : RdS) : (oneD s t).1.f0 = t.1 := by
  have hr : ∀ (f : Int) (r k : Nat) (x : S82) (t : RdS), (rowsD s f r k x t).1.f0 = x.f0 := by
    intro f r
    induction r with
    | zero => intro k x t; rfl
    | succ r ih =>
      intro k x t
      unfold rowsD
      split
      · rfl
      · split
        · rw [ih]
        · rw [ih]
  have hc : ∀ (f : Int) (x : S82) (t : RdS), (choD s x f t).1.f0 = x.f0 := by
    intro f x t
    unfold choD
    split
    · unfold choD10
      split
      · rfl
      · rw [hr]; rfl
    · unfold choD11
      split
      · rfl
      · rw [hr]; rfl
  have hb : ∀ (f : Int) (x : S82) (t : RdS), (bodyD s x f t).1.f0 = x.f0 := by
    intro f x t
    unfold bodyD moreD
    repeat' (with_reducible refine ite_f0 ?_ ?_)
    all_goals first
      | exact hc _ _ _
      | rfl
  unfold oneD
  split
  · split
    · rw [hb]; rfl
    · rfl
  · rw [hb]; rfl
theorem rows_f7 {s : ByteArray} {f : Int} : ∀ (r k : Nat) {x : S82} {t : RdS}, OKR s t → ((rowsD s f r k x t).1.f7.length : Int) ≤ x.f7.length + ((s.size : Int) - t.1) + 1
  | 0, k, x, t, h => by have := h.2.1; show (x.f7.length : Int) ≤ _; omega
  | r + 1, k, x, t, h => by
    have := h.2.1
    have key : ∀ (y : S82) (t1 : RdS), y.f7.length = x.f7.length + 1 → OKR s t1 → (t1.2.1 = 0 → t.1 + 1 ≤ t1.1) → ((rowsD s f r (k + 1) y t1).1.f7.length : Int) ≤ x.f7.length + ((s.size : Int) - t.1) + 1 := by
      intro y t1 hy h1 hz
      by_cases hc : t1.2.1 = 0
      · have h2 := rows_f7 (f := f) r (k + 1) (x := y) h1
        have h3 := hz hc
        omega
      · have e : (rowsD s f r (k + 1) y t1).1 = y := by
          cases r with
          | zero => rfl
          | succ r => unfold rowsD; rw [if_pos hc]
        rw [e]
        omega
    unfold rowsD
    split
    · show (x.f7.length : Int) ≤ _; omega
    · split
      · have ho : OKR s (if 0 < k ∧ (sgnR s t 4).1 ≤ rd x.f6 ((k : Int) - 1) then failR (sgnR s t 4).2 15 x.f0 else (sgnR s t 4).2) := okr_if ((h.sgn 4).fail _ _) (h.sgn 4)
        refine key _ _ (by simp) (ho.sgn 4) (fun hz => ?_)
        obtain ⟨d1, d2⟩ := sgnOK (by decide) ho hz
        obtain ⟨h3, h4⟩ := failIf (by decide) d1
        rw [h4] at d1 d2 ⊢
        obtain ⟨c1, c2⟩ := sgnOK (by decide) h d1
        omega
      · refine key _ _ (by simp) (h.sgn 4) (fun hz => ?_)
        obtain ⟨c1, c2⟩ := sgnOK (by decide) h hz
        omega
def F7 (p : S82 × RdS) : Prop := p.1.f7.length ≤ 100000
theorem F7.ite {c : Prop} [Decidable c] {a b : S82 × RdS} (ha : F7 a) (hb : F7 b) : F7 (if c then a else b) := by split <;> assumption
theorem cho_f7 {s : ByteArray} {f : Int} {x : S82} {t : RdS} (h : OKR s t) (hx : x.f7 = []) : F7 (choD s x f t) := by
  have h1 : OKR s (headD s x t).2 := (OKR.pad 4 h).sgn 4
  have hs := h.2.2
  unfold choD
  refine F7.ite ?_ ?_
  · unfold choD10
    refine F7.ite (show 1 ≤ 100000 by decide) ?_
    have h2 := rows_f7 (s := s) (f := 10) ((sgnR s (sgnR s (headD s x t).2 4).2 4).1 - (sgnR s (headD s x t).2 4).1 + 1).toNat 0 (x := ⟨x.f0, x.f1, x.f2, x.f3, x.f4, (sgnR s (headD s x t).2 4).1, x.f6, (headD s x t).1.f7⟩) ((h1.sgn 4).sgn 4)
    have h3 : (headD s x t).1.f7.length = 1 := rfl
    have := ((h1.sgn 4).sgn 4).1
    unfold F7
    dsimp only at h2
    rw [h3] at h2
    have h4 : ((rowsD s 10 ((sgnR s (sgnR s (headD s x t).2 4).2 4).1 - (sgnR s (headD s x t).2 4).1 + 1).toNat 0 ⟨x.f0, x.f1, x.f2, x.f3, x.f4, (sgnR s (headD s x t).2 4).1, x.f6, (headD s x t).1.f7⟩ (sgnR s (sgnR s (headD s x t).2 4).2 4).2).1.f7.length : Int) ≤ 100000 := by omega
    exact Int.ofNat_le.1 h4
  · unfold choD11
    refine F7.ite (show 1 ≤ 100000 by decide) ?_
    have h2 := rows_f7 (s := s) (f := 11) (sgnR s (headD s x t).2 4).1.toNat 0 (x := (headD s x t).1) (h1.sgn 4)
    have h3 : (headD s x t).1.f7.length = 1 := rfl
    have := (h1.sgn 4).1
    unfold F7
    rw [h3] at h2
    omega
theorem body_f7 {s : ByteArray} {f : Int} {x : S82} {t : RdS} (h : OKR s t) (hx : x.f7 = []) : F7 (bodyD s x f t) := by
  unfold bodyD moreD
  repeat' (with_reducible refine F7.ite ?_ ?_)
  all_goals first
    | exact cho_f7 h hx
    | (show x.f7.length ≤ 100000; rw [hx]; decide)
    | (show 1 ≤ 100000; decide)
theorem one_len {s : ByteArray} {t : RdS} (h : OKR s t) : (oneD s t).1.f7.length ≤ 100000 := by
  show F7 (oneD s t)
  unfold oneD
  refine F7.ite (F7.ite (body_f7 ((h.num 1).num 1) rfl) (show 0 ≤ 100000 by decide)) (body_f7 (h.num 1) rfl)
theorem IR.row7 {W : World} {B n c : Nat} {ad : Addr} {l : List S82} {u : Value} (h : IR W B (.slice (some ad) n c) l) (k : Nat) (hk : k < l.length) (hu : W.cell? ⟨(ad.add (k * 8)).block, (ad.add (k * 8)).off + 7, none⟩ = some u) : RW W B u l[k].f7 := by
  obtain ⟨g, rfl⟩ := Kd.R_head (Kd.S_R h)
  obtain ⟨hn, hc, hC⟩ := Kd.S_reads' h
  obtain ⟨cs, hcl, hM, hcc⟩ := Kd.S_get h ⟨0, 0, false, 0, 0, 0, [], []⟩ (k : Int) (by omega) (by omega)
  obtain ⟨v6, v7, rfl, g6, g7⟩ := k82_openM hM
  have h1 := hcc 7 v7 rfl
  rw [Int.toNat_natCast] at h1 g7
  rw [List.getD_eq_getElem?_getD, List.getElem?_eq_getElem hk] at g7
  have e : v7 = u := by
    rw [add_plain] at hu h1
    have h2 : W.cell? ⟨g, k * 8 + 7, none⟩ = some v7 := h1
    rw [show W.cell? ⟨g, k * 8 + 7, none⟩ = some u from hu] at h2
    injection h2 with h2
    exact h2.symm
  subst e
  exact Kd.R_mono g7 (fun _ _ => trivial)
theorem chk1_cons (s : ByteArray) (ks : List Int) (x0 y : Int) (r : List Int) (t : RdS) : chk1 s ks x0 (y :: r) t = chk1 s ks x0 r (if badT s ks y = true then failR t 16 x0 else t) := rfl
def code_Decode.f (a0 : ByteArray) : Option (List S82 × Int × Int) := some (decD a0)
end Go.Proofs.Ytfnjbmpolggdeaa.CW
end
section
namespace Go.Proofs.Ytfnjbmpolggdeaa.CW
open Go.RowKit Go.Lib Go.Proofs.YtfnjbmpolggdeaaW.PrintWords Go.Proofs.YtfnjbmpolggdeaaW.PrintLast Go.Proofs.YtfnjbmpolggdeaaW.PrintMore
set_option linter.unusedVariables false
set_option linter.unusedSimpArgs false
set_option maxHeartbeats 40000000 in
set_option maxRecDepth 100000 in
theorem decOne_any (w0 w : World) (g : Nat) (s : ByteArray) (t : RdS) (ht : OKR s t) (hI : RI w0 w g s t) :
    Calls Try.prog 95 #[.agg #[.pointer (some ⟨g, 0, none⟩)]] w (OnePost w0 w g s (oneD s t)) := by
  obtain ⟨o1, o2⟩ := num_range s t 1 (by decide)
  have o3 : (numR s t 1).1 < 256 := o2
  clear o2
  have HU : Aside0 (IntKind.u8.wrap (numR s t 1).1 = (numR s t 1).1) := ⟨by rw [IntKind.wrap_u8]; omega⟩
  have HWW := Aside0.mk hI.2.size
  have HO0 := Aside0.mk ht
  have H0 := Aside0.mk (HS.start hI)
  clear hI ht
  go_enter Try.func95, Try.ntmps95
  have e0 : ((w.alloc (.cells #[.pointer (some ⟨g, 0, none⟩)] 144)).alloc (.cells #[.int .i64 0, .int .u8 0, .bool false, .int .i64 0, .int .i64 0, .int .i64 0, .slice none 0 0, .slice none 0 0] 82)).cell? ⟨w.heap.size, 0, none⟩ = some (.pointer (some ⟨g, 0, none⟩)) := blk_cell H0.out.dec 0
  have e0a : ∀ o, ((((w.alloc (.cells #[.pointer (some ⟨g, 0, none⟩)] 144)).alloc (.cells #[.int .i64 0, .int .u8 0, .bool false, .int .i64 0, .int .i64 0, .int .i64 0, .slice none 0 0, .slice none 0 0] 82)).drew).alloc o).cell? ⟨w.heap.size, 0, none⟩ = some (.pointer (some ⟨g, 0, none⟩)) := fun o => pw_cell_below (below_alloc (drewB _) o) e0
  have e0b : ∀ o, ((((w.alloc (.cells #[.pointer (some ⟨g, 0, none⟩)] 144)).alloc (.cells #[.int .i64 0, .int .u8 0, .bool false, .int .i64 0, .int .i64 0, .int .i64 0, .slice none 0 0, .slice none 0 0] 82)).alloc o).drew).cell? ⟨w.heap.size, 0, none⟩ = some (.pointer (some ⟨g, 0, none⟩)) := fun o => pw_cell_below (below_alloc (Below.refl _ _) o) e0
  have HSZ : Aside0 (((w.alloc (.cells #[.pointer (some ⟨g, 0, none⟩)] 144)).alloc (.cells #[.int .i64 0, .int .u8 0, .bool false, .int .i64 0, .int .i64 0, .int .i64 0, .slice none 0 0, .slice none 0 0] 82)).heap.size = w.heap.size + 1 + 1) := ⟨(Array.size_push _).trans (congrArg (· + 1) (Array.size_push _))⟩
  go_upto_region 1 with (fail)
  go_cut [3] from 6 to 13 (fun vv wc => ∃ bx, vv = .pointer (some ⟨bx, 0, none⟩) ∧ Aside0 (OS w0 w wc g s (numR s t 1).2 bx (X0 t (numR s t 1).1 false) (.slice none 0 0) (.slice none 0 0)))
  case first =>
    go_region_law (first | (go_simp; refine (at_any w0 _ g s t (H0.out.below (drewB _)).ri).mono ?_; rintro e1 w1 ⟨rfl, hI1, hk1⟩; dsimp only; have H1 := Aside0.mk ((H0.out.below (drewB _)).rd hI1 hk1); have q1 : w1.cell? ⟨w.heap.size, 0, none⟩ = some (.pointer (some ⟨g, 0, none⟩)) := blk_cell H1.out.dec 0; have q1a : ∀ o, (w1.alloc o).cell? ⟨w.heap.size, 0, none⟩ = some (.pointer (some ⟨g, 0, none⟩)) := fun o => pw_cell_below (below_alloc (Below.refl _ _) o) q1) | (go_simp; refine (at_any w0 _ g s t ((H0.out.below (below_alloc (Below.refl _ _) (.cells #[.int .i64 0, .int .u8 0, .bool false, .int .i64 0, .int .i64 0, .int .i64 0, .slice none 0 0, .slice none 0 0] 82))).below (drewB _)).ri).mono ?_; rintro e1 w1 ⟨rfl, hI1, hk1⟩; dsimp only; have H1 := Aside0.mk (((H0.out.below (below_alloc (Below.refl _ _) (.cells #[.int .i64 0, .int .u8 0, .bool false, .int .i64 0, .int .i64 0, .int .i64 0, .slice none 0 0, .slice none 0 0] 82))).below (drewB _)).rd hI1 hk1); have q1 : w1.cell? ⟨w.heap.size, 0, none⟩ = some (.pointer (some ⟨g, 0, none⟩)) := blk_cell H1.out.dec 0; have q1a : ∀ o, (w1.alloc o).cell? ⟨w.heap.size, 0, none⟩ = some (.pointer (some ⟨g, 0, none⟩)) := fun o => pw_cell_below (below_alloc (Below.refl _ _) o) q1; have BX1 : w1.heap[w.heap.size + 1 + 1]? = some (.cells #[.int .i64 0, .int .u8 0, .bool false, .int .i64 0, .int .i64 0, .int .i64 0, .slice none 0 0, .slice none 0 0] 82 (0, 0)) := by rw [← HSZ.out]; exact H0.out.nx ⟨hk1.1, hk1.2⟩) | (go_simp; refine (num_any w0 _ g s t 1 1 rfl (by decide) HO0.out (H1.out.below (below_alloc (Below.refl _ _) (.cells #[.int .i64 0, .int .u8 0, .bool false, .int .i64 0, .int .i64 0, .int .i64 0, .slice none 0 0, .slice none 0 0] 82))).ri).mono ?_; rintro e2 w2 ⟨rfl, hI2, hk2⟩; dsimp only; have H2 := Aside0.mk ((H1.out.below (below_alloc (Below.refl _ _) (.cells #[.int .i64 0, .int .u8 0, .bool false, .int .i64 0, .int .i64 0, .int .i64 0, .slice none 0 0, .slice none 0 0] 82))).rd hI2 hk2); have q2 : w2.cell? ⟨w.heap.size, 0, none⟩ = some (.pointer (some ⟨g, 0, none⟩)) := blk_cell H2.out.dec 0; have BX : w2.heap[w1.heap.size]? = some (.cells #[.int .i64 0, .int .u8 0, .bool false, .int .i64 0, .int .i64 0, .int .i64 0, .slice none 0 0, .slice none 0 0] 82 (0, 0)) := H1.out.nx hk2; have a0 : w2.cell? ⟨w1.heap.size, 0, none⟩ = some _ := blk_cell BX 0; have f0 : w2.frozen? ⟨w1.heap.size, 0, none⟩ = false := blk_frozen BX 0; have a1 : w2.cell? ⟨w1.heap.size, 1, none⟩ = some _ := blk_cell BX 1; have f1 : w2.frozen? ⟨w1.heap.size, 1, none⟩ = false := blk_frozen BX 1; have a2 : w2.cell? ⟨w1.heap.size, 2, none⟩ = some _ := blk_cell BX 2; have f2 : w2.frozen? ⟨w1.heap.size, 2, none⟩ = false := blk_frozen BX 2; have a3 : w2.cell? ⟨w1.heap.size, 3, none⟩ = some _ := blk_cell BX 3; have f3 : w2.frozen? ⟨w1.heap.size, 3, none⟩ = false := blk_frozen BX 3; have a4 : w2.cell? ⟨w1.heap.size, 4, none⟩ = some _ := blk_cell BX 4; have f4 : w2.frozen? ⟨w1.heap.size, 4, none⟩ = false := blk_frozen BX 4; have a5 : w2.cell? ⟨w1.heap.size, 5, none⟩ = some _ := blk_cell BX 5; have f5 : w2.frozen? ⟨w1.heap.size, 5, none⟩ = false := blk_frozen BX 5; have a6 : w2.cell? ⟨w1.heap.size, 6, none⟩ = some _ := blk_cell BX 6; have f6 : w2.frozen? ⟨w1.heap.size, 6, none⟩ = false := blk_frozen BX 6; have a7 : w2.cell? ⟨w1.heap.size, 7, none⟩ = some _ := blk_cell BX 7; have f7 : w2.frozen? ⟨w1.heap.size, 7, none⟩ = false := blk_frozen BX 7) | (go_simp; refine (num_any w0 _ g s t 1 1 rfl (by decide) HO0.out (H1.out).ri).mono ?_; rintro e2 w2 ⟨rfl, hI2, hk2⟩; dsimp only; have H2 := Aside0.mk ((H1.out).rd hI2 hk2); have q2 : w2.cell? ⟨w.heap.size, 0, none⟩ = some (.pointer (some ⟨g, 0, none⟩)) := blk_cell H2.out.dec 0; have BX : w2.heap[w.heap.size + 1 + 1]? = some (.cells #[.int .i64 0, .int .u8 0, .bool false, .int .i64 0, .int .i64 0, .int .i64 0, .slice none 0 0, .slice none 0 0] 82 (0, 0)) := H1.out.nk BX1 hk2; have a0 : w2.cell? ⟨w.heap.size + 1 + 1, 0, none⟩ = some _ := blk_cell BX 0; have f0 : w2.frozen? ⟨w.heap.size + 1 + 1, 0, none⟩ = false := blk_frozen BX 0; have a1 : w2.cell? ⟨w.heap.size + 1 + 1, 1, none⟩ = some _ := blk_cell BX 1; have f1 : w2.frozen? ⟨w.heap.size + 1 + 1, 1, none⟩ = false := blk_frozen BX 1; have a2 : w2.cell? ⟨w.heap.size + 1 + 1, 2, none⟩ = some _ := blk_cell BX 2; have f2 : w2.frozen? ⟨w.heap.size + 1 + 1, 2, none⟩ = false := blk_frozen BX 2; have a3 : w2.cell? ⟨w.heap.size + 1 + 1, 3, none⟩ = some _ := blk_cell BX 3; have f3 : w2.frozen? ⟨w.heap.size + 1 + 1, 3, none⟩ = false := blk_frozen BX 3; have a4 : w2.cell? ⟨w.heap.size + 1 + 1, 4, none⟩ = some _ := blk_cell BX 4; have f4 : w2.frozen? ⟨w.heap.size + 1 + 1, 4, none⟩ = false := blk_frozen BX 4; have a5 : w2.cell? ⟨w.heap.size + 1 + 1, 5, none⟩ = some _ := blk_cell BX 5; have f5 : w2.frozen? ⟨w.heap.size + 1 + 1, 5, none⟩ = false := blk_frozen BX 5; have a6 : w2.cell? ⟨w.heap.size + 1 + 1, 6, none⟩ = some _ := blk_cell BX 6; have f6 : w2.frozen? ⟨w.heap.size + 1 + 1, 6, none⟩ = false := blk_frozen BX 6; have a7 : w2.cell? ⟨w.heap.size + 1 + 1, 7, none⟩ = some _ := blk_cell BX 7; have f7 : w2.frozen? ⟨w.heap.size + 1 + 1, 7, none⟩ = false := blk_frozen BX 7) | (go_simp; refine (num_any w0 _ g s t 1 1 rfl (by decide) HO0.out (H1.out).ri).mono ?_; rintro e2 w2 ⟨rfl, hI2, hk2⟩; dsimp only; have H2 := Aside0.mk ((H1.out).rd hI2 hk2); have q2 : w2.cell? ⟨w.heap.size, 0, none⟩ = some (.pointer (some ⟨g, 0, none⟩)) := blk_cell H2.out.dec 0))
    all_goals
      go_step
      go_step
      go_meet
      case rel =>
        rw [HU.out]
        first
        | exact ⟨_, rfl, ⟨H2.out.first BX (by first | omega | (have := blk_lt H1.out.res; omega)) (by first | omega | (have := blk_lt H1.out.res; omega)) HWW.out _ _⟩⟩
        | exact ⟨_, rfl, ⟨H2.out.last HWW.out _ _⟩⟩
  case rest =>
    obtain ⟨bx, rfl, H1⟩ := hcut
    clear H0 HSZ HU e0 e0a e0b
    have d0_1 : wc.cell? ⟨w.heap.size, 0, none⟩ = some (.pointer (some ⟨g, 0, none⟩)) := blk_cell H1.out.cs.dec 0
    have d1_1 : wc.cell? ⟨bx, 0, none⟩ = some (.int .i64 t.1) := blk_cell H1.out.cs.ins 0
    have d2_1 : wc.cell? ⟨bx, 1, none⟩ = some (.int .u8 (numR s t 1).1) := blk_cell H1.out.cs.ins 1
    have d3_1 : wc.cell? ⟨bx, 2, none⟩ = some (.bool false) := blk_cell H1.out.cs.ins 2
    have d4_1 : wc.cell? ⟨bx, 3, none⟩ = some (.int .i64 0) := blk_cell H1.out.cs.ins 3
    have d5_1 : wc.cell? ⟨bx, 4, none⟩ = some (.int .i64 0) := blk_cell H1.out.cs.ins 4
    have d6_1 : wc.cell? ⟨bx, 7, none⟩ = some (.slice none 0 0) := blk_cell H1.out.cs.ins 7
    have df_1 : ∀ j, wc.frozen? ⟨bx, j, none⟩ = false := fun j => blk_frozen H1.out.cs.ins j
    have hx : formF (numR s t 1).1 = 0 ∨ formF (numR s t 1).1 = 1 ∨ formF (numR s t 1).1 = 2 ∨ formF (numR s t 1).1 = 3 ∨ formF (numR s t 1).1 = 4 ∨ formF (numR s t 1).1 = 5 ∨ formF (numR s t 1).1 = 6 ∨ formF (numR s t 1).1 = 7 ∨ formF (numR s t 1).1 = 8 ∨ formF (numR s t 1).1 = 9 ∨ formF (numR s t 1).1 = 10 ∨ formF (numR s t 1).1 = 11 ∨ formF (numR s t 1).1 = 12 ∨ formF (numR s t 1).1 = 13 ∨ formF (numR s t 1).1 = 14 ∨ formF (numR s t 1).1 = 15 := by have := formF_le (numR s t 1).1; omega
    rcases hx with hf | hf | hf | hf | hf | hf | hf | hf | hf | hf | hf | hf | hf | hf | hf | hf
    · have HFS : Aside0 (code_form.f 3 (numR s t 1).1 = some 0) := ⟨by rw [formF_some, hf]⟩
      have HM : Aside0 (oneD s t = moreD s (⟨t.1, (numR s t 1).1, false, 0, 0, 0, [], []⟩ : S82) 0 (numR s t 1).2) := ⟨by unfold oneD bodyD; rw [hf, if_neg (by decide), if_neg (by decide), if_neg (by decide), if_neg (by decide), if_neg (by decide), if_neg (by decide), if_neg (by decide), if_neg (by decide), if_neg (by decide), if_neg (by decide)]; rfl⟩
      clear hf
      go_upto_region 34 with (first | (go_at_call 78; refine (code_form.calls 3 _ _ _ HFS.out).mono ?_; rintro e2 w2 ⟨rfl, hd2⟩; have H2 := Aside0.mk ((H1.out).below hd2.below); have d0_2 : w2.cell? ⟨w.heap.size, 0, none⟩ = some (.pointer (some ⟨g, 0, none⟩)) := blk_cell H2.out.cs.dec 0; have d1_2 : w2.cell? ⟨bx, 0, none⟩ = some (.int .i64 t.1) := blk_cell H2.out.cs.ins 0; have d2_2 : w2.cell? ⟨bx, 1, none⟩ = some (.int .u8 (numR s t 1).1) := blk_cell H2.out.cs.ins 1; have d3_2 : w2.cell? ⟨bx, 2, none⟩ = some (.bool false) := blk_cell H2.out.cs.ins 2; have d4_2 : w2.cell? ⟨bx, 3, none⟩ = some (.int .i64 0) := blk_cell H2.out.cs.ins 3; have d5_2 : w2.cell? ⟨bx, 4, none⟩ = some (.int .i64 0) := blk_cell H2.out.cs.ins 4; have d6_2 : w2.cell? ⟨bx, 7, none⟩ = some (.slice none 0 0) := blk_cell H2.out.cs.ins 7; have df_2 : ∀ j, w2.frozen? ⟨bx, j, none⟩ = false := fun j => blk_frozen H2.out.cs.ins j; clear hd2) | (go_at_call 125; refine (more_dx w0 _ g s (numR s t 1).2 bx (⟨t.1, (numR s t 1).1, false, 0, 0, 0, [], []⟩ : S82) 0 (by decide) (HO0.out.num 1) H2.out.hs.ri H2.out.cs.ins rfl rfl H2.out.cs.new).mono ?_; rintro e3 w3 ⟨rfl, v6, v7, h3⟩; have E := Aside0.mk (H2.out.more h3); clear h3) | go_in)
      generalize moreD s (⟨t.1, (numR s t 1).1, false, 0, 0, 0, [], []⟩ : S82) 0 (numR s t 1).2 = p at *
      obtain ⟨u6, k6, e6⟩ := Kd.R_slice E.out.r6
      subst e6
      obtain ⟨u7, k7, e7⟩ := Kd.R_slice E.out.r7
      subst e7
      have c0 : w3.cell? ⟨bx, 0, none⟩ = some (.int .i64 p.1.f0) := blk_cell E.out.ins 0
      have r0 : w3.cell? ⟨w.heap.size + 1, 0, none⟩ = some _ := blk_cell E.out.res 0
      have c1 : w3.cell? ⟨bx, 1, none⟩ = some (.int .u8 p.1.f1) := blk_cell E.out.ins 1
      have r1 : w3.cell? ⟨w.heap.size + 1, 1, none⟩ = some _ := blk_cell E.out.res 1
      have c2 : w3.cell? ⟨bx, 2, none⟩ = some (.bool p.1.f2) := blk_cell E.out.ins 2
      have r2 : w3.cell? ⟨w.heap.size + 1, 2, none⟩ = some _ := blk_cell E.out.res 2
      have c3 : w3.cell? ⟨bx, 3, none⟩ = some (.int .i64 p.1.f3) := blk_cell E.out.ins 3
      have r3 : w3.cell? ⟨w.heap.size + 1, 3, none⟩ = some _ := blk_cell E.out.res 3
      have c4 : w3.cell? ⟨bx, 4, none⟩ = some (.int .i64 p.1.f4) := blk_cell E.out.ins 4
      have r4 : w3.cell? ⟨w.heap.size + 1, 4, none⟩ = some _ := blk_cell E.out.res 4
      have c5 : w3.cell? ⟨bx, 5, none⟩ = some (.int .i64 p.1.f5) := blk_cell E.out.ins 5
      have r5 : w3.cell? ⟨w.heap.size + 1, 5, none⟩ = some _ := blk_cell E.out.res 5
      have c6 : w3.cell? ⟨bx, 6, none⟩ = some (.slice u6 p.1.f6.length k6) := blk_cell E.out.ins 6
      have r6 : w3.cell? ⟨w.heap.size + 1, 6, none⟩ = some _ := blk_cell E.out.res 6
      have c7 : w3.cell? ⟨bx, 7, none⟩ = some (.slice u7 p.1.f7.length k7) := blk_cell E.out.ins 7
      have r7 : w3.cell? ⟨w.heap.size + 1, 7, none⟩ = some _ := blk_cell E.out.res 7
      have rf : ∀ j, w3.frozen? ⟨w.heap.size + 1, j, none⟩ = false := fun j => blk_frozen E.out.res j
      have HFIN := Aside0.mk (E.out.fin HWW.out)
      go_wp2
      refine bodyPost_ret (results_cell_row rfl _ _ (w.heap.size + 1) 82 _ (0, 0) _ rfl HFIN.out.1 Try.underlying82 rfl (by kernel_rfl)) rfl ?_
      rw [HM.out]
      exact ⟨_, _, rfl, HFIN.out.2.1, HFIN.out.2.2.1, HFIN.out.2.2.2.1, HFIN.out.2.2.2.2⟩
    · have HFS : Aside0 (code_form.f 3 (numR s t 1).1 = some 1) := ⟨by rw [formF_some, hf]⟩
      have HM : Aside0 (oneD s t = ((⟨t.1, (numR s t 1).1, false, 0, 0, 0, [], []⟩ : S82), failR (numR s t 1).2 14 t.1)) := ⟨by unfold oneD bodyD; rw [hf, if_neg (by decide), if_pos rfl]; rfl⟩
      clear hf
      go_upto_region 34 with (first | (go_at_call 78; refine (code_form.calls 3 _ _ _ HFS.out).mono ?_; rintro e2 w2 ⟨rfl, hd2⟩; have H2 := Aside0.mk ((H1.out).below hd2.below); have d0_2 : w2.cell? ⟨w.heap.size, 0, none⟩ = some (.pointer (some ⟨g, 0, none⟩)) := blk_cell H2.out.cs.dec 0; have d1_2 : w2.cell? ⟨bx, 0, none⟩ = some (.int .i64 t.1) := blk_cell H2.out.cs.ins 0; have d2_2 : w2.cell? ⟨bx, 1, none⟩ = some (.int .u8 (numR s t 1).1) := blk_cell H2.out.cs.ins 1; have d3_2 : w2.cell? ⟨bx, 2, none⟩ = some (.bool false) := blk_cell H2.out.cs.ins 2; have d4_2 : w2.cell? ⟨bx, 3, none⟩ = some (.int .i64 0) := blk_cell H2.out.cs.ins 3; have d5_2 : w2.cell? ⟨bx, 4, none⟩ = some (.int .i64 0) := blk_cell H2.out.cs.ins 4; have d6_2 : w2.cell? ⟨bx, 7, none⟩ = some (.slice none 0 0) := blk_cell H2.out.cs.ins 7; have df_2 : ∀ j, w2.frozen? ⟨bx, j, none⟩ = false := fun j => blk_frozen H2.out.cs.ins j; clear hd2) | (go_at_call 73; refine (fail_any w0 _ g s (numR s t 1).2 14 t.1 (H2.out).hs.ri).mono ?_; rintro e3 w3 ⟨rfl, hI3, hk3⟩; have H3 := Aside0.mk ((H2.out).rd hI3 hk3); have d0_3 : w3.cell? ⟨w.heap.size, 0, none⟩ = some (.pointer (some ⟨g, 0, none⟩)) := blk_cell H3.out.cs.dec 0; have d1_3 : w3.cell? ⟨bx, 0, none⟩ = some (.int .i64 t.1) := blk_cell H3.out.cs.ins 0; have d2_3 : w3.cell? ⟨bx, 1, none⟩ = some (.int .u8 (numR s t 1).1) := blk_cell H3.out.cs.ins 1; have d3_3 : w3.cell? ⟨bx, 2, none⟩ = some (.bool false) := blk_cell H3.out.cs.ins 2; have d4_3 : w3.cell? ⟨bx, 3, none⟩ = some (.int .i64 0) := blk_cell H3.out.cs.ins 3; have d5_3 : w3.cell? ⟨bx, 4, none⟩ = some (.int .i64 0) := blk_cell H3.out.cs.ins 4; have d6_3 : w3.cell? ⟨bx, 7, none⟩ = some (.slice none 0 0) := blk_cell H3.out.cs.ins 7; have df_3 : ∀ j, w3.frozen? ⟨bx, j, none⟩ = false := fun j => blk_frozen H3.out.cs.ins j; clear hI3 hk3) | go_in)
      have E := Aside0.mk H3.out.oe
      have c0 : w3.cell? ⟨bx, 0, none⟩ = some (.int .i64 t.1) := blk_cell E.out.ins 0
      have r0 : w3.cell? ⟨w.heap.size + 1, 0, none⟩ = some _ := blk_cell E.out.res 0
      have c1 : w3.cell? ⟨bx, 1, none⟩ = some (.int .u8 (numR s t 1).1) := blk_cell E.out.ins 1
      have r1 : w3.cell? ⟨w.heap.size + 1, 1, none⟩ = some _ := blk_cell E.out.res 1
      have c2 : w3.cell? ⟨bx, 2, none⟩ = some (.bool false) := blk_cell E.out.ins 2
      have r2 : w3.cell? ⟨w.heap.size + 1, 2, none⟩ = some _ := blk_cell E.out.res 2
      have c3 : w3.cell? ⟨bx, 3, none⟩ = some (.int .i64 0) := blk_cell E.out.ins 3
      have r3 : w3.cell? ⟨w.heap.size + 1, 3, none⟩ = some _ := blk_cell E.out.res 3
      have c4 : w3.cell? ⟨bx, 4, none⟩ = some (.int .i64 0) := blk_cell E.out.ins 4
      have r4 : w3.cell? ⟨w.heap.size + 1, 4, none⟩ = some _ := blk_cell E.out.res 4
      have c5 : w3.cell? ⟨bx, 5, none⟩ = some (.int .i64 0) := blk_cell E.out.ins 5
      have r5 : w3.cell? ⟨w.heap.size + 1, 5, none⟩ = some _ := blk_cell E.out.res 5
      have c6 : w3.cell? ⟨bx, 6, none⟩ = some (.slice none 0 0) := blk_cell E.out.ins 6
      have r6 : w3.cell? ⟨w.heap.size + 1, 6, none⟩ = some _ := blk_cell E.out.res 6
      have c7 : w3.cell? ⟨bx, 7, none⟩ = some (.slice none 0 0) := blk_cell E.out.ins 7
      have r7 : w3.cell? ⟨w.heap.size + 1, 7, none⟩ = some _ := blk_cell E.out.res 7
      have rf : ∀ j, w3.frozen? ⟨w.heap.size + 1, j, none⟩ = false := fun j => blk_frozen E.out.res j
      have HFIN := Aside0.mk (E.out.fin HWW.out)
      go_wp2
      refine bodyPost_ret (results_cell_row rfl _ _ (w.heap.size + 1) 82 _ (0, 0) _ rfl HFIN.out.1 Try.underlying82 rfl (by kernel_rfl)) rfl ?_
      rw [HM.out]
      exact ⟨_, _, rfl, HFIN.out.2.1, HFIN.out.2.2.1, HFIN.out.2.2.2.1, HFIN.out.2.2.2.2⟩
    · have HFS : Aside0 (code_form.f 3 (numR s t 1).1 = some 2) := ⟨by rw [formF_some, hf]⟩
      have HM : Aside0 (oneD s t = ((⟨t.1, (numR s t 1).1, false, (sgnR s (numR s t 1).2 1).1, 0, 0, [], []⟩ : S82), (sgnR s (numR s t 1).2 1).2)) := ⟨by unfold oneD bodyD; rw [hf, if_neg (by decide), if_neg (by decide), if_pos rfl]; rfl⟩
      clear hf
      go_upto_region 34 with (first | (go_at_call 78; refine (code_form.calls 3 _ _ _ HFS.out).mono ?_; rintro e2 w2 ⟨rfl, hd2⟩; have H2 := Aside0.mk ((H1.out).below hd2.below); have d0_2 : w2.cell? ⟨w.heap.size, 0, none⟩ = some (.pointer (some ⟨g, 0, none⟩)) := blk_cell H2.out.cs.dec 0; have d1_2 : w2.cell? ⟨bx, 0, none⟩ = some (.int .i64 t.1) := blk_cell H2.out.cs.ins 0; have d2_2 : w2.cell? ⟨bx, 1, none⟩ = some (.int .u8 (numR s t 1).1) := blk_cell H2.out.cs.ins 1; have d3_2 : w2.cell? ⟨bx, 2, none⟩ = some (.bool false) := blk_cell H2.out.cs.ins 2; have d4_2 : w2.cell? ⟨bx, 3, none⟩ = some (.int .i64 0) := blk_cell H2.out.cs.ins 3; have d5_2 : w2.cell? ⟨bx, 4, none⟩ = some (.int .i64 0) := blk_cell H2.out.cs.ins 4; have d6_2 : w2.cell? ⟨bx, 7, none⟩ = some (.slice none 0 0) := blk_cell H2.out.cs.ins 7; have df_2 : ∀ j, w2.frozen? ⟨bx, j, none⟩ = false := fun j => blk_frozen H2.out.cs.ins j; clear hd2) | (go_at_call 124; refine (signed_d w0 _ g s (numR s t 1).2 1 1 rfl (.inl rfl) (HO0.out.num 1) (H2.out).hs.ri).mono ?_; rintro e3 w3 ⟨rfl, hI3, hk3⟩; have H3 := Aside0.mk ((H2.out).rd hI3 hk3); have d0_3 : w3.cell? ⟨w.heap.size, 0, none⟩ = some (.pointer (some ⟨g, 0, none⟩)) := blk_cell H3.out.cs.dec 0; have d1_3 : w3.cell? ⟨bx, 0, none⟩ = some (.int .i64 t.1) := blk_cell H3.out.cs.ins 0; have d2_3 : w3.cell? ⟨bx, 1, none⟩ = some (.int .u8 (numR s t 1).1) := blk_cell H3.out.cs.ins 1; have d3_3 : w3.cell? ⟨bx, 2, none⟩ = some (.bool false) := blk_cell H3.out.cs.ins 2; have d4_3 : w3.cell? ⟨bx, 3, none⟩ = some (.int .i64 0) := blk_cell H3.out.cs.ins 3; have d5_3 : w3.cell? ⟨bx, 4, none⟩ = some (.int .i64 0) := blk_cell H3.out.cs.ins 4; have d6_3 : w3.cell? ⟨bx, 7, none⟩ = some (.slice none 0 0) := blk_cell H3.out.cs.ins 7; have df_3 : ∀ j, w3.frozen? ⟨bx, j, none⟩ = false := fun j => blk_frozen H3.out.cs.ins j; clear hI3 hk3) | go_in)
      have H9 := Aside0.mk (H3.out.set 3 (.int .i64 (sgnR s (numR s t 1).2 1).1) (⟨t.1, (numR s t 1).1, false, (sgnR s (numR s t 1).2 1).1, 0, 0, [], []⟩ : S82) rfl rfl rfl)
      generalize World.setCell _ ⟨bx, 3, none⟩ _ = W9 at *
      have E := Aside0.mk H9.out.oe
      have c0 : W9.cell? ⟨bx, 0, none⟩ = some (.int .i64 t.1) := blk_cell E.out.ins 0
      have r0 : W9.cell? ⟨w.heap.size + 1, 0, none⟩ = some _ := blk_cell E.out.res 0
      have c1 : W9.cell? ⟨bx, 1, none⟩ = some (.int .u8 (numR s t 1).1) := blk_cell E.out.ins 1
      have r1 : W9.cell? ⟨w.heap.size + 1, 1, none⟩ = some _ := blk_cell E.out.res 1
      have c2 : W9.cell? ⟨bx, 2, none⟩ = some (.bool false) := blk_cell E.out.ins 2
      have r2 : W9.cell? ⟨w.heap.size + 1, 2, none⟩ = some _ := blk_cell E.out.res 2
      have c3 : W9.cell? ⟨bx, 3, none⟩ = some (.int .i64 (sgnR s (numR s t 1).2 1).1) := blk_cell E.out.ins 3
      have r3 : W9.cell? ⟨w.heap.size + 1, 3, none⟩ = some _ := blk_cell E.out.res 3
      have c4 : W9.cell? ⟨bx, 4, none⟩ = some (.int .i64 0) := blk_cell E.out.ins 4
      have r4 : W9.cell? ⟨w.heap.size + 1, 4, none⟩ = some _ := blk_cell E.out.res 4
      have c5 : W9.cell? ⟨bx, 5, none⟩ = some (.int .i64 0) := blk_cell E.out.ins 5
      have r5 : W9.cell? ⟨w.heap.size + 1, 5, none⟩ = some _ := blk_cell E.out.res 5
      have c6 : W9.cell? ⟨bx, 6, none⟩ = some (.slice none 0 0) := blk_cell E.out.ins 6
      have r6 : W9.cell? ⟨w.heap.size + 1, 6, none⟩ = some _ := blk_cell E.out.res 6
      have c7 : W9.cell? ⟨bx, 7, none⟩ = some (.slice none 0 0) := blk_cell E.out.ins 7
      have r7 : W9.cell? ⟨w.heap.size + 1, 7, none⟩ = some _ := blk_cell E.out.res 7
      have rf : ∀ j, W9.frozen? ⟨w.heap.size + 1, j, none⟩ = false := fun j => blk_frozen E.out.res j
      have HFIN := Aside0.mk (E.out.fin HWW.out)
      go_wp2
      refine bodyPost_ret (results_cell_row rfl _ _ (w.heap.size + 1) 82 _ (0, 0) _ rfl HFIN.out.1 Try.underlying82 rfl (by kernel_rfl)) rfl ?_
      rw [HM.out]
      exact ⟨_, _, rfl, HFIN.out.2.1, HFIN.out.2.2.1, HFIN.out.2.2.2.1, HFIN.out.2.2.2.2⟩
    · have HFS : Aside0 (code_form.f 3 (numR s t 1).1 = some 3) := ⟨by rw [formF_some, hf]⟩
      have HM : Aside0 (oneD s t = ((⟨t.1, (numR s t 1).1, false, (sgnR s (numR s t 1).2 2).1, 0, 0, [], []⟩ : S82), (sgnR s (numR s t 1).2 2).2)) := ⟨by unfold oneD bodyD; rw [hf, if_neg (by decide), if_neg (by decide), if_neg (by decide), if_pos rfl]; rfl⟩
      clear hf
      go_upto_region 34 with (first | (go_at_call 78; refine (code_form.calls 3 _ _ _ HFS.out).mono ?_; rintro e2 w2 ⟨rfl, hd2⟩; have H2 := Aside0.mk ((H1.out).below hd2.below); have d0_2 : w2.cell? ⟨w.heap.size, 0, none⟩ = some (.pointer (some ⟨g, 0, none⟩)) := blk_cell H2.out.cs.dec 0; have d1_2 : w2.cell? ⟨bx, 0, none⟩ = some (.int .i64 t.1) := blk_cell H2.out.cs.ins 0; have d2_2 : w2.cell? ⟨bx, 1, none⟩ = some (.int .u8 (numR s t 1).1) := blk_cell H2.out.cs.ins 1; have d3_2 : w2.cell? ⟨bx, 2, none⟩ = some (.bool false) := blk_cell H2.out.cs.ins 2; have d4_2 : w2.cell? ⟨bx, 3, none⟩ = some (.int .i64 0) := blk_cell H2.out.cs.ins 3; have d5_2 : w2.cell? ⟨bx, 4, none⟩ = some (.int .i64 0) := blk_cell H2.out.cs.ins 4; have d6_2 : w2.cell? ⟨bx, 7, none⟩ = some (.slice none 0 0) := blk_cell H2.out.cs.ins 7; have df_2 : ∀ j, w2.frozen? ⟨bx, j, none⟩ = false := fun j => blk_frozen H2.out.cs.ins j; clear hd2) | (go_at_call 124; refine (signed_d w0 _ g s (numR s t 1).2 2 2 rfl (.inr (.inl rfl)) (HO0.out.num 1) (H2.out).hs.ri).mono ?_; rintro e3 w3 ⟨rfl, hI3, hk3⟩; have H3 := Aside0.mk ((H2.out).rd hI3 hk3); have d0_3 : w3.cell? ⟨w.heap.size, 0, none⟩ = some (.pointer (some ⟨g, 0, none⟩)) := blk_cell H3.out.cs.dec 0; have d1_3 : w3.cell? ⟨bx, 0, none⟩ = some (.int .i64 t.1) := blk_cell H3.out.cs.ins 0; have d2_3 : w3.cell? ⟨bx, 1, none⟩ = some (.int .u8 (numR s t 1).1) := blk_cell H3.out.cs.ins 1; have d3_3 : w3.cell? ⟨bx, 2, none⟩ = some (.bool false) := blk_cell H3.out.cs.ins 2; have d4_3 : w3.cell? ⟨bx, 3, none⟩ = some (.int .i64 0) := blk_cell H3.out.cs.ins 3; have d5_3 : w3.cell? ⟨bx, 4, none⟩ = some (.int .i64 0) := blk_cell H3.out.cs.ins 4; have d6_3 : w3.cell? ⟨bx, 7, none⟩ = some (.slice none 0 0) := blk_cell H3.out.cs.ins 7; have df_3 : ∀ j, w3.frozen? ⟨bx, j, none⟩ = false := fun j => blk_frozen H3.out.cs.ins j; clear hI3 hk3) | go_in)
      have H9 := Aside0.mk (H3.out.set 3 (.int .i64 (sgnR s (numR s t 1).2 2).1) (⟨t.1, (numR s t 1).1, false, (sgnR s (numR s t 1).2 2).1, 0, 0, [], []⟩ : S82) rfl rfl rfl)
      generalize World.setCell _ ⟨bx, 3, none⟩ _ = W9 at *
      have E := Aside0.mk H9.out.oe
      have c0 : W9.cell? ⟨bx, 0, none⟩ = some (.int .i64 t.1) := blk_cell E.out.ins 0
      have r0 : W9.cell? ⟨w.heap.size + 1, 0, none⟩ = some _ := blk_cell E.out.res 0
      have c1 : W9.cell? ⟨bx, 1, none⟩ = some (.int .u8 (numR s t 1).1) := blk_cell E.out.ins 1
      have r1 : W9.cell? ⟨w.heap.size + 1, 1, none⟩ = some _ := blk_cell E.out.res 1
      have c2 : W9.cell? ⟨bx, 2, none⟩ = some (.bool false) := blk_cell E.out.ins 2
      have r2 : W9.cell? ⟨w.heap.size + 1, 2, none⟩ = some _ := blk_cell E.out.res 2
      have c3 : W9.cell? ⟨bx, 3, none⟩ = some (.int .i64 (sgnR s (numR s t 1).2 2).1) := blk_cell E.out.ins 3
      have r3 : W9.cell? ⟨w.heap.size + 1, 3, none⟩ = some _ := blk_cell E.out.res 3
      have c4 : W9.cell? ⟨bx, 4, none⟩ = some (.int .i64 0) := blk_cell E.out.ins 4
      have r4 : W9.cell? ⟨w.heap.size + 1, 4, none⟩ = some _ := blk_cell E.out.res 4
      have c5 : W9.cell? ⟨bx, 5, none⟩ = some (.int .i64 0) := blk_cell E.out.ins 5
      have r5 : W9.cell? ⟨w.heap.size + 1, 5, none⟩ = some _ := blk_cell E.out.res 5
      have c6 : W9.cell? ⟨bx, 6, none⟩ = some (.slice none 0 0) := blk_cell E.out.ins 6
      have r6 : W9.cell? ⟨w.heap.size + 1, 6, none⟩ = some _ := blk_cell E.out.res 6
      have c7 : W9.cell? ⟨bx, 7, none⟩ = some (.slice none 0 0) := blk_cell E.out.ins 7
      have r7 : W9.cell? ⟨w.heap.size + 1, 7, none⟩ = some _ := blk_cell E.out.res 7
      have rf : ∀ j, W9.frozen? ⟨w.heap.size + 1, j, none⟩ = false := fun j => blk_frozen E.out.res j
      have HFIN := Aside0.mk (E.out.fin HWW.out)
      go_wp2
      refine bodyPost_ret (results_cell_row rfl _ _ (w.heap.size + 1) 82 _ (0, 0) _ rfl HFIN.out.1 Try.underlying82 rfl (by kernel_rfl)) rfl ?_
      rw [HM.out]
      exact ⟨_, _, rfl, HFIN.out.2.1, HFIN.out.2.2.1, HFIN.out.2.2.2.1, HFIN.out.2.2.2.2⟩
    · have HFS : Aside0 (code_form.f 3 (numR s t 1).1 = some 4) := ⟨by rw [formF_some, hf]⟩
      have HM : Aside0 (oneD s t = ((⟨t.1, (numR s t 1).1, false, (numR s (numR s t 1).2 1).1, 0, 0, [], []⟩ : S82), (numR s (numR s t 1).2 1).2)) := ⟨by unfold oneD bodyD; rw [hf, if_neg (by decide), if_neg (by decide), if_neg (by decide), if_neg (by decide), if_pos rfl]; rfl⟩
      clear hf
      go_upto_region 34 with (first | (go_at_call 78; refine (code_form.calls 3 _ _ _ HFS.out).mono ?_; rintro e2 w2 ⟨rfl, hd2⟩; have H2 := Aside0.mk ((H1.out).below hd2.below); have d0_2 : w2.cell? ⟨w.heap.size, 0, none⟩ = some (.pointer (some ⟨g, 0, none⟩)) := blk_cell H2.out.cs.dec 0; have d1_2 : w2.cell? ⟨bx, 0, none⟩ = some (.int .i64 t.1) := blk_cell H2.out.cs.ins 0; have d2_2 : w2.cell? ⟨bx, 1, none⟩ = some (.int .u8 (numR s t 1).1) := blk_cell H2.out.cs.ins 1; have d3_2 : w2.cell? ⟨bx, 2, none⟩ = some (.bool false) := blk_cell H2.out.cs.ins 2; have d4_2 : w2.cell? ⟨bx, 3, none⟩ = some (.int .i64 0) := blk_cell H2.out.cs.ins 3; have d5_2 : w2.cell? ⟨bx, 4, none⟩ = some (.int .i64 0) := blk_cell H2.out.cs.ins 4; have d6_2 : w2.cell? ⟨bx, 7, none⟩ = some (.slice none 0 0) := blk_cell H2.out.cs.ins 7; have df_2 : ∀ j, w2.frozen? ⟨bx, j, none⟩ = false := fun j => blk_frozen H2.out.cs.ins j; clear hd2) | (go_at_call 68; refine (num_any w0 _ g s (numR s t 1).2 1 1 rfl (by decide) (HO0.out.num 1) (H2.out).hs.ri).mono ?_; rintro e3 w3 ⟨rfl, hI3, hk3⟩; have H3 := Aside0.mk ((H2.out).rd hI3 hk3); have d0_3 : w3.cell? ⟨w.heap.size, 0, none⟩ = some (.pointer (some ⟨g, 0, none⟩)) := blk_cell H3.out.cs.dec 0; have d1_3 : w3.cell? ⟨bx, 0, none⟩ = some (.int .i64 t.1) := blk_cell H3.out.cs.ins 0; have d2_3 : w3.cell? ⟨bx, 1, none⟩ = some (.int .u8 (numR s t 1).1) := blk_cell H3.out.cs.ins 1; have d3_3 : w3.cell? ⟨bx, 2, none⟩ = some (.bool false) := blk_cell H3.out.cs.ins 2; have d4_3 : w3.cell? ⟨bx, 3, none⟩ = some (.int .i64 0) := blk_cell H3.out.cs.ins 3; have d5_3 : w3.cell? ⟨bx, 4, none⟩ = some (.int .i64 0) := blk_cell H3.out.cs.ins 4; have d6_3 : w3.cell? ⟨bx, 7, none⟩ = some (.slice none 0 0) := blk_cell H3.out.cs.ins 7; have df_3 : ∀ j, w3.frozen? ⟨bx, j, none⟩ = false := fun j => blk_frozen H3.out.cs.ins j; clear hI3 hk3) | go_in)
      have H9 := Aside0.mk (H3.out.set 3 (.int .i64 (numR s (numR s t 1).2 1).1) (⟨t.1, (numR s t 1).1, false, (numR s (numR s t 1).2 1).1, 0, 0, [], []⟩ : S82) rfl rfl rfl)
      generalize World.setCell _ ⟨bx, 3, none⟩ _ = W9 at *
      have E := Aside0.mk H9.out.oe
      have c0 : W9.cell? ⟨bx, 0, none⟩ = some (.int .i64 t.1) := blk_cell E.out.ins 0
      have r0 : W9.cell? ⟨w.heap.size + 1, 0, none⟩ = some _ := blk_cell E.out.res 0
      have c1 : W9.cell? ⟨bx, 1, none⟩ = some (.int .u8 (numR s t 1).1) := blk_cell E.out.ins 1
      have r1 : W9.cell? ⟨w.heap.size + 1, 1, none⟩ = some _ := blk_cell E.out.res 1
      have c2 : W9.cell? ⟨bx, 2, none⟩ = some (.bool false) := blk_cell E.out.ins 2
      have r2 : W9.cell? ⟨w.heap.size + 1, 2, none⟩ = some _ := blk_cell E.out.res 2
      have c3 : W9.cell? ⟨bx, 3, none⟩ = some (.int .i64 (numR s (numR s t 1).2 1).1) := blk_cell E.out.ins 3
      have r3 : W9.cell? ⟨w.heap.size + 1, 3, none⟩ = some _ := blk_cell E.out.res 3
      have c4 : W9.cell? ⟨bx, 4, none⟩ = some (.int .i64 0) := blk_cell E.out.ins 4
      have r4 : W9.cell? ⟨w.heap.size + 1, 4, none⟩ = some _ := blk_cell E.out.res 4
      have c5 : W9.cell? ⟨bx, 5, none⟩ = some (.int .i64 0) := blk_cell E.out.ins 5
      have r5 : W9.cell? ⟨w.heap.size + 1, 5, none⟩ = some _ := blk_cell E.out.res 5
      have c6 : W9.cell? ⟨bx, 6, none⟩ = some (.slice none 0 0) := blk_cell E.out.ins 6
      have r6 : W9.cell? ⟨w.heap.size + 1, 6, none⟩ = some _ := blk_cell E.out.res 6
      have c7 : W9.cell? ⟨bx, 7, none⟩ = some (.slice none 0 0) := blk_cell E.out.ins 7
      have r7 : W9.cell? ⟨w.heap.size + 1, 7, none⟩ = some _ := blk_cell E.out.res 7
      have rf : ∀ j, W9.frozen? ⟨w.heap.size + 1, j, none⟩ = false := fun j => blk_frozen E.out.res j
      have HFIN := Aside0.mk (E.out.fin HWW.out)
      go_wp2
      refine bodyPost_ret (results_cell_row rfl _ _ (w.heap.size + 1) 82 _ (0, 0) _ rfl HFIN.out.1 Try.underlying82 rfl (by kernel_rfl)) rfl ?_
      rw [HM.out]
      exact ⟨_, _, rfl, HFIN.out.2.1, HFIN.out.2.2.1, HFIN.out.2.2.2.1, HFIN.out.2.2.2.2⟩
    · have HFS : Aside0 (code_form.f 3 (numR s t 1).1 = some 5) := ⟨by rw [formF_some, hf]⟩
      have HM : Aside0 (oneD s t = ((⟨t.1, (numR s t 1).1, false, (numR s (numR s t 1).2 2).1, 0, 0, [], []⟩ : S82), (numR s (numR s t 1).2 2).2)) := ⟨by unfold oneD bodyD; rw [hf, if_neg (by decide), if_neg (by decide), if_neg (by decide), if_neg (by decide), if_neg (by decide), if_pos rfl]; rfl⟩
      clear hf
      go_upto_region 34 with (first | (go_at_call 78; refine (code_form.calls 3 _ _ _ HFS.out).mono ?_; rintro e2 w2 ⟨rfl, hd2⟩; have H2 := Aside0.mk ((H1.out).below hd2.below); have d0_2 : w2.cell? ⟨w.heap.size, 0, none⟩ = some (.pointer (some ⟨g, 0, none⟩)) := blk_cell H2.out.cs.dec 0; have d1_2 : w2.cell? ⟨bx, 0, none⟩ = some (.int .i64 t.1) := blk_cell H2.out.cs.ins 0; have d2_2 : w2.cell? ⟨bx, 1, none⟩ = some (.int .u8 (numR s t 1).1) := blk_cell H2.out.cs.ins 1; have d3_2 : w2.cell? ⟨bx, 2, none⟩ = some (.bool false) := blk_cell H2.out.cs.ins 2; have d4_2 : w2.cell? ⟨bx, 3, none⟩ = some (.int .i64 0) := blk_cell H2.out.cs.ins 3; have d5_2 : w2.cell? ⟨bx, 4, none⟩ = some (.int .i64 0) := blk_cell H2.out.cs.ins 4; have d6_2 : w2.cell? ⟨bx, 7, none⟩ = some (.slice none 0 0) := blk_cell H2.out.cs.ins 7; have df_2 : ∀ j, w2.frozen? ⟨bx, j, none⟩ = false := fun j => blk_frozen H2.out.cs.ins j; clear hd2) | (go_at_call 68; refine (num_any w0 _ g s (numR s t 1).2 2 2 rfl (by decide) (HO0.out.num 1) (H2.out).hs.ri).mono ?_; rintro e3 w3 ⟨rfl, hI3, hk3⟩; have H3 := Aside0.mk ((H2.out).rd hI3 hk3); have d0_3 : w3.cell? ⟨w.heap.size, 0, none⟩ = some (.pointer (some ⟨g, 0, none⟩)) := blk_cell H3.out.cs.dec 0; have d1_3 : w3.cell? ⟨bx, 0, none⟩ = some (.int .i64 t.1) := blk_cell H3.out.cs.ins 0; have d2_3 : w3.cell? ⟨bx, 1, none⟩ = some (.int .u8 (numR s t 1).1) := blk_cell H3.out.cs.ins 1; have d3_3 : w3.cell? ⟨bx, 2, none⟩ = some (.bool false) := blk_cell H3.out.cs.ins 2; have d4_3 : w3.cell? ⟨bx, 3, none⟩ = some (.int .i64 0) := blk_cell H3.out.cs.ins 3; have d5_3 : w3.cell? ⟨bx, 4, none⟩ = some (.int .i64 0) := blk_cell H3.out.cs.ins 4; have d6_3 : w3.cell? ⟨bx, 7, none⟩ = some (.slice none 0 0) := blk_cell H3.out.cs.ins 7; have df_3 : ∀ j, w3.frozen? ⟨bx, j, none⟩ = false := fun j => blk_frozen H3.out.cs.ins j; clear hI3 hk3) | go_in)
      have H9 := Aside0.mk (H3.out.set 3 (.int .i64 (numR s (numR s t 1).2 2).1) (⟨t.1, (numR s t 1).1, false, (numR s (numR s t 1).2 2).1, 0, 0, [], []⟩ : S82) rfl rfl rfl)
      generalize World.setCell _ ⟨bx, 3, none⟩ _ = W9 at *
      have E := Aside0.mk H9.out.oe
      have c0 : W9.cell? ⟨bx, 0, none⟩ = some (.int .i64 t.1) := blk_cell E.out.ins 0
      have r0 : W9.cell? ⟨w.heap.size + 1, 0, none⟩ = some _ := blk_cell E.out.res 0
      have c1 : W9.cell? ⟨bx, 1, none⟩ = some (.int .u8 (numR s t 1).1) := blk_cell E.out.ins 1
      have r1 : W9.cell? ⟨w.heap.size + 1, 1, none⟩ = some _ := blk_cell E.out.res 1
      have c2 : W9.cell? ⟨bx, 2, none⟩ = some (.bool false) := blk_cell E.out.ins 2
      have r2 : W9.cell? ⟨w.heap.size + 1, 2, none⟩ = some _ := blk_cell E.out.res 2
      have c3 : W9.cell? ⟨bx, 3, none⟩ = some (.int .i64 (numR s (numR s t 1).2 2).1) := blk_cell E.out.ins 3
      have r3 : W9.cell? ⟨w.heap.size + 1, 3, none⟩ = some _ := blk_cell E.out.res 3
      have c4 : W9.cell? ⟨bx, 4, none⟩ = some (.int .i64 0) := blk_cell E.out.ins 4
      have r4 : W9.cell? ⟨w.heap.size + 1, 4, none⟩ = some _ := blk_cell E.out.res 4
      have c5 : W9.cell? ⟨bx, 5, none⟩ = some (.int .i64 0) := blk_cell E.out.ins 5
      have r5 : W9.cell? ⟨w.heap.size + 1, 5, none⟩ = some _ := blk_cell E.out.res 5
      have c6 : W9.cell? ⟨bx, 6, none⟩ = some (.slice none 0 0) := blk_cell E.out.ins 6
      have r6 : W9.cell? ⟨w.heap.size + 1, 6, none⟩ = some _ := blk_cell E.out.res 6
      have c7 : W9.cell? ⟨bx, 7, none⟩ = some (.slice none 0 0) := blk_cell E.out.ins 7
      have r7 : W9.cell? ⟨w.heap.size + 1, 7, none⟩ = some _ := blk_cell E.out.res 7
      have rf : ∀ j, W9.frozen? ⟨w.heap.size + 1, j, none⟩ = false := fun j => blk_frozen E.out.res j
      have HFIN := Aside0.mk (E.out.fin HWW.out)
      go_wp2
      refine bodyPost_ret (results_cell_row rfl _ _ (w.heap.size + 1) 82 _ (0, 0) _ rfl HFIN.out.1 Try.underlying82 rfl (by kernel_rfl)) rfl ?_
      rw [HM.out]
      exact ⟨_, _, rfl, HFIN.out.2.1, HFIN.out.2.2.1, HFIN.out.2.2.2.1, HFIN.out.2.2.2.2⟩
    · have HFS : Aside0 (code_form.f 3 (numR s t 1).1 = some 6) := ⟨by rw [formF_some, hf]⟩
      have HM : Aside0 (oneD s t = ((⟨t.1, (numR s t 1).1, false, (numR s (numR s t 1).2 1).1, 0, 0, [], []⟩ : S82), (numR s (numR s t 1).2 1).2)) := ⟨by unfold oneD bodyD; rw [hf, if_neg (by decide), if_neg (by decide), if_neg (by decide), if_neg (by decide), if_neg (by decide), if_neg (by decide), if_pos rfl]; rfl⟩
      clear hf
      go_upto_region 34 with (first | (go_at_call 78; refine (code_form.calls 3 _ _ _ HFS.out).mono ?_; rintro e2 w2 ⟨rfl, hd2⟩; have H2 := Aside0.mk ((H1.out).below hd2.below); have d0_2 : w2.cell? ⟨w.heap.size, 0, none⟩ = some (.pointer (some ⟨g, 0, none⟩)) := blk_cell H2.out.cs.dec 0; have d1_2 : w2.cell? ⟨bx, 0, none⟩ = some (.int .i64 t.1) := blk_cell H2.out.cs.ins 0; have d2_2 : w2.cell? ⟨bx, 1, none⟩ = some (.int .u8 (numR s t 1).1) := blk_cell H2.out.cs.ins 1; have d3_2 : w2.cell? ⟨bx, 2, none⟩ = some (.bool false) := blk_cell H2.out.cs.ins 2; have d4_2 : w2.cell? ⟨bx, 3, none⟩ = some (.int .i64 0) := blk_cell H2.out.cs.ins 3; have d5_2 : w2.cell? ⟨bx, 4, none⟩ = some (.int .i64 0) := blk_cell H2.out.cs.ins 4; have d6_2 : w2.cell? ⟨bx, 7, none⟩ = some (.slice none 0 0) := blk_cell H2.out.cs.ins 7; have df_2 : ∀ j, w2.frozen? ⟨bx, j, none⟩ = false := fun j => blk_frozen H2.out.cs.ins j; clear hd2) | (go_at_call 68; refine (num_any w0 _ g s (numR s t 1).2 1 1 rfl (by decide) (HO0.out.num 1) (H2.out).hs.ri).mono ?_; rintro e3 w3 ⟨rfl, hI3, hk3⟩; have H3 := Aside0.mk ((H2.out).rd hI3 hk3); have d0_3 : w3.cell? ⟨w.heap.size, 0, none⟩ = some (.pointer (some ⟨g, 0, none⟩)) := blk_cell H3.out.cs.dec 0; have d1_3 : w3.cell? ⟨bx, 0, none⟩ = some (.int .i64 t.1) := blk_cell H3.out.cs.ins 0; have d2_3 : w3.cell? ⟨bx, 1, none⟩ = some (.int .u8 (numR s t 1).1) := blk_cell H3.out.cs.ins 1; have d3_3 : w3.cell? ⟨bx, 2, none⟩ = some (.bool false) := blk_cell H3.out.cs.ins 2; have d4_3 : w3.cell? ⟨bx, 3, none⟩ = some (.int .i64 0) := blk_cell H3.out.cs.ins 3; have d5_3 : w3.cell? ⟨bx, 4, none⟩ = some (.int .i64 0) := blk_cell H3.out.cs.ins 4; have d6_3 : w3.cell? ⟨bx, 7, none⟩ = some (.slice none 0 0) := blk_cell H3.out.cs.ins 7; have df_3 : ∀ j, w3.frozen? ⟨bx, j, none⟩ = false := fun j => blk_frozen H3.out.cs.ins j; clear hI3 hk3) | go_in)
      have H9 := Aside0.mk (H3.out.set 3 (.int .i64 (numR s (numR s t 1).2 1).1) (⟨t.1, (numR s t 1).1, false, (numR s (numR s t 1).2 1).1, 0, 0, [], []⟩ : S82) rfl rfl rfl)
      generalize World.setCell _ ⟨bx, 3, none⟩ _ = W9 at *
      have E := Aside0.mk H9.out.oe
      have c0 : W9.cell? ⟨bx, 0, none⟩ = some (.int .i64 t.1) := blk_cell E.out.ins 0
      have r0 : W9.cell? ⟨w.heap.size + 1, 0, none⟩ = some _ := blk_cell E.out.res 0
      have c1 : W9.cell? ⟨bx, 1, none⟩ = some (.int .u8 (numR s t 1).1) := blk_cell E.out.ins 1
      have r1 : W9.cell? ⟨w.heap.size + 1, 1, none⟩ = some _ := blk_cell E.out.res 1
      have c2 : W9.cell? ⟨bx, 2, none⟩ = some (.bool false) := blk_cell E.out.ins 2
      have r2 : W9.cell? ⟨w.heap.size + 1, 2, none⟩ = some _ := blk_cell E.out.res 2
      have c3 : W9.cell? ⟨bx, 3, none⟩ = some (.int .i64 (numR s (numR s t 1).2 1).1) := blk_cell E.out.ins 3
      have r3 : W9.cell? ⟨w.heap.size + 1, 3, none⟩ = some _ := blk_cell E.out.res 3
      have c4 : W9.cell? ⟨bx, 4, none⟩ = some (.int .i64 0) := blk_cell E.out.ins 4
      have r4 : W9.cell? ⟨w.heap.size + 1, 4, none⟩ = some _ := blk_cell E.out.res 4
      have c5 : W9.cell? ⟨bx, 5, none⟩ = some (.int .i64 0) := blk_cell E.out.ins 5
      have r5 : W9.cell? ⟨w.heap.size + 1, 5, none⟩ = some _ := blk_cell E.out.res 5
      have c6 : W9.cell? ⟨bx, 6, none⟩ = some (.slice none 0 0) := blk_cell E.out.ins 6
      have r6 : W9.cell? ⟨w.heap.size + 1, 6, none⟩ = some _ := blk_cell E.out.res 6
      have c7 : W9.cell? ⟨bx, 7, none⟩ = some (.slice none 0 0) := blk_cell E.out.ins 7
      have r7 : W9.cell? ⟨w.heap.size + 1, 7, none⟩ = some _ := blk_cell E.out.res 7
      have rf : ∀ j, W9.frozen? ⟨w.heap.size + 1, j, none⟩ = false := fun j => blk_frozen E.out.res j
      have HFIN := Aside0.mk (E.out.fin HWW.out)
      go_wp2
      refine bodyPost_ret (results_cell_row rfl _ _ (w.heap.size + 1) 82 _ (0, 0) _ rfl HFIN.out.1 Try.underlying82 rfl (by kernel_rfl)) rfl ?_
      rw [HM.out]
      exact ⟨_, _, rfl, HFIN.out.2.1, HFIN.out.2.2.1, HFIN.out.2.2.2.1, HFIN.out.2.2.2.2⟩
    · have HFS : Aside0 (code_form.f 3 (numR s t 1).1 = some 7) := ⟨by rw [formF_some, hf]⟩
      have HM : Aside0 (oneD s t = ((⟨t.1, (numR s t 1).1, false, (numR s (numR s t 1).2 1).1, (sgnR s (numR s (numR s t 1).2 1).2 1).1, 0, [], []⟩ : S82), (sgnR s (numR s (numR s t 1).2 1).2 1).2)) := ⟨by unfold oneD bodyD; rw [hf, if_neg (by decide), if_neg (by decide), if_neg (by decide), if_neg (by decide), if_neg (by decide), if_neg (by decide), if_neg (by decide), if_pos rfl]; rfl⟩
      clear hf
      go_upto_region 34 with (first | (go_at_call 78; refine (code_form.calls 3 _ _ _ HFS.out).mono ?_; rintro e2 w2 ⟨rfl, hd2⟩; have H2 := Aside0.mk ((H1.out).below hd2.below); have d0_2 : w2.cell? ⟨w.heap.size, 0, none⟩ = some (.pointer (some ⟨g, 0, none⟩)) := blk_cell H2.out.cs.dec 0; have d1_2 : w2.cell? ⟨bx, 0, none⟩ = some (.int .i64 t.1) := blk_cell H2.out.cs.ins 0; have d2_2 : w2.cell? ⟨bx, 1, none⟩ = some (.int .u8 (numR s t 1).1) := blk_cell H2.out.cs.ins 1; have d3_2 : w2.cell? ⟨bx, 2, none⟩ = some (.bool false) := blk_cell H2.out.cs.ins 2; have d4_2 : w2.cell? ⟨bx, 3, none⟩ = some (.int .i64 0) := blk_cell H2.out.cs.ins 3; have d5_2 : w2.cell? ⟨bx, 4, none⟩ = some (.int .i64 0) := blk_cell H2.out.cs.ins 4; have d6_2 : w2.cell? ⟨bx, 7, none⟩ = some (.slice none 0 0) := blk_cell H2.out.cs.ins 7; have df_2 : ∀ j, w2.frozen? ⟨bx, j, none⟩ = false := fun j => blk_frozen H2.out.cs.ins j; clear hd2) | (go_at_call 68; refine (num_any w0 _ g s (numR s t 1).2 1 1 rfl (by decide) (HO0.out.num 1) (H2.out).hs.ri).mono ?_; rintro e3 w3 ⟨rfl, hI3, hk3⟩; have H3 := Aside0.mk ((H2.out).rd hI3 hk3); have d0_3 : w3.cell? ⟨w.heap.size, 0, none⟩ = some (.pointer (some ⟨g, 0, none⟩)) := blk_cell H3.out.cs.dec 0; have d1_3 : w3.cell? ⟨bx, 0, none⟩ = some (.int .i64 t.1) := blk_cell H3.out.cs.ins 0; have d2_3 : w3.cell? ⟨bx, 1, none⟩ = some (.int .u8 (numR s t 1).1) := blk_cell H3.out.cs.ins 1; have d3_3 : w3.cell? ⟨bx, 2, none⟩ = some (.bool false) := blk_cell H3.out.cs.ins 2; have d4_3 : w3.cell? ⟨bx, 3, none⟩ = some (.int .i64 0) := blk_cell H3.out.cs.ins 3; have d5_3 : w3.cell? ⟨bx, 4, none⟩ = some (.int .i64 0) := blk_cell H3.out.cs.ins 4; have d6_3 : w3.cell? ⟨bx, 7, none⟩ = some (.slice none 0 0) := blk_cell H3.out.cs.ins 7; have df_3 : ∀ j, w3.frozen? ⟨bx, j, none⟩ = false := fun j => blk_frozen H3.out.cs.ins j; clear hI3 hk3) | (go_at_call 124; refine (signed_d w0 _ g s (numR s (numR s t 1).2 1).2 1 1 rfl (.inl rfl) ((HO0.out.num 1).num 1) (H3.out.set 3 (.int .i64 (numR s (numR s t 1).2 1).1) (⟨t.1, (numR s t 1).1, false, (numR s (numR s t 1).2 1).1, 0, 0, [], []⟩ : S82) rfl rfl rfl).hs.ri).mono ?_; rintro e4 w4 ⟨rfl, hI4, hk4⟩; have H4 := Aside0.mk ((H3.out.set 3 (.int .i64 (numR s (numR s t 1).2 1).1) (⟨t.1, (numR s t 1).1, false, (numR s (numR s t 1).2 1).1, 0, 0, [], []⟩ : S82) rfl rfl rfl).rd hI4 hk4); have d0_4 : w4.cell? ⟨w.heap.size, 0, none⟩ = some (.pointer (some ⟨g, 0, none⟩)) := blk_cell H4.out.cs.dec 0; have d1_4 : w4.cell? ⟨bx, 0, none⟩ = some (.int .i64 t.1) := blk_cell H4.out.cs.ins 0; have d2_4 : w4.cell? ⟨bx, 1, none⟩ = some (.int .u8 (numR s t 1).1) := blk_cell H4.out.cs.ins 1; have d3_4 : w4.cell? ⟨bx, 2, none⟩ = some (.bool false) := blk_cell H4.out.cs.ins 2; have d4_4 : w4.cell? ⟨bx, 3, none⟩ = some (.int .i64 (numR s (numR s t 1).2 1).1) := blk_cell H4.out.cs.ins 3; have d5_4 : w4.cell? ⟨bx, 4, none⟩ = some (.int .i64 0) := blk_cell H4.out.cs.ins 4; have d6_4 : w4.cell? ⟨bx, 7, none⟩ = some (.slice none 0 0) := blk_cell H4.out.cs.ins 7; have df_4 : ∀ j, w4.frozen? ⟨bx, j, none⟩ = false := fun j => blk_frozen H4.out.cs.ins j; clear hI4 hk4) | go_in)
      have H9 := Aside0.mk (H4.out.set 4 (.int .i64 (sgnR s (numR s (numR s t 1).2 1).2 1).1) (⟨t.1, (numR s t 1).1, false, (numR s (numR s t 1).2 1).1, (sgnR s (numR s (numR s t 1).2 1).2 1).1, 0, [], []⟩ : S82) rfl rfl rfl)
      generalize World.setCell _ ⟨bx, 4, none⟩ _ = W9 at *
      have E := Aside0.mk H9.out.oe
      have c0 : W9.cell? ⟨bx, 0, none⟩ = some (.int .i64 t.1) := blk_cell E.out.ins 0
      have r0 : W9.cell? ⟨w.heap.size + 1, 0, none⟩ = some _ := blk_cell E.out.res 0
      have c1 : W9.cell? ⟨bx, 1, none⟩ = some (.int .u8 (numR s t 1).1) := blk_cell E.out.ins 1
      have r1 : W9.cell? ⟨w.heap.size + 1, 1, none⟩ = some _ := blk_cell E.out.res 1
      have c2 : W9.cell? ⟨bx, 2, none⟩ = some (.bool false) := blk_cell E.out.ins 2
      have r2 : W9.cell? ⟨w.heap.size + 1, 2, none⟩ = some _ := blk_cell E.out.res 2
      have c3 : W9.cell? ⟨bx, 3, none⟩ = some (.int .i64 (numR s (numR s t 1).2 1).1) := blk_cell E.out.ins 3
      have r3 : W9.cell? ⟨w.heap.size + 1, 3, none⟩ = some _ := blk_cell E.out.res 3
      have c4 : W9.cell? ⟨bx, 4, none⟩ = some (.int .i64 (sgnR s (numR s (numR s t 1).2 1).2 1).1) := blk_cell E.out.ins 4
      have r4 : W9.cell? ⟨w.heap.size + 1, 4, none⟩ = some _ := blk_cell E.out.res 4
      have c5 : W9.cell? ⟨bx, 5, none⟩ = some (.int .i64 0) := blk_cell E.out.ins 5
      have r5 : W9.cell? ⟨w.heap.size + 1, 5, none⟩ = some _ := blk_cell E.out.res 5
      have c6 : W9.cell? ⟨bx, 6, none⟩ = some (.slice none 0 0) := blk_cell E.out.ins 6
      have r6 : W9.cell? ⟨w.heap.size + 1, 6, none⟩ = some _ := blk_cell E.out.res 6
      have c7 : W9.cell? ⟨bx, 7, none⟩ = some (.slice none 0 0) := blk_cell E.out.ins 7
      have r7 : W9.cell? ⟨w.heap.size + 1, 7, none⟩ = some _ := blk_cell E.out.res 7
      have rf : ∀ j, W9.frozen? ⟨w.heap.size + 1, j, none⟩ = false := fun j => blk_frozen E.out.res j
      have HFIN := Aside0.mk (E.out.fin HWW.out)
      go_wp2
      refine bodyPost_ret (results_cell_row rfl _ _ (w.heap.size + 1) 82 _ (0, 0) _ rfl HFIN.out.1 Try.underlying82 rfl (by kernel_rfl)) rfl ?_
      rw [HM.out]
      exact ⟨_, _, rfl, HFIN.out.2.1, HFIN.out.2.2.1, HFIN.out.2.2.2.1, HFIN.out.2.2.2.2⟩
    · have HFS : Aside0 (code_form.f 3 (numR s t 1).1 = some 8) := ⟨by rw [formF_some, hf]⟩
      have HM : Aside0 (oneD s t = ((⟨t.1, (numR s t 1).1, false, 0, 0, 0, [], [wrap64 (t.1 + (sgnR s (numR s t 1).2 2).1)]⟩ : S82), (sgnR s (numR s t 1).2 2).2)) := ⟨by unfold oneD bodyD; rw [hf, if_neg (by decide), if_neg (by decide), if_neg (by decide), if_neg (by decide), if_neg (by decide), if_neg (by decide), if_neg (by decide), if_neg (by decide), if_pos rfl]; rfl⟩
      clear hf
      go_upto_region 31 with (first | (go_at_call 78; refine (code_form.calls 3 _ _ _ HFS.out).mono ?_; rintro e2 w2 ⟨rfl, hd2⟩; have H2 := Aside0.mk ((H1.out).below hd2.below); have d0_2 : w2.cell? ⟨w.heap.size, 0, none⟩ = some (.pointer (some ⟨g, 0, none⟩)) := blk_cell H2.out.cs.dec 0; have d1_2 : w2.cell? ⟨bx, 0, none⟩ = some (.int .i64 t.1) := blk_cell H2.out.cs.ins 0; have d2_2 : w2.cell? ⟨bx, 1, none⟩ = some (.int .u8 (numR s t 1).1) := blk_cell H2.out.cs.ins 1; have d3_2 : w2.cell? ⟨bx, 2, none⟩ = some (.bool false) := blk_cell H2.out.cs.ins 2; have d4_2 : w2.cell? ⟨bx, 3, none⟩ = some (.int .i64 0) := blk_cell H2.out.cs.ins 3; have d5_2 : w2.cell? ⟨bx, 4, none⟩ = some (.int .i64 0) := blk_cell H2.out.cs.ins 4; have d6_2 : w2.cell? ⟨bx, 7, none⟩ = some (.slice none 0 0) := blk_cell H2.out.cs.ins 7; have df_2 : ∀ j, w2.frozen? ⟨bx, j, none⟩ = false := fun j => blk_frozen H2.out.cs.ins j; clear hd2) | go_in)
      have HD := Aside0.mk H2.out.drew
      refine start_ (n := 8) (S := fun w' => w'.cell? ⟨bx, 0, none⟩ = some (.int .i64 t.1) ∧ w'.cell? ⟨w.heap.size, 0, none⟩ = some (.pointer (some ⟨g, 0, none⟩))) (ds := [7]) #[false, false, false, false, false, false, false, false] (by kernel_rfl) rfl rfl ⟨(blk_cell (HD.out).cs.ins 0), (blk_cell (HD.out).cs.dec 0)⟩ (fun hHeld => ?_)
      refine pure_ (i := 0) (N := some 95) (v := ?_) (a' := ?_) #[true, false, false, false, false, false, false, false] rfl rfl (by kernel_rfl) (fun _ _ _ h => h) (Or.inl ⟨by rfl, ?_⟩) ?_ ?_
      rotate_left
      · intro w'
        go_simp
        with_reducible rfl
      rotate_left
      · simp only [Act.put, List.setIfInBounds_toArray, List.set_cons_zero, List.set_cons_succ, i64_w, i32_w]
        rfl
      refine take_ (i := 1) (N := some 96) (v := ?_) (a' := ?_) #[true, true, false, false, false, false, false, false] rfl rfl (by kernel_rfl) (fun _ _ _ h => h) (Or.inl ⟨by rfl, ?_⟩) hHeld ?_ ?_
      rotate_left
      · rintro w' ⟨s0, s1⟩
        go_simp
        with_reducible rfl
      rotate_left
      · simp only [Act.put, List.setIfInBounds_toArray, List.set_cons_zero, List.set_cons_succ, i64_w, i32_w]
        rfl
      refine take_ (i := 2) (N := some 97) (v := ?_) (a' := ?_) #[true, true, true, false, false, false, false, false] rfl rfl (by kernel_rfl) (fun _ _ _ h => h) (Or.inl ⟨by rfl, ?_⟩) hHeld ?_ ?_
      rotate_left
      · rintro w' ⟨s0, s1⟩
        go_simp
        with_reducible rfl
      rotate_left
      · simp only [Act.put, List.setIfInBounds_toArray, List.set_cons_zero, List.set_cons_succ, i64_w, i32_w]
        rfl
      refine one_ (i := 3) (N := some 98) #[true, true, true, true, false, false, false, false] rfl rfl (by kernel_rfl) (by decide) (fun K hK => ?_)
      refine goes_ Try.func124 (by kernel_rfl) rfl #[.agg #[.pointer (some ⟨g, 0, none⟩)], .int .i64 2] (by rfl) rfl rfl (by simp only [List.map_toArray, List.map_cons, List.map_nil]; rfl) ?_
      with_reducible refine (signed_d w0 _ g s (numR s t 1).2 2 2 rfl (.inr (.inl rfl)) (HO0.out.num 1) HD.out.hs.ri).mono ?_
      rintro e3 w3 ⟨rfl, hI3, hk3⟩
      refine ⟨_, rfl, ?_⟩
      have HQ := Aside0.mk (HD.out.rd hI3 hk3)
      clear hI3 hk3
      refine hK.out _ _ ⟨(blk_cell (HQ.out).cs.ins 0), (blk_cell (HQ.out).cs.dec 0)⟩ (fun hHeld => ?_)
      clear hK K
      refine norm_ (a' := ?_) ?_ ?_
      rotate_left
      · show Act.put _ (some 98) _ = _
        simp only [Act.put, List.setIfInBounds_toArray, List.set_cons_zero, List.set_cons_succ, i64_w, i32_w]
        rfl
      refine pure_ (i := 4) (N := some 99) (v := ?_) (a' := ?_) #[true, true, true, true, true, false, false, false] rfl rfl (by kernel_rfl) (fun _ _ _ h => h) (Or.inl ⟨by rfl, ?_⟩) ?_ ?_
      rotate_left
      · intro w'
        go_simp
        with_reducible rfl
      rotate_left
      · simp only [Act.put, List.setIfInBounds_toArray, List.set_cons_zero, List.set_cons_succ, i64_w, i32_w]
        rfl
      refine one_ (i := 5) (N := some 100) #[true, true, true, true, true, true, false, false] rfl rfl (by kernel_rfl) (by decide) (fun K hK => ?_)
      refine value_ (w1 := ?_) (v := ?_) (by rfl) rfl ?_ ?_
      rotate_left 2
      · go_simp
        constructor
        · rfl
        · rfl
      refine hK.out _ _ ⟨(pw_cell_below (below_alloc (Below.refl _ _) _) (blk_cell (HQ.out).cs.ins 0)), (pw_cell_below (below_alloc (Below.refl _ _) _) (blk_cell (HQ.out).cs.dec 0))⟩ (fun hHeld => ?_)
      clear hK K
      refine norm_ (a' := ?_) ?_ ?_
      rotate_left
      · show Act.put _ (some 100) _ = _
        simp only [Act.put, List.setIfInBounds_toArray, List.set_cons_zero, List.set_cons_succ, i64_w, i32_w]
        rfl
      refine pure_ (i := 6) (N := some 101) (v := ?_) (a' := ?_) #[true, true, true, true, true, true, true, false] rfl rfl (by kernel_rfl) (fun _ _ _ h => h) (Or.inl ⟨by rfl, ?_⟩) ?_ ?_
      rotate_left
      · intro w'
        go_simp
        with_reducible rfl
      rotate_left
      · simp only [Act.put, List.setIfInBounds_toArray, List.set_cons_zero, List.set_cons_succ, i64_w, i32_w]
        rfl
      refine last_ (i := 7) (N := none) #[true, true, true, true, true, true, true, true] rfl rfl (by kernel_rfl) (by decide) (fun K hK => ?_)
      have ca7 := fun o => (pw_cell_below (below_alloc (Below.refl w3.heap.size w3) o) (blk_cell HQ.out.cs.ins 7) : (w3.alloc o).cell? ⟨bx, 7, none⟩ = some (.slice none 0 0))
      have cf7 := fun o => blk_frozen (HQ.out.below (below_alloc (Below.refl w3.heap.size w3) o)).cs.ins 7
      refine skip_ (w1 := ?_) (by rfl) rfl ?_ ?_
      rotate_left
      · go_simp
        rfl
      refine hK.out _ _ ?_
      clear hK K
      refine done_ (by kernel_rfl) ?_
      have H9 := Aside0.mk (HQ.out.put7 (y := wrap64 (t.1 + (sgnR s (numR s t 1).2 2).1)) HWW.out)
      clear ca7 cf7
      try clear hHeld
      generalize World.setCell _ ⟨bx, 7, none⟩ _ = W9 at *
      have E := Aside0.mk H9.out.oe
      have c0 : W9.cell? ⟨bx, 0, none⟩ = some (.int .i64 t.1) := blk_cell E.out.ins 0
      have r0 : W9.cell? ⟨w.heap.size + 1, 0, none⟩ = some _ := blk_cell E.out.res 0
      have c1 : W9.cell? ⟨bx, 1, none⟩ = some (.int .u8 (numR s t 1).1) := blk_cell E.out.ins 1
      have r1 : W9.cell? ⟨w.heap.size + 1, 1, none⟩ = some _ := blk_cell E.out.res 1
      have c2 : W9.cell? ⟨bx, 2, none⟩ = some (.bool false) := blk_cell E.out.ins 2
      have r2 : W9.cell? ⟨w.heap.size + 1, 2, none⟩ = some _ := blk_cell E.out.res 2
      have c3 : W9.cell? ⟨bx, 3, none⟩ = some (.int .i64 0) := blk_cell E.out.ins 3
      have r3 : W9.cell? ⟨w.heap.size + 1, 3, none⟩ = some _ := blk_cell E.out.res 3
      have c4 : W9.cell? ⟨bx, 4, none⟩ = some (.int .i64 0) := blk_cell E.out.ins 4
      have r4 : W9.cell? ⟨w.heap.size + 1, 4, none⟩ = some _ := blk_cell E.out.res 4
      have c5 : W9.cell? ⟨bx, 5, none⟩ = some (.int .i64 0) := blk_cell E.out.ins 5
      have r5 : W9.cell? ⟨w.heap.size + 1, 5, none⟩ = some _ := blk_cell E.out.res 5
      have c6 : W9.cell? ⟨bx, 6, none⟩ = some (.slice none 0 0) := blk_cell E.out.ins 6
      have r6 : W9.cell? ⟨w.heap.size + 1, 6, none⟩ = some _ := blk_cell E.out.res 6
      have c7 : W9.cell? ⟨bx, 7, none⟩ = some (.slice (some ⟨w3.heap.size, 0, none⟩) 1 1) := blk_cell E.out.ins 7
      have r7 : W9.cell? ⟨w.heap.size + 1, 7, none⟩ = some _ := blk_cell E.out.res 7
      have rf : ∀ j, W9.frozen? ⟨w.heap.size + 1, j, none⟩ = false := fun j => blk_frozen E.out.res j
      have HFIN := Aside0.mk (E.out.fin HWW.out)
      go_wp2
      refine bodyPost_ret (results_cell_row rfl _ _ (w.heap.size + 1) 82 _ (0, 0) _ rfl HFIN.out.1 Try.underlying82 rfl (by kernel_rfl)) rfl ?_
      rw [HM.out]
      exact ⟨_, _, rfl, HFIN.out.2.1, HFIN.out.2.2.1, HFIN.out.2.2.2.1, HFIN.out.2.2.2.2⟩
    · have HFS : Aside0 (code_form.f 3 (numR s t 1).1 = some 9) := ⟨by rw [formF_some, hf]⟩
      have HM : Aside0 (oneD s t = ((⟨t.1, (numR s t 1).1, false, 0, 0, 0, [], [wrap64 (t.1 + (sgnR s (numR s t 1).2 4).1)]⟩ : S82), (sgnR s (numR s t 1).2 4).2)) := ⟨by unfold oneD bodyD; rw [hf, if_neg (by decide), if_neg (by decide), if_neg (by decide), if_neg (by decide), if_neg (by decide), if_neg (by decide), if_neg (by decide), if_neg (by decide), if_neg (by decide), if_pos rfl]; rfl⟩
      clear hf
      go_upto_region 33 with (first | (go_at_call 78; refine (code_form.calls 3 _ _ _ HFS.out).mono ?_; rintro e2 w2 ⟨rfl, hd2⟩; have H2 := Aside0.mk ((H1.out).below hd2.below); have d0_2 : w2.cell? ⟨w.heap.size, 0, none⟩ = some (.pointer (some ⟨g, 0, none⟩)) := blk_cell H2.out.cs.dec 0; have d1_2 : w2.cell? ⟨bx, 0, none⟩ = some (.int .i64 t.1) := blk_cell H2.out.cs.ins 0; have d2_2 : w2.cell? ⟨bx, 1, none⟩ = some (.int .u8 (numR s t 1).1) := blk_cell H2.out.cs.ins 1; have d3_2 : w2.cell? ⟨bx, 2, none⟩ = some (.bool false) := blk_cell H2.out.cs.ins 2; have d4_2 : w2.cell? ⟨bx, 3, none⟩ = some (.int .i64 0) := blk_cell H2.out.cs.ins 3; have d5_2 : w2.cell? ⟨bx, 4, none⟩ = some (.int .i64 0) := blk_cell H2.out.cs.ins 4; have d6_2 : w2.cell? ⟨bx, 7, none⟩ = some (.slice none 0 0) := blk_cell H2.out.cs.ins 7; have df_2 : ∀ j, w2.frozen? ⟨bx, j, none⟩ = false := fun j => blk_frozen H2.out.cs.ins j; clear hd2) | go_in)
      have HD := Aside0.mk H2.out.drew
      refine start_ (n := 8) (S := fun w' => w'.cell? ⟨bx, 0, none⟩ = some (.int .i64 t.1) ∧ w'.cell? ⟨w.heap.size, 0, none⟩ = some (.pointer (some ⟨g, 0, none⟩))) (ds := [7]) #[false, false, false, false, false, false, false, false] (by kernel_rfl) rfl rfl ⟨(blk_cell (HD.out).cs.ins 0), (blk_cell (HD.out).cs.dec 0)⟩ (fun hHeld => ?_)
      refine pure_ (i := 0) (N := some 104) (v := ?_) (a' := ?_) #[true, false, false, false, false, false, false, false] rfl rfl (by kernel_rfl) (fun _ _ _ h => h) (Or.inl ⟨by rfl, ?_⟩) ?_ ?_
      rotate_left
      · intro w'
        go_simp
        with_reducible rfl
      rotate_left
      · simp only [Act.put, List.setIfInBounds_toArray, List.set_cons_zero, List.set_cons_succ, i64_w, i32_w]
        rfl
      refine take_ (i := 1) (N := some 105) (v := ?_) (a' := ?_) #[true, true, false, false, false, false, false, false] rfl rfl (by kernel_rfl) (fun _ _ _ h => h) (Or.inl ⟨by rfl, ?_⟩) hHeld ?_ ?_
      rotate_left
      · rintro w' ⟨s0, s1⟩
        go_simp
        with_reducible rfl
      rotate_left
      · simp only [Act.put, List.setIfInBounds_toArray, List.set_cons_zero, List.set_cons_succ, i64_w, i32_w]
        rfl
      refine take_ (i := 2) (N := some 106) (v := ?_) (a' := ?_) #[true, true, true, false, false, false, false, false] rfl rfl (by kernel_rfl) (fun _ _ _ h => h) (Or.inl ⟨by rfl, ?_⟩) hHeld ?_ ?_
      rotate_left
      · rintro w' ⟨s0, s1⟩
        go_simp
        with_reducible rfl
      rotate_left
      · simp only [Act.put, List.setIfInBounds_toArray, List.set_cons_zero, List.set_cons_succ, i64_w, i32_w]
        rfl
      refine one_ (i := 3) (N := some 107) #[true, true, true, true, false, false, false, false] rfl rfl (by kernel_rfl) (by decide) (fun K hK => ?_)
      refine goes_ Try.func124 (by kernel_rfl) rfl #[.agg #[.pointer (some ⟨g, 0, none⟩)], .int .i64 4] (by rfl) rfl rfl (by simp only [List.map_toArray, List.map_cons, List.map_nil]; rfl) ?_
      with_reducible refine (signed_d w0 _ g s (numR s t 1).2 4 4 rfl (.inr (.inr rfl)) (HO0.out.num 1) HD.out.hs.ri).mono ?_
      rintro e3 w3 ⟨rfl, hI3, hk3⟩
      refine ⟨_, rfl, ?_⟩
      have HQ := Aside0.mk (HD.out.rd hI3 hk3)
      clear hI3 hk3
      refine hK.out _ _ ⟨(blk_cell (HQ.out).cs.ins 0), (blk_cell (HQ.out).cs.dec 0)⟩ (fun hHeld => ?_)
      clear hK K
      refine norm_ (a' := ?_) ?_ ?_
      rotate_left
      · show Act.put _ (some 107) _ = _
        simp only [Act.put, List.setIfInBounds_toArray, List.set_cons_zero, List.set_cons_succ, i64_w, i32_w]
        rfl
      refine pure_ (i := 4) (N := some 108) (v := ?_) (a' := ?_) #[true, true, true, true, true, false, false, false] rfl rfl (by kernel_rfl) (fun _ _ _ h => h) (Or.inl ⟨by rfl, ?_⟩) ?_ ?_
      rotate_left
      · intro w'
        go_simp
        with_reducible rfl
      rotate_left
      · simp only [Act.put, List.setIfInBounds_toArray, List.set_cons_zero, List.set_cons_succ, i64_w, i32_w]
        rfl
      refine one_ (i := 5) (N := some 109) #[true, true, true, true, true, true, false, false] rfl rfl (by kernel_rfl) (by decide) (fun K hK => ?_)
      refine value_ (w1 := ?_) (v := ?_) (by rfl) rfl ?_ ?_
      rotate_left 2
      · go_simp
        constructor
        · rfl
        · rfl
      refine hK.out _ _ ⟨(pw_cell_below (below_alloc (Below.refl _ _) _) (blk_cell (HQ.out).cs.ins 0)), (pw_cell_below (below_alloc (Below.refl _ _) _) (blk_cell (HQ.out).cs.dec 0))⟩ (fun hHeld => ?_)
      clear hK K
      refine norm_ (a' := ?_) ?_ ?_
      rotate_left
      · show Act.put _ (some 109) _ = _
        simp only [Act.put, List.setIfInBounds_toArray, List.set_cons_zero, List.set_cons_succ, i64_w, i32_w]
        rfl
      refine pure_ (i := 6) (N := some 110) (v := ?_) (a' := ?_) #[true, true, true, true, true, true, true, false] rfl rfl (by kernel_rfl) (fun _ _ _ h => h) (Or.inl ⟨by rfl, ?_⟩) ?_ ?_
      rotate_left
      · intro w'
        go_simp
        with_reducible rfl
      rotate_left
      · simp only [Act.put, List.setIfInBounds_toArray, List.set_cons_zero, List.set_cons_succ, i64_w, i32_w]
        rfl
      refine last_ (i := 7) (N := none) #[true, true, true, true, true, true, true, true] rfl rfl (by kernel_rfl) (by decide) (fun K hK => ?_)
      have ca7 := fun o => (pw_cell_below (below_alloc (Below.refl w3.heap.size w3) o) (blk_cell HQ.out.cs.ins 7) : (w3.alloc o).cell? ⟨bx, 7, none⟩ = some (.slice none 0 0))
      have cf7 := fun o => blk_frozen (HQ.out.below (below_alloc (Below.refl w3.heap.size w3) o)).cs.ins 7
      refine skip_ (w1 := ?_) (by rfl) rfl ?_ ?_
      rotate_left
      · go_simp
        rfl
      refine hK.out _ _ ?_
      clear hK K
      refine done_ (by kernel_rfl) ?_
      have H9 := Aside0.mk (HQ.out.put7 (y := wrap64 (t.1 + (sgnR s (numR s t 1).2 4).1)) HWW.out)
      clear ca7 cf7
      try clear hHeld
      generalize World.setCell _ ⟨bx, 7, none⟩ _ = W9 at *
      have E := Aside0.mk H9.out.oe
      have c0 : W9.cell? ⟨bx, 0, none⟩ = some (.int .i64 t.1) := blk_cell E.out.ins 0
      have r0 : W9.cell? ⟨w.heap.size + 1, 0, none⟩ = some _ := blk_cell E.out.res 0
      have c1 : W9.cell? ⟨bx, 1, none⟩ = some (.int .u8 (numR s t 1).1) := blk_cell E.out.ins 1
      have r1 : W9.cell? ⟨w.heap.size + 1, 1, none⟩ = some _ := blk_cell E.out.res 1
      have c2 : W9.cell? ⟨bx, 2, none⟩ = some (.bool false) := blk_cell E.out.ins 2
      have r2 : W9.cell? ⟨w.heap.size + 1, 2, none⟩ = some _ := blk_cell E.out.res 2
      have c3 : W9.cell? ⟨bx, 3, none⟩ = some (.int .i64 0) := blk_cell E.out.ins 3
      have r3 : W9.cell? ⟨w.heap.size + 1, 3, none⟩ = some _ := blk_cell E.out.res 3
      have c4 : W9.cell? ⟨bx, 4, none⟩ = some (.int .i64 0) := blk_cell E.out.ins 4
      have r4 : W9.cell? ⟨w.heap.size + 1, 4, none⟩ = some _ := blk_cell E.out.res 4
      have c5 : W9.cell? ⟨bx, 5, none⟩ = some (.int .i64 0) := blk_cell E.out.ins 5
      have r5 : W9.cell? ⟨w.heap.size + 1, 5, none⟩ = some _ := blk_cell E.out.res 5
      have c6 : W9.cell? ⟨bx, 6, none⟩ = some (.slice none 0 0) := blk_cell E.out.ins 6
      have r6 : W9.cell? ⟨w.heap.size + 1, 6, none⟩ = some _ := blk_cell E.out.res 6
      have c7 : W9.cell? ⟨bx, 7, none⟩ = some (.slice (some ⟨w3.heap.size, 0, none⟩) 1 1) := blk_cell E.out.ins 7
      have r7 : W9.cell? ⟨w.heap.size + 1, 7, none⟩ = some _ := blk_cell E.out.res 7
      have rf : ∀ j, W9.frozen? ⟨w.heap.size + 1, j, none⟩ = false := fun j => blk_frozen E.out.res j
      have HFIN := Aside0.mk (E.out.fin HWW.out)
      go_wp2
      refine bodyPost_ret (results_cell_row rfl _ _ (w.heap.size + 1) 82 _ (0, 0) _ rfl HFIN.out.1 Try.underlying82 rfl (by kernel_rfl)) rfl ?_
      rw [HM.out]
      exact ⟨_, _, rfl, HFIN.out.2.1, HFIN.out.2.2.1, HFIN.out.2.2.2.1, HFIN.out.2.2.2.2⟩
    · have HFS : Aside0 (code_form.f 3 (numR s t 1).1 = some 10) := ⟨by rw [formF_some, hf]⟩
      have HM : Aside0 (oneD s t = moreD s (⟨t.1, (numR s t 1).1, false, 0, 0, 0, [], []⟩ : S82) 10 (numR s t 1).2) := ⟨by unfold oneD bodyD; rw [hf, if_neg (by decide), if_neg (by decide), if_neg (by decide), if_neg (by decide), if_neg (by decide), if_neg (by decide), if_neg (by decide), if_neg (by decide), if_neg (by decide), if_neg (by decide)]; rfl⟩
      clear hf
      go_upto_region 34 with (first | (go_at_call 78; refine (code_form.calls 3 _ _ _ HFS.out).mono ?_; rintro e2 w2 ⟨rfl, hd2⟩; have H2 := Aside0.mk ((H1.out).below hd2.below); have d0_2 : w2.cell? ⟨w.heap.size, 0, none⟩ = some (.pointer (some ⟨g, 0, none⟩)) := blk_cell H2.out.cs.dec 0; have d1_2 : w2.cell? ⟨bx, 0, none⟩ = some (.int .i64 t.1) := blk_cell H2.out.cs.ins 0; have d2_2 : w2.cell? ⟨bx, 1, none⟩ = some (.int .u8 (numR s t 1).1) := blk_cell H2.out.cs.ins 1; have d3_2 : w2.cell? ⟨bx, 2, none⟩ = some (.bool false) := blk_cell H2.out.cs.ins 2; have d4_2 : w2.cell? ⟨bx, 3, none⟩ = some (.int .i64 0) := blk_cell H2.out.cs.ins 3; have d5_2 : w2.cell? ⟨bx, 4, none⟩ = some (.int .i64 0) := blk_cell H2.out.cs.ins 4; have d6_2 : w2.cell? ⟨bx, 7, none⟩ = some (.slice none 0 0) := blk_cell H2.out.cs.ins 7; have df_2 : ∀ j, w2.frozen? ⟨bx, j, none⟩ = false := fun j => blk_frozen H2.out.cs.ins j; clear hd2) | (go_at_call 125; refine (more_d10 w0 _ g s (numR s t 1).2 bx (⟨t.1, (numR s t 1).1, false, 0, 0, 0, [], []⟩ : S82) (HO0.out.num 1) H2.out.hs.ri H2.out.cs.ins rfl rfl H2.out.cs.new).mono ?_; rintro e3 w3 ⟨rfl, v6, v7, h3⟩; have E := Aside0.mk (H2.out.more h3); clear h3) | go_in)
      generalize moreD s (⟨t.1, (numR s t 1).1, false, 0, 0, 0, [], []⟩ : S82) 10 (numR s t 1).2 = p at *
      obtain ⟨u6, k6, e6⟩ := Kd.R_slice E.out.r6
      subst e6
      obtain ⟨u7, k7, e7⟩ := Kd.R_slice E.out.r7
      subst e7
      have c0 : w3.cell? ⟨bx, 0, none⟩ = some (.int .i64 p.1.f0) := blk_cell E.out.ins 0
      have r0 : w3.cell? ⟨w.heap.size + 1, 0, none⟩ = some _ := blk_cell E.out.res 0
      have c1 : w3.cell? ⟨bx, 1, none⟩ = some (.int .u8 p.1.f1) := blk_cell E.out.ins 1
      have r1 : w3.cell? ⟨w.heap.size + 1, 1, none⟩ = some _ := blk_cell E.out.res 1
      have c2 : w3.cell? ⟨bx, 2, none⟩ = some (.bool p.1.f2) := blk_cell E.out.ins 2
      have r2 : w3.cell? ⟨w.heap.size + 1, 2, none⟩ = some _ := blk_cell E.out.res 2
      have c3 : w3.cell? ⟨bx, 3, none⟩ = some (.int .i64 p.1.f3) := blk_cell E.out.ins 3
      have r3 : w3.cell? ⟨w.heap.size + 1, 3, none⟩ = some _ := blk_cell E.out.res 3
      have c4 : w3.cell? ⟨bx, 4, none⟩ = some (.int .i64 p.1.f4) := blk_cell E.out.ins 4
      have r4 : w3.cell? ⟨w.heap.size + 1, 4, none⟩ = some _ := blk_cell E.out.res 4
      have c5 : w3.cell? ⟨bx, 5, none⟩ = some (.int .i64 p.1.f5) := blk_cell E.out.ins 5
      have r5 : w3.cell? ⟨w.heap.size + 1, 5, none⟩ = some _ := blk_cell E.out.res 5
      have c6 : w3.cell? ⟨bx, 6, none⟩ = some (.slice u6 p.1.f6.length k6) := blk_cell E.out.ins 6
      have r6 : w3.cell? ⟨w.heap.size + 1, 6, none⟩ = some _ := blk_cell E.out.res 6
      have c7 : w3.cell? ⟨bx, 7, none⟩ = some (.slice u7 p.1.f7.length k7) := blk_cell E.out.ins 7
      have r7 : w3.cell? ⟨w.heap.size + 1, 7, none⟩ = some _ := blk_cell E.out.res 7
      have rf : ∀ j, w3.frozen? ⟨w.heap.size + 1, j, none⟩ = false := fun j => blk_frozen E.out.res j
      have HFIN := Aside0.mk (E.out.fin HWW.out)
      go_wp2
      refine bodyPost_ret (results_cell_row rfl _ _ (w.heap.size + 1) 82 _ (0, 0) _ rfl HFIN.out.1 Try.underlying82 rfl (by kernel_rfl)) rfl ?_
      rw [HM.out]
      exact ⟨_, _, rfl, HFIN.out.2.1, HFIN.out.2.2.1, HFIN.out.2.2.2.1, HFIN.out.2.2.2.2⟩
    · have HFS : Aside0 (code_form.f 3 (numR s t 1).1 = some 11) := ⟨by rw [formF_some, hf]⟩
      have HM : Aside0 (oneD s t = moreD s (⟨t.1, (numR s t 1).1, false, 0, 0, 0, [], []⟩ : S82) 11 (numR s t 1).2) := ⟨by unfold oneD bodyD; rw [hf, if_neg (by decide), if_neg (by decide), if_neg (by decide), if_neg (by decide), if_neg (by decide), if_neg (by decide), if_neg (by decide), if_neg (by decide), if_neg (by decide), if_neg (by decide)]; rfl⟩
      clear hf
      go_upto_region 34 with (first | (go_at_call 78; refine (code_form.calls 3 _ _ _ HFS.out).mono ?_; rintro e2 w2 ⟨rfl, hd2⟩; have H2 := Aside0.mk ((H1.out).below hd2.below); have d0_2 : w2.cell? ⟨w.heap.size, 0, none⟩ = some (.pointer (some ⟨g, 0, none⟩)) := blk_cell H2.out.cs.dec 0; have d1_2 : w2.cell? ⟨bx, 0, none⟩ = some (.int .i64 t.1) := blk_cell H2.out.cs.ins 0; have d2_2 : w2.cell? ⟨bx, 1, none⟩ = some (.int .u8 (numR s t 1).1) := blk_cell H2.out.cs.ins 1; have d3_2 : w2.cell? ⟨bx, 2, none⟩ = some (.bool false) := blk_cell H2.out.cs.ins 2; have d4_2 : w2.cell? ⟨bx, 3, none⟩ = some (.int .i64 0) := blk_cell H2.out.cs.ins 3; have d5_2 : w2.cell? ⟨bx, 4, none⟩ = some (.int .i64 0) := blk_cell H2.out.cs.ins 4; have d6_2 : w2.cell? ⟨bx, 7, none⟩ = some (.slice none 0 0) := blk_cell H2.out.cs.ins 7; have df_2 : ∀ j, w2.frozen? ⟨bx, j, none⟩ = false := fun j => blk_frozen H2.out.cs.ins j; clear hd2) | (go_at_call 125; refine (more_d11 w0 _ g s (numR s t 1).2 bx (⟨t.1, (numR s t 1).1, false, 0, 0, 0, [], []⟩ : S82) (HO0.out.num 1) H2.out.hs.ri H2.out.cs.ins rfl rfl H2.out.cs.new).mono ?_; rintro e3 w3 ⟨rfl, v6, v7, h3⟩; have E := Aside0.mk (H2.out.more h3); clear h3) | go_in)
      generalize moreD s (⟨t.1, (numR s t 1).1, false, 0, 0, 0, [], []⟩ : S82) 11 (numR s t 1).2 = p at *
      obtain ⟨u6, k6, e6⟩ := Kd.R_slice E.out.r6
      subst e6
      obtain ⟨u7, k7, e7⟩ := Kd.R_slice E.out.r7
      subst e7
      have c0 : w3.cell? ⟨bx, 0, none⟩ = some (.int .i64 p.1.f0) := blk_cell E.out.ins 0
      have r0 : w3.cell? ⟨w.heap.size + 1, 0, none⟩ = some _ := blk_cell E.out.res 0
      have c1 : w3.cell? ⟨bx, 1, none⟩ = some (.int .u8 p.1.f1) := blk_cell E.out.ins 1
      have r1 : w3.cell? ⟨w.heap.size + 1, 1, none⟩ = some _ := blk_cell E.out.res 1
      have c2 : w3.cell? ⟨bx, 2, none⟩ = some (.bool p.1.f2) := blk_cell E.out.ins 2
      have r2 : w3.cell? ⟨w.heap.size + 1, 2, none⟩ = some _ := blk_cell E.out.res 2
      have c3 : w3.cell? ⟨bx, 3, none⟩ = some (.int .i64 p.1.f3) := blk_cell E.out.ins 3
      have r3 : w3.cell? ⟨w.heap.size + 1, 3, none⟩ = some _ := blk_cell E.out.res 3
      have c4 : w3.cell? ⟨bx, 4, none⟩ = some (.int .i64 p.1.f4) := blk_cell E.out.ins 4
      have r4 : w3.cell? ⟨w.heap.size + 1, 4, none⟩ = some _ := blk_cell E.out.res 4
      have c5 : w3.cell? ⟨bx, 5, none⟩ = some (.int .i64 p.1.f5) := blk_cell E.out.ins 5
      have r5 : w3.cell? ⟨w.heap.size + 1, 5, none⟩ = some _ := blk_cell E.out.res 5
      have c6 : w3.cell? ⟨bx, 6, none⟩ = some (.slice u6 p.1.f6.length k6) := blk_cell E.out.ins 6
      have r6 : w3.cell? ⟨w.heap.size + 1, 6, none⟩ = some _ := blk_cell E.out.res 6
      have c7 : w3.cell? ⟨bx, 7, none⟩ = some (.slice u7 p.1.f7.length k7) := blk_cell E.out.ins 7
      have r7 : w3.cell? ⟨w.heap.size + 1, 7, none⟩ = some _ := blk_cell E.out.res 7
      have rf : ∀ j, w3.frozen? ⟨w.heap.size + 1, j, none⟩ = false := fun j => blk_frozen E.out.res j
      have HFIN := Aside0.mk (E.out.fin HWW.out)
      go_wp2
      refine bodyPost_ret (results_cell_row rfl _ _ (w.heap.size + 1) 82 _ (0, 0) _ rfl HFIN.out.1 Try.underlying82 rfl (by kernel_rfl)) rfl ?_
      rw [HM.out]
      exact ⟨_, _, rfl, HFIN.out.2.1, HFIN.out.2.2.1, HFIN.out.2.2.2.1, HFIN.out.2.2.2.2⟩
    · have HFS : Aside0 (code_form.f 3 (numR s t 1).1 = some 12) := ⟨by rw [formF_some, hf]⟩
      have HM : Aside0 (oneD s t = moreD s (⟨t.1, (numR s t 1).1, false, 0, 0, 0, [], []⟩ : S82) 12 (numR s t 1).2) := ⟨by unfold oneD bodyD; rw [hf, if_neg (by decide), if_neg (by decide), if_neg (by decide), if_neg (by decide), if_neg (by decide), if_neg (by decide), if_neg (by decide), if_neg (by decide), if_neg (by decide), if_neg (by decide)]; rfl⟩
      clear hf
      go_upto_region 34 with (first | (go_at_call 78; refine (code_form.calls 3 _ _ _ HFS.out).mono ?_; rintro e2 w2 ⟨rfl, hd2⟩; have H2 := Aside0.mk ((H1.out).below hd2.below); have d0_2 : w2.cell? ⟨w.heap.size, 0, none⟩ = some (.pointer (some ⟨g, 0, none⟩)) := blk_cell H2.out.cs.dec 0; have d1_2 : w2.cell? ⟨bx, 0, none⟩ = some (.int .i64 t.1) := blk_cell H2.out.cs.ins 0; have d2_2 : w2.cell? ⟨bx, 1, none⟩ = some (.int .u8 (numR s t 1).1) := blk_cell H2.out.cs.ins 1; have d3_2 : w2.cell? ⟨bx, 2, none⟩ = some (.bool false) := blk_cell H2.out.cs.ins 2; have d4_2 : w2.cell? ⟨bx, 3, none⟩ = some (.int .i64 0) := blk_cell H2.out.cs.ins 3; have d5_2 : w2.cell? ⟨bx, 4, none⟩ = some (.int .i64 0) := blk_cell H2.out.cs.ins 4; have d6_2 : w2.cell? ⟨bx, 7, none⟩ = some (.slice none 0 0) := blk_cell H2.out.cs.ins 7; have df_2 : ∀ j, w2.frozen? ⟨bx, j, none⟩ = false := fun j => blk_frozen H2.out.cs.ins j; clear hd2) | (go_at_call 125; refine (more_d12 w0 _ g s (numR s t 1).2 bx (⟨t.1, (numR s t 1).1, false, 0, 0, 0, [], []⟩ : S82) (HO0.out.num 1) H2.out.hs.ri H2.out.cs.ins rfl rfl H2.out.cs.new).mono ?_; rintro e3 w3 ⟨rfl, v6, v7, h3⟩; have E := Aside0.mk (H2.out.more h3); clear h3) | go_in)
      generalize moreD s (⟨t.1, (numR s t 1).1, false, 0, 0, 0, [], []⟩ : S82) 12 (numR s t 1).2 = p at *
      obtain ⟨u6, k6, e6⟩ := Kd.R_slice E.out.r6
      subst e6
      obtain ⟨u7, k7, e7⟩ := Kd.R_slice E.out.r7
      subst e7
      have c0 : w3.cell? ⟨bx, 0, none⟩ = some (.int .i64 p.1.f0) := blk_cell E.out.ins 0
      have r0 : w3.cell? ⟨w.heap.size + 1, 0, none⟩ = some _ := blk_cell E.out.res 0
      have c1 : w3.cell? ⟨bx, 1, none⟩ = some (.int .u8 p.1.f1) := blk_cell E.out.ins 1
      have r1 : w3.cell? ⟨w.heap.size + 1, 1, none⟩ = some _ := blk_cell E.out.res 1
      have c2 : w3.cell? ⟨bx, 2, none⟩ = some (.bool p.1.f2) := blk_cell E.out.ins 2
      have r2 : w3.cell? ⟨w.heap.size + 1, 2, none⟩ = some _ := blk_cell E.out.res 2
      have c3 : w3.cell? ⟨bx, 3, none⟩ = some (.int .i64 p.1.f3) := blk_cell E.out.ins 3
      have r3 : w3.cell? ⟨w.heap.size + 1, 3, none⟩ = some _ := blk_cell E.out.res 3
      have c4 : w3.cell? ⟨bx, 4, none⟩ = some (.int .i64 p.1.f4) := blk_cell E.out.ins 4
      have r4 : w3.cell? ⟨w.heap.size + 1, 4, none⟩ = some _ := blk_cell E.out.res 4
      have c5 : w3.cell? ⟨bx, 5, none⟩ = some (.int .i64 p.1.f5) := blk_cell E.out.ins 5
      have r5 : w3.cell? ⟨w.heap.size + 1, 5, none⟩ = some _ := blk_cell E.out.res 5
      have c6 : w3.cell? ⟨bx, 6, none⟩ = some (.slice u6 p.1.f6.length k6) := blk_cell E.out.ins 6
      have r6 : w3.cell? ⟨w.heap.size + 1, 6, none⟩ = some _ := blk_cell E.out.res 6
      have c7 : w3.cell? ⟨bx, 7, none⟩ = some (.slice u7 p.1.f7.length k7) := blk_cell E.out.ins 7
      have r7 : w3.cell? ⟨w.heap.size + 1, 7, none⟩ = some _ := blk_cell E.out.res 7
      have rf : ∀ j, w3.frozen? ⟨w.heap.size + 1, j, none⟩ = false := fun j => blk_frozen E.out.res j
      have HFIN := Aside0.mk (E.out.fin HWW.out)
      go_wp2
      refine bodyPost_ret (results_cell_row rfl _ _ (w.heap.size + 1) 82 _ (0, 0) _ rfl HFIN.out.1 Try.underlying82 rfl (by kernel_rfl)) rfl ?_
      rw [HM.out]
      exact ⟨_, _, rfl, HFIN.out.2.1, HFIN.out.2.2.1, HFIN.out.2.2.2.1, HFIN.out.2.2.2.2⟩
    · have HFS : Aside0 (code_form.f 3 (numR s t 1).1 = some 13) := ⟨by rw [formF_some, hf]⟩
      have HM : Aside0 (oneD s t = moreD s (⟨t.1, (numR s t 1).1, false, 0, 0, 0, [], []⟩ : S82) 13 (numR s t 1).2) := ⟨by unfold oneD bodyD; rw [hf, if_neg (by decide), if_neg (by decide), if_neg (by decide), if_neg (by decide), if_neg (by decide), if_neg (by decide), if_neg (by decide), if_neg (by decide), if_neg (by decide), if_neg (by decide)]; rfl⟩
      clear hf
      go_upto_region 34 with (first | (go_at_call 78; refine (code_form.calls 3 _ _ _ HFS.out).mono ?_; rintro e2 w2 ⟨rfl, hd2⟩; have H2 := Aside0.mk ((H1.out).below hd2.below); have d0_2 : w2.cell? ⟨w.heap.size, 0, none⟩ = some (.pointer (some ⟨g, 0, none⟩)) := blk_cell H2.out.cs.dec 0; have d1_2 : w2.cell? ⟨bx, 0, none⟩ = some (.int .i64 t.1) := blk_cell H2.out.cs.ins 0; have d2_2 : w2.cell? ⟨bx, 1, none⟩ = some (.int .u8 (numR s t 1).1) := blk_cell H2.out.cs.ins 1; have d3_2 : w2.cell? ⟨bx, 2, none⟩ = some (.bool false) := blk_cell H2.out.cs.ins 2; have d4_2 : w2.cell? ⟨bx, 3, none⟩ = some (.int .i64 0) := blk_cell H2.out.cs.ins 3; have d5_2 : w2.cell? ⟨bx, 4, none⟩ = some (.int .i64 0) := blk_cell H2.out.cs.ins 4; have d6_2 : w2.cell? ⟨bx, 7, none⟩ = some (.slice none 0 0) := blk_cell H2.out.cs.ins 7; have df_2 : ∀ j, w2.frozen? ⟨bx, j, none⟩ = false := fun j => blk_frozen H2.out.cs.ins j; clear hd2) | (go_at_call 125; refine (more_d13 w0 _ g s (numR s t 1).2 bx (⟨t.1, (numR s t 1).1, false, 0, 0, 0, [], []⟩ : S82) (HO0.out.num 1) H2.out.hs.ri H2.out.cs.ins rfl rfl H2.out.cs.new).mono ?_; rintro e3 w3 ⟨rfl, v6, v7, h3⟩; have E := Aside0.mk (H2.out.more h3); clear h3) | go_in)
      generalize moreD s (⟨t.1, (numR s t 1).1, false, 0, 0, 0, [], []⟩ : S82) 13 (numR s t 1).2 = p at *
      obtain ⟨u6, k6, e6⟩ := Kd.R_slice E.out.r6
      subst e6
      obtain ⟨u7, k7, e7⟩ := Kd.R_slice E.out.r7
      subst e7
      have c0 : w3.cell? ⟨bx, 0, none⟩ = some (.int .i64 p.1.f0) := blk_cell E.out.ins 0
      have r0 : w3.cell? ⟨w.heap.size + 1, 0, none⟩ = some _ := blk_cell E.out.res 0
      have c1 : w3.cell? ⟨bx, 1, none⟩ = some (.int .u8 p.1.f1) := blk_cell E.out.ins 1
      have r1 : w3.cell? ⟨w.heap.size + 1, 1, none⟩ = some _ := blk_cell E.out.res 1
      have c2 : w3.cell? ⟨bx, 2, none⟩ = some (.bool p.1.f2) := blk_cell E.out.ins 2
      have r2 : w3.cell? ⟨w.heap.size + 1, 2, none⟩ = some _ := blk_cell E.out.res 2
      have c3 : w3.cell? ⟨bx, 3, none⟩ = some (.int .i64 p.1.f3) := blk_cell E.out.ins 3
      have r3 : w3.cell? ⟨w.heap.size + 1, 3, none⟩ = some _ := blk_cell E.out.res 3
      have c4 : w3.cell? ⟨bx, 4, none⟩ = some (.int .i64 p.1.f4) := blk_cell E.out.ins 4
      have r4 : w3.cell? ⟨w.heap.size + 1, 4, none⟩ = some _ := blk_cell E.out.res 4
      have c5 : w3.cell? ⟨bx, 5, none⟩ = some (.int .i64 p.1.f5) := blk_cell E.out.ins 5
      have r5 : w3.cell? ⟨w.heap.size + 1, 5, none⟩ = some _ := blk_cell E.out.res 5
      have c6 : w3.cell? ⟨bx, 6, none⟩ = some (.slice u6 p.1.f6.length k6) := blk_cell E.out.ins 6
      have r6 : w3.cell? ⟨w.heap.size + 1, 6, none⟩ = some _ := blk_cell E.out.res 6
      have c7 : w3.cell? ⟨bx, 7, none⟩ = some (.slice u7 p.1.f7.length k7) := blk_cell E.out.ins 7
      have r7 : w3.cell? ⟨w.heap.size + 1, 7, none⟩ = some _ := blk_cell E.out.res 7
      have rf : ∀ j, w3.frozen? ⟨w.heap.size + 1, j, none⟩ = false := fun j => blk_frozen E.out.res j
      have HFIN := Aside0.mk (E.out.fin HWW.out)
      go_wp2
      refine bodyPost_ret (results_cell_row rfl _ _ (w.heap.size + 1) 82 _ (0, 0) _ rfl HFIN.out.1 Try.underlying82 rfl (by kernel_rfl)) rfl ?_
      rw [HM.out]
      exact ⟨_, _, rfl, HFIN.out.2.1, HFIN.out.2.2.1, HFIN.out.2.2.2.1, HFIN.out.2.2.2.2⟩
    · have HFS : Aside0 (code_form.f 3 (numR s t 1).1 = some 14) := ⟨by rw [formF_some, hf]⟩
      have HM : Aside0 (oneD s t = moreD s (⟨t.1, (numR s t 1).1, false, 0, 0, 0, [], []⟩ : S82) 14 (numR s t 1).2) := ⟨by unfold oneD bodyD; rw [hf, if_neg (by decide), if_neg (by decide), if_neg (by decide), if_neg (by decide), if_neg (by decide), if_neg (by decide), if_neg (by decide), if_neg (by decide), if_neg (by decide), if_neg (by decide)]; rfl⟩
      clear hf
      go_upto_region 34 with (first | (go_at_call 78; refine (code_form.calls 3 _ _ _ HFS.out).mono ?_; rintro e2 w2 ⟨rfl, hd2⟩; have H2 := Aside0.mk ((H1.out).below hd2.below); have d0_2 : w2.cell? ⟨w.heap.size, 0, none⟩ = some (.pointer (some ⟨g, 0, none⟩)) := blk_cell H2.out.cs.dec 0; have d1_2 : w2.cell? ⟨bx, 0, none⟩ = some (.int .i64 t.1) := blk_cell H2.out.cs.ins 0; have d2_2 : w2.cell? ⟨bx, 1, none⟩ = some (.int .u8 (numR s t 1).1) := blk_cell H2.out.cs.ins 1; have d3_2 : w2.cell? ⟨bx, 2, none⟩ = some (.bool false) := blk_cell H2.out.cs.ins 2; have d4_2 : w2.cell? ⟨bx, 3, none⟩ = some (.int .i64 0) := blk_cell H2.out.cs.ins 3; have d5_2 : w2.cell? ⟨bx, 4, none⟩ = some (.int .i64 0) := blk_cell H2.out.cs.ins 4; have d6_2 : w2.cell? ⟨bx, 7, none⟩ = some (.slice none 0 0) := blk_cell H2.out.cs.ins 7; have df_2 : ∀ j, w2.frozen? ⟨bx, j, none⟩ = false := fun j => blk_frozen H2.out.cs.ins j; clear hd2) | (go_at_call 125; refine (more_d14 w0 _ g s (numR s t 1).2 bx (⟨t.1, (numR s t 1).1, false, 0, 0, 0, [], []⟩ : S82) (HO0.out.num 1) H2.out.hs.ri H2.out.cs.ins rfl rfl H2.out.cs.new).mono ?_; rintro e3 w3 ⟨rfl, v6, v7, h3⟩; have E := Aside0.mk (H2.out.more h3); clear h3) | go_in)
      generalize moreD s (⟨t.1, (numR s t 1).1, false, 0, 0, 0, [], []⟩ : S82) 14 (numR s t 1).2 = p at *
      obtain ⟨u6, k6, e6⟩ := Kd.R_slice E.out.r6
      subst e6
      obtain ⟨u7, k7, e7⟩ := Kd.R_slice E.out.r7
      subst e7
      have c0 : w3.cell? ⟨bx, 0, none⟩ = some (.int .i64 p.1.f0) := blk_cell E.out.ins 0
      have r0 : w3.cell? ⟨w.heap.size + 1, 0, none⟩ = some _ := blk_cell E.out.res 0
      have c1 : w3.cell? ⟨bx, 1, none⟩ = some (.int .u8 p.1.f1) := blk_cell E.out.ins 1
      have r1 : w3.cell? ⟨w.heap.size + 1, 1, none⟩ = some _ := blk_cell E.out.res 1
      have c2 : w3.cell? ⟨bx, 2, none⟩ = some (.bool p.1.f2) := blk_cell E.out.ins 2
      have r2 : w3.cell? ⟨w.heap.size + 1, 2, none⟩ = some _ := blk_cell E.out.res 2
      have c3 : w3.cell? ⟨bx, 3, none⟩ = some (.int .i64 p.1.f3) := blk_cell E.out.ins 3
      have r3 : w3.cell? ⟨w.heap.size + 1, 3, none⟩ = some _ := blk_cell E.out.res 3
      have c4 : w3.cell? ⟨bx, 4, none⟩ = some (.int .i64 p.1.f4) := blk_cell E.out.ins 4
      have r4 : w3.cell? ⟨w.heap.size + 1, 4, none⟩ = some _ := blk_cell E.out.res 4
      have c5 : w3.cell? ⟨bx, 5, none⟩ = some (.int .i64 p.1.f5) := blk_cell E.out.ins 5
      have r5 : w3.cell? ⟨w.heap.size + 1, 5, none⟩ = some _ := blk_cell E.out.res 5
      have c6 : w3.cell? ⟨bx, 6, none⟩ = some (.slice u6 p.1.f6.length k6) := blk_cell E.out.ins 6
      have r6 : w3.cell? ⟨w.heap.size + 1, 6, none⟩ = some _ := blk_cell E.out.res 6
      have c7 : w3.cell? ⟨bx, 7, none⟩ = some (.slice u7 p.1.f7.length k7) := blk_cell E.out.ins 7
      have r7 : w3.cell? ⟨w.heap.size + 1, 7, none⟩ = some _ := blk_cell E.out.res 7
      have rf : ∀ j, w3.frozen? ⟨w.heap.size + 1, j, none⟩ = false := fun j => blk_frozen E.out.res j
      have HFIN := Aside0.mk (E.out.fin HWW.out)
      go_wp2
      refine bodyPost_ret (results_cell_row rfl _ _ (w.heap.size + 1) 82 _ (0, 0) _ rfl HFIN.out.1 Try.underlying82 rfl (by kernel_rfl)) rfl ?_
      rw [HM.out]
      exact ⟨_, _, rfl, HFIN.out.2.1, HFIN.out.2.2.1, HFIN.out.2.2.2.1, HFIN.out.2.2.2.2⟩
    · have HFS : Aside0 (code_form.f 3 (numR s t 1).1 = some 15) := ⟨by rw [formF_some, hf]⟩
      obtain ⟨o5, o6⟩ := num_range s (numR s t 1).2 1 (by decide)
      have o7 : (numR s (numR s t 1).2 1).1 < 256 := o6
      clear o6
      have hu2 : IntKind.u8.wrap (numR s (numR s t 1).2 1).1 = (numR s (numR s t 1).2 1).1 := by rw [IntKind.wrap_u8]; omega
      by_cases h6 : formF (numR s (numR s t 1).2 1).1 = 6
      · have HFS2 : Aside0 (code_form.f 3 (numR s (numR s t 1).2 1).1 = some 6) := ⟨by rw [formF_some, h6]⟩
        have HM : Aside0 (oneD s t = ((⟨t.1, (numR s (numR s t 1).2 1).1, true, (numR s (numR s (numR s t 1).2 1).2 2).1, 0, 0, [], []⟩ : S82), (numR s (numR s (numR s t 1).2 1).2 2).2)) := ⟨by unfold oneD bodyD; rw [hf, if_pos rfl, if_pos (.inl h6), h6, if_neg (by decide), if_neg (by decide), if_neg (by decide), if_neg (by decide), if_neg (by decide), if_pos rfl]; rfl⟩
        clear hf h6
        go_upto_region 3 with (first | (go_at_call 78; refine (code_form.calls 3 _ _ _ HFS.out).mono ?_; rintro e2 w2 ⟨rfl, hd2⟩; have H2 := Aside0.mk ((H1.out).below hd2.below); have d0_2 : w2.cell? ⟨w.heap.size, 0, none⟩ = some (.pointer (some ⟨g, 0, none⟩)) := blk_cell H2.out.cs.dec 0; have d1_2 : w2.cell? ⟨bx, 0, none⟩ = some (.int .i64 t.1) := blk_cell H2.out.cs.ins 0; have d2_2 : w2.cell? ⟨bx, 1, none⟩ = some (.int .u8 (numR s t 1).1) := blk_cell H2.out.cs.ins 1; have d3_2 : w2.cell? ⟨bx, 2, none⟩ = some (.bool false) := blk_cell H2.out.cs.ins 2; have d4_2 : w2.cell? ⟨bx, 3, none⟩ = some (.int .i64 0) := blk_cell H2.out.cs.ins 3; have d5_2 : w2.cell? ⟨bx, 4, none⟩ = some (.int .i64 0) := blk_cell H2.out.cs.ins 4; have d6_2 : w2.cell? ⟨bx, 7, none⟩ = some (.slice none 0 0) := blk_cell H2.out.cs.ins 7; have df_2 : ∀ j, w2.frozen? ⟨bx, j, none⟩ = false := fun j => blk_frozen H2.out.cs.ins j; clear hd2) | go_in)
        go_upto_region 6 with (first | (go_at_call 68; refine (num_any w0 _ g s (numR s t 1).2 1 1 rfl (by decide) (HO0.out.num 1) (H2.out.set 2 (.bool true) (⟨t.1, (numR s t 1).1, true, 0, 0, 0, [], []⟩ : S82) rfl rfl rfl).hs.ri).mono ?_; rintro e3 w3 ⟨rfl, hI3, hk3⟩; have H3 := Aside0.mk ((H2.out.set 2 (.bool true) (⟨t.1, (numR s t 1).1, true, 0, 0, 0, [], []⟩ : S82) rfl rfl rfl).rd hI3 hk3); have d0_3 : w3.cell? ⟨w.heap.size, 0, none⟩ = some (.pointer (some ⟨g, 0, none⟩)) := blk_cell H3.out.cs.dec 0; have d1_3 : w3.cell? ⟨bx, 0, none⟩ = some (.int .i64 t.1) := blk_cell H3.out.cs.ins 0; have d2_3 : w3.cell? ⟨bx, 1, none⟩ = some (.int .u8 (numR s t 1).1) := blk_cell H3.out.cs.ins 1; have d3_3 : w3.cell? ⟨bx, 2, none⟩ = some (.bool true) := blk_cell H3.out.cs.ins 2; have d4_3 : w3.cell? ⟨bx, 3, none⟩ = some (.int .i64 0) := blk_cell H3.out.cs.ins 3; have d5_3 : w3.cell? ⟨bx, 4, none⟩ = some (.int .i64 0) := blk_cell H3.out.cs.ins 4; have d6_3 : w3.cell? ⟨bx, 7, none⟩ = some (.slice none 0 0) := blk_cell H3.out.cs.ins 7; have df_3 : ∀ j, w3.frozen? ⟨bx, j, none⟩ = false := fun j => blk_frozen H3.out.cs.ins j; clear hI3 hk3) | go_in)
        go_upto_region 7 with (first | (go_at_call 78; refine (code_form.calls 3 _ _ _ HFS2.out).mono ?_; rintro e4 w4 ⟨rfl, hd4⟩; have H4 := Aside0.mk ((H3.out.set 1 (.int .u8 (numR s (numR s t 1).2 1).1) (⟨t.1, (numR s (numR s t 1).2 1).1, true, 0, 0, 0, [], []⟩ : S82) rfl rfl rfl).below hd4.below); have d0_4 : w4.cell? ⟨w.heap.size, 0, none⟩ = some (.pointer (some ⟨g, 0, none⟩)) := blk_cell H4.out.cs.dec 0; have d1_4 : w4.cell? ⟨bx, 0, none⟩ = some (.int .i64 t.1) := blk_cell H4.out.cs.ins 0; have d2_4 : w4.cell? ⟨bx, 1, none⟩ = some (.int .u8 (numR s (numR s t 1).2 1).1) := blk_cell H4.out.cs.ins 1; have d3_4 : w4.cell? ⟨bx, 2, none⟩ = some (.bool true) := blk_cell H4.out.cs.ins 2; have d4_4 : w4.cell? ⟨bx, 3, none⟩ = some (.int .i64 0) := blk_cell H4.out.cs.ins 3; have d5_4 : w4.cell? ⟨bx, 4, none⟩ = some (.int .i64 0) := blk_cell H4.out.cs.ins 4; have d6_4 : w4.cell? ⟨bx, 7, none⟩ = some (.slice none 0 0) := blk_cell H4.out.cs.ins 7; have df_4 : ∀ j, w4.frozen? ⟨bx, j, none⟩ = false := fun j => blk_frozen H4.out.cs.ins j; clear hd4) | go_in)
        go_upto_region 34 with (first | (go_at_call 68; refine (num_any w0 _ g s (numR s (numR s t 1).2 1).2 2 2 rfl (by decide) ((HO0.out.num 1).num 1) (H4.out).hs.ri).mono ?_; rintro e5 w5 ⟨rfl, hI5, hk5⟩; have H5 := Aside0.mk ((H4.out).rd hI5 hk5); have d0_5 : w5.cell? ⟨w.heap.size, 0, none⟩ = some (.pointer (some ⟨g, 0, none⟩)) := blk_cell H5.out.cs.dec 0; have d1_5 : w5.cell? ⟨bx, 0, none⟩ = some (.int .i64 t.1) := blk_cell H5.out.cs.ins 0; have d2_5 : w5.cell? ⟨bx, 1, none⟩ = some (.int .u8 (numR s (numR s t 1).2 1).1) := blk_cell H5.out.cs.ins 1; have d3_5 : w5.cell? ⟨bx, 2, none⟩ = some (.bool true) := blk_cell H5.out.cs.ins 2; have d4_5 : w5.cell? ⟨bx, 3, none⟩ = some (.int .i64 0) := blk_cell H5.out.cs.ins 3; have d5_5 : w5.cell? ⟨bx, 4, none⟩ = some (.int .i64 0) := blk_cell H5.out.cs.ins 4; have d6_5 : w5.cell? ⟨bx, 7, none⟩ = some (.slice none 0 0) := blk_cell H5.out.cs.ins 7; have df_5 : ∀ j, w5.frozen? ⟨bx, j, none⟩ = false := fun j => blk_frozen H5.out.cs.ins j; clear hI5 hk5) | go_in)
        have H9 := Aside0.mk (H5.out.set 3 (.int .i64 (numR s (numR s (numR s t 1).2 1).2 2).1) (⟨t.1, (numR s (numR s t 1).2 1).1, true, (numR s (numR s (numR s t 1).2 1).2 2).1, 0, 0, [], []⟩ : S82) rfl rfl rfl)
        generalize World.setCell _ ⟨bx, 3, none⟩ _ = W9 at *
        have E := Aside0.mk H9.out.oe
        have c0 : W9.cell? ⟨bx, 0, none⟩ = some (.int .i64 t.1) := blk_cell E.out.ins 0
        have r0 : W9.cell? ⟨w.heap.size + 1, 0, none⟩ = some _ := blk_cell E.out.res 0
        have c1 : W9.cell? ⟨bx, 1, none⟩ = some (.int .u8 (numR s (numR s t 1).2 1).1) := blk_cell E.out.ins 1
        have r1 : W9.cell? ⟨w.heap.size + 1, 1, none⟩ = some _ := blk_cell E.out.res 1
        have c2 : W9.cell? ⟨bx, 2, none⟩ = some (.bool true) := blk_cell E.out.ins 2
        have r2 : W9.cell? ⟨w.heap.size + 1, 2, none⟩ = some _ := blk_cell E.out.res 2
        have c3 : W9.cell? ⟨bx, 3, none⟩ = some (.int .i64 (numR s (numR s (numR s t 1).2 1).2 2).1) := blk_cell E.out.ins 3
        have r3 : W9.cell? ⟨w.heap.size + 1, 3, none⟩ = some _ := blk_cell E.out.res 3
        have c4 : W9.cell? ⟨bx, 4, none⟩ = some (.int .i64 0) := blk_cell E.out.ins 4
        have r4 : W9.cell? ⟨w.heap.size + 1, 4, none⟩ = some _ := blk_cell E.out.res 4
        have c5 : W9.cell? ⟨bx, 5, none⟩ = some (.int .i64 0) := blk_cell E.out.ins 5
        have r5 : W9.cell? ⟨w.heap.size + 1, 5, none⟩ = some _ := blk_cell E.out.res 5
        have c6 : W9.cell? ⟨bx, 6, none⟩ = some (.slice none 0 0) := blk_cell E.out.ins 6
        have r6 : W9.cell? ⟨w.heap.size + 1, 6, none⟩ = some _ := blk_cell E.out.res 6
        have c7 : W9.cell? ⟨bx, 7, none⟩ = some (.slice none 0 0) := blk_cell E.out.ins 7
        have r7 : W9.cell? ⟨w.heap.size + 1, 7, none⟩ = some _ := blk_cell E.out.res 7
        have rf : ∀ j, W9.frozen? ⟨w.heap.size + 1, j, none⟩ = false := fun j => blk_frozen E.out.res j
        have HFIN := Aside0.mk (E.out.fin HWW.out)
        go_wp2
        refine bodyPost_ret (results_cell_row rfl _ _ (w.heap.size + 1) 82 _ (0, 0) _ rfl HFIN.out.1 Try.underlying82 rfl (by kernel_rfl)) rfl ?_
        rw [HM.out]
        exact ⟨_, _, rfl, HFIN.out.2.1, HFIN.out.2.2.1, HFIN.out.2.2.2.1, HFIN.out.2.2.2.2⟩
      by_cases h7 : formF (numR s (numR s t 1).2 1).1 = 7
      · have HFS2 : Aside0 (code_form.f 3 (numR s (numR s t 1).2 1).1 = some 7) := ⟨by rw [formF_some, h7]⟩
        have HM : Aside0 (oneD s t = ((⟨t.1, (numR s (numR s t 1).2 1).1, true, (numR s (numR s (numR s t 1).2 1).2 2).1, (sgnR s (numR s (numR s (numR s t 1).2 1).2 2).2 2).1, 0, [], []⟩ : S82), (sgnR s (numR s (numR s (numR s t 1).2 1).2 2).2 2).2)) := ⟨by unfold oneD bodyD; rw [hf, if_pos rfl, if_pos (.inr h7), h7, if_neg (by decide), if_neg (by decide), if_neg (by decide), if_neg (by decide), if_neg (by decide), if_neg (by decide), if_pos rfl]; rfl⟩
        clear hf h6 h7
        go_upto_region 3 with (first | (go_at_call 78; refine (code_form.calls 3 _ _ _ HFS.out).mono ?_; rintro e2 w2 ⟨rfl, hd2⟩; have H2 := Aside0.mk ((H1.out).below hd2.below); have d0_2 : w2.cell? ⟨w.heap.size, 0, none⟩ = some (.pointer (some ⟨g, 0, none⟩)) := blk_cell H2.out.cs.dec 0; have d1_2 : w2.cell? ⟨bx, 0, none⟩ = some (.int .i64 t.1) := blk_cell H2.out.cs.ins 0; have d2_2 : w2.cell? ⟨bx, 1, none⟩ = some (.int .u8 (numR s t 1).1) := blk_cell H2.out.cs.ins 1; have d3_2 : w2.cell? ⟨bx, 2, none⟩ = some (.bool false) := blk_cell H2.out.cs.ins 2; have d4_2 : w2.cell? ⟨bx, 3, none⟩ = some (.int .i64 0) := blk_cell H2.out.cs.ins 3; have d5_2 : w2.cell? ⟨bx, 4, none⟩ = some (.int .i64 0) := blk_cell H2.out.cs.ins 4; have d6_2 : w2.cell? ⟨bx, 7, none⟩ = some (.slice none 0 0) := blk_cell H2.out.cs.ins 7; have df_2 : ∀ j, w2.frozen? ⟨bx, j, none⟩ = false := fun j => blk_frozen H2.out.cs.ins j; clear hd2) | go_in)
        go_upto_region 6 with (first | (go_at_call 68; refine (num_any w0 _ g s (numR s t 1).2 1 1 rfl (by decide) (HO0.out.num 1) (H2.out.set 2 (.bool true) (⟨t.1, (numR s t 1).1, true, 0, 0, 0, [], []⟩ : S82) rfl rfl rfl).hs.ri).mono ?_; rintro e3 w3 ⟨rfl, hI3, hk3⟩; have H3 := Aside0.mk ((H2.out.set 2 (.bool true) (⟨t.1, (numR s t 1).1, true, 0, 0, 0, [], []⟩ : S82) rfl rfl rfl).rd hI3 hk3); have d0_3 : w3.cell? ⟨w.heap.size, 0, none⟩ = some (.pointer (some ⟨g, 0, none⟩)) := blk_cell H3.out.cs.dec 0; have d1_3 : w3.cell? ⟨bx, 0, none⟩ = some (.int .i64 t.1) := blk_cell H3.out.cs.ins 0; have d2_3 : w3.cell? ⟨bx, 1, none⟩ = some (.int .u8 (numR s t 1).1) := blk_cell H3.out.cs.ins 1; have d3_3 : w3.cell? ⟨bx, 2, none⟩ = some (.bool true) := blk_cell H3.out.cs.ins 2; have d4_3 : w3.cell? ⟨bx, 3, none⟩ = some (.int .i64 0) := blk_cell H3.out.cs.ins 3; have d5_3 : w3.cell? ⟨bx, 4, none⟩ = some (.int .i64 0) := blk_cell H3.out.cs.ins 4; have d6_3 : w3.cell? ⟨bx, 7, none⟩ = some (.slice none 0 0) := blk_cell H3.out.cs.ins 7; have df_3 : ∀ j, w3.frozen? ⟨bx, j, none⟩ = false := fun j => blk_frozen H3.out.cs.ins j; clear hI3 hk3) | go_in)
        go_upto_region 7 with (first | (go_at_call 78; refine (code_form.calls 3 _ _ _ HFS2.out).mono ?_; rintro e4 w4 ⟨rfl, hd4⟩; have H4 := Aside0.mk ((H3.out.set 1 (.int .u8 (numR s (numR s t 1).2 1).1) (⟨t.1, (numR s (numR s t 1).2 1).1, true, 0, 0, 0, [], []⟩ : S82) rfl rfl rfl).below hd4.below); have d0_4 : w4.cell? ⟨w.heap.size, 0, none⟩ = some (.pointer (some ⟨g, 0, none⟩)) := blk_cell H4.out.cs.dec 0; have d1_4 : w4.cell? ⟨bx, 0, none⟩ = some (.int .i64 t.1) := blk_cell H4.out.cs.ins 0; have d2_4 : w4.cell? ⟨bx, 1, none⟩ = some (.int .u8 (numR s (numR s t 1).2 1).1) := blk_cell H4.out.cs.ins 1; have d3_4 : w4.cell? ⟨bx, 2, none⟩ = some (.bool true) := blk_cell H4.out.cs.ins 2; have d4_4 : w4.cell? ⟨bx, 3, none⟩ = some (.int .i64 0) := blk_cell H4.out.cs.ins 3; have d5_4 : w4.cell? ⟨bx, 4, none⟩ = some (.int .i64 0) := blk_cell H4.out.cs.ins 4; have d6_4 : w4.cell? ⟨bx, 7, none⟩ = some (.slice none 0 0) := blk_cell H4.out.cs.ins 7; have df_4 : ∀ j, w4.frozen? ⟨bx, j, none⟩ = false := fun j => blk_frozen H4.out.cs.ins j; clear hd4) | go_in)
        go_upto_region 34 with (first | (go_at_call 68; refine (num_any w0 _ g s (numR s (numR s t 1).2 1).2 2 2 rfl (by decide) ((HO0.out.num 1).num 1) (H4.out).hs.ri).mono ?_; rintro e5 w5 ⟨rfl, hI5, hk5⟩; have H5 := Aside0.mk ((H4.out).rd hI5 hk5); have d0_5 : w5.cell? ⟨w.heap.size, 0, none⟩ = some (.pointer (some ⟨g, 0, none⟩)) := blk_cell H5.out.cs.dec 0; have d1_5 : w5.cell? ⟨bx, 0, none⟩ = some (.int .i64 t.1) := blk_cell H5.out.cs.ins 0; have d2_5 : w5.cell? ⟨bx, 1, none⟩ = some (.int .u8 (numR s (numR s t 1).2 1).1) := blk_cell H5.out.cs.ins 1; have d3_5 : w5.cell? ⟨bx, 2, none⟩ = some (.bool true) := blk_cell H5.out.cs.ins 2; have d4_5 : w5.cell? ⟨bx, 3, none⟩ = some (.int .i64 0) := blk_cell H5.out.cs.ins 3; have d5_5 : w5.cell? ⟨bx, 4, none⟩ = some (.int .i64 0) := blk_cell H5.out.cs.ins 4; have d6_5 : w5.cell? ⟨bx, 7, none⟩ = some (.slice none 0 0) := blk_cell H5.out.cs.ins 7; have df_5 : ∀ j, w5.frozen? ⟨bx, j, none⟩ = false := fun j => blk_frozen H5.out.cs.ins j; clear hI5 hk5) | (go_at_call 124; refine (signed_d w0 _ g s (numR s (numR s (numR s t 1).2 1).2 2).2 2 2 rfl (.inr (.inl rfl)) (((HO0.out.num 1).num 1).num 2) (H5.out.set 3 (.int .i64 (numR s (numR s (numR s t 1).2 1).2 2).1) (⟨t.1, (numR s (numR s t 1).2 1).1, true, (numR s (numR s (numR s t 1).2 1).2 2).1, 0, 0, [], []⟩ : S82) rfl rfl rfl).hs.ri).mono ?_; rintro e6 w6 ⟨rfl, hI6, hk6⟩; have H6 := Aside0.mk ((H5.out.set 3 (.int .i64 (numR s (numR s (numR s t 1).2 1).2 2).1) (⟨t.1, (numR s (numR s t 1).2 1).1, true, (numR s (numR s (numR s t 1).2 1).2 2).1, 0, 0, [], []⟩ : S82) rfl rfl rfl).rd hI6 hk6); have d0_6 : w6.cell? ⟨w.heap.size, 0, none⟩ = some (.pointer (some ⟨g, 0, none⟩)) := blk_cell H6.out.cs.dec 0; have d1_6 : w6.cell? ⟨bx, 0, none⟩ = some (.int .i64 t.1) := blk_cell H6.out.cs.ins 0; have d2_6 : w6.cell? ⟨bx, 1, none⟩ = some (.int .u8 (numR s (numR s t 1).2 1).1) := blk_cell H6.out.cs.ins 1; have d3_6 : w6.cell? ⟨bx, 2, none⟩ = some (.bool true) := blk_cell H6.out.cs.ins 2; have d4_6 : w6.cell? ⟨bx, 3, none⟩ = some (.int .i64 (numR s (numR s (numR s t 1).2 1).2 2).1) := blk_cell H6.out.cs.ins 3; have d5_6 : w6.cell? ⟨bx, 4, none⟩ = some (.int .i64 0) := blk_cell H6.out.cs.ins 4; have d6_6 : w6.cell? ⟨bx, 7, none⟩ = some (.slice none 0 0) := blk_cell H6.out.cs.ins 7; have df_6 : ∀ j, w6.frozen? ⟨bx, j, none⟩ = false := fun j => blk_frozen H6.out.cs.ins j; clear hI6 hk6) | go_in)
        have H9 := Aside0.mk (H6.out.set 4 (.int .i64 (sgnR s (numR s (numR s (numR s t 1).2 1).2 2).2 2).1) (⟨t.1, (numR s (numR s t 1).2 1).1, true, (numR s (numR s (numR s t 1).2 1).2 2).1, (sgnR s (numR s (numR s (numR s t 1).2 1).2 2).2 2).1, 0, [], []⟩ : S82) rfl rfl rfl)
        generalize World.setCell _ ⟨bx, 4, none⟩ _ = W9 at *
        have E := Aside0.mk H9.out.oe
        have c0 : W9.cell? ⟨bx, 0, none⟩ = some (.int .i64 t.1) := blk_cell E.out.ins 0
        have r0 : W9.cell? ⟨w.heap.size + 1, 0, none⟩ = some _ := blk_cell E.out.res 0
        have c1 : W9.cell? ⟨bx, 1, none⟩ = some (.int .u8 (numR s (numR s t 1).2 1).1) := blk_cell E.out.ins 1
        have r1 : W9.cell? ⟨w.heap.size + 1, 1, none⟩ = some _ := blk_cell E.out.res 1
        have c2 : W9.cell? ⟨bx, 2, none⟩ = some (.bool true) := blk_cell E.out.ins 2
        have r2 : W9.cell? ⟨w.heap.size + 1, 2, none⟩ = some _ := blk_cell E.out.res 2
        have c3 : W9.cell? ⟨bx, 3, none⟩ = some (.int .i64 (numR s (numR s (numR s t 1).2 1).2 2).1) := blk_cell E.out.ins 3
        have r3 : W9.cell? ⟨w.heap.size + 1, 3, none⟩ = some _ := blk_cell E.out.res 3
        have c4 : W9.cell? ⟨bx, 4, none⟩ = some (.int .i64 (sgnR s (numR s (numR s (numR s t 1).2 1).2 2).2 2).1) := blk_cell E.out.ins 4
        have r4 : W9.cell? ⟨w.heap.size + 1, 4, none⟩ = some _ := blk_cell E.out.res 4
        have c5 : W9.cell? ⟨bx, 5, none⟩ = some (.int .i64 0) := blk_cell E.out.ins 5
        have r5 : W9.cell? ⟨w.heap.size + 1, 5, none⟩ = some _ := blk_cell E.out.res 5
        have c6 : W9.cell? ⟨bx, 6, none⟩ = some (.slice none 0 0) := blk_cell E.out.ins 6
        have r6 : W9.cell? ⟨w.heap.size + 1, 6, none⟩ = some _ := blk_cell E.out.res 6
        have c7 : W9.cell? ⟨bx, 7, none⟩ = some (.slice none 0 0) := blk_cell E.out.ins 7
        have r7 : W9.cell? ⟨w.heap.size + 1, 7, none⟩ = some _ := blk_cell E.out.res 7
        have rf : ∀ j, W9.frozen? ⟨w.heap.size + 1, j, none⟩ = false := fun j => blk_frozen E.out.res j
        have HFIN := Aside0.mk (E.out.fin HWW.out)
        go_wp2
        refine bodyPost_ret (results_cell_row rfl _ _ (w.heap.size + 1) 82 _ (0, 0) _ rfl HFIN.out.1 Try.underlying82 rfl (by kernel_rfl)) rfl ?_
        rw [HM.out]
        exact ⟨_, _, rfl, HFIN.out.2.1, HFIN.out.2.2.1, HFIN.out.2.2.2.1, HFIN.out.2.2.2.2⟩
      have HFS2 : Aside0 (code_form.f 3 (numR s (numR s t 1).2 1).1 = some (formF (numR s (numR s t 1).2 1).1)) := ⟨formF_some _⟩
      have HM : Aside0 (oneD s t = ((⟨t.1, (numR s (numR s t 1).2 1).1, true, 0, 0, 0, [], []⟩ : S82), failR (numR s (numR s t 1).2 1).2 14 t.1)) := ⟨by unfold oneD; rw [hf, if_pos rfl, if_neg (fun h => h.elim h6 h7)]; rfl⟩
      have b6 : (formF (numR s (numR s t 1).2 1).1 != 6) = true := bne_iff_ne.2 h6
      have b7 : (formF (numR s (numR s t 1).2 1).1 != 7) = true := bne_iff_ne.2 h7
      clear hf h6 h7
      generalize formF (numR s (numR s t 1).2 1).1 = F at *
      go_upto_region 3 with (first | (go_at_call 78; refine (code_form.calls 3 _ _ _ HFS.out).mono ?_; rintro e2 w2 ⟨rfl, hd2⟩; have H2 := Aside0.mk ((H1.out).below hd2.below); have d0_2 : w2.cell? ⟨w.heap.size, 0, none⟩ = some (.pointer (some ⟨g, 0, none⟩)) := blk_cell H2.out.cs.dec 0; have d1_2 : w2.cell? ⟨bx, 0, none⟩ = some (.int .i64 t.1) := blk_cell H2.out.cs.ins 0; have d2_2 : w2.cell? ⟨bx, 1, none⟩ = some (.int .u8 (numR s t 1).1) := blk_cell H2.out.cs.ins 1; have d3_2 : w2.cell? ⟨bx, 2, none⟩ = some (.bool false) := blk_cell H2.out.cs.ins 2; have d4_2 : w2.cell? ⟨bx, 3, none⟩ = some (.int .i64 0) := blk_cell H2.out.cs.ins 3; have d5_2 : w2.cell? ⟨bx, 4, none⟩ = some (.int .i64 0) := blk_cell H2.out.cs.ins 4; have d6_2 : w2.cell? ⟨bx, 7, none⟩ = some (.slice none 0 0) := blk_cell H2.out.cs.ins 7; have df_2 : ∀ j, w2.frozen? ⟨bx, j, none⟩ = false := fun j => blk_frozen H2.out.cs.ins j; clear hd2) | go_in)
      go_upto_region 6 with (first | (go_at_call 68; refine (num_any w0 _ g s (numR s t 1).2 1 1 rfl (by decide) (HO0.out.num 1) (H2.out.set 2 (.bool true) (⟨t.1, (numR s t 1).1, true, 0, 0, 0, [], []⟩ : S82) rfl rfl rfl).hs.ri).mono ?_; rintro e3 w3 ⟨rfl, hI3, hk3⟩; have H3 := Aside0.mk ((H2.out.set 2 (.bool true) (⟨t.1, (numR s t 1).1, true, 0, 0, 0, [], []⟩ : S82) rfl rfl rfl).rd hI3 hk3); have d0_3 : w3.cell? ⟨w.heap.size, 0, none⟩ = some (.pointer (some ⟨g, 0, none⟩)) := blk_cell H3.out.cs.dec 0; have d1_3 : w3.cell? ⟨bx, 0, none⟩ = some (.int .i64 t.1) := blk_cell H3.out.cs.ins 0; have d2_3 : w3.cell? ⟨bx, 1, none⟩ = some (.int .u8 (numR s t 1).1) := blk_cell H3.out.cs.ins 1; have d3_3 : w3.cell? ⟨bx, 2, none⟩ = some (.bool true) := blk_cell H3.out.cs.ins 2; have d4_3 : w3.cell? ⟨bx, 3, none⟩ = some (.int .i64 0) := blk_cell H3.out.cs.ins 3; have d5_3 : w3.cell? ⟨bx, 4, none⟩ = some (.int .i64 0) := blk_cell H3.out.cs.ins 4; have d6_3 : w3.cell? ⟨bx, 7, none⟩ = some (.slice none 0 0) := blk_cell H3.out.cs.ins 7; have df_3 : ∀ j, w3.frozen? ⟨bx, j, none⟩ = false := fun j => blk_frozen H3.out.cs.ins j; clear hI3 hk3) | go_in)
      go_upto_region 7 with (first | (go_at_call 78; refine (code_form.calls 3 _ _ _ HFS2.out).mono ?_; rintro e4 w4 ⟨rfl, hd4⟩; have H4 := Aside0.mk ((H3.out.set 1 (.int .u8 (numR s (numR s t 1).2 1).1) (⟨t.1, (numR s (numR s t 1).2 1).1, true, 0, 0, 0, [], []⟩ : S82) rfl rfl rfl).below hd4.below); have d0_4 : w4.cell? ⟨w.heap.size, 0, none⟩ = some (.pointer (some ⟨g, 0, none⟩)) := blk_cell H4.out.cs.dec 0; have d1_4 : w4.cell? ⟨bx, 0, none⟩ = some (.int .i64 t.1) := blk_cell H4.out.cs.ins 0; have d2_4 : w4.cell? ⟨bx, 1, none⟩ = some (.int .u8 (numR s (numR s t 1).2 1).1) := blk_cell H4.out.cs.ins 1; have d3_4 : w4.cell? ⟨bx, 2, none⟩ = some (.bool true) := blk_cell H4.out.cs.ins 2; have d4_4 : w4.cell? ⟨bx, 3, none⟩ = some (.int .i64 0) := blk_cell H4.out.cs.ins 3; have d5_4 : w4.cell? ⟨bx, 4, none⟩ = some (.int .i64 0) := blk_cell H4.out.cs.ins 4; have d6_4 : w4.cell? ⟨bx, 7, none⟩ = some (.slice none 0 0) := blk_cell H4.out.cs.ins 7; have df_4 : ∀ j, w4.frozen? ⟨bx, j, none⟩ = false := fun j => blk_frozen H4.out.cs.ins j; clear hd4) | go_in)
      go_upto_region 9 with (first | (go_at_call 73; refine (fail_any w0 _ g s (numR s (numR s t 1).2 1).2 14 t.1 (H4.out).hs.ri).mono ?_; rintro e5 w5 ⟨rfl, hI5, hk5⟩; have H5 := Aside0.mk ((H4.out).rd hI5 hk5); have d0_5 : w5.cell? ⟨w.heap.size, 0, none⟩ = some (.pointer (some ⟨g, 0, none⟩)) := blk_cell H5.out.cs.dec 0; have d1_5 : w5.cell? ⟨bx, 0, none⟩ = some (.int .i64 t.1) := blk_cell H5.out.cs.ins 0; have d2_5 : w5.cell? ⟨bx, 1, none⟩ = some (.int .u8 (numR s (numR s t 1).2 1).1) := blk_cell H5.out.cs.ins 1; have d3_5 : w5.cell? ⟨bx, 2, none⟩ = some (.bool true) := blk_cell H5.out.cs.ins 2; have d4_5 : w5.cell? ⟨bx, 3, none⟩ = some (.int .i64 0) := blk_cell H5.out.cs.ins 3; have d5_5 : w5.cell? ⟨bx, 4, none⟩ = some (.int .i64 0) := blk_cell H5.out.cs.ins 4; have d6_5 : w5.cell? ⟨bx, 7, none⟩ = some (.slice none 0 0) := blk_cell H5.out.cs.ins 7; have df_5 : ∀ j, w5.frozen? ⟨bx, j, none⟩ = false := fun j => blk_frozen H5.out.cs.ins j; clear hI5 hk5) | go_in)
      have E := Aside0.mk H5.out.oe
      have c0 : w5.cell? ⟨bx, 0, none⟩ = some (.int .i64 t.1) := blk_cell E.out.ins 0
      have r0 : w5.cell? ⟨w.heap.size + 1, 0, none⟩ = some _ := blk_cell E.out.res 0
      have c1 : w5.cell? ⟨bx, 1, none⟩ = some (.int .u8 (numR s (numR s t 1).2 1).1) := blk_cell E.out.ins 1
      have r1 : w5.cell? ⟨w.heap.size + 1, 1, none⟩ = some _ := blk_cell E.out.res 1
      have c2 : w5.cell? ⟨bx, 2, none⟩ = some (.bool true) := blk_cell E.out.ins 2
      have r2 : w5.cell? ⟨w.heap.size + 1, 2, none⟩ = some _ := blk_cell E.out.res 2
      have c3 : w5.cell? ⟨bx, 3, none⟩ = some (.int .i64 0) := blk_cell E.out.ins 3
      have r3 : w5.cell? ⟨w.heap.size + 1, 3, none⟩ = some _ := blk_cell E.out.res 3
      have c4 : w5.cell? ⟨bx, 4, none⟩ = some (.int .i64 0) := blk_cell E.out.ins 4
      have r4 : w5.cell? ⟨w.heap.size + 1, 4, none⟩ = some _ := blk_cell E.out.res 4
      have c5 : w5.cell? ⟨bx, 5, none⟩ = some (.int .i64 0) := blk_cell E.out.ins 5
      have r5 : w5.cell? ⟨w.heap.size + 1, 5, none⟩ = some _ := blk_cell E.out.res 5
      have c6 : w5.cell? ⟨bx, 6, none⟩ = some (.slice none 0 0) := blk_cell E.out.ins 6
      have r6 : w5.cell? ⟨w.heap.size + 1, 6, none⟩ = some _ := blk_cell E.out.res 6
      have c7 : w5.cell? ⟨bx, 7, none⟩ = some (.slice none 0 0) := blk_cell E.out.ins 7
      have r7 : w5.cell? ⟨w.heap.size + 1, 7, none⟩ = some _ := blk_cell E.out.res 7
      have rf : ∀ j, w5.frozen? ⟨w.heap.size + 1, j, none⟩ = false := fun j => blk_frozen E.out.res j
      have HFIN := Aside0.mk (E.out.fin HWW.out)
      go_wp2
      refine bodyPost_ret (results_cell_row rfl _ _ (w.heap.size + 1) 82 _ (0, 0) _ rfl HFIN.out.1 Try.underlying82 rfl (by kernel_rfl)) rfl ?_
      rw [HM.out]
      exact ⟨_, _, rfl, HFIN.out.2.1, HFIN.out.2.2.1, HFIN.out.2.2.2.1, HFIN.out.2.2.2.2⟩
end Go.Proofs.Ytfnjbmpolggdeaa.CW
end
