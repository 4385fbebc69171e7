/-
  Texts that the proof in the last of these files needs: CodeReads of jvmcorelaw2: whatever the bytes are, code.Decode makes of them what the reference makes, to the first error and where, and all rows of what it makes lie apart; nothing is assumed.
-/
import Derived.Test.YtfnjbmpolggdeaaQD2
section
namespace Go.Proofs.Ytfnjbmpolggdeaa.CD
open Go.RowKit Go.Proofs.YtfnjbmpolggdeaaW.PrintWords Go.Proofs.YtfnjbmpolggdeaaW.PrintLast Go.Proofs.YtfnjbmpolggdeaaW.PrintMore
attribute [local go_sem] max2_int min2_int max_two min_two max_three min_three max_four min_four   -- for this text's walks alone
set_option linter.unusedVariables false
set_option linter.unusedSimpArgs false
def jvmcoreref2_cut_take.j0 : Nat → Int → Bool → ByteArray → Int → Int → Int → Option (ByteArray × ByteArray × Int × Int × Int)
  | 0, _, _, _, _, _, _ => none
  | k + 1, x1, x24, x1000, x1001, x1002, x1003 => if x24 = true then ((jvmcoreref2_cut_fail.f x1000 x1001 x1002 x1003 1 (x1000.size : Int)).bind fun bt128 => (if bt128.2.2.1 = 0 then (if 0 ≤ bt128.2.1 then (if bt128.2.1 ≤ (wrap64 (bt128.2.1 + x1)) then (if (wrap64 (bt128.2.1 + x1)) ≤ (bt128.1.size : Int) then (some (bt128.1.extract (bt128.2.1 : Int).toNat ((wrap64 (bt128.2.1 + x1)) : Int).toNat, bt128.1, wrap64 (bt128.2.1 + x1), bt128.2.2.1, bt128.2.2.2)) else (none)) else (none)) else (none)) else (if 0 ≤ x1 then (if (x1 : Int).toNat ≤ 281474976710656 then (some (strOfNums (List.replicate (x1 : Int).toNat 0), bt128.1, bt128.2.1, bt128.2.2.1, bt128.2.2.2)) else (none)) else (none)))) else (if x1002 = 0 then (if 0 ≤ x1001 then (if x1001 ≤ (wrap64 (x1001 + x1)) then (if (wrap64 (x1001 + x1)) ≤ (x1000.size : Int) then (some (x1000.extract (x1001 : Int).toNat ((wrap64 (x1001 + x1)) : Int).toNat, x1000, wrap64 (x1001 + x1), x1002, x1003)) else (none)) else (none)) else (none)) else (if 0 ≤ x1 then (if (x1 : Int).toNat ≤ 281474976710656 then (some (strOfNums (List.replicate (x1 : Int).toNat 0), x1000, x1001, x1002, x1003)) else (none)) else (none)))
def jvmcoreref2_cut_take.f (k : Nat) (s0_0 : ByteArray) (s0_1 : Int) (s0_2 : Int) (s0_3 : Int) (a1 : Int) : Option (ByteArray × ByteArray × Int × Int × Int) := if s0_2 = 0 then (jvmcoreref2_cut_take.j0 k a1 (decide ((wrap64 (s0_1 + a1)) > (s0_0.size : Int))) s0_0 s0_1 s0_2 s0_3) else (jvmcoreref2_cut_take.j0 k a1 false s0_0 s0_1 s0_2 s0_3)
theorem jvmcoreref2_cut_take.mono_l : ∀ k, (∀ y0 y1 y2 y3 y4 y5, LeO (jvmcoreref2_cut_take.j0 k y0 y1 y2 y3 y4 y5) (jvmcoreref2_cut_take.j0 (k + 1) y0 y1 y2 y3 y4 y5))
  | 0 => fun _ _ _ _ _ _ r h => by simp [jvmcoreref2_cut_take.j0] at h
  | k + 1 => by
    have ih0 := jvmcoreref2_cut_take.mono_l k
    · intro y0 y1 y2 y3 y4 y5
      unfold jvmcoreref2_cut_take.j0
      repeat' first
      | (with_reducible exact ih0 _ _ _ _ _ _)
      | (with_reducible exact LeO.refl _)
      | (with_reducible exact LeO.none _)
      | (with_reducible refine LeO.ite ?_ ?_)
      | (with_reducible refine LeO.bind ?_ (fun _ => ?_))
theorem jvmcoreref2_cut_take.mono : ∀ a0 a1 a2 a3 a4 k, LeO (jvmcoreref2_cut_take.f k a0 a1 a2 a3 a4) (jvmcoreref2_cut_take.f (k + 1) a0 a1 a2 a3 a4) := by
  intro a0 a1 a2 a3 a4 k
  have ih0 := jvmcoreref2_cut_take.mono_l k
  unfold jvmcoreref2_cut_take.f
  repeat' first
      | (with_reducible exact ih0 _ _ _ _ _ _)
      | (with_reducible exact LeO.refl _)
      | (with_reducible exact LeO.none _)
      | (with_reducible refine LeO.ite ?_ ?_)
      | (with_reducible refine LeO.bind ?_ (fun _ => ?_))
set_option maxHeartbeats 8000000 in
set_option maxRecDepth 100000 in
theorem jvmcoreref2_cut_take.calls (k : Nat) (g : Nat) (s0_0 : ByteArray) (s0_1 : Int) (s0_2 : Int) (s0_3 : Int) (a1 : Int) (r1 : ByteArray) (r2 : ByteArray) (r3 : Int) (r4 : Int) (r5 : Int) (w0 w : World) (hI : IsS148 w0 w g s0_0 s0_1 s0_2 s0_3) (hB : Below w0.heap.size w0 w) (h : jvmcoreref2_cut_take.f k s0_0 s0_1 s0_2 s0_3 a1 = some (r1, r2, r3, r4, r5)) :
    Calls Try.prog 143 #[.pointer (some ⟨g, 0, none⟩), .int .i64 a1] w fun e w' => e = .returned (.string r1) ∧ IsS148 w0 w' g r2 r3 r4 r5 ∧ Below w0.heap.size w0 w' ∧ KeepBut w w' g none := by
  have HI0 := Aside0.mk hI
  have HK := Aside0.mk (KeepBut.refl w g none)
  have HL := Aside0.mk hB.size
  clear hI
  have HW0 := Aside0.mk hB.size
  have HB := Aside0.mk hB
  clear hB
  have H : (if s0_2 = 0 then (jvmcoreref2_cut_take.j0 k a1 (decide ((wrap64 (s0_1 + a1)) > (s0_0.size : Int))) s0_0 s0_1 s0_2 s0_3) else (jvmcoreref2_cut_take.j0 k a1 false s0_0 s0_1 s0_2 s0_3)) = some (r1, r2, r3, r4, r5) := h
  clear h
  have HC3 := Aside0.mk H
  clear H
  go_enter Try.func143, Try.ntmps143
  go_upto_region 1 with (fail)
  repeat (go_quiet (fail); go_upto_region 1 with (fail))
  go_cut [24] (fun v24 wc => ∃ (kq : Nat) (x24_2 : Bool), v24 = .bool x24_2 ∧ Aside0 (jvmcoreref2_cut_take.j0 kq a1 x24_2 s0_0 s0_1 s0_2 s0_3 = some (r1, r2, r3, r4, r5)) ∧ Aside0 (kq ≤ k) ∧ Aside0 (IsS148 w0 wc g s0_0 s0_1 s0_2 s0_3) ∧ Aside0 (KeepBut w wc g none) ∧ Aside0 (Below w0.heap.size w0 wc))
  case first =>
    have H := HC3.out
    clear HC3
    by_cases c4 : s0_2 = 0
    · rw [if_pos c4] at H
      have c4b0 : (s0_2 == 0) = true := beq_iff_eq.mpr c4
      have c4b1 : (s0_2 != 0) = false := bne_eq_false_iff_eq.mpr c4
      clear c4
      (first | rw [c4b0] | (simp only [i64_w, i32_w]; rw [c4b0]) | skip)
      have H' := Aside0.mk H
      clear H
      obtain ⟨HGz5, hgz5⟩ := HI0.out
      have hcz5_0 := cellS148_0 HGz5
      have hcz5_1 := cellS148_1 HGz5
      have hcz5_2 := cellS148_2 HGz5
      have hcz5_3 := cellS148_3 HGz5
      have hfz5_0 := blk_frozen HGz5 0
      have hfz5_1 := blk_frozen HGz5 1
      have hfz5_2 := blk_frozen HGz5 2
      have hfz5_3 := blk_frozen HGz5 3
      clear HGz5 hgz5
      go_wp2
      repeat (go_quiet (fail); try go_wp2)
      go_meet
      case rel => exact ⟨_, (decide ((wrap64 (s0_1 + a1)) > (s0_0.size : Int))), (by first | rfl | (simp; done) | (simp [*]; done)), H', ⟨by first | omega | exact Nat.le_refl _⟩, ⟨by repeat (first | (with_reducible first | exact HI0.out | apply IsS148.alloc | apply IsS148.drewN | apply IsS148.drew | apply IsS148.set_0 | apply IsS148.set_1 | apply IsS148.set_2 | apply IsS148.set_3) | exact HI0.out)⟩, ⟨by repeat (first | (with_reducible first | exact HK.out | apply KeepBut.set_ | apply keep_drewN | apply keep_drew | apply keep_alloc) | exact HK.out)⟩, ⟨by repeat (first | (with_reducible first | exact HB.out | apply below_alloc | apply pw_below_drewN | apply below_drew1 | refine below_set ?_ (IsS148.ge HI0.out)) | exact HB.out)⟩⟩
    · rw [if_neg c4] at H
      have c4b0 : (s0_2 == 0) = false := beq_eq_false_iff_ne.mpr c4
      have c4b1 : (s0_2 != 0) = true := bne_iff_ne.mpr c4
      (first | rw [c4b0] | (simp only [i64_w, i32_w]; rw [c4b0]) | skip)
      have H' := Aside0.mk H
      clear H
      obtain ⟨HGz6, hgz6⟩ := HI0.out
      have hcz6_0 := cellS148_0 HGz6
      have hcz6_1 := cellS148_1 HGz6
      have hcz6_2 := cellS148_2 HGz6
      have hcz6_3 := cellS148_3 HGz6
      have hfz6_0 := blk_frozen HGz6 0
      have hfz6_1 := blk_frozen HGz6 1
      have hfz6_2 := blk_frozen HGz6 2
      have hfz6_3 := blk_frozen HGz6 3
      clear HGz6 hgz6
      go_wp2
      repeat (go_quiet (fail); try go_wp2)
      go_meet
      case rel => exact ⟨_, (false), (by first | rfl | (simp; done) | (simp [*]; done)), H', ⟨by first | omega | exact Nat.le_refl _⟩, ⟨by repeat (first | (with_reducible first | exact HI0.out | apply IsS148.alloc | apply IsS148.drewN | apply IsS148.drew | apply IsS148.set_0 | apply IsS148.set_1 | apply IsS148.set_2 | apply IsS148.set_3) | exact HI0.out)⟩, ⟨by repeat (first | (with_reducible first | exact HK.out | apply KeepBut.set_ | apply keep_drewN | apply keep_drew | apply keep_alloc) | exact HK.out)⟩, ⟨by repeat (first | (with_reducible first | exact HB.out | apply below_alloc | apply pw_below_drewN | apply below_drew1 | refine below_set ?_ (IsS148.ge HI0.out)) | exact HB.out)⟩⟩
  case rest =>
    clear HC3
    try clear c1
    try clear p2
    try clear c4
    try clear c4b0
    try clear c4b1
    try clear p6
    try clear hcz5_0
    try clear hcz5_1
    try clear hcz5_2
    try clear hcz5_3
    try clear hcz6_0
    try clear hcz6_1
    try clear hcz6_2
    try clear hcz6_3
    try clear hfz5_0
    try clear hfz5_1
    try clear hfz5_2
    try clear hfz5_3
    try clear hfz6_0
    try clear hfz6_1
    try clear hfz6_2
    try clear hfz6_3
    obtain ⟨kq, x24_2, rfl, HA, HJ2, HI0, HK, HB⟩ := hcut
    cases kq with
    | zero => exact absurd HA.out (by simp [jvmcoreref2_cut_take.j0])
    | succ kj2 =>
      have H := HA.out
      clear HA
      simp only [jvmcoreref2_cut_take.j0] at H
      by_cases c7 : x24_2 = true
      · subst c7
        have H1 : ((jvmcoreref2_cut_fail.f s0_0 s0_1 s0_2 s0_3 1 (s0_0.size : Int)).bind fun bt128 => (if bt128.2.2.1 = 0 then (if 0 ≤ bt128.2.1 then (if bt128.2.1 ≤ (wrap64 (bt128.2.1 + a1)) then (if (wrap64 (bt128.2.1 + a1)) ≤ (bt128.1.size : Int) then (some (bt128.1.extract (bt128.2.1 : Int).toNat ((wrap64 (bt128.2.1 + a1)) : Int).toNat, bt128.1, wrap64 (bt128.2.1 + a1), bt128.2.2.1, bt128.2.2.2)) else (none)) else (none)) else (none)) else (if 0 ≤ a1 then (if (a1 : Int).toNat ≤ 281474976710656 then (some (strOfNums (List.replicate (a1 : Int).toNat 0), bt128.1, bt128.2.1, bt128.2.2.1, bt128.2.2.2)) else (none)) else (none)))) = some (r1, r2, r3, r4, r5) := by rw [if_pos rfl] at H; exact H
        clear H
        have H := H1
        clear H1
        replace H := Option.bind_eq_some_iff.mp H
        obtain ⟨⟨t128, t129, t130, t131⟩, A80, H⟩ := H
        replace H : (if t130 = 0 then (if 0 ≤ t129 then (if t129 ≤ (wrap64 (t129 + a1)) then (if (wrap64 (t129 + a1)) ≤ (t128.size : Int) then (some (t128.extract (t129 : Int).toNat ((wrap64 (t129 + a1)) : Int).toNat, t128, wrap64 (t129 + a1), t130, t131)) else (none)) else (none)) else (none)) else (if 0 ≤ a1 then (if (a1 : Int).toNat ≤ 281474976710656 then (some (strOfNums (List.replicate (a1 : Int).toNat 0), t128, t129, t130, t131)) else (none)) else (none))) = some (r1, r2, r3, r4, r5) := H
        have A8 := Aside0.mk A80
        clear A80
        by_cases c9 : t130 = 0
        · rw [if_pos c9] at H
          have c9b0 : (t130 == 0) = true := beq_iff_eq.mpr c9
          have c9b1 : (t130 != 0) = false := bne_eq_false_iff_eq.mpr c9
          clear c9
          by_cases c10 : 0 ≤ t129
          · rw [if_pos c10] at H
            have c10b0 := eq_true c10
            have c10b1 : decide (0 ≤ t129) = true := decide_eq_true c10
            clear c10
            by_cases c11 : t129 ≤ (wrap64 (t129 + a1))
            · rw [if_pos c11] at H
              have c11b0 := eq_true c11
              have c11b1 : decide (t129 ≤ (wrap64 (t129 + a1))) = true := decide_eq_true c11
              by_cases c12 : (wrap64 (t129 + a1)) ≤ (t128.size : Int)
              · rw [if_pos c12] at H
                have c12b0 := eq_true c12
                have c12b1 : decide ((wrap64 (t129 + a1)) ≤ (t128.size : Int)) = true := decide_eq_true c12
                simp only [Option.some.injEq, Prod.mk.injEq] at H
                obtain ⟨rfl, rfl, rfl, rfl, rfl⟩ := H
                obtain ⟨HGz13, hgz13⟩ := HI0.out
                have hcz13_0 := cellS148_0 HGz13
                have hcz13_1 := cellS148_1 HGz13
                have hcz13_2 := cellS148_2 HGz13
                have hcz13_3 := cellS148_3 HGz13
                have hfz13_0 := blk_frozen HGz13 0
                have hfz13_1 := blk_frozen HGz13 1
                have hfz13_2 := blk_frozen HGz13 2
                have hfz13_3 := blk_frozen HGz13 3
                clear HGz13 hgz13
                go_wp2_with (first | (go_at_call 97; (with_reducible refine (jvmcoreref2_cut_fail.calls g s0_0 s0_1 s0_2 s0_3 1 (s0_0.size : Int) t128 t129 t130 t131 w0 _ ?side1 ?side2 A8.out).mono ?_); (case side1 => repeat (first | (with_reducible first | exact HI0.out | apply IsS148.alloc | apply IsS148.drewN | apply IsS148.drew | apply IsS148.set_0 | apply IsS148.set_1 | apply IsS148.set_2 | apply IsS148.set_3) | exact HI0.out)); (case side2 => repeat (first | (with_reducible first | exact HB.out | apply below_alloc | apply pw_below_drewN | apply below_drew1 | refine below_set ?_ (IsS148.ge HI0.out)) | exact HB.out)); rintro e w14 ⟨rfl, hi, hb, hk⟩; have n0_ := Aside0.mk (KeepBut.trans (by repeat (first | (with_reducible first | exact HK.out | apply KeepBut.set_ | apply keep_drewN | apply keep_drew | apply keep_alloc) | exact HK.out)) hk (.inl rfl)); have n1_ := Aside0.mk (hb); have n2_ := Aside0.mk (hi); clear HK; clear HB; clear HI0; have HK := n0_; have HB := n1_; have HI0 := n2_; clear n0_ n1_ n2_; (try clear hb); (try clear hb2); (try clear hk); (try clear hi); obtain ⟨HGz15, hgz15⟩ := HI0.out; have hcz15_0 := cellS148_0 HGz15; have hcz15_1 := cellS148_1 HGz15; have hcz15_2 := cellS148_2 HGz15; have hcz15_3 := cellS148_3 HGz15; have hfz15_0 := blk_frozen HGz15 0; have hfz15_1 := blk_frozen HGz15 1; have hfz15_2 := blk_frozen HGz15 2; have hfz15_3 := blk_frozen HGz15 3; clear HGz15 hgz15))
                repeat (go_quiet (first | (go_at_call 97; (with_reducible refine (jvmcoreref2_cut_fail.calls g s0_0 s0_1 s0_2 s0_3 1 (s0_0.size : Int) t128 t129 t130 t131 w0 _ ?side1 ?side2 A8.out).mono ?_); (case side1 => repeat (first | (with_reducible first | exact HI0.out | apply IsS148.alloc | apply IsS148.drewN | apply IsS148.drew | apply IsS148.set_0 | apply IsS148.set_1 | apply IsS148.set_2 | apply IsS148.set_3) | exact HI0.out)); (case side2 => repeat (first | (with_reducible first | exact HB.out | apply below_alloc | apply pw_below_drewN | apply below_drew1 | refine below_set ?_ (IsS148.ge HI0.out)) | exact HB.out)); rintro e w14 ⟨rfl, hi, hb, hk⟩; have n0_ := Aside0.mk (KeepBut.trans (by repeat (first | (with_reducible first | exact HK.out | apply KeepBut.set_ | apply keep_drewN | apply keep_drew | apply keep_alloc) | exact HK.out)) hk (.inl rfl)); have n1_ := Aside0.mk (hb); have n2_ := Aside0.mk (hi); clear HK; clear HB; clear HI0; have HK := n0_; have HB := n1_; have HI0 := n2_; clear n0_ n1_ n2_; (try clear hb); (try clear hb2); (try clear hk); (try clear hi); obtain ⟨HGz15, hgz15⟩ := HI0.out; have hcz15_0 := cellS148_0 HGz15; have hcz15_1 := cellS148_1 HGz15; have hcz15_2 := cellS148_2 HGz15; have hcz15_3 := cellS148_3 HGz15; have hfz15_0 := blk_frozen HGz15 0; have hfz15_1 := blk_frozen HGz15 1; have hfz15_2 := blk_frozen HGz15 2; have hfz15_3 := blk_frozen HGz15 3; clear HGz15 hgz15)); try go_wp2_with (first | (go_at_call 97; (with_reducible refine (jvmcoreref2_cut_fail.calls g s0_0 s0_1 s0_2 s0_3 1 (s0_0.size : Int) t128 t129 t130 t131 w0 _ ?side1 ?side2 A8.out).mono ?_); (case side1 => repeat (first | (with_reducible first | exact HI0.out | apply IsS148.alloc | apply IsS148.drewN | apply IsS148.drew | apply IsS148.set_0 | apply IsS148.set_1 | apply IsS148.set_2 | apply IsS148.set_3) | exact HI0.out)); (case side2 => repeat (first | (with_reducible first | exact HB.out | apply below_alloc | apply pw_below_drewN | apply below_drew1 | refine below_set ?_ (IsS148.ge HI0.out)) | exact HB.out)); rintro e w14 ⟨rfl, hi, hb, hk⟩; have n0_ := Aside0.mk (KeepBut.trans (by repeat (first | (with_reducible first | exact HK.out | apply KeepBut.set_ | apply keep_drewN | apply keep_drew | apply keep_alloc) | exact HK.out)) hk (.inl rfl)); have n1_ := Aside0.mk (hb); have n2_ := Aside0.mk (hi); clear HK; clear HB; clear HI0; have HK := n0_; have HB := n1_; have HI0 := n2_; clear n0_ n1_ n2_; (try clear hb); (try clear hb2); (try clear hk); (try clear hi); obtain ⟨HGz15, hgz15⟩ := HI0.out; have hcz15_0 := cellS148_0 HGz15; have hcz15_1 := cellS148_1 HGz15; have hcz15_2 := cellS148_2 HGz15; have hcz15_3 := cellS148_3 HGz15; have hfz15_0 := blk_frozen HGz15 0; have hfz15_1 := blk_frozen HGz15 1; have hfz15_2 := blk_frozen HGz15 2; have hfz15_3 := blk_frozen HGz15 3; clear HGz15 hgz15)))
                go_ret
                exact ⟨by first | rfl | (simp [errW_none, errW_some] <;> rfl) | (simp [*, errW_none, errW_some] <;> rfl), by repeat (first | (with_reducible first | exact HI0.out | apply IsS148.alloc | apply IsS148.drewN | apply IsS148.drew | apply IsS148.set_0 | apply IsS148.set_1 | apply IsS148.set_2 | apply IsS148.set_3) | exact HI0.out), by repeat (first | (with_reducible first | exact HB.out | apply below_alloc | apply pw_below_drewN | apply below_drew1 | refine below_set ?_ (IsS148.ge HI0.out)) | exact HB.out), by repeat (first | (with_reducible first | exact HK.out | apply KeepBut.set_ | apply keep_drewN | apply keep_drew | apply keep_alloc) | exact HK.out)⟩
              · rw [if_neg c12] at H
                exact absurd H (by simp)
            · rw [if_neg c11] at H
              exact absurd H (by simp)
          · rw [if_neg c10] at H
            exact absurd H (by simp)
        · rw [if_neg c9] at H
          have c9b0 : (t130 == 0) = false := beq_eq_false_iff_ne.mpr c9
          have c9b1 : (t130 != 0) = true := bne_iff_ne.mpr c9
          by_cases c16 : 0 ≤ a1
          · rw [if_pos c16] at H
            have c16b0 := eq_true c16
            have c16b1 : decide (0 ≤ a1) = true := decide_eq_true c16
            clear c16
            by_cases c17 : (a1 : Int).toNat ≤ 281474976710656
            · rw [if_pos c17] at H
              have c17b0 := eq_true c17
              have c17b1 : decide ((a1 : Int).toNat ≤ 281474976710656) = true := decide_eq_true c17
              clear c17
              obtain ⟨y132, hy132⟩ : ∃ y_ : List Int, y_ = (List.replicate (a1 : Int).toNat 0) := ⟨_, rfl⟩
              replace H : (some (strOfNums y132, t128, t129, t130, t131)) = some (r1, r2, r3, r4, r5) := by first | (rw [hy132]; with_reducible exact H) | (have H2_ := (Option.bind_some _ _).symm.trans H; rw [hy132]; with_reducible exact H2_) | (have H2_ := (Option.bind_some _ _).symm.trans H; with_reducible exact H2_) | with_reducible exact H | (rw [hy132]; exact H) | exact H
              have Ny132 := Aside0.mk hy132
              clear hy132
              simp only [Option.some.injEq, Prod.mk.injEq] at H
              obtain ⟨rfl, rfl, rfl, rfl, rfl⟩ := H
              obtain ⟨HGz18, hgz18⟩ := HI0.out
              have hcz18_0 := cellS148_0 HGz18
              have hcz18_1 := cellS148_1 HGz18
              have hcz18_2 := cellS148_2 HGz18
              have hcz18_3 := cellS148_3 HGz18
              have hfz18_0 := blk_frozen HGz18 0
              have hfz18_1 := blk_frozen HGz18 1
              have hfz18_2 := blk_frozen HGz18 2
              have hfz18_3 := blk_frozen HGz18 3
              clear HGz18 hgz18
              go_wp2_with (first | (go_at_call 97; (with_reducible refine (jvmcoreref2_cut_fail.calls g s0_0 s0_1 s0_2 s0_3 1 (s0_0.size : Int) t128 t129 t130 t131 w0 _ ?side1 ?side2 A8.out).mono ?_); (case side1 => repeat (first | (with_reducible first | exact HI0.out | apply IsS148.alloc | apply IsS148.drewN | apply IsS148.drew | apply IsS148.set_0 | apply IsS148.set_1 | apply IsS148.set_2 | apply IsS148.set_3) | exact HI0.out)); (case side2 => repeat (first | (with_reducible first | exact HB.out | apply below_alloc | apply pw_below_drewN | apply below_drew1 | refine below_set ?_ (IsS148.ge HI0.out)) | exact HB.out)); rintro e w19 ⟨rfl, hi, hb, hk⟩; have n0_ := Aside0.mk (KeepBut.trans (by repeat (first | (with_reducible first | exact HK.out | apply KeepBut.set_ | apply keep_drewN | apply keep_drew | apply keep_alloc) | exact HK.out)) hk (.inl rfl)); have n1_ := Aside0.mk (hb); have n2_ := Aside0.mk (hi); clear HK; clear HB; clear HI0; have HK := n0_; have HB := n1_; have HI0 := n2_; clear n0_ n1_ n2_; (try clear hb); (try clear hb2); (try clear hk); (try clear hi); obtain ⟨HGz20, hgz20⟩ := HI0.out; have hcz20_0 := cellS148_0 HGz20; have hcz20_1 := cellS148_1 HGz20; have hcz20_2 := cellS148_2 HGz20; have hcz20_3 := cellS148_3 HGz20; have hfz20_0 := blk_frozen HGz20 0; have hfz20_1 := blk_frozen HGz20 1; have hfz20_2 := blk_frozen HGz20 2; have hfz20_3 := blk_frozen HGz20 3; clear HGz20 hgz20) | ((with_reducible refine gate_dst (N := 38) rfl ?_); (try (refine gate_guard (by rfl) ?_; dsimp only)); refine Kd.R_make (Kd.int .u8) _ 5 rfl (N := 38) rfl 87 _ _ rfl a1 rfl rfl Try.underlying87 (.int .u8 0) 1 info5 rfl (by decide) (by omega) 0 (ok := fun _ => True) (okp := fun _ => True) rfl (fun _ hk => hk) trivial (of_decide_eq_true (by first | (with_reducible assumption) | assumption)) (Nat.le_trans (Nat.mul_le_mul_right _ (of_decide_eq_true (by first | (with_reducible assumption) | assumption) : a1.toNat ≤ 281474976710656)) (by omega)) (Below.refl _ _) (Nat.le_refl _) ?_; intro v133 w21 ho22 hb hg_ hnew_; clear hg_ hnew_; (first | rw [← Ny132.out] at ho22 | (simp only [Int.reduceToNat] at ho22; rw [← Ny132.out] at ho22)); have n0_ := Aside0.mk (Kd.R_lower ho22 (keep_size (w := w) (g := g) (row := none) (by repeat (first | (with_reducible first | exact HK.out | apply KeepBut.set_ | apply keep_drewN | apply keep_drew | apply keep_alloc) | exact HK.out)))); have n1_ := Aside0.mk (IsS148.below (by repeat (first | (with_reducible first | exact HI0.out | apply IsS148.alloc | apply IsS148.drewN | apply IsS148.drew | apply IsS148.set_0 | apply IsS148.set_1 | apply IsS148.set_2 | apply IsS148.set_3) | exact HI0.out)) hb); have n2_ := Aside0.mk (KeepBut.trans (by repeat (first | (with_reducible first | exact HK.out | apply KeepBut.set_ | apply keep_drewN | apply keep_drew | apply keep_alloc) | exact HK.out)) (KeepBut.of_below hb g none) (.inl rfl)); have n3_ := Aside0.mk (below_step (by repeat (first | (with_reducible first | exact HB.out | apply below_alloc | apply pw_below_drewN | apply below_drew1 | refine below_set ?_ (IsS148.ge HI0.out)) | exact HB.out)) hb); clear HI0; clear HK; clear HB; have HO134 := n0_; have HI0 := n1_; have HK := n2_; have HB := n3_; clear n0_ n1_ n2_ n3_; clear hb ho22; have hcv23 := own_string (P := Try.prog) Try.underlying87 Try.underlying5 Try.underlying9 (Kd.own_of_R HO134.out)))
              repeat (go_quiet (first | (go_at_call 97; (with_reducible refine (jvmcoreref2_cut_fail.calls g s0_0 s0_1 s0_2 s0_3 1 (s0_0.size : Int) t128 t129 t130 t131 w0 _ ?side1 ?side2 A8.out).mono ?_); (case side1 => repeat (first | (with_reducible first | exact HI0.out | apply IsS148.alloc | apply IsS148.drewN | apply IsS148.drew | apply IsS148.set_0 | apply IsS148.set_1 | apply IsS148.set_2 | apply IsS148.set_3) | exact HI0.out)); (case side2 => repeat (first | (with_reducible first | exact HB.out | apply below_alloc | apply pw_below_drewN | apply below_drew1 | refine below_set ?_ (IsS148.ge HI0.out)) | exact HB.out)); rintro e w19 ⟨rfl, hi, hb, hk⟩; have n0_ := Aside0.mk (KeepBut.trans (by repeat (first | (with_reducible first | exact HK.out | apply KeepBut.set_ | apply keep_drewN | apply keep_drew | apply keep_alloc) | exact HK.out)) hk (.inl rfl)); have n1_ := Aside0.mk (hb); have n2_ := Aside0.mk (hi); clear HK; clear HB; clear HI0; have HK := n0_; have HB := n1_; have HI0 := n2_; clear n0_ n1_ n2_; (try clear hb); (try clear hb2); (try clear hk); (try clear hi); obtain ⟨HGz20, hgz20⟩ := HI0.out; have hcz20_0 := cellS148_0 HGz20; have hcz20_1 := cellS148_1 HGz20; have hcz20_2 := cellS148_2 HGz20; have hcz20_3 := cellS148_3 HGz20; have hfz20_0 := blk_frozen HGz20 0; have hfz20_1 := blk_frozen HGz20 1; have hfz20_2 := blk_frozen HGz20 2; have hfz20_3 := blk_frozen HGz20 3; clear HGz20 hgz20) | ((with_reducible refine gate_dst (N := 38) rfl ?_); (try (refine gate_guard (by rfl) ?_; dsimp only)); refine Kd.R_make (Kd.int .u8) _ 5 rfl (N := 38) rfl 87 _ _ rfl a1 rfl rfl Try.underlying87 (.int .u8 0) 1 info5 rfl (by decide) (by omega) 0 (ok := fun _ => True) (okp := fun _ => True) rfl (fun _ hk => hk) trivial (of_decide_eq_true (by first | (with_reducible assumption) | assumption)) (Nat.le_trans (Nat.mul_le_mul_right _ (of_decide_eq_true (by first | (with_reducible assumption) | assumption) : a1.toNat ≤ 281474976710656)) (by omega)) (Below.refl _ _) (Nat.le_refl _) ?_; intro v133 w21 ho22 hb hg_ hnew_; clear hg_ hnew_; (first | rw [← Ny132.out] at ho22 | (simp only [Int.reduceToNat] at ho22; rw [← Ny132.out] at ho22)); have n0_ := Aside0.mk (Kd.R_lower ho22 (keep_size (w := w) (g := g) (row := none) (by repeat (first | (with_reducible first | exact HK.out | apply KeepBut.set_ | apply keep_drewN | apply keep_drew | apply keep_alloc) | exact HK.out)))); have n1_ := Aside0.mk (IsS148.below (by repeat (first | (with_reducible first | exact HI0.out | apply IsS148.alloc | apply IsS148.drewN | apply IsS148.drew | apply IsS148.set_0 | apply IsS148.set_1 | apply IsS148.set_2 | apply IsS148.set_3) | exact HI0.out)) hb); have n2_ := Aside0.mk (KeepBut.trans (by repeat (first | (with_reducible first | exact HK.out | apply KeepBut.set_ | apply keep_drewN | apply keep_drew | apply keep_alloc) | exact HK.out)) (KeepBut.of_below hb g none) (.inl rfl)); have n3_ := Aside0.mk (below_step (by repeat (first | (with_reducible first | exact HB.out | apply below_alloc | apply pw_below_drewN | apply below_drew1 | refine below_set ?_ (IsS148.ge HI0.out)) | exact HB.out)) hb); clear HI0; clear HK; clear HB; have HO134 := n0_; have HI0 := n1_; have HK := n2_; have HB := n3_; clear n0_ n1_ n2_ n3_; clear hb ho22; have hcv23 := own_string (P := Try.prog) Try.underlying87 Try.underlying5 Try.underlying9 (Kd.own_of_R HO134.out))); try go_wp2_with (first | (go_at_call 97; (with_reducible refine (jvmcoreref2_cut_fail.calls g s0_0 s0_1 s0_2 s0_3 1 (s0_0.size : Int) t128 t129 t130 t131 w0 _ ?side1 ?side2 A8.out).mono ?_); (case side1 => repeat (first | (with_reducible first | exact HI0.out | apply IsS148.alloc | apply IsS148.drewN | apply IsS148.drew | apply IsS148.set_0 | apply IsS148.set_1 | apply IsS148.set_2 | apply IsS148.set_3) | exact HI0.out)); (case side2 => repeat (first | (with_reducible first | exact HB.out | apply below_alloc | apply pw_below_drewN | apply below_drew1 | refine below_set ?_ (IsS148.ge HI0.out)) | exact HB.out)); rintro e w19 ⟨rfl, hi, hb, hk⟩; have n0_ := Aside0.mk (KeepBut.trans (by repeat (first | (with_reducible first | exact HK.out | apply KeepBut.set_ | apply keep_drewN | apply keep_drew | apply keep_alloc) | exact HK.out)) hk (.inl rfl)); have n1_ := Aside0.mk (hb); have n2_ := Aside0.mk (hi); clear HK; clear HB; clear HI0; have HK := n0_; have HB := n1_; have HI0 := n2_; clear n0_ n1_ n2_; (try clear hb); (try clear hb2); (try clear hk); (try clear hi); obtain ⟨HGz20, hgz20⟩ := HI0.out; have hcz20_0 := cellS148_0 HGz20; have hcz20_1 := cellS148_1 HGz20; have hcz20_2 := cellS148_2 HGz20; have hcz20_3 := cellS148_3 HGz20; have hfz20_0 := blk_frozen HGz20 0; have hfz20_1 := blk_frozen HGz20 1; have hfz20_2 := blk_frozen HGz20 2; have hfz20_3 := blk_frozen HGz20 3; clear HGz20 hgz20) | ((with_reducible refine gate_dst (N := 38) rfl ?_); (try (refine gate_guard (by rfl) ?_; dsimp only)); refine Kd.R_make (Kd.int .u8) _ 5 rfl (N := 38) rfl 87 _ _ rfl a1 rfl rfl Try.underlying87 (.int .u8 0) 1 info5 rfl (by decide) (by omega) 0 (ok := fun _ => True) (okp := fun _ => True) rfl (fun _ hk => hk) trivial (of_decide_eq_true (by first | (with_reducible assumption) | assumption)) (Nat.le_trans (Nat.mul_le_mul_right _ (of_decide_eq_true (by first | (with_reducible assumption) | assumption) : a1.toNat ≤ 281474976710656)) (by omega)) (Below.refl _ _) (Nat.le_refl _) ?_; intro v133 w21 ho22 hb hg_ hnew_; clear hg_ hnew_; (first | rw [← Ny132.out] at ho22 | (simp only [Int.reduceToNat] at ho22; rw [← Ny132.out] at ho22)); have n0_ := Aside0.mk (Kd.R_lower ho22 (keep_size (w := w) (g := g) (row := none) (by repeat (first | (with_reducible first | exact HK.out | apply KeepBut.set_ | apply keep_drewN | apply keep_drew | apply keep_alloc) | exact HK.out)))); have n1_ := Aside0.mk (IsS148.below (by repeat (first | (with_reducible first | exact HI0.out | apply IsS148.alloc | apply IsS148.drewN | apply IsS148.drew | apply IsS148.set_0 | apply IsS148.set_1 | apply IsS148.set_2 | apply IsS148.set_3) | exact HI0.out)) hb); have n2_ := Aside0.mk (KeepBut.trans (by repeat (first | (with_reducible first | exact HK.out | apply KeepBut.set_ | apply keep_drewN | apply keep_drew | apply keep_alloc) | exact HK.out)) (KeepBut.of_below hb g none) (.inl rfl)); have n3_ := Aside0.mk (below_step (by repeat (first | (with_reducible first | exact HB.out | apply below_alloc | apply pw_below_drewN | apply below_drew1 | refine below_set ?_ (IsS148.ge HI0.out)) | exact HB.out)) hb); clear HI0; clear HK; clear HB; have HO134 := n0_; have HI0 := n1_; have HK := n2_; have HB := n3_; clear n0_ n1_ n2_ n3_; clear hb ho22; have hcv23 := own_string (P := Try.prog) Try.underlying87 Try.underlying5 Try.underlying9 (Kd.own_of_R HO134.out))))
              go_ret
              exact ⟨by first | rfl | (simp [errW_none, errW_some] <;> rfl) | (simp [*, errW_none, errW_some] <;> rfl), by repeat (first | (with_reducible first | exact HI0.out | apply IsS148.alloc | apply IsS148.drewN | apply IsS148.drew | apply IsS148.set_0 | apply IsS148.set_1 | apply IsS148.set_2 | apply IsS148.set_3) | exact HI0.out), by repeat (first | (with_reducible first | exact HB.out | apply below_alloc | apply pw_below_drewN | apply below_drew1 | refine below_set ?_ (IsS148.ge HI0.out)) | exact HB.out), by repeat (first | (with_reducible first | exact HK.out | apply KeepBut.set_ | apply keep_drewN | apply keep_drew | apply keep_alloc) | exact HK.out)⟩
            · rw [if_neg c17] at H
              exact absurd H (by simp)
          · rw [if_neg c16] at H
            exact absurd H (by simp)
      · replace c7 := Bool.eq_false_iff.mpr c7
        subst c7
        have H1 : (if s0_2 = 0 then (if 0 ≤ s0_1 then (if s0_1 ≤ (wrap64 (s0_1 + a1)) then (if (wrap64 (s0_1 + a1)) ≤ (s0_0.size : Int) then (some (s0_0.extract (s0_1 : Int).toNat ((wrap64 (s0_1 + a1)) : Int).toNat, s0_0, wrap64 (s0_1 + a1), s0_2, s0_3)) else (none)) else (none)) else (none)) else (if 0 ≤ a1 then (if (a1 : Int).toNat ≤ 281474976710656 then (some (strOfNums (List.replicate (a1 : Int).toNat 0), s0_0, s0_1, s0_2, s0_3)) else (none)) else (none))) = some (r1, r2, r3, r4, r5) := by rw [if_neg (show ¬ (false = true) by decide)] at H; exact H
        clear H
        have H := H1
        clear H1
        by_cases c24 : s0_2 = 0
        · rw [if_pos c24] at H
          have c24b0 : (s0_2 == 0) = true := beq_iff_eq.mpr c24
          have c24b1 : (s0_2 != 0) = false := bne_eq_false_iff_eq.mpr c24
          clear c24
          by_cases c25 : 0 ≤ s0_1
          · rw [if_pos c25] at H
            have c25b0 := eq_true c25
            have c25b1 : decide (0 ≤ s0_1) = true := decide_eq_true c25
            clear c25
            by_cases c26 : s0_1 ≤ (wrap64 (s0_1 + a1))
            · rw [if_pos c26] at H
              have c26b0 := eq_true c26
              have c26b1 : decide (s0_1 ≤ (wrap64 (s0_1 + a1))) = true := decide_eq_true c26
              by_cases c27 : (wrap64 (s0_1 + a1)) ≤ (s0_0.size : Int)
              · rw [if_pos c27] at H
                have c27b0 := eq_true c27
                have c27b1 : decide ((wrap64 (s0_1 + a1)) ≤ (s0_0.size : Int)) = true := decide_eq_true c27
                simp only [Option.some.injEq, Prod.mk.injEq] at H
                obtain ⟨rfl, rfl, rfl, rfl, rfl⟩ := H
                obtain ⟨HGz28, hgz28⟩ := HI0.out
                have hcz28_0 := cellS148_0 HGz28
                have hcz28_1 := cellS148_1 HGz28
                have hcz28_2 := cellS148_2 HGz28
                have hcz28_3 := cellS148_3 HGz28
                have hfz28_0 := blk_frozen HGz28 0
                have hfz28_1 := blk_frozen HGz28 1
                have hfz28_2 := blk_frozen HGz28 2
                have hfz28_3 := blk_frozen HGz28 3
                clear HGz28 hgz28
                go_wp2
                repeat (go_quiet (fail); try go_wp2)
                go_ret
                exact ⟨by first | rfl | (simp [errW_none, errW_some] <;> rfl) | (simp [*, errW_none, errW_some] <;> rfl), by repeat (first | (with_reducible first | exact HI0.out | apply IsS148.alloc | apply IsS148.drewN | apply IsS148.drew | apply IsS148.set_0 | apply IsS148.set_1 | apply IsS148.set_2 | apply IsS148.set_3) | exact HI0.out), by repeat (first | (with_reducible first | exact HB.out | apply below_alloc | apply pw_below_drewN | apply below_drew1 | refine below_set ?_ (IsS148.ge HI0.out)) | exact HB.out), by repeat (first | (with_reducible first | exact HK.out | apply KeepBut.set_ | apply keep_drewN | apply keep_drew | apply keep_alloc) | exact HK.out)⟩
              · rw [if_neg c27] at H
                exact absurd H (by simp)
            · rw [if_neg c26] at H
              exact absurd H (by simp)
          · rw [if_neg c25] at H
            exact absurd H (by simp)
        · rw [if_neg c24] at H
          have c24b0 : (s0_2 == 0) = false := beq_eq_false_iff_ne.mpr c24
          have c24b1 : (s0_2 != 0) = true := bne_iff_ne.mpr c24
          by_cases c29 : 0 ≤ a1
          · rw [if_pos c29] at H
            have c29b0 := eq_true c29
            have c29b1 : decide (0 ≤ a1) = true := decide_eq_true c29
            clear c29
            by_cases c30 : (a1 : Int).toNat ≤ 281474976710656
            · rw [if_pos c30] at H
              have c30b0 := eq_true c30
              have c30b1 : decide ((a1 : Int).toNat ≤ 281474976710656) = true := decide_eq_true c30
              clear c30
              obtain ⟨y135, hy135⟩ : ∃ y_ : List Int, y_ = (List.replicate (a1 : Int).toNat 0) := ⟨_, rfl⟩
              replace H : (some (strOfNums y135, s0_0, s0_1, s0_2, s0_3)) = some (r1, r2, r3, r4, r5) := by first | (rw [hy135]; with_reducible exact H) | (have H2_ := (Option.bind_some _ _).symm.trans H; rw [hy135]; with_reducible exact H2_) | (have H2_ := (Option.bind_some _ _).symm.trans H; with_reducible exact H2_) | with_reducible exact H | (rw [hy135]; exact H) | exact H
              have Ny135 := Aside0.mk hy135
              clear hy135
              simp only [Option.some.injEq, Prod.mk.injEq] at H
              obtain ⟨rfl, rfl, rfl, rfl, rfl⟩ := H
              obtain ⟨HGz31, hgz31⟩ := HI0.out
              have hcz31_0 := cellS148_0 HGz31
              have hcz31_1 := cellS148_1 HGz31
              have hcz31_2 := cellS148_2 HGz31
              have hcz31_3 := cellS148_3 HGz31
              have hfz31_0 := blk_frozen HGz31 0
              have hfz31_1 := blk_frozen HGz31 1
              have hfz31_2 := blk_frozen HGz31 2
              have hfz31_3 := blk_frozen HGz31 3
              clear HGz31 hgz31
              go_wp2_with (first | ((with_reducible refine gate_dst (N := 38) rfl ?_); (try (refine gate_guard (by rfl) ?_; dsimp only)); refine Kd.R_make (Kd.int .u8) _ 5 rfl (N := 38) rfl 87 _ _ rfl a1 rfl rfl Try.underlying87 (.int .u8 0) 1 info5 rfl (by decide) (by omega) 0 (ok := fun _ => True) (okp := fun _ => True) rfl (fun _ hk => hk) trivial (of_decide_eq_true (by first | (with_reducible assumption) | assumption)) (Nat.le_trans (Nat.mul_le_mul_right _ (of_decide_eq_true (by first | (with_reducible assumption) | assumption) : a1.toNat ≤ 281474976710656)) (by omega)) (Below.refl _ _) (Nat.le_refl _) ?_; intro v136 w32 ho33 hb hg_ hnew_; clear hg_ hnew_; (first | rw [← Ny135.out] at ho33 | (simp only [Int.reduceToNat] at ho33; rw [← Ny135.out] at ho33)); have n0_ := Aside0.mk (Kd.R_lower ho33 (keep_size (w := w) (g := g) (row := none) (by repeat (first | (with_reducible first | exact HK.out | apply KeepBut.set_ | apply keep_drewN | apply keep_drew | apply keep_alloc) | exact HK.out)))); have n1_ := Aside0.mk (IsS148.below (by repeat (first | (with_reducible first | exact HI0.out | apply IsS148.alloc | apply IsS148.drewN | apply IsS148.drew | apply IsS148.set_0 | apply IsS148.set_1 | apply IsS148.set_2 | apply IsS148.set_3) | exact HI0.out)) hb); have n2_ := Aside0.mk (KeepBut.trans (by repeat (first | (with_reducible first | exact HK.out | apply KeepBut.set_ | apply keep_drewN | apply keep_drew | apply keep_alloc) | exact HK.out)) (KeepBut.of_below hb g none) (.inl rfl)); have n3_ := Aside0.mk (below_step (by repeat (first | (with_reducible first | exact HB.out | apply below_alloc | apply pw_below_drewN | apply below_drew1 | refine below_set ?_ (IsS148.ge HI0.out)) | exact HB.out)) hb); clear HI0; clear HK; clear HB; have HO137 := n0_; have HI0 := n1_; have HK := n2_; have HB := n3_; clear n0_ n1_ n2_ n3_; clear hb ho33; have hcv34 := own_string (P := Try.prog) Try.underlying87 Try.underlying5 Try.underlying9 (Kd.own_of_R HO137.out)))
              repeat (go_quiet (first | ((with_reducible refine gate_dst (N := 38) rfl ?_); (try (refine gate_guard (by rfl) ?_; dsimp only)); refine Kd.R_make (Kd.int .u8) _ 5 rfl (N := 38) rfl 87 _ _ rfl a1 rfl rfl Try.underlying87 (.int .u8 0) 1 info5 rfl (by decide) (by omega) 0 (ok := fun _ => True) (okp := fun _ => True) rfl (fun _ hk => hk) trivial (of_decide_eq_true (by first | (with_reducible assumption) | assumption)) (Nat.le_trans (Nat.mul_le_mul_right _ (of_decide_eq_true (by first | (with_reducible assumption) | assumption) : a1.toNat ≤ 281474976710656)) (by omega)) (Below.refl _ _) (Nat.le_refl _) ?_; intro v136 w32 ho33 hb hg_ hnew_; clear hg_ hnew_; (first | rw [← Ny135.out] at ho33 | (simp only [Int.reduceToNat] at ho33; rw [← Ny135.out] at ho33)); have n0_ := Aside0.mk (Kd.R_lower ho33 (keep_size (w := w) (g := g) (row := none) (by repeat (first | (with_reducible first | exact HK.out | apply KeepBut.set_ | apply keep_drewN | apply keep_drew | apply keep_alloc) | exact HK.out)))); have n1_ := Aside0.mk (IsS148.below (by repeat (first | (with_reducible first | exact HI0.out | apply IsS148.alloc | apply IsS148.drewN | apply IsS148.drew | apply IsS148.set_0 | apply IsS148.set_1 | apply IsS148.set_2 | apply IsS148.set_3) | exact HI0.out)) hb); have n2_ := Aside0.mk (KeepBut.trans (by repeat (first | (with_reducible first | exact HK.out | apply KeepBut.set_ | apply keep_drewN | apply keep_drew | apply keep_alloc) | exact HK.out)) (KeepBut.of_below hb g none) (.inl rfl)); have n3_ := Aside0.mk (below_step (by repeat (first | (with_reducible first | exact HB.out | apply below_alloc | apply pw_below_drewN | apply below_drew1 | refine below_set ?_ (IsS148.ge HI0.out)) | exact HB.out)) hb); clear HI0; clear HK; clear HB; have HO137 := n0_; have HI0 := n1_; have HK := n2_; have HB := n3_; clear n0_ n1_ n2_ n3_; clear hb ho33; have hcv34 := own_string (P := Try.prog) Try.underlying87 Try.underlying5 Try.underlying9 (Kd.own_of_R HO137.out))); try go_wp2_with (first | ((with_reducible refine gate_dst (N := 38) rfl ?_); (try (refine gate_guard (by rfl) ?_; dsimp only)); refine Kd.R_make (Kd.int .u8) _ 5 rfl (N := 38) rfl 87 _ _ rfl a1 rfl rfl Try.underlying87 (.int .u8 0) 1 info5 rfl (by decide) (by omega) 0 (ok := fun _ => True) (okp := fun _ => True) rfl (fun _ hk => hk) trivial (of_decide_eq_true (by first | (with_reducible assumption) | assumption)) (Nat.le_trans (Nat.mul_le_mul_right _ (of_decide_eq_true (by first | (with_reducible assumption) | assumption) : a1.toNat ≤ 281474976710656)) (by omega)) (Below.refl _ _) (Nat.le_refl _) ?_; intro v136 w32 ho33 hb hg_ hnew_; clear hg_ hnew_; (first | rw [← Ny135.out] at ho33 | (simp only [Int.reduceToNat] at ho33; rw [← Ny135.out] at ho33)); have n0_ := Aside0.mk (Kd.R_lower ho33 (keep_size (w := w) (g := g) (row := none) (by repeat (first | (with_reducible first | exact HK.out | apply KeepBut.set_ | apply keep_drewN | apply keep_drew | apply keep_alloc) | exact HK.out)))); have n1_ := Aside0.mk (IsS148.below (by repeat (first | (with_reducible first | exact HI0.out | apply IsS148.alloc | apply IsS148.drewN | apply IsS148.drew | apply IsS148.set_0 | apply IsS148.set_1 | apply IsS148.set_2 | apply IsS148.set_3) | exact HI0.out)) hb); have n2_ := Aside0.mk (KeepBut.trans (by repeat (first | (with_reducible first | exact HK.out | apply KeepBut.set_ | apply keep_drewN | apply keep_drew | apply keep_alloc) | exact HK.out)) (KeepBut.of_below hb g none) (.inl rfl)); have n3_ := Aside0.mk (below_step (by repeat (first | (with_reducible first | exact HB.out | apply below_alloc | apply pw_below_drewN | apply below_drew1 | refine below_set ?_ (IsS148.ge HI0.out)) | exact HB.out)) hb); clear HI0; clear HK; clear HB; have HO137 := n0_; have HI0 := n1_; have HK := n2_; have HB := n3_; clear n0_ n1_ n2_ n3_; clear hb ho33; have hcv34 := own_string (P := Try.prog) Try.underlying87 Try.underlying5 Try.underlying9 (Kd.own_of_R HO137.out))))
              go_ret
              exact ⟨by first | rfl | (simp [errW_none, errW_some] <;> rfl) | (simp [*, errW_none, errW_some] <;> rfl), by repeat (first | (with_reducible first | exact HI0.out | apply IsS148.alloc | apply IsS148.drewN | apply IsS148.drew | apply IsS148.set_0 | apply IsS148.set_1 | apply IsS148.set_2 | apply IsS148.set_3) | exact HI0.out), by repeat (first | (with_reducible first | exact HB.out | apply below_alloc | apply pw_below_drewN | apply below_drew1 | refine below_set ?_ (IsS148.ge HI0.out)) | exact HB.out), by repeat (first | (with_reducible first | exact HK.out | apply KeepBut.set_ | apply keep_drewN | apply keep_drew | apply keep_alloc) | exact HK.out)⟩
            · rw [if_neg c30] at H
              exact absurd H (by simp)
          · rw [if_neg c29] at H
            exact absurd H (by simp)
end Go.Proofs.Ytfnjbmpolggdeaa.CD
end
section
namespace Go.Proofs.Ytfnjbmpolggdeaa.CD
open Go.RowKit Go.Proofs.YtfnjbmpolggdeaaW.PrintWords Go.Proofs.YtfnjbmpolggdeaaW.PrintLast Go.Proofs.YtfnjbmpolggdeaaW.PrintMore
attribute [local go_sem] max2_int min2_int max_two min_two max_three min_three max_four min_four   -- for this text's walks alone
set_option linter.unusedVariables false
set_option linter.unusedSimpArgs false
def jvmcoreref1_Num.l0 : Nat → ByteArray → Int → Int → Option (Int)
  | 0, _, _, _ => none
  | k + 1, x0, x3, x4 => if x4 < (x0.size : Int) then (if 0 ≤ x4 then (jvmcoreref1_Num.l0 k x0 (IntKind.u64.wrap ((IntKind.u64.wrap (x3 * 256)) + (IntKind.u64.wrap (bt x0 x4)))) (wrap64 (x4 + 1))) else (none)) else (some x3)
def jvmcoreref1_Num.f (k : Nat) (a0 : ByteArray) : Option (Int) := jvmcoreref1_Num.l0 k a0 0 0
theorem jvmcoreref1_Num.mono_l : ∀ k, (∀ y0 y1 y2, LeO (jvmcoreref1_Num.l0 k y0 y1 y2) (jvmcoreref1_Num.l0 (k + 1) y0 y1 y2))
  | 0 => fun _ _ _ r h => by simp [jvmcoreref1_Num.l0] at h
  | k + 1 => by
    have ih0 := jvmcoreref1_Num.mono_l k
    · intro y0 y1 y2
      unfold jvmcoreref1_Num.l0
      repeat' first
      | (with_reducible exact ih0 _ _ _)
      | (with_reducible exact LeO.refl _)
      | (with_reducible exact LeO.none _)
      | (with_reducible refine LeO.ite ?_ ?_)
      | (with_reducible refine LeO.bind ?_ (fun _ => ?_))
theorem jvmcoreref1_Num.mono : ∀ a0 k, LeO (jvmcoreref1_Num.f k a0) (jvmcoreref1_Num.f (k + 1) a0) := by
  intro a0 k
  have ih0 := jvmcoreref1_Num.mono_l k
  unfold jvmcoreref1_Num.f
  repeat' first
      | (with_reducible exact ih0 _ _ _)
      | (with_reducible exact LeO.refl _)
      | (with_reducible exact LeO.none _)
      | (with_reducible refine LeO.ite ?_ ?_)
      | (with_reducible refine LeO.bind ?_ (fun _ => ?_))
set_option maxHeartbeats 8000000 in
set_option maxRecDepth 100000 in
theorem jvmcoreref1_Num.calls (k : Nat) (a0 : ByteArray) (r : Int) (w : World) (h : jvmcoreref1_Num.f k a0 = some r) :
    Calls Try.prog 67 #[.string a0] w fun e w' => e = .returned (.int .u64 r) ∧ Drawn0 w w' := by
  have H : (jvmcoreref1_Num.l0 k a0 0 0) = some r := h
  clear h
  have H' := Aside0.mk H
  clear H
  go_enter Try.func67, Try.ntmps67
  go_wp2
  go_loopg [3, 4] k (fun kq v3 v4 w' => ∃ (x3_1 : Int) (x4_1 : Int), v3 = .int .u64 x3_1 ∧ v4 = .int .i64 x4_1 ∧ Aside0 (jvmcoreref1_Num.l0 kq a0 x3_1 x4_1 = some r) ∧ Aside0 (kq ≤ k) ∧ Drawn0 w w')
  case atStart => exact ⟨(0), (0), (by first | rfl | (simp; done) | (simp [*]; done)), (by first | rfl | (simp; done) | (simp [*]; done)), H', ⟨Nat.le_refl _⟩, by repeat (first | exact Drawn0.refl _ | apply Drawn0.step)⟩
  case round =>
    clear H'
    obtain ⟨x3_1, x4_1, rfl, rfl, HA, HK1, ⟨m1, rfl⟩⟩ := hrel
    cases gk with
    | zero => exact absurd HA.out (by simp [jvmcoreref1_Num.l0])
    | succ k1 =>
      have H := HA.out
      clear HA
      simp only [jvmcoreref1_Num.l0] at H
      by_cases c2 : x4_1 < (a0.size : Int)
      · rw [if_pos c2] at H
        have c2b0 : decide (x4_1 < (a0.size : Int)) = true := decide_eq_true c2
        clear c2
        by_cases c3 : 0 ≤ x4_1
        · rw [if_pos c3] at H
          have c3b0 : decide (0 ≤ x4_1) = true := decide_eq_true c3
          clear c3
          have H' := Aside0.mk H
          clear H
          have p4 : 0 ≤ (x4_1 : Int) := of_decide_eq_true (by first | (with_reducible assumption) | assumption)
          have q4 : x4_1 < (a0.size : Int) := of_decide_eq_true (by first | (with_reducible assumption) | assumption)
          have hx4 := bt_at a0 x4_1
          replace p4 := eq_true p4
          replace q4 := eq_true q4
          go_wp2
          go_roundg k1
          case measure => have := HK1.out; omega
          case rel => exact ⟨(IntKind.u64.wrap ((IntKind.u64.wrap (x3_1 * 256)) + (IntKind.u64.wrap (bt a0 x4_1)))), (wrap64 (x4_1 + 1)), (by first | rfl | (simp; done) | (simp [*]; done)), (by first | rfl | (simp; done) | (simp [*]; done)), H', ⟨by have := HK1.out; omega⟩, by repeat (first | exact Drawn0.refl _ | apply Drawn0.step)⟩
        · rw [if_neg c3] at H
          exact absurd H (by simp)
      · rw [if_neg c2] at H
        have c2b0 : decide (x4_1 < (a0.size : Int)) = false := decide_eq_false c2
        clear c2
        obtain rfl := Option.some.inj H
        go_wp2
        go_ret
        exact ⟨by first | rfl | (simp; done) | (simp [*]; done), by repeat (first | exact Drawn0.refl _ | apply Drawn0.step)⟩
end Go.Proofs.Ytfnjbmpolggdeaa.CD
end
section
namespace Go.Proofs.Ytfnjbmpolggdeaa.CD
open Go.RowKit Go.Proofs.YtfnjbmpolggdeaaW.PrintWords Go.Proofs.YtfnjbmpolggdeaaW.PrintLast Go.Proofs.YtfnjbmpolggdeaaW.PrintMore
attribute [local go_sem] max2_int min2_int max_two min_two max_three min_three max_four min_four   -- for this text's walks alone
set_option linter.unusedVariables false
set_option linter.unusedSimpArgs false
def jvmcoreref2_signed.f (k : Nat) (a0 : ByteArray) : Option (Int) := (jvmcoreref1_Num.f k a0).bind fun t144 => (if 0 ≤ (wrap64 ((wrap64 (8 * (a0.size : Int))) - 1)) then (if (wrap64 (t144)) ≥ (shl .i64 1 (wrap64 ((wrap64 (8 * (a0.size : Int))) - 1))) then (some (wrap64 ((wrap64 (t144)) - (wrap64 (2 * (shl .i64 1 (wrap64 ((wrap64 (8 * (a0.size : Int))) - 1)))))))) else (some (wrap64 (t144)))) else (none))
theorem jvmcoreref2_signed.mono : ∀ a0 k, LeO (jvmcoreref2_signed.f k a0) (jvmcoreref2_signed.f (k + 1) a0) := by
  intro a0 k
  unfold jvmcoreref2_signed.f
  repeat' first
      | (with_reducible exact jvmcoreref1_Num.mono _ _)
      | (with_reducible exact LeO.refl _)
      | (with_reducible exact LeO.none _)
      | (with_reducible refine LeO.ite ?_ ?_)
      | (with_reducible refine LeO.bind ?_ (fun _ => ?_))
set_option maxHeartbeats 8000000 in
set_option maxRecDepth 100000 in
theorem jvmcoreref2_signed.calls (k : Nat) (a0 : ByteArray) (r : Int) (w : World) (h : jvmcoreref2_signed.f k a0 = some r) :
    Calls Try.prog 144 #[.string a0] w fun e w' => e = .returned (.int .i64 r) ∧ Drawn0 w w' := by
  have H : ((jvmcoreref1_Num.f k a0).bind fun t144 => (if 0 ≤ (wrap64 ((wrap64 (8 * (a0.size : Int))) - 1)) then (if (wrap64 (t144)) ≥ (shl .i64 1 (wrap64 ((wrap64 (8 * (a0.size : Int))) - 1))) then (some (wrap64 ((wrap64 (t144)) - (wrap64 (2 * (shl .i64 1 (wrap64 ((wrap64 (8 * (a0.size : Int))) - 1)))))))) else (some (wrap64 (t144)))) else (none))) = some r := h
  clear h
  replace H := Option.bind_eq_some_iff.mp H
  obtain ⟨t144, A20, H⟩ := H
  replace H : (if 0 ≤ (wrap64 ((wrap64 (8 * (a0.size : Int))) - 1)) then (if (wrap64 (t144)) ≥ (shl .i64 1 (wrap64 ((wrap64 (8 * (a0.size : Int))) - 1))) then (some (wrap64 ((wrap64 (t144)) - (wrap64 (2 * (shl .i64 1 (wrap64 ((wrap64 (8 * (a0.size : Int))) - 1)))))))) else (some (wrap64 (t144)))) else (none)) = some r := H
  have A2 := Aside0.mk A20
  clear A20
  obtain ⟨ji3, hji3⟩ : ∃ j_ : Int, (wrap64 ((wrap64 (8 * (a0.size : Int))) - 1)) = j_ := ⟨_, rfl⟩
  replace H : (if 0 ≤ (ji3) then (if (wrap64 (t144)) ≥ (shl .i64 1 (ji3)) then (some (wrap64 ((wrap64 (t144)) - (wrap64 (2 * (shl .i64 1 (ji3))))))) else (some (wrap64 (t144)))) else (none)) = some r := by first | (rw [hji3] at H; exact H) | (simp only [hji3] at H ⊢; exact H)
  (try rw [hji3] at A2)
  have hji3w : (IntKind.i64.wrap ((wrap64 (8 * (a0.size : Int))) - 1)) = ji3 := (i64_w _).trans hji3
  by_cases c4 : 0 ≤ (ji3)
  · rw [if_pos c4] at H
    have c4b0 := eq_true c4
    have c4b1 : decide (0 ≤ (ji3)) = true := decide_eq_true c4
    clear c4
    obtain ⟨ji5, hji5⟩ : ∃ j_ : Int, (shl .i64 1 (ji3)) = j_ := ⟨_, rfl⟩
    replace H : (if (wrap64 (t144)) ≥ (ji5) then (some (wrap64 ((wrap64 (t144)) - (wrap64 (2 * (ji5)))))) else (some (wrap64 (t144)))) = some r := by first | (rw [hji5] at H; exact H) | (simp only [hji5] at H ⊢; exact H)
    (try rw [hji5] at A2)
    have hji5_ : (IntKind.i64.wrap (1 * 2 ^ min (ji3).toNat 64)) = ji5 := hji5
    have hji5z : (ji3) ≤ 64 → (IntKind.i64.wrap (1 * 2 ^ (ji3).toNat)) = ji5 := shl_small hji5
    have hji5u : (IntKind.i64.wrap (2 ^ min (ji3).toNat 64)) = ji5 := by have h_ := hji5_; rw [Int.one_mul] at h_; exact h_
    have hji5v : (ji3) ≤ 64 → (IntKind.i64.wrap (2 ^ (ji3).toNat)) = ji5 := fun hle_ => by have h_ := hji5z hle_; rw [Int.one_mul] at h_; exact h_
    have hji5y : (wrap64 (1 * 2 ^ min (ji3).toNat 64)) = ji5 := (i64_w _).symm.trans hji5_
    have hji5x : (ji3) ≤ 64 → (wrap64 (1 * 2 ^ (ji3).toNat)) = ji5 := fun h_ => (i64_w _).symm.trans (hji5z h_)
    by_cases c6 : (wrap64 (t144)) ≥ (ji5)
    · rw [if_pos c6] at H
      have c6b0 : decide ((ji5) ≤ (wrap64 (t144))) = true := decide_eq_true c6
      clear c6
      obtain rfl := Option.some.inj H
      go_enter Try.func144, Try.ntmps144
      go_wp2_with (first | ((with_reducible refine gate_callee (f := 67) rfl ?_); refine goesL_ (some 6) rfl rfl Try.func67 (by kernel_rfl) rfl #[.string a0] rfl (by (try simp only [List.map_toArray, List.map_cons, List.map_nil]); first | done | rfl | (simp only [List.length_drop, List.length_take]; rfl)) ?_; (with_reducible refine (jvmcoreref1_Num.calls k a0 t144 _ A2.out).mono ?_); rintro e w' ⟨rfl, ⟨nd, rfl⟩⟩; refine ⟨_, rfl, ?_⟩))
      go_ret
      exact ⟨by first | rfl | (simp; done) | (simp only [← hji3, ← hji5] <;> (first | rfl | simp)) | (simp [*]; done), by repeat (first | exact Drawn0.refl _ | apply Drawn0.step)⟩
    · rw [if_neg c6] at H
      have c6b0 : decide ((ji5) ≤ (wrap64 (t144))) = false := decide_eq_false c6
      clear c6
      obtain rfl := Option.some.inj H
      go_enter Try.func144, Try.ntmps144
      go_wp2_with (first | ((with_reducible refine gate_callee (f := 67) rfl ?_); refine goesL_ (some 6) rfl rfl Try.func67 (by kernel_rfl) rfl #[.string a0] rfl (by (try simp only [List.map_toArray, List.map_cons, List.map_nil]); first | done | rfl | (simp only [List.length_drop, List.length_take]; rfl)) ?_; (with_reducible refine (jvmcoreref1_Num.calls k a0 t144 _ A2.out).mono ?_); rintro e w' ⟨rfl, ⟨nd, rfl⟩⟩; refine ⟨_, rfl, ?_⟩))
      go_ret
      exact ⟨by first | rfl | (simp; done) | (simp only [← hji3, ← hji5] <;> (first | rfl | simp)) | (simp [*]; done), by repeat (first | exact Drawn0.refl _ | apply Drawn0.step)⟩
  · rw [if_neg c4] at H
    exact absurd H (by simp)
end Go.Proofs.Ytfnjbmpolggdeaa.CD
end
section
namespace Go.Proofs.Ytfnjbmpolggdeaa.CD
open Go.RowKit Go.Proofs.YtfnjbmpolggdeaaW.PrintWords Go.Proofs.YtfnjbmpolggdeaaW.PrintLast Go.Proofs.YtfnjbmpolggdeaaW.PrintMore
attribute [local go_sem] max2_int min2_int max_two min_two max_three min_three max_four min_four   -- for this text's walks alone
set_option linter.unusedVariables false
set_option linter.unusedSimpArgs false
def jvmcoreref2_cut_signed.f (k : Nat) (s0_0 : ByteArray) (s0_1 : Int) (s0_2 : Int) (s0_3 : Int) (a1 : Int) : Option (Int × ByteArray × Int × Int × Int) := (jvmcoreref2_cut_take.f k s0_0 s0_1 s0_2 s0_3 a1).bind fun bt145 => ((jvmcoreref2_signed.f k bt145.1).bind fun t150 => (some (t150, bt145.2.1, bt145.2.2.1, bt145.2.2.2.1, bt145.2.2.2.2)))
theorem jvmcoreref2_cut_signed.mono : ∀ a0 a1 a2 a3 a4 k, LeO (jvmcoreref2_cut_signed.f k a0 a1 a2 a3 a4) (jvmcoreref2_cut_signed.f (k + 1) a0 a1 a2 a3 a4) := by
  intro a0 a1 a2 a3 a4 k
  unfold jvmcoreref2_cut_signed.f
  repeat' first
      | (with_reducible exact jvmcoreref2_cut_take.mono _ _ _ _ _ _)
      | (with_reducible exact jvmcoreref2_signed.mono _ _)
      | (with_reducible exact LeO.refl _)
      | (with_reducible exact LeO.none _)
      | (with_reducible refine LeO.ite ?_ ?_)
      | (with_reducible refine LeO.bind ?_ (fun _ => ?_))
set_option maxHeartbeats 8000000 in
set_option maxRecDepth 100000 in
theorem jvmcoreref2_cut_signed.calls (k : Nat) (g : Nat) (s0_0 : ByteArray) (s0_1 : Int) (s0_2 : Int) (s0_3 : Int) (a1 : Int) (r1 : Int) (r2 : ByteArray) (r3 : Int) (r4 : Int) (r5 : Int) (w0 w : World) (hI : IsS148 w0 w g s0_0 s0_1 s0_2 s0_3) (hB : Below w0.heap.size w0 w) (h : jvmcoreref2_cut_signed.f k s0_0 s0_1 s0_2 s0_3 a1 = some (r1, r2, r3, r4, r5)) :
    Calls Try.prog 127 #[.pointer (some ⟨g, 0, none⟩), .int .i64 a1] w fun e w' => e = .returned (.int .i64 r1) ∧ IsS148 w0 w' g r2 r3 r4 r5 ∧ Below w0.heap.size w0 w' ∧ KeepBut w w' g none := by
  have HI0 := Aside0.mk hI
  have HK := Aside0.mk (KeepBut.refl w g none)
  have HL := Aside0.mk hB.size
  clear hI
  have HW0 := Aside0.mk hB.size
  have HB := Aside0.mk hB
  clear hB
  have H : ((jvmcoreref2_cut_take.f k s0_0 s0_1 s0_2 s0_3 a1).bind fun bt145 => ((jvmcoreref2_signed.f k bt145.1).bind fun t150 => (some (t150, bt145.2.1, bt145.2.2.1, bt145.2.2.2.1, bt145.2.2.2.2)))) = some (r1, r2, r3, r4, r5) := h
  clear h
  replace H := Option.bind_eq_some_iff.mp H
  obtain ⟨⟨t145, t146, t147, t148, t149⟩, A30, H⟩ := H
  replace H : ((jvmcoreref2_signed.f k t145).bind fun t150 => (some (t150, t146, t147, t148, t149))) = some (r1, r2, r3, r4, r5) := H
  have A3 := Aside0.mk A30
  clear A30
  replace H := Option.bind_eq_some_iff.mp H
  obtain ⟨t150, A40, H⟩ := H
  replace H : (some (t150, t146, t147, t148, t149)) = some (r1, r2, r3, r4, r5) := H
  have A4 := Aside0.mk A40
  clear A40
  simp only [Option.some.injEq, Prod.mk.injEq] at H
  obtain ⟨rfl, rfl, rfl, rfl, rfl⟩ := H
  go_enter Try.func127, Try.ntmps127
  go_wp2_with (first | ((with_reducible refine gate_callee (f := 143) rfl ?_); refine goesL_ (some 7) rfl rfl Try.func143 (by kernel_rfl) rfl #[.pointer (some ⟨g, 0, none⟩), .int .i64 a1] rfl (by (try simp only [List.map_toArray, List.map_cons, List.map_nil]); first | done | rfl | (simp only [List.length_drop, List.length_take]; rfl)) ?_; (with_reducible refine (jvmcoreref2_cut_take.calls k g s0_0 s0_1 s0_2 s0_3 a1 t145 t146 t147 t148 t149 w0 _ ?side1 ?side2 A3.out).mono ?_); (case side1 => repeat (first | (with_reducible first | exact HI0.out | apply IsS148.alloc | apply IsS148.drewN | apply IsS148.drew | apply IsS148.set_0 | apply IsS148.set_1 | apply IsS148.set_2 | apply IsS148.set_3) | exact HI0.out)); (case side2 => repeat (first | (with_reducible first | exact HB.out | apply below_alloc | apply pw_below_drewN | apply below_drew1 | refine below_set ?_ (IsS148.ge HI0.out)) | exact HB.out)); rintro e w5 ⟨rfl, hi, hb, hk⟩; refine ⟨_, rfl, ?_⟩; have n0_ := Aside0.mk (KeepBut.trans (by repeat (first | (with_reducible first | exact HK.out | apply KeepBut.set_ | apply keep_drewN | apply keep_drew | apply keep_alloc) | exact HK.out)) hk (.inl rfl)); have n1_ := Aside0.mk (hb); have n2_ := Aside0.mk (hi); clear HK; clear HB; clear HI0; have HK := n0_; have HB := n1_; have HI0 := n2_; clear n0_ n1_ n2_; (try clear hb); (try clear hb2); (try clear hk); (try clear hi)) | ((with_reducible refine gate_callee (f := 144) rfl ?_); refine goesL_ (some 8) rfl rfl Try.func144 (by kernel_rfl) rfl #[.string t145] rfl (by (try simp only [List.map_toArray, List.map_cons, List.map_nil]); first | done | rfl | (simp only [List.length_drop, List.length_take]; rfl)) ?_; (with_reducible refine (jvmcoreref2_signed.calls k t145 t150 _ A4.out).mono ?_); rintro e w' ⟨rfl, ⟨nd, rfl⟩⟩; refine ⟨_, rfl, ?_⟩))
  go_ret
  exact ⟨by first | rfl | (simp [errW_none, errW_some] <;> rfl) | (simp [*, errW_none, errW_some] <;> rfl), by repeat (first | (with_reducible first | exact HI0.out | apply IsS148.alloc | apply IsS148.drewN | apply IsS148.drew | apply IsS148.set_0 | apply IsS148.set_1 | apply IsS148.set_2 | apply IsS148.set_3) | exact HI0.out), by repeat (first | (with_reducible first | exact HB.out | apply below_alloc | apply pw_below_drewN | apply below_drew1 | refine below_set ?_ (IsS148.ge HI0.out)) | exact HB.out), by repeat (first | (with_reducible first | exact HK.out | apply KeepBut.set_ | apply keep_drewN | apply keep_drew | apply keep_alloc) | exact HK.out)⟩
end Go.Proofs.Ytfnjbmpolggdeaa.CD
end
section
namespace Go.Proofs.Ytfnjbmpolggdeaa.CD
open Go.RowKit Go.Proofs.YtfnjbmpolggdeaaW.PrintWords Go.Proofs.YtfnjbmpolggdeaaW.PrintLast Go.Proofs.YtfnjbmpolggdeaaW.PrintMore
attribute [local go_sem] max2_int min2_int max_two min_two max_three min_three max_four min_four   -- for this text's walks alone
set_option linter.unusedVariables false
set_option linter.unusedSimpArgs false
def jvmcoreref2_cut_num.f (k : Nat) (s0_0 : ByteArray) (s0_1 : Int) (s0_2 : Int) (s0_3 : Int) (a1 : Int) : Option (Int × ByteArray × Int × Int × Int) := (jvmcoreref2_cut_take.f k s0_0 s0_1 s0_2 s0_3 a1).bind fun bt138 => ((jvmcoreref1_Num.f k bt138.1).bind fun t143 => (some (wrap64 (t143), bt138.2.1, bt138.2.2.1, bt138.2.2.2.1, bt138.2.2.2.2)))
theorem jvmcoreref2_cut_num.mono : ∀ a0 a1 a2 a3 a4 k, LeO (jvmcoreref2_cut_num.f k a0 a1 a2 a3 a4) (jvmcoreref2_cut_num.f (k + 1) a0 a1 a2 a3 a4) := by
  intro a0 a1 a2 a3 a4 k
  unfold jvmcoreref2_cut_num.f
  repeat' first
      | (with_reducible exact jvmcoreref1_Num.mono _ _)
      | (with_reducible exact jvmcoreref2_cut_take.mono _ _ _ _ _ _)
      | (with_reducible exact LeO.refl _)
      | (with_reducible exact LeO.none _)
      | (with_reducible refine LeO.ite ?_ ?_)
      | (with_reducible refine LeO.bind ?_ (fun _ => ?_))
set_option maxHeartbeats 8000000 in
set_option maxRecDepth 100000 in
theorem jvmcoreref2_cut_num.calls (k : Nat) (g : Nat) (s0_0 : ByteArray) (s0_1 : Int) (s0_2 : Int) (s0_3 : Int) (a1 : Int) (r1 : Int) (r2 : ByteArray) (r3 : Int) (r4 : Int) (r5 : Int) (w0 w : World) (hI : IsS148 w0 w g s0_0 s0_1 s0_2 s0_3) (hB : Below w0.heap.size w0 w) (h : jvmcoreref2_cut_num.f k s0_0 s0_1 s0_2 s0_3 a1 = some (r1, r2, r3, r4, r5)) :
    Calls Try.prog 126 #[.pointer (some ⟨g, 0, none⟩), .int .i64 a1] w fun e w' => e = .returned (.int .i64 r1) ∧ IsS148 w0 w' g r2 r3 r4 r5 ∧ Below w0.heap.size w0 w' ∧ KeepBut w w' g none := by
  have HI0 := Aside0.mk hI
  have HK := Aside0.mk (KeepBut.refl w g none)
  have HL := Aside0.mk hB.size
  clear hI
  have HW0 := Aside0.mk hB.size
  have HB := Aside0.mk hB
  clear hB
  have H : ((jvmcoreref2_cut_take.f k s0_0 s0_1 s0_2 s0_3 a1).bind fun bt138 => ((jvmcoreref1_Num.f k bt138.1).bind fun t143 => (some (wrap64 (t143), bt138.2.1, bt138.2.2.1, bt138.2.2.2.1, bt138.2.2.2.2)))) = some (r1, r2, r3, r4, r5) := h
  clear h
  replace H := Option.bind_eq_some_iff.mp H
  obtain ⟨⟨t138, t139, t140, t141, t142⟩, A30, H⟩ := H
  replace H : ((jvmcoreref1_Num.f k t138).bind fun t143 => (some (wrap64 (t143), t139, t140, t141, t142))) = some (r1, r2, r3, r4, r5) := H
  have A3 := Aside0.mk A30
  clear A30
  replace H := Option.bind_eq_some_iff.mp H
  obtain ⟨t143, A40, H⟩ := H
  replace H : (some (wrap64 (t143), t139, t140, t141, t142)) = some (r1, r2, r3, r4, r5) := H
  have A4 := Aside0.mk A40
  clear A40
  simp only [Option.some.injEq, Prod.mk.injEq] at H
  obtain ⟨rfl, rfl, rfl, rfl, rfl⟩ := H
  go_enter Try.func126, Try.ntmps126
  go_wp2_with (first | ((with_reducible refine gate_callee (f := 143) rfl ?_); refine goesL_ (some 7) rfl rfl Try.func143 (by kernel_rfl) rfl #[.pointer (some ⟨g, 0, none⟩), .int .i64 a1] rfl (by (try simp only [List.map_toArray, List.map_cons, List.map_nil]); first | done | rfl | (simp only [List.length_drop, List.length_take]; rfl)) ?_; (with_reducible refine (jvmcoreref2_cut_take.calls k g s0_0 s0_1 s0_2 s0_3 a1 t138 t139 t140 t141 t142 w0 _ ?side1 ?side2 A3.out).mono ?_); (case side1 => repeat (first | (with_reducible first | exact HI0.out | apply IsS148.alloc | apply IsS148.drewN | apply IsS148.drew | apply IsS148.set_0 | apply IsS148.set_1 | apply IsS148.set_2 | apply IsS148.set_3) | exact HI0.out)); (case side2 => repeat (first | (with_reducible first | exact HB.out | apply below_alloc | apply pw_below_drewN | apply below_drew1 | refine below_set ?_ (IsS148.ge HI0.out)) | exact HB.out)); rintro e w5 ⟨rfl, hi, hb, hk⟩; refine ⟨_, rfl, ?_⟩; have n0_ := Aside0.mk (KeepBut.trans (by repeat (first | (with_reducible first | exact HK.out | apply KeepBut.set_ | apply keep_drewN | apply keep_drew | apply keep_alloc) | exact HK.out)) hk (.inl rfl)); have n1_ := Aside0.mk (hb); have n2_ := Aside0.mk (hi); clear HK; clear HB; clear HI0; have HK := n0_; have HB := n1_; have HI0 := n2_; clear n0_ n1_ n2_; (try clear hb); (try clear hb2); (try clear hk); (try clear hi)) | ((with_reducible refine gate_callee (f := 67) rfl ?_); refine goesL_ (some 8) rfl rfl Try.func67 (by kernel_rfl) rfl #[.string t138] rfl (by (try simp only [List.map_toArray, List.map_cons, List.map_nil]); first | done | rfl | (simp only [List.length_drop, List.length_take]; rfl)) ?_; (with_reducible refine (jvmcoreref1_Num.calls k t138 t143 _ A4.out).mono ?_); rintro e w' ⟨rfl, ⟨nd, rfl⟩⟩; refine ⟨_, rfl, ?_⟩))
  go_ret
  exact ⟨by first | rfl | (simp [errW_none, errW_some] <;> rfl) | (simp [*, errW_none, errW_some] <;> rfl), by repeat (first | (with_reducible first | exact HI0.out | apply IsS148.alloc | apply IsS148.drewN | apply IsS148.drew | apply IsS148.set_0 | apply IsS148.set_1 | apply IsS148.set_2 | apply IsS148.set_3) | exact HI0.out), by repeat (first | (with_reducible first | exact HB.out | apply below_alloc | apply pw_below_drewN | apply below_drew1 | refine below_set ?_ (IsS148.ge HI0.out)) | exact HB.out), by repeat (first | (with_reducible first | exact HK.out | apply KeepBut.set_ | apply keep_drewN | apply keep_drew | apply keep_alloc) | exact HK.out)⟩
end Go.Proofs.Ytfnjbmpolggdeaa.CD
end
section
namespace Go.Proofs.Ytfnjbmpolggdeaa.CD.RR
open Go.RowKit Go.Lib Go.Proofs.YtfnjbmpolggdeaaW.PrintWords Go.Proofs.YtfnjbmpolggdeaaW.PrintLast Go.Proofs.YtfnjbmpolggdeaaW.PrintMore
set_option linter.unusedVariables false
set_option linter.unusedSimpArgs false
def RI (w0 W : World) (g : Nat) (s : ByteArray) (t : RdS) : Prop := IsS148 w0 W g s t.1 t.2.1 t.2.2 ∧ Below w0.heap.size w0 W
theorem RI.below {w0 W W1 : World} {g : Nat} {s : ByteArray} {t : RdS} (h : RI w0 W g s t) (hb : Below W.heap.size W W1) : RI w0 W1 g s t := ⟨h.1.below hb, below_then h.2 h.2.size hb⟩
def RPost (w0 w : World) (g : Nat) (s : ByteArray) (t : RdS) (v : Value) (e : Ending) (w' : World) : Prop := e = .returned v ∧ RI w0 w' g s t ∧ KeepBut w w' g none
theorem RI.c1 {w0 W : World} {g : Nat} {s : ByteArray} {t : RdS} (h : RI w0 W g s t) : W.cell? ⟨g, 1, none⟩ = some (.int .i64 t.1) := blk_cell h.1.1 1
theorem RI.c2 {w0 W : World} {g : Nat} {s : ByteArray} {t : RdS} (h : RI w0 W g s t) : W.cell? ⟨g, 2, none⟩ = some (.int .i64 t.2.1) := blk_cell h.1.1 2
theorem RI.c3 {w0 W : World} {g : Nat} {s : ByteArray} {t : RdS} (h : RI w0 W g s t) : W.cell? ⟨g, 3, none⟩ = some (.int .i64 t.2.2) := blk_cell h.1.1 3
theorem bt_bs {b : ByteArray} {i : Nat} (h : i < b.size) : bt b (i : Int) = ((bs b)[i]'(by rw [bs_length]; exact h) : Nat) := by
  unfold bt
  rw [Int.toNat_natCast, dif_pos h]
  unfold bs
  rw [List.getElem_map]
  rfl
theorem u64_id (z : Int) (z0 : 0 ≤ z) (z1 : z < 18446744073709551616) : IntKind.u64.wrap z = z := by
  simp only [IntKind.wrap, IntKind.bits, IntKind.signed]
  simp
  omega
theorem acc_step {a c : Nat} (ha : a < 16777216) (hc : c < 256) : IntKind.u64.wrap (IntKind.u64.wrap ((a : Int) * 256) + IntKind.u64.wrap (c : Int)) = ((a * 256 + c : Nat) : Int) := by
  rw [u64_id ((a : Int) * 256) (by omega) (by omega), u64_id (c : Int) (by omega) (by omega), u64_id _ (by omega) (by omega)]
  omega
theorem take_lt {b : ByteArray} (hb : b.size ≤ 4) {i : Nat} (hi : i < b.size) : numB ((bs b).take i) < 16777216 := by
  have hlt := numB_lt ((bs b).take i) (fun c hc => bs_lt b c (List.mem_of_mem_take hc))
  have hlen := bs_length b
  rw [List.length_take, Nat.min_eq_left (by omega)] at hlt
  have hp : (256 : Nat) ^ i ≤ 256 ^ 3 := Nat.pow_le_pow_right (by decide) (by omega)
  exact Nat.lt_of_lt_of_le hlt hp
theorem num_l0 {b : ByteArray} (hb : b.size ≤ 4) : ∀ (k i : Nat), i ≤ b.size → b.size - i < k → jvmcoreref1_Num.l0 k b ((numB ((bs b).take i) : Nat) : Int) (i : Int) = some ((numB (bs b) : Nat) : Int) := by
  intro k
  induction k with
  | zero => intro i h0 h1; exact absurd h1 (Nat.not_lt_zero _)
  | succ k ih =>
    intro i h0 h1
    have hlen := bs_length b
    rw [jvmcoreref1_Num.l0]
    by_cases hc : i < b.size
    · have hl := take_lt hb hc
      have hil : i < (bs b).length := by omega
      have hbl := bs_lt b ((bs b)[i]'hil) (List.getElem_mem _)
      have hsn : numB ((bs b).take (i + 1)) = numB ((bs b).take i) * 256 + (bs b)[i]'hil := by rw [List.take_succ_eq_append_getElem hil, numB_snoc]
      have e2 : wrap64 ((i : Int) + 1) = ((i + 1 : Nat) : Int) := by rw [← i64_w, IntKind.wrap_i64]; omega
      have h2 := ih (i + 1) (by omega) (by omega)
      rw [hsn] at h2
      rw [if_pos (by omega), if_pos (by omega), bt_bs hc, acc_step hl hbl, e2]
      exact h2
    · obtain rfl : i = b.size := by omega
      rw [if_neg (by omega), List.take_of_length_le (by omega)]
theorem num_f (k : Nat) {b : ByteArray} (hb : b.size ≤ 4) : jvmcoreref1_Num.f (k + 5) b = some ((numB (bs b) : Nat) : Int) := num_l0 hb (k + 5) 0 (by omega) (by omega)
theorem zeros_bs (n : Nat) (hn : n ≤ 4) : (strOfNums (List.replicate n 0)).size = n ∧ numB (bs (strOfNums (List.replicate n 0))) = 0 := by
  obtain rfl | rfl | rfl | rfl | rfl : n = 0 ∨ n = 1 ∨ n = 2 ∨ n = 3 ∨ n = 4 := by omega
  all_goals exact ⟨by decide +kernel, by decide +kernel⟩
theorem take_f (k : Nat) {s : ByteArray} {t : RdS} (h : OKR s t) (n : Nat) (hn : n ≤ 4) : ∃ b : ByteArray, jvmcoreref2_cut_take.f (k + 5) s t.1 t.2.1 t.2.2 (n : Int) = some (b, s, (numR s t n).2.1, (numR s t n).2.2.1, (numR s t n).2.2.2) ∧ b.size = n ∧ ((numB (bs b) : Nat) : Int) = (numR s t n).1 := by
  obtain ⟨h0, h1, h2⟩ := h
  obtain ⟨at_, er, es⟩ := t
  dsimp only at h0 h1
  have hz := zeros_bs n hn
  unfold jvmcoreref2_cut_take.f numR
  dsimp only
  have e3 : wrap64 (at_ + (n : Int)) = at_ + (n : Int) := by rw [← i64_w, IntKind.wrap_i64]; omega
  by_cases he : er = 0
  · subst he
    rw [if_pos rfl, if_neg (fun h => h rfl), e3]
    by_cases hc : (n : Int) > (s.size : Int) - at_
    · rw [if_pos hc, decide_eq_true (by omega)]
      rw [jvmcoreref2_cut_take.j0]
      unfold jvmcoreref2_cut_fail.f
      rw [if_pos rfl, if_pos rfl, Option.bind_some]
      dsimp only
      rw [if_neg (by decide), if_pos (by omega), if_pos (by omega)]
      exact ⟨_, rfl, by rw [Int.toNat_natCast]; exact hz.1, by rw [Int.toNat_natCast, hz.2]; rfl⟩
    · rw [if_neg hc, decide_eq_false (by omega)]
      rw [jvmcoreref2_cut_take.j0]
      rw [if_neg (by decide), if_pos rfl, if_pos h0, e3, if_pos (by omega), if_pos (by omega)]
      have e4 : (at_ + (n : Int)).toNat - at_.toNat = n := by omega
      refine ⟨_, rfl, ?_, ?_⟩
      · rw [← bs_length, bs_ext, List.length_take, List.length_drop, bs_length]; omega
      · rw [bs_ext, e4]
  · rw [if_neg he, if_pos he]
    rw [jvmcoreref2_cut_take.j0]
    rw [if_neg (by decide), if_neg he, if_pos (by omega), if_pos (by omega)]
    exact ⟨_, rfl, by rw [Int.toNat_natCast]; exact hz.1, by rw [Int.toNat_natCast, hz.2]; rfl⟩
theorem cut_num (k : Nat) {s : ByteArray} {t : RdS} (h : OKR s t) (n : Nat) (hn : n ≤ 4) : jvmcoreref2_cut_num.f (k + 5) s t.1 t.2.1 t.2.2 (n : Int) = some ((numR s t n).1, s, (numR s t n).2.1, (numR s t n).2.2.1, (numR s t n).2.2.2) := by
  obtain ⟨b, h1, h2, h3⟩ := take_f k h n hn
  have hr := num_range s t n hn
  have hp : (256 : Nat) ^ n ≤ 256 ^ 4 := Nat.pow_le_pow_right (by decide) hn
  have h4 : (256 : Nat) ^ 4 = 4294967296 := by decide
  unfold jvmcoreref2_cut_num.f
  rw [h1, Option.bind_some, num_f k (b := b) (by omega), Option.bind_some, h3]
  rw [wrap_id (by omega)]
theorem cut_signed (k : Nat) {s : ByteArray} {t : RdS} (h : OKR s t) (n : Nat) (hn : n = 1 ∨ n = 2 ∨ n = 4) : jvmcoreref2_cut_signed.f (k + 5) s t.1 t.2.1 t.2.2 (n : Int) = some ((sgnR s t n).1, s, (sgnR s t n).2.1, (sgnR s t n).2.2.1, (sgnR s t n).2.2.2) := by
  obtain ⟨b, h1, h2, h3⟩ := take_f k h n (by omega)
  have hr := num_range s t n (by omega)
  have hs := sign_eq (numR s t n).1 n hn hr.1 hr.2
  have hp : (256 : Nat) ^ n ≤ 256 ^ 4 := Nat.pow_le_pow_right (by decide) (by omega)
  have h4 : (256 : Nat) ^ 4 = 4294967296 := by decide
  unfold code_sign.f at hs
  unfold jvmcoreref2_cut_signed.f
  rw [h1, Option.bind_some]
  unfold jvmcoreref2_signed.f
  rw [num_f k (b := b) (by omega), Option.bind_some, h3, h2, wrap_id (x := (numR s t n).1) (by omega)]
  rw [hs]
  rfl
theorem num_any (w0 w : World) (g : Nat) (s : ByteArray) (t : RdS) (n : Nat) (j : Int) (hj : j = n) (hn : n ≤ 4) (ht : OKR s t) (hI : RI w0 w g s t) :
    Calls Try.prog 126 #[.pointer (some ⟨g, 0, none⟩), .int .i64 j] w (RPost w0 w g s (numR s t n).2 (.int .i64 (numR s t n).1)) := by
  subst hj
  refine (jvmcoreref2_cut_num.calls 8 g s t.1 t.2.1 t.2.2 n _ _ _ _ _ w0 w hI.1 hI.2 (cut_num 3 ht n hn)).mono ?_
  rintro e w' ⟨h1, h2, h3, h4⟩
  exact ⟨h1, ⟨h2, h3⟩, h4⟩
theorem signed_d (w0 w : World) (g : Nat) (s : ByteArray) (t : RdS) (n : Nat) (j : Int) (hj : j = n) (hn : n = 1 ∨ n = 2 ∨ n = 4) (ht : OKR s t) (hI : RI w0 w g s t) :
    Calls Try.prog 127 #[.pointer (some ⟨g, 0, none⟩), .int .i64 j] w (RPost w0 w g s (sgnR s t n).2 (.int .i64 (sgnR s t n).1)) := by
  subst hj
  refine (jvmcoreref2_cut_signed.calls 8 g s t.1 t.2.1 t.2.2 n _ _ _ _ _ w0 w hI.1 hI.2 (cut_signed 3 ht n hn)).mono ?_
  rintro e w' ⟨h1, h2, h3, h4⟩
  exact ⟨h1, ⟨h2, h3⟩, h4⟩
theorem fail_any (w0 w : World) (g : Nat) (s : ByteArray) (t : RdS) (e p : Int) (hI : RI w0 w g s t) :
    Calls Try.prog 97 #[.pointer (some ⟨g, 0, none⟩), .int .i64 e, .int .i64 p] w (RPost w0 w g s (failR t e p) (.tuple #[])) := by
  have hf : jvmcoreref2_cut_fail.f s t.1 t.2.1 t.2.2 e p = some (s, (failR t e p).1, (failR t e p).2.1, (failR t e p).2.2) := by
    unfold jvmcoreref2_cut_fail.f failR
    split <;> rfl
  refine (jvmcoreref2_cut_fail.calls g s t.1 t.2.1 t.2.2 e p _ _ _ _ w0 w hI.1 hI.2 hf).mono ?_
  rintro e w' ⟨h1, h2, h3, h4⟩
  exact ⟨h1, ⟨h2, h3⟩, h4⟩
end Go.Proofs.Ytfnjbmpolggdeaa.CD.RR
end
section
namespace Go.Proofs.Ytfnjbmpolggdeaa.CD.RR
open Go.RowKit Go.Lib Go.Proofs.YtfnjbmpolggdeaaW.PrintWords Go.Proofs.YtfnjbmpolggdeaaW.PrintLast Go.Proofs.YtfnjbmpolggdeaaW.PrintMore
set_option linter.unusedVariables false
set_option linter.unusedSimpArgs false
structure CS (w0 wc W : World) (g : Nat) (s : ByteArray) (t : RdS) (bx : Nat) (x : S82) (v6 v7 : Value) : Prop where
  ri : RI w0 W g s t
  ins : W.heap[bx]? = some (.cells (insC x v6 v7) 82 (0, 0))
  new : w0.heap.size ≤ bx
  r6 : RW W wc.heap.size v6 x.f6
  r7 : RW W wc.heap.size v7 x.f7
  ap : ∀ k, v6.ownBlock = some k → v7.ownBlock ≠ some k
  kept : wc.heap.size ≤ W.heap.size ∧ ∀ i, i < wc.heap.size → i ≠ g → i ≠ bx → W.heap[i]? = wc.heap[i]?
namespace CS
variable {w0 wc W W1 : World} {g bx : Nat} {s : ByteArray} {t t1 : RdS} {x : S82} {v6 v7 v1 : Value}
theorem gne (h : CS w0 wc W g s t bx x v6 v7) : bx ≠ g := fun e => h.ri.1.ne_blk h.ins (by decide) e.symm
theorem rd (h : CS w0 wc W g s t bx x v6 v7) (hI : RI w0 W1 g s t1) (hk : KeepBut W W1 g none) : CS w0 wc W1 g s t1 bx x v6 v7 where
  ri := hI
  ins := (hk.2 _ (blk_lt h.ins) h.gne (by simp)).trans h.ins
  new := h.new
  r6 := h.r6.step (fun k e => hk.2 k (Kd.R_lt h.r6 k e) (fun he => h.r6.ne h.ri.1.1 (by decide) (he ▸ e)) (by simp))
  r7 := h.r7.step (fun k e => hk.2 k (Kd.R_lt h.r7 k e) (fun he => h.r7.ne h.ri.1.1 (by decide) (he ▸ e)) (by simp))
  ap := h.ap
  kept := ⟨Nat.le_trans h.kept.1 hk.1, fun i hi hg hb => (hk.2 i (Nat.lt_of_lt_of_le hi h.kept.1) hg (by simp)).trans (h.kept.2 i hi hg hb)⟩
theorem below (h : CS w0 wc W g s t bx x v6 v7) (hb : Below W.heap.size W W1) : CS w0 wc W1 g s t bx x v6 v7 := h.rd (h.ri.below hb) (KeepBut.of_below hb g none)
theorem drew (h : CS w0 wc W g s t bx x v6 v7) : CS w0 wc W.drew g s t bx x v6 v7 := h.below (below_drew (Below.refl _ _))
theorem set (h : CS w0 wc W g s t bx x v6 v7) (j : Nat) (u : Value) (x1 : S82) (hx : (insC x v6 v7).setIfInBounds j u = insC x1 v6 v7) (h6 : x1.f6 = x.f6) (h7 : x1.f7 = x.f7) : CS w0 wc (W.setCell ⟨bx, j, none⟩ u) g s t bx x1 v6 v7 where
  ri := ⟨h.ri.1.far (fun e => h.gne e.symm) u, h.ri.2.setCell (p := ⟨bx, j, none⟩) h.new u⟩
  ins := by rw [← hx]; exact blk_set h.ins j u
  new := h.new
  r6 := by rw [h6]; exact h.r6.step (fun k e => Below.heap_setCell W ⟨bx, j, none⟩ u k (fun he => h.r6.ne h.ins (by decide) (by rw [← show k = bx from he]; exact e)))
  r7 := by rw [h7]; exact h.r7.step (fun k e => Below.heap_setCell W ⟨bx, j, none⟩ u k (fun he => h.r7.ne h.ins (by decide) (by rw [← show k = bx from he]; exact e)))
  ap := h.ap
  kept := by
    refine ⟨Nat.le_trans h.kept.1 (KeepBut.set_ (KeepBut.refl W bx none) j u).1, fun i hi hg hb => ?_⟩
    exact (Below.heap_setCell W ⟨bx, j, none⟩ u i (fun e => hb e)).trans (h.kept.2 i hi hg hb)
theorem put7 (h : CS w0 wc W g s t bx x v6 v7) (hB : Below wc.heap.size wc wc) {xs : List Int} (hg : W.grownBy W1 v7.ownBlock) (hr : RW W1 wc.heap.size v1 xs) (hat : v1.ownBlock = v7.ownBlock ∨ ∃ b, v1.ownBlock = some b ∧ W.heap.size ≤ b) (hw : w0.heap.size ≤ wc.heap.size) :
    CS w0 wc (W1.setCell ⟨bx, 7, none⟩ v1) g s t bx ⟨x.f0, x.f1, x.f2, x.f3, x.f4, x.f5, x.f6, xs⟩ v6 v1 := by
  have hge : ∀ k, v7.ownBlock = some k → wc.heap.size ≤ k := Kd.R_base h.r7
  have h1 : CS w0 wc W1 g s t bx ⟨x.f0, x.f1, x.f2, x.f3, x.f4, x.f5, x.f6, xs⟩ v6 v1 → True := fun _ => trivial
  have n1 : v7.ownBlock ≠ some bx := h.r7.ne h.ins (by decide)
  have n2 : v7.ownBlock ≠ some g := h.r7.ne h.ri.1.1 (by decide)
  have i1 : W1.heap[bx]? = some (.cells (insC x v6 v7) 82 (0, 0)) := (hg.block _ (blk_lt h.ins) (fun e => n1 e.symm)).trans h.ins
  have q6 : RW W1 wc.heap.size v6 x.f6 := h.r6.step (fun k e => hg.block k (Kd.R_lt h.r6 k e) (fun he => h.ap k e he.symm))
  have B1 : Below w0.heap.size w0 W1 := pw_below_grown h.ri.2 _ h.ri.2.size hg (fun k hk => Nat.le_trans hw (hge k hk))
  have I1 : IsS148 w0 W1 g s t.1 t.2.1 t.2.2 := h.ri.1.grown hg (fun e => n2 e.symm)
  exact {
    ri := ⟨I1.far (fun e => h.gne e.symm) _, B1.setCell (p := ⟨bx, 7, none⟩) h.new _⟩
    ins := (blk_set i1 7 v1).trans rfl
    new := h.new
    r6 := q6.step (fun k e => Below.heap_setCell W1 ⟨bx, 7, none⟩ v1 k (fun he => q6.ne i1 (by decide) (by rw [← show k = bx from he]; exact e)))
    r7 := hr.step (fun k e => Below.heap_setCell W1 ⟨bx, 7, none⟩ v1 k (fun he => hr.ne i1 (by decide) (by rw [← show k = bx from he]; exact e)))
    ap := fun k e e2 => by
      rcases hat with hat | ⟨b, hb, hle⟩
      · exact h.ap k e (hat ▸ e2)
      · rw [hb] at e2; injection e2 with e2; have := Kd.R_lt h.r6 k e; omega
    kept := by
      refine ⟨Nat.le_trans (Nat.le_trans h.kept.1 hg.size) (KeepBut.set_ (KeepBut.refl W1 bx none) _ v1).1, fun i hi hg2 hb => ?_⟩
      refine (Below.heap_setCell W1 ⟨bx, 7, none⟩ v1 i (fun e => hb e)).trans ((hg.block i (Nat.lt_of_lt_of_le hi h.kept.1) (fun e => by have := hge i e.symm; omega)).trans (h.kept.2 i hi hg2 hb)) }
theorem put6 (h : CS w0 wc W g s t bx x v6 v7) {xs : List Int} (hg : W.grownBy W1 v6.ownBlock) (hr : RW W1 wc.heap.size v1 xs) (hat : v1.ownBlock = v6.ownBlock ∨ ∃ b, v1.ownBlock = some b ∧ W.heap.size ≤ b) (hw : w0.heap.size ≤ wc.heap.size) :
    CS w0 wc (W1.setCell ⟨bx, 6, none⟩ v1) g s t bx ⟨x.f0, x.f1, x.f2, x.f3, x.f4, x.f5, xs, x.f7⟩ v1 v7 := by
  have hge : ∀ k, v6.ownBlock = some k → wc.heap.size ≤ k := Kd.R_base h.r6
  have n1 : v6.ownBlock ≠ some bx := h.r6.ne h.ins (by decide)
  have n2 : v6.ownBlock ≠ some g := h.r6.ne h.ri.1.1 (by decide)
  have i1 : W1.heap[bx]? = some (.cells (insC x v6 v7) 82 (0, 0)) := (hg.block _ (blk_lt h.ins) (fun e => n1 e.symm)).trans h.ins
  have q7 : RW W1 wc.heap.size v7 x.f7 := h.r7.step (fun k e => hg.block k (Kd.R_lt h.r7 k e) (fun he => h.ap k he.symm e))
  have B1 : Below w0.heap.size w0 W1 := pw_below_grown h.ri.2 _ h.ri.2.size hg (fun k hk => Nat.le_trans hw (hge k hk))
  have I1 : IsS148 w0 W1 g s t.1 t.2.1 t.2.2 := h.ri.1.grown hg (fun e => n2 e.symm)
  exact {
    ri := ⟨I1.far (fun e => h.gne e.symm) _, B1.setCell (p := ⟨bx, 6, none⟩) h.new _⟩
    ins := (blk_set i1 6 v1).trans rfl
    new := h.new
    r6 := hr.step (fun k e => Below.heap_setCell W1 ⟨bx, 6, none⟩ v1 k (fun he => hr.ne i1 (by decide) (by rw [← show k = bx from he]; exact e)))
    r7 := q7.step (fun k e => Below.heap_setCell W1 ⟨bx, 6, none⟩ v1 k (fun he => q7.ne i1 (by decide) (by rw [← show k = bx from he]; exact e)))
    ap := fun k e e2 => by
      rcases hat with hat | ⟨b, hb, hle⟩
      · exact h.ap k (hat ▸ e) e2
      · rw [hb] at e; injection e with e; have := Kd.R_lt h.r7 k e2; omega
    kept := by
      refine ⟨Nat.le_trans (Nat.le_trans h.kept.1 hg.size) (KeepBut.set_ (KeepBut.refl W1 bx none) _ v1).1, fun i hi hg2 hb => ?_⟩
      refine (Below.heap_setCell W1 ⟨bx, 6, none⟩ v1 i (fun e => hb e)).trans ((hg.block i (Nat.lt_of_lt_of_le hi h.kept.1) (fun e => by have := hge i e.symm; omega)).trans (h.kept.2 i hi hg2 hb)) }
end CS
theorem CS.cells {w0 wc W : World} {g bx : Nat} {s : ByteArray} {t : RdS} {x : S82} {v6 v7 : Value} (h : CS w0 wc W g s t bx x v6 v7) :
    W.cell? ⟨g, 1, none⟩ = some (.int .i64 t.1) ∧ W.cell? ⟨bx, 0, none⟩ = some (.int .i64 x.f0) ∧ W.cell? ⟨g, 2, none⟩ = some (.int .i64 t.2.1) ∧ W.cell? ⟨bx, 6, none⟩ = some v6 ∧ W.cell? ⟨bx, 7, none⟩ = some v7 ∧ (∀ j, W.frozen? ⟨bx, j, none⟩ = false) ∧ W.cell? ⟨bx, 5, none⟩ = some (.int .i64 x.f5) :=
  ⟨h.ri.c1, blk_cell h.ins 0, h.ri.c2, blk_cell h.ins 6, blk_cell h.ins 7, fun j => blk_frozen h.ins j, blk_cell h.ins 5⟩
theorem RI.pad {w0 W : World} {g : Nat} {s : ByteArray} {t : RdS} (h : RI w0 W g s t) : padW g W = if t.2.1 = 0 then ((4 - t.1 % 4) % 4).toNat else 0 := by
  unfold padW
  rw [h.c1, h.c2]
theorem CS.grown7 {w0 wc W W1 : World} {g bx : Nat} {s : ByteArray} {t : RdS} {x : S82} {v6 v7 : Value} (h : CS w0 wc W g s t bx x v6 v7) (hg : W.grownBy W1 v7.ownBlock) : W1.cell? ⟨bx, 7, none⟩ = some v7 ∧ W1.frozen? ⟨bx, 7, none⟩ = false := by
  have i1 : W1.heap[bx]? = some (.cells (insC x v6 v7) 82 (0, 0)) := (hg.block _ (blk_lt h.ins) (fun e => h.r7.ne h.ins (by decide) e.symm)).trans h.ins
  exact ⟨blk_cell i1 7, blk_frozen i1 7⟩
theorem CS.grown6 {w0 wc W W1 : World} {g bx : Nat} {s : ByteArray} {t : RdS} {x : S82} {v6 v7 : Value} (h : CS w0 wc W g s t bx x v6 v7) (hg : W.grownBy W1 v6.ownBlock) : W1.cell? ⟨bx, 6, none⟩ = some v6 ∧ W1.frozen? ⟨bx, 6, none⟩ = false := by
  have i1 : W1.heap[bx]? = some (.cells (insC x v6 v7) 82 (0, 0)) := (hg.block _ (blk_lt h.ins) (fun e => h.r6.ne h.ins (by decide) e.symm)).trans h.ins
  exact ⟨blk_cell i1 6, blk_frozen i1 6⟩
theorem CS.start {w0 w : World} {g bx : Nat} {s : ByteArray} {t : RdS} {x : S82} (hI : RI w0 w g s t) (hx : w.heap[bx]? = some (.cells (insC x (.slice none 0 0) (.slice none 0 0)) 82 (0, 0))) (h6 : x.f6 = []) (h7 : x.f7 = []) (hn : w0.heap.size ≤ bx) :
    CS w0 w w g s t bx x (.slice none 0 0) (.slice none 0 0) where
  ri := hI
  ins := hx
  new := hn
  r6 := by rw [h6]; exact RW.nil _ _
  r7 := by rw [h7]; exact RW.nil _ _
  ap := fun k e => by simp [Value.ownBlock] at e
  kept := ⟨Nat.le_refl _, fun i hi _ _ => rfl⟩
def ChoPost (w0 w : World) (g : Nat) (s : ByteArray) (bx : Nat) (p : S82 × RdS) (e : Ending) (w' : World) : Prop := e = .returned (.tuple #[]) ∧ ∃ v6 v7, CS w0 w w' g s p.2 bx p.1 v6 v7
end Go.Proofs.Ytfnjbmpolggdeaa.CD.RR
end
section
namespace Go.Proofs.Ytfnjbmpolggdeaa.CD.RR
open Go.RowKit Go.Lib Go.Proofs.YtfnjbmpolggdeaaW.PrintWords Go.Proofs.YtfnjbmpolggdeaaW.PrintLast Go.Proofs.YtfnjbmpolggdeaaW.PrintMore
set_option linter.unusedVariables false
set_option linter.unusedSimpArgs false
set_option maxHeartbeats 16000000 in
set_option maxRecDepth 100000 in
theorem cho_d10 (w0 w : World) (g : Nat) (s : ByteArray) (t : RdS) (bx : Nat) (x : S82) (ht : OKR s t) (hI : RI w0 w g s t) (hx : w.heap[bx]? = some (.cells (insC x (.slice none 0 0) (.slice none 0 0)) 82 (0, 0))) (h6 : x.f6 = []) (h7 : x.f7 = []) (hnew : w0.heap.size ≤ bx) :
    Calls Try.prog 128 #[.pointer (some ⟨g, 0, none⟩), .pointer (some ⟨bx, 0, none⟩), .bool false] w (ChoPost w0 w g s bx (choD s x 10 t)) := by
  have H0 := Aside0.mk (CS.start hI hx h6 h7 hnew)
  have HO0 := Aside0.mk ht
  have HNW := Aside0.mk hnew
  have HWW := Aside0.mk hI.2.size
  have H67 := Aside0.mk (And.intro h6 h7)
  clear hI hx ht hnew h6 h7
  go_enter Try.func128, Try.ntmps128
  (try go_wp2_with fail)
  go_loopw [20] (fun _ wr => ∃ (k : Nat) (t1 : RdS), Aside0 (CS w0 w wr g s t1 bx x (.slice none 0 0) (.slice none 0 0)) ∧ Aside0 (OKR s t1 ∧ (t1.2.1 = 0 → (4 - t1.1 % 4) % 4 ≤ (k : Int))) ∧ Aside0 (padR s x.f0 4 t = padR s x.f0 k t1)) (fun _ wr => padW g wr)
  case atStart => exact ⟨4, t, H0, ⟨HO0.out, fun _ => by omega⟩, ⟨rfl⟩⟩
  case round =>
    clear H0
    obtain ⟨k, t1, HS, HOK, HP⟩ := hrel
    have H1 := HS
    have HO1 := Aside0.mk HOK.out.1
    obtain ⟨d0_1, d1_1, d2_1, d3_1, d4_1, d5_1, d6_1⟩ := H1.out.cells
    have HPW := Aside0.mk H1.out.ri.pad
    obtain ⟨a, er, es⟩ := t1
    obtain ⟨n, hn⟩ := Int.eq_ofNat_of_zero_le HO1.out.1
    dsimp only at hn
    subst hn
    have hr : Int.tmod (n : Int) 4 = ((n % 4 : Nat) : Int) := (Int.ofNat_tmod n 4).symm
    (try go_upto_region 0 with (fail))
    go_cut [20] from 8 to 19 (fun vv wc => vv = .bool (decide ((n : Int) % 4 ≠ 0 ∧ er = 0)) ∧ Aside0 (CS w0 w wc g s ((n : Int), er, es) bx x (.slice none 0 0) (.slice none 0 0)))
    case first =>
      as_aux_lemma =>
      by_cases c4 : n % 4 = 0
      · have b0 : (((n % 4 : Nat) : Int) != 0) = false := by rw [bne_eq_false_iff_eq]; omega
        have b1 : ((n : Int) % 4 != 0) = false := by rw [bne_eq_false_iff_eq]; omega
        go_wp2_with (fail)
        go_meet
        case rel => exact ⟨by rw [decide_eq_false (by omega)], ⟨H1.out⟩⟩
      · have b0 : (((n % 4 : Nat) : Int) != 0) = true := by rw [bne_iff_ne]; omega
        have b1 : ((n : Int) % 4 != 0) = true := by rw [bne_iff_ne]; omega
        by_cases ce : er = 0
        · have b2 : (er == 0) = true := beq_iff_eq.2 ce
          go_wp2_with (fail)
          go_meet
          case rel => exact ⟨by rw [decide_eq_true (by omega)], ⟨H1.out⟩⟩
        · have b2 : (er == 0) = false := beq_eq_false_iff_ne.2 ce
          go_wp2_with (fail)
          go_meet
          case rel => exact ⟨by rw [decide_eq_false (by omega)], ⟨H1.out⟩⟩
    case rest =>
      obtain ⟨rfl, HC⟩ := hcut
      clear d0_1 d1_1 d2_1 d3_1 d4_1 d5_1 d6_1
      clear HS H1 hr
      have H4 := HC
      have HO4 := HO1
      obtain ⟨d0_4, d1_4, d2_4, d3_4, d4_4, d5_4, d6_4⟩ := H4.out.cells
      by_cases hc : (n : Int) % 4 ≠ 0 ∧ er = 0
      · rw [decide_eq_true hc]
        obtain ⟨j, hj, hpad⟩ := pad_more (s := s) (x0 := x.f0) (k := k) (t := ((n : Int), er, es)) hc (HOK.out.2 hc.2)
        have HPP := Aside0.mk (HP.out.trans hpad)
        have HJ := Aside0.mk hj
        have HCC := Aside0.mk hc
        clear hpad hj hc
        as_aux_lemma =>
        by_cases hv : (numR s ((n : Int), er, es) 1).1 = 0
        · have b3 : ((numR s ((n : Int), er, es) 1).1 != 0) = false := bne_eq_false_iff_eq.2 hv
          have HV := Aside0.mk hv
          clear hv
          go_wp2_with (first | (go_at_call 126; refine (num_any w0 _ g s _ 1 1 rfl (by decide) HO4.out H4.out.ri).mono ?_; rintro e5 w5 ⟨rfl, hI5, hk5⟩; have H5 := Aside0.mk (H4.out.rd hI5 hk5); obtain ⟨d0_5, d1_5, d2_5, d3_5, d4_5, d5_5, d6_5⟩ := H5.out.cells; clear hI5 hk5) | go_in)
          go_roundw
          case rel =>
            refine ⟨j, (numR s ((n : Int), er, es) 1).2, ⟨H5.out⟩, ⟨HO4.out.num 1, fun he => ?_⟩, ⟨by rw [HPP.out, if_neg (fun h => h HV.out)]⟩⟩
            have h1 := num1_err (s := s) HCC.out.2 he
            have h2 := HOK.out.2 HCC.out.2
            have h3 := HCC.out.1
            have h4 := HJ.out
            rw [h1]
            dsimp only at h2 ⊢
            omega
          case measure =>
            rw [H5.out.ri.pad, HPW.out, if_pos HCC.out.2]
            have h3 := HCC.out.1
            split
            · have h1 := num1_err (s := s) HCC.out.2 ‹_›
              rw [h1]
              (try dsimp only)
              omega
            · (try dsimp only)
              omega
        · have b3 : ((numR s ((n : Int), er, es) 1).1 != 0) = true := bne_iff_ne.2 hv
          have HV := Aside0.mk hv
          clear hv
          go_upto_region 2 with (first | (go_at_call 126; refine (num_any w0 _ g s _ 1 1 rfl (by decide) HO4.out H4.out.ri).mono ?_; rintro e5 w5 ⟨rfl, hI5, hk5⟩; have H5 := Aside0.mk (H4.out.rd hI5 hk5); obtain ⟨d0_5, d1_5, d2_5, d3_5, d4_5, d5_5, d6_5⟩ := H5.out.cells; clear hI5 hk5) | go_in)
          go_wp2_with (first | (go_at_call 97; refine (fail_any w0 _ g s (numR s ((n : Int), er, es) 1).2 15 x.f0 H5.out.ri).mono ?_; rintro e6 w6 ⟨rfl, hI6, hk6⟩; have H6 := Aside0.mk (H5.out.rd hI6 hk6); obtain ⟨d0_6, d1_6, d2_6, d3_6, d4_6, d5_6, d6_6⟩ := H6.out.cells; clear hI6 hk6) | go_in)
          go_roundw
          case rel =>
            refine ⟨j, _, ⟨H6.out⟩, ⟨(HO4.out.num 1).fail _ _, fun he => (fail_err (by decide) he).elim⟩, ⟨by rw [HPP.out, if_pos HV.out]⟩⟩
          case measure =>
            rw [H6.out.ri.pad, HPW.out, if_pos HCC.out.2, if_neg (fun he => fail_err (by decide) he)]
            have h3 := HCC.out.1
            (try dsimp only)
            omega
      · rw [decide_eq_false hc]
        have HPE := Aside0.mk (HP.out.trans (pad_done hc))
        clear hc HPW
        as_aux_lemma =>
        generalize htp : ((n : Int), er, es) = tp at *
        clear htp
        go_upto_region 3 with (fail)
        have HD := Aside0.mk H4.out.drew
        clear d0_4 d1_4 d2_4 d3_4 d4_4 d5_4 d6_4
        refine start_ (n := 12) (S := fun w' => w'.cell? ⟨bx, 0, none⟩ = some (.int .i64 x.f0)) (ds := [11]) #[false, false, false, false, false, false, false, false, false, false, false, false] (by kernel_rfl) rfl rfl ((HD.out).cells.2.1) (fun hHeld => ?_)
        refine pure_ (i := 0) (N := some 30) (v := ?_) (a' := ?_) #[true, false, false, false, false, false, false, false, false, false, false, false] rfl rfl (by kernel_rfl) (fun _ _ _ h => h) (Or.inl ⟨by rfl, ?_⟩) ?_ ?_
        rotate_left
        · intro w'
          go_simp
          with_reducible rfl
        rotate_left
        · simp only [Act.put, List.setIfInBounds_toArray, List.set_cons_zero, List.set_cons_succ, i64_w, i32_w]
          rfl
        refine pure_ (i := 1) (N := some 31) (v := ?_) (a' := ?_) #[true, true, false, false, false, false, false, false, false, false, false, false] rfl rfl (by kernel_rfl) (fun _ _ _ h => h) (Or.inl ⟨by rfl, ?_⟩) ?_ ?_
        rotate_left
        · intro w'
          go_simp
          with_reducible rfl
        rotate_left
        · simp only [Act.put, List.setIfInBounds_toArray, List.set_cons_zero, List.set_cons_succ, i64_w, i32_w]
          rfl
        refine pure_ (i := 2) (N := some 32) (v := ?_) (a' := ?_) #[true, true, true, false, false, false, false, false, false, false, false, false] rfl rfl (by kernel_rfl) (fun _ _ _ h => h) (Or.inl ⟨by rfl, ?_⟩) ?_ ?_
        rotate_left
        · intro w'
          go_simp
          with_reducible rfl
        rotate_left
        · simp only [Act.put, List.setIfInBounds_toArray, List.set_cons_zero, List.set_cons_succ, i64_w, i32_w]
          rfl
        refine pure_ (i := 3) (N := some 33) (v := ?_) (a' := ?_) #[true, true, true, true, false, false, false, false, false, false, false, false] rfl rfl (by kernel_rfl) (fun _ _ _ h => h) (Or.inl ⟨by rfl, ?_⟩) ?_ ?_
        rotate_left
        · intro w'
          go_simp
          with_reducible rfl
        rotate_left
        · simp only [Act.put, List.setIfInBounds_toArray, List.set_cons_zero, List.set_cons_succ, i64_w, i32_w]
          rfl
        refine pure_ (i := 5) (N := some 35) (v := ?_) (a' := ?_) #[true, true, true, true, false, true, false, false, false, false, false, false] rfl rfl (by kernel_rfl) (fun _ _ _ h => h) (Or.inl ⟨by rfl, ?_⟩) ?_ ?_
        rotate_left
        · intro w'
          go_simp
          with_reducible rfl
        rotate_left
        · simp only [Act.put, List.setIfInBounds_toArray, List.set_cons_zero, List.set_cons_succ, i64_w, i32_w]
          rfl
        refine take_ (i := 4) (N := some 34) (v := ?_) (a' := ?_) #[true, true, true, true, true, true, false, false, false, false, false, false] rfl rfl (by kernel_rfl) (fun _ _ _ h => h) (Or.inl ⟨by rfl, ?_⟩) hHeld ?_ ?_
        rotate_left
        · intro w' s0
          go_simp
          with_reducible rfl
        rotate_left
        · simp only [Act.put, List.setIfInBounds_toArray, List.set_cons_zero, List.set_cons_succ, i64_w, i32_w]
          rfl
        refine one_ (i := 6) (N := some 36) #[true, true, true, true, true, true, true, false, false, false, false, false] rfl rfl (by kernel_rfl) (by decide) (fun K hK => ?_)
        refine goes_ Try.func127 (by kernel_rfl) rfl #[.pointer (some ⟨g, 0, none⟩), .int .i64 4] (by rfl) rfl rfl (by simp only [List.map_toArray, List.map_cons, List.map_nil]; rfl) ?_
        with_reducible refine (signed_d w0 _ g s tp 4 4 rfl (.inr (.inr rfl)) HO4.out HD.out.ri).mono ?_
        rintro e6 w6 ⟨rfl, hI6, hk6⟩
        refine ⟨_, rfl, ?_⟩
        have HQ := Aside0.mk (HD.out.rd hI6 hk6)
        clear hI6 hk6
        refine hK.out _ _ ((HQ.out).cells.2.1) (fun hHeld => ?_)
        clear hK K
        refine norm_ (a' := ?_) ?_ ?_
        rotate_left
        · show Act.put _ (some 36) _ = _
          simp only [Act.put, List.setIfInBounds_toArray, List.set_cons_zero, List.set_cons_succ, i64_w, i32_w]
          rfl
        refine pure_ (i := 7) (N := some 37) (v := ?_) (a' := ?_) #[true, true, true, true, true, true, true, true, false, false, false, false] rfl rfl (by kernel_rfl) (fun _ _ _ h => h) (Or.inl ⟨by rfl, ?_⟩) ?_ ?_
        rotate_left
        · intro w'
          go_simp
          with_reducible rfl
        rotate_left
        · simp only [Act.put, List.setIfInBounds_toArray, List.set_cons_zero, List.set_cons_succ, i64_w, i32_w]
          rfl
        refine one_ (i := 8) (N := some 38) #[true, true, true, true, true, true, true, true, true, false, false, false] rfl rfl (by kernel_rfl) (by decide) (fun K hK => ?_)
        refine value_ (w1 := ?_) (v := ?_) (by rfl) rfl ?_ ?_
        rotate_left 2
        · go_simp
          constructor
          · rfl
          · rfl
        refine hK.out _ _ ((pw_cell_below (below_alloc (Below.refl _ _) _) (HQ.out).cells.2.1)) (fun hHeld => ?_)
        clear hK K
        refine norm_ (a' := ?_) ?_ ?_
        rotate_left
        · show Act.put _ (some 38) _ = _
          simp only [Act.put, List.setIfInBounds_toArray, List.set_cons_zero, List.set_cons_succ, i64_w, i32_w]
          rfl
        refine pure_ (i := 9) (N := some 39) (v := ?_) (a' := ?_) #[true, true, true, true, true, true, true, true, true, true, false, false] rfl rfl (by kernel_rfl) (fun _ _ _ h => h) (Or.inl ⟨by rfl, ?_⟩) ?_ ?_
        rotate_left
        · intro w'
          go_simp
          with_reducible rfl
        rotate_left
        · simp only [Act.put, List.setIfInBounds_toArray, List.set_cons_zero, List.set_cons_succ, i64_w, i32_w]
          rfl
        refine pure_ (i := 10) (N := some 40) (v := ?_) (a' := ?_) #[true, true, true, true, true, true, true, true, true, true, true, false] rfl rfl (by kernel_rfl) (fun _ _ _ h => h) (Or.inl ⟨by rfl, ?_⟩) ?_ ?_
        rotate_left
        · intro w'
          go_simp
          with_reducible rfl
        rotate_left
        · simp only [Act.put, List.setIfInBounds_toArray, List.set_cons_zero, List.set_cons_succ, i64_w, i32_w]
          rfl
        refine last_ (i := 11) (N := none) #[true, true, true, true, true, true, true, true, true, true, true, true] rfl rfl (by kernel_rfl) (by decide) (fun K hK => ?_)
        have ca7 := fun o => (HQ.out.below (below_alloc (Below.refl w6.heap.size w6) o)).cells.2.2.2.2.1
        have cf7 := fun o => (HQ.out.below (below_alloc (Below.refl w6.heap.size w6) o)).cells.2.2.2.2.2.1 7
        refine skip_ (w1 := ?_) (by rfl) rfl ?_ ?_
        rotate_left
        · go_simp
          rfl
        refine hK.out _ _ ?_
        clear hK K
        refine done_ (by kernel_rfl) ?_
        have H7 := Aside0.mk (HQ.out.put7 (Below.refl _ _) (World.grownBy_alloc _ (.cells #[.int .i64 (wrap64 (x.f0 + (sgnR s tp 4).1))] 3) _) (RW.lit _ _ (wrap64 (x.f0 + (sgnR s tp 4).1)) HQ.out.kept.1) (.inr ⟨_, rfl, Nat.le_refl _⟩) HWW.out)
        obtain ⟨y, hy⟩ : ∃ y, (⟨x.f0, x.f1, x.f2, x.f3, x.f4, x.f5, x.f6, [wrap64 (x.f0 + (sgnR s tp 4).1)]⟩ : S82) = y := ⟨_, rfl⟩
        rw [hy] at H7
        have HY := Aside0.mk (show y.f6 = [] ∧ y.f7.length = 1 by rw [← hy]; exact ⟨H67.out.1, rfl⟩)
        have HHD := Aside0.mk (show headD s x t = (y, (sgnR s tp 4).2) by unfold headD; rw [HPE.out, hy])
        have HO7 := Aside0.mk (HO4.out.sgn 4)
        clear hy HQ HD H4 HO4 HPE ca7 cf7
        try clear hHeld
        generalize World.setCell _ ⟨bx, 7, none⟩ _ = W7 at *
        generalize (sgnR s tp 4).2 = t7 at *
        obtain ⟨d0_7, d1_7, d2_7, d3_7, d4_7, d5_7, d6_7⟩ := H7.out.cells
        go_upto_region 7 with (first | (go_at_call 127; refine (signed_d w0 _ g s t7 4 4 rfl (.inr (.inr rfl)) HO7.out H7.out.ri).mono ?_; rintro e8 w8 ⟨rfl, hI8, hk8⟩; have H8 := Aside0.mk (H7.out.rd hI8 hk8); obtain ⟨d0_8, d1_8, d2_8, d3_8, d4_8, d5_8, d6_8⟩ := H8.out.cells; clear hI8 hk8) | go_in)
        have HO8 := Aside0.mk (HO7.out.sgn 4)
        have H9 := Aside0.mk (H8.out.set 5 (.int .i64 (sgnR s t7 4).1) (⟨y.f0, y.f1, y.f2, y.f3, y.f4, (sgnR s t7 4).1, y.f6, y.f7⟩ : S82) rfl rfl rfl)
        clear d0_7 d1_7 d2_7 d3_7 d4_7 d5_7 d6_7
        clear d0_8 d1_8 d2_8 d3_8 d4_8 d5_8 d6_8
        have HRA := Aside0.mk (sgn_range s t7)
        clear H7 H8
        generalize World.setCell _ ⟨bx, 5, none⟩ _ = W9 at *
        have HCH := Aside0.mk (show choD s x 10 t = choD10 s y (sgnR s t7 4).1 (sgnR s (sgnR s t7 4).2 4).1 (sgnR s (sgnR s t7 4).2 4).2 by unfold choD; rw [if_pos rfl, HHD.out])
        generalize (sgnR s t7 4).1 = va at *
        generalize (sgnR s t7 4).2 = t9 at *
        have HRB := Aside0.mk (sgn_range s t9)
        have HO9 := HO8
        obtain ⟨d0_9, d1_9, d2_9, d3_9, d4_9, d5_9, d6_9⟩ := H9.out.cells
        have e1 : wrap64 ((sgnR s t9 4).1 - va) = (sgnR s t9 4).1 - va := by rw [← i64_w, IntKind.wrap_i64]; have := HRA.out; have := HRB.out; omega
        have e2 : wrap64 ((sgnR s t9 4).1 - va + 1) = (sgnR s t9 4).1 - va + 1 := by rw [← i64_w, IntKind.wrap_i64]; have := HRA.out; have := HRB.out; omega
        go_upto_region 8 with (first | (go_at_call 127; refine (signed_d w0 _ g s t9 4 4 rfl (.inr (.inr rfl)) HO9.out H9.out.ri).mono ?_; rintro e10 w10 ⟨rfl, hI10, hk10⟩; have H10 := Aside0.mk (H9.out.rd hI10 hk10); obtain ⟨d0_10, d1_10, d2_10, d3_10, d4_10, d5_10, d6_10⟩ := H10.out.cells; clear hI10 hk10) | go_in)
        have HO10 := Aside0.mk (HO9.out.sgn 4)
        rw [e2]
        clear e1 e2
        clear d0_9 d1_9 d2_9 d3_9 d4_9 d5_9 d6_9
        clear H9
        by_cases hlt : (sgnR s t9 4).1 < va
        · have HM := Aside0.mk (show choD s x 10 t = ((⟨y.f0, y.f1, y.f2, y.f3, y.f4, va, y.f6, y.f7⟩ : S82), failR (sgnR s t9 4).2 15 y.f0) by rw [HCH.out, choD10, if_pos hlt])
          obtain ⟨M, hM⟩ : ∃ M : Int, (sgnR s t9 4).1 - va + 1 = M := ⟨_, rfl⟩
          rw [hM]
          have hM1 : M < 1 := by omega
          clear hM hlt HCH HHD HRA HRB
          have l1 : decide (M < 1) = true := decide_eq_true hM1
          have l1b : decide (M ≤ 0) = true := decide_eq_true (by omega)
          have l3 : decide ((0 : Int) < M) = false := decide_eq_false (by omega)
          have HFZ : Aside0 (∀ p : Int, failR (failR (sgnR s t9 4).2 15 y.f0) 15 p = failR (sgnR s t9 4).2 15 y.f0) := ⟨fun p => failStuck (failNo (by decide)) 15 p⟩
          by_cases hM0 : M < 0
          · have l2 : decide (M < 0) = true := decide_eq_true hM0
            clear hM0 hM1
            as_aux_lemma =>
            go_upto_region 10 with (first | (go_at_call 97; refine (fail_any w0 _ g s (sgnR s t9 4).2 15 y.f0 H10.out.ri).mono ?_; rintro e11 w11 ⟨rfl, hI11, hk11⟩; have H11 := Aside0.mk (H10.out.rd hI11 hk11); obtain ⟨d0_11, d1_11, d2_11, d3_11, d4_11, d5_11, d6_11⟩ := H11.out.cells; clear hI11 hk11) | go_in)
            go_upto_region 12 with (first | (go_at_call 97; refine (fail_any w0 _ g s (failR (sgnR s t9 4).2 15 y.f0) 15 y.f0 H11.out.ri).mono ?_; rintro e12 w12 ⟨rfl, hI12, hk12⟩; have H12 := Aside0.mk (H11.out.rd hI12 hk12); obtain ⟨d0_12, d1_12, d2_12, d3_12, d4_12, d5_12, d6_12⟩ := H12.out.cells; clear hI12 hk12) | go_in)
            rw [HFZ.out] at H12
            go_wp2_with fail
            go_loopw [7] (fun i wr => i = .int .i64 0 ∧ Aside0 (CS w0 w wr g s (failR (sgnR s t9 4).2 15 y.f0) bx (⟨y.f0, y.f1, y.f2, y.f3, y.f4, va, y.f6, y.f7⟩ : S82) (.slice none 0 0) (.slice (some ⟨w6.heap.size, 0, none⟩) 1 1))) (fun _ _ => 0)
            case atStart => exact ⟨rfl, ⟨H12.out⟩⟩
            case round =>
              clear H12
              obtain ⟨rfl, H13⟩ := hrel
              go_wp2_with fail
              go_end0
              rw [HM.out]
              exact ⟨rfl, _, _, H13.out⟩
          · have l2 : decide (M < 0) = false := decide_eq_false hM0
            clear hM0 hM1
            as_aux_lemma =>
            go_upto_region 10 with (first | (go_at_call 97; refine (fail_any w0 _ g s (sgnR s t9 4).2 15 y.f0 H10.out.ri).mono ?_; rintro e12 w12 ⟨rfl, hI12, hk12⟩; have H12 := Aside0.mk (H10.out.rd hI12 hk12); obtain ⟨d0_12, d1_12, d2_12, d3_12, d4_12, d5_12, d6_12⟩ := H12.out.cells; clear hI12 hk12) | go_in)
            go_wp2_with fail
            go_loopw [7] (fun i wr => i = .int .i64 0 ∧ Aside0 (CS w0 w wr g s (failR (sgnR s t9 4).2 15 y.f0) bx (⟨y.f0, y.f1, y.f2, y.f3, y.f4, va, y.f6, y.f7⟩ : S82) (.slice none 0 0) (.slice (some ⟨w6.heap.size, 0, none⟩) 1 1))) (fun _ _ => 0)
            case atStart => exact ⟨rfl, ⟨H12.out⟩⟩
            case round =>
              clear H12
              obtain ⟨rfl, H13⟩ := hrel
              go_wp2_with fail
              go_end0
              rw [HM.out]
              exact ⟨rfl, _, _, H13.out⟩
        · obtain ⟨N, hN⟩ : ∃ N : Nat, (sgnR s t9 4).1 - va + 1 = (N : Int) := ⟨((sgnR s t9 4).1 - va + 1).toNat, by omega⟩
          have HN := Aside0.mk (show N ≤ 4294967296 by have := HRA.out; have := HRB.out; omega)
          have HCN := Aside0.mk (show choD s x 10 t = rowsD s 10 N 0 (⟨y.f0, y.f1, y.f2, y.f3, y.f4, va, y.f6, y.f7⟩ : S82) (sgnR s t9 4).2 by rw [HCH.out, choD10, if_neg hlt, hN, Int.toNat_natCast])
          have b4 : decide ((N : Int) < 1) = false := decide_eq_false (by omega)
          have b4b : decide ((N : Int) ≤ 0) = false := decide_eq_false (by omega)
          have b5 : decide ((N : Int) < 0) = false := decide_eq_false (by omega)
          rw [hN]
          clear hlt hN
          go_upto_region 12 with (fail)
          clear b4 b4b b5 HCH HHD
          clear d0_10 d1_10 d2_10 d3_10 d4_10 d5_10 d6_10
          have HY2 := Aside0.mk (show (⟨y.f0, y.f1, y.f2, y.f3, y.f4, va, y.f6, y.f7⟩ : S82).f6 = [] ∧ (⟨y.f0, y.f1, y.f2, y.f3, y.f4, va, y.f6, y.f7⟩ : S82).f7.length = 1 from HY.out)
          clear HY
          generalize (⟨y.f0, y.f1, y.f2, y.f3, y.f4, va, y.f6, y.f7⟩ : S82) = z at *
          generalize (sgnR s t9 4).2 = tz at *
          go_wp2_with fail
          go_loopw [7] (fun i wr => ∃ (k r : Nat) (z2 : S82) (t2 : RdS) (v6 v7 : Value), k + r = N ∧ i = .int .i64 k ∧ Aside0 (CS w0 w wr g s t2 bx z2 v6 v7) ∧ Aside0 (OKR s t2) ∧ Aside0 (z2.f7.length = k + 1) ∧ Aside0 (choD s x 10 t = rowsD s 10 r k z2 t2)) (fun i _ => N - (intOf i).toNat)
          case atStart => exact ⟨0, N, z, tz, _, _, Nat.zero_add N, rfl, H10, HO10, ⟨HY2.out.2⟩, HCN⟩
          case round =>
            clear H10 HO10 HCN HY2
            obtain ⟨k, r, z2, t2, v6, v7, hkr, rfl, H1, HO1, HLN, HC⟩ := hrel
            obtain ⟨d0_1, d1_1, d2_1, d3_1, d4_1, d5_1, d6_1⟩ := H1.out.cells
            obtain ⟨aa, er, es⟩ := t2
            go_upto_region 13 with (fail)
            go_cut [79] from 70 to 78 (fun vv wc => vv = .bool (decide (k < N ∧ er = 0)) ∧ Aside0 (CS w0 w wc g s (aa, er, es) bx z2 v6 v7))
            case first =>
              as_aux_lemma =>
              by_cases ck : k < N
              · have b1 : decide ((k : Int) < (N : Int)) = true := decide_eq_true (by omega)
                by_cases ce : er = 0
                · have b2 : (er == 0) = true := beq_iff_eq.2 ce
                  go_wp2_with (fail)
                  go_meet
                  case rel => exact ⟨by rw [decide_eq_true ⟨ck, ce⟩], ⟨H1.out⟩⟩
                · have b2 : (er == 0) = false := beq_eq_false_iff_ne.2 ce
                  go_wp2_with (fail)
                  go_meet
                  case rel => exact ⟨by rw [decide_eq_false (fun h => ce h.2)], ⟨H1.out⟩⟩
              · have b1 : decide ((k : Int) < (N : Int)) = false := decide_eq_false (by omega)
                go_wp2
                go_meet
                case rel => exact ⟨by rw [decide_eq_false (fun h => ck h.1)], ⟨H1.out⟩⟩
            case rest =>
              obtain ⟨rfl, HCT⟩ := hcut
              clear d0_1 d1_1 d2_1 d3_1 d4_1 d5_1 d6_1
              clear H1
              have H4 := HCT
              have HO4 := HO1
              obtain ⟨d0_4, d1_4, d2_4, d3_4, d4_4, d5_4, d6_4⟩ := H4.out.cells
              by_cases hc : k < N ∧ er = 0
              · rw [decide_eq_true hc]
                obtain ⟨r2, hr2⟩ : ∃ r2, r = r2 + 1 := ⟨r - 1, by omega⟩
                subst hr2
                have HKN := Aside0.mk hc.1
                have HER := Aside0.mk hc.2
                have HKR := Aside0.mk hkr
                have wk : wrap64 ((k : Int) + 1) = ((k + 1 : Nat) : Int) := by rw [← i64_w, IntKind.wrap_i64]; have := HN.out; omega
                have WN := Aside0.mk (congrArg (Value.int IntKind.i64) wk)
                have WI := Aside0.mk wk
                clear wk hc hkr
                as_aux_lemma =>
                have HCC : Aside0 (choD s x 10 t = rowsD s 10 r2 (k + 1) (⟨z2.f0, z2.f1, z2.f2, z2.f3, z2.f4, z2.f5, z2.f6, z2.f7 ++ [wrap64 (z2.f0 + (sgnR s (aa, er, es) 4).1)]⟩ : S82) (sgnR s (aa, er, es) 4).2) := ⟨by rw [HC.out, rowsD, if_neg (fun h => h HER.out), if_neg (by decide)]⟩
                have HLX := Aside0.mk (show (z2.f7.length + 1) * 8 ≤ 140737488355328 by have := HLN.out; have := HN.out; have := HKN.out; omega)
                go_upto_region 19 with (fail)
                have HD := Aside0.mk H4.out.drew
                clear d0_4 d1_4 d2_4 d3_4 d4_4 d5_4 d6_4
                refine start_ (n := 17) (S := fun w' => w'.cell? ⟨bx, 0, none⟩ = some (.int .i64 z2.f0) ∧ w'.cell? ⟨bx, 7, none⟩ = some v7) (ds := [13, 16]) #[false, false, false, false, false, false, false, false, false, false, false, false, false, false, false, false, false] (by kernel_rfl) rfl rfl ⟨(HD.out).cells.2.1, (HD.out).cells.2.2.2.2.1⟩ (fun hHeld => ?_)
                refine pure_ (i := 0) (N := some 120) (v := ?_) (a' := ?_) #[true, false, false, false, false, false, false, false, false, false, false, false, false, false, false, false, false] rfl rfl (by kernel_rfl) (fun _ _ _ h => h) (Or.inl ⟨by rfl, ?_⟩) ?_ ?_
                rotate_left
                · intro w'
                  go_simp
                  with_reducible rfl
                rotate_left
                · simp only [Act.put, List.setIfInBounds_toArray, List.set_cons_zero, List.set_cons_succ, i64_w, i32_w]
                  rfl
                refine pure_ (i := 1) (N := some 121) (v := ?_) (a' := ?_) #[true, true, false, false, false, false, false, false, false, false, false, false, false, false, false, false, false] rfl rfl (by kernel_rfl) (fun _ _ _ h => h) (Or.inl ⟨by rfl, ?_⟩) ?_ ?_
                rotate_left
                · intro w'
                  go_simp
                  with_reducible rfl
                rotate_left
                · simp only [Act.put, List.setIfInBounds_toArray, List.set_cons_zero, List.set_cons_succ, i64_w, i32_w]
                  rfl
                refine pure_ (i := 2) (N := some 122) (v := ?_) (a' := ?_) #[true, true, true, false, false, false, false, false, false, false, false, false, false, false, false, false, false] rfl rfl (by kernel_rfl) (fun _ _ _ h => h) (Or.inl ⟨by rfl, ?_⟩) ?_ ?_
                rotate_left
                · intro w'
                  go_simp
                  with_reducible rfl
                rotate_left
                · simp only [Act.put, List.setIfInBounds_toArray, List.set_cons_zero, List.set_cons_succ, i64_w, i32_w]
                  rfl
                refine pure_ (i := 3) (N := some 123) (v := ?_) (a' := ?_) #[true, true, true, true, false, false, false, false, false, false, false, false, false, false, false, false, false] rfl rfl (by kernel_rfl) (fun _ _ _ h => h) (Or.inl ⟨by rfl, ?_⟩) ?_ ?_
                rotate_left
                · intro w'
                  go_simp
                  with_reducible rfl
                rotate_left
                · simp only [Act.put, List.setIfInBounds_toArray, List.set_cons_zero, List.set_cons_succ, i64_w, i32_w]
                  rfl
                refine pure_ (i := 5) (N := some 125) (v := ?_) (a' := ?_) #[true, true, true, true, false, true, false, false, false, false, false, false, false, false, false, false, false] rfl rfl (by kernel_rfl) (fun _ _ _ h => h) (Or.inl ⟨by rfl, ?_⟩) ?_ ?_
                rotate_left
                · intro w'
                  go_simp
                  with_reducible rfl
                rotate_left
                · simp only [Act.put, List.setIfInBounds_toArray, List.set_cons_zero, List.set_cons_succ, i64_w, i32_w]
                  rfl
                refine pure_ (i := 6) (N := some 126) (v := ?_) (a' := ?_) #[true, true, true, true, false, true, true, false, false, false, false, false, false, false, false, false, false] rfl rfl (by kernel_rfl) (fun _ _ _ h => h) (Or.inl ⟨by rfl, ?_⟩) ?_ ?_
                rotate_left
                · intro w'
                  go_simp
                  with_reducible rfl
                rotate_left
                · simp only [Act.put, List.setIfInBounds_toArray, List.set_cons_zero, List.set_cons_succ, i64_w, i32_w]
                  rfl
                refine pure_ (i := 7) (N := some 127) (v := ?_) (a' := ?_) #[true, true, true, true, false, true, true, true, false, false, false, false, false, false, false, false, false] rfl rfl (by kernel_rfl) (fun _ _ _ h => h) (Or.inl ⟨by rfl, ?_⟩) ?_ ?_
                rotate_left
                · intro w'
                  go_simp
                  with_reducible rfl
                rotate_left
                · simp only [Act.put, List.setIfInBounds_toArray, List.set_cons_zero, List.set_cons_succ, i64_w, i32_w]
                  rfl
                refine pure_ (i := 9) (N := some 129) (v := ?_) (a' := ?_) #[true, true, true, true, false, true, true, true, false, true, false, false, false, false, false, false, false] rfl rfl (by kernel_rfl) (fun _ _ _ h => h) (Or.inl ⟨by rfl, ?_⟩) ?_ ?_
                rotate_left
                · intro w'
                  go_simp
                  with_reducible rfl
                rotate_left
                · simp only [Act.put, List.setIfInBounds_toArray, List.set_cons_zero, List.set_cons_succ, i64_w, i32_w]
                  rfl
                refine take_ (i := 4) (N := some 124) (v := ?_) (a' := ?_) #[true, true, true, true, true, true, true, true, false, true, false, false, false, false, false, false, false] rfl rfl (by kernel_rfl) (fun _ _ _ h => h) (Or.inl ⟨by rfl, ?_⟩) hHeld ?_ ?_
                rotate_left
                · rintro w' ⟨s0, s1⟩
                  go_simp
                  with_reducible rfl
                rotate_left
                · simp only [Act.put, List.setIfInBounds_toArray, List.set_cons_zero, List.set_cons_succ, i64_w, i32_w]
                  rfl
                refine take_ (i := 8) (N := some 128) (v := ?_) (a' := ?_) #[true, true, true, true, true, true, true, true, true, true, false, false, false, false, false, false, false] rfl rfl (by kernel_rfl) (fun _ _ _ h => h) (Or.inl ⟨by rfl, ?_⟩) hHeld ?_ ?_
                rotate_left
                · rintro w' ⟨s0, s1⟩
                  go_simp
                  with_reducible rfl
                rotate_left
                · simp only [Act.put, List.setIfInBounds_toArray, List.set_cons_zero, List.set_cons_succ, i64_w, i32_w]
                  rfl
                refine one_ (i := 10) (N := some 130) #[true, true, true, true, true, true, true, true, true, true, true, false, false, false, false, false, false] rfl rfl (by kernel_rfl) (by decide) (fun K hK => ?_)
                refine goes_ Try.func127 (by kernel_rfl) rfl #[.pointer (some ⟨g, 0, none⟩), .int .i64 4] (by rfl) rfl rfl (by simp only [List.map_toArray, List.map_cons, List.map_nil]; rfl) ?_
                with_reducible refine (signed_d w0 _ g s (aa, er, es) 4 4 rfl (.inr (.inr rfl)) HO4.out HD.out.ri).mono ?_
                rintro e6 w6 ⟨rfl, hI6, hk6⟩
                refine ⟨_, rfl, ?_⟩
                have HQ := Aside0.mk (HD.out.rd hI6 hk6)
                clear hI6 hk6
                refine hK.out _ _ ⟨(HQ.out).cells.2.1, (HQ.out).cells.2.2.2.2.1⟩ (fun hHeld => ?_)
                clear hK K
                refine norm_ (a' := ?_) ?_ ?_
                rotate_left
                · show Act.put _ (some 130) _ = _
                  simp only [Act.put, List.setIfInBounds_toArray, List.set_cons_zero, List.set_cons_succ, i64_w, i32_w]
                  rfl
                refine pure_ (i := 11) (N := some 131) (v := ?_) (a' := ?_) #[true, true, true, true, true, true, true, true, true, true, true, true, false, false, false, false, false] rfl rfl (by kernel_rfl) (fun _ _ _ h => h) (Or.inl ⟨by rfl, ?_⟩) ?_ ?_
                rotate_left
                · intro w'
                  go_simp
                  with_reducible rfl
                rotate_left
                · simp only [Act.put, List.setIfInBounds_toArray, List.set_cons_zero, List.set_cons_succ, i64_w, i32_w]
                  rfl
                refine one_ (i := 12) (N := some 132) #[true, true, true, true, true, true, true, true, true, true, true, true, true, false, false, false, false] rfl rfl (by kernel_rfl) (by decide) (fun K hK => ?_)
                refine value_ (w1 := ?_) (v := ?_) (by rfl) rfl ?_ ?_
                rotate_left 2
                · go_simp
                  constructor
                  · rfl
                  · rfl
                refine hK.out _ _ ⟨(pw_cell_below (below_alloc (Below.refl _ _) _) (HQ.out).cells.2.1), (pw_cell_below (below_alloc (Below.refl _ _) _) (HQ.out).cells.2.2.2.2.1)⟩ (fun hHeld => ?_)
                clear hK K
                refine norm_ (a' := ?_) ?_ ?_
                rotate_left
                · show Act.put _ (some 132) _ = _
                  simp only [Act.put, List.setIfInBounds_toArray, List.set_cons_zero, List.set_cons_succ, i64_w, i32_w]
                  rfl
                refine last_ (i := 13) (N := some 133) #[true, true, true, true, true, true, true, true, true, true, true, true, true, true, false, false, false] rfl rfl (by kernel_rfl) (by decide) (fun K hK => ?_)
                refine Kd.R_append_step (Kd.int .i64) (w0 := w6) w.heap.size (by rfl) (.tmp 124) (.tmp 132) 22 3 (.int .i64 0) 8 rfl Try.underlying22 infoInt rfl (by decide) (by omega) v7 z2.f7 (wrap64 (z2.f0 + (sgnR s (aa, er, es) 4).1)) [.int .i64 (wrap64 (z2.f0 + (sgnR s (aa, er, es) 4).1))] (fun _ => True) (fun _ => False) rfl rfl rfl (fun _ h => h.elim) (fun _ _ => trivial) HQ.out.r7 (Below.refl _ _) HQ.out.kept.1 HLX.out ?_
                intro v7' w7' hr7 hb7 hg7 hat7
                obtain ⟨A8, c8, hv8⟩ := Kd.R_slice hr7
                simp only [List.length_append, List.length_cons, List.length_nil, Nat.zero_add] at hv8
                subst hv8
                refine hK.out _ _ ?_
                clear hK K
                refine norm_ (a' := ?_) ?_ ?_
                rotate_left
                · show Act.put _ (some 133) _ = _
                  simp only [Act.put, List.setIfInBounds_toArray, List.set_cons_zero, List.set_cons_succ, i64_w, i32_w]
                  rfl
                refine pure_ (i := 14) (N := some 134) (v := ?_) (a' := ?_) #[true, true, true, true, true, true, true, true, true, true, true, true, true, true, true, false, false] rfl rfl (by kernel_rfl) (fun _ _ _ h => h) (Or.inl ⟨by rfl, ?_⟩) ?_ ?_
                rotate_left
                · intro w'
                  go_simp
                  with_reducible rfl
                rotate_left
                · simp only [Act.put, List.setIfInBounds_toArray, List.set_cons_zero, List.set_cons_succ, i64_w, i32_w]
                  rfl
                refine pure_ (i := 15) (N := some 135) (v := ?_) (a' := ?_) #[true, true, true, true, true, true, true, true, true, true, true, true, true, true, true, true, false] rfl rfl (by kernel_rfl) (fun _ _ _ h => h) (Or.inl ⟨by rfl, ?_⟩) ?_ ?_
                rotate_left
                · intro w'
                  go_simp
                  with_reducible rfl
                rotate_left
                · simp only [Act.put, List.setIfInBounds_toArray, List.set_cons_zero, List.set_cons_succ, i64_w, i32_w]
                  rfl
                refine last_ (i := 16) (N := none) #[true, true, true, true, true, true, true, true, true, true, true, true, true, true, true, true, true] rfl rfl (by kernel_rfl) (by decide) (fun K hK => ?_)
                have cg7 := HQ.out.grown7 hg7
                have ca7 := cg7.1
                have cf7 := cg7.2
                refine skip_ (w1 := ?_) (by rfl) rfl ?_ ?_
                rotate_left
                · go_simp
                  rfl
                refine hK.out _ _ ?_
                clear hK K
                refine done_ (by kernel_rfl) ?_
                have H7 := Aside0.mk (HQ.out.put7 (Below.refl _ _) hg7 hr7 hat7 HWW.out)
                clear HQ HD H4 ca7 cf7 cg7 hg7 hat7 hb7 hr7
                try clear hHeld
                go_wp2
                go_roundw
                case rel => exact ⟨k + 1, r2, _, _, v6, _, by have := HKR.out; omega, by first | exact WN.out | exact WI.out, H7, ⟨HO4.out.sgn 4⟩, ⟨by rw [List.length_append, HLN.out]; rfl⟩, HCC⟩
                case measure => exact ms_valD HKN.out WN.out
              · rw [decide_eq_false hc]
                have HE : Aside0 (choD s x 10 t = (z2, (aa, er, es))) := ⟨by
                  rw [HC.out]
                  cases r with
                  | zero => rfl
                  | succ r => rw [rowsD, if_pos (fun h => hc ⟨by omega, h⟩)]⟩
                clear hc
                as_aux_lemma =>
                go_wp2
                go_end0
                rw [HE.out]
                exact ⟨rfl, _, _, H4.out⟩
end Go.Proofs.Ytfnjbmpolggdeaa.CD.RR
end
section
namespace Go.Proofs.Ytfnjbmpolggdeaa.CD.RR
open Go.RowKit Go.Lib Go.Proofs.YtfnjbmpolggdeaaW.PrintWords Go.Proofs.YtfnjbmpolggdeaaW.PrintLast Go.Proofs.YtfnjbmpolggdeaaW.PrintMore
set_option linter.unusedVariables false
set_option linter.unusedSimpArgs false
set_option maxHeartbeats 16000000 in
set_option maxRecDepth 100000 in
theorem cho_d11 (w0 w : World) (g : Nat) (s : ByteArray) (t : RdS) (bx : Nat) (x : S82) (ht : OKR s t) (hI : RI w0 w g s t) (hx : w.heap[bx]? = some (.cells (insC x (.slice none 0 0) (.slice none 0 0)) 82 (0, 0))) (h6 : x.f6 = []) (h7 : x.f7 = []) (hnew : w0.heap.size ≤ bx) :
    Calls Try.prog 128 #[.pointer (some ⟨g, 0, none⟩), .pointer (some ⟨bx, 0, none⟩), .bool true] w (ChoPost w0 w g s bx (choD s x 11 t)) := by
  have H0 := Aside0.mk (CS.start hI hx h6 h7 hnew)
  have HO0 := Aside0.mk ht
  have HNW := Aside0.mk hnew
  have HWW := Aside0.mk hI.2.size
  have H67 := Aside0.mk (And.intro h6 h7)
  clear hI hx ht hnew h6 h7
  go_enter Try.func128, Try.ntmps128
  (try go_wp2_with fail)
  go_loopw [20] (fun _ wr => ∃ (k : Nat) (t1 : RdS), Aside0 (CS w0 w wr g s t1 bx x (.slice none 0 0) (.slice none 0 0)) ∧ Aside0 (OKR s t1 ∧ (t1.2.1 = 0 → (4 - t1.1 % 4) % 4 ≤ (k : Int))) ∧ Aside0 (padR s x.f0 4 t = padR s x.f0 k t1)) (fun _ wr => padW g wr)
  case atStart => exact ⟨4, t, H0, ⟨HO0.out, fun _ => by omega⟩, ⟨rfl⟩⟩
  case round =>
    clear H0
    obtain ⟨k, t1, HS, HOK, HP⟩ := hrel
    have H1 := HS
    have HO1 := Aside0.mk HOK.out.1
    obtain ⟨d0_1, d1_1, d2_1, d3_1, d4_1, d5_1, d6_1⟩ := H1.out.cells
    have HPW := Aside0.mk H1.out.ri.pad
    obtain ⟨a, er, es⟩ := t1
    obtain ⟨n, hn⟩ := Int.eq_ofNat_of_zero_le HO1.out.1
    dsimp only at hn
    subst hn
    have hr : Int.tmod (n : Int) 4 = ((n % 4 : Nat) : Int) := (Int.ofNat_tmod n 4).symm
    (try go_upto_region 0 with (fail))
    go_cut [20] from 8 to 19 (fun vv wc => vv = .bool (decide ((n : Int) % 4 ≠ 0 ∧ er = 0)) ∧ Aside0 (CS w0 w wc g s ((n : Int), er, es) bx x (.slice none 0 0) (.slice none 0 0)))
    case first =>
      as_aux_lemma =>
      by_cases c4 : n % 4 = 0
      · have b0 : (((n % 4 : Nat) : Int) != 0) = false := by rw [bne_eq_false_iff_eq]; omega
        have b1 : ((n : Int) % 4 != 0) = false := by rw [bne_eq_false_iff_eq]; omega
        go_wp2_with (fail)
        go_meet
        case rel => exact ⟨by rw [decide_eq_false (by omega)], ⟨H1.out⟩⟩
      · have b0 : (((n % 4 : Nat) : Int) != 0) = true := by rw [bne_iff_ne]; omega
        have b1 : ((n : Int) % 4 != 0) = true := by rw [bne_iff_ne]; omega
        by_cases ce : er = 0
        · have b2 : (er == 0) = true := beq_iff_eq.2 ce
          go_wp2_with (fail)
          go_meet
          case rel => exact ⟨by rw [decide_eq_true (by omega)], ⟨H1.out⟩⟩
        · have b2 : (er == 0) = false := beq_eq_false_iff_ne.2 ce
          go_wp2_with (fail)
          go_meet
          case rel => exact ⟨by rw [decide_eq_false (by omega)], ⟨H1.out⟩⟩
    case rest =>
      obtain ⟨rfl, HC⟩ := hcut
      clear d0_1 d1_1 d2_1 d3_1 d4_1 d5_1 d6_1
      clear HS H1 hr
      have H4 := HC
      have HO4 := HO1
      obtain ⟨d0_4, d1_4, d2_4, d3_4, d4_4, d5_4, d6_4⟩ := H4.out.cells
      by_cases hc : (n : Int) % 4 ≠ 0 ∧ er = 0
      · rw [decide_eq_true hc]
        obtain ⟨j, hj, hpad⟩ := pad_more (s := s) (x0 := x.f0) (k := k) (t := ((n : Int), er, es)) hc (HOK.out.2 hc.2)
        have HPP := Aside0.mk (HP.out.trans hpad)
        have HJ := Aside0.mk hj
        have HCC := Aside0.mk hc
        clear hpad hj hc
        as_aux_lemma =>
        by_cases hv : (numR s ((n : Int), er, es) 1).1 = 0
        · have b3 : ((numR s ((n : Int), er, es) 1).1 != 0) = false := bne_eq_false_iff_eq.2 hv
          have HV := Aside0.mk hv
          clear hv
          go_wp2_with (first | (go_at_call 126; refine (num_any w0 _ g s _ 1 1 rfl (by decide) HO4.out H4.out.ri).mono ?_; rintro e5 w5 ⟨rfl, hI5, hk5⟩; have H5 := Aside0.mk (H4.out.rd hI5 hk5); obtain ⟨d0_5, d1_5, d2_5, d3_5, d4_5, d5_5, d6_5⟩ := H5.out.cells; clear hI5 hk5) | go_in)
          go_roundw
          case rel =>
            refine ⟨j, (numR s ((n : Int), er, es) 1).2, ⟨H5.out⟩, ⟨HO4.out.num 1, fun he => ?_⟩, ⟨by rw [HPP.out, if_neg (fun h => h HV.out)]⟩⟩
            have h1 := num1_err (s := s) HCC.out.2 he
            have h2 := HOK.out.2 HCC.out.2
            have h3 := HCC.out.1
            have h4 := HJ.out
            rw [h1]
            dsimp only at h2 ⊢
            omega
          case measure =>
            rw [H5.out.ri.pad, HPW.out, if_pos HCC.out.2]
            have h3 := HCC.out.1
            split
            · have h1 := num1_err (s := s) HCC.out.2 ‹_›
              rw [h1]
              (try dsimp only)
              omega
            · (try dsimp only)
              omega
        · have b3 : ((numR s ((n : Int), er, es) 1).1 != 0) = true := bne_iff_ne.2 hv
          have HV := Aside0.mk hv
          clear hv
          go_upto_region 2 with (first | (go_at_call 126; refine (num_any w0 _ g s _ 1 1 rfl (by decide) HO4.out H4.out.ri).mono ?_; rintro e5 w5 ⟨rfl, hI5, hk5⟩; have H5 := Aside0.mk (H4.out.rd hI5 hk5); obtain ⟨d0_5, d1_5, d2_5, d3_5, d4_5, d5_5, d6_5⟩ := H5.out.cells; clear hI5 hk5) | go_in)
          go_wp2_with (first | (go_at_call 97; refine (fail_any w0 _ g s (numR s ((n : Int), er, es) 1).2 15 x.f0 H5.out.ri).mono ?_; rintro e6 w6 ⟨rfl, hI6, hk6⟩; have H6 := Aside0.mk (H5.out.rd hI6 hk6); obtain ⟨d0_6, d1_6, d2_6, d3_6, d4_6, d5_6, d6_6⟩ := H6.out.cells; clear hI6 hk6) | go_in)
          go_roundw
          case rel =>
            refine ⟨j, _, ⟨H6.out⟩, ⟨(HO4.out.num 1).fail _ _, fun he => (fail_err (by decide) he).elim⟩, ⟨by rw [HPP.out, if_pos HV.out]⟩⟩
          case measure =>
            rw [H6.out.ri.pad, HPW.out, if_pos HCC.out.2, if_neg (fun he => fail_err (by decide) he)]
            have h3 := HCC.out.1
            (try dsimp only)
            omega
      · rw [decide_eq_false hc]
        have HPE := Aside0.mk (HP.out.trans (pad_done hc))
        clear hc HPW
        as_aux_lemma =>
        generalize htp : ((n : Int), er, es) = tp at *
        clear htp
        go_upto_region 3 with (fail)
        have HD := Aside0.mk H4.out.drew
        clear d0_4 d1_4 d2_4 d3_4 d4_4 d5_4 d6_4
        refine start_ (n := 12) (S := fun w' => w'.cell? ⟨bx, 0, none⟩ = some (.int .i64 x.f0)) (ds := [11]) #[false, false, false, false, false, false, false, false, false, false, false, false] (by kernel_rfl) rfl rfl ((HD.out).cells.2.1) (fun hHeld => ?_)
        refine pure_ (i := 0) (N := some 30) (v := ?_) (a' := ?_) #[true, false, false, false, false, false, false, false, false, false, false, false] rfl rfl (by kernel_rfl) (fun _ _ _ h => h) (Or.inl ⟨by rfl, ?_⟩) ?_ ?_
        rotate_left
        · intro w'
          go_simp
          with_reducible rfl
        rotate_left
        · simp only [Act.put, List.setIfInBounds_toArray, List.set_cons_zero, List.set_cons_succ, i64_w, i32_w]
          rfl
        refine pure_ (i := 1) (N := some 31) (v := ?_) (a' := ?_) #[true, true, false, false, false, false, false, false, false, false, false, false] rfl rfl (by kernel_rfl) (fun _ _ _ h => h) (Or.inl ⟨by rfl, ?_⟩) ?_ ?_
        rotate_left
        · intro w'
          go_simp
          with_reducible rfl
        rotate_left
        · simp only [Act.put, List.setIfInBounds_toArray, List.set_cons_zero, List.set_cons_succ, i64_w, i32_w]
          rfl
        refine pure_ (i := 2) (N := some 32) (v := ?_) (a' := ?_) #[true, true, true, false, false, false, false, false, false, false, false, false] rfl rfl (by kernel_rfl) (fun _ _ _ h => h) (Or.inl ⟨by rfl, ?_⟩) ?_ ?_
        rotate_left
        · intro w'
          go_simp
          with_reducible rfl
        rotate_left
        · simp only [Act.put, List.setIfInBounds_toArray, List.set_cons_zero, List.set_cons_succ, i64_w, i32_w]
          rfl
        refine pure_ (i := 3) (N := some 33) (v := ?_) (a' := ?_) #[true, true, true, true, false, false, false, false, false, false, false, false] rfl rfl (by kernel_rfl) (fun _ _ _ h => h) (Or.inl ⟨by rfl, ?_⟩) ?_ ?_
        rotate_left
        · intro w'
          go_simp
          with_reducible rfl
        rotate_left
        · simp only [Act.put, List.setIfInBounds_toArray, List.set_cons_zero, List.set_cons_succ, i64_w, i32_w]
          rfl
        refine pure_ (i := 5) (N := some 35) (v := ?_) (a' := ?_) #[true, true, true, true, false, true, false, false, false, false, false, false] rfl rfl (by kernel_rfl) (fun _ _ _ h => h) (Or.inl ⟨by rfl, ?_⟩) ?_ ?_
        rotate_left
        · intro w'
          go_simp
          with_reducible rfl
        rotate_left
        · simp only [Act.put, List.setIfInBounds_toArray, List.set_cons_zero, List.set_cons_succ, i64_w, i32_w]
          rfl
        refine take_ (i := 4) (N := some 34) (v := ?_) (a' := ?_) #[true, true, true, true, true, true, false, false, false, false, false, false] rfl rfl (by kernel_rfl) (fun _ _ _ h => h) (Or.inl ⟨by rfl, ?_⟩) hHeld ?_ ?_
        rotate_left
        · intro w' s0
          go_simp
          with_reducible rfl
        rotate_left
        · simp only [Act.put, List.setIfInBounds_toArray, List.set_cons_zero, List.set_cons_succ, i64_w, i32_w]
          rfl
        refine one_ (i := 6) (N := some 36) #[true, true, true, true, true, true, true, false, false, false, false, false] rfl rfl (by kernel_rfl) (by decide) (fun K hK => ?_)
        refine goes_ Try.func127 (by kernel_rfl) rfl #[.pointer (some ⟨g, 0, none⟩), .int .i64 4] (by rfl) rfl rfl (by simp only [List.map_toArray, List.map_cons, List.map_nil]; rfl) ?_
        with_reducible refine (signed_d w0 _ g s tp 4 4 rfl (.inr (.inr rfl)) HO4.out HD.out.ri).mono ?_
        rintro e6 w6 ⟨rfl, hI6, hk6⟩
        refine ⟨_, rfl, ?_⟩
        have HQ := Aside0.mk (HD.out.rd hI6 hk6)
        clear hI6 hk6
        refine hK.out _ _ ((HQ.out).cells.2.1) (fun hHeld => ?_)
        clear hK K
        refine norm_ (a' := ?_) ?_ ?_
        rotate_left
        · show Act.put _ (some 36) _ = _
          simp only [Act.put, List.setIfInBounds_toArray, List.set_cons_zero, List.set_cons_succ, i64_w, i32_w]
          rfl
        refine pure_ (i := 7) (N := some 37) (v := ?_) (a' := ?_) #[true, true, true, true, true, true, true, true, false, false, false, false] rfl rfl (by kernel_rfl) (fun _ _ _ h => h) (Or.inl ⟨by rfl, ?_⟩) ?_ ?_
        rotate_left
        · intro w'
          go_simp
          with_reducible rfl
        rotate_left
        · simp only [Act.put, List.setIfInBounds_toArray, List.set_cons_zero, List.set_cons_succ, i64_w, i32_w]
          rfl
        refine one_ (i := 8) (N := some 38) #[true, true, true, true, true, true, true, true, true, false, false, false] rfl rfl (by kernel_rfl) (by decide) (fun K hK => ?_)
        refine value_ (w1 := ?_) (v := ?_) (by rfl) rfl ?_ ?_
        rotate_left 2
        · go_simp
          constructor
          · rfl
          · rfl
        refine hK.out _ _ ((pw_cell_below (below_alloc (Below.refl _ _) _) (HQ.out).cells.2.1)) (fun hHeld => ?_)
        clear hK K
        refine norm_ (a' := ?_) ?_ ?_
        rotate_left
        · show Act.put _ (some 38) _ = _
          simp only [Act.put, List.setIfInBounds_toArray, List.set_cons_zero, List.set_cons_succ, i64_w, i32_w]
          rfl
        refine pure_ (i := 9) (N := some 39) (v := ?_) (a' := ?_) #[true, true, true, true, true, true, true, true, true, true, false, false] rfl rfl (by kernel_rfl) (fun _ _ _ h => h) (Or.inl ⟨by rfl, ?_⟩) ?_ ?_
        rotate_left
        · intro w'
          go_simp
          with_reducible rfl
        rotate_left
        · simp only [Act.put, List.setIfInBounds_toArray, List.set_cons_zero, List.set_cons_succ, i64_w, i32_w]
          rfl
        refine pure_ (i := 10) (N := some 40) (v := ?_) (a' := ?_) #[true, true, true, true, true, true, true, true, true, true, true, false] rfl rfl (by kernel_rfl) (fun _ _ _ h => h) (Or.inl ⟨by rfl, ?_⟩) ?_ ?_
        rotate_left
        · intro w'
          go_simp
          with_reducible rfl
        rotate_left
        · simp only [Act.put, List.setIfInBounds_toArray, List.set_cons_zero, List.set_cons_succ, i64_w, i32_w]
          rfl
        refine last_ (i := 11) (N := none) #[true, true, true, true, true, true, true, true, true, true, true, true] rfl rfl (by kernel_rfl) (by decide) (fun K hK => ?_)
        have ca7 := fun o => (HQ.out.below (below_alloc (Below.refl w6.heap.size w6) o)).cells.2.2.2.2.1
        have cf7 := fun o => (HQ.out.below (below_alloc (Below.refl w6.heap.size w6) o)).cells.2.2.2.2.2.1 7
        refine skip_ (w1 := ?_) (by rfl) rfl ?_ ?_
        rotate_left
        · go_simp
          rfl
        refine hK.out _ _ ?_
        clear hK K
        refine done_ (by kernel_rfl) ?_
        have H7 := Aside0.mk (HQ.out.put7 (Below.refl _ _) (World.grownBy_alloc _ (.cells #[.int .i64 (wrap64 (x.f0 + (sgnR s tp 4).1))] 3) _) (RW.lit _ _ (wrap64 (x.f0 + (sgnR s tp 4).1)) HQ.out.kept.1) (.inr ⟨_, rfl, Nat.le_refl _⟩) HWW.out)
        obtain ⟨y, hy⟩ : ∃ y, (⟨x.f0, x.f1, x.f2, x.f3, x.f4, x.f5, x.f6, [wrap64 (x.f0 + (sgnR s tp 4).1)]⟩ : S82) = y := ⟨_, rfl⟩
        rw [hy] at H7
        have HY := Aside0.mk (show y.f6 = [] ∧ y.f7.length = 1 by rw [← hy]; exact ⟨H67.out.1, rfl⟩)
        have HHD := Aside0.mk (show headD s x t = (y, (sgnR s tp 4).2) by unfold headD; rw [HPE.out, hy])
        have HO7 := Aside0.mk (HO4.out.sgn 4)
        clear hy HQ HD H4 HO4 HPE ca7 cf7
        try clear hHeld
        generalize World.setCell _ ⟨bx, 7, none⟩ _ = W7 at *
        generalize (sgnR s tp 4).2 = t7 at *
        obtain ⟨d0_7, d1_7, d2_7, d3_7, d4_7, d5_7, d6_7⟩ := H7.out.cells
        have HRA := Aside0.mk (sgn_range s t7)
        have HCH := Aside0.mk (show choD s x 11 t = choD11 s y (sgnR s t7 4).1 (sgnR s t7 4).2 by unfold choD; rw [if_neg (by decide), HHD.out])
        go_upto_region 10 with (first | (go_at_call 127; refine (signed_d w0 _ g s t7 4 4 rfl (.inr (.inr rfl)) HO7.out H7.out.ri).mono ?_; rintro e10 w10 ⟨rfl, hI10, hk10⟩; have H10 := Aside0.mk (H7.out.rd hI10 hk10); obtain ⟨d0_10, d1_10, d2_10, d3_10, d4_10, d5_10, d6_10⟩ := H10.out.cells; clear hI10 hk10) | go_in)
        have HO10 := Aside0.mk (HO7.out.sgn 4)
        clear d0_7 d1_7 d2_7 d3_7 d4_7 d5_7 d6_7
        clear H7
        by_cases hlt : (sgnR s t7 4).1 < 0
        · have HM := Aside0.mk (show choD s x 11 t = (y, failR (sgnR s t7 4).2 15 y.f0) by rw [HCH.out, choD11, if_pos hlt])
          have l2 : decide ((sgnR s t7 4).1 < 0) = true := decide_eq_true hlt
          have l3 : decide ((0 : Int) < (sgnR s t7 4).1) = false := decide_eq_false (by omega)
          clear hlt HCH HHD HRA
          as_aux_lemma =>
          go_upto_region 12 with (first | (go_at_call 97; refine (fail_any w0 _ g s (sgnR s t7 4).2 15 y.f0 H10.out.ri).mono ?_; rintro e12 w12 ⟨rfl, hI12, hk12⟩; have H12 := Aside0.mk (H10.out.rd hI12 hk12); obtain ⟨d0_12, d1_12, d2_12, d3_12, d4_12, d5_12, d6_12⟩ := H12.out.cells; clear hI12 hk12) | go_in)
          go_wp2_with fail
          go_loopw [7] (fun i wr => i = .int .i64 0 ∧ Aside0 (CS w0 w wr g s (failR (sgnR s t7 4).2 15 y.f0) bx y (.slice none 0 0) (.slice (some ⟨w6.heap.size, 0, none⟩) 1 1))) (fun _ _ => 0)
          case atStart => exact ⟨rfl, ⟨H12.out⟩⟩
          case round =>
            clear H12
            obtain ⟨rfl, H13⟩ := hrel
            go_wp2_with fail
            go_end0
            rw [HM.out]
            exact ⟨rfl, _, _, H13.out⟩
        · obtain ⟨N, hN⟩ : ∃ N : Nat, (sgnR s t7 4).1 = (N : Int) := ⟨((sgnR s t7 4).1).toNat, by omega⟩
          have HN := Aside0.mk (show N ≤ 4294967296 by have := HRA.out; omega)
          have HCN := Aside0.mk (show choD s x 11 t = rowsD s 11 N 0 y (sgnR s t7 4).2 by rw [HCH.out, choD11, if_neg hlt, hN, Int.toNat_natCast])
          have b5 : decide ((N : Int) < 0) = false := decide_eq_false (by omega)
          rw [hN]
          clear hlt hN
          go_upto_region 12 with (fail)
          clear b5 HCH HHD
          clear d0_10 d1_10 d2_10 d3_10 d4_10 d5_10 d6_10
          have HY2 := HY
          clear HY
          generalize y = z at *
          generalize (sgnR s t7 4).2 = tz at *
          go_wp2_with fail
          go_loopw [7] (fun i wr => ∃ (k r : Nat) (z2 : S82) (t2 : RdS) (v6 v7 : Value), k + r = N ∧ i = .int .i64 k ∧ Aside0 (CS w0 w wr g s t2 bx z2 v6 v7) ∧ Aside0 (OKR s t2) ∧ Aside0 (z2.f6.length = k ∧ z2.f7.length = k + 1) ∧ Aside0 (choD s x 11 t = rowsD s 11 r k z2 t2)) (fun i _ => N - (intOf i).toNat)
          case atStart => exact ⟨0, N, z, tz, _, _, Nat.zero_add N, rfl, H10, HO10, ⟨by rw [HY2.out.1]; rfl, HY2.out.2⟩, HCN⟩
          case round =>
            clear H10 HO10 HCN HY2
            obtain ⟨k, r, z2, t2, v6, v7, hkr, rfl, H1, HO1, HLN, HC⟩ := hrel
            obtain ⟨d0_1, d1_1, d2_1, d3_1, d4_1, d5_1, d6_1⟩ := H1.out.cells
            obtain ⟨aa, er, es⟩ := t2
            go_upto_region 13 with (fail)
            go_cut [79] from 70 to 78 (fun vv wc => vv = .bool (decide (k < N ∧ er = 0)) ∧ Aside0 (CS w0 w wc g s (aa, er, es) bx z2 v6 v7))
            case first =>
              as_aux_lemma =>
              by_cases ck : k < N
              · have b1 : decide ((k : Int) < (N : Int)) = true := decide_eq_true (by omega)
                by_cases ce : er = 0
                · have b2 : (er == 0) = true := beq_iff_eq.2 ce
                  go_wp2_with (fail)
                  go_meet
                  case rel => exact ⟨by rw [decide_eq_true ⟨ck, ce⟩], ⟨H1.out⟩⟩
                · have b2 : (er == 0) = false := beq_eq_false_iff_ne.2 ce
                  go_wp2_with (fail)
                  go_meet
                  case rel => exact ⟨by rw [decide_eq_false (fun h => ce h.2)], ⟨H1.out⟩⟩
              · have b1 : decide ((k : Int) < (N : Int)) = false := decide_eq_false (by omega)
                go_wp2
                go_meet
                case rel => exact ⟨by rw [decide_eq_false (fun h => ck h.1)], ⟨H1.out⟩⟩
            case rest =>
              obtain ⟨rfl, HCT⟩ := hcut
              clear d0_1 d1_1 d2_1 d3_1 d4_1 d5_1 d6_1
              clear H1
              have H4 := HCT
              have HO4 := HO1
              obtain ⟨d0_4, d1_4, d2_4, d3_4, d4_4, d5_4, d6_4⟩ := H4.out.cells
              by_cases hc : k < N ∧ er = 0
              · rw [decide_eq_true hc]
                obtain ⟨r2, hr2⟩ : ∃ r2, r = r2 + 1 := ⟨r - 1, by omega⟩
                subst hr2
                have HKN := Aside0.mk hc.1
                have HER := Aside0.mk hc.2
                have HKR := Aside0.mk hkr
                have wk : wrap64 ((k : Int) + 1) = ((k + 1 : Nat) : Int) := by rw [← i64_w, IntKind.wrap_i64]; have := HN.out; omega
                have WN := Aside0.mk (congrArg (Value.int IntKind.i64) wk)
                have WI := Aside0.mk wk
                clear wk hc hkr
                as_aux_lemma =>
                have HLX6 := Aside0.mk (show (z2.f6.length + 1) * 8 ≤ 140737488355328 by have := HLN.out.1; have := HN.out; have := HKN.out; omega)
                go_upto_region 16 with (fail)
                have HD := Aside0.mk H4.out.drew
                clear d0_4 d1_4 d2_4 d3_4 d4_4 d5_4 d6_4
                refine start_ (n := 12) (S := fun w' => w'.cell? ⟨bx, 0, none⟩ = some (.int .i64 z2.f0) ∧ w'.cell? ⟨bx, 6, none⟩ = some v6) (ds := [8, 11]) #[false, false, false, false, false, false, false, false, false, false, false, false] (by kernel_rfl) rfl rfl ⟨(HD.out).cells.2.1, (HD.out).cells.2.2.2.1⟩ (fun hHeld => ?_)
                refine pure_ (i := 0) (N := some 83) (v := ?_) (a' := ?_) #[true, false, false, false, false, false, false, false, false, false, false, false] rfl rfl (by kernel_rfl) (fun _ _ _ h => h) (Or.inl ⟨by rfl, ?_⟩) ?_ ?_
                rotate_left
                · intro w'
                  go_simp
                  with_reducible rfl
                rotate_left
                · simp only [Act.put, List.setIfInBounds_toArray, List.set_cons_zero, List.set_cons_succ, i64_w, i32_w]
                  rfl
                refine pure_ (i := 1) (N := some 84) (v := ?_) (a' := ?_) #[true, true, false, false, false, false, false, false, false, false, false, false] rfl rfl (by kernel_rfl) (fun _ _ _ h => h) (Or.inl ⟨by rfl, ?_⟩) ?_ ?_
                rotate_left
                · intro w'
                  go_simp
                  with_reducible rfl
                rotate_left
                · simp only [Act.put, List.setIfInBounds_toArray, List.set_cons_zero, List.set_cons_succ, i64_w, i32_w]
                  rfl
                refine pure_ (i := 2) (N := some 85) (v := ?_) (a' := ?_) #[true, true, true, false, false, false, false, false, false, false, false, false] rfl rfl (by kernel_rfl) (fun _ _ _ h => h) (Or.inl ⟨by rfl, ?_⟩) ?_ ?_
                rotate_left
                · intro w'
                  go_simp
                  with_reducible rfl
                rotate_left
                · simp only [Act.put, List.setIfInBounds_toArray, List.set_cons_zero, List.set_cons_succ, i64_w, i32_w]
                  rfl
                refine pure_ (i := 3) (N := some 86) (v := ?_) (a' := ?_) #[true, true, true, true, false, false, false, false, false, false, false, false] rfl rfl (by kernel_rfl) (fun _ _ _ h => h) (Or.inl ⟨by rfl, ?_⟩) ?_ ?_
                rotate_left
                · intro w'
                  go_simp
                  with_reducible rfl
                rotate_left
                · simp only [Act.put, List.setIfInBounds_toArray, List.set_cons_zero, List.set_cons_succ, i64_w, i32_w]
                  rfl
                refine pure_ (i := 5) (N := some 88) (v := ?_) (a' := ?_) #[true, true, true, true, false, true, false, false, false, false, false, false] rfl rfl (by kernel_rfl) (fun _ _ _ h => h) (Or.inl ⟨by rfl, ?_⟩) ?_ ?_
                rotate_left
                · intro w'
                  go_simp
                  with_reducible rfl
                rotate_left
                · simp only [Act.put, List.setIfInBounds_toArray, List.set_cons_zero, List.set_cons_succ, i64_w, i32_w]
                  rfl
                refine take_ (i := 4) (N := some 87) (v := ?_) (a' := ?_) #[true, true, true, true, true, true, false, false, false, false, false, false] rfl rfl (by kernel_rfl) (fun _ _ _ h => h) (Or.inl ⟨by rfl, ?_⟩) hHeld ?_ ?_
                rotate_left
                · rintro w' ⟨s0, s1⟩
                  go_simp
                  with_reducible rfl
                rotate_left
                · simp only [Act.put, List.setIfInBounds_toArray, List.set_cons_zero, List.set_cons_succ, i64_w, i32_w]
                  rfl
                refine one_ (i := 6) (N := some 89) #[true, true, true, true, true, true, true, false, false, false, false, false] rfl rfl (by kernel_rfl) (by decide) (fun K hK => ?_)
                refine goes_ Try.func127 (by kernel_rfl) rfl #[.pointer (some ⟨g, 0, none⟩), .int .i64 4] (by rfl) rfl rfl (by simp only [List.map_toArray, List.map_cons, List.map_nil]; rfl) ?_
                with_reducible refine (signed_d w0 _ g s (aa, er, es) 4 4 rfl (.inr (.inr rfl)) HO4.out HD.out.ri).mono ?_
                rintro e6 w6 ⟨rfl, hI6, hk6⟩
                refine ⟨_, rfl, ?_⟩
                have HQ := Aside0.mk (HD.out.rd hI6 hk6)
                clear hI6 hk6
                refine hK.out _ _ ⟨(HQ.out).cells.2.1, (HQ.out).cells.2.2.2.1⟩ (fun hHeld => ?_)
                clear hK K
                refine norm_ (a' := ?_) ?_ ?_
                rotate_left
                · show Act.put _ (some 89) _ = _
                  simp only [Act.put, List.setIfInBounds_toArray, List.set_cons_zero, List.set_cons_succ, i64_w, i32_w]
                  rfl
                refine one_ (i := 7) (N := some 90) #[true, true, true, true, true, true, true, true, false, false, false, false] rfl rfl (by kernel_rfl) (by decide) (fun K hK => ?_)
                refine value_ (w1 := ?_) (v := ?_) (by rfl) rfl ?_ ?_
                rotate_left 2
                · go_simp
                  constructor
                  · rfl
                  · rfl
                refine hK.out _ _ ⟨(pw_cell_below (below_alloc (Below.refl _ _) _) (HQ.out).cells.2.1), (pw_cell_below (below_alloc (Below.refl _ _) _) (HQ.out).cells.2.2.2.1)⟩ (fun hHeld => ?_)
                clear hK K
                refine norm_ (a' := ?_) ?_ ?_
                rotate_left
                · show Act.put _ (some 90) _ = _
                  simp only [Act.put, List.setIfInBounds_toArray, List.set_cons_zero, List.set_cons_succ, i64_w, i32_w]
                  rfl
                refine last_ (i := 8) (N := some 91) #[true, true, true, true, true, true, true, true, true, false, false, false] rfl rfl (by kernel_rfl) (by decide) (fun K hK => ?_)
                refine Kd.R_append_step (Kd.int .i64) (w0 := w6) w.heap.size (by rfl) (.tmp 87) (.tmp 90) 22 3 (.int .i64 0) 8 rfl Try.underlying22 infoInt rfl (by decide) (by omega) v6 z2.f6 ((sgnR s (aa, er, es) 4).1) [.int .i64 ((sgnR s (aa, er, es) 4).1)] (fun _ => True) (fun _ => False) rfl rfl rfl (fun _ h => h.elim) (fun _ _ => trivial) HQ.out.r6 (Below.refl _ _) HQ.out.kept.1 HLX6.out ?_
                intro v6' w7' hr7 hb7 hg7 hat7
                obtain ⟨A8, c8, hv8⟩ := Kd.R_slice hr7
                simp only [List.length_append, List.length_cons, List.length_nil, Nat.zero_add] at hv8
                subst hv8
                refine hK.out _ _ ?_
                clear hK K
                refine norm_ (a' := ?_) ?_ ?_
                rotate_left
                · show Act.put _ (some 91) _ = _
                  simp only [Act.put, List.setIfInBounds_toArray, List.set_cons_zero, List.set_cons_succ, i64_w, i32_w]
                  rfl
                refine pure_ (i := 9) (N := some 92) (v := ?_) (a' := ?_) #[true, true, true, true, true, true, true, true, true, true, false, false] rfl rfl (by kernel_rfl) (fun _ _ _ h => h) (Or.inl ⟨by rfl, ?_⟩) ?_ ?_
                rotate_left
                · intro w'
                  go_simp
                  with_reducible rfl
                rotate_left
                · simp only [Act.put, List.setIfInBounds_toArray, List.set_cons_zero, List.set_cons_succ, i64_w, i32_w]
                  rfl
                refine pure_ (i := 10) (N := some 93) (v := ?_) (a' := ?_) #[true, true, true, true, true, true, true, true, true, true, true, false] rfl rfl (by kernel_rfl) (fun _ _ _ h => h) (Or.inl ⟨by rfl, ?_⟩) ?_ ?_
                rotate_left
                · intro w'
                  go_simp
                  with_reducible rfl
                rotate_left
                · simp only [Act.put, List.setIfInBounds_toArray, List.set_cons_zero, List.set_cons_succ, i64_w, i32_w]
                  rfl
                refine last_ (i := 11) (N := none) #[true, true, true, true, true, true, true, true, true, true, true, true] rfl rfl (by kernel_rfl) (by decide) (fun K hK => ?_)
                have cg7 := HQ.out.grown6 hg7
                have ca7 := cg7.1
                have cf7 := cg7.2
                refine skip_ (w1 := ?_) (by rfl) rfl ?_ ?_
                rotate_left
                · go_simp
                  rfl
                refine hK.out _ _ ?_
                clear hK K
                refine done_ (by kernel_rfl) ?_
                have H7 := Aside0.mk (HQ.out.put6 hg7 hr7 hat7 HWW.out)
                have HO7 := Aside0.mk (HO4.out.sgn 4)
                clear HQ HD H4 ca7 cf7 cg7 hg7 hat7 hb7 hr7
                try clear hHeld
                have hk6 : z2.f6.length = k := HLN.out.1
                rw [hk6] at H7
                rw [hk6]
                generalize World.setCell _ ⟨bx, 6, none⟩ _ = W7 at *
                obtain ⟨vk, hvk⟩ : ∃ vk, (sgnR s (aa, er, es) 4).1 = vk := ⟨_, rfl⟩
                obtain ⟨tk, htk⟩ : ∃ tk, (sgnR s (aa, er, es) 4).2 = tk := ⟨_, rfl⟩
                have HCC : Aside0 (choD s x 11 t = rowsD s 11 r2 (k + 1) (⟨z2.f0, z2.f1, z2.f2, z2.f3, z2.f4, z2.f5, z2.f6 ++ [vk], z2.f7 ++ [wrap64 (z2.f0 + (sgnR s (if 0 < k ∧ vk ≤ rd z2.f6 ((k : Int) - 1) then failR tk 15 z2.f0 else tk) 4).1)]⟩ : S82) (sgnR s (if 0 < k ∧ vk ≤ rd z2.f6 ((k : Int) - 1) then failR tk 15 z2.f0 else tk) 4).2) := ⟨by rw [HC.out, rowsD, if_neg (fun h => h HER.out), if_pos rfl, hvk, htk]⟩
                rw [hvk] at H7
                rw [htk] at H7 HO7
                clear hvk htk
                have HLN3 := Aside0.mk (show (⟨z2.f0, z2.f1, z2.f2, z2.f3, z2.f4, z2.f5, z2.f6 ++ [vk], z2.f7⟩ : S82).f6.length = k + 1 ∧ (⟨z2.f0, z2.f1, z2.f2, z2.f3, z2.f4, z2.f5, z2.f6 ++ [vk], z2.f7⟩ : S82).f7.length = k + 1 from ⟨by show (z2.f6 ++ [vk]).length = k + 1; rw [List.length_append, HLN.out.1]; rfl, HLN.out.2⟩)
                have HZK := Aside0.mk (show rd (⟨z2.f0, z2.f1, z2.f2, z2.f3, z2.f4, z2.f5, z2.f6 ++ [vk], z2.f7⟩ : S82).f6 (k : Int) = vk ∧ (0 < k → rd (⟨z2.f0, z2.f1, z2.f2, z2.f3, z2.f4, z2.f5, z2.f6 ++ [vk], z2.f7⟩ : S82).f6 ((k : Int) - 1) = rd z2.f6 ((k : Int) - 1)) from ⟨by show rd (z2.f6 ++ [vk]) (k : Int) = vk; unfold rd; rw [Int.toNat_natCast, List.getD_eq_getElem?_getD, List.getElem?_append_right (by omega), hk6]; simp, fun h0 => by show rd (z2.f6 ++ [vk]) ((k : Int) - 1) = _; unfold rd; rw [List.getD_eq_getElem?_getD, List.getD_eq_getElem?_getD, List.getElem?_append_left (by omega)]⟩)
                obtain ⟨z3, hz3⟩ : ∃ z3, (⟨z2.f0, z2.f1, z2.f2, z2.f3, z2.f4, z2.f5, z2.f6 ++ [vk], z2.f7⟩ : S82) = z3 := ⟨_, rfl⟩
                have HF0 := Aside0.mk (show z3.f0 = z2.f0 by rw [← hz3])
                have HCD0 : Aside0 (choD s x 11 t = rowsD s 11 r2 (k + 1) (⟨z3.f0, z3.f1, z3.f2, z3.f3, z3.f4, z3.f5, z3.f6, z3.f7 ++ [wrap64 (z3.f0 + (sgnR s (if 0 < k ∧ vk ≤ rd z2.f6 ((k : Int) - 1) then failR tk 15 z3.f0 else tk) 4).1)]⟩ : S82) (sgnR s (if 0 < k ∧ vk ≤ rd z2.f6 ((k : Int) - 1) then failR tk 15 z3.f0 else tk) 4).2) := ⟨by rw [HCC.out, ← hz3]⟩
                rw [hz3] at H7 HLN3 HZK
                clear hz3 HCC hk6
                obtain ⟨d0_7, d1_7, d2_7, d3_7, d4_7, d5_7, d6_7⟩ := H7.out.cells
                go_upto_region 17 with (fail)
                go_cut [113] from 94 to 112 (fun vv wc => vv = .bool (decide (0 < k ∧ vk ≤ rd z2.f6 ((k : Int) - 1))) ∧ Aside0 (CS w0 w wc g s tk bx z3 (.slice A8 (k + 1) c8) v7))
                case first =>
                  as_aux_lemma =>
                  have HE := Aside0.mk H7.out.drew
                  obtain ⟨ad, ea, za⟩ := Kd.at_int (Kd.R_reads' HE.out.r6).2.2 (k : Int) (by omega) (by have := HLN3.out.1; omega)
                  subst ea
                  rw [HZK.out.1, Int.toNat_natCast] at za
                  have HZ := Aside0.mk za
                  clear za
                  have i0 : (0 : Int) ≤ (k : Int) := by omega
                  have i1 : ((k : Int) < (k : Int) + 1) = True := eq_true (by omega)
                  have i2 : (k < k + 1) = True := eq_true (by omega)
                  by_cases ck : 0 < k
                  · have m1 : decide ((k : Int) > 0) = true := decide_eq_true (by omega)
                    have m2 : decide (0 < (k : Int)) = true := decide_eq_true (by omega)
                    have m0 : decide (0 < k) = true := decide_eq_true ck
                    obtain ⟨ad1, ea1, za1⟩ := Kd.at_int (Kd.R_reads' HE.out.r6).2.2 ((k : Int) - 1) (by omega) (by have := HLN3.out.1; omega)
                    injection ea1 with ea1
                    subst ea1
                    rw [HZK.out.2 ck, show ((k : Int) - 1).toNat = k - 1 by omega] at za1
                    have HZ1 := Aside0.mk za1
                    clear za1
                    have j0 : (0 : Int) ≤ (k : Int) - 1 := by omega
                    have j1 : ((k : Int) - 1 < (k : Int) + 1) = True := eq_true (by omega)
                    have j3 : wrap64 ((k : Int) - 1) = (k : Int) - 1 := by rw [← i64_w, IntKind.wrap_i64]; have := HN.out; have := HKN.out; omega
                    have j4 : (1 : Int) ≤ (k : Int) := by omega
                    have j6 : ((k : Int) - 1).toNat = k - 1 := by omega
                    have j5 : (k - 1 < k + 1) = True := eq_true (by omega)
                    by_cases cv : vk ≤ rd z2.f6 ((k : Int) - 1)
                    · have m3 : decide (vk ≤ rd z2.f6 ((k : Int) - 1)) = true := decide_eq_true cv
                      have HCV := Aside0.mk cv
                      clear cv
                      refine start_ (n := 20) (S := fun w' => w'.cell? ⟨bx, 6, none⟩ = some (.slice (some ad) (k + 1) c8) ∧ w'.cell? (ad.add k) = some (.int .i64 vk) ∧ w'.cell? (ad.add (k - 1)) = some (.int .i64 (rd z2.f6 ((k : Int) - 1)))) (ds := []) #[false, false, false, false, false, false, false, false, false, false, false, false, false, false, false, false, false, false, false, false] (by kernel_rfl) rfl rfl ⟨HE.out.cells.2.2.2.1, HZ.out, HZ1.out⟩ (fun hHeld => ?_)
                      refine pure_ (i := 0) (N := some 94) (v := ?_) (a' := ?_) #[true, false, false, false, false, false, false, false, false, false, false, false, false, false, false, false, false, false, false, false] rfl rfl (by kernel_rfl) (fun _ _ _ h => h) (Or.inl ⟨by rfl, ?_⟩) ?_ ?_
                      rotate_left
                      · intro w'
                        go_simp
                        with_reducible rfl
                      rotate_left
                      · simp only [Act.put, List.setIfInBounds_toArray, List.set_cons_zero, List.set_cons_succ, i64_w, i32_w]
                        rfl
                      refine pure_ (i := 1) (N := some 95) (v := ?_) (a' := ?_) #[true, true, false, false, false, false, false, false, false, false, false, false, false, false, false, false, false, false, false, false] rfl rfl (by kernel_rfl) (fun _ _ _ h => h) (Or.inl ⟨by rfl, ?_⟩) ?_ ?_
                      rotate_left
                      · intro w'
                        go_simp
                        with_reducible rfl
                      rotate_left
                      · simp only [Act.put, List.setIfInBounds_toArray, List.set_cons_zero, List.set_cons_succ, i64_w, i32_w]
                        rfl
                      refine pure_ (i := 2) (N := some 96) (v := ?_) (a' := ?_) #[true, true, true, false, false, false, false, false, false, false, false, false, false, false, false, false, false, false, false, false] rfl rfl (by kernel_rfl) (fun _ _ _ h => h) (Or.inl ⟨by rfl, ?_⟩) ?_ ?_
                      rotate_left
                      · intro w'
                        go_simp
                        with_reducible rfl
                      rotate_left
                      · simp only [Act.put, List.setIfInBounds_toArray, List.set_cons_zero, List.set_cons_succ, i64_w, i32_w]
                        rfl
                      refine pure_ (i := 3) (N := some 97) (v := ?_) (a' := ?_) #[true, true, true, true, false, false, false, false, false, false, false, false, false, false, false, false, false, false, false, false] rfl rfl (by kernel_rfl) (fun _ _ _ h => h) (Or.inl ⟨by rfl, ?_⟩) ?_ ?_
                      rotate_left
                      · intro w'
                        go_simp
                        with_reducible rfl
                      rotate_left
                      · simp only [Act.put, List.setIfInBounds_toArray, List.set_cons_zero, List.set_cons_succ, i64_w, i32_w]
                        rfl
                      refine pure_ (i := 4) (N := some 98) (v := ?_) (a' := ?_) #[true, true, true, true, true, false, false, false, false, false, false, false, false, false, false, false, false, false, false, false] rfl rfl (by kernel_rfl) (fun _ _ _ h => h) (Or.inl ⟨by rfl, ?_⟩) ?_ ?_
                      rotate_left
                      · intro w'
                        go_simp
                        with_reducible rfl
                      rotate_left
                      · simp only [Act.put, List.setIfInBounds_toArray, List.set_cons_zero, List.set_cons_succ, i64_w, i32_w]
                        rfl
                      refine pure_ (i := 5) (N := some 99) (v := ?_) (a' := ?_) #[true, true, true, true, true, true, false, false, false, false, false, false, false, false, false, false, false, false, false, false] rfl rfl (by kernel_rfl) (fun _ _ _ h => h) (Or.inl ⟨by rfl, ?_⟩) ?_ ?_
                      rotate_left
                      · intro w'
                        go_simp
                        with_reducible rfl
                      rotate_left
                      · simp only [Act.put, List.setIfInBounds_toArray, List.set_cons_zero, List.set_cons_succ, i64_w, i32_w]
                        rfl
                      refine pure_ (i := 7) (N := some 101) (v := ?_) (a' := ?_) #[true, true, true, true, true, true, false, true, false, false, false, false, false, false, false, false, false, false, false, false] rfl rfl (by kernel_rfl) (fun _ _ _ h => h) (Or.inl ⟨by rfl, ?_⟩) ?_ ?_
                      rotate_left
                      · intro w'
                        go_simp
                        with_reducible rfl
                      rotate_left
                      · simp only [Act.put, List.setIfInBounds_toArray, List.set_cons_zero, List.set_cons_succ, i64_w, i32_w]
                        rfl
                      refine pure_ (i := 10) (N := some 104) (v := ?_) (a' := ?_) #[true, true, true, true, true, true, false, true, false, false, true, false, false, false, false, false, false, false, false, false] rfl rfl (by kernel_rfl) (fun _ _ _ h => h) (Or.inl ⟨by rfl, ?_⟩) ?_ ?_
                      rotate_left
                      · intro w'
                        go_simp
                        with_reducible rfl
                      rotate_left
                      · simp only [Act.put, List.setIfInBounds_toArray, List.set_cons_zero, List.set_cons_succ, i64_w, i32_w]
                        rfl
                      refine pure_ (i := 11) (N := some 105) (v := ?_) (a' := ?_) #[true, true, true, true, true, true, false, true, false, false, true, true, false, false, false, false, false, false, false, false] rfl rfl (by kernel_rfl) (fun _ _ _ h => h) (Or.inl ⟨by rfl, ?_⟩) ?_ ?_
                      rotate_left
                      · intro w'
                        go_simp
                        with_reducible rfl
                      rotate_left
                      · simp only [Act.put, List.setIfInBounds_toArray, List.set_cons_zero, List.set_cons_succ, i64_w, i32_w]
                        rfl
                      refine pure_ (i := 12) (N := some 106) (v := ?_) (a' := ?_) #[true, true, true, true, true, true, false, true, false, false, true, true, true, false, false, false, false, false, false, false] rfl rfl (by kernel_rfl) (fun _ _ _ h => h) (Or.inl ⟨by rfl, ?_⟩) ?_ ?_
                      rotate_left
                      · intro w'
                        go_simp
                        with_reducible rfl
                      rotate_left
                      · simp only [Act.put, List.setIfInBounds_toArray, List.set_cons_zero, List.set_cons_succ, i64_w, i32_w]
                        rfl
                      refine pure_ (i := 14) (N := some 108) (v := ?_) (a' := ?_) #[true, true, true, true, true, true, false, true, false, false, true, true, true, false, true, false, false, false, false, false] rfl rfl (by kernel_rfl) (fun _ _ _ h => h) (Or.inl ⟨by rfl, ?_⟩) ?_ ?_
                      rotate_left
                      · intro w'
                        go_simp
                        with_reducible rfl
                      rotate_left
                      · simp only [Act.put, List.setIfInBounds_toArray, List.set_cons_zero, List.set_cons_succ, i64_w, i32_w]
                        rfl
                      refine pure_ (i := 15) (N := some 109) (v := ?_) (a' := ?_) #[true, true, true, true, true, true, false, true, false, false, true, true, true, false, true, true, false, false, false, false] rfl rfl (by kernel_rfl) (fun _ _ _ h => h) (Or.inl ⟨by rfl, ?_⟩) ?_ ?_
                      rotate_left
                      · intro w'
                        go_simp
                        with_reducible rfl
                      rotate_left
                      · simp only [Act.put, List.setIfInBounds_toArray, List.set_cons_zero, List.set_cons_succ, i64_w, i32_w]
                        rfl
                      refine take_ (i := 6) (N := some 100) (v := ?_) (a' := ?_) #[true, true, true, true, true, true, true, true, false, false, true, true, true, false, true, true, false, false, false, false] rfl rfl (by kernel_rfl) (fun _ _ _ h => h) (Or.inl ⟨by rfl, ?_⟩) hHeld ?_ ?_
                      rotate_left
                      · rintro w' ⟨s0, s1, s2⟩
                        go_simp
                        with_reducible rfl
                      rotate_left
                      · simp only [Act.put, List.setIfInBounds_toArray, List.set_cons_zero, List.set_cons_succ, i64_w, i32_w]
                        rfl
                      refine pure_ (i := 8) (N := some 102) (v := ?_) (a' := ?_) #[true, true, true, true, true, true, true, true, true, false, true, true, true, false, true, true, false, false, false, false] rfl rfl (by kernel_rfl) (fun _ _ _ h => h) (Or.inl ⟨by rfl, ?_⟩) ?_ ?_
                      rotate_left
                      · intro w'
                        go_simp
                        with_reducible rfl
                      rotate_left
                      · simp only [Act.put, List.setIfInBounds_toArray, List.set_cons_zero, List.set_cons_succ, i64_w, i32_w]
                        rfl
                      refine take_ (i := 9) (N := some 103) (v := ?_) (a' := ?_) #[true, true, true, true, true, true, true, true, true, true, true, true, true, false, true, true, false, false, false, false] rfl rfl (by kernel_rfl) (fun _ _ _ h => h) (Or.inl ⟨by rfl, ?_⟩) hHeld ?_ ?_
                      rotate_left
                      · rintro w' ⟨s0, s1, s2⟩
                        go_simp
                        with_reducible rfl
                      rotate_left
                      · simp only [Act.put, List.setIfInBounds_toArray, List.set_cons_zero, List.set_cons_succ, i64_w, i32_w]
                        rfl
                      refine take_ (i := 13) (N := some 107) (v := ?_) (a' := ?_) #[true, true, true, true, true, true, true, true, true, true, true, true, true, true, true, true, false, false, false, false] rfl rfl (by kernel_rfl) (fun _ _ _ h => h) (Or.inl ⟨by rfl, ?_⟩) hHeld ?_ ?_
                      rotate_left
                      · rintro w' ⟨s0, s1, s2⟩
                        go_simp
                        with_reducible rfl
                      rotate_left
                      · simp only [Act.put, List.setIfInBounds_toArray, List.set_cons_zero, List.set_cons_succ, i64_w, i32_w]
                        rfl
                      refine pure_ (i := 16) (N := some 110) (v := ?_) (a' := ?_) #[true, true, true, true, true, true, true, true, true, true, true, true, true, true, true, true, true, false, false, false] rfl rfl (by kernel_rfl) (fun _ _ _ h => h) (Or.inl ⟨by rfl, ?_⟩) ?_ ?_
                      rotate_left
                      · intro w'
                        go_simp
                        with_reducible rfl
                      rotate_left
                      · simp only [Act.put, List.setIfInBounds_toArray, List.set_cons_zero, List.set_cons_succ, i64_w, i32_w]
                        rfl
                      refine take_ (i := 17) (N := some 111) (v := ?_) (a' := ?_) #[true, true, true, true, true, true, true, true, true, true, true, true, true, true, true, true, true, true, false, false] rfl rfl (by kernel_rfl) (fun _ _ _ h => h) (Or.inl ⟨by rfl, ?_⟩) hHeld ?_ ?_
                      rotate_left
                      · rintro w' ⟨s0, s1, s2⟩
                        go_simp
                        with_reducible rfl
                      rotate_left
                      · simp only [Act.put, List.setIfInBounds_toArray, List.set_cons_zero, List.set_cons_succ, i64_w, i32_w]
                        rfl
                      refine pure_ (i := 18) (N := some 112) (v := ?_) (a' := ?_) #[true, true, true, true, true, true, true, true, true, true, true, true, true, true, true, true, true, true, true, false] rfl rfl (by kernel_rfl) (fun _ _ _ h => h) (Or.inl ⟨by rfl, ?_⟩) ?_ ?_
                      rotate_left
                      · intro w'
                        go_simp
                        with_reducible rfl
                      rotate_left
                      · simp only [Act.put, List.setIfInBounds_toArray, List.set_cons_zero, List.set_cons_succ, i64_w, i32_w]
                        rfl
                      refine pure_ (i := 19) (N := some 113) (v := ?_) (a' := ?_) #[true, true, true, true, true, true, true, true, true, true, true, true, true, true, true, true, true, true, true, true] rfl rfl (by kernel_rfl) (fun _ _ _ h => h) (Or.inl ⟨by rfl, ?_⟩) ?_ ?_
                      rotate_left
                      · intro w'
                        go_simp
                        with_reducible rfl
                      rotate_left
                      · simp only [Act.put, List.setIfInBounds_toArray, List.set_cons_zero, List.set_cons_succ, i64_w, i32_w]
                        rfl
                      refine done_ (by kernel_rfl) ?_
                      go_wp2
                      go_meet
                      case rel => exact ⟨by rw [decide_eq_true ⟨ck, HCV.out⟩], ⟨HE.out⟩⟩
                    · have m3 : decide (vk ≤ rd z2.f6 ((k : Int) - 1)) = false := decide_eq_false cv
                      have HCV := Aside0.mk cv
                      clear cv
                      refine start_ (n := 20) (S := fun w' => w'.cell? ⟨bx, 6, none⟩ = some (.slice (some ad) (k + 1) c8) ∧ w'.cell? (ad.add k) = some (.int .i64 vk) ∧ w'.cell? (ad.add (k - 1)) = some (.int .i64 (rd z2.f6 ((k : Int) - 1)))) (ds := []) #[false, false, false, false, false, false, false, false, false, false, false, false, false, false, false, false, false, false, false, false] (by kernel_rfl) rfl rfl ⟨HE.out.cells.2.2.2.1, HZ.out, HZ1.out⟩ (fun hHeld => ?_)
                      refine pure_ (i := 0) (N := some 94) (v := ?_) (a' := ?_) #[true, false, false, false, false, false, false, false, false, false, false, false, false, false, false, false, false, false, false, false] rfl rfl (by kernel_rfl) (fun _ _ _ h => h) (Or.inl ⟨by rfl, ?_⟩) ?_ ?_
                      rotate_left
                      · intro w'
                        go_simp
                        with_reducible rfl
                      rotate_left
                      · simp only [Act.put, List.setIfInBounds_toArray, List.set_cons_zero, List.set_cons_succ, i64_w, i32_w]
                        rfl
                      refine pure_ (i := 1) (N := some 95) (v := ?_) (a' := ?_) #[true, true, false, false, false, false, false, false, false, false, false, false, false, false, false, false, false, false, false, false] rfl rfl (by kernel_rfl) (fun _ _ _ h => h) (Or.inl ⟨by rfl, ?_⟩) ?_ ?_
                      rotate_left
                      · intro w'
                        go_simp
                        with_reducible rfl
                      rotate_left
                      · simp only [Act.put, List.setIfInBounds_toArray, List.set_cons_zero, List.set_cons_succ, i64_w, i32_w]
                        rfl
                      refine pure_ (i := 2) (N := some 96) (v := ?_) (a' := ?_) #[true, true, true, false, false, false, false, false, false, false, false, false, false, false, false, false, false, false, false, false] rfl rfl (by kernel_rfl) (fun _ _ _ h => h) (Or.inl ⟨by rfl, ?_⟩) ?_ ?_
                      rotate_left
                      · intro w'
                        go_simp
                        with_reducible rfl
                      rotate_left
                      · simp only [Act.put, List.setIfInBounds_toArray, List.set_cons_zero, List.set_cons_succ, i64_w, i32_w]
                        rfl
                      refine pure_ (i := 3) (N := some 97) (v := ?_) (a' := ?_) #[true, true, true, true, false, false, false, false, false, false, false, false, false, false, false, false, false, false, false, false] rfl rfl (by kernel_rfl) (fun _ _ _ h => h) (Or.inl ⟨by rfl, ?_⟩) ?_ ?_
                      rotate_left
                      · intro w'
                        go_simp
                        with_reducible rfl
                      rotate_left
                      · simp only [Act.put, List.setIfInBounds_toArray, List.set_cons_zero, List.set_cons_succ, i64_w, i32_w]
                        rfl
                      refine pure_ (i := 4) (N := some 98) (v := ?_) (a' := ?_) #[true, true, true, true, true, false, false, false, false, false, false, false, false, false, false, false, false, false, false, false] rfl rfl (by kernel_rfl) (fun _ _ _ h => h) (Or.inl ⟨by rfl, ?_⟩) ?_ ?_
                      rotate_left
                      · intro w'
                        go_simp
                        with_reducible rfl
                      rotate_left
                      · simp only [Act.put, List.setIfInBounds_toArray, List.set_cons_zero, List.set_cons_succ, i64_w, i32_w]
                        rfl
                      refine pure_ (i := 5) (N := some 99) (v := ?_) (a' := ?_) #[true, true, true, true, true, true, false, false, false, false, false, false, false, false, false, false, false, false, false, false] rfl rfl (by kernel_rfl) (fun _ _ _ h => h) (Or.inl ⟨by rfl, ?_⟩) ?_ ?_
                      rotate_left
                      · intro w'
                        go_simp
                        with_reducible rfl
                      rotate_left
                      · simp only [Act.put, List.setIfInBounds_toArray, List.set_cons_zero, List.set_cons_succ, i64_w, i32_w]
                        rfl
                      refine pure_ (i := 7) (N := some 101) (v := ?_) (a' := ?_) #[true, true, true, true, true, true, false, true, false, false, false, false, false, false, false, false, false, false, false, false] rfl rfl (by kernel_rfl) (fun _ _ _ h => h) (Or.inl ⟨by rfl, ?_⟩) ?_ ?_
                      rotate_left
                      · intro w'
                        go_simp
                        with_reducible rfl
                      rotate_left
                      · simp only [Act.put, List.setIfInBounds_toArray, List.set_cons_zero, List.set_cons_succ, i64_w, i32_w]
                        rfl
                      refine pure_ (i := 10) (N := some 104) (v := ?_) (a' := ?_) #[true, true, true, true, true, true, false, true, false, false, true, false, false, false, false, false, false, false, false, false] rfl rfl (by kernel_rfl) (fun _ _ _ h => h) (Or.inl ⟨by rfl, ?_⟩) ?_ ?_
                      rotate_left
                      · intro w'
                        go_simp
                        with_reducible rfl
                      rotate_left
                      · simp only [Act.put, List.setIfInBounds_toArray, List.set_cons_zero, List.set_cons_succ, i64_w, i32_w]
                        rfl
                      refine pure_ (i := 11) (N := some 105) (v := ?_) (a' := ?_) #[true, true, true, true, true, true, false, true, false, false, true, true, false, false, false, false, false, false, false, false] rfl rfl (by kernel_rfl) (fun _ _ _ h => h) (Or.inl ⟨by rfl, ?_⟩) ?_ ?_
                      rotate_left
                      · intro w'
                        go_simp
                        with_reducible rfl
                      rotate_left
                      · simp only [Act.put, List.setIfInBounds_toArray, List.set_cons_zero, List.set_cons_succ, i64_w, i32_w]
                        rfl
                      refine pure_ (i := 12) (N := some 106) (v := ?_) (a' := ?_) #[true, true, true, true, true, true, false, true, false, false, true, true, true, false, false, false, false, false, false, false] rfl rfl (by kernel_rfl) (fun _ _ _ h => h) (Or.inl ⟨by rfl, ?_⟩) ?_ ?_
                      rotate_left
                      · intro w'
                        go_simp
                        with_reducible rfl
                      rotate_left
                      · simp only [Act.put, List.setIfInBounds_toArray, List.set_cons_zero, List.set_cons_succ, i64_w, i32_w]
                        rfl
                      refine pure_ (i := 14) (N := some 108) (v := ?_) (a' := ?_) #[true, true, true, true, true, true, false, true, false, false, true, true, true, false, true, false, false, false, false, false] rfl rfl (by kernel_rfl) (fun _ _ _ h => h) (Or.inl ⟨by rfl, ?_⟩) ?_ ?_
                      rotate_left
                      · intro w'
                        go_simp
                        with_reducible rfl
                      rotate_left
                      · simp only [Act.put, List.setIfInBounds_toArray, List.set_cons_zero, List.set_cons_succ, i64_w, i32_w]
                        rfl
                      refine pure_ (i := 15) (N := some 109) (v := ?_) (a' := ?_) #[true, true, true, true, true, true, false, true, false, false, true, true, true, false, true, true, false, false, false, false] rfl rfl (by kernel_rfl) (fun _ _ _ h => h) (Or.inl ⟨by rfl, ?_⟩) ?_ ?_
                      rotate_left
                      · intro w'
                        go_simp
                        with_reducible rfl
                      rotate_left
                      · simp only [Act.put, List.setIfInBounds_toArray, List.set_cons_zero, List.set_cons_succ, i64_w, i32_w]
                        rfl
                      refine take_ (i := 6) (N := some 100) (v := ?_) (a' := ?_) #[true, true, true, true, true, true, true, true, false, false, true, true, true, false, true, true, false, false, false, false] rfl rfl (by kernel_rfl) (fun _ _ _ h => h) (Or.inl ⟨by rfl, ?_⟩) hHeld ?_ ?_
                      rotate_left
                      · rintro w' ⟨s0, s1, s2⟩
                        go_simp
                        with_reducible rfl
                      rotate_left
                      · simp only [Act.put, List.setIfInBounds_toArray, List.set_cons_zero, List.set_cons_succ, i64_w, i32_w]
                        rfl
                      refine pure_ (i := 8) (N := some 102) (v := ?_) (a' := ?_) #[true, true, true, true, true, true, true, true, true, false, true, true, true, false, true, true, false, false, false, false] rfl rfl (by kernel_rfl) (fun _ _ _ h => h) (Or.inl ⟨by rfl, ?_⟩) ?_ ?_
                      rotate_left
                      · intro w'
                        go_simp
                        with_reducible rfl
                      rotate_left
                      · simp only [Act.put, List.setIfInBounds_toArray, List.set_cons_zero, List.set_cons_succ, i64_w, i32_w]
                        rfl
                      refine take_ (i := 9) (N := some 103) (v := ?_) (a' := ?_) #[true, true, true, true, true, true, true, true, true, true, true, true, true, false, true, true, false, false, false, false] rfl rfl (by kernel_rfl) (fun _ _ _ h => h) (Or.inl ⟨by rfl, ?_⟩) hHeld ?_ ?_
                      rotate_left
                      · rintro w' ⟨s0, s1, s2⟩
                        go_simp
                        with_reducible rfl
                      rotate_left
                      · simp only [Act.put, List.setIfInBounds_toArray, List.set_cons_zero, List.set_cons_succ, i64_w, i32_w]
                        rfl
                      refine take_ (i := 13) (N := some 107) (v := ?_) (a' := ?_) #[true, true, true, true, true, true, true, true, true, true, true, true, true, true, true, true, false, false, false, false] rfl rfl (by kernel_rfl) (fun _ _ _ h => h) (Or.inl ⟨by rfl, ?_⟩) hHeld ?_ ?_
                      rotate_left
                      · rintro w' ⟨s0, s1, s2⟩
                        go_simp
                        with_reducible rfl
                      rotate_left
                      · simp only [Act.put, List.setIfInBounds_toArray, List.set_cons_zero, List.set_cons_succ, i64_w, i32_w]
                        rfl
                      refine pure_ (i := 16) (N := some 110) (v := ?_) (a' := ?_) #[true, true, true, true, true, true, true, true, true, true, true, true, true, true, true, true, true, false, false, false] rfl rfl (by kernel_rfl) (fun _ _ _ h => h) (Or.inl ⟨by rfl, ?_⟩) ?_ ?_
                      rotate_left
                      · intro w'
                        go_simp
                        with_reducible rfl
                      rotate_left
                      · simp only [Act.put, List.setIfInBounds_toArray, List.set_cons_zero, List.set_cons_succ, i64_w, i32_w]
                        rfl
                      refine take_ (i := 17) (N := some 111) (v := ?_) (a' := ?_) #[true, true, true, true, true, true, true, true, true, true, true, true, true, true, true, true, true, true, false, false] rfl rfl (by kernel_rfl) (fun _ _ _ h => h) (Or.inl ⟨by rfl, ?_⟩) hHeld ?_ ?_
                      rotate_left
                      · rintro w' ⟨s0, s1, s2⟩
                        go_simp
                        with_reducible rfl
                      rotate_left
                      · simp only [Act.put, List.setIfInBounds_toArray, List.set_cons_zero, List.set_cons_succ, i64_w, i32_w]
                        rfl
                      refine pure_ (i := 18) (N := some 112) (v := ?_) (a' := ?_) #[true, true, true, true, true, true, true, true, true, true, true, true, true, true, true, true, true, true, true, false] rfl rfl (by kernel_rfl) (fun _ _ _ h => h) (Or.inl ⟨by rfl, ?_⟩) ?_ ?_
                      rotate_left
                      · intro w'
                        go_simp
                        with_reducible rfl
                      rotate_left
                      · simp only [Act.put, List.setIfInBounds_toArray, List.set_cons_zero, List.set_cons_succ, i64_w, i32_w]
                        rfl
                      refine pure_ (i := 19) (N := some 113) (v := ?_) (a' := ?_) #[true, true, true, true, true, true, true, true, true, true, true, true, true, true, true, true, true, true, true, true] rfl rfl (by kernel_rfl) (fun _ _ _ h => h) (Or.inl ⟨by rfl, ?_⟩) ?_ ?_
                      rotate_left
                      · intro w'
                        go_simp
                        with_reducible rfl
                      rotate_left
                      · simp only [Act.put, List.setIfInBounds_toArray, List.set_cons_zero, List.set_cons_succ, i64_w, i32_w]
                        rfl
                      refine done_ (by kernel_rfl) ?_
                      go_wp2
                      go_meet
                      case rel => exact ⟨by rw [decide_eq_false (fun h => by have h1 := HCV.out; have h2 := h.2; omega)], ⟨HE.out⟩⟩
                  · have m1 : decide ((k : Int) > 0) = false := decide_eq_false (by omega)
                    have m2 : decide (0 < (k : Int)) = false := decide_eq_false (by omega)
                    have m0 : decide (0 < k) = false := decide_eq_false ck
                    refine start_ (n := 20) (S := fun w' => w'.cell? ⟨bx, 6, none⟩ = some (.slice (some ad) (k + 1) c8) ∧ w'.cell? (ad.add k) = some (.int .i64 vk)) (ds := []) #[false, false, false, false, false, false, false, false, false, false, false, false, false, false, false, false, false, false, false, false] (by kernel_rfl) rfl rfl ⟨HE.out.cells.2.2.2.1, HZ.out⟩ (fun hHeld => ?_)
                    refine pure_ (i := 0) (N := some 94) (v := ?_) (a' := ?_) #[true, false, false, false, false, false, false, false, false, false, false, false, false, false, false, false, false, false, false, false] rfl rfl (by kernel_rfl) (fun _ _ _ h => h) (Or.inl ⟨by rfl, ?_⟩) ?_ ?_
                    rotate_left
                    · intro w'
                      go_simp
                      with_reducible rfl
                    rotate_left
                    · simp only [Act.put, List.setIfInBounds_toArray, List.set_cons_zero, List.set_cons_succ, i64_w, i32_w]
                      rfl
                    refine pure_ (i := 1) (N := some 95) (v := ?_) (a' := ?_) #[true, true, false, false, false, false, false, false, false, false, false, false, false, false, false, false, false, false, false, false] rfl rfl (by kernel_rfl) (fun _ _ _ h => h) (Or.inl ⟨by rfl, ?_⟩) ?_ ?_
                    rotate_left
                    · intro w'
                      go_simp
                      with_reducible rfl
                    rotate_left
                    · simp only [Act.put, List.setIfInBounds_toArray, List.set_cons_zero, List.set_cons_succ, i64_w, i32_w]
                      rfl
                    refine pure_ (i := 2) (N := some 96) (v := ?_) (a' := ?_) #[true, true, true, false, false, false, false, false, false, false, false, false, false, false, false, false, false, false, false, false] rfl rfl (by kernel_rfl) (fun _ _ _ h => h) (Or.inl ⟨by rfl, ?_⟩) ?_ ?_
                    rotate_left
                    · intro w'
                      go_simp
                      with_reducible rfl
                    rotate_left
                    · simp only [Act.put, List.setIfInBounds_toArray, List.set_cons_zero, List.set_cons_succ, i64_w, i32_w]
                      rfl
                    refine pure_ (i := 3) (N := some 97) (v := undef) (a' := ?_) #[true, true, true, true, false, false, false, false, false, false, false, false, false, false, false, false, false, false, false, false] rfl rfl (by kernel_rfl) (fun _ _ _ h => h) (Or.inr ⟨by rfl, rfl⟩) ?_ ?_
                    rotate_left
                    · simp only [Act.put, List.setIfInBounds_toArray, List.set_cons_zero, List.set_cons_succ, i64_w, i32_w]
                      rfl
                    refine pure_ (i := 4) (N := some 98) (v := undef) (a' := ?_) #[true, true, true, true, true, false, false, false, false, false, false, false, false, false, false, false, false, false, false, false] rfl rfl (by kernel_rfl) (fun _ _ _ h => h) (Or.inr ⟨by rfl, rfl⟩) ?_ ?_
                    rotate_left
                    · simp only [Act.put, List.setIfInBounds_toArray, List.set_cons_zero, List.set_cons_succ, i64_w, i32_w]
                      rfl
                    refine pure_ (i := 5) (N := some 99) (v := undef) (a' := ?_) #[true, true, true, true, true, true, false, false, false, false, false, false, false, false, false, false, false, false, false, false] rfl rfl (by kernel_rfl) (fun _ _ _ h => h) (Or.inr ⟨by rfl, rfl⟩) ?_ ?_
                    rotate_left
                    · simp only [Act.put, List.setIfInBounds_toArray, List.set_cons_zero, List.set_cons_succ, i64_w, i32_w]
                      rfl
                    refine pure_ (i := 6) (N := some 100) (v := undef) (a' := ?_) #[true, true, true, true, true, true, true, false, false, false, false, false, false, false, false, false, false, false, false, false] rfl rfl (by kernel_rfl) (fun _ _ _ h => h) (Or.inr ⟨by rfl, rfl⟩) ?_ ?_
                    rotate_left
                    · simp only [Act.put, List.setIfInBounds_toArray, List.set_cons_zero, List.set_cons_succ, i64_w, i32_w]
                      rfl
                    refine pure_ (i := 7) (N := some 101) (v := undef) (a' := ?_) #[true, true, true, true, true, true, true, true, false, false, false, false, false, false, false, false, false, false, false, false] rfl rfl (by kernel_rfl) (fun _ _ _ h => h) (Or.inr ⟨by rfl, rfl⟩) ?_ ?_
                    rotate_left
                    · simp only [Act.put, List.setIfInBounds_toArray, List.set_cons_zero, List.set_cons_succ, i64_w, i32_w]
                      rfl
                    refine pure_ (i := 8) (N := some 102) (v := undef) (a' := ?_) #[true, true, true, true, true, true, true, true, true, false, false, false, false, false, false, false, false, false, false, false] rfl rfl (by kernel_rfl) (fun _ _ _ h => h) (Or.inr ⟨by rfl, rfl⟩) ?_ ?_
                    rotate_left
                    · simp only [Act.put, List.setIfInBounds_toArray, List.set_cons_zero, List.set_cons_succ, i64_w, i32_w]
                      rfl
                    refine pure_ (i := 9) (N := some 103) (v := undef) (a' := ?_) #[true, true, true, true, true, true, true, true, true, true, false, false, false, false, false, false, false, false, false, false] rfl rfl (by kernel_rfl) (fun _ _ _ h => h) (Or.inr ⟨by rfl, rfl⟩) ?_ ?_
                    rotate_left
                    · simp only [Act.put, List.setIfInBounds_toArray, List.set_cons_zero, List.set_cons_succ, i64_w, i32_w]
                      rfl
                    refine pure_ (i := 10) (N := some 104) (v := undef) (a' := ?_) #[true, true, true, true, true, true, true, true, true, true, true, false, false, false, false, false, false, false, false, false] rfl rfl (by kernel_rfl) (fun _ _ _ h => h) (Or.inr ⟨by rfl, rfl⟩) ?_ ?_
                    rotate_left
                    · simp only [Act.put, List.setIfInBounds_toArray, List.set_cons_zero, List.set_cons_succ, i64_w, i32_w]
                      rfl
                    refine pure_ (i := 11) (N := some 105) (v := undef) (a' := ?_) #[true, true, true, true, true, true, true, true, true, true, true, true, false, false, false, false, false, false, false, false] rfl rfl (by kernel_rfl) (fun _ _ _ h => h) (Or.inr ⟨by rfl, rfl⟩) ?_ ?_
                    rotate_left
                    · simp only [Act.put, List.setIfInBounds_toArray, List.set_cons_zero, List.set_cons_succ, i64_w, i32_w]
                      rfl
                    refine pure_ (i := 12) (N := some 106) (v := undef) (a' := ?_) #[true, true, true, true, true, true, true, true, true, true, true, true, true, false, false, false, false, false, false, false] rfl rfl (by kernel_rfl) (fun _ _ _ h => h) (Or.inr ⟨by rfl, rfl⟩) ?_ ?_
                    rotate_left
                    · simp only [Act.put, List.setIfInBounds_toArray, List.set_cons_zero, List.set_cons_succ, i64_w, i32_w]
                      rfl
                    refine pure_ (i := 13) (N := some 107) (v := undef) (a' := ?_) #[true, true, true, true, true, true, true, true, true, true, true, true, true, true, false, false, false, false, false, false] rfl rfl (by kernel_rfl) (fun _ _ _ h => h) (Or.inr ⟨by rfl, rfl⟩) ?_ ?_
                    rotate_left
                    · simp only [Act.put, List.setIfInBounds_toArray, List.set_cons_zero, List.set_cons_succ, i64_w, i32_w]
                      rfl
                    refine pure_ (i := 14) (N := some 108) (v := undef) (a' := ?_) #[true, true, true, true, true, true, true, true, true, true, true, true, true, true, true, false, false, false, false, false] rfl rfl (by kernel_rfl) (fun _ _ _ h => h) (Or.inr ⟨by rfl, rfl⟩) ?_ ?_
                    rotate_left
                    · simp only [Act.put, List.setIfInBounds_toArray, List.set_cons_zero, List.set_cons_succ, i64_w, i32_w]
                      rfl
                    refine pure_ (i := 15) (N := some 109) (v := undef) (a' := ?_) #[true, true, true, true, true, true, true, true, true, true, true, true, true, true, true, true, false, false, false, false] rfl rfl (by kernel_rfl) (fun _ _ _ h => h) (Or.inr ⟨by rfl, rfl⟩) ?_ ?_
                    rotate_left
                    · simp only [Act.put, List.setIfInBounds_toArray, List.set_cons_zero, List.set_cons_succ, i64_w, i32_w]
                      rfl
                    refine pure_ (i := 16) (N := some 110) (v := undef) (a' := ?_) #[true, true, true, true, true, true, true, true, true, true, true, true, true, true, true, true, true, false, false, false] rfl rfl (by kernel_rfl) (fun _ _ _ h => h) (Or.inr ⟨by rfl, rfl⟩) ?_ ?_
                    rotate_left
                    · simp only [Act.put, List.setIfInBounds_toArray, List.set_cons_zero, List.set_cons_succ, i64_w, i32_w]
                      rfl
                    refine pure_ (i := 17) (N := some 111) (v := undef) (a' := ?_) #[true, true, true, true, true, true, true, true, true, true, true, true, true, true, true, true, true, true, false, false] rfl rfl (by kernel_rfl) (fun _ _ _ h => h) (Or.inr ⟨by rfl, rfl⟩) ?_ ?_
                    rotate_left
                    · simp only [Act.put, List.setIfInBounds_toArray, List.set_cons_zero, List.set_cons_succ, i64_w, i32_w]
                      rfl
                    refine pure_ (i := 18) (N := some 112) (v := undef) (a' := ?_) #[true, true, true, true, true, true, true, true, true, true, true, true, true, true, true, true, true, true, true, false] rfl rfl (by kernel_rfl) (fun _ _ _ h => h) (Or.inr ⟨by rfl, rfl⟩) ?_ ?_
                    rotate_left
                    · simp only [Act.put, List.setIfInBounds_toArray, List.set_cons_zero, List.set_cons_succ, i64_w, i32_w]
                      rfl
                    refine pure_ (i := 19) (N := some 113) (v := ?_) (a' := ?_) #[true, true, true, true, true, true, true, true, true, true, true, true, true, true, true, true, true, true, true, true] rfl rfl (by kernel_rfl) (fun _ _ _ h => h) (Or.inl ⟨by rfl, ?_⟩) ?_ ?_
                    rotate_left
                    · intro w'
                      go_simp
                      with_reducible rfl
                    rotate_left
                    · simp only [Act.put, List.setIfInBounds_toArray, List.set_cons_zero, List.set_cons_succ, i64_w, i32_w]
                      rfl
                    refine done_ (by kernel_rfl) ?_
                    go_wp2
                    go_meet
                    case rel => exact ⟨by rw [decide_eq_false (fun h => ck h.1)], ⟨HE.out⟩⟩
                case rest =>
                  obtain ⟨rfl, HCU⟩ := hcut
                  clear d0_7 d1_7 d2_7 d3_7 d4_7 d5_7 d6_7
                  clear H7
                  have H8 := HCU
                  obtain ⟨d0_8, d1_8, d2_8, d3_8, d4_8, d5_8, d6_8⟩ := H8.out.cells
                  have HLX := Aside0.mk (show (z3.f7.length + 1) * 8 ≤ 140737488355328 by have := HLN3.out.2; have := HN.out; have := HKN.out; omega)
                  by_cases hc : 0 < k ∧ vk ≤ rd z2.f6 ((k : Int) - 1)
                  · rw [decide_eq_true hc]
                    rw [if_pos hc] at HCD0
                    have HCD := HCD0
                    have HO9 := Aside0.mk (HO7.out.fail 15 z3.f0)
                    clear hc HO7 HCD0
                    as_aux_lemma =>
                    go_upto_region 19 with (first | (go_at_call 97; refine (fail_any w0 _ g s tk 15 z3.f0 H8.out.ri).mono ?_; rintro e9 w9 ⟨rfl, hI9, hk9⟩; have H9 := Aside0.mk (H8.out.rd hI9 hk9); obtain ⟨d0_9, d1_9, d2_9, d3_9, d4_9, d5_9, d6_9⟩ := H9.out.cells; clear hI9 hk9) | go_in)
                    clear d0_8 d1_8 d2_8 d3_8 d4_8 d5_8 d6_8
                    clear H8
                    have HD := Aside0.mk H9.out.drew
                    refine start_ (n := 17) (S := fun w' => w'.cell? ⟨bx, 0, none⟩ = some (.int .i64 z3.f0) ∧ w'.cell? ⟨bx, 7, none⟩ = some v7) (ds := [13, 16]) #[false, false, false, false, false, false, false, false, false, false, false, false, false, false, false, false, false] (by kernel_rfl) rfl rfl ⟨(HD.out).cells.2.1, (HD.out).cells.2.2.2.2.1⟩ (fun hHeld => ?_)
                    refine pure_ (i := 0) (N := some 120) (v := ?_) (a' := ?_) #[true, false, false, false, false, false, false, false, false, false, false, false, false, false, false, false, false] rfl rfl (by kernel_rfl) (fun _ _ _ h => h) (Or.inl ⟨by rfl, ?_⟩) ?_ ?_
                    rotate_left
                    · intro w'
                      go_simp
                      with_reducible rfl
                    rotate_left
                    · simp only [Act.put, List.setIfInBounds_toArray, List.set_cons_zero, List.set_cons_succ, i64_w, i32_w]
                      rfl
                    refine pure_ (i := 1) (N := some 121) (v := ?_) (a' := ?_) #[true, true, false, false, false, false, false, false, false, false, false, false, false, false, false, false, false] rfl rfl (by kernel_rfl) (fun _ _ _ h => h) (Or.inl ⟨by rfl, ?_⟩) ?_ ?_
                    rotate_left
                    · intro w'
                      go_simp
                      with_reducible rfl
                    rotate_left
                    · simp only [Act.put, List.setIfInBounds_toArray, List.set_cons_zero, List.set_cons_succ, i64_w, i32_w]
                      rfl
                    refine pure_ (i := 2) (N := some 122) (v := ?_) (a' := ?_) #[true, true, true, false, false, false, false, false, false, false, false, false, false, false, false, false, false] rfl rfl (by kernel_rfl) (fun _ _ _ h => h) (Or.inl ⟨by rfl, ?_⟩) ?_ ?_
                    rotate_left
                    · intro w'
                      go_simp
                      with_reducible rfl
                    rotate_left
                    · simp only [Act.put, List.setIfInBounds_toArray, List.set_cons_zero, List.set_cons_succ, i64_w, i32_w]
                      rfl
                    refine pure_ (i := 3) (N := some 123) (v := ?_) (a' := ?_) #[true, true, true, true, false, false, false, false, false, false, false, false, false, false, false, false, false] rfl rfl (by kernel_rfl) (fun _ _ _ h => h) (Or.inl ⟨by rfl, ?_⟩) ?_ ?_
                    rotate_left
                    · intro w'
                      go_simp
                      with_reducible rfl
                    rotate_left
                    · simp only [Act.put, List.setIfInBounds_toArray, List.set_cons_zero, List.set_cons_succ, i64_w, i32_w]
                      rfl
                    refine pure_ (i := 5) (N := some 125) (v := ?_) (a' := ?_) #[true, true, true, true, false, true, false, false, false, false, false, false, false, false, false, false, false] rfl rfl (by kernel_rfl) (fun _ _ _ h => h) (Or.inl ⟨by rfl, ?_⟩) ?_ ?_
                    rotate_left
                    · intro w'
                      go_simp
                      with_reducible rfl
                    rotate_left
                    · simp only [Act.put, List.setIfInBounds_toArray, List.set_cons_zero, List.set_cons_succ, i64_w, i32_w]
                      rfl
                    refine pure_ (i := 6) (N := some 126) (v := ?_) (a' := ?_) #[true, true, true, true, false, true, true, false, false, false, false, false, false, false, false, false, false] rfl rfl (by kernel_rfl) (fun _ _ _ h => h) (Or.inl ⟨by rfl, ?_⟩) ?_ ?_
                    rotate_left
                    · intro w'
                      go_simp
                      with_reducible rfl
                    rotate_left
                    · simp only [Act.put, List.setIfInBounds_toArray, List.set_cons_zero, List.set_cons_succ, i64_w, i32_w]
                      rfl
                    refine pure_ (i := 7) (N := some 127) (v := ?_) (a' := ?_) #[true, true, true, true, false, true, true, true, false, false, false, false, false, false, false, false, false] rfl rfl (by kernel_rfl) (fun _ _ _ h => h) (Or.inl ⟨by rfl, ?_⟩) ?_ ?_
                    rotate_left
                    · intro w'
                      go_simp
                      with_reducible rfl
                    rotate_left
                    · simp only [Act.put, List.setIfInBounds_toArray, List.set_cons_zero, List.set_cons_succ, i64_w, i32_w]
                      rfl
                    refine pure_ (i := 9) (N := some 129) (v := ?_) (a' := ?_) #[true, true, true, true, false, true, true, true, false, true, false, false, false, false, false, false, false] rfl rfl (by kernel_rfl) (fun _ _ _ h => h) (Or.inl ⟨by rfl, ?_⟩) ?_ ?_
                    rotate_left
                    · intro w'
                      go_simp
                      with_reducible rfl
                    rotate_left
                    · simp only [Act.put, List.setIfInBounds_toArray, List.set_cons_zero, List.set_cons_succ, i64_w, i32_w]
                      rfl
                    refine take_ (i := 4) (N := some 124) (v := ?_) (a' := ?_) #[true, true, true, true, true, true, true, true, false, true, false, false, false, false, false, false, false] rfl rfl (by kernel_rfl) (fun _ _ _ h => h) (Or.inl ⟨by rfl, ?_⟩) hHeld ?_ ?_
                    rotate_left
                    · rintro w' ⟨s0, s1⟩
                      go_simp
                      with_reducible rfl
                    rotate_left
                    · simp only [Act.put, List.setIfInBounds_toArray, List.set_cons_zero, List.set_cons_succ, i64_w, i32_w]
                      rfl
                    refine take_ (i := 8) (N := some 128) (v := ?_) (a' := ?_) #[true, true, true, true, true, true, true, true, true, true, false, false, false, false, false, false, false] rfl rfl (by kernel_rfl) (fun _ _ _ h => h) (Or.inl ⟨by rfl, ?_⟩) hHeld ?_ ?_
                    rotate_left
                    · rintro w' ⟨s0, s1⟩
                      go_simp
                      with_reducible rfl
                    rotate_left
                    · simp only [Act.put, List.setIfInBounds_toArray, List.set_cons_zero, List.set_cons_succ, i64_w, i32_w]
                      rfl
                    refine one_ (i := 10) (N := some 130) #[true, true, true, true, true, true, true, true, true, true, true, false, false, false, false, false, false] rfl rfl (by kernel_rfl) (by decide) (fun K hK => ?_)
                    refine goes_ Try.func127 (by kernel_rfl) rfl #[.pointer (some ⟨g, 0, none⟩), .int .i64 4] (by rfl) rfl rfl (by simp only [List.map_toArray, List.map_cons, List.map_nil]; rfl) ?_
                    with_reducible refine (signed_d w0 _ g s (failR tk 15 z3.f0) 4 4 rfl (.inr (.inr rfl)) HO9.out HD.out.ri).mono ?_
                    rintro e10 w10 ⟨rfl, hI10, hk10⟩
                    refine ⟨_, rfl, ?_⟩
                    have HQ := Aside0.mk (HD.out.rd hI10 hk10)
                    clear hI10 hk10
                    refine hK.out _ _ ⟨(HQ.out).cells.2.1, (HQ.out).cells.2.2.2.2.1⟩ (fun hHeld => ?_)
                    clear hK K
                    refine norm_ (a' := ?_) ?_ ?_
                    rotate_left
                    · show Act.put _ (some 130) _ = _
                      simp only [Act.put, List.setIfInBounds_toArray, List.set_cons_zero, List.set_cons_succ, i64_w, i32_w]
                      rfl
                    refine pure_ (i := 11) (N := some 131) (v := ?_) (a' := ?_) #[true, true, true, true, true, true, true, true, true, true, true, true, false, false, false, false, false] rfl rfl (by kernel_rfl) (fun _ _ _ h => h) (Or.inl ⟨by rfl, ?_⟩) ?_ ?_
                    rotate_left
                    · intro w'
                      go_simp
                      with_reducible rfl
                    rotate_left
                    · simp only [Act.put, List.setIfInBounds_toArray, List.set_cons_zero, List.set_cons_succ, i64_w, i32_w]
                      rfl
                    refine one_ (i := 12) (N := some 132) #[true, true, true, true, true, true, true, true, true, true, true, true, true, false, false, false, false] rfl rfl (by kernel_rfl) (by decide) (fun K hK => ?_)
                    refine value_ (w1 := ?_) (v := ?_) (by rfl) rfl ?_ ?_
                    rotate_left 2
                    · go_simp
                      constructor
                      · rfl
                      · rfl
                    refine hK.out _ _ ⟨(pw_cell_below (below_alloc (Below.refl _ _) _) (HQ.out).cells.2.1), (pw_cell_below (below_alloc (Below.refl _ _) _) (HQ.out).cells.2.2.2.2.1)⟩ (fun hHeld => ?_)
                    clear hK K
                    refine norm_ (a' := ?_) ?_ ?_
                    rotate_left
                    · show Act.put _ (some 132) _ = _
                      simp only [Act.put, List.setIfInBounds_toArray, List.set_cons_zero, List.set_cons_succ, i64_w, i32_w]
                      rfl
                    refine last_ (i := 13) (N := some 133) #[true, true, true, true, true, true, true, true, true, true, true, true, true, true, false, false, false] rfl rfl (by kernel_rfl) (by decide) (fun K hK => ?_)
                    refine Kd.R_append_step (Kd.int .i64) (w0 := w10) w.heap.size (by rfl) (.tmp 124) (.tmp 132) 22 3 (.int .i64 0) 8 rfl Try.underlying22 infoInt rfl (by decide) (by omega) v7 z3.f7 (wrap64 (z3.f0 + (sgnR s (failR tk 15 z3.f0) 4).1)) [.int .i64 (wrap64 (z3.f0 + (sgnR s (failR tk 15 z3.f0) 4).1))] (fun _ => True) (fun _ => False) rfl rfl rfl (fun _ h => h.elim) (fun _ _ => trivial) HQ.out.r7 (Below.refl _ _) HQ.out.kept.1 HLX.out ?_
                    intro v7' w7' hr7 hb7 hg7 hat7
                    obtain ⟨A8, c8, hv8⟩ := Kd.R_slice hr7
                    simp only [List.length_append, List.length_cons, List.length_nil, Nat.zero_add] at hv8
                    subst hv8
                    refine hK.out _ _ ?_
                    clear hK K
                    refine norm_ (a' := ?_) ?_ ?_
                    rotate_left
                    · show Act.put _ (some 133) _ = _
                      simp only [Act.put, List.setIfInBounds_toArray, List.set_cons_zero, List.set_cons_succ, i64_w, i32_w]
                      rfl
                    refine pure_ (i := 14) (N := some 134) (v := ?_) (a' := ?_) #[true, true, true, true, true, true, true, true, true, true, true, true, true, true, true, false, false] rfl rfl (by kernel_rfl) (fun _ _ _ h => h) (Or.inl ⟨by rfl, ?_⟩) ?_ ?_
                    rotate_left
                    · intro w'
                      go_simp
                      with_reducible rfl
                    rotate_left
                    · simp only [Act.put, List.setIfInBounds_toArray, List.set_cons_zero, List.set_cons_succ, i64_w, i32_w]
                      rfl
                    refine pure_ (i := 15) (N := some 135) (v := ?_) (a' := ?_) #[true, true, true, true, true, true, true, true, true, true, true, true, true, true, true, true, false] rfl rfl (by kernel_rfl) (fun _ _ _ h => h) (Or.inl ⟨by rfl, ?_⟩) ?_ ?_
                    rotate_left
                    · intro w'
                      go_simp
                      with_reducible rfl
                    rotate_left
                    · simp only [Act.put, List.setIfInBounds_toArray, List.set_cons_zero, List.set_cons_succ, i64_w, i32_w]
                      rfl
                    refine last_ (i := 16) (N := none) #[true, true, true, true, true, true, true, true, true, true, true, true, true, true, true, true, true] rfl rfl (by kernel_rfl) (by decide) (fun K hK => ?_)
                    have cg7 := HQ.out.grown7 hg7
                    have ca7 := cg7.1
                    have cf7 := cg7.2
                    refine skip_ (w1 := ?_) (by rfl) rfl ?_ ?_
                    rotate_left
                    · go_simp
                      rfl
                    refine hK.out _ _ ?_
                    clear hK K
                    refine done_ (by kernel_rfl) ?_
                    have H11 := Aside0.mk (HQ.out.put7 (Below.refl _ _) hg7 hr7 hat7 HWW.out)
                    clear HQ HD H9 ca7 cf7 cg7 hg7 hat7 hb7 hr7
                    try clear hHeld
                    go_wp2
                    go_roundw
                    case rel => exact ⟨k + 1, r2, _, _, _, _, by have := HKR.out; omega, by first | exact WN.out | exact WI.out, H11, ⟨HO9.out.sgn 4⟩, ⟨HLN3.out.1, by rw [List.length_append, HLN3.out.2]; rfl⟩, HCD⟩
                    case measure => exact ms_valD HKN.out WN.out
                  · rw [decide_eq_false hc]
                    rw [if_neg hc] at HCD0
                    have HCD := HCD0
                    have HO9 := HO7
                    have H9 := H8
                    clear hc HO7 HCD0
                    as_aux_lemma =>
                    go_upto_region 19 with (fail)
                    clear d0_8 d1_8 d2_8 d3_8 d4_8 d5_8 d6_8
                    clear H8
                    have HD := Aside0.mk H9.out.drew
                    refine start_ (n := 17) (S := fun w' => w'.cell? ⟨bx, 0, none⟩ = some (.int .i64 z3.f0) ∧ w'.cell? ⟨bx, 7, none⟩ = some v7) (ds := [13, 16]) #[false, false, false, false, false, false, false, false, false, false, false, false, false, false, false, false, false] (by kernel_rfl) rfl rfl ⟨(HD.out).cells.2.1, (HD.out).cells.2.2.2.2.1⟩ (fun hHeld => ?_)
                    refine pure_ (i := 0) (N := some 120) (v := ?_) (a' := ?_) #[true, false, false, false, false, false, false, false, false, false, false, false, false, false, false, false, false] rfl rfl (by kernel_rfl) (fun _ _ _ h => h) (Or.inl ⟨by rfl, ?_⟩) ?_ ?_
                    rotate_left
                    · intro w'
                      go_simp
                      with_reducible rfl
                    rotate_left
                    · simp only [Act.put, List.setIfInBounds_toArray, List.set_cons_zero, List.set_cons_succ, i64_w, i32_w]
                      rfl
                    refine pure_ (i := 1) (N := some 121) (v := ?_) (a' := ?_) #[true, true, false, false, false, false, false, false, false, false, false, false, false, false, false, false, false] rfl rfl (by kernel_rfl) (fun _ _ _ h => h) (Or.inl ⟨by rfl, ?_⟩) ?_ ?_
                    rotate_left
                    · intro w'
                      go_simp
                      with_reducible rfl
                    rotate_left
                    · simp only [Act.put, List.setIfInBounds_toArray, List.set_cons_zero, List.set_cons_succ, i64_w, i32_w]
                      rfl
                    refine pure_ (i := 2) (N := some 122) (v := ?_) (a' := ?_) #[true, true, true, false, false, false, false, false, false, false, false, false, false, false, false, false, false] rfl rfl (by kernel_rfl) (fun _ _ _ h => h) (Or.inl ⟨by rfl, ?_⟩) ?_ ?_
                    rotate_left
                    · intro w'
                      go_simp
                      with_reducible rfl
                    rotate_left
                    · simp only [Act.put, List.setIfInBounds_toArray, List.set_cons_zero, List.set_cons_succ, i64_w, i32_w]
                      rfl
                    refine pure_ (i := 3) (N := some 123) (v := ?_) (a' := ?_) #[true, true, true, true, false, false, false, false, false, false, false, false, false, false, false, false, false] rfl rfl (by kernel_rfl) (fun _ _ _ h => h) (Or.inl ⟨by rfl, ?_⟩) ?_ ?_
                    rotate_left
                    · intro w'
                      go_simp
                      with_reducible rfl
                    rotate_left
                    · simp only [Act.put, List.setIfInBounds_toArray, List.set_cons_zero, List.set_cons_succ, i64_w, i32_w]
                      rfl
                    refine pure_ (i := 5) (N := some 125) (v := ?_) (a' := ?_) #[true, true, true, true, false, true, false, false, false, false, false, false, false, false, false, false, false] rfl rfl (by kernel_rfl) (fun _ _ _ h => h) (Or.inl ⟨by rfl, ?_⟩) ?_ ?_
                    rotate_left
                    · intro w'
                      go_simp
                      with_reducible rfl
                    rotate_left
                    · simp only [Act.put, List.setIfInBounds_toArray, List.set_cons_zero, List.set_cons_succ, i64_w, i32_w]
                      rfl
                    refine pure_ (i := 6) (N := some 126) (v := ?_) (a' := ?_) #[true, true, true, true, false, true, true, false, false, false, false, false, false, false, false, false, false] rfl rfl (by kernel_rfl) (fun _ _ _ h => h) (Or.inl ⟨by rfl, ?_⟩) ?_ ?_
                    rotate_left
                    · intro w'
                      go_simp
                      with_reducible rfl
                    rotate_left
                    · simp only [Act.put, List.setIfInBounds_toArray, List.set_cons_zero, List.set_cons_succ, i64_w, i32_w]
                      rfl
                    refine pure_ (i := 7) (N := some 127) (v := ?_) (a' := ?_) #[true, true, true, true, false, true, true, true, false, false, false, false, false, false, false, false, false] rfl rfl (by kernel_rfl) (fun _ _ _ h => h) (Or.inl ⟨by rfl, ?_⟩) ?_ ?_
                    rotate_left
                    · intro w'
                      go_simp
                      with_reducible rfl
                    rotate_left
                    · simp only [Act.put, List.setIfInBounds_toArray, List.set_cons_zero, List.set_cons_succ, i64_w, i32_w]
                      rfl
                    refine pure_ (i := 9) (N := some 129) (v := ?_) (a' := ?_) #[true, true, true, true, false, true, true, true, false, true, false, false, false, false, false, false, false] rfl rfl (by kernel_rfl) (fun _ _ _ h => h) (Or.inl ⟨by rfl, ?_⟩) ?_ ?_
                    rotate_left
                    · intro w'
                      go_simp
                      with_reducible rfl
                    rotate_left
                    · simp only [Act.put, List.setIfInBounds_toArray, List.set_cons_zero, List.set_cons_succ, i64_w, i32_w]
                      rfl
                    refine take_ (i := 4) (N := some 124) (v := ?_) (a' := ?_) #[true, true, true, true, true, true, true, true, false, true, false, false, false, false, false, false, false] rfl rfl (by kernel_rfl) (fun _ _ _ h => h) (Or.inl ⟨by rfl, ?_⟩) hHeld ?_ ?_
                    rotate_left
                    · rintro w' ⟨s0, s1⟩
                      go_simp
                      with_reducible rfl
                    rotate_left
                    · simp only [Act.put, List.setIfInBounds_toArray, List.set_cons_zero, List.set_cons_succ, i64_w, i32_w]
                      rfl
                    refine take_ (i := 8) (N := some 128) (v := ?_) (a' := ?_) #[true, true, true, true, true, true, true, true, true, true, false, false, false, false, false, false, false] rfl rfl (by kernel_rfl) (fun _ _ _ h => h) (Or.inl ⟨by rfl, ?_⟩) hHeld ?_ ?_
                    rotate_left
                    · rintro w' ⟨s0, s1⟩
                      go_simp
                      with_reducible rfl
                    rotate_left
                    · simp only [Act.put, List.setIfInBounds_toArray, List.set_cons_zero, List.set_cons_succ, i64_w, i32_w]
                      rfl
                    refine one_ (i := 10) (N := some 130) #[true, true, true, true, true, true, true, true, true, true, true, false, false, false, false, false, false] rfl rfl (by kernel_rfl) (by decide) (fun K hK => ?_)
                    refine goes_ Try.func127 (by kernel_rfl) rfl #[.pointer (some ⟨g, 0, none⟩), .int .i64 4] (by rfl) rfl rfl (by simp only [List.map_toArray, List.map_cons, List.map_nil]; rfl) ?_
                    with_reducible refine (signed_d w0 _ g s tk 4 4 rfl (.inr (.inr rfl)) HO9.out HD.out.ri).mono ?_
                    rintro e10 w10 ⟨rfl, hI10, hk10⟩
                    refine ⟨_, rfl, ?_⟩
                    have HQ := Aside0.mk (HD.out.rd hI10 hk10)
                    clear hI10 hk10
                    refine hK.out _ _ ⟨(HQ.out).cells.2.1, (HQ.out).cells.2.2.2.2.1⟩ (fun hHeld => ?_)
                    clear hK K
                    refine norm_ (a' := ?_) ?_ ?_
                    rotate_left
                    · show Act.put _ (some 130) _ = _
                      simp only [Act.put, List.setIfInBounds_toArray, List.set_cons_zero, List.set_cons_succ, i64_w, i32_w]
                      rfl
                    refine pure_ (i := 11) (N := some 131) (v := ?_) (a' := ?_) #[true, true, true, true, true, true, true, true, true, true, true, true, false, false, false, false, false] rfl rfl (by kernel_rfl) (fun _ _ _ h => h) (Or.inl ⟨by rfl, ?_⟩) ?_ ?_
                    rotate_left
                    · intro w'
                      go_simp
                      with_reducible rfl
                    rotate_left
                    · simp only [Act.put, List.setIfInBounds_toArray, List.set_cons_zero, List.set_cons_succ, i64_w, i32_w]
                      rfl
                    refine one_ (i := 12) (N := some 132) #[true, true, true, true, true, true, true, true, true, true, true, true, true, false, false, false, false] rfl rfl (by kernel_rfl) (by decide) (fun K hK => ?_)
                    refine value_ (w1 := ?_) (v := ?_) (by rfl) rfl ?_ ?_
                    rotate_left 2
                    · go_simp
                      constructor
                      · rfl
                      · rfl
                    refine hK.out _ _ ⟨(pw_cell_below (below_alloc (Below.refl _ _) _) (HQ.out).cells.2.1), (pw_cell_below (below_alloc (Below.refl _ _) _) (HQ.out).cells.2.2.2.2.1)⟩ (fun hHeld => ?_)
                    clear hK K
                    refine norm_ (a' := ?_) ?_ ?_
                    rotate_left
                    · show Act.put _ (some 132) _ = _
                      simp only [Act.put, List.setIfInBounds_toArray, List.set_cons_zero, List.set_cons_succ, i64_w, i32_w]
                      rfl
                    refine last_ (i := 13) (N := some 133) #[true, true, true, true, true, true, true, true, true, true, true, true, true, true, false, false, false] rfl rfl (by kernel_rfl) (by decide) (fun K hK => ?_)
                    refine Kd.R_append_step (Kd.int .i64) (w0 := w10) w.heap.size (by rfl) (.tmp 124) (.tmp 132) 22 3 (.int .i64 0) 8 rfl Try.underlying22 infoInt rfl (by decide) (by omega) v7 z3.f7 (wrap64 (z3.f0 + (sgnR s tk 4).1)) [.int .i64 (wrap64 (z3.f0 + (sgnR s tk 4).1))] (fun _ => True) (fun _ => False) rfl rfl rfl (fun _ h => h.elim) (fun _ _ => trivial) HQ.out.r7 (Below.refl _ _) HQ.out.kept.1 HLX.out ?_
                    intro v7' w7' hr7 hb7 hg7 hat7
                    obtain ⟨A8, c8, hv8⟩ := Kd.R_slice hr7
                    simp only [List.length_append, List.length_cons, List.length_nil, Nat.zero_add] at hv8
                    subst hv8
                    refine hK.out _ _ ?_
                    clear hK K
                    refine norm_ (a' := ?_) ?_ ?_
                    rotate_left
                    · show Act.put _ (some 133) _ = _
                      simp only [Act.put, List.setIfInBounds_toArray, List.set_cons_zero, List.set_cons_succ, i64_w, i32_w]
                      rfl
                    refine pure_ (i := 14) (N := some 134) (v := ?_) (a' := ?_) #[true, true, true, true, true, true, true, true, true, true, true, true, true, true, true, false, false] rfl rfl (by kernel_rfl) (fun _ _ _ h => h) (Or.inl ⟨by rfl, ?_⟩) ?_ ?_
                    rotate_left
                    · intro w'
                      go_simp
                      with_reducible rfl
                    rotate_left
                    · simp only [Act.put, List.setIfInBounds_toArray, List.set_cons_zero, List.set_cons_succ, i64_w, i32_w]
                      rfl
                    refine pure_ (i := 15) (N := some 135) (v := ?_) (a' := ?_) #[true, true, true, true, true, true, true, true, true, true, true, true, true, true, true, true, false] rfl rfl (by kernel_rfl) (fun _ _ _ h => h) (Or.inl ⟨by rfl, ?_⟩) ?_ ?_
                    rotate_left
                    · intro w'
                      go_simp
                      with_reducible rfl
                    rotate_left
                    · simp only [Act.put, List.setIfInBounds_toArray, List.set_cons_zero, List.set_cons_succ, i64_w, i32_w]
                      rfl
                    refine last_ (i := 16) (N := none) #[true, true, true, true, true, true, true, true, true, true, true, true, true, true, true, true, true] rfl rfl (by kernel_rfl) (by decide) (fun K hK => ?_)
                    have cg7 := HQ.out.grown7 hg7
                    have ca7 := cg7.1
                    have cf7 := cg7.2
                    refine skip_ (w1 := ?_) (by rfl) rfl ?_ ?_
                    rotate_left
                    · go_simp
                      rfl
                    refine hK.out _ _ ?_
                    clear hK K
                    refine done_ (by kernel_rfl) ?_
                    have H11 := Aside0.mk (HQ.out.put7 (Below.refl _ _) hg7 hr7 hat7 HWW.out)
                    clear HQ HD H9 ca7 cf7 cg7 hg7 hat7 hb7 hr7
                    try clear hHeld
                    go_wp2
                    go_roundw
                    case rel => exact ⟨k + 1, r2, _, _, _, _, by have := HKR.out; omega, by first | exact WN.out | exact WI.out, H11, ⟨HO9.out.sgn 4⟩, ⟨HLN3.out.1, by rw [List.length_append, HLN3.out.2]; rfl⟩, HCD⟩
                    case measure => exact ms_valD HKN.out WN.out
              · rw [decide_eq_false hc]
                have HE : Aside0 (choD s x 11 t = (z2, (aa, er, es))) := ⟨by
                  rw [HC.out]
                  cases r with
                  | zero => rfl
                  | succ r => rw [rowsD, if_pos (fun h => hc ⟨by omega, h⟩)]⟩
                clear hc
                as_aux_lemma =>
                go_wp2
                go_end0
                rw [HE.out]
                exact ⟨rfl, _, _, H4.out⟩
end Go.Proofs.Ytfnjbmpolggdeaa.CD.RR
end
section
namespace Go.Proofs.Ytfnjbmpolggdeaa.CD
open Go.RowKit Go.Proofs.YtfnjbmpolggdeaaW.PrintWords Go.Proofs.YtfnjbmpolggdeaaW.PrintLast Go.Proofs.YtfnjbmpolggdeaaW.PrintMore
attribute [local go_sem] max2_int min2_int max_two min_two max_three min_three max_four min_four   -- for this text's walks alone
set_option linter.unusedVariables false
set_option linter.unusedSimpArgs false
def jvmcoreref2_form.f (a0 : Int) : Option (ByteArray) := if a0 ≥ 201 then (some (⟨#[120]⟩ : ByteArray)) else (if 0 ≤ a0 then (if a0 ≤ (wrap64 (a0 + 1)) then (if (wrap64 (a0 + 1)) ≤ 201 then (some ((⟨#[46, 46, 46, 46, 46, 46, 46, 46, 46, 46, 46, 46, 46, 46, 46, 46, 98, 115, 99, 105, 105, 108, 108, 108, 108, 108, 46, 46, 46, 46, 46, 46, 46, 46, 46, 46, 46, 46, 46, 46, 46, 46, 46, 46, 46, 46, 46, 46, 46, 46, 46, 46, 46, 46, 108, 108, 108, 108, 108, 46, 46, 46, 46, 46, 46, 46, 46, 46, 46, 46, 46, 46, 46, 46, 46, 46, 46, 46, 46, 46, 46, 46, 46, 46, 46, 46, 46, 46, 46, 46, 46, 46, 46, 46, 46, 46, 46, 46, 46, 46, 46, 46, 46, 46, 46, 46, 46, 46, 46, 46, 46, 46, 46, 46, 46, 46, 46, 46, 46, 46, 46, 46, 46, 46, 46, 46, 46, 46, 46, 46, 46, 46, 110, 46, 46, 46, 46, 46, 46, 46, 46, 46, 46, 46, 46, 46, 46, 46, 46, 46, 46, 46, 46, 106, 106, 106, 106, 106, 106, 106, 106, 106, 106, 106, 106, 106, 106, 106, 120, 120, 116, 107, 46, 46, 46, 46, 46, 46, 105, 105, 105, 105, 105, 105, 105, 102, 120, 105, 97, 105, 46, 46, 105, 105, 46, 46, 119, 109, 106, 106, 74]⟩ : ByteArray).extract (a0 : Int).toNat ((wrap64 (a0 + 1)) : Int).toNat)) else (none)) else (none)) else (none))
set_option maxHeartbeats 8000000 in
set_option maxRecDepth 100000 in
theorem jvmcoreref2_form.calls (a0 : Int) (r : ByteArray) (w : World) (h : jvmcoreref2_form.f a0 = some r) :
    Calls Try.prog 80 #[.int .i64 a0] w fun e w' => e = .returned (.string r) ∧ Drawn0 w w' := by
  have H : (if a0 ≥ 201 then (some (⟨#[120]⟩ : ByteArray)) else (if 0 ≤ a0 then (if a0 ≤ (wrap64 (a0 + 1)) then (if (wrap64 (a0 + 1)) ≤ 201 then (some ((⟨#[46, 46, 46, 46, 46, 46, 46, 46, 46, 46, 46, 46, 46, 46, 46, 46, 98, 115, 99, 105, 105, 108, 108, 108, 108, 108, 46, 46, 46, 46, 46, 46, 46, 46, 46, 46, 46, 46, 46, 46, 46, 46, 46, 46, 46, 46, 46, 46, 46, 46, 46, 46, 46, 46, 108, 108, 108, 108, 108, 46, 46, 46, 46, 46, 46, 46, 46, 46, 46, 46, 46, 46, 46, 46, 46, 46, 46, 46, 46, 46, 46, 46, 46, 46, 46, 46, 46, 46, 46, 46, 46, 46, 46, 46, 46, 46, 46, 46, 46, 46, 46, 46, 46, 46, 46, 46, 46, 46, 46, 46, 46, 46, 46, 46, 46, 46, 46, 46, 46, 46, 46, 46, 46, 46, 46, 46, 46, 46, 46, 46, 46, 46, 110, 46, 46, 46, 46, 46, 46, 46, 46, 46, 46, 46, 46, 46, 46, 46, 46, 46, 46, 46, 46, 106, 106, 106, 106, 106, 106, 106, 106, 106, 106, 106, 106, 106, 106, 106, 120, 120, 116, 107, 46, 46, 46, 46, 46, 46, 105, 105, 105, 105, 105, 105, 105, 102, 120, 105, 97, 105, 46, 46, 105, 105, 46, 46, 119, 109, 106, 106, 74]⟩ : ByteArray).extract (a0 : Int).toNat ((wrap64 (a0 + 1)) : Int).toNat)) else (none)) else (none)) else (none))) = some r := h
  clear h
  by_cases c2 : a0 ≥ 201
  · rw [if_pos c2] at H
    have c2b0 : decide (201 ≤ a0) = true := decide_eq_true c2
    clear c2
    obtain rfl := Option.some.inj H
    go_enter Try.func80, Try.ntmps80
    go_wp2
    go_ret
    exact ⟨by first | rfl | (simp; done) | (simp [*]; done), by repeat (first | exact Drawn0.refl _ | apply Drawn0.step)⟩
  · rw [if_neg c2] at H
    have c2b0 : decide (201 ≤ a0) = false := decide_eq_false c2
    clear c2
    by_cases c3 : 0 ≤ a0
    · rw [if_pos c3] at H
      have c3b0 := eq_true c3
      have c3b1 : decide (0 ≤ a0) = true := decide_eq_true c3
      clear c3
      by_cases c4 : a0 ≤ (wrap64 (a0 + 1))
      · rw [if_pos c4] at H
        have c4b0 := eq_true c4
        have c4b1 : decide (a0 ≤ (wrap64 (a0 + 1))) = true := decide_eq_true c4
        by_cases c5 : (wrap64 (a0 + 1)) ≤ 201
        · rw [if_pos c5] at H
          have c5b0 := eq_true c5
          have c5b1 : decide ((wrap64 (a0 + 1)) ≤ 201) = true := decide_eq_true c5
          obtain rfl := Option.some.inj H
          go_enter Try.func80, Try.ntmps80
          go_wp2
          go_ret
          exact ⟨by first | rfl | (simp; done) | (simp [*]; done), by repeat (first | exact Drawn0.refl _ | apply Drawn0.step)⟩
        · rw [if_neg c5] at H
          exact absurd H (by simp)
      · rw [if_neg c4] at H
        exact absurd H (by simp)
    · rw [if_neg c3] at H
      exact absurd H (by simp)
end Go.Proofs.Ytfnjbmpolggdeaa.CD
end
section
namespace Go.Proofs.Ytfnjbmpolggdeaa.CD.RR
open Go.RowKit Go.Lib Go.Proofs.YtfnjbmpolggdeaaW.PrintWords Go.Proofs.YtfnjbmpolggdeaaW.PrintLast Go.Proofs.YtfnjbmpolggdeaaW.PrintMore
set_option linter.unusedVariables false
set_option linter.unusedSimpArgs false
def letterN (f : Int) : UInt8 := if f = 0 then 46 else if f = 1 then 120 else if f = 2 then 98 else if f = 3 then 115 else if f = 4 then 99 else if f = 5 then 105 else if f = 6 then 108 else if f = 7 then 110 else if f = 8 then 106 else if f = 9 then 74 else
  if f = 10 then 116 else if f = 11 then 107 else if f = 12 then 102 else if f = 13 then 97 else if f = 14 then 109 else 119
def letter (f : Int) : ByteArray := ⟨#[letterN f]⟩
theorem formS_all : ∀ n : Fin 256, jvmcoreref2_form.f ((n.val : Nat) : Int) = some (letter (formF ((n.val : Nat) : Int))) := by decide +kernel
theorem formS_at (x : Int) (h : 0 ≤ x ∧ x < 256) : jvmcoreref2_form.f x = some (letter (formF x)) := by
  have := formS_all ⟨x.toNat, by omega⟩
  simpa [Int.toNat_of_nonneg h.1] using this
theorem letter_all : ∀ a b : Fin 16, a ≠ b → ((letter ((a.val : Nat) : Int)).toList == (letter ((b.val : Nat) : Int)).toList) = false := by decide +kernel
theorem letter_ne (f g : Int) (c : UInt8) (hf : 0 ≤ f ∧ f ≤ 15) (hg : 0 ≤ g ∧ g ≤ 15) (hc : (letter g).toList = [c]) (h : f ≠ g) : ((letter f).toList == ([c] : List UInt8)) = false := by
  rw [← hc]
  have := letter_all ⟨f.toNat, by omega⟩ ⟨g.toNat, by omega⟩ (by intro e; have := congrArg Fin.val e; simp only at this; omega)
  simpa [Int.toNat_of_nonneg hf.1, Int.toNat_of_nonneg hg.1] using this
structure OS (w0 w W : World) (g : Nat) (s : ByteArray) (t : RdS) (bx : Nat) (x : S82) (v6 v7 : Value) : Prop where
  cs : CS w0 w W g s t bx x v6 v7
  res : W.heap[w.heap.size]? = some (.cells #[.int .i64 0, .int .u8 0, .bool false, .int .i64 0, .int .i64 0, .int .i64 0, .slice none 0 0, .slice none 0 0] 82 (0, 0))
  nb : w.heap.size < bx
namespace OS
variable {w0 w W W1 : World} {g bx : Nat} {s : ByteArray} {t t1 : RdS} {x x1 : S82} {v6 v7 u6 u7 : Value}
theorem rd (h : OS w0 w W g s t bx x v6 v7) (hI : RI w0 W1 g s t1) (hk : KeepBut W W1 g none) : OS w0 w W1 g s t1 bx x v6 v7 := ⟨h.cs.rd hI hk, (hk.2 _ (blk_lt h.res) (fun e => h.cs.ri.1.ne_blk h.res (by decide) e.symm) (by simp)).trans h.res, h.nb⟩
theorem below (h : OS w0 w W g s t bx x v6 v7) (hb : Below W.heap.size W W1) : OS w0 w W1 g s t bx x v6 v7 := h.rd (h.cs.ri.below hb) (KeepBut.of_below hb g none)
theorem drew (h : OS w0 w W g s t bx x v6 v7) : OS w0 w W.drew g s t bx x v6 v7 := h.below (below_drew (Below.refl _ _))
theorem set (h : OS w0 w W g s t bx x v6 v7) (j : Nat) (u : Value) (x1 : S82) (hx : (insC x v6 v7).setIfInBounds j u = insC x1 v6 v7) (h6 : x1.f6 = x.f6) (h7 : x1.f7 = x.f7) : OS w0 w (W.setCell ⟨bx, j, none⟩ u) g s t bx x1 v6 v7 :=
  ⟨h.cs.set j u x1 hx h6 h7, (Below.heap_setCell W ⟨bx, j, none⟩ u _ (fun e => by have := h.nb; have e1 : w.heap.size = bx := e; omega)).trans h.res, h.nb⟩
theorem put7 (h : OS w0 w W g s t bx x v6 (.slice none 0 0)) {y : Int} (hw : w0.heap.size ≤ w.heap.size) :
    OS w0 w ((W.alloc (.cells #[.int .i64 y] 3)).setCell ⟨bx, 7, none⟩ (.slice (some ⟨W.heap.size, 0, none⟩) 1 1)) g s t bx ⟨x.f0, x.f1, x.f2, x.f3, x.f4, x.f5, x.f6, [y]⟩ v6 (.slice (some ⟨W.heap.size, 0, none⟩) 1 1) := by
  have hb := below_alloc (Below.refl W.heap.size W) (.cells #[.int .i64 y] 3)
  have hc := h.cs.put7 (W1 := W.alloc (.cells #[.int .i64 y] 3)) (Below.refl _ _) (v1 := .slice (some ⟨W.heap.size, 0, none⟩) 1 1) (World.grownBy_alloc W _ _) (RW.lit W w.heap.size y h.cs.kept.1) (.inr ⟨_, rfl, Nat.le_refl _⟩) hw
  exact ⟨hc, (Below.heap_setCell _ ⟨bx, 7, none⟩ _ _ (fun e => by have := h.nb; have e1 : w.heap.size = bx := e; omega)).trans ((hb.block _ (blk_lt h.res)).trans h.res), h.nb⟩
theorem cho (h : OS w0 w W g s t bx x v6 v7) (k : CS w0 W W1 g s t1 bx x1 u6 u7) : OS w0 w W1 g s t1 bx x1 u6 u7 where
  cs := {
    ri := k.ri
    ins := k.ins
    new := h.cs.new
    r6 := Kd.R_lower k.r6 h.cs.kept.1
    r7 := Kd.R_lower k.r7 h.cs.kept.1
    ap := k.ap
    kept := ⟨Nat.le_trans h.cs.kept.1 k.kept.1, fun i hi hg hx => (k.kept.2 i (Nat.lt_of_lt_of_le hi h.cs.kept.1) hg hx).trans (h.cs.kept.2 i hi hg hx)⟩ }
  res := (k.kept.2 _ (blk_lt h.res) (fun e => h.cs.ri.1.ne_blk h.res (by decide) e.symm) (fun e => by have := h.nb; omega)).trans h.res
  nb := h.nb
end OS
theorem OS.start {w0 w : World} {g : Nat} {s : ByteArray} {t : RdS} (hI : RI w0 w g s t) (a : Int) :
    OS w0 w ((w.alloc (.cells #[.int .i64 0, .int .u8 0, .bool false, .int .i64 0, .int .i64 0, .int .i64 0, .slice none 0 0, .slice none 0 0] 82)).alloc (.cells #[.int .i64 a, .int .u8 0, .bool false, .int .i64 0, .int .i64 0, .int .i64 0, .slice none 0 0, .slice none 0 0] 82)) g s t (w.heap.size + 1) (⟨a, 0, false, 0, 0, 0, [], []⟩ : S82) (.slice none 0 0) (.slice none 0 0) := by
  have h1 := below_alloc (Below.refl w.heap.size w) (.cells #[.int .i64 0, .int .u8 0, .bool false, .int .i64 0, .int .i64 0, .int .i64 0, .slice none 0 0, .slice none 0 0] 82)
  have es : (w.alloc (.cells #[.int .i64 0, .int .u8 0, .bool false, .int .i64 0, .int .i64 0, .int .i64 0, .slice none 0 0, .slice none 0 0] 82)).heap.size = w.heap.size + 1 := Array.size_push _
  have h2 := below_alloc (Below.refl (w.alloc (.cells #[.int .i64 0, .int .u8 0, .bool false, .int .i64 0, .int .i64 0, .int .i64 0, .slice none 0 0, .slice none 0 0] 82)).heap.size (w.alloc (.cells #[.int .i64 0, .int .u8 0, .bool false, .int .i64 0, .int .i64 0, .int .i64 0, .slice none 0 0, .slice none 0 0] 82))) (.cells #[.int .i64 a, .int .u8 0, .bool false, .int .i64 0, .int .i64 0, .int .i64 0, .slice none 0 0, .slice none 0 0] 82)
  have e1 : (w.alloc (.cells #[.int .i64 0, .int .u8 0, .bool false, .int .i64 0, .int .i64 0, .int .i64 0, .slice none 0 0, .slice none 0 0] 82)).heap[w.heap.size]? = some (.cells #[.int .i64 0, .int .u8 0, .bool false, .int .i64 0, .int .i64 0, .int .i64 0, .slice none 0 0, .slice none 0 0] 82 (0, 0)) := Array.getElem?_push_size
  have hb := below_alloc h1 (.cells #[.int .i64 a, .int .u8 0, .bool false, .int .i64 0, .int .i64 0, .int .i64 0, .slice none 0 0, .slice none 0 0] 82)
  have hr := hI.below hb
  have hw := hI.2.size
  exact {
    cs := { ri := hr, ins := by rw [← es]; exact Array.getElem?_push_size, new := by omega, r6 := RW.nil _ _, r7 := RW.nil _ _, ap := fun k e => by simp [Value.ownBlock] at e, kept := ⟨hb.size, fun i hi _ _ => hb.block i hi⟩ }
    res := (h2.block _ (by rw [es]; omega)).trans e1
    nb := by omega }
structure OE (w0 w W : World) (g : Nat) (s : ByteArray) (t : RdS) (bx : Nat) (x : S82) (v6 v7 : Value) : Prop where
  ri : RI w0 W g s t
  ins : W.heap[bx]? = some (.cells (insC x v6 v7) 82 (0, 0))
  res : W.heap[w.heap.size]? = some (.cells #[.int .i64 0, .int .u8 0, .bool false, .int .i64 0, .int .i64 0, .int .i64 0, .slice none 0 0, .slice none 0 0] 82 (0, 0))
  r6 : RW W w.heap.size v6 x.f6
  r7 : RW W w.heap.size v7 x.f7
  ap : ∀ k, v6.ownBlock = some k → v7.ownBlock ≠ some k
  kept : w.heap.size ≤ W.heap.size ∧ ∀ i, i < w.heap.size → i ≠ g → W.heap[i]? = w.heap[i]?
theorem OE.fin {w0 w W : World} {g bx : Nat} {s : ByteArray} {t : RdS} {x : S82} {v6 v7 : Value} (h : OE w0 w W g s t bx x v6 v7) (hw : w0.heap.size ≤ w.heap.size) :
    ((((((((W.setCell ⟨w.heap.size, 0, none⟩ (.int .i64 x.f0)).setCell ⟨w.heap.size, 1, none⟩ (.int .u8 x.f1)).setCell ⟨w.heap.size, 2, none⟩ (.bool x.f2)).setCell ⟨w.heap.size, 3, none⟩ (.int .i64 x.f3)).setCell ⟨w.heap.size, 4, none⟩ (.int .i64 x.f4)).setCell ⟨w.heap.size, 5, none⟩ (.int .i64 x.f5)).setCell ⟨w.heap.size, 6, none⟩ v6).setCell ⟨w.heap.size, 7, none⟩ v7).heap[w.heap.size]? = some (.cells (insC x v6 v7) 82 (0, 0)) ∧ RI w0 ((((((((W.setCell ⟨w.heap.size, 0, none⟩ (.int .i64 x.f0)).setCell ⟨w.heap.size, 1, none⟩ (.int .u8 x.f1)).setCell ⟨w.heap.size, 2, none⟩ (.bool x.f2)).setCell ⟨w.heap.size, 3, none⟩ (.int .i64 x.f3)).setCell ⟨w.heap.size, 4, none⟩ (.int .i64 x.f4)).setCell ⟨w.heap.size, 5, none⟩ (.int .i64 x.f5)).setCell ⟨w.heap.size, 6, none⟩ v6).setCell ⟨w.heap.size, 7, none⟩ v7) g s t ∧ RW ((((((((W.setCell ⟨w.heap.size, 0, none⟩ (.int .i64 x.f0)).setCell ⟨w.heap.size, 1, none⟩ (.int .u8 x.f1)).setCell ⟨w.heap.size, 2, none⟩ (.bool x.f2)).setCell ⟨w.heap.size, 3, none⟩ (.int .i64 x.f3)).setCell ⟨w.heap.size, 4, none⟩ (.int .i64 x.f4)).setCell ⟨w.heap.size, 5, none⟩ (.int .i64 x.f5)).setCell ⟨w.heap.size, 6, none⟩ v6).setCell ⟨w.heap.size, 7, none⟩ v7) w.heap.size v6 x.f6 ∧ RW ((((((((W.setCell ⟨w.heap.size, 0, none⟩ (.int .i64 x.f0)).setCell ⟨w.heap.size, 1, none⟩ (.int .u8 x.f1)).setCell ⟨w.heap.size, 2, none⟩ (.bool x.f2)).setCell ⟨w.heap.size, 3, none⟩ (.int .i64 x.f3)).setCell ⟨w.heap.size, 4, none⟩ (.int .i64 x.f4)).setCell ⟨w.heap.size, 5, none⟩ (.int .i64 x.f5)).setCell ⟨w.heap.size, 6, none⟩ v6).setCell ⟨w.heap.size, 7, none⟩ v7) w.heap.size v7 x.f7 ∧ KeepBut w ((((((((W.setCell ⟨w.heap.size, 0, none⟩ (.int .i64 x.f0)).setCell ⟨w.heap.size, 1, none⟩ (.int .u8 x.f1)).setCell ⟨w.heap.size, 2, none⟩ (.bool x.f2)).setCell ⟨w.heap.size, 3, none⟩ (.int .i64 x.f3)).setCell ⟨w.heap.size, 4, none⟩ (.int .i64 x.f4)).setCell ⟨w.heap.size, 5, none⟩ (.int .i64 x.f5)).setCell ⟨w.heap.size, 6, none⟩ v6).setCell ⟨w.heap.size, 7, none⟩ v7) g none := by
  obtain ⟨_, _, _, _, _, _, _, _, _, _, _, _, _, _, _, _, e1, e2, e3⟩ := fill8 h.res (.int .i64 x.f0) (.int .u8 x.f1) (.bool x.f2) (.int .i64 x.f3) (.int .i64 x.f4) (.int .i64 x.f5) v6 v7
  have hg : g ≠ w.heap.size := fun e => h.ri.1.ne_blk h.res (by decide) e
  have hbw : w0.heap.size ≤ w.heap.size := by omega
  refine ⟨e1, ⟨(((((((h.ri.1.far hg _).far hg _).far hg _).far hg _).far hg _).far hg _).far hg _).far hg _, (((((((h.ri.2.setCell (p := ⟨w.heap.size, 0, none⟩) hbw _).setCell (p := ⟨w.heap.size, 1, none⟩) hbw _).setCell (p := ⟨w.heap.size, 2, none⟩) hbw _).setCell (p := ⟨w.heap.size, 3, none⟩) hbw _).setCell (p := ⟨w.heap.size, 4, none⟩) hbw _).setCell (p := ⟨w.heap.size, 5, none⟩) hbw _).setCell (p := ⟨w.heap.size, 6, none⟩) hbw _).setCell (p := ⟨w.heap.size, 7, none⟩) hbw _⟩, ?_, ?_, ?_⟩
  · exact h.r6.step (fun k e => e2 k (fun he => h.r6.ne h.res (by decide) (by rw [← he]; exact e)))
  · exact h.r7.step (fun k e => e2 k (fun he => h.r7.ne h.res (by decide) (by rw [← he]; exact e)))
  · exact ⟨by rw [e3]; exact h.kept.1, fun i hi hgi _ => (e2 i (by omega)).trans (h.kept.2 i hi hgi)⟩
theorem OS.oe {w0 w W : World} {g bx : Nat} {s : ByteArray} {t : RdS} {x : S82} {v6 v7 : Value} (h : OS w0 w W g s t bx x v6 v7) : OE w0 w W g s t bx x v6 v7 := ⟨h.cs.ri, h.cs.ins, h.res, h.cs.r6, h.cs.r7, h.cs.ap, ⟨h.cs.kept.1, fun i hi hg => h.cs.kept.2 i hi hg (by have := h.nb; omega)⟩⟩
theorem OE.r8 {w0 w W : World} {g bx : Nat} {s : ByteArray} {t : RdS} {x : S82} {v6 v7 : Value} (h : OE w0 w W g s t bx x v6 v7) :
    W.cell? ⟨w.heap.size, 0, none⟩ = some (.int .i64 0) ∧ W.cell? ⟨w.heap.size, 1, none⟩ = some (.int .u8 0) ∧ W.cell? ⟨w.heap.size, 2, none⟩ = some (.bool false) ∧ W.cell? ⟨w.heap.size, 3, none⟩ = some (.int .i64 0) ∧ W.cell? ⟨w.heap.size, 4, none⟩ = some (.int .i64 0) ∧ W.cell? ⟨w.heap.size, 5, none⟩ = some (.int .i64 0) ∧ W.cell? ⟨w.heap.size, 6, none⟩ = some (.slice none 0 0) ∧ W.cell? ⟨w.heap.size, 7, none⟩ = some (.slice none 0 0) ∧ (∀ j, W.frozen? ⟨w.heap.size, j, none⟩ = false) :=
  ⟨blk_cell h.res 0, blk_cell h.res 1, blk_cell h.res 2, blk_cell h.res 3, blk_cell h.res 4, blk_cell h.res 5, blk_cell h.res 6, blk_cell h.res 7, fun j => blk_frozen h.res j⟩
theorem OE.c8 {w0 w W : World} {g bx : Nat} {s : ByteArray} {t : RdS} {x : S82} {v6 v7 : Value} (h : OE w0 w W g s t bx x v6 v7) :
    W.cell? ⟨bx, 0, none⟩ = some (.int .i64 x.f0) ∧ W.cell? ⟨bx, 1, none⟩ = some (.int .u8 x.f1) ∧ W.cell? ⟨bx, 2, none⟩ = some (.bool x.f2) ∧ W.cell? ⟨bx, 3, none⟩ = some (.int .i64 x.f3) ∧ W.cell? ⟨bx, 4, none⟩ = some (.int .i64 x.f4) ∧ W.cell? ⟨bx, 5, none⟩ = some (.int .i64 x.f5) ∧ W.cell? ⟨bx, 6, none⟩ = some v6 ∧ W.cell? ⟨bx, 7, none⟩ = some v7 :=
  ⟨blk_cell h.ins 0, blk_cell h.ins 1, blk_cell h.ins 2, blk_cell h.ins 3, blk_cell h.ins 4, blk_cell h.ins 5, blk_cell h.ins 6, blk_cell h.ins 7⟩
theorem OS.c7 {w0 w W : World} {g bx : Nat} {s : ByteArray} {t : RdS} {x : S82} {v6 v7 : Value} (h : OS w0 w W g s t bx x v6 v7) :
    W.cell? ⟨bx, 0, none⟩ = some (.int .i64 x.f0) ∧ W.cell? ⟨bx, 1, none⟩ = some (.int .u8 x.f1) ∧ W.cell? ⟨bx, 2, none⟩ = some (.bool x.f2) ∧ W.cell? ⟨bx, 3, none⟩ = some (.int .i64 x.f3) ∧ W.cell? ⟨bx, 4, none⟩ = some (.int .i64 x.f4) ∧ W.cell? ⟨bx, 7, none⟩ = some v7 ∧ (∀ j, W.frozen? ⟨bx, j, none⟩ = false) :=
  ⟨blk_cell h.cs.ins 0, blk_cell h.cs.ins 1, blk_cell h.cs.ins 2, blk_cell h.cs.ins 3, blk_cell h.cs.ins 4, blk_cell h.cs.ins 7, fun j => blk_frozen h.cs.ins j⟩
theorem lq_0 : ((letter 0).toList == ([119] : List UInt8)) = false ∧ ((letter 0).toList == ([108] : List UInt8)) = false ∧ ((letter 0).toList == ([110] : List UInt8)) = false ∧ ((letter 0).toList == ([120] : List UInt8)) = false ∧ ((letter 0).toList == ([98] : List UInt8)) = false ∧ ((letter 0).toList == ([115] : List UInt8)) = false ∧ ((letter 0).toList == ([99] : List UInt8)) = false ∧ ((letter 0).toList == ([97] : List UInt8)) = false ∧ ((letter 0).toList == ([105] : List UInt8)) = false ∧ ((letter 0).toList == ([106] : List UInt8)) = false ∧ ((letter 0).toList == ([74] : List UInt8)) = false ∧ ((letter 0).toList == ([102] : List UInt8)) = false ∧ ((letter 0).toList == ([109] : List UInt8)) = false ∧ ((letter 0).toList == ([116] : List UInt8)) = false ∧ ((letter 0).toList == ([107] : List UInt8)) = false := by decide +kernel
theorem lq_1 : ((letter 1).toList == ([119] : List UInt8)) = false ∧ ((letter 1).toList == ([108] : List UInt8)) = false ∧ ((letter 1).toList == ([110] : List UInt8)) = false ∧ ((letter 1).toList == ([120] : List UInt8)) = true ∧ ((letter 1).toList == ([98] : List UInt8)) = false ∧ ((letter 1).toList == ([115] : List UInt8)) = false ∧ ((letter 1).toList == ([99] : List UInt8)) = false ∧ ((letter 1).toList == ([97] : List UInt8)) = false ∧ ((letter 1).toList == ([105] : List UInt8)) = false ∧ ((letter 1).toList == ([106] : List UInt8)) = false ∧ ((letter 1).toList == ([74] : List UInt8)) = false ∧ ((letter 1).toList == ([102] : List UInt8)) = false ∧ ((letter 1).toList == ([109] : List UInt8)) = false ∧ ((letter 1).toList == ([116] : List UInt8)) = false ∧ ((letter 1).toList == ([107] : List UInt8)) = false := by decide +kernel
theorem lq_2 : ((letter 2).toList == ([119] : List UInt8)) = false ∧ ((letter 2).toList == ([108] : List UInt8)) = false ∧ ((letter 2).toList == ([110] : List UInt8)) = false ∧ ((letter 2).toList == ([120] : List UInt8)) = false ∧ ((letter 2).toList == ([98] : List UInt8)) = true ∧ ((letter 2).toList == ([115] : List UInt8)) = false ∧ ((letter 2).toList == ([99] : List UInt8)) = false ∧ ((letter 2).toList == ([97] : List UInt8)) = false ∧ ((letter 2).toList == ([105] : List UInt8)) = false ∧ ((letter 2).toList == ([106] : List UInt8)) = false ∧ ((letter 2).toList == ([74] : List UInt8)) = false ∧ ((letter 2).toList == ([102] : List UInt8)) = false ∧ ((letter 2).toList == ([109] : List UInt8)) = false ∧ ((letter 2).toList == ([116] : List UInt8)) = false ∧ ((letter 2).toList == ([107] : List UInt8)) = false := by decide +kernel
theorem lq_3 : ((letter 3).toList == ([119] : List UInt8)) = false ∧ ((letter 3).toList == ([108] : List UInt8)) = false ∧ ((letter 3).toList == ([110] : List UInt8)) = false ∧ ((letter 3).toList == ([120] : List UInt8)) = false ∧ ((letter 3).toList == ([98] : List UInt8)) = false ∧ ((letter 3).toList == ([115] : List UInt8)) = true ∧ ((letter 3).toList == ([99] : List UInt8)) = false ∧ ((letter 3).toList == ([97] : List UInt8)) = false ∧ ((letter 3).toList == ([105] : List UInt8)) = false ∧ ((letter 3).toList == ([106] : List UInt8)) = false ∧ ((letter 3).toList == ([74] : List UInt8)) = false ∧ ((letter 3).toList == ([102] : List UInt8)) = false ∧ ((letter 3).toList == ([109] : List UInt8)) = false ∧ ((letter 3).toList == ([116] : List UInt8)) = false ∧ ((letter 3).toList == ([107] : List UInt8)) = false := by decide +kernel
theorem lq_4 : ((letter 4).toList == ([119] : List UInt8)) = false ∧ ((letter 4).toList == ([108] : List UInt8)) = false ∧ ((letter 4).toList == ([110] : List UInt8)) = false ∧ ((letter 4).toList == ([120] : List UInt8)) = false ∧ ((letter 4).toList == ([98] : List UInt8)) = false ∧ ((letter 4).toList == ([115] : List UInt8)) = false ∧ ((letter 4).toList == ([99] : List UInt8)) = true ∧ ((letter 4).toList == ([97] : List UInt8)) = false ∧ ((letter 4).toList == ([105] : List UInt8)) = false ∧ ((letter 4).toList == ([106] : List UInt8)) = false ∧ ((letter 4).toList == ([74] : List UInt8)) = false ∧ ((letter 4).toList == ([102] : List UInt8)) = false ∧ ((letter 4).toList == ([109] : List UInt8)) = false ∧ ((letter 4).toList == ([116] : List UInt8)) = false ∧ ((letter 4).toList == ([107] : List UInt8)) = false := by decide +kernel
theorem lq_5 : ((letter 5).toList == ([119] : List UInt8)) = false ∧ ((letter 5).toList == ([108] : List UInt8)) = false ∧ ((letter 5).toList == ([110] : List UInt8)) = false ∧ ((letter 5).toList == ([120] : List UInt8)) = false ∧ ((letter 5).toList == ([98] : List UInt8)) = false ∧ ((letter 5).toList == ([115] : List UInt8)) = false ∧ ((letter 5).toList == ([99] : List UInt8)) = false ∧ ((letter 5).toList == ([97] : List UInt8)) = false ∧ ((letter 5).toList == ([105] : List UInt8)) = true ∧ ((letter 5).toList == ([106] : List UInt8)) = false ∧ ((letter 5).toList == ([74] : List UInt8)) = false ∧ ((letter 5).toList == ([102] : List UInt8)) = false ∧ ((letter 5).toList == ([109] : List UInt8)) = false ∧ ((letter 5).toList == ([116] : List UInt8)) = false ∧ ((letter 5).toList == ([107] : List UInt8)) = false := by decide +kernel
theorem lq_6 : ((letter 6).toList == ([119] : List UInt8)) = false ∧ ((letter 6).toList == ([108] : List UInt8)) = true ∧ ((letter 6).toList == ([110] : List UInt8)) = false ∧ ((letter 6).toList == ([120] : List UInt8)) = false ∧ ((letter 6).toList == ([98] : List UInt8)) = false ∧ ((letter 6).toList == ([115] : List UInt8)) = false ∧ ((letter 6).toList == ([99] : List UInt8)) = false ∧ ((letter 6).toList == ([97] : List UInt8)) = false ∧ ((letter 6).toList == ([105] : List UInt8)) = false ∧ ((letter 6).toList == ([106] : List UInt8)) = false ∧ ((letter 6).toList == ([74] : List UInt8)) = false ∧ ((letter 6).toList == ([102] : List UInt8)) = false ∧ ((letter 6).toList == ([109] : List UInt8)) = false ∧ ((letter 6).toList == ([116] : List UInt8)) = false ∧ ((letter 6).toList == ([107] : List UInt8)) = false := by decide +kernel
theorem lq_7 : ((letter 7).toList == ([119] : List UInt8)) = false ∧ ((letter 7).toList == ([108] : List UInt8)) = false ∧ ((letter 7).toList == ([110] : List UInt8)) = true ∧ ((letter 7).toList == ([120] : List UInt8)) = false ∧ ((letter 7).toList == ([98] : List UInt8)) = false ∧ ((letter 7).toList == ([115] : List UInt8)) = false ∧ ((letter 7).toList == ([99] : List UInt8)) = false ∧ ((letter 7).toList == ([97] : List UInt8)) = false ∧ ((letter 7).toList == ([105] : List UInt8)) = false ∧ ((letter 7).toList == ([106] : List UInt8)) = false ∧ ((letter 7).toList == ([74] : List UInt8)) = false ∧ ((letter 7).toList == ([102] : List UInt8)) = false ∧ ((letter 7).toList == ([109] : List UInt8)) = false ∧ ((letter 7).toList == ([116] : List UInt8)) = false ∧ ((letter 7).toList == ([107] : List UInt8)) = false := by decide +kernel
theorem lq_8 : ((letter 8).toList == ([119] : List UInt8)) = false ∧ ((letter 8).toList == ([108] : List UInt8)) = false ∧ ((letter 8).toList == ([110] : List UInt8)) = false ∧ ((letter 8).toList == ([120] : List UInt8)) = false ∧ ((letter 8).toList == ([98] : List UInt8)) = false ∧ ((letter 8).toList == ([115] : List UInt8)) = false ∧ ((letter 8).toList == ([99] : List UInt8)) = false ∧ ((letter 8).toList == ([97] : List UInt8)) = false ∧ ((letter 8).toList == ([105] : List UInt8)) = false ∧ ((letter 8).toList == ([106] : List UInt8)) = true ∧ ((letter 8).toList == ([74] : List UInt8)) = false ∧ ((letter 8).toList == ([102] : List UInt8)) = false ∧ ((letter 8).toList == ([109] : List UInt8)) = false ∧ ((letter 8).toList == ([116] : List UInt8)) = false ∧ ((letter 8).toList == ([107] : List UInt8)) = false := by decide +kernel
theorem lq_9 : ((letter 9).toList == ([119] : List UInt8)) = false ∧ ((letter 9).toList == ([108] : List UInt8)) = false ∧ ((letter 9).toList == ([110] : List UInt8)) = false ∧ ((letter 9).toList == ([120] : List UInt8)) = false ∧ ((letter 9).toList == ([98] : List UInt8)) = false ∧ ((letter 9).toList == ([115] : List UInt8)) = false ∧ ((letter 9).toList == ([99] : List UInt8)) = false ∧ ((letter 9).toList == ([97] : List UInt8)) = false ∧ ((letter 9).toList == ([105] : List UInt8)) = false ∧ ((letter 9).toList == ([106] : List UInt8)) = false ∧ ((letter 9).toList == ([74] : List UInt8)) = true ∧ ((letter 9).toList == ([102] : List UInt8)) = false ∧ ((letter 9).toList == ([109] : List UInt8)) = false ∧ ((letter 9).toList == ([116] : List UInt8)) = false ∧ ((letter 9).toList == ([107] : List UInt8)) = false := by decide +kernel
theorem lq_10 : ((letter 10).toList == ([119] : List UInt8)) = false ∧ ((letter 10).toList == ([108] : List UInt8)) = false ∧ ((letter 10).toList == ([110] : List UInt8)) = false ∧ ((letter 10).toList == ([120] : List UInt8)) = false ∧ ((letter 10).toList == ([98] : List UInt8)) = false ∧ ((letter 10).toList == ([115] : List UInt8)) = false ∧ ((letter 10).toList == ([99] : List UInt8)) = false ∧ ((letter 10).toList == ([97] : List UInt8)) = false ∧ ((letter 10).toList == ([105] : List UInt8)) = false ∧ ((letter 10).toList == ([106] : List UInt8)) = false ∧ ((letter 10).toList == ([74] : List UInt8)) = false ∧ ((letter 10).toList == ([102] : List UInt8)) = false ∧ ((letter 10).toList == ([109] : List UInt8)) = false ∧ ((letter 10).toList == ([116] : List UInt8)) = true ∧ ((letter 10).toList == ([107] : List UInt8)) = false := by decide +kernel
theorem lq_11 : ((letter 11).toList == ([119] : List UInt8)) = false ∧ ((letter 11).toList == ([108] : List UInt8)) = false ∧ ((letter 11).toList == ([110] : List UInt8)) = false ∧ ((letter 11).toList == ([120] : List UInt8)) = false ∧ ((letter 11).toList == ([98] : List UInt8)) = false ∧ ((letter 11).toList == ([115] : List UInt8)) = false ∧ ((letter 11).toList == ([99] : List UInt8)) = false ∧ ((letter 11).toList == ([97] : List UInt8)) = false ∧ ((letter 11).toList == ([105] : List UInt8)) = false ∧ ((letter 11).toList == ([106] : List UInt8)) = false ∧ ((letter 11).toList == ([74] : List UInt8)) = false ∧ ((letter 11).toList == ([102] : List UInt8)) = false ∧ ((letter 11).toList == ([109] : List UInt8)) = false ∧ ((letter 11).toList == ([116] : List UInt8)) = false ∧ ((letter 11).toList == ([107] : List UInt8)) = true := by decide +kernel
theorem lq_12 : ((letter 12).toList == ([119] : List UInt8)) = false ∧ ((letter 12).toList == ([108] : List UInt8)) = false ∧ ((letter 12).toList == ([110] : List UInt8)) = false ∧ ((letter 12).toList == ([120] : List UInt8)) = false ∧ ((letter 12).toList == ([98] : List UInt8)) = false ∧ ((letter 12).toList == ([115] : List UInt8)) = false ∧ ((letter 12).toList == ([99] : List UInt8)) = false ∧ ((letter 12).toList == ([97] : List UInt8)) = false ∧ ((letter 12).toList == ([105] : List UInt8)) = false ∧ ((letter 12).toList == ([106] : List UInt8)) = false ∧ ((letter 12).toList == ([74] : List UInt8)) = false ∧ ((letter 12).toList == ([102] : List UInt8)) = true ∧ ((letter 12).toList == ([109] : List UInt8)) = false ∧ ((letter 12).toList == ([116] : List UInt8)) = false ∧ ((letter 12).toList == ([107] : List UInt8)) = false := by decide +kernel
theorem lq_13 : ((letter 13).toList == ([119] : List UInt8)) = false ∧ ((letter 13).toList == ([108] : List UInt8)) = false ∧ ((letter 13).toList == ([110] : List UInt8)) = false ∧ ((letter 13).toList == ([120] : List UInt8)) = false ∧ ((letter 13).toList == ([98] : List UInt8)) = false ∧ ((letter 13).toList == ([115] : List UInt8)) = false ∧ ((letter 13).toList == ([99] : List UInt8)) = false ∧ ((letter 13).toList == ([97] : List UInt8)) = true ∧ ((letter 13).toList == ([105] : List UInt8)) = false ∧ ((letter 13).toList == ([106] : List UInt8)) = false ∧ ((letter 13).toList == ([74] : List UInt8)) = false ∧ ((letter 13).toList == ([102] : List UInt8)) = false ∧ ((letter 13).toList == ([109] : List UInt8)) = false ∧ ((letter 13).toList == ([116] : List UInt8)) = false ∧ ((letter 13).toList == ([107] : List UInt8)) = false := by decide +kernel
theorem lq_14 : ((letter 14).toList == ([119] : List UInt8)) = false ∧ ((letter 14).toList == ([108] : List UInt8)) = false ∧ ((letter 14).toList == ([110] : List UInt8)) = false ∧ ((letter 14).toList == ([120] : List UInt8)) = false ∧ ((letter 14).toList == ([98] : List UInt8)) = false ∧ ((letter 14).toList == ([115] : List UInt8)) = false ∧ ((letter 14).toList == ([99] : List UInt8)) = false ∧ ((letter 14).toList == ([97] : List UInt8)) = false ∧ ((letter 14).toList == ([105] : List UInt8)) = false ∧ ((letter 14).toList == ([106] : List UInt8)) = false ∧ ((letter 14).toList == ([74] : List UInt8)) = false ∧ ((letter 14).toList == ([102] : List UInt8)) = false ∧ ((letter 14).toList == ([109] : List UInt8)) = true ∧ ((letter 14).toList == ([116] : List UInt8)) = false ∧ ((letter 14).toList == ([107] : List UInt8)) = false := by decide +kernel
theorem lq_15 : ((letter 15).toList == ([119] : List UInt8)) = true ∧ ((letter 15).toList == ([108] : List UInt8)) = false ∧ ((letter 15).toList == ([110] : List UInt8)) = false ∧ ((letter 15).toList == ([120] : List UInt8)) = false ∧ ((letter 15).toList == ([98] : List UInt8)) = false ∧ ((letter 15).toList == ([115] : List UInt8)) = false ∧ ((letter 15).toList == ([99] : List UInt8)) = false ∧ ((letter 15).toList == ([97] : List UInt8)) = false ∧ ((letter 15).toList == ([105] : List UInt8)) = false ∧ ((letter 15).toList == ([106] : List UInt8)) = false ∧ ((letter 15).toList == ([74] : List UInt8)) = false ∧ ((letter 15).toList == ([102] : List UInt8)) = false ∧ ((letter 15).toList == ([109] : List UInt8)) = false ∧ ((letter 15).toList == ([116] : List UInt8)) = false ∧ ((letter 15).toList == ([107] : List UInt8)) = false := by decide +kernel
def OnePost (w0 w : World) (g : Nat) (s : ByteArray) (p : S82 × RdS) (e : Ending) (w' : World) : Prop :=
  ∃ v6 v7, e = .returned (.agg (insC p.1 v6 v7)) ∧ RI w0 w' g s p.2 ∧ RW w' w.heap.size v6 p.1.f6 ∧ RW w' w.heap.size v7 p.1.f7 ∧ (∀ k, v6.ownBlock = some k → v7.ownBlock ≠ some k) ∧ KeepBut w w' g none
end Go.Proofs.Ytfnjbmpolggdeaa.CD.RR
end
section
namespace Go.Proofs.Ytfnjbmpolggdeaa.CD.RR
open Go.RowKit Go.Lib Go.Proofs.YtfnjbmpolggdeaaW.PrintWords Go.Proofs.YtfnjbmpolggdeaaW.PrintLast Go.Proofs.YtfnjbmpolggdeaaW.PrintMore
set_option linter.unusedVariables false
set_option linter.unusedSimpArgs false
structure DS (w W : World) (g b c : Nat) (s : ByteArray) (t : RdS) (bl : List Bool) (V : Value) (l : List S82) : Prop where
  ri : RI w W g s t
  row : BR W w.heap.size (.slice (some ⟨b, 0, none⟩) s.size c) bl
  out : IR W w.heap.size V l
namespace DS
variable {w W W1 : World} {g b c : Nat} {s : ByteArray} {t t1 : RdS} {bl : List Bool} {V V1 : Value} {l : List S82}
theorem bne (h : DS w W g b c s t bl V l) : b ≠ g := fun e => h.row.ne h.ri.1.1 (by decide) (by rw [← e]; rfl)
theorem rd (h : DS w W g b c s t bl V l) (hI : RI w W1 g s t1) (hk : KeepBut W W1 g none) : DS w W1 g b c s t1 bl V l where
  ri := hI
  row := h.row.step (fun k e => hk.2 k (Kd.R_lt h.row k e) (fun he => h.row.ne h.ri.1.1 (by decide) (he ▸ e)) (by simp))
  out := h.out.keep h.ri.1.1 (by decide) (fun k hlt hne => hk.2 k hlt hne (by simp))
theorem below (h : DS w W g b c s t bl V l) (hb : Below W.heap.size W W1) : DS w W1 g b c s t bl V l := h.rd (h.ri.below hb) (KeepBut.of_below hb g none)
theorem drew (h : DS w W g b c s t bl V l) : DS w W.drew g b c s t bl V l := h.below (below_drew (Below.refl _ _))
theorem app (h : DS w W g b c s t bl V l) {l1 : List S82} (hg : W.grownBy W1 V.ownBlock) (hr : IR W1 w.heap.size V1 l1) : DS w W1 g b c s t bl V1 l1 where
  ri := ⟨h.ri.1.grown hg (fun e => Kd.S_ne h.out h.ri.1.1 (by decide) e), pw_below_grown h.ri.2 _ h.ri.2.size hg (fun k hk => Kd.S_base h.out k hk)⟩
  row := h.row.step (fun k e => hg.block k (Kd.R_lt h.row k e) (fun he => by
    obtain ⟨c1, h1⟩ := Kd.R_typed h.row k e
    exact Kd.S_ne h.out h1 (by decide) he))
  out := hr
theorem mark (h : DS w W g b c s t bl V l) (i : Int) : DS w (W.setCell ⟨b, i.toNat, none⟩ (.bool true)) g b c s t (bl.set i.toNat true) V l where
  ri := ⟨h.ri.1.far (fun e => h.bne e.symm) _, h.ri.2.setCell (p := ⟨b, i.toNat, none⟩) (Kd.R_base h.row b rfl) _⟩
  row := Kd.R_putn h.row i true
  out := by
    obtain ⟨c1, h1⟩ := Kd.R_typed h.row b rfl
    exact Kd.S_set h.out h1 (by decide) i.toNat (.bool true)
end DS
theorem DS.start {w w2 : World} {b c : Nat} {s : ByteArray} {bl : List Bool} (hg : (w.alloc (.cells #[.string s, .int .i64 0, .int .i64 0, .int .i64 0] 148)).grownBy w2 none) (hU : BR w2 w.heap.size (.slice (some ⟨b, 0, none⟩) s.size c) bl) : DS w w2 w.heap.size b c s (0, 0, 0) bl (.slice none 0 0) [] := by
  have hb := below_alloc (Below.refl w.heap.size w) (.cells #[.string s, .int .i64 0, .int .i64 0, .int .i64 0] 148)
  have hI : RI w (w.alloc (.cells #[.string s, .int .i64 0, .int .i64 0, .int .i64 0] 148)) w.heap.size s (0, 0, 0) := ⟨⟨Array.getElem?_push_size, Nat.le_refl _⟩, hb⟩
  exact {
    ri := ⟨hI.1.grown hg (by simp), pw_below_grown hI.2 _ hI.2.size hg (fun k hk => by simp at hk)⟩
    row := hU
    out := Kd.S_nil _ _ _ _ _ }
end Go.Proofs.Ytfnjbmpolggdeaa.CD.RR
end
