/-
  CodeReads of jvmcorelaw2: whatever the bytes are, code.Decode makes of them what the reference makes, to the first error and where, and all rows of what it makes lie apart; nothing is assumed.
-/
import Derived.ArgAppend
import Derived.Test.YtfnjbmpolggdeaaRows
import Derived.WalkKit
import Derived.ProofKit
import Derived.OpenShut
import Derived.ShutString
import Derived.ChangeOld
import Derived.Below
import Derived.SizedLaws
import Derived.Test.YtfnjbmpolggdeaaQD3
section
namespace Go.Proofs.Ytfnjbmpolggdeaa.CD.RR
open Go.RowKit Go.Lib Go.Proofs.YtfnjbmpolggdeaaW.PrintWords Go.Proofs.YtfnjbmpolggdeaaW.PrintLast Go.Proofs.YtfnjbmpolggdeaaW.PrintMore
set_option linter.unusedVariables false
set_option linter.unusedSimpArgs false
set_option maxHeartbeats 40000000 in
set_option maxRecDepth 100000 in
theorem one_any (w0 w : World) (g : Nat) (s : ByteArray) (t : RdS) (ht : OKR s t) (hI : RI w0 w g s t) :
    Calls Try.prog 96 #[.pointer (some ⟨g, 0, none⟩)] w (OnePost w0 w g s (oneD s t)) := by
  obtain ⟨o1, o2⟩ := num_range s t 1 (by decide)
  have o3 : (numR s t 1).1 < 256 := o2
  clear o2
  have hu1 : IntKind.u8.wrap (numR s t 1).1 = (numR s t 1).1 := by rw [IntKind.wrap_u8]; omega
  have HFS : Aside0 (jvmcoreref2_form.f (numR s t 1).1 = some (letter (formF (numR s t 1).1))) := ⟨formS_at _ ⟨o1, o3⟩⟩
  obtain ⟨o4, o5⟩ := num_range s (numR s t 1).2 1 (by decide)
  have o6 : (numR s (numR s t 1).2 1).1 < 256 := o5
  clear o5
  have hu2 : IntKind.u8.wrap (numR s (numR s t 1).2 1).1 = (numR s (numR s t 1).2 1).1 := by rw [IntKind.wrap_u8]; omega
  have HFS2 : Aside0 (jvmcoreref2_form.f (numR s (numR s t 1).2 1).1 = some (letter (formF (numR s (numR s t 1).2 1).1))) := ⟨formS_at _ ⟨o4, o6⟩⟩
  have H0 := Aside0.mk (OS.start hI t.1)
  have HO0 := Aside0.mk ht
  have HWW := Aside0.mk hI.2.size
  have gc1 := hI.c1
  have gc1a : ∀ o, (w.alloc o).cell? ⟨g, 1, none⟩ = some (.int .i64 t.1) := fun o => (hI.below (below_alloc (Below.refl _ _) o)).c1
  clear hI ht o1 o3 o4 o6
  go_enter Try.func96, Try.ntmps96
  go_upto_region 2 with (fail)
  clear gc1 gc1a
  generalize w.heap.size + 1 = bx at *
  go_upto_region 5 with (first | (go_at_call 126; refine (num_any w0 _ g s t 1 1 rfl (by decide) HO0.out H0.out.cs.ri).mono ?_; rintro e1 w1 ⟨rfl, hI1, hk1⟩; have H1 := Aside0.mk (H0.out.rd hI1 hk1); have HO1 := Aside0.mk (HO0.out.num 1); obtain ⟨d0_1, d1_1, d2_1, d3_1, d4_1, d7_1, df_1⟩ := H1.out.c7; dsimp only at d0_1 d1_1 d2_1 d3_1 d4_1; clear hI1 hk1) | (go_at_call 80; refine (jvmcoreref2_form.calls _ _ _ HFS.out).mono ?_; rintro e2 w2 ⟨rfl, hd2⟩; have H2 := Aside0.mk (H1.out.below hd2.below); have HO2 := HO1; obtain ⟨d0_2, d1_2, d2_2, d3_2, d4_2, d7_2, df_2⟩ := H2.out.c7; dsimp only at d0_2 d1_2 d2_2 d3_2 d4_2; clear hd2) | go_in)
  have hx : formF (numR s t 1).1 = 0 ∨ formF (numR s t 1).1 = 1 ∨ formF (numR s t 1).1 = 2 ∨ formF (numR s t 1).1 = 3 ∨ formF (numR s t 1).1 = 4 ∨ formF (numR s t 1).1 = 5 ∨ formF (numR s t 1).1 = 6 ∨ formF (numR s t 1).1 = 7 ∨ formF (numR s t 1).1 = 8 ∨ formF (numR s t 1).1 = 9 ∨ formF (numR s t 1).1 = 10 ∨ formF (numR s t 1).1 = 11 ∨ formF (numR s t 1).1 = 12 ∨ formF (numR s t 1).1 = 13 ∨ formF (numR s t 1).1 = 14 ∨ formF (numR s t 1).1 = 15 := by have := formF_le (numR s t 1).1; omega
  clear HFS H0 HO0 H1 d0_1 d1_1 d2_1 d3_1 d4_1 d7_1 df_1
  rcases hx with hf | hf | hf | hf | hf | hf | hf | hf | hf | hf | hf | hf | hf | hf | hf | hf
  · have HM : Aside0 (oneD s t = ((⟨t.1, (numR s t 1).1, false, 0, 0, 0, [], []⟩ : S82), (numR s t 1).2)) := ⟨by unfold oneD bodyD; rw [hf, if_neg (by decide), if_neg (by decide), if_neg (by decide), if_neg (by decide), if_neg (by decide), if_neg (by decide), if_neg (by decide), if_neg (by decide), if_neg (by decide), if_neg (by decide)]; rfl⟩
    rw [hf]
    clear hf HFS2 hu2
    obtain ⟨lq119, lq108, lq110, lq120, lq98, lq115, lq99, lq97, lq105, lq106, lq74, lq102, lq109, lq116, lq107⟩ := lq_0
    generalize letter 0 = L at *
    go_upto_region 14 with (fail)
    have H3 := Aside0.mk (H2.out.set 1 (.int .u8 (numR s t 1).1) (⟨t.1, (numR s t 1).1, false, 0, 0, 0, [], []⟩ : S82) rfl rfl rfl)
    have HO3 := HO2
    clear d0_2 d1_2 d2_2 d3_2 d4_2 d7_2 df_2
    generalize World.setCell _ ⟨bx, 1, none⟩ _ = W3 at *
    obtain ⟨d0_3, d1_3, d2_3, d3_3, d4_3, d7_3, df_3⟩ := H3.out.c7
    dsimp only at d0_3 d1_3 d2_3 d3_3 d4_3
    go_upto_region 46 with (fail)
    have E := Aside0.mk H3.out.oe
    obtain ⟨c0, c1, c2, c3, c4, c5, c6, c7⟩ := E.out.c8
    (try dsimp only at c0 c1 c2 c3 c4 c5)
    obtain ⟨r0, r1, r2, r3, r4, r5, r6, r7, rf⟩ := E.out.r8
    have HFIN := Aside0.mk (E.out.fin HWW.out)
    go_wp2
    refine bodyPost_ret (results_cell_row rfl _ _ (w.heap.size) 82 _ (0, 0) _ rfl HFIN.out.1 Try.underlying82 rfl (by kernel_rfl)) rfl ?_
    rw [HM.out]
    refine ⟨_, _, rfl, ?_, ?_, ?_, ?_, ?_⟩
    · exact HFIN.out.2.1
    · exact HFIN.out.2.2.1
    · exact HFIN.out.2.2.2.1
    · exact E.out.ap
    · exact HFIN.out.2.2.2.2
  · have HM : Aside0 (oneD s t = ((⟨t.1, (numR s t 1).1, false, 0, 0, 0, [], []⟩ : S82), failR (numR s t 1).2 14 t.1)) := ⟨by unfold oneD bodyD; rw [hf, if_neg (by decide), if_pos rfl]; rfl⟩
    rw [hf]
    clear hf HFS2 hu2
    obtain ⟨lq119, lq108, lq110, lq120, lq98, lq115, lq99, lq97, lq105, lq106, lq74, lq102, lq109, lq116, lq107⟩ := lq_1
    generalize letter 1 = L at *
    go_upto_region 14 with (fail)
    have H3 := Aside0.mk (H2.out.set 1 (.int .u8 (numR s t 1).1) (⟨t.1, (numR s t 1).1, false, 0, 0, 0, [], []⟩ : S82) rfl rfl rfl)
    have HO3 := HO2
    clear d0_2 d1_2 d2_2 d3_2 d4_2 d7_2 df_2
    generalize World.setCell _ ⟨bx, 1, none⟩ _ = W3 at *
    obtain ⟨d0_3, d1_3, d2_3, d3_3, d4_3, d7_3, df_3⟩ := H3.out.c7
    dsimp only at d0_3 d1_3 d2_3 d3_3 d4_3
    go_upto_region 46 with (first | (go_at_call 97; refine (fail_any w0 _ g s (numR s t 1).2 14 t.1 H3.out.cs.ri).mono ?_; rintro e4 w4 ⟨rfl, hI4, hk4⟩; have H4 := Aside0.mk (H3.out.rd hI4 hk4); have HO4 := Aside0.mk (HO3.out.fail 14 t.1); obtain ⟨d0_4, d1_4, d2_4, d3_4, d4_4, d7_4, df_4⟩ := H4.out.c7; dsimp only at d0_4 d1_4 d2_4 d3_4 d4_4; clear hI4 hk4) | go_in)
    have E := Aside0.mk H4.out.oe
    obtain ⟨c0, c1, c2, c3, c4, c5, c6, c7⟩ := E.out.c8
    (try dsimp only at c0 c1 c2 c3 c4 c5)
    obtain ⟨r0, r1, r2, r3, r4, r5, r6, r7, rf⟩ := E.out.r8
    have HFIN := Aside0.mk (E.out.fin HWW.out)
    go_wp2
    refine bodyPost_ret (results_cell_row rfl _ _ (w.heap.size) 82 _ (0, 0) _ rfl HFIN.out.1 Try.underlying82 rfl (by kernel_rfl)) rfl ?_
    rw [HM.out]
    refine ⟨_, _, rfl, ?_, ?_, ?_, ?_, ?_⟩
    · exact HFIN.out.2.1
    · exact HFIN.out.2.2.1
    · exact HFIN.out.2.2.2.1
    · exact E.out.ap
    · exact HFIN.out.2.2.2.2
  · have HM : Aside0 (oneD s t = ((⟨t.1, (numR s t 1).1, false, (sgnR s (numR s t 1).2 1).1, 0, 0, [], []⟩ : S82), (sgnR s (numR s t 1).2 1).2)) := ⟨by unfold oneD bodyD; rw [hf, if_neg (by decide), if_neg (by decide), if_pos rfl]; rfl⟩
    rw [hf]
    clear hf HFS2 hu2
    obtain ⟨lq119, lq108, lq110, lq120, lq98, lq115, lq99, lq97, lq105, lq106, lq74, lq102, lq109, lq116, lq107⟩ := lq_2
    generalize letter 2 = L at *
    go_upto_region 14 with (fail)
    have H3 := Aside0.mk (H2.out.set 1 (.int .u8 (numR s t 1).1) (⟨t.1, (numR s t 1).1, false, 0, 0, 0, [], []⟩ : S82) rfl rfl rfl)
    have HO3 := HO2
    clear d0_2 d1_2 d2_2 d3_2 d4_2 d7_2 df_2
    generalize World.setCell _ ⟨bx, 1, none⟩ _ = W3 at *
    obtain ⟨d0_3, d1_3, d2_3, d3_3, d4_3, d7_3, df_3⟩ := H3.out.c7
    dsimp only at d0_3 d1_3 d2_3 d3_3 d4_3
    go_upto_region 46 with (first | (go_at_call 127; refine (signed_d w0 _ g s (numR s t 1).2 1 1 rfl (.inl rfl) HO3.out H3.out.cs.ri).mono ?_; rintro e4 w4 ⟨rfl, hI4, hk4⟩; have H4 := Aside0.mk (H3.out.rd hI4 hk4); have HO4 := Aside0.mk (HO3.out.sgn 1); obtain ⟨d0_4, d1_4, d2_4, d3_4, d4_4, d7_4, df_4⟩ := H4.out.c7; dsimp only at d0_4 d1_4 d2_4 d3_4 d4_4; clear hI4 hk4) | go_in)
    have H5 := Aside0.mk (H4.out.set 3 (.int .i64 (sgnR s (numR s t 1).2 1).1) (⟨t.1, (numR s t 1).1, false, (sgnR s (numR s t 1).2 1).1, 0, 0, [], []⟩ : S82) rfl rfl rfl)
    have HO5 := HO4
    clear d0_4 d1_4 d2_4 d3_4 d4_4 d7_4 df_4
    generalize World.setCell _ ⟨bx, 3, none⟩ _ = W5 at *
    obtain ⟨d0_5, d1_5, d2_5, d3_5, d4_5, d7_5, df_5⟩ := H5.out.c7
    dsimp only at d0_5 d1_5 d2_5 d3_5 d4_5
    have E := Aside0.mk H5.out.oe
    clear d0_5 d1_5 d2_5 d3_5 d4_5 d7_5 df_5
    obtain ⟨c0, c1, c2, c3, c4, c5, c6, c7⟩ := E.out.c8
    (try dsimp only at c0 c1 c2 c3 c4 c5)
    obtain ⟨r0, r1, r2, r3, r4, r5, r6, r7, rf⟩ := E.out.r8
    have HFIN := Aside0.mk (E.out.fin HWW.out)
    go_wp2
    refine bodyPost_ret (results_cell_row rfl _ _ (w.heap.size) 82 _ (0, 0) _ rfl HFIN.out.1 Try.underlying82 rfl (by kernel_rfl)) rfl ?_
    rw [HM.out]
    refine ⟨_, _, rfl, ?_, ?_, ?_, ?_, ?_⟩
    · exact HFIN.out.2.1
    · exact HFIN.out.2.2.1
    · exact HFIN.out.2.2.2.1
    · exact E.out.ap
    · exact HFIN.out.2.2.2.2
  · have HM : Aside0 (oneD s t = ((⟨t.1, (numR s t 1).1, false, (sgnR s (numR s t 1).2 2).1, 0, 0, [], []⟩ : S82), (sgnR s (numR s t 1).2 2).2)) := ⟨by unfold oneD bodyD; rw [hf, if_neg (by decide), if_neg (by decide), if_neg (by decide), if_pos rfl]; rfl⟩
    rw [hf]
    clear hf HFS2 hu2
    obtain ⟨lq119, lq108, lq110, lq120, lq98, lq115, lq99, lq97, lq105, lq106, lq74, lq102, lq109, lq116, lq107⟩ := lq_3
    generalize letter 3 = L at *
    go_upto_region 14 with (fail)
    have H3 := Aside0.mk (H2.out.set 1 (.int .u8 (numR s t 1).1) (⟨t.1, (numR s t 1).1, false, 0, 0, 0, [], []⟩ : S82) rfl rfl rfl)
    have HO3 := HO2
    clear d0_2 d1_2 d2_2 d3_2 d4_2 d7_2 df_2
    generalize World.setCell _ ⟨bx, 1, none⟩ _ = W3 at *
    obtain ⟨d0_3, d1_3, d2_3, d3_3, d4_3, d7_3, df_3⟩ := H3.out.c7
    dsimp only at d0_3 d1_3 d2_3 d3_3 d4_3
    go_upto_region 46 with (first | (go_at_call 127; refine (signed_d w0 _ g s (numR s t 1).2 2 2 rfl (.inr (.inl rfl)) HO3.out H3.out.cs.ri).mono ?_; rintro e4 w4 ⟨rfl, hI4, hk4⟩; have H4 := Aside0.mk (H3.out.rd hI4 hk4); have HO4 := Aside0.mk (HO3.out.sgn 2); obtain ⟨d0_4, d1_4, d2_4, d3_4, d4_4, d7_4, df_4⟩ := H4.out.c7; dsimp only at d0_4 d1_4 d2_4 d3_4 d4_4; clear hI4 hk4) | go_in)
    have H5 := Aside0.mk (H4.out.set 3 (.int .i64 (sgnR s (numR s t 1).2 2).1) (⟨t.1, (numR s t 1).1, false, (sgnR s (numR s t 1).2 2).1, 0, 0, [], []⟩ : S82) rfl rfl rfl)
    have HO5 := HO4
    clear d0_4 d1_4 d2_4 d3_4 d4_4 d7_4 df_4
    generalize World.setCell _ ⟨bx, 3, none⟩ _ = W5 at *
    obtain ⟨d0_5, d1_5, d2_5, d3_5, d4_5, d7_5, df_5⟩ := H5.out.c7
    dsimp only at d0_5 d1_5 d2_5 d3_5 d4_5
    have E := Aside0.mk H5.out.oe
    clear d0_5 d1_5 d2_5 d3_5 d4_5 d7_5 df_5
    obtain ⟨c0, c1, c2, c3, c4, c5, c6, c7⟩ := E.out.c8
    (try dsimp only at c0 c1 c2 c3 c4 c5)
    obtain ⟨r0, r1, r2, r3, r4, r5, r6, r7, rf⟩ := E.out.r8
    have HFIN := Aside0.mk (E.out.fin HWW.out)
    go_wp2
    refine bodyPost_ret (results_cell_row rfl _ _ (w.heap.size) 82 _ (0, 0) _ rfl HFIN.out.1 Try.underlying82 rfl (by kernel_rfl)) rfl ?_
    rw [HM.out]
    refine ⟨_, _, rfl, ?_, ?_, ?_, ?_, ?_⟩
    · exact HFIN.out.2.1
    · exact HFIN.out.2.2.1
    · exact HFIN.out.2.2.2.1
    · exact E.out.ap
    · exact HFIN.out.2.2.2.2
  · have HM : Aside0 (oneD s t = ((⟨t.1, (numR s t 1).1, false, (numR s (numR s t 1).2 1).1, 0, 0, [], []⟩ : S82), (numR s (numR s t 1).2 1).2)) := ⟨by unfold oneD bodyD; rw [hf, if_neg (by decide), if_neg (by decide), if_neg (by decide), if_neg (by decide), if_pos rfl]; rfl⟩
    rw [hf]
    clear hf HFS2 hu2
    obtain ⟨lq119, lq108, lq110, lq120, lq98, lq115, lq99, lq97, lq105, lq106, lq74, lq102, lq109, lq116, lq107⟩ := lq_4
    generalize letter 4 = L at *
    go_upto_region 14 with (fail)
    have H3 := Aside0.mk (H2.out.set 1 (.int .u8 (numR s t 1).1) (⟨t.1, (numR s t 1).1, false, 0, 0, 0, [], []⟩ : S82) rfl rfl rfl)
    have HO3 := HO2
    clear d0_2 d1_2 d2_2 d3_2 d4_2 d7_2 df_2
    generalize World.setCell _ ⟨bx, 1, none⟩ _ = W3 at *
    obtain ⟨d0_3, d1_3, d2_3, d3_3, d4_3, d7_3, df_3⟩ := H3.out.c7
    dsimp only at d0_3 d1_3 d2_3 d3_3 d4_3
    go_upto_region 46 with (first | (go_at_call 126; refine (num_any w0 _ g s (numR s t 1).2 1 1 rfl (by decide) HO3.out H3.out.cs.ri).mono ?_; rintro e4 w4 ⟨rfl, hI4, hk4⟩; have H4 := Aside0.mk (H3.out.rd hI4 hk4); have HO4 := Aside0.mk (HO3.out.num 1); obtain ⟨d0_4, d1_4, d2_4, d3_4, d4_4, d7_4, df_4⟩ := H4.out.c7; dsimp only at d0_4 d1_4 d2_4 d3_4 d4_4; clear hI4 hk4) | go_in)
    have H5 := Aside0.mk (H4.out.set 3 (.int .i64 (numR s (numR s t 1).2 1).1) (⟨t.1, (numR s t 1).1, false, (numR s (numR s t 1).2 1).1, 0, 0, [], []⟩ : S82) rfl rfl rfl)
    have HO5 := HO4
    clear d0_4 d1_4 d2_4 d3_4 d4_4 d7_4 df_4
    generalize World.setCell _ ⟨bx, 3, none⟩ _ = W5 at *
    obtain ⟨d0_5, d1_5, d2_5, d3_5, d4_5, d7_5, df_5⟩ := H5.out.c7
    dsimp only at d0_5 d1_5 d2_5 d3_5 d4_5
    have E := Aside0.mk H5.out.oe
    clear d0_5 d1_5 d2_5 d3_5 d4_5 d7_5 df_5
    obtain ⟨c0, c1, c2, c3, c4, c5, c6, c7⟩ := E.out.c8
    (try dsimp only at c0 c1 c2 c3 c4 c5)
    obtain ⟨r0, r1, r2, r3, r4, r5, r6, r7, rf⟩ := E.out.r8
    have HFIN := Aside0.mk (E.out.fin HWW.out)
    go_wp2
    refine bodyPost_ret (results_cell_row rfl _ _ (w.heap.size) 82 _ (0, 0) _ rfl HFIN.out.1 Try.underlying82 rfl (by kernel_rfl)) rfl ?_
    rw [HM.out]
    refine ⟨_, _, rfl, ?_, ?_, ?_, ?_, ?_⟩
    · exact HFIN.out.2.1
    · exact HFIN.out.2.2.1
    · exact HFIN.out.2.2.2.1
    · exact E.out.ap
    · exact HFIN.out.2.2.2.2
  · have HM : Aside0 (oneD s t = ((⟨t.1, (numR s t 1).1, false, (numR s (numR s t 1).2 2).1, 0, 0, [], []⟩ : S82), (numR s (numR s t 1).2 2).2)) := ⟨by unfold oneD bodyD; rw [hf, if_neg (by decide), if_neg (by decide), if_neg (by decide), if_neg (by decide), if_neg (by decide), if_pos rfl]; rfl⟩
    rw [hf]
    clear hf HFS2 hu2
    obtain ⟨lq119, lq108, lq110, lq120, lq98, lq115, lq99, lq97, lq105, lq106, lq74, lq102, lq109, lq116, lq107⟩ := lq_5
    generalize letter 5 = L at *
    go_upto_region 14 with (fail)
    have H3 := Aside0.mk (H2.out.set 1 (.int .u8 (numR s t 1).1) (⟨t.1, (numR s t 1).1, false, 0, 0, 0, [], []⟩ : S82) rfl rfl rfl)
    have HO3 := HO2
    clear d0_2 d1_2 d2_2 d3_2 d4_2 d7_2 df_2
    generalize World.setCell _ ⟨bx, 1, none⟩ _ = W3 at *
    obtain ⟨d0_3, d1_3, d2_3, d3_3, d4_3, d7_3, df_3⟩ := H3.out.c7
    dsimp only at d0_3 d1_3 d2_3 d3_3 d4_3
    go_upto_region 46 with (first | (go_at_call 126; refine (num_any w0 _ g s (numR s t 1).2 2 2 rfl (by decide) HO3.out H3.out.cs.ri).mono ?_; rintro e4 w4 ⟨rfl, hI4, hk4⟩; have H4 := Aside0.mk (H3.out.rd hI4 hk4); have HO4 := Aside0.mk (HO3.out.num 2); obtain ⟨d0_4, d1_4, d2_4, d3_4, d4_4, d7_4, df_4⟩ := H4.out.c7; dsimp only at d0_4 d1_4 d2_4 d3_4 d4_4; clear hI4 hk4) | go_in)
    have H5 := Aside0.mk (H4.out.set 3 (.int .i64 (numR s (numR s t 1).2 2).1) (⟨t.1, (numR s t 1).1, false, (numR s (numR s t 1).2 2).1, 0, 0, [], []⟩ : S82) rfl rfl rfl)
    have HO5 := HO4
    clear d0_4 d1_4 d2_4 d3_4 d4_4 d7_4 df_4
    generalize World.setCell _ ⟨bx, 3, none⟩ _ = W5 at *
    obtain ⟨d0_5, d1_5, d2_5, d3_5, d4_5, d7_5, df_5⟩ := H5.out.c7
    dsimp only at d0_5 d1_5 d2_5 d3_5 d4_5
    have E := Aside0.mk H5.out.oe
    clear d0_5 d1_5 d2_5 d3_5 d4_5 d7_5 df_5
    obtain ⟨c0, c1, c2, c3, c4, c5, c6, c7⟩ := E.out.c8
    (try dsimp only at c0 c1 c2 c3 c4 c5)
    obtain ⟨r0, r1, r2, r3, r4, r5, r6, r7, rf⟩ := E.out.r8
    have HFIN := Aside0.mk (E.out.fin HWW.out)
    go_wp2
    refine bodyPost_ret (results_cell_row rfl _ _ (w.heap.size) 82 _ (0, 0) _ rfl HFIN.out.1 Try.underlying82 rfl (by kernel_rfl)) rfl ?_
    rw [HM.out]
    refine ⟨_, _, rfl, ?_, ?_, ?_, ?_, ?_⟩
    · exact HFIN.out.2.1
    · exact HFIN.out.2.2.1
    · exact HFIN.out.2.2.2.1
    · exact E.out.ap
    · exact HFIN.out.2.2.2.2
  · have HM : Aside0 (oneD s t = ((⟨t.1, (numR s t 1).1, false, (numR s (numR s t 1).2 1).1, 0, 0, [], []⟩ : S82), (numR s (numR s t 1).2 1).2)) := ⟨by unfold oneD bodyD; rw [hf, if_neg (by decide), if_neg (by decide), if_neg (by decide), if_neg (by decide), if_neg (by decide), if_neg (by decide), if_pos rfl]; rfl⟩
    rw [hf]
    clear hf HFS2 hu2
    obtain ⟨lq119, lq108, lq110, lq120, lq98, lq115, lq99, lq97, lq105, lq106, lq74, lq102, lq109, lq116, lq107⟩ := lq_6
    generalize letter 6 = L at *
    go_upto_region 14 with (fail)
    have H3 := Aside0.mk (H2.out.set 1 (.int .u8 (numR s t 1).1) (⟨t.1, (numR s t 1).1, false, 0, 0, 0, [], []⟩ : S82) rfl rfl rfl)
    have HO3 := HO2
    clear d0_2 d1_2 d2_2 d3_2 d4_2 d7_2 df_2
    generalize World.setCell _ ⟨bx, 1, none⟩ _ = W3 at *
    obtain ⟨d0_3, d1_3, d2_3, d3_3, d4_3, d7_3, df_3⟩ := H3.out.c7
    dsimp only at d0_3 d1_3 d2_3 d3_3 d4_3
    go_upto_region 46 with (first | (go_at_call 126; refine (num_any w0 _ g s (numR s t 1).2 1 1 rfl (by decide) HO3.out H3.out.cs.ri).mono ?_; rintro e4 w4 ⟨rfl, hI4, hk4⟩; have H4 := Aside0.mk (H3.out.rd hI4 hk4); have HO4 := Aside0.mk (HO3.out.num 1); obtain ⟨d0_4, d1_4, d2_4, d3_4, d4_4, d7_4, df_4⟩ := H4.out.c7; dsimp only at d0_4 d1_4 d2_4 d3_4 d4_4; clear hI4 hk4) | go_in)
    have H5 := Aside0.mk (H4.out.set 3 (.int .i64 (numR s (numR s t 1).2 1).1) (⟨t.1, (numR s t 1).1, false, (numR s (numR s t 1).2 1).1, 0, 0, [], []⟩ : S82) rfl rfl rfl)
    have HO5 := HO4
    clear d0_4 d1_4 d2_4 d3_4 d4_4 d7_4 df_4
    generalize World.setCell _ ⟨bx, 3, none⟩ _ = W5 at *
    obtain ⟨d0_5, d1_5, d2_5, d3_5, d4_5, d7_5, df_5⟩ := H5.out.c7
    dsimp only at d0_5 d1_5 d2_5 d3_5 d4_5
    have E := Aside0.mk H5.out.oe
    clear d0_5 d1_5 d2_5 d3_5 d4_5 d7_5 df_5
    obtain ⟨c0, c1, c2, c3, c4, c5, c6, c7⟩ := E.out.c8
    (try dsimp only at c0 c1 c2 c3 c4 c5)
    obtain ⟨r0, r1, r2, r3, r4, r5, r6, r7, rf⟩ := E.out.r8
    have HFIN := Aside0.mk (E.out.fin HWW.out)
    go_wp2
    refine bodyPost_ret (results_cell_row rfl _ _ (w.heap.size) 82 _ (0, 0) _ rfl HFIN.out.1 Try.underlying82 rfl (by kernel_rfl)) rfl ?_
    rw [HM.out]
    refine ⟨_, _, rfl, ?_, ?_, ?_, ?_, ?_⟩
    · exact HFIN.out.2.1
    · exact HFIN.out.2.2.1
    · exact HFIN.out.2.2.2.1
    · exact E.out.ap
    · exact HFIN.out.2.2.2.2
  · have HM : Aside0 (oneD s t = ((⟨t.1, (numR s t 1).1, false, (numR s (numR s t 1).2 1).1, (sgnR s (numR s (numR s t 1).2 1).2 1).1, 0, [], []⟩ : S82), (sgnR s (numR s (numR s t 1).2 1).2 1).2)) := ⟨by unfold oneD bodyD; rw [hf, if_neg (by decide), if_neg (by decide), if_neg (by decide), if_neg (by decide), if_neg (by decide), if_neg (by decide), if_neg (by decide), if_pos rfl]; rfl⟩
    rw [hf]
    clear hf HFS2 hu2
    obtain ⟨lq119, lq108, lq110, lq120, lq98, lq115, lq99, lq97, lq105, lq106, lq74, lq102, lq109, lq116, lq107⟩ := lq_7
    generalize letter 7 = L at *
    go_upto_region 14 with (fail)
    have H3 := Aside0.mk (H2.out.set 1 (.int .u8 (numR s t 1).1) (⟨t.1, (numR s t 1).1, false, 0, 0, 0, [], []⟩ : S82) rfl rfl rfl)
    have HO3 := HO2
    clear d0_2 d1_2 d2_2 d3_2 d4_2 d7_2 df_2
    generalize World.setCell _ ⟨bx, 1, none⟩ _ = W3 at *
    obtain ⟨d0_3, d1_3, d2_3, d3_3, d4_3, d7_3, df_3⟩ := H3.out.c7
    dsimp only at d0_3 d1_3 d2_3 d3_3 d4_3
    go_upto_region 32 with (first | (go_at_call 126; refine (num_any w0 _ g s (numR s t 1).2 1 1 rfl (by decide) HO3.out H3.out.cs.ri).mono ?_; rintro e4 w4 ⟨rfl, hI4, hk4⟩; have H4 := Aside0.mk (H3.out.rd hI4 hk4); have HO4 := Aside0.mk (HO3.out.num 1); obtain ⟨d0_4, d1_4, d2_4, d3_4, d4_4, d7_4, df_4⟩ := H4.out.c7; dsimp only at d0_4 d1_4 d2_4 d3_4 d4_4; clear hI4 hk4) | go_in)
    have H5 := Aside0.mk (H4.out.set 3 (.int .i64 (numR s (numR s t 1).2 1).1) (⟨t.1, (numR s t 1).1, false, (numR s (numR s t 1).2 1).1, 0, 0, [], []⟩ : S82) rfl rfl rfl)
    have HO5 := HO4
    clear d0_4 d1_4 d2_4 d3_4 d4_4 d7_4 df_4
    generalize World.setCell _ ⟨bx, 3, none⟩ _ = W5 at *
    obtain ⟨d0_5, d1_5, d2_5, d3_5, d4_5, d7_5, df_5⟩ := H5.out.c7
    dsimp only at d0_5 d1_5 d2_5 d3_5 d4_5
    go_upto_region 46 with (first | (go_at_call 127; refine (signed_d w0 _ g s (numR s (numR s t 1).2 1).2 1 1 rfl (.inl rfl) HO5.out H5.out.cs.ri).mono ?_; rintro e6 w6 ⟨rfl, hI6, hk6⟩; have H6 := Aside0.mk (H5.out.rd hI6 hk6); have HO6 := Aside0.mk (HO5.out.sgn 1); obtain ⟨d0_6, d1_6, d2_6, d3_6, d4_6, d7_6, df_6⟩ := H6.out.c7; dsimp only at d0_6 d1_6 d2_6 d3_6 d4_6; clear hI6 hk6) | go_in)
    have H7 := Aside0.mk (H6.out.set 4 (.int .i64 (sgnR s (numR s (numR s t 1).2 1).2 1).1) (⟨t.1, (numR s t 1).1, false, (numR s (numR s t 1).2 1).1, (sgnR s (numR s (numR s t 1).2 1).2 1).1, 0, [], []⟩ : S82) rfl rfl rfl)
    have HO7 := HO6
    clear d0_6 d1_6 d2_6 d3_6 d4_6 d7_6 df_6
    generalize World.setCell _ ⟨bx, 4, none⟩ _ = W7 at *
    obtain ⟨d0_7, d1_7, d2_7, d3_7, d4_7, d7_7, df_7⟩ := H7.out.c7
    dsimp only at d0_7 d1_7 d2_7 d3_7 d4_7
    have E := Aside0.mk H7.out.oe
    clear d0_7 d1_7 d2_7 d3_7 d4_7 d7_7 df_7
    obtain ⟨c0, c1, c2, c3, c4, c5, c6, c7⟩ := E.out.c8
    (try dsimp only at c0 c1 c2 c3 c4 c5)
    obtain ⟨r0, r1, r2, r3, r4, r5, r6, r7, rf⟩ := E.out.r8
    have HFIN := Aside0.mk (E.out.fin HWW.out)
    go_wp2
    refine bodyPost_ret (results_cell_row rfl _ _ (w.heap.size) 82 _ (0, 0) _ rfl HFIN.out.1 Try.underlying82 rfl (by kernel_rfl)) rfl ?_
    rw [HM.out]
    refine ⟨_, _, rfl, ?_, ?_, ?_, ?_, ?_⟩
    · exact HFIN.out.2.1
    · exact HFIN.out.2.2.1
    · exact HFIN.out.2.2.2.1
    · exact E.out.ap
    · exact HFIN.out.2.2.2.2
  · have HM : Aside0 (oneD s t = ((⟨t.1, (numR s t 1).1, false, 0, 0, 0, [], [wrap64 (t.1 + (sgnR s (numR s t 1).2 2).1)]⟩ : S82), (sgnR s (numR s t 1).2 2).2)) := ⟨by unfold oneD bodyD; rw [hf, if_neg (by decide), if_neg (by decide), if_neg (by decide), if_neg (by decide), if_neg (by decide), if_neg (by decide), if_neg (by decide), if_neg (by decide), if_pos rfl]; rfl⟩
    rw [hf]
    clear hf HFS2 hu2
    obtain ⟨lq119, lq108, lq110, lq120, lq98, lq115, lq99, lq97, lq105, lq106, lq74, lq102, lq109, lq116, lq107⟩ := lq_8
    generalize letter 8 = L at *
    go_upto_region 14 with (fail)
    have H3 := Aside0.mk (H2.out.set 1 (.int .u8 (numR s t 1).1) (⟨t.1, (numR s t 1).1, false, 0, 0, 0, [], []⟩ : S82) rfl rfl rfl)
    have HO3 := HO2
    clear d0_2 d1_2 d2_2 d3_2 d4_2 d7_2 df_2
    generalize World.setCell _ ⟨bx, 1, none⟩ _ = W3 at *
    obtain ⟨d0_3, d1_3, d2_3, d3_3, d4_3, d7_3, df_3⟩ := H3.out.c7
    dsimp only at d0_3 d1_3 d2_3 d3_3 d4_3
    go_upto_region 34 with (fail)
    have HD := Aside0.mk H3.out.drew
    clear d0_3 d1_3 d2_3 d3_3 d4_3 d7_3 df_3
    refine start_ (n := 8) (S := fun w' => w'.cell? ⟨bx, 0, none⟩ = some (.int .i64 t.1)) (ds := [7]) #[false, false, false, false, false, false, false, false] (by kernel_rfl) rfl rfl ((blk_cell HD.out.cs.ins 0)) (fun hHeld => ?_)
    refine pure_ (i := 0) (N := some 98) (v := ?_) (a' := ?_) #[true, false, false, false, false, false, false, false] rfl rfl (by kernel_rfl) (fun _ _ _ h => h) (Or.inl ⟨by rfl, ?_⟩) ?_ ?_
    rotate_left
    · intro w'
      go_simp
      with_reducible rfl
    rotate_left
    · simp only [Act.put, List.setIfInBounds_toArray, List.set_cons_zero, List.set_cons_succ, i64_w, i32_w]
      rfl
    refine pure_ (i := 2) (N := some 100) (v := ?_) (a' := ?_) #[true, false, true, false, false, false, false, false] rfl rfl (by kernel_rfl) (fun _ _ _ h => h) (Or.inl ⟨by rfl, ?_⟩) ?_ ?_
    rotate_left
    · intro w'
      go_simp
      with_reducible rfl
    rotate_left
    · simp only [Act.put, List.setIfInBounds_toArray, List.set_cons_zero, List.set_cons_succ, i64_w, i32_w]
      rfl
    refine take_ (i := 1) (N := some 99) (v := ?_) (a' := ?_) #[true, true, true, false, false, false, false, false] rfl rfl (by kernel_rfl) (fun _ _ _ h => h) (Or.inl ⟨by rfl, ?_⟩) hHeld ?_ ?_
    rotate_left
    · intro w' s0
      go_simp
      with_reducible rfl
    rotate_left
    · simp only [Act.put, List.setIfInBounds_toArray, List.set_cons_zero, List.set_cons_succ, i64_w, i32_w]
      rfl
    refine one_ (i := 3) (N := some 101) #[true, true, true, true, false, false, false, false] rfl rfl (by kernel_rfl) (by decide) (fun K hK => ?_)
    refine goes_ Try.func127 (by kernel_rfl) rfl #[.pointer (some ⟨g, 0, none⟩), .int .i64 2] (by rfl) rfl rfl (by simp only [List.map_toArray, List.map_cons, List.map_nil]; rfl) ?_
    with_reducible refine (signed_d w0 _ g s (numR s t 1).2 2 2 rfl (.inr (.inl rfl)) HO3.out HD.out.cs.ri).mono ?_
    rintro e4 w4 ⟨rfl, hI4, hk4⟩
    refine ⟨_, rfl, ?_⟩
    have HQ := Aside0.mk (HD.out.rd hI4 hk4)
    clear hI4 hk4
    refine hK.out _ _ ((blk_cell HQ.out.cs.ins 0)) (fun hHeld => ?_)
    clear hK K
    refine norm_ (a' := ?_) ?_ ?_
    rotate_left
    · show Act.put _ (some 101) _ = _
      simp only [Act.put, List.setIfInBounds_toArray, List.set_cons_zero, List.set_cons_succ, i64_w, i32_w]
      rfl
    refine pure_ (i := 4) (N := some 102) (v := ?_) (a' := ?_) #[true, true, true, true, true, false, false, false] rfl rfl (by kernel_rfl) (fun _ _ _ h => h) (Or.inl ⟨by rfl, ?_⟩) ?_ ?_
    rotate_left
    · intro w'
      go_simp
      with_reducible rfl
    rotate_left
    · simp only [Act.put, List.setIfInBounds_toArray, List.set_cons_zero, List.set_cons_succ, i64_w, i32_w]
      rfl
    refine one_ (i := 5) (N := some 103) #[true, true, true, true, true, true, false, false] rfl rfl (by kernel_rfl) (by decide) (fun K hK => ?_)
    refine value_ (w1 := ?_) (v := ?_) (by rfl) rfl ?_ ?_
    rotate_left 2
    · go_simp
      constructor
      · rfl
      · rfl
    refine hK.out _ _ ((pw_cell_below (below_alloc (Below.refl _ _) _) (blk_cell HQ.out.cs.ins 0))) (fun hHeld => ?_)
    clear hK K
    refine norm_ (a' := ?_) ?_ ?_
    rotate_left
    · show Act.put _ (some 103) _ = _
      simp only [Act.put, List.setIfInBounds_toArray, List.set_cons_zero, List.set_cons_succ, i64_w, i32_w]
      rfl
    refine pure_ (i := 6) (N := some 104) (v := ?_) (a' := ?_) #[true, true, true, true, true, true, true, false] rfl rfl (by kernel_rfl) (fun _ _ _ h => h) (Or.inl ⟨by rfl, ?_⟩) ?_ ?_
    rotate_left
    · intro w'
      go_simp
      with_reducible rfl
    rotate_left
    · simp only [Act.put, List.setIfInBounds_toArray, List.set_cons_zero, List.set_cons_succ, i64_w, i32_w]
      rfl
    refine last_ (i := 7) (N := none) #[true, true, true, true, true, true, true, true] rfl rfl (by kernel_rfl) (by decide) (fun K hK => ?_)
    have ca7 := fun o => (pw_cell_below (below_alloc (Below.refl w4.heap.size w4) o) (blk_cell HQ.out.cs.ins 7) : (w4.alloc o).cell? ⟨bx, 7, none⟩ = some (.slice none 0 0))
    have cf7 := fun o => blk_frozen (HQ.out.below (below_alloc (Below.refl w4.heap.size w4) o)).cs.ins 7
    refine skip_ (w1 := ?_) (by rfl) rfl ?_ ?_
    rotate_left
    · go_simp
      rfl
    refine hK.out _ _ ?_
    clear hK K
    refine done_ (by kernel_rfl) ?_
    have H9 := Aside0.mk (HQ.out.put7 (y := wrap64 (t.1 + (sgnR s (numR s t 1).2 2).1)) HWW.out)
    clear ca7 cf7
    try clear hHeld
    generalize World.setCell _ ⟨bx, 7, none⟩ _ = W9 at *
    have E := Aside0.mk H9.out.oe
    obtain ⟨c0, c1, c2, c3, c4, c5, c6, c7⟩ := E.out.c8
    (try dsimp only at c0 c1 c2 c3 c4 c5)
    obtain ⟨r0, r1, r2, r3, r4, r5, r6, r7, rf⟩ := E.out.r8
    have HFIN := Aside0.mk (E.out.fin HWW.out)
    go_wp2
    refine bodyPost_ret (results_cell_row rfl _ _ (w.heap.size) 82 _ (0, 0) _ rfl HFIN.out.1 Try.underlying82 rfl (by kernel_rfl)) rfl ?_
    rw [HM.out]
    refine ⟨_, _, rfl, ?_, ?_, ?_, ?_, ?_⟩
    · exact HFIN.out.2.1
    · exact HFIN.out.2.2.1
    · exact HFIN.out.2.2.2.1
    · exact E.out.ap
    · exact HFIN.out.2.2.2.2
  · have HM : Aside0 (oneD s t = ((⟨t.1, (numR s t 1).1, false, 0, 0, 0, [], [wrap64 (t.1 + (sgnR s (numR s t 1).2 4).1)]⟩ : S82), (sgnR s (numR s t 1).2 4).2)) := ⟨by unfold oneD bodyD; rw [hf, if_neg (by decide), if_neg (by decide), if_neg (by decide), if_neg (by decide), if_neg (by decide), if_neg (by decide), if_neg (by decide), if_neg (by decide), if_neg (by decide), if_pos rfl]; rfl⟩
    rw [hf]
    clear hf HFS2 hu2
    obtain ⟨lq119, lq108, lq110, lq120, lq98, lq115, lq99, lq97, lq105, lq106, lq74, lq102, lq109, lq116, lq107⟩ := lq_9
    generalize letter 9 = L at *
    go_upto_region 14 with (fail)
    have H3 := Aside0.mk (H2.out.set 1 (.int .u8 (numR s t 1).1) (⟨t.1, (numR s t 1).1, false, 0, 0, 0, [], []⟩ : S82) rfl rfl rfl)
    have HO3 := HO2
    clear d0_2 d1_2 d2_2 d3_2 d4_2 d7_2 df_2
    generalize World.setCell _ ⟨bx, 1, none⟩ _ = W3 at *
    obtain ⟨d0_3, d1_3, d2_3, d3_3, d4_3, d7_3, df_3⟩ := H3.out.c7
    dsimp only at d0_3 d1_3 d2_3 d3_3 d4_3
    go_upto_region 36 with (fail)
    have HD := Aside0.mk H3.out.drew
    clear d0_3 d1_3 d2_3 d3_3 d4_3 d7_3 df_3
    refine start_ (n := 8) (S := fun w' => w'.cell? ⟨bx, 0, none⟩ = some (.int .i64 t.1)) (ds := [7]) #[false, false, false, false, false, false, false, false] (by kernel_rfl) rfl rfl ((blk_cell HD.out.cs.ins 0)) (fun hHeld => ?_)
    refine pure_ (i := 0) (N := some 107) (v := ?_) (a' := ?_) #[true, false, false, false, false, false, false, false] rfl rfl (by kernel_rfl) (fun _ _ _ h => h) (Or.inl ⟨by rfl, ?_⟩) ?_ ?_
    rotate_left
    · intro w'
      go_simp
      with_reducible rfl
    rotate_left
    · simp only [Act.put, List.setIfInBounds_toArray, List.set_cons_zero, List.set_cons_succ, i64_w, i32_w]
      rfl
    refine pure_ (i := 2) (N := some 109) (v := ?_) (a' := ?_) #[true, false, true, false, false, false, false, false] rfl rfl (by kernel_rfl) (fun _ _ _ h => h) (Or.inl ⟨by rfl, ?_⟩) ?_ ?_
    rotate_left
    · intro w'
      go_simp
      with_reducible rfl
    rotate_left
    · simp only [Act.put, List.setIfInBounds_toArray, List.set_cons_zero, List.set_cons_succ, i64_w, i32_w]
      rfl
    refine take_ (i := 1) (N := some 108) (v := ?_) (a' := ?_) #[true, true, true, false, false, false, false, false] rfl rfl (by kernel_rfl) (fun _ _ _ h => h) (Or.inl ⟨by rfl, ?_⟩) hHeld ?_ ?_
    rotate_left
    · intro w' s0
      go_simp
      with_reducible rfl
    rotate_left
    · simp only [Act.put, List.setIfInBounds_toArray, List.set_cons_zero, List.set_cons_succ, i64_w, i32_w]
      rfl
    refine one_ (i := 3) (N := some 110) #[true, true, true, true, false, false, false, false] rfl rfl (by kernel_rfl) (by decide) (fun K hK => ?_)
    refine goes_ Try.func127 (by kernel_rfl) rfl #[.pointer (some ⟨g, 0, none⟩), .int .i64 4] (by rfl) rfl rfl (by simp only [List.map_toArray, List.map_cons, List.map_nil]; rfl) ?_
    with_reducible refine (signed_d w0 _ g s (numR s t 1).2 4 4 rfl (.inr (.inr rfl)) HO3.out HD.out.cs.ri).mono ?_
    rintro e4 w4 ⟨rfl, hI4, hk4⟩
    refine ⟨_, rfl, ?_⟩
    have HQ := Aside0.mk (HD.out.rd hI4 hk4)
    clear hI4 hk4
    refine hK.out _ _ ((blk_cell HQ.out.cs.ins 0)) (fun hHeld => ?_)
    clear hK K
    refine norm_ (a' := ?_) ?_ ?_
    rotate_left
    · show Act.put _ (some 110) _ = _
      simp only [Act.put, List.setIfInBounds_toArray, List.set_cons_zero, List.set_cons_succ, i64_w, i32_w]
      rfl
    refine pure_ (i := 4) (N := some 111) (v := ?_) (a' := ?_) #[true, true, true, true, true, false, false, false] rfl rfl (by kernel_rfl) (fun _ _ _ h => h) (Or.inl ⟨by rfl, ?_⟩) ?_ ?_
    rotate_left
    · intro w'
      go_simp
      with_reducible rfl
    rotate_left
    · simp only [Act.put, List.setIfInBounds_toArray, List.set_cons_zero, List.set_cons_succ, i64_w, i32_w]
      rfl
    refine one_ (i := 5) (N := some 112) #[true, true, true, true, true, true, false, false] rfl rfl (by kernel_rfl) (by decide) (fun K hK => ?_)
    refine value_ (w1 := ?_) (v := ?_) (by rfl) rfl ?_ ?_
    rotate_left 2
    · go_simp
      constructor
      · rfl
      · rfl
    refine hK.out _ _ ((pw_cell_below (below_alloc (Below.refl _ _) _) (blk_cell HQ.out.cs.ins 0))) (fun hHeld => ?_)
    clear hK K
    refine norm_ (a' := ?_) ?_ ?_
    rotate_left
    · show Act.put _ (some 112) _ = _
      simp only [Act.put, List.setIfInBounds_toArray, List.set_cons_zero, List.set_cons_succ, i64_w, i32_w]
      rfl
    refine pure_ (i := 6) (N := some 113) (v := ?_) (a' := ?_) #[true, true, true, true, true, true, true, false] rfl rfl (by kernel_rfl) (fun _ _ _ h => h) (Or.inl ⟨by rfl, ?_⟩) ?_ ?_
    rotate_left
    · intro w'
      go_simp
      with_reducible rfl
    rotate_left
    · simp only [Act.put, List.setIfInBounds_toArray, List.set_cons_zero, List.set_cons_succ, i64_w, i32_w]
      rfl
    refine last_ (i := 7) (N := none) #[true, true, true, true, true, true, true, true] rfl rfl (by kernel_rfl) (by decide) (fun K hK => ?_)
    have ca7 := fun o => (pw_cell_below (below_alloc (Below.refl w4.heap.size w4) o) (blk_cell HQ.out.cs.ins 7) : (w4.alloc o).cell? ⟨bx, 7, none⟩ = some (.slice none 0 0))
    have cf7 := fun o => blk_frozen (HQ.out.below (below_alloc (Below.refl w4.heap.size w4) o)).cs.ins 7
    refine skip_ (w1 := ?_) (by rfl) rfl ?_ ?_
    rotate_left
    · go_simp
      rfl
    refine hK.out _ _ ?_
    clear hK K
    refine done_ (by kernel_rfl) ?_
    have H9 := Aside0.mk (HQ.out.put7 (y := wrap64 (t.1 + (sgnR s (numR s t 1).2 4).1)) HWW.out)
    clear ca7 cf7
    try clear hHeld
    generalize World.setCell _ ⟨bx, 7, none⟩ _ = W9 at *
    have E := Aside0.mk H9.out.oe
    obtain ⟨c0, c1, c2, c3, c4, c5, c6, c7⟩ := E.out.c8
    (try dsimp only at c0 c1 c2 c3 c4 c5)
    obtain ⟨r0, r1, r2, r3, r4, r5, r6, r7, rf⟩ := E.out.r8
    have HFIN := Aside0.mk (E.out.fin HWW.out)
    go_wp2
    refine bodyPost_ret (results_cell_row rfl _ _ (w.heap.size) 82 _ (0, 0) _ rfl HFIN.out.1 Try.underlying82 rfl (by kernel_rfl)) rfl ?_
    rw [HM.out]
    refine ⟨_, _, rfl, ?_, ?_, ?_, ?_, ?_⟩
    · exact HFIN.out.2.1
    · exact HFIN.out.2.2.1
    · exact HFIN.out.2.2.2.1
    · exact E.out.ap
    · exact HFIN.out.2.2.2.2
  · have HM : Aside0 (oneD s t = choD s (⟨t.1, (numR s t 1).1, false, 0, 0, 0, [], []⟩ : S82) 10 (numR s t 1).2) := ⟨by unfold oneD bodyD; rw [hf, if_neg (by decide), if_neg (by decide), if_neg (by decide), if_neg (by decide), if_neg (by decide), if_neg (by decide), if_neg (by decide), if_neg (by decide), if_neg (by decide), if_neg (by decide)]; rfl⟩
    rw [hf]
    clear hf HFS2 hu2
    obtain ⟨lq119, lq108, lq110, lq120, lq98, lq115, lq99, lq97, lq105, lq106, lq74, lq102, lq109, lq116, lq107⟩ := lq_10
    generalize letter 10 = L at *
    go_upto_region 14 with (fail)
    have H3 := Aside0.mk (H2.out.set 1 (.int .u8 (numR s t 1).1) (⟨t.1, (numR s t 1).1, false, 0, 0, 0, [], []⟩ : S82) rfl rfl rfl)
    have HO3 := HO2
    clear d0_2 d1_2 d2_2 d3_2 d4_2 d7_2 df_2
    generalize World.setCell _ ⟨bx, 1, none⟩ _ = W3 at *
    obtain ⟨d0_3, d1_3, d2_3, d3_3, d4_3, d7_3, df_3⟩ := H3.out.c7
    dsimp only at d0_3 d1_3 d2_3 d3_3 d4_3
    go_upto_region 46 with (first | (go_at_call 128; refine (cho_d10 w0 _ g s (numR s t 1).2 bx (⟨t.1, (numR s t 1).1, false, 0, 0, 0, [], []⟩ : S82) HO3.out H3.out.cs.ri H3.out.cs.ins rfl rfl H3.out.cs.new).mono ?_; rintro e4 w4 ⟨rfl, v6, v7, h4⟩; have E := Aside0.mk (H3.out.cho h4).oe; clear h4) | go_in)
    clear d0_3 d1_3 d2_3 d3_3 d4_3 d7_3 df_3
    generalize choD s (⟨t.1, (numR s t 1).1, false, 0, 0, 0, [], []⟩ : S82) 10 (numR s t 1).2 = p at *
    obtain ⟨u6, k6, e6⟩ := Kd.R_slice E.out.r6
    subst e6
    obtain ⟨u7, k7, e7⟩ := Kd.R_slice E.out.r7
    subst e7
    obtain ⟨c0, c1, c2, c3, c4, c5, c6, c7⟩ := E.out.c8
    (try dsimp only at c0 c1 c2 c3 c4 c5)
    obtain ⟨r0, r1, r2, r3, r4, r5, r6, r7, rf⟩ := E.out.r8
    have HFIN := Aside0.mk (E.out.fin HWW.out)
    go_wp2
    refine bodyPost_ret (results_cell_row rfl _ _ (w.heap.size) 82 _ (0, 0) _ rfl HFIN.out.1 Try.underlying82 rfl (by kernel_rfl)) rfl ?_
    rw [HM.out]
    refine ⟨_, _, rfl, ?_, ?_, ?_, ?_, ?_⟩
    · exact HFIN.out.2.1
    · exact HFIN.out.2.2.1
    · exact HFIN.out.2.2.2.1
    · exact E.out.ap
    · exact HFIN.out.2.2.2.2
  · have HM : Aside0 (oneD s t = choD s (⟨t.1, (numR s t 1).1, false, 0, 0, 0, [], []⟩ : S82) 11 (numR s t 1).2) := ⟨by unfold oneD bodyD; rw [hf, if_neg (by decide), if_neg (by decide), if_neg (by decide), if_neg (by decide), if_neg (by decide), if_neg (by decide), if_neg (by decide), if_neg (by decide), if_neg (by decide), if_neg (by decide)]; rfl⟩
    rw [hf]
    clear hf HFS2 hu2
    obtain ⟨lq119, lq108, lq110, lq120, lq98, lq115, lq99, lq97, lq105, lq106, lq74, lq102, lq109, lq116, lq107⟩ := lq_11
    generalize letter 11 = L at *
    go_upto_region 14 with (fail)
    have H3 := Aside0.mk (H2.out.set 1 (.int .u8 (numR s t 1).1) (⟨t.1, (numR s t 1).1, false, 0, 0, 0, [], []⟩ : S82) rfl rfl rfl)
    have HO3 := HO2
    clear d0_2 d1_2 d2_2 d3_2 d4_2 d7_2 df_2
    generalize World.setCell _ ⟨bx, 1, none⟩ _ = W3 at *
    obtain ⟨d0_3, d1_3, d2_3, d3_3, d4_3, d7_3, df_3⟩ := H3.out.c7
    dsimp only at d0_3 d1_3 d2_3 d3_3 d4_3
    go_upto_region 46 with (first | (go_at_call 128; refine (cho_d11 w0 _ g s (numR s t 1).2 bx (⟨t.1, (numR s t 1).1, false, 0, 0, 0, [], []⟩ : S82) HO3.out H3.out.cs.ri H3.out.cs.ins rfl rfl H3.out.cs.new).mono ?_; rintro e4 w4 ⟨rfl, v6, v7, h4⟩; have E := Aside0.mk (H3.out.cho h4).oe; clear h4) | go_in)
    clear d0_3 d1_3 d2_3 d3_3 d4_3 d7_3 df_3
    generalize choD s (⟨t.1, (numR s t 1).1, false, 0, 0, 0, [], []⟩ : S82) 11 (numR s t 1).2 = p at *
    obtain ⟨u6, k6, e6⟩ := Kd.R_slice E.out.r6
    subst e6
    obtain ⟨u7, k7, e7⟩ := Kd.R_slice E.out.r7
    subst e7
    obtain ⟨c0, c1, c2, c3, c4, c5, c6, c7⟩ := E.out.c8
    (try dsimp only at c0 c1 c2 c3 c4 c5)
    obtain ⟨r0, r1, r2, r3, r4, r5, r6, r7, rf⟩ := E.out.r8
    have HFIN := Aside0.mk (E.out.fin HWW.out)
    go_wp2
    refine bodyPost_ret (results_cell_row rfl _ _ (w.heap.size) 82 _ (0, 0) _ rfl HFIN.out.1 Try.underlying82 rfl (by kernel_rfl)) rfl ?_
    rw [HM.out]
    refine ⟨_, _, rfl, ?_, ?_, ?_, ?_, ?_⟩
    · exact HFIN.out.2.1
    · exact HFIN.out.2.2.1
    · exact HFIN.out.2.2.2.1
    · exact E.out.ap
    · exact HFIN.out.2.2.2.2
  · have HM : Aside0 (oneD s t = ((⟨t.1, (numR s t 1).1, false, (numR s (numR s t 1).2 2).1, (numR s (numR s (numR s t 1).2 2).2 1).1, 0, [], []⟩ : S82), if (numR s (numR s (numR s (numR s t 1).2 2).2 1).2 1).1 ≠ 0 ∨ (numR s (numR s (numR s t 1).2 2).2 1).1 = 0 then failR (numR s (numR s (numR s (numR s t 1).2 2).2 1).2 1).2 15 t.1 else (numR s (numR s (numR s (numR s t 1).2 2).2 1).2 1).2)) := ⟨by unfold oneD bodyD; rw [hf, if_neg (by decide), if_neg (by decide), if_neg (by decide), if_neg (by decide), if_neg (by decide), if_neg (by decide), if_neg (by decide), if_neg (by decide), if_neg (by decide), if_neg (by decide)]; rfl⟩
    rw [hf]
    clear hf HFS2 hu2
    obtain ⟨lq119, lq108, lq110, lq120, lq98, lq115, lq99, lq97, lq105, lq106, lq74, lq102, lq109, lq116, lq107⟩ := lq_12
    generalize letter 12 = L at *
    go_upto_region 14 with (fail)
    have H3 := Aside0.mk (H2.out.set 1 (.int .u8 (numR s t 1).1) (⟨t.1, (numR s t 1).1, false, 0, 0, 0, [], []⟩ : S82) rfl rfl rfl)
    have HO3 := HO2
    clear d0_2 d1_2 d2_2 d3_2 d4_2 d7_2 df_2
    generalize World.setCell _ ⟨bx, 1, none⟩ _ = W3 at *
    obtain ⟨d0_3, d1_3, d2_3, d3_3, d4_3, d7_3, df_3⟩ := H3.out.c7
    dsimp only at d0_3 d1_3 d2_3 d3_3 d4_3
    go_upto_region 40 with (first | (go_at_call 126; refine (num_any w0 _ g s (numR s t 1).2 2 2 rfl (by decide) HO3.out H3.out.cs.ri).mono ?_; rintro e4 w4 ⟨rfl, hI4, hk4⟩; have H4 := Aside0.mk (H3.out.rd hI4 hk4); have HO4 := Aside0.mk (HO3.out.num 2); obtain ⟨d0_4, d1_4, d2_4, d3_4, d4_4, d7_4, df_4⟩ := H4.out.c7; dsimp only at d0_4 d1_4 d2_4 d3_4 d4_4; clear hI4 hk4) | go_in)
    have H5 := Aside0.mk (H4.out.set 3 (.int .i64 (numR s (numR s t 1).2 2).1) (⟨t.1, (numR s t 1).1, false, (numR s (numR s t 1).2 2).1, 0, 0, [], []⟩ : S82) rfl rfl rfl)
    have HO5 := HO4
    clear d0_4 d1_4 d2_4 d3_4 d4_4 d7_4 df_4
    generalize World.setCell _ ⟨bx, 3, none⟩ _ = W5 at *
    obtain ⟨d0_5, d1_5, d2_5, d3_5, d4_5, d7_5, df_5⟩ := H5.out.c7
    dsimp only at d0_5 d1_5 d2_5 d3_5 d4_5
    go_upto_region 41 with (first | (go_at_call 126; refine (num_any w0 _ g s (numR s (numR s t 1).2 2).2 1 1 rfl (by decide) HO5.out H5.out.cs.ri).mono ?_; rintro e6 w6 ⟨rfl, hI6, hk6⟩; have H6 := Aside0.mk (H5.out.rd hI6 hk6); have HO6 := Aside0.mk (HO5.out.num 1); obtain ⟨d0_6, d1_6, d2_6, d3_6, d4_6, d7_6, df_6⟩ := H6.out.c7; dsimp only at d0_6 d1_6 d2_6 d3_6 d4_6; clear hI6 hk6) | go_in)
    have H7 := Aside0.mk (H6.out.set 4 (.int .i64 (numR s (numR s (numR s t 1).2 2).2 1).1) (⟨t.1, (numR s t 1).1, false, (numR s (numR s t 1).2 2).1, (numR s (numR s (numR s t 1).2 2).2 1).1, 0, [], []⟩ : S82) rfl rfl rfl)
    have HO7 := HO6
    clear d0_6 d1_6 d2_6 d3_6 d4_6 d7_6 df_6
    generalize World.setCell _ ⟨bx, 4, none⟩ _ = W7 at *
    obtain ⟨d0_7, d1_7, d2_7, d3_7, d4_7, d7_7, df_7⟩ := H7.out.c7
    dsimp only at d0_7 d1_7 d2_7 d3_7 d4_7
    by_cases hC : (numR s (numR s (numR s (numR s t 1).2 2).2 1).2 1).1 = 0
    · have c1 : ((numR s (numR s (numR s (numR s t 1).2 2).2 1).2 1).1 != 0) = false := bne_eq_false_iff_eq.2 hC
      by_cases hB : (numR s (numR s (numR s t 1).2 2).2 1).1 = 0
      · have b1 : ((numR s (numR s (numR s t 1).2 2).2 1).1 == 0) = true := beq_iff_eq.2 hB
        have HM2 := Aside0.mk (HM.out.trans (show ((⟨t.1, (numR s t 1).1, false, (numR s (numR s t 1).2 2).1, (numR s (numR s (numR s t 1).2 2).2 1).1, 0, [], []⟩ : S82), if (numR s (numR s (numR s (numR s t 1).2 2).2 1).2 1).1 ≠ 0 ∨ (numR s (numR s (numR s t 1).2 2).2 1).1 = 0 then failR (numR s (numR s (numR s (numR s t 1).2 2).2 1).2 1).2 15 t.1 else (numR s (numR s (numR s (numR s t 1).2 2).2 1).2 1).2) = ((⟨t.1, (numR s t 1).1, false, (numR s (numR s t 1).2 2).1, (numR s (numR s (numR s t 1).2 2).2 1).1, 0, [], []⟩ : S82), failR (numR s (numR s (numR s (numR s t 1).2 2).2 1).2 1).2 15 t.1) by rw [if_pos (.inr hB)]))
        clear hB hC
        go_upto_region 46 with (first | (go_at_call 126; refine (num_any w0 _ g s (numR s (numR s (numR s t 1).2 2).2 1).2 1 1 rfl (by decide) HO7.out H7.out.cs.ri).mono ?_; rintro e8 w8 ⟨rfl, hI8, hk8⟩; have H8 := Aside0.mk (H7.out.rd hI8 hk8); have HO8 := Aside0.mk (HO7.out.num 1); obtain ⟨d0_8, d1_8, d2_8, d3_8, d4_8, d7_8, df_8⟩ := H8.out.c7; dsimp only at d0_8 d1_8 d2_8 d3_8 d4_8; clear hI8 hk8) | (go_at_call 97; refine (fail_any w0 _ g s (numR s (numR s (numR s (numR s t 1).2 2).2 1).2 1).2 15 t.1 H8.out.cs.ri).mono ?_; rintro e9 w9 ⟨rfl, hI9, hk9⟩; have H9 := Aside0.mk (H8.out.rd hI9 hk9); have HO9 := Aside0.mk (HO8.out.fail 15 t.1); obtain ⟨d0_9, d1_9, d2_9, d3_9, d4_9, d7_9, df_9⟩ := H9.out.c7; dsimp only at d0_9 d1_9 d2_9 d3_9 d4_9; clear hI9 hk9) | go_in)
        have E := Aside0.mk H9.out.oe
        obtain ⟨c0, c1, c2, c3, c4, c5, c6, c7⟩ := E.out.c8
        (try dsimp only at c0 c1 c2 c3 c4 c5)
        obtain ⟨r0, r1, r2, r3, r4, r5, r6, r7, rf⟩ := E.out.r8
        have HFIN := Aside0.mk (E.out.fin HWW.out)
        go_wp2
        refine bodyPost_ret (results_cell_row rfl _ _ (w.heap.size) 82 _ (0, 0) _ rfl HFIN.out.1 Try.underlying82 rfl (by kernel_rfl)) rfl ?_
        rw [HM2.out]
        refine ⟨_, _, rfl, ?_, ?_, ?_, ?_, ?_⟩
        · exact HFIN.out.2.1
        · exact HFIN.out.2.2.1
        · exact HFIN.out.2.2.2.1
        · exact E.out.ap
        · exact HFIN.out.2.2.2.2
      · have b1 : ((numR s (numR s (numR s t 1).2 2).2 1).1 == 0) = false := beq_eq_false_iff_ne.2 hB
        have HM2 := Aside0.mk (HM.out.trans (show ((⟨t.1, (numR s t 1).1, false, (numR s (numR s t 1).2 2).1, (numR s (numR s (numR s t 1).2 2).2 1).1, 0, [], []⟩ : S82), if (numR s (numR s (numR s (numR s t 1).2 2).2 1).2 1).1 ≠ 0 ∨ (numR s (numR s (numR s t 1).2 2).2 1).1 = 0 then failR (numR s (numR s (numR s (numR s t 1).2 2).2 1).2 1).2 15 t.1 else (numR s (numR s (numR s (numR s t 1).2 2).2 1).2 1).2) = ((⟨t.1, (numR s t 1).1, false, (numR s (numR s t 1).2 2).1, (numR s (numR s (numR s t 1).2 2).2 1).1, 0, [], []⟩ : S82), (numR s (numR s (numR s (numR s t 1).2 2).2 1).2 1).2) by rw [if_neg (fun h => h.elim (fun h => h hC) hB)]))
        clear hB hC
        go_upto_region 46 with (first | (go_at_call 126; refine (num_any w0 _ g s (numR s (numR s (numR s t 1).2 2).2 1).2 1 1 rfl (by decide) HO7.out H7.out.cs.ri).mono ?_; rintro e8 w8 ⟨rfl, hI8, hk8⟩; have H8 := Aside0.mk (H7.out.rd hI8 hk8); have HO8 := Aside0.mk (HO7.out.num 1); obtain ⟨d0_8, d1_8, d2_8, d3_8, d4_8, d7_8, df_8⟩ := H8.out.c7; dsimp only at d0_8 d1_8 d2_8 d3_8 d4_8; clear hI8 hk8) | go_in)
        have E := Aside0.mk H8.out.oe
        obtain ⟨c0, c1, c2, c3, c4, c5, c6, c7⟩ := E.out.c8
        (try dsimp only at c0 c1 c2 c3 c4 c5)
        obtain ⟨r0, r1, r2, r3, r4, r5, r6, r7, rf⟩ := E.out.r8
        have HFIN := Aside0.mk (E.out.fin HWW.out)
        go_wp2
        refine bodyPost_ret (results_cell_row rfl _ _ (w.heap.size) 82 _ (0, 0) _ rfl HFIN.out.1 Try.underlying82 rfl (by kernel_rfl)) rfl ?_
        rw [HM2.out]
        refine ⟨_, _, rfl, ?_, ?_, ?_, ?_, ?_⟩
        · exact HFIN.out.2.1
        · exact HFIN.out.2.2.1
        · exact HFIN.out.2.2.2.1
        · exact E.out.ap
        · exact HFIN.out.2.2.2.2
    · have c1 : ((numR s (numR s (numR s (numR s t 1).2 2).2 1).2 1).1 != 0) = true := bne_iff_ne.2 hC
      have HM2 := Aside0.mk (HM.out.trans (show ((⟨t.1, (numR s t 1).1, false, (numR s (numR s t 1).2 2).1, (numR s (numR s (numR s t 1).2 2).2 1).1, 0, [], []⟩ : S82), if (numR s (numR s (numR s (numR s t 1).2 2).2 1).2 1).1 ≠ 0 ∨ (numR s (numR s (numR s t 1).2 2).2 1).1 = 0 then failR (numR s (numR s (numR s (numR s t 1).2 2).2 1).2 1).2 15 t.1 else (numR s (numR s (numR s (numR s t 1).2 2).2 1).2 1).2) = ((⟨t.1, (numR s t 1).1, false, (numR s (numR s t 1).2 2).1, (numR s (numR s (numR s t 1).2 2).2 1).1, 0, [], []⟩ : S82), failR (numR s (numR s (numR s (numR s t 1).2 2).2 1).2 1).2 15 t.1) by rw [if_pos (.inl hC)]))
      clear hC
      go_upto_region 46 with (first | (go_at_call 126; refine (num_any w0 _ g s (numR s (numR s (numR s t 1).2 2).2 1).2 1 1 rfl (by decide) HO7.out H7.out.cs.ri).mono ?_; rintro e8 w8 ⟨rfl, hI8, hk8⟩; have H8 := Aside0.mk (H7.out.rd hI8 hk8); have HO8 := Aside0.mk (HO7.out.num 1); obtain ⟨d0_8, d1_8, d2_8, d3_8, d4_8, d7_8, df_8⟩ := H8.out.c7; dsimp only at d0_8 d1_8 d2_8 d3_8 d4_8; clear hI8 hk8) | (go_at_call 97; refine (fail_any w0 _ g s (numR s (numR s (numR s (numR s t 1).2 2).2 1).2 1).2 15 t.1 H8.out.cs.ri).mono ?_; rintro e9 w9 ⟨rfl, hI9, hk9⟩; have H9 := Aside0.mk (H8.out.rd hI9 hk9); have HO9 := Aside0.mk (HO8.out.fail 15 t.1); obtain ⟨d0_9, d1_9, d2_9, d3_9, d4_9, d7_9, df_9⟩ := H9.out.c7; dsimp only at d0_9 d1_9 d2_9 d3_9 d4_9; clear hI9 hk9) | go_in)
      have E := Aside0.mk H9.out.oe
      obtain ⟨c0, c1, c2, c3, c4, c5, c6, c7⟩ := E.out.c8
      (try dsimp only at c0 c1 c2 c3 c4 c5)
      obtain ⟨r0, r1, r2, r3, r4, r5, r6, r7, rf⟩ := E.out.r8
      have HFIN := Aside0.mk (E.out.fin HWW.out)
      go_wp2
      refine bodyPost_ret (results_cell_row rfl _ _ (w.heap.size) 82 _ (0, 0) _ rfl HFIN.out.1 Try.underlying82 rfl (by kernel_rfl)) rfl ?_
      rw [HM2.out]
      refine ⟨_, _, rfl, ?_, ?_, ?_, ?_, ?_⟩
      · exact HFIN.out.2.1
      · exact HFIN.out.2.2.1
      · exact HFIN.out.2.2.2.1
      · exact E.out.ap
      · exact HFIN.out.2.2.2.2
  · have HM : Aside0 (oneD s t = ((⟨t.1, (numR s t 1).1, false, (numR s (numR s t 1).2 1).1, 0, 0, [], []⟩ : S82), if (numR s (numR s t 1).2 1).1 < 4 ∨ (numR s (numR s t 1).2 1).1 > 11 then failR (numR s (numR s t 1).2 1).2 15 t.1 else (numR s (numR s t 1).2 1).2)) := ⟨by unfold oneD bodyD; rw [hf, if_neg (by decide), if_neg (by decide), if_neg (by decide), if_neg (by decide), if_neg (by decide), if_neg (by decide), if_neg (by decide), if_neg (by decide), if_neg (by decide), if_neg (by decide)]; rfl⟩
    rw [hf]
    clear hf HFS2 hu2
    obtain ⟨lq119, lq108, lq110, lq120, lq98, lq115, lq99, lq97, lq105, lq106, lq74, lq102, lq109, lq116, lq107⟩ := lq_13
    generalize letter 13 = L at *
    go_upto_region 14 with (fail)
    have H3 := Aside0.mk (H2.out.set 1 (.int .u8 (numR s t 1).1) (⟨t.1, (numR s t 1).1, false, 0, 0, 0, [], []⟩ : S82) rfl rfl rfl)
    have HO3 := HO2
    clear d0_2 d1_2 d2_2 d3_2 d4_2 d7_2 df_2
    generalize World.setCell _ ⟨bx, 1, none⟩ _ = W3 at *
    obtain ⟨d0_3, d1_3, d2_3, d3_3, d4_3, d7_3, df_3⟩ := H3.out.c7
    dsimp only at d0_3 d1_3 d2_3 d3_3 d4_3
    go_upto_region 24 with (first | (go_at_call 126; refine (num_any w0 _ g s (numR s t 1).2 1 1 rfl (by decide) HO3.out H3.out.cs.ri).mono ?_; rintro e4 w4 ⟨rfl, hI4, hk4⟩; have H4 := Aside0.mk (H3.out.rd hI4 hk4); have HO4 := Aside0.mk (HO3.out.num 1); obtain ⟨d0_4, d1_4, d2_4, d3_4, d4_4, d7_4, df_4⟩ := H4.out.c7; dsimp only at d0_4 d1_4 d2_4 d3_4 d4_4; clear hI4 hk4) | go_in)
    have H5 := Aside0.mk (H4.out.set 3 (.int .i64 (numR s (numR s t 1).2 1).1) (⟨t.1, (numR s t 1).1, false, (numR s (numR s t 1).2 1).1, 0, 0, [], []⟩ : S82) rfl rfl rfl)
    have HO5 := HO4
    clear d0_4 d1_4 d2_4 d3_4 d4_4 d7_4 df_4
    generalize World.setCell _ ⟨bx, 3, none⟩ _ = W5 at *
    obtain ⟨d0_5, d1_5, d2_5, d3_5, d4_5, d7_5, df_5⟩ := H5.out.c7
    dsimp only at d0_5 d1_5 d2_5 d3_5 d4_5
    by_cases h4 : (numR s (numR s t 1).2 1).1 < 4
    · have b4 : decide ((numR s (numR s t 1).2 1).1 < 4) = true := decide_eq_true h4
      have HM2 := Aside0.mk (HM.out.trans (show ((⟨t.1, (numR s t 1).1, false, (numR s (numR s t 1).2 1).1, 0, 0, [], []⟩ : S82), if (numR s (numR s t 1).2 1).1 < 4 ∨ (numR s (numR s t 1).2 1).1 > 11 then failR (numR s (numR s t 1).2 1).2 15 t.1 else (numR s (numR s t 1).2 1).2) = ((⟨t.1, (numR s t 1).1, false, (numR s (numR s t 1).2 1).1, 0, 0, [], []⟩ : S82), failR (numR s (numR s t 1).2 1).2 15 t.1) by rw [if_pos (.inl h4)]))
      go_upto_region 46 with (first | (go_at_call 97; refine (fail_any w0 _ g s (numR s (numR s t 1).2 1).2 15 t.1 H5.out.cs.ri).mono ?_; rintro e6 w6 ⟨rfl, hI6, hk6⟩; have H6 := Aside0.mk (H5.out.rd hI6 hk6); have HO6 := Aside0.mk (HO5.out.fail 15 t.1); obtain ⟨d0_6, d1_6, d2_6, d3_6, d4_6, d7_6, df_6⟩ := H6.out.c7; dsimp only at d0_6 d1_6 d2_6 d3_6 d4_6; clear hI6 hk6) | go_in)
      have E := Aside0.mk H6.out.oe
      obtain ⟨c0, c1, c2, c3, c4, c5, c6, c7⟩ := E.out.c8
      (try dsimp only at c0 c1 c2 c3 c4 c5)
      obtain ⟨r0, r1, r2, r3, r4, r5, r6, r7, rf⟩ := E.out.r8
      have HFIN := Aside0.mk (E.out.fin HWW.out)
      go_wp2
      refine bodyPost_ret (results_cell_row rfl _ _ (w.heap.size) 82 _ (0, 0) _ rfl HFIN.out.1 Try.underlying82 rfl (by kernel_rfl)) rfl ?_
      rw [HM2.out]
      refine ⟨_, _, rfl, ?_, ?_, ?_, ?_, ?_⟩
      · exact HFIN.out.2.1
      · exact HFIN.out.2.2.1
      · exact HFIN.out.2.2.2.1
      · exact E.out.ap
      · exact HFIN.out.2.2.2.2
    · have b4 : decide ((numR s (numR s t 1).2 1).1 < 4) = false := decide_eq_false h4
      by_cases h11 : (numR s (numR s t 1).2 1).1 > 11
      · have b11 : decide ((numR s (numR s t 1).2 1).1 > 11) = true := decide_eq_true h11
        have b11b : decide (11 < (numR s (numR s t 1).2 1).1) = true := decide_eq_true h11
        have HM2 := Aside0.mk (HM.out.trans (show ((⟨t.1, (numR s t 1).1, false, (numR s (numR s t 1).2 1).1, 0, 0, [], []⟩ : S82), if (numR s (numR s t 1).2 1).1 < 4 ∨ (numR s (numR s t 1).2 1).1 > 11 then failR (numR s (numR s t 1).2 1).2 15 t.1 else (numR s (numR s t 1).2 1).2) = ((⟨t.1, (numR s t 1).1, false, (numR s (numR s t 1).2 1).1, 0, 0, [], []⟩ : S82), failR (numR s (numR s t 1).2 1).2 15 t.1) by rw [if_pos (.inr h11)]))
        go_upto_region 46 with (first | (go_at_call 97; refine (fail_any w0 _ g s (numR s (numR s t 1).2 1).2 15 t.1 H5.out.cs.ri).mono ?_; rintro e6 w6 ⟨rfl, hI6, hk6⟩; have H6 := Aside0.mk (H5.out.rd hI6 hk6); have HO6 := Aside0.mk (HO5.out.fail 15 t.1); obtain ⟨d0_6, d1_6, d2_6, d3_6, d4_6, d7_6, df_6⟩ := H6.out.c7; dsimp only at d0_6 d1_6 d2_6 d3_6 d4_6; clear hI6 hk6) | go_in)
        have E := Aside0.mk H6.out.oe
        obtain ⟨c0, c1, c2, c3, c4, c5, c6, c7⟩ := E.out.c8
        (try dsimp only at c0 c1 c2 c3 c4 c5)
        obtain ⟨r0, r1, r2, r3, r4, r5, r6, r7, rf⟩ := E.out.r8
        have HFIN := Aside0.mk (E.out.fin HWW.out)
        go_wp2
        refine bodyPost_ret (results_cell_row rfl _ _ (w.heap.size) 82 _ (0, 0) _ rfl HFIN.out.1 Try.underlying82 rfl (by kernel_rfl)) rfl ?_
        rw [HM2.out]
        refine ⟨_, _, rfl, ?_, ?_, ?_, ?_, ?_⟩
        · exact HFIN.out.2.1
        · exact HFIN.out.2.2.1
        · exact HFIN.out.2.2.2.1
        · exact E.out.ap
        · exact HFIN.out.2.2.2.2
      · have b11 : decide ((numR s (numR s t 1).2 1).1 > 11) = false := decide_eq_false h11
        have b11b : decide (11 < (numR s (numR s t 1).2 1).1) = false := decide_eq_false h11
        have HM2 := Aside0.mk (HM.out.trans (show ((⟨t.1, (numR s t 1).1, false, (numR s (numR s t 1).2 1).1, 0, 0, [], []⟩ : S82), if (numR s (numR s t 1).2 1).1 < 4 ∨ (numR s (numR s t 1).2 1).1 > 11 then failR (numR s (numR s t 1).2 1).2 15 t.1 else (numR s (numR s t 1).2 1).2) = ((⟨t.1, (numR s t 1).1, false, (numR s (numR s t 1).2 1).1, 0, 0, [], []⟩ : S82), (numR s (numR s t 1).2 1).2) by rw [if_neg (fun h => h.elim h4 h11)]))
        go_upto_region 46 with (fail)
        have E := Aside0.mk H5.out.oe
        obtain ⟨c0, c1, c2, c3, c4, c5, c6, c7⟩ := E.out.c8
        (try dsimp only at c0 c1 c2 c3 c4 c5)
        obtain ⟨r0, r1, r2, r3, r4, r5, r6, r7, rf⟩ := E.out.r8
        have HFIN := Aside0.mk (E.out.fin HWW.out)
        go_wp2
        refine bodyPost_ret (results_cell_row rfl _ _ (w.heap.size) 82 _ (0, 0) _ rfl HFIN.out.1 Try.underlying82 rfl (by kernel_rfl)) rfl ?_
        rw [HM2.out]
        refine ⟨_, _, rfl, ?_, ?_, ?_, ?_, ?_⟩
        · exact HFIN.out.2.1
        · exact HFIN.out.2.2.1
        · exact HFIN.out.2.2.2.1
        · exact E.out.ap
        · exact HFIN.out.2.2.2.2
  · have HM : Aside0 (oneD s t = ((⟨t.1, (numR s t 1).1, false, (numR s (numR s t 1).2 2).1, (numR s (numR s (numR s t 1).2 2).2 1).1, 0, [], []⟩ : S82), if (numR s (numR s (numR s t 1).2 2).2 1).1 = 0 then failR (numR s (numR s (numR s t 1).2 2).2 1).2 15 t.1 else (numR s (numR s (numR s t 1).2 2).2 1).2)) := ⟨by unfold oneD bodyD; rw [hf, if_neg (by decide), if_neg (by decide), if_neg (by decide), if_neg (by decide), if_neg (by decide), if_neg (by decide), if_neg (by decide), if_neg (by decide), if_neg (by decide), if_neg (by decide)]; rfl⟩
    rw [hf]
    clear hf HFS2 hu2
    obtain ⟨lq119, lq108, lq110, lq120, lq98, lq115, lq99, lq97, lq105, lq106, lq74, lq102, lq109, lq116, lq107⟩ := lq_14
    generalize letter 14 = L at *
    go_upto_region 14 with (fail)
    have H3 := Aside0.mk (H2.out.set 1 (.int .u8 (numR s t 1).1) (⟨t.1, (numR s t 1).1, false, 0, 0, 0, [], []⟩ : S82) rfl rfl rfl)
    have HO3 := HO2
    clear d0_2 d1_2 d2_2 d3_2 d4_2 d7_2 df_2
    generalize World.setCell _ ⟨bx, 1, none⟩ _ = W3 at *
    obtain ⟨d0_3, d1_3, d2_3, d3_3, d4_3, d7_3, df_3⟩ := H3.out.c7
    dsimp only at d0_3 d1_3 d2_3 d3_3 d4_3
    go_upto_region 40 with (first | (go_at_call 126; refine (num_any w0 _ g s (numR s t 1).2 2 2 rfl (by decide) HO3.out H3.out.cs.ri).mono ?_; rintro e4 w4 ⟨rfl, hI4, hk4⟩; have H4 := Aside0.mk (H3.out.rd hI4 hk4); have HO4 := Aside0.mk (HO3.out.num 2); obtain ⟨d0_4, d1_4, d2_4, d3_4, d4_4, d7_4, df_4⟩ := H4.out.c7; dsimp only at d0_4 d1_4 d2_4 d3_4 d4_4; clear hI4 hk4) | go_in)
    have H5 := Aside0.mk (H4.out.set 3 (.int .i64 (numR s (numR s t 1).2 2).1) (⟨t.1, (numR s t 1).1, false, (numR s (numR s t 1).2 2).1, 0, 0, [], []⟩ : S82) rfl rfl rfl)
    have HO5 := HO4
    clear d0_4 d1_4 d2_4 d3_4 d4_4 d7_4 df_4
    generalize World.setCell _ ⟨bx, 3, none⟩ _ = W5 at *
    obtain ⟨d0_5, d1_5, d2_5, d3_5, d4_5, d7_5, df_5⟩ := H5.out.c7
    dsimp only at d0_5 d1_5 d2_5 d3_5 d4_5
    go_upto_region 41 with (first | (go_at_call 126; refine (num_any w0 _ g s (numR s (numR s t 1).2 2).2 1 1 rfl (by decide) HO5.out H5.out.cs.ri).mono ?_; rintro e6 w6 ⟨rfl, hI6, hk6⟩; have H6 := Aside0.mk (H5.out.rd hI6 hk6); have HO6 := Aside0.mk (HO5.out.num 1); obtain ⟨d0_6, d1_6, d2_6, d3_6, d4_6, d7_6, df_6⟩ := H6.out.c7; dsimp only at d0_6 d1_6 d2_6 d3_6 d4_6; clear hI6 hk6) | go_in)
    have H7 := Aside0.mk (H6.out.set 4 (.int .i64 (numR s (numR s (numR s t 1).2 2).2 1).1) (⟨t.1, (numR s t 1).1, false, (numR s (numR s t 1).2 2).1, (numR s (numR s (numR s t 1).2 2).2 1).1, 0, [], []⟩ : S82) rfl rfl rfl)
    have HO7 := HO6
    clear d0_6 d1_6 d2_6 d3_6 d4_6 d7_6 df_6
    generalize World.setCell _ ⟨bx, 4, none⟩ _ = W7 at *
    obtain ⟨d0_7, d1_7, d2_7, d3_7, d4_7, d7_7, df_7⟩ := H7.out.c7
    dsimp only at d0_7 d1_7 d2_7 d3_7 d4_7
    by_cases hB : (numR s (numR s (numR s t 1).2 2).2 1).1 = 0
    · have b1 : ((numR s (numR s (numR s t 1).2 2).2 1).1 == 0) = true := beq_iff_eq.2 hB
      have HM2 := Aside0.mk (HM.out.trans (show ((⟨t.1, (numR s t 1).1, false, (numR s (numR s t 1).2 2).1, (numR s (numR s (numR s t 1).2 2).2 1).1, 0, [], []⟩ : S82), if (numR s (numR s (numR s t 1).2 2).2 1).1 = 0 then failR (numR s (numR s (numR s t 1).2 2).2 1).2 15 t.1 else (numR s (numR s (numR s t 1).2 2).2 1).2) = ((⟨t.1, (numR s t 1).1, false, (numR s (numR s t 1).2 2).1, (numR s (numR s (numR s t 1).2 2).2 1).1, 0, [], []⟩ : S82), failR (numR s (numR s (numR s t 1).2 2).2 1).2 15 t.1) by rw [if_pos hB]))
      clear hB
      go_upto_region 46 with (first | (go_at_call 97; refine (fail_any w0 _ g s (numR s (numR s (numR s t 1).2 2).2 1).2 15 t.1 H7.out.cs.ri).mono ?_; rintro e8 w8 ⟨rfl, hI8, hk8⟩; have H8 := Aside0.mk (H7.out.rd hI8 hk8); have HO8 := Aside0.mk (HO7.out.fail 15 t.1); obtain ⟨d0_8, d1_8, d2_8, d3_8, d4_8, d7_8, df_8⟩ := H8.out.c7; dsimp only at d0_8 d1_8 d2_8 d3_8 d4_8; clear hI8 hk8) | go_in)
      have E := Aside0.mk H8.out.oe
      obtain ⟨c0, c1, c2, c3, c4, c5, c6, c7⟩ := E.out.c8
      (try dsimp only at c0 c1 c2 c3 c4 c5)
      obtain ⟨r0, r1, r2, r3, r4, r5, r6, r7, rf⟩ := E.out.r8
      have HFIN := Aside0.mk (E.out.fin HWW.out)
      go_wp2
      refine bodyPost_ret (results_cell_row rfl _ _ (w.heap.size) 82 _ (0, 0) _ rfl HFIN.out.1 Try.underlying82 rfl (by kernel_rfl)) rfl ?_
      rw [HM2.out]
      refine ⟨_, _, rfl, ?_, ?_, ?_, ?_, ?_⟩
      · exact HFIN.out.2.1
      · exact HFIN.out.2.2.1
      · exact HFIN.out.2.2.2.1
      · exact E.out.ap
      · exact HFIN.out.2.2.2.2
    · have b1 : ((numR s (numR s (numR s t 1).2 2).2 1).1 == 0) = false := beq_eq_false_iff_ne.2 hB
      have HM2 := Aside0.mk (HM.out.trans (show ((⟨t.1, (numR s t 1).1, false, (numR s (numR s t 1).2 2).1, (numR s (numR s (numR s t 1).2 2).2 1).1, 0, [], []⟩ : S82), if (numR s (numR s (numR s t 1).2 2).2 1).1 = 0 then failR (numR s (numR s (numR s t 1).2 2).2 1).2 15 t.1 else (numR s (numR s (numR s t 1).2 2).2 1).2) = ((⟨t.1, (numR s t 1).1, false, (numR s (numR s t 1).2 2).1, (numR s (numR s (numR s t 1).2 2).2 1).1, 0, [], []⟩ : S82), (numR s (numR s (numR s t 1).2 2).2 1).2) by rw [if_neg hB]))
      clear hB
      go_upto_region 46 with (fail)
      have E := Aside0.mk H7.out.oe
      obtain ⟨c0, c1, c2, c3, c4, c5, c6, c7⟩ := E.out.c8
      (try dsimp only at c0 c1 c2 c3 c4 c5)
      obtain ⟨r0, r1, r2, r3, r4, r5, r6, r7, rf⟩ := E.out.r8
      have HFIN := Aside0.mk (E.out.fin HWW.out)
      go_wp2
      refine bodyPost_ret (results_cell_row rfl _ _ (w.heap.size) 82 _ (0, 0) _ rfl HFIN.out.1 Try.underlying82 rfl (by kernel_rfl)) rfl ?_
      rw [HM2.out]
      refine ⟨_, _, rfl, ?_, ?_, ?_, ?_, ?_⟩
      · exact HFIN.out.2.1
      · exact HFIN.out.2.2.1
      · exact HFIN.out.2.2.2.1
      · exact E.out.ap
      · exact HFIN.out.2.2.2.2
  · rw [hf]
    obtain ⟨lq119, lq108, lq110, lq120, lq98, lq115, lq99, lq97, lq105, lq106, lq74, lq102, lq109, lq116, lq107⟩ := lq_15
    generalize letter 15 = L at *
    go_upto_region 7 with (fail)
    have H3 := Aside0.mk (H2.out.set 2 (.bool true) (⟨t.1, 0, true, 0, 0, 0, [], []⟩ : S82) rfl rfl rfl)
    have HO3 := HO2
    clear d0_2 d1_2 d2_2 d3_2 d4_2 d7_2 df_2
    generalize World.setCell _ ⟨bx, 2, none⟩ _ = W3 at *
    obtain ⟨d0_3, d1_3, d2_3, d3_3, d4_3, d7_3, df_3⟩ := H3.out.c7
    dsimp only at d0_3 d1_3 d2_3 d3_3 d4_3
    go_upto_region 10 with (first | (go_at_call 126; refine (num_any w0 _ g s (numR s t 1).2 1 1 rfl (by decide) HO3.out H3.out.cs.ri).mono ?_; rintro e4 w4 ⟨rfl, hI4, hk4⟩; have H4 := Aside0.mk (H3.out.rd hI4 hk4); have HO4 := Aside0.mk (HO3.out.num 1); obtain ⟨d0_4, d1_4, d2_4, d3_4, d4_4, d7_4, df_4⟩ := H4.out.c7; dsimp only at d0_4 d1_4 d2_4 d3_4 d4_4; clear hI4 hk4) | (go_at_call 80; refine (jvmcoreref2_form.calls _ _ _ HFS2.out).mono ?_; rintro e5 w5 ⟨rfl, hd5⟩; have H5 := Aside0.mk (H4.out.below hd5.below); have HO5 := HO4; obtain ⟨d0_5, d1_5, d2_5, d3_5, d4_5, d7_5, df_5⟩ := H5.out.c7; dsimp only at d0_5 d1_5 d2_5 d3_5 d4_5; clear hd5) | go_in)
    clear HFS2 hu1 lq119 lq108 lq110 lq120 lq98 lq115 lq99 lq97 lq105 lq106 lq74 lq102 lq109 lq116 lq107 H2 HO2 H3 HO3 d0_3 d1_3 d2_3 d3_3 d4_3 d7_3 df_3 H4 HO4 d0_4 d1_4 d2_4 d3_4 d4_4 d7_4 df_4
    by_cases h6 : formF (numR s (numR s t 1).2 1).1 = 6
    · have HM : Aside0 (oneD s t = ((⟨t.1, (numR s (numR s t 1).2 1).1, true, (numR s (numR s (numR s t 1).2 1).2 2).1, 0, 0, [], []⟩ : S82), (numR s (numR s (numR s t 1).2 1).2 2).2)) := ⟨by unfold oneD bodyD; rw [hf, if_pos rfl, if_pos (.inl h6), h6, if_neg (by decide), if_neg (by decide), if_neg (by decide), if_neg (by decide), if_neg (by decide), if_pos rfl]; rfl⟩
      rw [h6]
      clear hf h6
      obtain ⟨lq119, lq108, lq110, lq120, lq98, lq115, lq99, lq97, lq105, lq106, lq74, lq102, lq109, lq116, lq107⟩ := lq_6
      generalize letter 6 = L at *
      go_upto_region 14 with (fail)
      have H6 := Aside0.mk (H5.out.set 1 (.int .u8 (numR s (numR s t 1).2 1).1) (⟨t.1, (numR s (numR s t 1).2 1).1, true, 0, 0, 0, [], []⟩ : S82) rfl rfl rfl)
      have HO6 := HO5
      clear d0_5 d1_5 d2_5 d3_5 d4_5 d7_5 df_5
      generalize World.setCell _ ⟨bx, 1, none⟩ _ = W6 at *
      obtain ⟨d0_6, d1_6, d2_6, d3_6, d4_6, d7_6, df_6⟩ := H6.out.c7
      dsimp only at d0_6 d1_6 d2_6 d3_6 d4_6
      go_upto_region 46 with (first | (go_at_call 126; refine (num_any w0 _ g s (numR s (numR s t 1).2 1).2 2 2 rfl (by decide) HO6.out H6.out.cs.ri).mono ?_; rintro e7 w7 ⟨rfl, hI7, hk7⟩; have H7 := Aside0.mk (H6.out.rd hI7 hk7); have HO7 := Aside0.mk (HO6.out.num 2); obtain ⟨d0_7, d1_7, d2_7, d3_7, d4_7, d7_7, df_7⟩ := H7.out.c7; dsimp only at d0_7 d1_7 d2_7 d3_7 d4_7; clear hI7 hk7) | go_in)
      have H8 := Aside0.mk (H7.out.set 3 (.int .i64 (numR s (numR s (numR s t 1).2 1).2 2).1) (⟨t.1, (numR s (numR s t 1).2 1).1, true, (numR s (numR s (numR s t 1).2 1).2 2).1, 0, 0, [], []⟩ : S82) rfl rfl rfl)
      have HO8 := HO7
      clear d0_7 d1_7 d2_7 d3_7 d4_7 d7_7 df_7
      generalize World.setCell _ ⟨bx, 3, none⟩ _ = W8 at *
      obtain ⟨d0_8, d1_8, d2_8, d3_8, d4_8, d7_8, df_8⟩ := H8.out.c7
      dsimp only at d0_8 d1_8 d2_8 d3_8 d4_8
      have E := Aside0.mk H8.out.oe
      clear d0_8 d1_8 d2_8 d3_8 d4_8 d7_8 df_8
      obtain ⟨c0, c1, c2, c3, c4, c5, c6, c7⟩ := E.out.c8
      (try dsimp only at c0 c1 c2 c3 c4 c5)
      obtain ⟨r0, r1, r2, r3, r4, r5, r6, r7, rf⟩ := E.out.r8
      have HFIN := Aside0.mk (E.out.fin HWW.out)
      go_wp2
      refine bodyPost_ret (results_cell_row rfl _ _ (w.heap.size) 82 _ (0, 0) _ rfl HFIN.out.1 Try.underlying82 rfl (by kernel_rfl)) rfl ?_
      rw [HM.out]
      refine ⟨_, _, rfl, ?_, ?_, ?_, ?_, ?_⟩
      · exact HFIN.out.2.1
      · exact HFIN.out.2.2.1
      · exact HFIN.out.2.2.2.1
      · exact E.out.ap
      · exact HFIN.out.2.2.2.2
    by_cases h7 : formF (numR s (numR s t 1).2 1).1 = 7
    · have HM : Aside0 (oneD s t = ((⟨t.1, (numR s (numR s t 1).2 1).1, true, (numR s (numR s (numR s t 1).2 1).2 2).1, (sgnR s (numR s (numR s (numR s t 1).2 1).2 2).2 2).1, 0, [], []⟩ : S82), (sgnR s (numR s (numR s (numR s t 1).2 1).2 2).2 2).2)) := ⟨by unfold oneD bodyD; rw [hf, if_pos rfl, if_pos (.inr h7), h7, if_neg (by decide), if_neg (by decide), if_neg (by decide), if_neg (by decide), if_neg (by decide), if_neg (by decide), if_pos rfl]; rfl⟩
      rw [h7]
      clear hf h6 h7
      obtain ⟨lq119, lq108, lq110, lq120, lq98, lq115, lq99, lq97, lq105, lq106, lq74, lq102, lq109, lq116, lq107⟩ := lq_7
      generalize letter 7 = L at *
      go_upto_region 14 with (fail)
      have H6 := Aside0.mk (H5.out.set 1 (.int .u8 (numR s (numR s t 1).2 1).1) (⟨t.1, (numR s (numR s t 1).2 1).1, true, 0, 0, 0, [], []⟩ : S82) rfl rfl rfl)
      have HO6 := HO5
      clear d0_5 d1_5 d2_5 d3_5 d4_5 d7_5 df_5
      generalize World.setCell _ ⟨bx, 1, none⟩ _ = W6 at *
      obtain ⟨d0_6, d1_6, d2_6, d3_6, d4_6, d7_6, df_6⟩ := H6.out.c7
      dsimp only at d0_6 d1_6 d2_6 d3_6 d4_6
      go_upto_region 32 with (first | (go_at_call 126; refine (num_any w0 _ g s (numR s (numR s t 1).2 1).2 2 2 rfl (by decide) HO6.out H6.out.cs.ri).mono ?_; rintro e7 w7 ⟨rfl, hI7, hk7⟩; have H7 := Aside0.mk (H6.out.rd hI7 hk7); have HO7 := Aside0.mk (HO6.out.num 2); obtain ⟨d0_7, d1_7, d2_7, d3_7, d4_7, d7_7, df_7⟩ := H7.out.c7; dsimp only at d0_7 d1_7 d2_7 d3_7 d4_7; clear hI7 hk7) | go_in)
      have H8 := Aside0.mk (H7.out.set 3 (.int .i64 (numR s (numR s (numR s t 1).2 1).2 2).1) (⟨t.1, (numR s (numR s t 1).2 1).1, true, (numR s (numR s (numR s t 1).2 1).2 2).1, 0, 0, [], []⟩ : S82) rfl rfl rfl)
      have HO8 := HO7
      clear d0_7 d1_7 d2_7 d3_7 d4_7 d7_7 df_7
      generalize World.setCell _ ⟨bx, 3, none⟩ _ = W8 at *
      obtain ⟨d0_8, d1_8, d2_8, d3_8, d4_8, d7_8, df_8⟩ := H8.out.c7
      dsimp only at d0_8 d1_8 d2_8 d3_8 d4_8
      go_upto_region 46 with (first | (go_at_call 127; refine (signed_d w0 _ g s (numR s (numR s (numR s t 1).2 1).2 2).2 2 2 rfl (.inr (.inl rfl)) HO8.out H8.out.cs.ri).mono ?_; rintro e9 w9 ⟨rfl, hI9, hk9⟩; have H9 := Aside0.mk (H8.out.rd hI9 hk9); have HO9 := Aside0.mk (HO8.out.sgn 2); obtain ⟨d0_9, d1_9, d2_9, d3_9, d4_9, d7_9, df_9⟩ := H9.out.c7; dsimp only at d0_9 d1_9 d2_9 d3_9 d4_9; clear hI9 hk9) | go_in)
      have H10 := Aside0.mk (H9.out.set 4 (.int .i64 (sgnR s (numR s (numR s (numR s t 1).2 1).2 2).2 2).1) (⟨t.1, (numR s (numR s t 1).2 1).1, true, (numR s (numR s (numR s t 1).2 1).2 2).1, (sgnR s (numR s (numR s (numR s t 1).2 1).2 2).2 2).1, 0, [], []⟩ : S82) rfl rfl rfl)
      have HO10 := HO9
      clear d0_9 d1_9 d2_9 d3_9 d4_9 d7_9 df_9
      generalize World.setCell _ ⟨bx, 4, none⟩ _ = W10 at *
      obtain ⟨d0_10, d1_10, d2_10, d3_10, d4_10, d7_10, df_10⟩ := H10.out.c7
      dsimp only at d0_10 d1_10 d2_10 d3_10 d4_10
      have E := Aside0.mk H10.out.oe
      clear d0_10 d1_10 d2_10 d3_10 d4_10 d7_10 df_10
      obtain ⟨c0, c1, c2, c3, c4, c5, c6, c7⟩ := E.out.c8
      (try dsimp only at c0 c1 c2 c3 c4 c5)
      obtain ⟨r0, r1, r2, r3, r4, r5, r6, r7, rf⟩ := E.out.r8
      have HFIN := Aside0.mk (E.out.fin HWW.out)
      go_wp2
      refine bodyPost_ret (results_cell_row rfl _ _ (w.heap.size) 82 _ (0, 0) _ rfl HFIN.out.1 Try.underlying82 rfl (by kernel_rfl)) rfl ?_
      rw [HM.out]
      refine ⟨_, _, rfl, ?_, ?_, ?_, ?_, ?_⟩
      · exact HFIN.out.2.1
      · exact HFIN.out.2.2.1
      · exact HFIN.out.2.2.2.1
      · exact E.out.ap
      · exact HFIN.out.2.2.2.2
    have HM : Aside0 (oneD s t = ((⟨t.1, (numR s (numR s t 1).2 1).1, true, 0, 0, 0, [], []⟩ : S82), failR (numR s (numR s t 1).2 1).2 14 t.1)) := ⟨by unfold oneD; rw [hf, if_pos rfl, if_neg (fun h => h.elim h6 h7)]; rfl⟩
    have lq108 : ((letter (formF (numR s (numR s t 1).2 1).1)).toList == ([108] : List UInt8)) = false := letter_ne _ 6 108 (formF_le _) (by decide) (by decide +kernel) h6
    have lq110 : ((letter (formF (numR s (numR s t 1).2 1).1)).toList == ([110] : List UInt8)) = false := letter_ne _ 7 110 (formF_le _) (by decide) (by decide +kernel) h7
    clear hf h6 h7
    generalize formF (numR s (numR s t 1).2 1).1 = F at *
    go_upto_region 13 with (first | (go_at_call 97; refine (fail_any w0 _ g s (numR s (numR s t 1).2 1).2 14 t.1 H5.out.cs.ri).mono ?_; rintro e6 w6 ⟨rfl, hI6, hk6⟩; have H6 := Aside0.mk (H5.out.rd hI6 hk6); have HO6 := Aside0.mk (HO5.out.fail 14 t.1); obtain ⟨d0_6, d1_6, d2_6, d3_6, d4_6, d7_6, df_6⟩ := H6.out.c7; dsimp only at d0_6 d1_6 d2_6 d3_6 d4_6; clear hI6 hk6) | go_in)
    clear lq108 lq110 H5 HO5 d0_5 d1_5 d2_5 d3_5 d4_5 d7_5 df_5
    obtain ⟨lq119, lq108, lq110, lq120, lq98, lq115, lq99, lq97, lq105, lq106, lq74, lq102, lq109, lq116, lq107⟩ := lq_0
    rw [show letter 0 = (⟨#[46]⟩ : ByteArray) from rfl] at lq119 lq108 lq110 lq120 lq98 lq115 lq99 lq97 lq105 lq106 lq74 lq102 lq109 lq116 lq107
    generalize (⟨#[46]⟩ : ByteArray) = L at *
    go_upto_region 14 with (fail)
    have H7 := Aside0.mk (H6.out.set 1 (.int .u8 (numR s (numR s t 1).2 1).1) (⟨t.1, (numR s (numR s t 1).2 1).1, true, 0, 0, 0, [], []⟩ : S82) rfl rfl rfl)
    have HO7 := HO6
    clear d0_6 d1_6 d2_6 d3_6 d4_6 d7_6 df_6
    generalize World.setCell _ ⟨bx, 1, none⟩ _ = W7 at *
    obtain ⟨d0_7, d1_7, d2_7, d3_7, d4_7, d7_7, df_7⟩ := H7.out.c7
    dsimp only at d0_7 d1_7 d2_7 d3_7 d4_7
    go_upto_region 46 with (fail)
    have E := Aside0.mk H7.out.oe
    obtain ⟨c0, c1, c2, c3, c4, c5, c6, c7⟩ := E.out.c8
    (try dsimp only at c0 c1 c2 c3 c4 c5)
    obtain ⟨r0, r1, r2, r3, r4, r5, r6, r7, rf⟩ := E.out.r8
    have HFIN := Aside0.mk (E.out.fin HWW.out)
    go_wp2
    refine bodyPost_ret (results_cell_row rfl _ _ (w.heap.size) 82 _ (0, 0) _ rfl HFIN.out.1 Try.underlying82 rfl (by kernel_rfl)) rfl ?_
    rw [HM.out]
    refine ⟨_, _, rfl, ?_, ?_, ?_, ?_, ?_⟩
    · exact HFIN.out.2.1
    · exact HFIN.out.2.2.1
    · exact HFIN.out.2.2.2.1
    · exact E.out.ap
    · exact HFIN.out.2.2.2.2
end Go.Proofs.Ytfnjbmpolggdeaa.CD.RR
end
section
namespace Go.Proofs.Ytfnjbmpolggdeaa.CD.RR
open Go.RowKit Go.Lib Go.Proofs.YtfnjbmpolggdeaaW.PrintWords Go.Proofs.YtfnjbmpolggdeaaW.PrintLast Go.Proofs.YtfnjbmpolggdeaaW.PrintMore
set_option linter.unusedVariables false
set_option linter.unusedSimpArgs false
set_option maxHeartbeats 8000000 in
set_option maxRecDepth 100000 in
theorem decode_any (a0 : ByteArray) (r1 : List S82) (r2 : Int) (r3 : Int) (w : World) (h : code_Decode.f a0 = some (r1, r2, r3)) :
    Calls Try.prog 49 #[.string a0] w fun e w' => ∃ v0_, e = .returned (.tuple #[v0_, .int .i64 r2, .int .i64 r3]) ∧ Kd.S kI 82 w' w.heap.size (fun _ => True) v0_ r1 ∧ Below w.heap.size w w' := by
  have hd : decD a0 = (r1, r2, r3) := Option.some.inj h
  clear h
  by_cases h1 : a0.size = 0
  · have hr : (([] : List S82), (12 : Int), (0 : Int)) = (r1, r2, r3) := by rw [← hd]; unfold decD; rw [if_pos (.inl h1)]
    injection hr with e1 e2
    injection e2 with e2 e3
    subst e1 e2 e3
    have q1 : decide ((a0.size : Int) < 1) = true := decide_eq_true (by omega)
    have q1b : decide ((a0.size : Int) ≤ 0) = true := decide_eq_true (by omega)
    have q1c : (a0.size < 1) = True := eq_true (by omega)
    clear h1 hd
    go_enter Try.func49, Try.ntmps49
    go_wp2
    go_ret3
    exact ⟨_, rfl, Kd.S_nil _ _ _ _ _, Below.refl _ _⟩
  · have q1 : decide ((a0.size : Int) < 1) = false := decide_eq_false (by omega)
    have q1b : decide ((a0.size : Int) ≤ 0) = false := decide_eq_false (by omega)
    by_cases h2 : 65535 < a0.size
    · have hr : (([] : List S82), (12 : Int), (0 : Int)) = (r1, r2, r3) := by rw [← hd]; unfold decD; rw [if_pos (.inr h2)]
      injection hr with e1 e2
      injection e2 with e2 e3
      subst e1 e2 e3
      have q2 : decide ((65535 : Int) < (a0.size : Int)) = true := decide_eq_true (by omega)
      have q3 : decide ((a0.size : Int) > 65535) = true := decide_eq_true (by omega)
      have q4 : decide (65535 < a0.size) = true := decide_eq_true h2
      clear h1 h2 hd
      go_enter Try.func49, Try.ntmps49
      go_wp2
      go_ret3
      exact ⟨_, rfl, Kd.S_nil _ _ _ _ _, Below.refl _ _⟩
    · have hr : finD a0 (allD a0 a0.size (0, 0, 0)).1 (chkD a0 ((allD a0 a0.size (0, 0, 0)).1.map (·.f0)) (allD a0 a0.size (0, 0, 0)).1 (allD a0 a0.size (0, 0, 0)).2) = (r1, r2, r3) := by rw [← hd]; unfold decD; rw [if_neg (fun h => h.elim h1 h2)]
      have HR := Aside0.mk hr
      have q2 : decide ((65535 : Int) < (a0.size : Int)) = false := decide_eq_false (by omega)
      have q3 : decide ((a0.size : Int) > 65535) = false := decide_eq_false (by omega)
      have q4 : decide (65535 < a0.size) = false := decide_eq_false h2
      have HN := Aside0.mk (And.intro h1 (Nat.not_lt.1 h2))
      have HL0 : 0 ≤ (a0.size : Int) := Int.natCast_nonneg _
      have HL1 : (a0.size : Int).toNat * 1 ≤ 281474976710656 := by omega
      clear h1 h2 hd hr
      go_enter Try.func49, Try.ntmps49
      have HB1 := below_alloc (Below.refl w.heap.size w) (.cells #[.string a0, .int .i64 0, .int .i64 0, .int .i64 0] 148)
      go_wp2_with (first | (refine Kd.R_make Kd.bool _ 4 rfl (N := 25) rfl 120 _ _ rfl (a0.size : Int) rfl rfl Try.underlying120 (.bool false) 1 infoBool rfl (by decide) (by omega) false (ok := fun _ => True) (okp := fun _ => True) rfl (fun _ hk => hk) trivial HL0 HL1 HB1 HB1.size ?_; intro U w2 hU hb2 hg2 hnew2; clear hb2 hnew2) | go_in)
      have HBL := Aside0.mk (BL.nil a0)
      obtain ⟨b, cap, hUv, hUb, hUl, hUt⟩ := Kd.R_form hU (by rw [List.length_replicate]; have := HN.out.1; omega)
      rw [List.length_replicate, Int.toNat_natCast] at hUv
      subst hUv
      have H0 := Aside0.mk (DS.start hg2 hU)
      clear hU hg2 hUb hUl hUt HB1 HL0 HL1
      obtain ⟨g, hg0⟩ : ∃ g, w.heap.size = g := ⟨_, rfl⟩
      rw [hg0] at H0
      rw [hg0]
      clear hg0
      generalize List.replicate (a0.size : Int).toNat false = bl0 at *
      go_loopw [7] (fun v wr => ∃ (t : RdS) (bl : List Bool) (l : List S82), Aside0 (DS w wr g b cap a0 t bl v l) ∧ Aside0 (OKR a0 t ∧ (t.2.1 = 0 → (l.length : Int) ≤ t.1)) ∧ Aside0 (l.length ≤ a0.size ∧ ∀ x ∈ l, x.f7.length ≤ 100000) ∧ Aside0 (BL a0 (l.map (·.f0)) bl) ∧ Aside0 (allD a0 a0.size (0, 0, 0) = (l ++ (allD a0 (a0.size - l.length) t).1, (allD a0 (a0.size - l.length) t).2))) (fun v _ => a0.size - lenV v)
      case atStart => exact ⟨(0, 0, 0), bl0, [], H0, ⟨⟨Int.le_refl _, HN.out.2 |> fun _ => Int.natCast_nonneg _, HN.out.2⟩, fun _ => Int.le_refl _⟩, ⟨Nat.zero_le _, fun x hx => absurd hx (by simp)⟩, HBL, ⟨by simp⟩⟩
      case round =>
        clear H0 HBL
        obtain ⟨t, bl, l, HD, HO, HLN, HB, HA⟩ := hrel
        have c1_1 := HD.out.ri.c1
        have c2_1 := HD.out.ri.c2
        go_upto_region 6 with (fail)
        go_cut [39] from 26 to 38 (fun vv wc => vv = .bool (decide (0 < (a0.size : Int) - t.1 ∧ t.2.1 = 0)) ∧ Aside0 (DS w wc g b cap a0 t bl u7 l))
        case first =>
          as_aux_lemma =>
          by_cases hl : 0 < (a0.size : Int) - t.1
          · have b0 : decide (0 < (a0.size : Int) - t.1) = true := decide_eq_true hl
            have b1 : decide ((a0.size : Int) - t.1 > 0) = true := decide_eq_true hl
            have b3 : decide (t.1 < (a0.size : Int)) = true := decide_eq_true (by omega)
            by_cases he : t.2.1 = 0
            · have b2 : (t.2.1 == 0) = true := beq_iff_eq.2 he
              have HV := Aside0.mk (decide_eq_true (And.intro hl he))
              clear hl he
              go_wp2_with fail
              go_meet
              case rel => exact ⟨by rw [HV.out], ⟨HD.out⟩⟩
            · have b2 : (t.2.1 == 0) = false := beq_eq_false_iff_ne.2 he
              have HV := Aside0.mk (decide_eq_false (fun h : 0 < (a0.size : Int) - t.1 ∧ t.2.1 = 0 => he h.2))
              clear hl he
              go_wp2_with fail
              go_meet
              case rel => exact ⟨by rw [HV.out], ⟨HD.out⟩⟩
          · have b0 : decide (0 < (a0.size : Int) - t.1) = false := decide_eq_false hl
            have b1 : decide ((a0.size : Int) - t.1 > 0) = false := decide_eq_false hl
            have b3 : decide (t.1 < (a0.size : Int)) = false := decide_eq_false (by omega)
            have HV := Aside0.mk (decide_eq_false (fun h : 0 < (a0.size : Int) - t.1 ∧ t.2.1 = 0 => hl h.1))
            clear hl
            go_wp2_with fail
            go_meet
            case rel => exact ⟨by rw [HV.out], ⟨HD.out⟩⟩
        case rest =>
          obtain ⟨rfl, HC⟩ := hcut
          clear c1_1 c2_1 HD
          have H4 := HC
          have c1_4 := H4.out.ri.c1
          have c2_4 := H4.out.ri.c2
          by_cases hc : 0 < (a0.size : Int) - t.1 ∧ t.2.1 = 0
          · rw [decide_eq_true hc]
            have HCC := Aside0.mk hc
            have h0 : 0 ≤ t.1 := HO.out.1.1
            have h1 : t.1 < (a0.size : Int) := by omega
            have HLL : Aside0 (l.length < a0.size ∧ a0.size ≤ 65535) := ⟨by have := HO.out.2 hc.2; omega, HN.out.2⟩
            have p7 : (0 ≤ t.1) = True := eq_true h0
            have q7 : (t.1 < (a0.size : Int)) = True := eq_true h1
            have P7 := Aside0.mk (And.intro h0 h1)
            clear hc h0 h1
            obtain ⟨x5, y5⟩ := Kd.R_celln false H4.out.row t.1 P7.out.1 P7.out.2
            go_upto_region 8 with (fail)
            have H6 := Aside0.mk (H4.out.mark t.1)
            have HB6 := Aside0.mk (HB.out.mark t.1 P7.out.1 P7.out.2)
            clear H4 HC c1_4 c2_4 x5 y5 p7 q7
            generalize World.setCell _ ⟨b, t.1.toNat, none⟩ (.bool true) = w6 at *
            generalize bl.set t.1.toNat true = bl6 at *
            have hf : (oneD a0 t).1.f0 = t.1 := one_at a0 t
            have HF := Aside0.mk hf
            have HAS := Aside0.mk (all_step HCC.out (show a0.size - l.length = (a0.size - (l.length + 1)) + 1 by have := HLL.out.1; omega))
            have HON : Aside0 (OKR a0 (oneD a0 t).2 ∧ ((oneD a0 t).2.2.1 = 0 → ((l.length + 1 : Nat) : Int) ≤ (oneD a0 t).2.1)) := ⟨HO.out.1.one, fun hz => by
              have h1 := (one_up HO.out.1 hz).2
              have h2 := HO.out.2 HCC.out.2
              omega⟩
            have HO1 := Aside0.mk HO.out.1
            have HX7 := Aside0.mk (one_len HO.out.1)
            clear hf HO HCC
            generalize hp : oneD a0 t = pr at *
            obtain ⟨x, t1⟩ := pr
            obtain ⟨A7, c7, e7⟩ := Kd.S_slice H6.out.out
            subst e7
            have HP := Aside0.mk hp
            clear hp
            have HL8 : (l.length + 1) * 88 ≤ 140737488355328 := by have := HLL.out.1; have := HLL.out.2; omega
            have HL9 := Aside0.mk HL8
            clear HL8
            go_wp2_with (first | (go_at_call 96; refine (one_any w _ g a0 t HO1.out H6.out.ri).mono ?_; rw [HP.out]; rintro e8 w8 ⟨v6, v7, rfl, hI8, h68, h78, ha8, hk8⟩; have H8 := Aside0.mk (H6.out.rd hI8 hk8); have HE8 := Aside0.mk (OnePost.elem h68 h78 ha8 H6.out.ri.2.size); have HX8 := Aside0.mk (IR.elder H6.out.out H6.out.ri.1.1 (by decide) (fun k hlt hne => hk8.2 k hlt hne (by simp))); clear hI8 hk8 h68 h78 ha8; unfold insC) | ((with_reducible refine gate_builtin (b := .append) (xs := #[.tmp 46, .tmp 49]) rfl ?_); at_builtin; refine Kd.S_append kI (w0 := w) w.heap.size rfl (.tmp 46) (.tmp 49) 59 82 _ 88 rfl Try.underlying59 infoIns rfl (by decide) (by omega) (.slice A7 l.length c7) l x [.int .i64 x.f0, .int .u8 x.f1, .bool x.f2, .int .i64 x.f3, .int .i64 x.f4, .int .i64 x.f5, v6, v7] (fun _ => True) (fun k => w6.heap.size ≤ k) rfl rfl HE8.out (fun k hk => ⟨trivial, fun e => by have := Kd.S_lt H6.out.out k e.symm; omega⟩) (fun _ _ => trivial) HX8.out H8.out.ri.2 H8.out.ri.2.size HL9.out ?_; intro v9 w9 hr9 hb9 hg9 hat9) | go_in)
            have H9 := Aside0.mk (H8.out.app hg9 hr9)
            obtain ⟨A9, c9, e9⟩ := Kd.S_slice hr9
            rw [List.length_append, List.length_singleton] at e9
            subst e9
            clear hr9 hb9 hg9 hat9
            have HLE := Aside0.mk (show (l ++ [x]).length = l.length + 1 by rw [List.length_append]; rfl)
            go_roundw
            case rel =>
              refine ⟨t1, bl6, l ++ [x], H9, ⟨HON.out.1, fun hz => by rw [HLE.out]; exact HON.out.2 hz⟩, ⟨by rw [HLE.out]; exact HLL.out.1, fun z hz => (List.mem_append.1 hz).elim (HLN.out.2 z) (fun hz => by rw [List.mem_singleton.1 hz]; exact HX7.out)⟩, ⟨?_⟩, ⟨?_⟩⟩
              · rw [List.map_append]
                show BL a0 (l.map (·.f0) ++ [x.f0]) bl6
                rw [HF.out]
                exact HB6.out
              · have h := HA.out
                rw [HAS.out] at h
                rw [HLE.out, h]
                simp
            case measure =>
              show a0.size - (l.length + 1) < a0.size - l.length
              have := HLL.out.1
              omega
          · rw [decide_eq_false hc]
            have HEND := Aside0.mk (all_end (n := a0.size - l.length) hc)
            clear hc
            have HAE : Aside0 (allD a0 a0.size (0, 0, 0) = (l, t)) := ⟨by have h := HA.out; rw [HEND.out] at h; rw [h]; simp⟩
            have HRE : Aside0 (finD a0 l (chkD a0 (l.map (·.f0)) l t) = (r1, r2, r3)) := ⟨by have h := HR.out; rw [HAE.out] at h; exact h⟩
            have HO1 := Aside0.mk HO.out.1
            clear HEND HAE HA HR HO HC c1_4 c2_4
            obtain ⟨A7, c7, e7⟩ := Kd.S_slice H4.out.out
            subst e7
            have HB4 := HB
            clear HB
            have H4' := H4
            go_wp2_with fail
            go_loopw [53] (fun i wr => ∃ (k : Nat) (t2 : RdS), k ≤ l.length ∧ i = .int .i64 (k : Int) ∧ Aside0 (DS w wr g b cap a0 t2 bl (.slice A7 l.length c7) l) ∧ Aside0 (finD a0 l (chkD a0 (l.map (·.f0)) (l.drop k) t2) = (r1, r2, r3))) (fun i _ => l.length - (intOf i).toNat)
            case atStart => exact ⟨0, t, Nat.zero_le _, rfl, ⟨H4'.out⟩, ⟨HRE.out⟩⟩
            case round =>
              clear H4 H4' HRE HO1
              obtain ⟨k, t2, hk, rfl, HD, HG⟩ := hrel
              by_cases hlt : k < l.length
              · have bk2 : decide ((k : Int) < (l.length : Int)) = true := decide_eq_true (by omega)
                have HG2 := Aside0.mk ((show finD a0 l (chkD a0 (l.map (·.f0)) (l[k] :: l.drop (k + 1)) t2) = (r1, r2, r3) from (List.drop_eq_getElem_cons hlt) ▸ HG.out))
                clear HG
                obtain ⟨hn8, hc8, hC8⟩ := Kd.S_reads' HD.out.out
                obtain ⟨ad0, A6, c6, B7, d7, e0, x0, x1, x2, x3, x4, x5, x6, x7, hl6, hi6, hl7, hi7⟩ := at_T82 hC8 (k : Int) (by omega) (by omega)
                subst e0
                rw [rdD_at hlt] at x0 x1 x2 x3 x4 x5 x6 x7 hl6 hi6 hl7 hi7
                simp only [Int.toNat_natCast] at x0 x1 x2 x3 x4 x5 x6 x7
                have HR70 := Aside0.mk (IR.row7 HD.out.out k hlt x7)
                have HLX := Aside0.mk (HLN.out.2 _ (List.getElem_mem hlt))
                have HLT := Aside0.mk hlt
                clear hl6 hi6 hl7 hi7 hk hn8 hc8 hC8
                generalize l[k] = x at *
                have HS := Aside0.mk (show finD a0 l (chkD a0 (l.map (·.f0)) (l.drop (k + 1)) (chk1 a0 (l.map (·.f0)) x.f0 x.f7 t2)) = (r1, r2, r3) from HG2.out)
                clear HG2
                have hbx := below_alloc (Below.refl _ wr) (.cells #[.int .i64 x.f0, .int .u8 x.f1, .bool x.f2, .int .i64 x.f3, .int .i64 x.f4, .int .i64 x.f5, .slice A6 x.f6.length c6, .slice B7 x.f7.length d7] 82)
                have HD1 := Aside0.mk (HD.out.below hbx)
                have HR71 := Aside0.mk (HR70.out.step (fun q e => hbx.block q (Kd.R_lt HR70.out q e)))
                have HBX1 : Aside0 ((wr.alloc (.cells #[.int .i64 x.f0, .int .u8 x.f1, .bool x.f2, .int .i64 x.f3, .int .i64 x.f4, .int .i64 x.f5, .slice A6 x.f6.length c6, .slice B7 x.f7.length d7] 82)).heap[wr.heap.size]? = some (.cells #[.int .i64 x.f0, .int .u8 x.f1, .bool x.f2, .int .i64 x.f3, .int .i64 x.f4, .int .i64 x.f5, .slice A6 x.f6.length c6, .slice B7 x.f7.length d7] 82 (0, 0))) := ⟨Array.getElem?_push_size⟩
                clear hbx HR70 HD
                go_wp2_with fail
                generalize wr.heap.size = bx at *
                go_loopw [60] (fun i wr => ∃ (j : Nat) (t3 : RdS), j ≤ x.f7.length ∧ i = .int .i64 (j : Int) ∧ Aside0 (DS w wr g b cap a0 t3 bl (.slice (some ad0) l.length c7) l) ∧ Aside0 (RW wr w.heap.size (.slice B7 x.f7.length d7) x.f7) ∧ Aside0 (wr.heap[bx]? = some (.cells #[.int .i64 x.f0, .int .u8 x.f1, .bool x.f2, .int .i64 x.f3, .int .i64 x.f4, .int .i64 x.f5, .slice A6 x.f6.length c6, .slice B7 x.f7.length d7] 82 (0, 0))) ∧ Aside0 (finD a0 l (chkD a0 (l.map (·.f0)) (l.drop (k + 1)) (chk1 a0 (l.map (·.f0)) x.f0 (x.f7.drop j) t3)) = (r1, r2, r3))) (fun i _ => x.f7.length - (intOf i).toNat)
                case atStart => exact ⟨0, t2, Nat.zero_le _, rfl, HD1, HR71, HBX1, ⟨HS.out⟩⟩
                case round =>
                  clear HD1 HR71 HBX1 HS x0 x1 x2 x3 x4 x5 x6 x7
                  obtain ⟨j, t3, hj, rfl, HD, HR7, HBX, HG⟩ := hrel
                  have b0_5 : wr.cell? ⟨bx, 0, none⟩ = some (.int .i64 x.f0) := blk_cell HBX.out 0
                  by_cases hjt : j < x.f7.length
                  · have bj : decide ((j : Int) < (x.f7.length : Int)) = true := decide_eq_true (by omega)
                    obtain ⟨hn7, hc7, hC7⟩ := Kd.R_reads' HR7.out
                    obtain ⟨ad7, e7, z0⟩ := Kd.at_int hC7 (j : Int) (by omega) (by omega)
                    subst e7
                    simp only [Int.toNat_natCast] at z0
                    have hrd : rd x.f7 (j : Int) = x.f7[j] := by unfold rd; rw [Int.toNat_natCast, List.getD_eq_getElem?_getD, List.getElem?_eq_getElem hjt]; rfl
                    rw [hrd] at z0
                    have HG2 := Aside0.mk ((show finD a0 l (chkD a0 (l.map (·.f0)) (l.drop (k + 1)) (chk1 a0 (l.map (·.f0)) x.f0 (x.f7[j] :: x.f7.drop (j + 1)) t3)) = (r1, r2, r3) from (List.drop_eq_getElem_cons hjt) ▸ HG.out))
                    have HJT := Aside0.mk hjt
                    have wk : wrap64 ((j : Int) + 1) = ((j + 1 : Nat) : Int) := by rw [← i64_w, IntKind.wrap_i64]; have := HLX.out; omega
                    have WN := Aside0.mk (congrArg (Value.int IntKind.i64) wk)
                    have WI := Aside0.mk wk
                    clear HG hrd hn7 hc7 hC7 wk hj
                    generalize x.f7[j] = y at *
                    by_cases hy0 : y < 0
                    · have g0 : decide (y < 0) = true := decide_eq_true hy0
                      have hbt : badT a0 (l.map (·.f0)) y = true := by unfold badT; rw [g0]; rfl
                      clear hy0
                      have HT4 : Aside0 (finD a0 l (chkD a0 (l.map (·.f0)) (l.drop (k + 1)) (chk1 a0 (l.map (·.f0)) x.f0 (x.f7.drop (j + 1)) (failR t3 16 x.f0))) = (r1, r2, r3)) := ⟨by
                        have h := HG2.out
                        rw [chk1_cons, if_pos hbt] at h
                        exact h⟩
                      clear hbt HG2
                      as_aux_lemma =>
                      go_wp2_with (first | (go_at_call 97; refine (fail_any w _ g a0 t3 16 x.f0 HD.out.ri).mono ?_; rintro e9 w9 ⟨rfl, hI9, hk9⟩; have H9 := Aside0.mk (HD.out.rd hI9 hk9); have HR9 := Aside0.mk (HR7.out.step (fun k e => hk9.2 k (Kd.R_lt HR7.out k e) (fun he => HR7.out.ne HD.out.ri.1.1 (by decide) (he ▸ e)) (by simp))); have HX9 := Aside0.mk ((hk9.2 _ (blk_lt HBX.out) (fun e => HD.out.ri.1.ne_blk HBX.out (by decide) e.symm) (by simp)).trans HBX.out); clear hI9 hk9) | go_in)
                      go_roundw
                      case rel => exact ⟨j + 1, failR t3 16 x.f0, HJT.out, by first | exact WN.out | exact WI.out, H9, HR9, HX9, HT4⟩
                      case measure => exact ms_valD HJT.out WN.out
                    · have g0 : decide (y < 0) = false := decide_eq_false hy0
                      by_cases hy1 : (a0.size : Int) ≤ y
                      · have g1 : decide ((a0.size : Int) ≤ y) = true := decide_eq_true hy1
                        have g2 : decide (y ≥ (a0.size : Int)) = true := decide_eq_true hy1
                        have hbt : badT a0 (l.map (·.f0)) y = true := by unfold badT; rw [g1]; simp
                        clear hy0 hy1
                        have HT4 : Aside0 (finD a0 l (chkD a0 (l.map (·.f0)) (l.drop (k + 1)) (chk1 a0 (l.map (·.f0)) x.f0 (x.f7.drop (j + 1)) (failR t3 16 x.f0))) = (r1, r2, r3)) := ⟨by
                          have h := HG2.out
                          rw [chk1_cons, if_pos hbt] at h
                          exact h⟩
                        clear hbt HG2
                        as_aux_lemma =>
                        go_wp2_with (first | (go_at_call 97; refine (fail_any w _ g a0 t3 16 x.f0 HD.out.ri).mono ?_; rintro e9 w9 ⟨rfl, hI9, hk9⟩; have H9 := Aside0.mk (HD.out.rd hI9 hk9); have HR9 := Aside0.mk (HR7.out.step (fun k e => hk9.2 k (Kd.R_lt HR7.out k e) (fun he => HR7.out.ne HD.out.ri.1.1 (by decide) (he ▸ e)) (by simp))); have HX9 := Aside0.mk ((hk9.2 _ (blk_lt HBX.out) (fun e => HD.out.ri.1.ne_blk HBX.out (by decide) e.symm) (by simp)).trans HBX.out); clear hI9 hk9) | go_in)
                        go_roundw
                        case rel => exact ⟨j + 1, failR t3 16 x.f0, HJT.out, by first | exact WN.out | exact WI.out, H9, HR9, HX9, HT4⟩
                        case measure => exact ms_valD HJT.out WN.out
                      · have g1 : decide ((a0.size : Int) ≤ y) = false := decide_eq_false hy1
                        have g2 : decide (y ≥ (a0.size : Int)) = false := decide_eq_false hy1
                        have p9 : (0 ≤ y) = True := eq_true (by omega)
                        have q9 : (y < (a0.size : Int)) = True := eq_true (by omega)
                        obtain ⟨x9, y9⟩ := Kd.R_celln false HD.out.row y (by omega) (by omega)
                        rw [show rdOf false bl y = decide (y ∈ l.map (·.f0)) from HB4.out.2 y (by omega) (by omega)] at x9
                        by_cases hm : y ∈ l.map (·.f0)
                        · rw [decide_eq_true hm] at x9
                          have hbt : badT a0 (l.map (·.f0)) y = false := by unfold badT; rw [g0, g1, decide_eq_true hm]; rfl
                          clear hm hy0 hy1
                          have HT4 : Aside0 (finD a0 l (chkD a0 (l.map (·.f0)) (l.drop (k + 1)) (chk1 a0 (l.map (·.f0)) x.f0 (x.f7.drop (j + 1)) t3)) = (r1, r2, r3)) := ⟨by
                            have h := HG2.out
                            rw [chk1_cons, if_neg (by rw [hbt]; decide)] at h
                            exact h⟩
                          clear hbt HG2
                          as_aux_lemma =>
                          go_wp2_with fail
                          go_roundw
                          case rel => exact ⟨j + 1, t3, HJT.out, by first | exact WN.out | exact WI.out, HD, HR7, HBX, HT4⟩
                          case measure => exact ms_valD HJT.out WN.out
                        · rw [decide_eq_false hm] at x9
                          have hbt : badT a0 (l.map (·.f0)) y = true := by unfold badT; rw [g0, g1, decide_eq_false hm]; rfl
                          clear hm hy0 hy1
                          have HT4 : Aside0 (finD a0 l (chkD a0 (l.map (·.f0)) (l.drop (k + 1)) (chk1 a0 (l.map (·.f0)) x.f0 (x.f7.drop (j + 1)) (failR t3 16 x.f0))) = (r1, r2, r3)) := ⟨by
                            have h := HG2.out
                            rw [chk1_cons, if_pos hbt] at h
                            exact h⟩
                          clear hbt HG2
                          as_aux_lemma =>
                          go_wp2_with (first | (go_at_call 97; refine (fail_any w _ g a0 t3 16 x.f0 HD.out.ri).mono ?_; rintro e9 w9 ⟨rfl, hI9, hk9⟩; have H9 := Aside0.mk (HD.out.rd hI9 hk9); have HR9 := Aside0.mk (HR7.out.step (fun k e => hk9.2 k (Kd.R_lt HR7.out k e) (fun he => HR7.out.ne HD.out.ri.1.1 (by decide) (he ▸ e)) (by simp))); have HX9 := Aside0.mk ((hk9.2 _ (blk_lt HBX.out) (fun e => HD.out.ri.1.ne_blk HBX.out (by decide) e.symm) (by simp)).trans HBX.out); clear hI9 hk9) | go_in)
                          go_roundw
                          case rel => exact ⟨j + 1, failR t3 16 x.f0, HJT.out, by first | exact WN.out | exact WI.out, H9, HR9, HX9, HT4⟩
                          case measure => exact ms_valD HJT.out WN.out
                  · obtain rfl : j = x.f7.length := by omega
                    have bj : decide ((x.f7.length : Int) < (x.f7.length : Int)) = false := decide_eq_false (by omega)
                    have HT4 : Aside0 (finD a0 l (chkD a0 (l.map (·.f0)) (l.drop (k + 1)) t3) = (r1, r2, r3)) := ⟨by
                      have h := HG.out
                      rw [List.drop_length] at h
                      exact h⟩
                    have wk : wrap64 ((k : Int) + 1) = ((k + 1 : Nat) : Int) := by rw [← i64_w, IntKind.wrap_i64]; have := HLN.out.1; have := HN.out.2; omega
                    have WN := Aside0.mk (congrArg (Value.int IntKind.i64) wk)
                    have WI := Aside0.mk wk
                    clear wk HG hjt
                    as_aux_lemma =>
                    go_wp2
                    go_roundw
                    case rel => exact ⟨k + 1, t3, HLT.out, by first | exact WN.out | exact WI.out, HD, HT4⟩
                    case measure => exact ms_valD HLT.out WN.out
              · obtain rfl : k = l.length := by omega
                have bk2 : decide ((l.length : Int) < (l.length : Int)) = false := decide_eq_false (by omega)
                have HS : Aside0 (finD a0 l t2 = (r1, r2, r3)) := ⟨by
                  have h := HG.out
                  rw [List.drop_length] at h
                  exact h⟩
                have c2_6 := HD.out.ri.c2
                have c3_6 := HD.out.ri.c3
                clear HG hlt
                by_cases hz : t2.2.1 = 0
                · have z0 : (t2.2.1 != 0) = false := bne_eq_false_iff_eq.2 hz
                  have hs : (l, (0 : Int), (0 : Int)) = (r1, r2, r3) := by
                    have h := HS.out
                    unfold finD at h
                    rw [if_neg (fun h => h hz)] at h
                    exact h
                  injection hs with e1 e2
                  injection e2 with e2 e3
                  subst e1 e2 e3
                  clear hz HS
                  as_aux_lemma =>
                  go_wp2_with fail
                  go_ret3
                  exact ⟨_, rfl, HD.out.out, HD.out.ri.2⟩
                · have z0 : (t2.2.1 != 0) = true := bne_iff_ne.2 hz
                  have hs : (([] : List S82), t2.2.1, t2.2.2) = (r1, r2, r3) := by
                    have h := HS.out
                    unfold finD at h
                    rw [if_pos hz] at h
                    exact h
                  injection hs with e1 e2
                  injection e2 with e2 e3
                  subst e1 e2 e3
                  clear hz HS
                  as_aux_lemma =>
                  go_upto_region 20 with (fail)
                  have HE := Aside0.mk HD.out.drew
                  clear c2_6 c3_6
                  refine start_ (n := 11) (S := fun w' => w'.cell? ⟨g, 2, none⟩ = some (.int .i64 t2.2.1) ∧ w'.cell? ⟨g, 3, none⟩ = some (.int .i64 t2.2.2)) (ds := []) #[false, false, false, false, false, false, false, false, false, false, false] (by kernel_rfl) rfl rfl ⟨HE.out.ri.c2, HE.out.ri.c3⟩ (fun hHeld => ?_)
                  refine pure_ (i := 0) (N := some 90) (v := ?_) (a' := ?_) #[true, false, false, false, false, false, false, false, false, false, false] rfl rfl (by kernel_rfl) (fun _ _ _ h => h) (Or.inl ⟨by rfl, ?_⟩) ?_ ?_
                  rotate_left
                  · intro w'
                    go_simp
                    with_reducible rfl
                  rotate_left
                  · simp only [Act.put, List.setIfInBounds_toArray, List.set_cons_zero, List.set_cons_succ, i64_w, i32_w]
                    rfl
                  refine pure_ (i := 1) (N := some 91) (v := ?_) (a' := ?_) #[true, true, false, false, false, false, false, false, false, false, false] rfl rfl (by kernel_rfl) (fun _ _ _ h => h) (Or.inl ⟨by rfl, ?_⟩) ?_ ?_
                  rotate_left
                  · intro w'
                    go_simp
                    with_reducible rfl
                  rotate_left
                  · simp only [Act.put, List.setIfInBounds_toArray, List.set_cons_zero, List.set_cons_succ, i64_w, i32_w]
                    rfl
                  refine pure_ (i := 2) (N := some 92) (v := ?_) (a' := ?_) #[true, true, true, false, false, false, false, false, false, false, false] rfl rfl (by kernel_rfl) (fun _ _ _ h => h) (Or.inl ⟨by rfl, ?_⟩) ?_ ?_
                  rotate_left
                  · intro w'
                    go_simp
                    with_reducible rfl
                  rotate_left
                  · simp only [Act.put, List.setIfInBounds_toArray, List.set_cons_zero, List.set_cons_succ, i64_w, i32_w]
                    rfl
                  refine pure_ (i := 4) (N := some 94) (v := ?_) (a' := ?_) #[true, true, true, false, true, false, false, false, false, false, false] rfl rfl (by kernel_rfl) (fun _ _ _ h => h) (Or.inl ⟨by rfl, ?_⟩) ?_ ?_
                  rotate_left
                  · intro w'
                    go_simp
                    with_reducible rfl
                  rotate_left
                  · simp only [Act.put, List.setIfInBounds_toArray, List.set_cons_zero, List.set_cons_succ, i64_w, i32_w]
                    rfl
                  refine pure_ (i := 5) (N := some 95) (v := ?_) (a' := ?_) #[true, true, true, false, true, true, false, false, false, false, false] rfl rfl (by kernel_rfl) (fun _ _ _ h => h) (Or.inl ⟨by rfl, ?_⟩) ?_ ?_
                  rotate_left
                  · intro w'
                    go_simp
                    with_reducible rfl
                  rotate_left
                  · simp only [Act.put, List.setIfInBounds_toArray, List.set_cons_zero, List.set_cons_succ, i64_w, i32_w]
                    rfl
                  refine pure_ (i := 6) (N := some 96) (v := ?_) (a' := ?_) #[true, true, true, false, true, true, true, false, false, false, false] rfl rfl (by kernel_rfl) (fun _ _ _ h => h) (Or.inl ⟨by rfl, ?_⟩) ?_ ?_
                  rotate_left
                  · intro w'
                    go_simp
                    with_reducible rfl
                  rotate_left
                  · simp only [Act.put, List.setIfInBounds_toArray, List.set_cons_zero, List.set_cons_succ, i64_w, i32_w]
                    rfl
                  refine pure_ (i := 8) (N := some 2) (v := ?_) (a' := ?_) #[true, true, true, false, true, true, true, false, true, false, false] rfl rfl (by kernel_rfl) (fun _ _ _ h => h) (Or.inl ⟨by rfl, ?_⟩) ?_ ?_
                  rotate_left
                  · intro w'
                    go_simp
                    with_reducible rfl
                  rotate_left
                  · simp only [Act.put, List.setIfInBounds_toArray, List.set_cons_zero, List.set_cons_succ, i64_w, i32_w]
                    rfl
                  refine take_ (i := 3) (N := some 93) (v := ?_) (a' := ?_) #[true, true, true, true, true, true, true, false, true, false, false] rfl rfl (by kernel_rfl) (fun _ _ _ h => h) (Or.inl ⟨by rfl, ?_⟩) hHeld ?_ ?_
                  rotate_left
                  · rintro w' ⟨s0, s1⟩
                    go_simp
                    with_reducible rfl
                  rotate_left
                  · simp only [Act.put, List.setIfInBounds_toArray, List.set_cons_zero, List.set_cons_succ, i64_w, i32_w]
                    rfl
                  refine pure_ (i := 9) (N := some 3) (v := ?_) (a' := ?_) #[true, true, true, true, true, true, true, false, true, true, false] rfl rfl (by kernel_rfl) (fun _ _ _ h => h) (Or.inl ⟨by rfl, ?_⟩) ?_ ?_
                  rotate_left
                  · intro w'
                    go_simp
                    with_reducible rfl
                  rotate_left
                  · simp only [Act.put, List.setIfInBounds_toArray, List.set_cons_zero, List.set_cons_succ, i64_w, i32_w]
                    rfl
                  refine take_ (i := 7) (N := some 97) (v := ?_) (a' := ?_) #[true, true, true, true, true, true, true, true, true, true, false] rfl rfl (by kernel_rfl) (fun _ _ _ h => h) (Or.inl ⟨by rfl, ?_⟩) hHeld ?_ ?_
                  rotate_left
                  · rintro w' ⟨s0, s1⟩
                    go_simp
                    with_reducible rfl
                  rotate_left
                  · simp only [Act.put, List.setIfInBounds_toArray, List.set_cons_zero, List.set_cons_succ, i64_w, i32_w]
                    rfl
                  refine pure_ (i := 10) (N := some 4) (v := ?_) (a' := ?_) #[true, true, true, true, true, true, true, true, true, true, true] rfl rfl (by kernel_rfl) (fun _ _ _ h => h) (Or.inl ⟨by rfl, ?_⟩) ?_ ?_
                  rotate_left
                  · intro w'
                    go_simp
                    with_reducible rfl
                  rotate_left
                  · simp only [Act.put, List.setIfInBounds_toArray, List.set_cons_zero, List.set_cons_succ, i64_w, i32_w]
                    rfl
                  refine done_ (by kernel_rfl) ?_
                  try clear hHeld
                  go_wp2_with fail
                  go_ret3
                  exact ⟨_, rfl, Kd.S_nil _ _ _ _ _, HE.out.ri.2⟩
end Go.Proofs.Ytfnjbmpolggdeaa.CD.RR
end
section
namespace Go.Proofs.Ytfnjbmpolggdeaa.CD
open Go.RowKit Go.Lib Go.Proofs.YtfnjbmpolggdeaaW.PrintWords Go.Proofs.YtfnjbmpolggdeaaW.PrintLast Go.Proofs.YtfnjbmpolggdeaaW.PrintMore
set_option linter.unusedVariables false
set_option linter.unusedSimpArgs false
def Z0 : S82 := ⟨0, 0, false, 0, 0, 0, [], []⟩
def upd (x : Nat → List Int) (q : Nat) (z : List Int) : Nat → List Int := fun p => if p = q then z else x p
theorem upd_at (x : Nat → List Int) (q : Nat) (z : List Int) : upd x q z q = z := if_pos rfl
theorem upd_ne (x : Nat → List Int) {p q : Nat} (z : List Int) (h : p ≠ q) : upd x q z p = x p := if_neg h
theorem upd_id (x : Nat → List Int) (q : Nat) : upd x q (x q) = x := by
  funext p
  unfold upd
  split
  · next h => rw [h]
  · rfl
structure AS (w W : World) (B : Nat) (ad : Addr) (gv n : Nat) (l : List S82) (e : Nat → Value) (x : Nat → List Int) : Prop where
  bel : Below B w W
  hB : B ≤ W.heap.size
  adv : ad = ⟨gv, 0, none⟩
  vb : ∃ cells, W.heap[gv]? = some (.cells cells 82 (0, 0))
  cell : ∀ i, i < n → W.cell? (ad.add (i * 8)) = some (.int .i64 (l.getD i Z0).f0) ∧ W.cell? ⟨(ad.add (i * 8)).block, (ad.add (i * 8)).off + 1, none⟩ = some (.int .u8 (l.getD i Z0).f1) ∧ W.cell? ⟨(ad.add (i * 8)).block, (ad.add (i * 8)).off + 2, none⟩ = some (.bool (l.getD i Z0).f2) ∧ W.cell? ⟨(ad.add (i * 8)).block, (ad.add (i * 8)).off + 3, none⟩ = some (.int .i64 (l.getD i Z0).f3) ∧ W.cell? ⟨(ad.add (i * 8)).block, (ad.add (i * 8)).off + 4, none⟩ = some (.int .i64 (l.getD i Z0).f4) ∧ W.cell? ⟨(ad.add (i * 8)).block, (ad.add (i * 8)).off + 5, none⟩ = some (.int .i64 (l.getD i Z0).f5) ∧ W.cell? ⟨(ad.add (i * 8)).block, (ad.add (i * 8)).off + 6, none⟩ = some (e (2 * i)) ∧ W.cell? ⟨(ad.add (i * 8)).block, (ad.add (i * 8)).off + 7, none⟩ = some (e (2 * i + 1))
  row : ∀ q, q < 2 * n → RW W B (e q) (x q)
  ne : ∀ p q k, p < 2 * n → q < 2 * n → (e p).ownBlock = some k → (e q).ownBlock = some k → p = q
namespace AS
variable {w W W1 : World} {B : Nat} {ad : Addr} {gv n : Nat} {l : List S82} {e : Nat → Value} {x : Nat → List Int}
theorem blk (h : AS w W B ad gv n l e x) (m : Nat) : (ad.add m).block = gv := by rw [h.adv, add_plain]
theorem gne (h : AS w W B ad gv n l e x) {q : Nat} (hq : q < 2 * n) : some gv ≠ (e q).ownBlock := by
  obtain ⟨cells, hb⟩ := h.vb
  exact fun he => (h.row q hq).ne hb (by decide) he.symm
theorem cells_move (h : AS w W B ad gv n l e x) (hm : W1.heap[gv]? = W.heap[gv]?) : ∀ i, i < n → W1.cell? (ad.add (i * 8)) = some (.int .i64 (l.getD i Z0).f0) ∧ W1.cell? ⟨(ad.add (i * 8)).block, (ad.add (i * 8)).off + 1, none⟩ = some (.int .u8 (l.getD i Z0).f1) ∧ W1.cell? ⟨(ad.add (i * 8)).block, (ad.add (i * 8)).off + 2, none⟩ = some (.bool (l.getD i Z0).f2) ∧ W1.cell? ⟨(ad.add (i * 8)).block, (ad.add (i * 8)).off + 3, none⟩ = some (.int .i64 (l.getD i Z0).f3) ∧ W1.cell? ⟨(ad.add (i * 8)).block, (ad.add (i * 8)).off + 4, none⟩ = some (.int .i64 (l.getD i Z0).f4) ∧ W1.cell? ⟨(ad.add (i * 8)).block, (ad.add (i * 8)).off + 5, none⟩ = some (.int .i64 (l.getD i Z0).f5) ∧ W1.cell? ⟨(ad.add (i * 8)).block, (ad.add (i * 8)).off + 6, none⟩ = some (e (2 * i)) ∧ W1.cell? ⟨(ad.add (i * 8)).block, (ad.add (i * 8)).off + 7, none⟩ = some (e (2 * i + 1)) := by
  intro i hi
  obtain ⟨h0, h1, h2, h3, h4, h5, h6, h7⟩ := h.cell i hi
  have hc : ∀ p : Addr, p.block = gv → W1.cell? p = W.cell? p := fun p hp => World.cell?_of_block (by rw [hp]; exact hm)
  have hg := h.blk (i * 8)
  exact ⟨(hc _ hg).trans h0, (hc ⟨_, _, none⟩ hg).trans h1, (hc ⟨_, _, none⟩ hg).trans h2, (hc ⟨_, _, none⟩ hg).trans h3, (hc ⟨_, _, none⟩ hg).trans h4, (hc ⟨_, _, none⟩ hg).trans h5, (hc ⟨_, _, none⟩ hg).trans h6, (hc ⟨_, _, none⟩ hg).trans h7⟩
theorem move (h : AS w W B ad gv n l e x) {q : Nat} (hq : q < 2 * n) {z : List Int} (hm : ∀ k, k < W.heap.size → some k ≠ (e q).ownBlock → W1.heap[k]? = W.heap[k]?) (hr : RW W1 B (e q) z) (hb : Below B w W1) (hs : W.heap.size ≤ W1.heap.size) : AS w W1 B ad gv n l e (upd x q z) := by
  obtain ⟨cells, hvb⟩ := h.vb
  have hgv := hm gv (blk_lt hvb) (h.gne hq)
  exact {
    bel := hb
    hB := Nat.le_trans h.hB hs
    adv := h.adv
    vb := ⟨cells, hgv.trans hvb⟩
    cell := h.cells_move hgv
    row := fun p hp => by
      by_cases hpq : p = q
      · rw [hpq, upd_at]; exact hr
      · rw [upd_ne _ _ hpq]
        exact (h.row p hp).step (fun k hk => hm k (Kd.R_lt (h.row p hp) k hk) (fun he => hpq (h.ne p q k hp hq hk he.symm)))
    ne := h.ne }
theorem keep (h : AS w W B ad gv n l e x) {q : Nat} (hq : q < 2 * n) (hm : ∀ k, k < W.heap.size → some k ≠ (e q).ownBlock → W1.heap[k]? = W.heap[k]?) (hr : RW W1 B (e q) (x q)) (hb : Below B w W1) (hs : W.heap.size ≤ W1.heap.size) : AS w W1 B ad gv n l e x := by
  have h1 := h.move hq hm hr hb hs
  rw [upd_id] at h1
  exact h1
theorem below (h : AS w W B ad gv n l e x) (hb : Below W.heap.size W W1) : AS w W1 B ad gv n l e x := by
  obtain ⟨cells, hvb⟩ := h.vb
  have hgv := hb.block gv (blk_lt hvb)
  exact {
    bel := below_then h.bel h.hB hb
    hB := Nat.le_trans h.hB hb.size
    adv := h.adv
    vb := ⟨cells, hgv.trans hvb⟩
    cell := h.cells_move hgv
    row := fun p hp => (h.row p hp).step (fun k hk => hb.block k (Kd.R_lt (h.row p hp) k hk))
    ne := h.ne }
theorem put (h : AS w W B ad gv n l e x) {q : Nat} (hq : q < 2 * n) {b c : Nat} (he : e q = .slice (some ⟨b, 0, none⟩) (x q).length c) (j : Nat) (v : Int) : AS w (W.setCell ⟨b, j, none⟩ (.int .i64 v)) B ad gv n l e (upd x q ((x q).set j v)) := by
  have hr := h.row q hq
  have hown : (e q).ownBlock = some b := by rw [he]; rfl
  have hp : RW (W.setCell ⟨b, j, none⟩ (.int .i64 v)) B (e q) ((x q).set j v) := by
    rw [he] at hr ⊢
    exact Kd.R_putn hr (j : Int) v
  refine h.move hq (fun k hk hne => Below.heap_setCell W ⟨b, j, none⟩ _ k (fun ek => hne (by rw [hown, ek]))) hp (h.bel.setCell (p := ⟨b, j, none⟩) (Kd.R_base hr b hown) _) ?_
  simp [World.setCell]
end AS
theorem keep_append {ops : Array Oper} {rest : List Oper} {o : Oper} {a : Act} {Q : Exit → Act → World → Prop} {w W : World} {B : Nat} {v : Value} {xs : List Int} (hgd : o.guard = none) (s x : Operand)
    (ho : o.op = .call { callee := .builtin .append, args := #[s, x], argTypes := #[22, 22] }) (hv : RW W B v xs) (hs : a.eval s = v) (hx : a.eval x = .slice (some ⟨W.heap.size, 0, none⟩) 2 2) (hbel : Below B w W) (hB : B ≤ W.heap.size) (hl : xs.length ≤ 1000000)
    (h : ∀ v1 w1, (∀ k, k < W.heap.size → some k ≠ v.ownBlock → w1.heap[k]? = W.heap[k]?) → W.heap.size ≤ w1.heap.size → RW w1 B v xs → Below B w w1 → wpList Try.prog ops Q rest (a.put o.dst v1) w1) :
    wpList Try.prog ops Q (o :: rest) a (W.alloc (.cells #[.int .i64 (-1), .int .i64 (-1)] 3)) := by
  have hb1 := below_alloc (Below.refl W.heap.size W) (.cells #[.int .i64 (-1), .int .i64 (-1)] 3)
  have hv1 : RW (W.alloc (.cells #[.int .i64 (-1), .int .i64 (-1)] 3)) B v xs := hv.step (fun k hk => hb1.block k (Kd.R_lt hv k hk))
  have hbel1 : Below B w (W.alloc (.cells #[.int .i64 (-1), .int .i64 (-1)] 3)) := below_then hbel hB hb1
  have htmp : (W.alloc (.cells #[.int .i64 (-1), .int .i64 (-1)] 3)).heap[W.heap.size]? = some (.cells #[.int .i64 (-1), .int .i64 (-1)] 3 (0, 0)) := Array.getElem?_push_size
  have hcell : ∀ j u, [Value.int .i64 (-1), Value.int .i64 (-1)][j]? = some u → (W.alloc (.cells #[.int .i64 (-1), .int .i64 (-1)] 3)).cell? ((⟨W.heap.size, 0, none⟩ : Addr).add j) = some u := fun j u hj => by
    rw [add_plain, blk_cell htmp j]
    simpa using hj
  obtain ⟨i, hi, hz⟩ := Option.map_eq_some_iff.1 infoInt
  simp only [Prod.mk.injEq] at hz
  obtain ⟨z1, z2, z3⟩ := hz
  have hsz1 : W.heap.size ≤ (W.alloc (.cells #[.int .i64 (-1), .int .i64 (-1)] 3)).heap.size := hb1.size
  have fin : ∀ v1 w1, (W.alloc (.cells #[.int .i64 (-1), .int .i64 (-1)] 3)).grownBy w1 none → wpList Try.prog ops Q rest (a.put o.dst v1) w1 := fun v1 w1 hg => by
    have hbb : Below (W.alloc (.cells #[.int .i64 (-1), .int .i64 (-1)] 3)).heap.size (W.alloc (.cells #[.int .i64 (-1), .int .i64 (-1)] 3)) w1 := ⟨hg.os, hg.tape, hg.output, hg.size, fun k hk => hg.block k hk (by simp)⟩
    refine h v1 w1 (fun k hk _ => (hbb.block k (Nat.lt_of_lt_of_le hk hsz1)).trans (hb1.block k hk)) (Nat.le_trans hsz1 hg.size) (hv1.step (fun k hk => hbb.block k (Kd.R_lt hv1 k hk))) (below_then hbel1 (Nat.le_trans hB hsz1) hbb)
  obtain ⟨hl0, ⟨hv0, hn⟩ | ⟨g, cap, cur, hv0, hg, hb, hnc, hcm, hsz, htk⟩⟩ := Kd.own_of_R (enc := Value.int .i64) (h1 := fun _ => rfl) hv1
  · subst hv0
    exact wpList_append_grows _ hgd s x 22 ho 3 i (.int .i64 0) 1 8 Try.underlying22 hi z1 z2 z3 rfl (by decide) none 0 0 [] hs (fun _ => ⟨rfl, rfl⟩) rfl (fun b hb => by cases hb) ⟨W.heap.size, 0, none⟩ 2 2 [.int .i64 (-1), .int .i64 (-1)] hx rfl hcell (by intro u hu; simp at hu; subst hu; rfl) (by decide) (by decide) (by decide) (fun v' w' _ hg => fin v' w' hg)
  · subst hv0
    have hcur : ∀ j, (W.alloc (.cells #[.int .i64 (-1), .int .i64 (-1)] 3)).cell? ⟨g, j, none⟩ = cur[j]? := fun j => blk_cell hb j
    refine wpList_append_arg _ hgd s x 22 ho 3 i (.int .i64 0) 1 8 Try.underlying22 hi z1 z2 z3 rfl (by decide) g 0 xs.length cap (xs.map (Value.int .i64)) hs (by simp) ?_ ⟨W.heap.size, 0, none⟩ 2 2 [.int .i64 (-1), .int .i64 (-1)] hx rfl hcell (by intro u hu; simp at hu; subst hu; rfl) ?_ (by unfold maxLen; omega) (by omega) ?_ (fun _ v' w' _ hg => fin v' w' hg)
    · intro j u hj
      rw [Nat.zero_add, hcur]
      have hjl : j < xs.length := by
        have := (List.getElem?_eq_some_iff.1 hj).1
        simpa using this
      have e2 : (cur.toList.take (xs.length * 1))[j]? = some u := by rw [htk]; exact hj
      rw [List.getElem?_take_of_lt (by omega)] at e2
      simpa using e2
    · intro hroom j hj
      have hj2 : j < 2 := hj
      refine ⟨?_, blk_frozen hb _⟩
      rw [hcur, Array.getElem?_eq_getElem (by omega)]
      rfl
    · intro hroom
      have e3 : ∀ a : Int, xs.set xs.length a = xs := fun a => List.set_eq_of_length_le (Nat.le_refl _)
      have e4 : ∀ a : Int, xs.set (xs.length + 1) a = xs := fun a => List.set_eq_of_length_le (by omega)
      have r1 : RW ((W.alloc (.cells #[.int .i64 (-1), .int .i64 (-1)] 3)).setCell ⟨g, xs.length, none⟩ (.int .i64 (-1))) B (.slice (some ⟨g, 0, none⟩) xs.length cap) xs := by
        have := Kd.R_putn hv1 ((xs.length : Nat) : Int) (-1)
        rw [Int.toNat_natCast, e3] at this
        exact this
      have r2 : RW (((W.alloc (.cells #[.int .i64 (-1), .int .i64 (-1)] 3)).setCell ⟨g, xs.length, none⟩ (.int .i64 (-1))).setCell ⟨g, xs.length + 1, none⟩ (.int .i64 (-1))) B (.slice (some ⟨g, 0, none⟩) xs.length cap) xs := by
        have := Kd.R_putn r1 ((xs.length + 1 : Nat) : Int) (-1)
        rw [Int.toNat_natCast, e4] at this
        exact this
      have hw : (W.alloc (.cells #[.int .i64 (-1), .int .i64 (-1)] 3)).setCells g (0 + xs.length * 1) [.int .i64 (-1), .int .i64 (-1)] = ((W.alloc (.cells #[.int .i64 (-1), .int .i64 (-1)] 3)).setCell ⟨g, xs.length, none⟩ (.int .i64 (-1))).setCell ⟨g, xs.length + 1, none⟩ (.int .i64 (-1)) := by
        rw [Nat.zero_add, Nat.mul_one]
        rfl
      rw [hw]
      refine h _ _ (fun k hk hne => ?_) ?_ r2 ((hbel1.setCell (p := ⟨g, xs.length, none⟩) hg _).setCell (p := ⟨g, xs.length + 1, none⟩) hg _)
      · have hkg : k ≠ g := fun e => hne (by rw [e]; rfl)
        exact (Below.heap_setCell _ ⟨g, xs.length + 1, none⟩ _ k hkg).trans ((Below.heap_setCell _ ⟨g, xs.length, none⟩ _ k hkg).trans (hb1.block k hk))
      · simp only [World.setCell, Array.size_modify]
        exact hsz1
def rowX (l : List S82) (q : Nat) : List Int := if q % 2 = 0 then (l.getD (q / 2) Z0).f6 else (l.getD (q / 2) Z0).f7
theorem AS.start {w W : World} {B c : Nat} {ad : Addr} {l : List S82} (hS : IR W B (.slice (some ad) l.length c) l) (hb : Below B w W) (hB : B ≤ W.heap.size) : ∃ gv e, AS w W B ad gv l.length l e (rowX l) := by
  obtain ⟨gv, rfl⟩ := Kd.R_head (Kd.S_R hS)
  obtain ⟨cells, hvb⟩ := Kd.S_typed hS gv rfl
  obtain ⟨f, hR⟩ := hS
  have key : ∀ i, i < l.length → ∃ v6 v7, W.cell? ⟨gv, i * 8, none⟩ = some (.int .i64 (l.getD i Z0).f0) ∧ W.cell? ⟨gv, i * 8 + 1, none⟩ = some (.int .u8 (l.getD i Z0).f1) ∧ W.cell? ⟨gv, i * 8 + 2, none⟩ = some (.bool (l.getD i Z0).f2) ∧ W.cell? ⟨gv, i * 8 + 3, none⟩ = some (.int .i64 (l.getD i Z0).f3) ∧ W.cell? ⟨gv, i * 8 + 4, none⟩ = some (.int .i64 (l.getD i Z0).f4) ∧ W.cell? ⟨gv, i * 8 + 5, none⟩ = some (.int .i64 (l.getD i Z0).f5) ∧ W.cell? ⟨gv, i * 8 + 6, none⟩ = some v6 ∧ W.cell? ⟨gv, i * 8 + 7, none⟩ = some v7 ∧ RW W B v6 (l.getD i Z0).f6 ∧ RW W B v7 (l.getD i Z0).f7 ∧ (∀ k, v6.ownBlock = some k → f k = i ∧ v7.ownBlock ≠ some k) ∧ (∀ k, v7.ownBlock = some k → f k = i) := by
    intro i hi
    obtain ⟨cs, hcl, hM, hcc⟩ := Kd.R_get hR (Z0, 0) (i : Int) (by omega) (by omega)
    have e1 : l.zipIdx.getD ((i : Int)).toNat (Z0, 0) = (l.getD i Z0, i) := by
      rw [Int.toNat_natCast, List.getD_eq_getElem?_getD, List.getD_eq_getElem?_getD, List.getElem?_zipIdx, List.getElem?_eq_getElem hi]
      simp
    rw [e1] at hM
    have hM2 : kI.M W B (fun k => ((True ∧ some k ≠ (Value.slice (some ⟨gv, 0, none⟩) l.length c).ownBlock) ∧ f k = i)) (l.getD i Z0) cs := hM
    obtain ⟨v6, v7, hcs, g6, g7⟩ := k82_openM hM2.1
    have hap := hM2.2
    subst hcs
    have hcell : ∀ j u, [Value.int .i64 (l.getD i Z0).f0, .int .u8 (l.getD i Z0).f1, .bool (l.getD i Z0).f2, .int .i64 (l.getD i Z0).f3, .int .i64 (l.getD i Z0).f4, .int .i64 (l.getD i Z0).f5, v6, v7][j]? = some u → W.cell? ⟨gv, i * 8 + j, none⟩ = some u := fun j u hj => by
      have h1 := hcc j u hj
      rw [add_plain, Int.toNat_natCast] at h1
      exact h1
    refine ⟨v6, v7, hcell 0 _ rfl, hcell 1 _ rfl, hcell 2 _ rfl, hcell 3 _ rfl, hcell 4 _ rfl, hcell 5 _ rfl, hcell 6 _ rfl, hcell 7 _ rfl, Kd.R_mono g6 (fun _ _ => trivial), Kd.R_mono g7 (fun _ _ => trivial), fun k hk => ⟨(g6.1 k hk).2, hap v6 v7 rfl rfl k hk⟩, fun k hk => (g7.1 k hk).2⟩
  let e : Nat → Value := fun q => (W.cell? ⟨gv, q / 2 * 8 + 6 + q % 2, none⟩).getD (.slice none 0 0)
  have he6 : ∀ i v, W.cell? ⟨gv, i * 8 + 6, none⟩ = some v → e (2 * i) = v := fun i v h => by
    show (W.cell? ⟨gv, 2 * i / 2 * 8 + 6 + 2 * i % 2, none⟩).getD _ = v
    rw [show 2 * i / 2 * 8 + 6 + 2 * i % 2 = i * 8 + 6 by omega, h]; rfl
  have he7 : ∀ i v, W.cell? ⟨gv, i * 8 + 7, none⟩ = some v → e (2 * i + 1) = v := fun i v h => by
    show (W.cell? ⟨gv, (2 * i + 1) / 2 * 8 + 6 + (2 * i + 1) % 2, none⟩).getD _ = v
    rw [show (2 * i + 1) / 2 * 8 + 6 + (2 * i + 1) % 2 = i * 8 + 7 by omega, h]; rfl
  have hown : ∀ q, q < 2 * l.length → ∀ k, (e q).ownBlock = some k → f k = q / 2 := fun q hq k hk => by
    obtain ⟨v6, v7, _, _, _, _, _, _, c6, c7, _, _, a6, a7⟩ := key (q / 2) (by omega)
    rcases Nat.mod_two_eq_zero_or_one q with hm | hm
    · have h1 : q = 2 * (q / 2) := by omega
      rw [h1, he6 _ _ c6] at hk
      exact (a6 k hk).1
    · have h1 : q = 2 * (q / 2) + 1 := by omega
      rw [h1, he7 _ _ c7] at hk
      exact a7 k hk
  refine ⟨gv, e, { bel := hb, hB := hB, adv := rfl, vb := ⟨cells, hvb⟩, cell := fun i hi => ?_, row := fun q hq => ?_, ne := fun p q k hp hq h1 h2 => ?_ }⟩
  · obtain ⟨v6, v7, c0, c1, c2, c3, c4, c5, c6, c7, _, _, _, _⟩ := key i hi
    rw [add_plain, he6 _ _ c6, he7 _ _ c7]
    exact ⟨c0, c1, c2, c3, c4, c5, c6, c7⟩
  · obtain ⟨v6, v7, _, _, _, _, _, _, c6, c7, r6, r7, _, _⟩ := key (q / 2) (by omega)
    rcases Nat.mod_two_eq_zero_or_one q with hm | hm
    · have h1 : q = 2 * (q / 2) := by omega
      have h2 : e q = v6 := by rw [h1]; exact he6 _ _ c6
      rw [h2]
      unfold rowX
      rw [if_pos hm]
      exact r6
    · have h1 : q = 2 * (q / 2) + 1 := by omega
      have h2 : e q = v7 := by rw [h1]; exact he7 _ _ c7
      rw [h2]
      unfold rowX
      rw [if_neg (by omega)]
      exact r7
  · have f1 := hown p hp k h1
    have f2 := hown q hq k h2
    have hpq : p / 2 = q / 2 := by omega
    obtain ⟨v6, v7, _, _, _, _, _, _, c6, c7, _, _, a6, a7⟩ := key (q / 2) (by omega)
    rcases Nat.mod_two_eq_zero_or_one p with mp | mp <;> rcases Nat.mod_two_eq_zero_or_one q with mq | mq
    · omega
    · exfalso
      have e1 : p = 2 * (q / 2) := by omega
      have e2 : q = 2 * (q / 2) + 1 := by omega
      rw [e1, he6 _ _ c6] at h1
      rw [e2, he7 _ _ c7] at h2
      exact (a6 k h1).2 h2
    · exfalso
      have e1 : p = 2 * (q / 2) + 1 := by omega
      have e2 : q = 2 * (q / 2) := by omega
      rw [e1, he7 _ _ c7] at h1
      rw [e2, he6 _ _ c6] at h2
      exact (a6 k h2).2 h1
    · omega
end Go.Proofs.Ytfnjbmpolggdeaa.CD
end
section
namespace Go.Proofs.Ytfnjbmpolggdeaa.CD
open Go.RowKit Go.Lib Go.Proofs.YtfnjbmpolggdeaaW.PrintWords Go.Proofs.YtfnjbmpolggdeaaW.PrintLast Go.Proofs.YtfnjbmpolggdeaaW.PrintMore
set_option linter.unusedVariables false
set_option linter.unusedSimpArgs false
def Lens (l : List S82) (x : Nat → List Int) : Prop := ∀ q, q < 2 * l.length → (x q).length = (rowX l q).length
def Fill (x : Nat → List Int) (q m : Nat) : Prop := ∀ i : Nat, i < m → rd (x q) (i : Int) = (q : Int) + 1000000
theorem Lens.upd {l : List S82} {x : Nat → List Int} (h : Lens l x) (q j : Nat) (v : Int) : Lens l (upd x q ((x q).set j v)) := fun p hp => by
  by_cases hpq : p = q
  · rw [hpq, upd_at, List.length_set, ← hpq]; exact h p hp
  · rw [upd_ne _ _ hpq]; exact h p hp
theorem Fill.zero (x : Nat → List Int) (q : Nat) : Fill x q 0 := fun i hi => absurd hi (Nat.not_lt_zero _)
theorem Fill.other {x : Nat → List Int} {p m : Nat} (h : Fill x p m) {q : Nat} (z : List Int) (hne : p ≠ q) : Fill (upd x q z) p m := fun i hi => by rw [upd_ne _ _ hne]; exact h i hi
theorem Fill.step {x : Nat → List Int} {q j : Nat} (h : Fill x q j) (hj : j < (x q).length) {v : Int} (hv : v = (q : Int) + 1000000) : Fill (upd x q ((x q).set j v)) q (j + 1) := fun i hi => by
  rw [upd_at]
  unfold rd
  rw [Int.toNat_natCast, List.getD_eq_getElem?_getD, List.getElem?_set]
  by_cases hij : j = i
  · rw [if_pos hij, if_pos (by omega)]
    exact hv
  · rw [if_neg hij]
    have := h i (by omega)
    unfold rd at this
    rw [Int.toNat_natCast, List.getD_eq_getElem?_getD] at this
    exact this
theorem AS.keep' {w W W1 : World} {B : Nat} {ad : Addr} {gv n : Nat} {l : List S82} {e : Nat → Value} {x : Nat → List Int} (h : AS w W B ad gv n l e x) {q : Nat} (hq : q < 2 * n) {v : Value} (he : e q = v) (hm : ∀ k, k < W.heap.size → some k ≠ v.ownBlock → W1.heap[k]? = W.heap[k]?) (hs : W.heap.size ≤ W1.heap.size) (hr : RW W1 B v (x q)) (hb : Below B w W1) : AS w W1 B ad gv n l e x := by
  subst he
  exact h.keep hq hm hr hb hs
theorem AS.sl {w W : World} {B : Nat} {ad : Addr} {gv : Nat} {l : List S82} {e : Nat → Value} {x : Nat → List Int} (h : AS w W B ad gv l.length l e x) (hL : Lens l x) {q : Nat} (hq : q < 2 * l.length) : ∃ A c, e q = .slice A (rowX l q).length c := by
  obtain ⟨A, c, hv⟩ := Kd.R_slice (h.row q hq)
  rw [hL q hq] at hv
  exact ⟨A, c, hv⟩
theorem AS.rowOf {w W : World} {B : Nat} {ad : Addr} {gv n : Nat} {l : List S82} {e : Nat → Value} {x : Nat → List Int} (h : AS w W B ad gv n l e x) {q : Nat} (hq : q < 2 * n) {v : Value} (he : e q = v) : RW W B v (x q) := he ▸ h.row q hq
theorem RW.some {W : World} {B : Nat} {A : Option Addr} {m c : Nat} {xs : List Int} (h : RW W B (.slice A m c) xs) {j : Nat} (hj : j < m) : ∃ b, A = .some ⟨b, 0, none⟩ := by
  have hn := (Kd.R_reads' h).1
  obtain ⟨b, cap, hv, _⟩ := Kd.R_form h (by omega)
  injection hv with hA _ _
  exact ⟨b, hA⟩
set_option maxHeartbeats 16000000 in
set_option maxRecDepth 100000 in
theorem apart_nil (w0 w : World) (A : Option Addr) (c : Nat) (hb : Below w0.heap.size w0 w) : Calls Try.prog 50 #[.slice A 0 c] w fun e w' => e = .returned (.bool true) ∧ Below w0.heap.size w0 w' := by
  have HB := Aside0.mk hb
  clear hb
  go_enter Try.func50, Try.ntmps50
  have bk : decide ((0 : Int) < (0 : Int)) = false := by decide
  go_wp2_with fail
  go_loopw [15] (fun i wr => i = .int .i64 0 ∧ Aside0 (Below w0.heap.size w0 wr)) (fun _ _ => 0)
  case atStart => exact ⟨rfl, HB⟩
  case round =>
  clear HB
  obtain ⟨rfl, HB⟩ := hrel
  go_wp2_with fail
  go_loopw [61] (fun i wr => i = .int .i64 0 ∧ Aside0 (Below w0.heap.size w0 wr)) (fun _ _ => 0)
  case atStart => exact ⟨rfl, HB⟩
  case round =>
  clear HB
  obtain ⟨rfl, HB⟩ := hrel
  go_wp2_with fail
  go_loopw [81] (fun i wr => i = .int .i64 0 ∧ Aside0 (Below w0.heap.size w0 wr)) (fun _ _ => 0)
  case atStart => exact ⟨rfl, HB⟩
  case round =>
  clear HB
  obtain ⟨rfl, HB⟩ := hrel
  go_wp2
  go_ret
  exact ⟨rfl, HB.out⟩
set_option maxHeartbeats 16000000 in
set_option maxRecDepth 100000 in
theorem apart_some (w0 w : World) (ad : Addr) (c : Nat) (l : List S82) (hS : IR w w0.heap.size (.slice (some ad) l.length c) l) (hb : Below w0.heap.size w0 w) (hn : l.length ≤ 100000) (hl : ∀ q, q < 2 * l.length → (rowX l q).length ≤ 1000000) :
    Calls Try.prog 50 #[.slice (some ad) l.length c] w fun e w' => e = .returned (.bool true) ∧ Below w0.heap.size w0 w' := by
  have HN := Aside0.mk hn
  have HB := Aside0.mk hl
  obtain ⟨gv, e, h⟩ := AS.start hS hb hb.size
  have H0 := Aside0.mk h
  clear h hS hb hn hl
  go_enter Try.func50, Try.ntmps50
  go_wp2_with fail
  go_loopw [15] (fun i wr => ∃ (k : Nat) (x : Nat → List Int), k ≤ l.length ∧ i = .int .i64 (k : Int) ∧ Aside0 (AS w0 wr w0.heap.size ad gv l.length l e x) ∧ Aside0 (Lens l x) ∧ Aside0 (∀ q, q < 2 * k → Fill x q (rowX l q).length)) (fun i _ => l.length - (intOf i).toNat)
  case atStart => exact ⟨0, _, Nat.zero_le _, rfl, H0, ⟨fun q _ => rfl⟩, ⟨fun q hq => absurd hq (by omega)⟩⟩
  case round =>
    clear H0
    obtain ⟨k, x, hk, rfl, H, HL, HF⟩ := hrel
    by_cases hlt : k < l.length
    · have bk : decide ((k : Int) < (l.length : Int)) = true := decide_eq_true (by omega)
      obtain ⟨A6, c6, he6⟩ := H.out.sl HL.out (q := 2 * k) (by omega)
      obtain ⟨A7, c7, he7⟩ := H.out.sl HL.out (q := 2 * k + 1) (by omega)
      obtain ⟨m6, hm6⟩ : ∃ m, (rowX l (2 * k)).length = m := ⟨_, rfl⟩
      obtain ⟨m7, hm7⟩ : ∃ m, (rowX l (2 * k + 1)).length = m := ⟨_, rfl⟩
      rw [hm6] at he6
      rw [hm7] at he7
      have HQ6 := Aside0.mk hm6
      have HQ7 := Aside0.mk hm7
      have HM6 := Aside0.mk (show m6 ≤ 1000000 by rw [← hm6]; exact HB.out (2 * k) (by omega))
      have HM7 := Aside0.mk (show m7 ≤ 1000000 by rw [← hm7]; exact HB.out (2 * k + 1) (by omega))
      have HE6 := Aside0.mk he6
      have HE7 := Aside0.mk he7
      have HLT := Aside0.mk hlt
      clear he6 he7 hm6 hm7
      obtain ⟨a0, a1, a2, a3, a4, a5, a6, a7⟩ := H.out.cell k HLT.out
      rw [HE6.out] at a6
      rw [HE7.out] at a7
      clear hk
      as_aux_lemma =>
      go_wp2_with fail
      go_loopw [24] (fun i wr => ∃ (j : Nat) (x : Nat → List Int), j ≤ m6 ∧ i = .int .i64 (j : Int) ∧ Aside0 (AS w0 wr w0.heap.size ad gv l.length l e x) ∧ Aside0 (Lens l x) ∧ Aside0 (∀ q, q < 2 * k → Fill x q (rowX l q).length) ∧ Aside0 (Fill x (2 * k) j)) (fun i _ => m6 - (intOf i).toNat)
      case atStart => exact ⟨0, _, Nat.zero_le _, rfl, H, HL, HF, ⟨Fill.zero _ _⟩⟩
      case round =>
        clear H HL HF
        try clear a0 a1 a2 a3 a4 a5 a6 a7
        obtain ⟨j, x, hj, rfl, H, HL, HF, HJ⟩ := hrel
        obtain ⟨a0, a1, a2, a3, a4, a5, a6, a7⟩ := H.out.cell k HLT.out
        rw [HE6.out] at a6
        rw [HE7.out] at a7
        by_cases hjm : j < m6
        · have bj : decide ((j : Int) < (m6 : Int)) = true := decide_eq_true (by omega)
          have bjn : decide (j < m6) = true := decide_eq_true (by omega)
          have HR := Aside0.mk (H.out.rowOf (q := 2 * k) (by have := HLT.out; omega) HE6.out)
          obtain ⟨b, hA⟩ := HR.out.some hjm
          subst hA
          obtain ⟨z0, z1⟩ := Kd.R_celln 0 HR.out (j : Int) (by omega) (by omega)
          simp only [Int.toNat_natCast] at z0 z1
          have e1 : wrap64 (2 * (k : Int)) = 2 * (k : Int) := by rw [← i64_w, IntKind.wrap_i64]; have := HLT.out; have := HN.out; omega
          have e2 : wrap64 (2 * (k : Int) + 1000000) = 2 * (k : Int) + 1000000 := by rw [← i64_w, IntKind.wrap_i64]; have := HLT.out; have := HN.out; omega
          have wk : wrap64 ((j : Int) + 1) = ((j + 1 : Nat) : Int) := by rw [← i64_w, IntKind.wrap_i64]; have := HM6.out; omega
          have WN := Aside0.mk (congrArg (Value.int IntKind.i64) wk)
          have WI := Aside0.mk wk
          have HJM := Aside0.mk hjm
          have HXL := Aside0.mk (show (x (2 * k)).length = m6 by rw [HL.out _ (by have := HLT.out; omega)]; exact HQ6.out)
          have H1 := Aside0.mk (H.out.put (q := 2 * k) (by have := HLT.out; omega) (b := b) (c := c6) (by rw [HXL.out]; exact HE6.out) j (2 * (k : Int) + 1000000))
          clear wk hj
          as_aux_lemma =>
          go_wp2_with fail
          go_roundw
          case rel => exact ⟨j + 1, _, HJM.out, by first | exact WN.out | exact WI.out, H1, ⟨HL.out.upd _ _ _⟩, ⟨fun q hq => (HF.out q hq).other _ (by omega)⟩, ⟨HJ.out.step (by rw [HXL.out]; exact HJM.out) (by omega)⟩⟩
          case measure => exact ms_valD HJM.out WN.out
        · have hjm2 : m6 = j := by omega
          subst hjm2
          have bj : decide ((m6 : Int) < (m6 : Int)) = false := decide_eq_false (by omega)
          have bjn : decide (m6 < m6) = false := decide_eq_false (by omega)
          clear hjm hj
          have HF6 := HJ
          go_wp2_with fail
          go_loopw [44] (fun i wr => ∃ (j : Nat) (x : Nat → List Int), j ≤ m7 ∧ i = .int .i64 (j : Int) ∧ Aside0 (AS w0 wr w0.heap.size ad gv l.length l e x) ∧ Aside0 (Lens l x) ∧ Aside0 (∀ q, q < 2 * k → Fill x q (rowX l q).length) ∧ Aside0 (Fill x (2 * k) m6) ∧ Aside0 (Fill x (2 * k + 1) j)) (fun i _ => m7 - (intOf i).toNat)
          case atStart => exact ⟨0, _, Nat.zero_le _, rfl, H, HL, HF, HF6, ⟨Fill.zero _ _⟩⟩
          case round =>
            clear H HL HF HF6
            try clear a0 a1 a2 a3 a4 a5 a6 a7
            obtain ⟨j, x, hj, rfl, H, HL, HF, HF6, HJ⟩ := hrel
            obtain ⟨a0, a1, a2, a3, a4, a5, a6, a7⟩ := H.out.cell k HLT.out
            rw [HE6.out] at a6
            rw [HE7.out] at a7
            by_cases hjm : j < m7
            · have bj : decide ((j : Int) < (m7 : Int)) = true := decide_eq_true (by omega)
              have bjn : decide (j < m7) = true := decide_eq_true (by omega)
              have HR := Aside0.mk (H.out.rowOf (q := 2 * k + 1) (by have := HLT.out; omega) HE7.out)
              obtain ⟨b, hA⟩ := HR.out.some hjm
              subst hA
              obtain ⟨z0, z1⟩ := Kd.R_celln 0 HR.out (j : Int) (by omega) (by omega)
              simp only [Int.toNat_natCast] at z0 z1
              have e1 : wrap64 (2 * (k : Int)) = 2 * (k : Int) := by rw [← i64_w, IntKind.wrap_i64]; have := HLT.out; have := HN.out; omega
              have e2 : wrap64 (2 * (k : Int) + 1000001) = 2 * (k : Int) + 1000001 := by rw [← i64_w, IntKind.wrap_i64]; have := HLT.out; have := HN.out; omega
              have wk : wrap64 ((j : Int) + 1) = ((j + 1 : Nat) : Int) := by rw [← i64_w, IntKind.wrap_i64]; have := HM7.out; omega
              have WN := Aside0.mk (congrArg (Value.int IntKind.i64) wk)
              have WI := Aside0.mk wk
              have HJM := Aside0.mk hjm
              have HXL := Aside0.mk (show (x (2 * k + 1)).length = m7 by rw [HL.out _ (by have := HLT.out; omega)]; exact HQ7.out)
              have H1 := Aside0.mk (H.out.put (q := 2 * k + 1) (by have := HLT.out; omega) (b := b) (c := c7) (by rw [HXL.out]; exact HE7.out) j (2 * (k : Int) + 1000001))
              clear wk hj
              as_aux_lemma =>
              go_wp2_with fail
              go_roundw
              case rel => exact ⟨j + 1, _, HJM.out, by first | exact WN.out | exact WI.out, H1, ⟨HL.out.upd _ _ _⟩, ⟨fun q hq => (HF.out q hq).other _ (by omega)⟩, ⟨HF6.out.other _ (by omega)⟩, ⟨HJ.out.step (by rw [HXL.out]; exact HJM.out) (by omega)⟩⟩
              case measure => exact ms_valD HJM.out WN.out
            · have hjm2 : m7 = j := by omega
              subst hjm2
              have bj : decide ((m7 : Int) < (m7 : Int)) = false := decide_eq_false (by omega)
              have bjn : decide (m7 < m7) = false := decide_eq_false (by omega)
              clear hjm hj
              have wk : wrap64 ((k : Int) + 1) = ((k + 1 : Nat) : Int) := by rw [← i64_w, IntKind.wrap_i64]; have := HLT.out; have := HN.out; omega
              have WN2 := Aside0.mk (congrArg (Value.int IntKind.i64) wk)
              have WI2 := Aside0.mk wk
              clear wk
              as_aux_lemma =>
              go_wp2
              go_roundw
              case rel => exact ⟨k + 1, x, HLT.out, by first | exact WN2.out | exact WI2.out, H, HL, ⟨fun q hq => by
                by_cases h1 : q < 2 * k
                · exact HF.out q h1
                · by_cases h2 : q = 2 * k
                  · subst h2
                    rw [HQ6.out]
                    exact HF6.out
                  · obtain rfl : q = 2 * k + 1 := by omega
                    rw [HQ7.out]
                    exact HJ.out⟩⟩
              case measure => exact ms_valD HLT.out WN2.out
    · obtain rfl : k = l.length := by omega
      have bk : decide ((l.length : Int) < (l.length : Int)) = false := decide_eq_false (by omega)
      clear hlt hk
      have HX := H
      go_wp2_with fail
      go_loopw [61] (fun i wr => ∃ (k : Nat), k ≤ l.length ∧ i = .int .i64 (k : Int) ∧ Aside0 (AS w0 wr w0.heap.size ad gv l.length l e x)) (fun i _ => l.length - (intOf i).toNat)
      case atStart => exact ⟨0, Nat.zero_le _, rfl, HX⟩
      case round =>
        clear H HX
        obtain ⟨k, hk, rfl, H⟩ := hrel
        by_cases hlt : k < l.length
        · have bk : decide ((k : Int) < (l.length : Int)) = true := decide_eq_true (by omega)
          obtain ⟨A6, c6, he6⟩ := H.out.sl HL.out (q := 2 * k) (by omega)
          obtain ⟨A7, c7, he7⟩ := H.out.sl HL.out (q := 2 * k + 1) (by omega)
          obtain ⟨m6, hm6⟩ : ∃ m, (rowX l (2 * k)).length = m := ⟨_, rfl⟩
          obtain ⟨m7, hm7⟩ : ∃ m, (rowX l (2 * k + 1)).length = m := ⟨_, rfl⟩
          rw [hm6] at he6
          rw [hm7] at he7
          have HQ6 := Aside0.mk hm6
          have HQ7 := Aside0.mk hm7
          have HM6 := Aside0.mk (show m6 ≤ 1000000 by rw [← hm6]; exact HB.out (2 * k) (by omega))
          have HM7 := Aside0.mk (show m7 ≤ 1000000 by rw [← hm7]; exact HB.out (2 * k + 1) (by omega))
          have HE6 := Aside0.mk he6
          have HE7 := Aside0.mk he7
          have HLT := Aside0.mk hlt
          clear he6 he7 hm6 hm7
          obtain ⟨a0, a1, a2, a3, a4, a5, a6, a7⟩ := H.out.cell k HLT.out
          rw [HE6.out] at a6
          rw [HE7.out] at a7
          have HQQ6 := Aside0.mk (show 2 * k < 2 * l.length by omega)
          have HQQ7 := Aside0.mk (show 2 * k + 1 < 2 * l.length by omega)
          have HLX6 := Aside0.mk (show (x (2 * k)).length ≤ 1000000 by rw [HL.out _ HQQ6.out]; exact HB.out _ HQQ6.out)
          have HLX7 := Aside0.mk (show (x (2 * k + 1)).length ≤ 1000000 by rw [HL.out _ HQQ7.out]; exact HB.out _ HQQ7.out)
          have wk : wrap64 ((k : Int) + 1) = ((k + 1 : Nat) : Int) := by rw [← i64_w, IntKind.wrap_i64]; have := HLT.out; have := HN.out; omega
          have WN2 := Aside0.mk (congrArg (Value.int IntKind.i64) wk)
          have WI2 := Aside0.mk wk
          clear wk
          clear hk
          as_aux_lemma =>
          go_upto_region 19 with (first | ((with_reducible refine gate_builtin (b := .append) (xs := #[.tmp 68, .tmp 69]) rfl ?_); at_builtin; refine keep_append (w := w0) rfl (.tmp 68) (.tmp 69) rfl (H.out.rowOf (q := 2 * k) HQQ6.out HE6.out) rfl rfl H.out.bel H.out.hB HLX6.out ?_; intro vH2 wH2 hmH2 hsH2 hrH2 hbH2; have H2 := Aside0.mk (H.out.keep' (q := 2 * k) HQQ6.out HE6.out hmH2 hsH2 hrH2 hbH2); clear hmH2 hsH2 hrH2 hbH2) | go_in)
          clear a0 a1 a2 a3 a4 a5 a6 a7
          obtain ⟨b0, b1, b2, b3, b4, b5, b6, b7⟩ := H2.out.cell k HLT.out
          rw [HE6.out] at b6
          rw [HE7.out] at b7
          go_wp2_with (first | ((with_reducible refine gate_builtin (b := .append) (xs := #[.tmp 75, .tmp 76]) rfl ?_); at_builtin; refine keep_append (w := w0) rfl (.tmp 75) (.tmp 76) rfl (H2.out.rowOf (q := 2 * k + 1) HQQ7.out HE7.out) rfl rfl H2.out.bel H2.out.hB HLX7.out ?_; intro vH3 wH3 hmH3 hsH3 hrH3 hbH3; have H3 := Aside0.mk (H2.out.keep' (q := 2 * k + 1) HQQ7.out HE7.out hmH3 hsH3 hrH3 hbH3); clear hmH3 hsH3 hrH3 hbH3) | go_in)
          go_roundw
          case rel => exact ⟨k + 1, HLT.out, by first | exact WN2.out | exact WI2.out, H3⟩
          case measure => exact ms_valD HLT.out WN2.out
        · obtain rfl : k = l.length := by omega
          have bk : decide ((l.length : Int) < (l.length : Int)) = false := decide_eq_false (by omega)
          clear hlt hk
          have HX := H
          go_wp2_with fail
          go_loopw [81] (fun i wr => ∃ (k : Nat), k ≤ l.length ∧ i = .int .i64 (k : Int) ∧ Aside0 (AS w0 wr w0.heap.size ad gv l.length l e x)) (fun i _ => l.length - (intOf i).toNat)
          case atStart => exact ⟨0, Nat.zero_le _, rfl, HX⟩
          case round =>
            clear H HX
            obtain ⟨k, hk, rfl, H⟩ := hrel
            by_cases hlt : k < l.length
            · have bk : decide ((k : Int) < (l.length : Int)) = true := decide_eq_true (by omega)
              obtain ⟨A6, c6, he6⟩ := H.out.sl HL.out (q := 2 * k) (by omega)
              obtain ⟨A7, c7, he7⟩ := H.out.sl HL.out (q := 2 * k + 1) (by omega)
              obtain ⟨m6, hm6⟩ : ∃ m, (rowX l (2 * k)).length = m := ⟨_, rfl⟩
              obtain ⟨m7, hm7⟩ : ∃ m, (rowX l (2 * k + 1)).length = m := ⟨_, rfl⟩
              rw [hm6] at he6
              rw [hm7] at he7
              have HQ6 := Aside0.mk hm6
              have HQ7 := Aside0.mk hm7
              have HM6 := Aside0.mk (show m6 ≤ 1000000 by rw [← hm6]; exact HB.out (2 * k) (by omega))
              have HM7 := Aside0.mk (show m7 ≤ 1000000 by rw [← hm7]; exact HB.out (2 * k + 1) (by omega))
              have HE6 := Aside0.mk he6
              have HE7 := Aside0.mk he7
              have HLT := Aside0.mk hlt
              clear he6 he7 hm6 hm7
              obtain ⟨a0, a1, a2, a3, a4, a5, a6, a7⟩ := H.out.cell k HLT.out
              rw [HE6.out] at a6
              rw [HE7.out] at a7
              generalize l.getD k Z0 = y at a0 a1 a2 a3 a4 a5
              have H1 := Aside0.mk (H.out.below (below_alloc (Below.refl _ _) (.cells #[.int .i64 y.f0, .int .u8 y.f1, .bool y.f2, .int .i64 y.f3, .int .i64 y.f4, .int .i64 y.f5, .slice A6 m6 c6, .slice A7 m7 c7] 82)))
              clear hk H
              go_upto_region 24 with (fail)
              generalize hW : World.alloc wr _ = W1 at *
              have hbx : W1.heap[wr.heap.size]? = some (.cells #[.int .i64 y.f0, .int .u8 y.f1, .bool y.f2, .int .i64 y.f3, .int .i64 y.f4, .int .i64 y.f5, .slice A6 m6 c6, .slice A7 m7 c7] 82 (0, 0)) := by rw [← hW]; exact Array.getElem?_push_size
              have y6 : W1.cell? ⟨wr.heap.size, 6, none⟩ = some (.slice A6 m6 c6) := blk_cell hbx 6
              have y7 : W1.cell? ⟨wr.heap.size, 7, none⟩ = some (.slice A7 m7 c7) := blk_cell hbx 7
              clear hbx hW a0 a1 a2 a3 a4 a5 a6 a7
              generalize wr.heap.size = bx at *
              go_wp2_with fail
              go_loopw [89] (fun i wr => ∃ (j : Nat), j ≤ m6 ∧ i = .int .i64 (j : Int) ∧ Aside0 (wr = W1)) (fun i _ => m6 - (intOf i).toNat)
              case atStart => exact ⟨0, Nat.zero_le _, rfl, ⟨rfl⟩⟩
              case round =>
                obtain ⟨j, hj, rfl, hW⟩ := hrel
                rw [hW.out]
                clear hW
                by_cases hjm : j < m6
                · have bj : decide ((j : Int) < (m6 : Int)) = true := decide_eq_true (by omega)
                  have bjn : decide (j < m6) = true := decide_eq_true (by omega)
                  have HR := Aside0.mk (H1.out.rowOf (q := 2 * k) (by have := HLT.out; omega) HE6.out)
                  have HRR := Kd.R_reads' HR.out
                  obtain ⟨ad7, e7, z0⟩ := Kd.at_int HRR.2.2 (j : Int) (by omega) (by omega)
                  subst e7
                  rw [HF.out (2 * k) (by have := HLT.out; omega) j (by rw [HQ6.out]; exact hjm)] at z0
                  simp only [Int.toNat_natCast] at z0
                  rw [show (((2 * k : Nat) : Int)) + 1000000 = 2 * (k : Int) + 1000000 by omega] at z0
                  clear HRR
                  have e1 : wrap64 (2 * (k : Int)) = 2 * (k : Int) := by rw [← i64_w, IntKind.wrap_i64]; have := HLT.out; have := HN.out; omega
                  have e2 : wrap64 (2 * (k : Int) + 1000000) = 2 * (k : Int) + 1000000 := by rw [← i64_w, IntKind.wrap_i64]; have := HLT.out; have := HN.out; omega
                  have e3 : ((2 * (k : Int) + 1000000) != (2 * (k : Int) + 1000000)) = false := bne_self_eq_false _
                  have wk : wrap64 ((j : Int) + 1) = ((j + 1 : Nat) : Int) := by rw [← i64_w, IntKind.wrap_i64]; have := HM6.out; omega
                  have WN := Aside0.mk (congrArg (Value.int IntKind.i64) wk)
                  have WI := Aside0.mk wk
                  have HJM := Aside0.mk hjm
                  clear wk hj
                  as_aux_lemma =>
                  go_wp2_with fail
                  go_roundw
                  case rel => exact ⟨j + 1, HJM.out, by first | exact WN.out | exact WI.out, by first | exact ⟨rfl⟩ | exact ⟨trivial⟩⟩
                  case measure => exact ms_valD HJM.out WN.out
                · have hjm2 : m6 = j := by omega
                  subst hjm2
                  have bj : decide ((m6 : Int) < (m6 : Int)) = false := decide_eq_false (by omega)
                  have bjn : decide (m6 < m6) = false := decide_eq_false (by omega)
                  clear hjm hj
                  go_wp2_with fail
                  go_loopw [102] (fun i wr => ∃ (j : Nat), j ≤ m7 ∧ i = .int .i64 (j : Int) ∧ Aside0 (wr = W1)) (fun i _ => m7 - (intOf i).toNat)
                  case atStart => exact ⟨0, Nat.zero_le _, rfl, ⟨rfl⟩⟩
                  case round =>
                    obtain ⟨j, hj, rfl, hW⟩ := hrel
                    rw [hW.out]
                    clear hW
                    by_cases hjm : j < m7
                    · have bj : decide ((j : Int) < (m7 : Int)) = true := decide_eq_true (by omega)
                      have bjn : decide (j < m7) = true := decide_eq_true (by omega)
                      have HR := Aside0.mk (H1.out.rowOf (q := 2 * k + 1) (by have := HLT.out; omega) HE7.out)
                      have HRR := Kd.R_reads' HR.out
                      obtain ⟨ad7, e7, z0⟩ := Kd.at_int HRR.2.2 (j : Int) (by omega) (by omega)
                      subst e7
                      rw [HF.out (2 * k + 1) (by have := HLT.out; omega) j (by rw [HQ7.out]; exact hjm)] at z0
                      simp only [Int.toNat_natCast] at z0
                      rw [show (((2 * k + 1 : Nat) : Int)) + 1000000 = 2 * (k : Int) + 1000001 by omega] at z0
                      clear HRR
                      have e1 : wrap64 (2 * (k : Int)) = 2 * (k : Int) := by rw [← i64_w, IntKind.wrap_i64]; have := HLT.out; have := HN.out; omega
                      have e2 : wrap64 (2 * (k : Int) + 1000001) = 2 * (k : Int) + 1000001 := by rw [← i64_w, IntKind.wrap_i64]; have := HLT.out; have := HN.out; omega
                      have e3 : ((2 * (k : Int) + 1000001) != (2 * (k : Int) + 1000001)) = false := bne_self_eq_false _
                      have wk : wrap64 ((j : Int) + 1) = ((j + 1 : Nat) : Int) := by rw [← i64_w, IntKind.wrap_i64]; have := HM7.out; omega
                      have WN := Aside0.mk (congrArg (Value.int IntKind.i64) wk)
                      have WI := Aside0.mk wk
                      have HJM := Aside0.mk hjm
                      clear wk hj
                      as_aux_lemma =>
                      go_wp2_with fail
                      go_roundw
                      case rel => exact ⟨j + 1, HJM.out, by first | exact WN.out | exact WI.out, by first | exact ⟨rfl⟩ | exact ⟨trivial⟩⟩
                      case measure => exact ms_valD HJM.out WN.out
                    · have hjm2 : m7 = j := by omega
                      subst hjm2
                      have bj : decide ((m7 : Int) < (m7 : Int)) = false := decide_eq_false (by omega)
                      have bjn : decide (m7 < m7) = false := decide_eq_false (by omega)
                      clear hjm hj
                      have wk : wrap64 ((k : Int) + 1) = ((k + 1 : Nat) : Int) := by rw [← i64_w, IntKind.wrap_i64]; have := HLT.out; have := HN.out; omega
                      have WN2 := Aside0.mk (congrArg (Value.int IntKind.i64) wk)
                      have WI2 := Aside0.mk wk
                      clear wk
                      as_aux_lemma =>
                      go_wp2
                      go_roundw
                      case rel => exact ⟨k + 1, HLT.out, by first | exact WN2.out | exact WI2.out, H1⟩
                      case measure => exact ms_valD HLT.out WN2.out
            · obtain rfl : k = l.length := by omega
              have bk : decide ((l.length : Int) < (l.length : Int)) = false := decide_eq_false (by omega)
              clear hlt hk
              go_wp2
              go_ret
              exact ⟨rfl, H.out.bel⟩
theorem apart_any (w0 w : World) (A : Option Addr) (c : Nat) (l : List S82) (hS : IR w w0.heap.size (.slice A l.length c) l) (hb : Below w0.heap.size w0 w) (hn : l.length ≤ 100000) (hl : ∀ q, q < 2 * l.length → (rowX l q).length ≤ 1000000) :
    Calls Try.prog 50 #[.slice A l.length c] w fun e w' => e = .returned (.bool true) ∧ Below w0.heap.size w0 w' := by
  by_cases h0 : 0 < l.length
  · obtain ⟨g, cap, hv, _⟩ := Kd.S_form hS h0
    injection hv with hA _ _
    subst hA
    exact apart_some w0 w _ c l hS hb hn hl
  · have h1 : l.length = 0 := by omega
    rw [h1]
    exact apart_nil w0 w A c hb
end Go.Proofs.Ytfnjbmpolggdeaa.CD
end
section
namespace Go.Proofs.Ytfnjbmpolggdeaa.CD
open Go.RowKit Go.Proofs.YtfnjbmpolggdeaaW.PrintWords Go.Proofs.YtfnjbmpolggdeaaW.PrintLast Go.Proofs.YtfnjbmpolggdeaaW.PrintMore
attribute [local go_sem] max2_int min2_int max_two min_two max_three min_three max_four min_four   -- for this text's walks alone
set_option linter.unusedVariables false
set_option linter.unusedSimpArgs false
def jvmcorelaw2_sameInts.l0 : Nat → List Int → List Int → Int → Int → Option (Bool)
  | 0, _, _, _, _ => none
  | k + 1, x0, x1, x12, x13 => if x13 < x12 then (if 0 ≤ x13 then (if x13 < (x0.length : Int) then (if x13 < (x1.length : Int) then (if (rd x0 x13) = (rd x1 x13) then (jvmcorelaw2_sameInts.l0 k x0 x1 x12 (wrap64 (x13 + 1))) else (some false)) else (none)) else (none)) else (none)) else (some true)
def jvmcorelaw2_sameInts.f (k : Nat) (l0 : List Int) (l1 : List Int) : Option (Bool) := if (l0.length : Int) = (l1.length : Int) then (jvmcorelaw2_sameInts.l0 k l0 l1 (l0.length : Int) 0) else (some false)
theorem jvmcorelaw2_sameInts.mono_l : ∀ k, (∀ y0 y1 y2 y3, LeO (jvmcorelaw2_sameInts.l0 k y0 y1 y2 y3) (jvmcorelaw2_sameInts.l0 (k + 1) y0 y1 y2 y3))
  | 0 => fun _ _ _ _ r h => by simp [jvmcorelaw2_sameInts.l0] at h
  | k + 1 => by
    have ih0 := jvmcorelaw2_sameInts.mono_l k
    · intro y0 y1 y2 y3
      unfold jvmcorelaw2_sameInts.l0
      repeat' first
      | (with_reducible exact ih0 _ _ _ _)
      | (with_reducible exact LeO.refl _)
      | (with_reducible exact LeO.none _)
      | (with_reducible refine LeO.ite ?_ ?_)
      | (with_reducible refine LeO.bind ?_ (fun _ => ?_))
theorem jvmcorelaw2_sameInts.mono : ∀ a0 a1 k, LeO (jvmcorelaw2_sameInts.f k a0 a1) (jvmcorelaw2_sameInts.f (k + 1) a0 a1) := by
  intro a0 a1 k
  have ih0 := jvmcorelaw2_sameInts.mono_l k
  unfold jvmcorelaw2_sameInts.f
  repeat' first
      | (with_reducible exact ih0 _ _ _ _)
      | (with_reducible exact LeO.refl _)
      | (with_reducible exact LeO.none _)
      | (with_reducible refine LeO.ite ?_ ?_)
      | (with_reducible refine LeO.bind ?_ (fun _ => ?_))
set_option maxHeartbeats 8000000 in
set_option maxRecDepth 100000 in
theorem jvmcorelaw2_sameInts.calls (k : Nat) (A0 : Option Addr) (c0 : Nat) (l0 : List Int) (A1 : Option Addr) (c1 : Nat) (l1 : List Int) (r : Bool) (w : World) (hr0 : Kd.C (Kd.int .i64) w A0 l0.length l0) (hc0 : l0.length ≤ c0) (hr1 : Kd.C (Kd.int .i64) w A1 l1.length l1) (hc1 : l1.length ≤ c1) (h : jvmcorelaw2_sameInts.f k l0 l1 = some r) :
    Calls Try.prog 82 #[.slice A0 l0.length c0, .slice A1 l1.length c1] w fun e w' => e = .returned (.bool r) ∧ Drawn0 w w' := by
  have HR0 := Aside0.mk hr0
  have HC0 := Aside0.mk hc0
  clear hr0 hc0
  have HR1 := Aside0.mk hr1
  have HC1 := Aside0.mk hc1
  clear hr1 hc1
  have H : (if (l0.length : Int) = (l1.length : Int) then (jvmcorelaw2_sameInts.l0 k l0 l1 (l0.length : Int) 0) else (some false)) = some r := h
  clear h
  by_cases c3 : (l0.length : Int) = (l1.length : Int)
  · rw [if_pos c3] at H
    have c3b0 : ((l0.length : Int) == (l1.length : Int)) = true := beq_iff_eq.mpr c3
    have c3b1 : ((l0.length : Int) != (l1.length : Int)) = false := bne_eq_false_iff_eq.mpr c3
    have c3b2 : (l0.length == l1.length) = true := by first | simpa using c3 | (simp at c3 ⊢; omega)
    clear c3
    have H' := Aside0.mk H
    clear H
    go_enter Try.func82, Try.ntmps82
    go_wp2
    repeat (go_quiet (fail); try go_wp2)
    go_loopg [13] k (fun kq v13 w' => ∃ (x13_1 : Int), v13 = .int .i64 x13_1 ∧ Aside0 (jvmcorelaw2_sameInts.l0 kq l0 l1 (l0.length : Int) x13_1 = some r) ∧ Aside0 (kq ≤ k) ∧ Drawn0 w w')
    case atStart => exact ⟨(0), (by first | rfl | (simp; done) | (simp [*]; done)), H', ⟨Nat.le_refl _⟩, by repeat (first | exact Drawn0.refl _ | apply Drawn0.step)⟩
    case round =>
      clear H'
      try clear c1
      try clear p2
      try clear c3
      try clear c3b0
      try clear c3b1
      try clear c3b2
      obtain ⟨x13_1, rfl, HA, HK1, ⟨m1, rfl⟩⟩ := hrel
      cases gk with
      | zero => exact absurd HA.out (by simp [jvmcorelaw2_sameInts.l0])
      | succ k1 =>
        have H := HA.out
        clear HA
        simp only [jvmcorelaw2_sameInts.l0] at H
        by_cases c4 : x13_1 < (l0.length : Int)
        · rw [if_pos c4] at H
          have c4b0 : decide (x13_1 < (l0.length : Int)) = true := decide_eq_true c4
          clear c4
          by_cases c5 : 0 ≤ x13_1
          · rw [if_pos c5] at H
            have c5b0 : decide (0 ≤ x13_1) = true := decide_eq_true c5
            clear c5
            by_cases c6 : x13_1 < (l0.length : Int)
            · rw [if_pos c6] at H
              have c6b0 : decide (x13_1 < (l0.length : Int)) = true := decide_eq_true c6
              clear c6
              by_cases c7 : x13_1 < (l1.length : Int)
              · rw [if_pos c7] at H
                have c7b0 : decide (x13_1 < (l1.length : Int)) = true := decide_eq_true c7
                clear c7
                by_cases c8 : (rd l0 x13_1) = (rd l1 x13_1)
                · rw [if_pos c8] at H
                  have c8b0 : ((rd l0 x13_1) == (rd l1 x13_1)) = true := beq_iff_eq.mpr c8
                  have c8b1 : ((rd l0 x13_1) != (rd l1 x13_1)) = false := bne_eq_false_iff_eq.mpr c8
                  clear c8
                  have H' := Aside0.mk H
                  clear H
                  have p120 : 0 ≤ (x13_1 : Int) := of_decide_eq_true (by first | (with_reducible assumption) | assumption)
                  have q120 : x13_1 < (l0.length : Int) := of_decide_eq_true (by first | (with_reducible assumption) | assumption)
                  obtain ⟨ad120, e120, hx120_0⟩ := Kd.at_int HR0.out x13_1 p120 q120
                  cases e120
                  replace p120 := eq_true p120
                  replace q120 := eq_true q120
                  have p121 : 0 ≤ (x13_1 : Int) := of_decide_eq_true (by first | (with_reducible assumption) | assumption)
                  have q121 : x13_1 < (l1.length : Int) := of_decide_eq_true (by first | (with_reducible assumption) | assumption)
                  obtain ⟨ad121, e121, hx121_0⟩ := Kd.at_int HR1.out x13_1 p121 q121
                  cases e121
                  replace p121 := eq_true p121
                  replace q121 := eq_true q121
                  go_wp2
                  repeat (go_quiet (fail); try go_wp2)
                  go_roundg k1
                  case measure => have := HK1.out; omega
                  case rel => exact ⟨(wrap64 (x13_1 + 1)), (by first | rfl | (simp; done) | (simp [*]; done)), H', ⟨by have := HK1.out; omega⟩, by repeat (first | exact Drawn0.refl _ | apply Drawn0.step)⟩
                · rw [if_neg c8] at H
                  have c8b0 : ((rd l0 x13_1) == (rd l1 x13_1)) = false := beq_eq_false_iff_ne.mpr c8
                  have c8b1 : ((rd l0 x13_1) != (rd l1 x13_1)) = true := bne_iff_ne.mpr c8
                  obtain rfl := Option.some.inj H
                  have p120 : 0 ≤ (x13_1 : Int) := of_decide_eq_true (by first | (with_reducible assumption) | assumption)
                  have q120 : x13_1 < (l0.length : Int) := of_decide_eq_true (by first | (with_reducible assumption) | assumption)
                  obtain ⟨ad120, e120, hx120_0⟩ := Kd.at_int HR0.out x13_1 p120 q120
                  cases e120
                  replace p120 := eq_true p120
                  replace q120 := eq_true q120
                  have p121 : 0 ≤ (x13_1 : Int) := of_decide_eq_true (by first | (with_reducible assumption) | assumption)
                  have q121 : x13_1 < (l1.length : Int) := of_decide_eq_true (by first | (with_reducible assumption) | assumption)
                  obtain ⟨ad121, e121, hx121_0⟩ := Kd.at_int HR1.out x13_1 p121 q121
                  cases e121
                  replace p121 := eq_true p121
                  replace q121 := eq_true q121
                  go_wp2
                  repeat (go_quiet (fail); try go_wp2)
                  go_ret
                  exact ⟨by first | rfl | (simp; done) | (simp [*]; done), by repeat (first | exact Drawn0.refl _ | apply Drawn0.step)⟩
              · rw [if_neg c7] at H
                exact absurd H (by simp)
            · rw [if_neg c6] at H
              exact absurd H (by simp)
          · rw [if_neg c5] at H
            exact absurd H (by simp)
        · rw [if_neg c4] at H
          have c4b0 : decide (x13_1 < (l0.length : Int)) = false := decide_eq_false c4
          clear c4
          obtain rfl := Option.some.inj H
          go_wp2
          repeat (go_quiet (fail); try go_wp2)
          go_ret
          exact ⟨by first | rfl | (simp; done) | (simp [*]; done), by repeat (first | exact Drawn0.refl _ | apply Drawn0.step)⟩
  · rw [if_neg c3] at H
    have c3b0 : ((l0.length : Int) == (l1.length : Int)) = false := beq_eq_false_iff_ne.mpr c3
    have c3b1 : ((l0.length : Int) != (l1.length : Int)) = true := bne_iff_ne.mpr c3
    have c3b2 : (l0.length == l1.length) = false := by first | simpa using c3 | (simp at c3 ⊢; omega)
    obtain rfl := Option.some.inj H
    go_enter Try.func82, Try.ntmps82
    go_wp2
    repeat (go_quiet (fail); try go_wp2)
    go_ret
    exact ⟨by first | rfl | (simp; done) | (simp [*]; done), by repeat (first | exact Drawn0.refl _ | apply Drawn0.step)⟩
end Go.Proofs.Ytfnjbmpolggdeaa.CD
end
section
namespace Go.Proofs.Ytfnjbmpolggdeaa.CD
open Go.RowKit Go.Lib Go.Proofs.YtfnjbmpolggdeaaW.PrintWords Go.Proofs.YtfnjbmpolggdeaaW.PrintLast Go.Proofs.YtfnjbmpolggdeaaW.PrintMore
set_option linter.unusedVariables false
set_option linter.unusedSimpArgs false
theorem rows_f6 {s : ByteArray} {f : Int} : ∀ (r k : Nat) {x : S82} {t : RdS}, OKR s t → ((rowsD s f r k x t).1.f6.length : Int) ≤ x.f6.length + ((s.size : Int) - t.1) + 1
  | 0, k, x, t, h => by have := h.2.1; show (x.f6.length : Int) ≤ _; omega
  | r + 1, k, x, t, h => by
    have := h.2.1
    have key : ∀ (y : S82) (t1 : RdS), y.f6.length ≤ x.f6.length + 1 → OKR s t1 → (t1.2.1 = 0 → t.1 + 1 ≤ t1.1) → ((rowsD s f r (k + 1) y t1).1.f6.length : Int) ≤ x.f6.length + ((s.size : Int) - t.1) + 1 := by
      intro y t1 hy h1 hz
      by_cases hc : t1.2.1 = 0
      · have h2 := rows_f6 (f := f) r (k + 1) (x := y) h1
        have h3 := hz hc
        omega
      · have e : (rowsD s f r (k + 1) y t1).1 = y := by
          cases r with
          | zero => rfl
          | succ r => unfold rowsD; rw [if_pos hc]
        rw [e]
        omega
    unfold rowsD
    split
    · show (x.f6.length : Int) ≤ _; omega
    · split
      · have ho : OKR s (if 0 < k ∧ (sgnR s t 4).1 ≤ rd x.f6 ((k : Int) - 1) then failR (sgnR s t 4).2 15 x.f0 else (sgnR s t 4).2) := okr_if ((h.sgn 4).fail _ _) (h.sgn 4)
        refine key _ _ (by simp) (ho.sgn 4) (fun hz => ?_)
        obtain ⟨d1, d2⟩ := sgnOK (by decide) ho hz
        obtain ⟨h3, h4⟩ := failIf (by decide) d1
        rw [h4] at d1 d2 ⊢
        obtain ⟨c1, c2⟩ := sgnOK (by decide) h d1
        omega
      · refine key _ _ (by simp) (h.sgn 4) (fun hz => ?_)
        obtain ⟨c1, c2⟩ := sgnOK (by decide) h hz
        omega
def F6 (p : S82 × RdS) : Prop := p.1.f6.length ≤ 100000
theorem F6.ite {c : Prop} [Decidable c] {a b : S82 × RdS} (ha : F6 a) (hb : F6 b) : F6 (if c then a else b) := by split <;> assumption
theorem cho_f6 {s : ByteArray} {f : Int} {x : S82} {t : RdS} (h : OKR s t) (hx : x.f6 = []) : F6 (choD s x f t) := by
  have h1 : OKR s (headD s x t).2 := (OKR.pad 4 h).sgn 4
  have hs := h.2.2
  have h3 : (headD s x t).1.f6.length = 0 := by show x.f6.length = 0; rw [hx]; rfl
  unfold choD
  refine F6.ite ?_ ?_
  · unfold choD10
    refine F6.ite (by show (headD s x t).1.f6.length ≤ 100000; omega) ?_
    have h2 := rows_f6 (s := s) (f := 10) ((sgnR s (sgnR s (headD s x t).2 4).2 4).1 - (sgnR s (headD s x t).2 4).1 + 1).toNat 0 (x := ⟨x.f0, x.f1, x.f2, x.f3, x.f4, (sgnR s (headD s x t).2 4).1, (headD s x t).1.f6, (headD s x t).1.f7⟩) ((h1.sgn 4).sgn 4)
    have := ((h1.sgn 4).sgn 4).1
    unfold F6
    dsimp only at h2
    rw [h3] at h2
    have h4 : ((rowsD s 10 ((sgnR s (sgnR s (headD s x t).2 4).2 4).1 - (sgnR s (headD s x t).2 4).1 + 1).toNat 0 ⟨x.f0, x.f1, x.f2, x.f3, x.f4, (sgnR s (headD s x t).2 4).1, (headD s x t).1.f6, (headD s x t).1.f7⟩ (sgnR s (sgnR s (headD s x t).2 4).2 4).2).1.f6.length : Int) ≤ 100000 := by omega
    exact Int.ofNat_le.1 h4
  · unfold choD11
    refine F6.ite (by show (headD s x t).1.f6.length ≤ 100000; omega) ?_
    have h2 := rows_f6 (s := s) (f := 11) (sgnR s (headD s x t).2 4).1.toNat 0 (x := (headD s x t).1) (h1.sgn 4)
    have := (h1.sgn 4).1
    unfold F6
    rw [h3] at h2
    omega
theorem body_f6 {s : ByteArray} {f : Int} {x : S82} {t : RdS} (h : OKR s t) (hx : x.f6 = []) : F6 (bodyD s x f t) := by
  unfold bodyD moreD
  repeat' (with_reducible refine F6.ite ?_ ?_)
  all_goals first
    | exact cho_f6 h hx
    | (show x.f6.length ≤ 100000; rw [hx]; decide)
theorem one_len6 {s : ByteArray} {t : RdS} (h : OKR s t) : (oneD s t).1.f6.length ≤ 100000 := by
  show F6 (oneD s t)
  unfold oneD
  refine F6.ite (F6.ite (body_f6 ((h.num 1).num 1) rfl) (show 0 ≤ 100000 by decide)) (body_f6 (h.num 1) rfl)
theorem all_small {s : ByteArray} : ∀ (k : Nat) {t : RdS}, OKR s t → (allD s k t).1.length ≤ k ∧ ∀ x ∈ (allD s k t).1, x.f6.length ≤ 100000 ∧ x.f7.length ≤ 100000
  | 0, t, h => ⟨Nat.le_refl _, fun x hx => absurd hx (by simp [allD])⟩
  | k + 1, t, h => by
    unfold allD
    split
    · obtain ⟨h1, h2⟩ := all_small k h.one
      refine ⟨by rw [List.length_cons]; omega, fun x hx => ?_⟩
      rcases List.mem_cons.1 hx with rfl | hx
      · exact ⟨one_len6 h, one_len h⟩
      · exact h2 x hx
    · exact ⟨Nat.zero_le _, fun x hx => absurd hx (by simp)⟩
theorem dec_small {s : ByteArray} {l : List S82} {e p : Int} (h : decD s = (l, e, p)) : l.length ≤ 65535 ∧ ∀ x ∈ l, x.f6.length ≤ 100000 ∧ x.f7.length ≤ 100000 := by
  unfold decD at h
  split at h
  · injection h with h _
    subst h
    exact ⟨Nat.zero_le _, fun x hx => absurd hx (by simp)⟩
  · next hc =>
    have hO : OKR s (0, 0, 0) := ⟨Int.le_refl _, Int.natCast_nonneg _, by omega⟩
    obtain ⟨h1, h2⟩ := all_small s.size hO
    unfold finD at h
    split at h
    · injection h with h _
      subst h
      exact ⟨Nat.zero_le _, fun x hx => absurd hx (by simp)⟩
    · injection h with h _
      rw [h] at h1 h2
      exact ⟨by omega, h2⟩
theorem rowX_small {l : List S82} (h : ∀ x ∈ l, x.f6.length ≤ 100000 ∧ x.f7.length ≤ 100000) : ∀ q, q < 2 * l.length → (rowX l q).length ≤ 1000000 := by
  intro q hq
  have hi : q / 2 < l.length := by omega
  have hm : l.getD (q / 2) Z0 ∈ l := by
    rw [List.getD_eq_getElem?_getD, List.getElem?_eq_getElem hi]
    exact List.getElem_mem hi
  obtain ⟨h6, h7⟩ := h _ hm
  unfold rowX
  split <;> omega
theorem sameInts_refl {l : List Int} (hl : l.length ≤ 100000) : ∀ (k i : Nat), i ≤ l.length → l.length - i < k → jvmcorelaw2_sameInts.l0 k l l (l.length : Int) (i : Int) = some true := by
  intro k
  induction k with
  | zero => intro i h0 h1; exact absurd h1 (Nat.not_lt_zero _)
  | succ k ih =>
    intro i h0 h1
    rw [jvmcorelaw2_sameInts.l0]
    by_cases hc : i < l.length
    · have e2 : wrap64 ((i : Int) + 1) = ((i + 1 : Nat) : Int) := by rw [← i64_w, IntKind.wrap_i64]; omega
      rw [if_pos (by omega), if_pos (by omega), if_pos (by omega), if_pos (by omega), if_pos rfl, e2]
      exact ih (i + 1) (by omega) (by omega)
    · rw [if_neg (by omega)]
theorem sameInts_f {l : List Int} (hl : l.length ≤ 100000) (k : Nat) : jvmcorelaw2_sameInts.f (k + 100001) l l = some true := by
  unfold jvmcorelaw2_sameInts.f
  rw [if_pos rfl]
  exact sameInts_refl hl _ 0 (Nat.zero_le _) (by omega)
set_option maxHeartbeats 8000000 in
set_option maxRecDepth 100000 in
theorem same_any (w : World) (A1 : Option Addr) (c1 : Nat) (A2 : Option Addr) (c2 : Nat) (l : List S82) (hr1 : Kd.C k82 w A1 l.length l) (hr2 : Kd.C k82 w A2 l.length l) (hn : l.length ≤ 65535) (hl : ∀ x ∈ l, x.f6.length ≤ 100000 ∧ x.f7.length ≤ 100000) :
    Calls Try.prog 41 #[.slice A1 l.length c1, .slice A2 l.length c2] w fun e w' => e = .returned (.bool true) ∧ Below w.heap.size w w' := by
  have HR1 := Aside0.mk hr1
  have HR2 := Aside0.mk hr2
  have HN := Aside0.mk hn
  have HL := Aside0.mk hl
  have H0 := Aside0.mk (Below.refl w.heap.size w)
  have b0 : ((l.length : Int) != (l.length : Int)) = false := bne_self_eq_false _
  clear hr1 hr2 hn hl
  go_enter Try.func41, Try.ntmps41
  go_wp2_with fail
  go_loopw [15] (fun i wr => ∃ k : Nat, k ≤ l.length ∧ i = .int .i64 (k : Int) ∧ Aside0 (Below w.heap.size w wr)) (fun i _ => l.length - (intOf i).toNat)
  case atStart => exact ⟨0, Nat.zero_le _, rfl, H0⟩
  case round =>
    clear H0 b0
    obtain ⟨k, hk, rfl, HB⟩ := hrel
    by_cases hlt : k < l.length
    · have bk : decide ((k : Int) < (l.length : Int)) = true := decide_eq_true (by omega)
      obtain ⟨ad, A6, c6, A7, c7, e0, x0, x1, x2, x3, x4, x5, x6, x7, hl6, hi6, hl7, hi7⟩ := at_T82 HR1.out (k : Int) (by omega) (by omega)
      obtain ⟨ae, B6, d6, B7, d7, f0, y0, y1, y2, y3, y4, y5, y6, y7, hm6, hj6, hm7, hj7⟩ := at_T82 HR2.out (k : Int) (by omega) (by omega)
      subst e0 f0
      rw [rdD_at hlt] at x0 x1 x2 x3 x4 x5 x6 x7 hl6 hi6 hl7 hi7 y0 y1 y2 y3 y4 y5 y6 y7 hm6 hj6 hm7 hj7
      simp only [Int.toNat_natCast] at x0 x1 x2 x3 x4 x5 x6 x7 y0 y1 y2 y3 y4 y5 y6 y7
      have HS := Aside0.mk (HL.out _ (List.getElem_mem hlt))
      have HLT := Aside0.mk hlt
      have HI := Aside0.mk (And.intro (And.intro hl6 hi6) (And.intro hl7 hi7))
      have HJ := Aside0.mk (And.intro (And.intro hm6 hj6) (And.intro hm7 hj7))
      clear hk hl6 hi6 hl7 hi7 hm6 hj6 hm7 hj7
      generalize l[k] = x at *
      replace x0 := pw_cell_below HB.out x0
      replace x1 := pw_cell_below HB.out x1
      replace x2 := pw_cell_below HB.out x2
      replace x3 := pw_cell_below HB.out x3
      replace x4 := pw_cell_below HB.out x4
      replace x5 := pw_cell_below HB.out x5
      replace x6 := pw_cell_below HB.out x6
      replace x7 := pw_cell_below HB.out x7
      have hb1 := below_alloc (Below.refl wr.heap.size wr) (.cells #[.int .i64 x.f0, .int .u8 x.f1, .bool x.f2, .int .i64 x.f3, .int .i64 x.f4, .int .i64 x.f5, .slice A6 x.f6.length c6, .slice A7 x.f7.length c7] 82)
      have HB1 := Aside0.mk (below_then HB.out HB.out.size hb1)
      replace y0 := pw_cell_below HB1.out y0
      replace y1 := pw_cell_below HB1.out y1
      replace y2 := pw_cell_below HB1.out y2
      replace y3 := pw_cell_below HB1.out y3
      replace y4 := pw_cell_below HB1.out y4
      replace y5 := pw_cell_below HB1.out y5
      replace y6 := pw_cell_below HB1.out y6
      replace y7 := pw_cell_below HB1.out y7
      have es : (wr.alloc (.cells #[.int .i64 x.f0, .int .u8 x.f1, .bool x.f2, .int .i64 x.f3, .int .i64 x.f4, .int .i64 x.f5, .slice A6 x.f6.length c6, .slice A7 x.f7.length c7] 82)).heap.size = wr.heap.size + 1 := Array.size_push _
      have hb2 := below_alloc (Below.refl (wr.alloc (.cells #[.int .i64 x.f0, .int .u8 x.f1, .bool x.f2, .int .i64 x.f3, .int .i64 x.f4, .int .i64 x.f5, .slice A6 x.f6.length c6, .slice A7 x.f7.length c7] 82)).heap.size (wr.alloc (.cells #[.int .i64 x.f0, .int .u8 x.f1, .bool x.f2, .int .i64 x.f3, .int .i64 x.f4, .int .i64 x.f5, .slice A6 x.f6.length c6, .slice A7 x.f7.length c7] 82))) (.cells #[.int .i64 x.f0, .int .u8 x.f1, .bool x.f2, .int .i64 x.f3, .int .i64 x.f4, .int .i64 x.f5, .slice B6 x.f6.length d6, .slice B7 x.f7.length d7] 82)
      have h1 : (wr.alloc (.cells #[.int .i64 x.f0, .int .u8 x.f1, .bool x.f2, .int .i64 x.f3, .int .i64 x.f4, .int .i64 x.f5, .slice A6 x.f6.length c6, .slice A7 x.f7.length c7] 82)).heap[wr.heap.size]? = some (.cells #[.int .i64 x.f0, .int .u8 x.f1, .bool x.f2, .int .i64 x.f3, .int .i64 x.f4, .int .i64 x.f5, .slice A6 x.f6.length c6, .slice A7 x.f7.length c7] 82 (0, 0)) := Array.getElem?_push_size
      have HX1 := Aside0.mk ((hb2.block _ (by rw [es]; omega)).trans h1)
      have HX2 : Aside0 (((wr.alloc (.cells #[.int .i64 x.f0, .int .u8 x.f1, .bool x.f2, .int .i64 x.f3, .int .i64 x.f4, .int .i64 x.f5, .slice A6 x.f6.length c6, .slice A7 x.f7.length c7] 82)).alloc (.cells #[.int .i64 x.f0, .int .u8 x.f1, .bool x.f2, .int .i64 x.f3, .int .i64 x.f4, .int .i64 x.f5, .slice B6 x.f6.length d6, .slice B7 x.f7.length d7] 82)).heap[wr.heap.size + 1]? = some (.cells #[.int .i64 x.f0, .int .u8 x.f1, .bool x.f2, .int .i64 x.f3, .int .i64 x.f4, .int .i64 x.f5, .slice B6 x.f6.length d6, .slice B7 x.f7.length d7] 82 (0, 0))) := ⟨by rw [← es]; exact Array.getElem?_push_size⟩
      have HB2 := Aside0.mk (below_then HB1.out HB1.out.size hb2)
      clear hb1 hb2 h1 es HB HB1
      go_upto_region 8 with (fail)
      clear x0 x1 x2 x3 x4 x5 x6 x7 y0 y1 y2 y3 y4 y5 y6 y7
      generalize World.alloc _ _ = W2 at *
      generalize wr.heap.size + 1 = by2 at *
      generalize wr.heap.size = bx at *
      have u0 := blk_cell HX1.out 0
      have u1 := blk_cell HX1.out 1
      have u2 := blk_cell HX1.out 2
      have u3 := blk_cell HX1.out 3
      have u4 := blk_cell HX1.out 4
      have u5 := blk_cell HX1.out 5
      have u6 : W2.cell? ⟨bx, 6, none⟩ = some (.slice A6 x.f6.length c6) := blk_cell HX1.out 6
      have v0 := blk_cell HX2.out 0
      have v1 := blk_cell HX2.out 1
      have v2 := blk_cell HX2.out 2
      have v3 := blk_cell HX2.out 3
      have v4 := blk_cell HX2.out 4
      have v5 := blk_cell HX2.out 5
      have v6 : W2.cell? ⟨by2, 6, none⟩ = some (.slice B6 x.f6.length d6) := blk_cell HX2.out 6
      simp only [List.getElem?_toArray, List.getElem?_cons_zero, List.getElem?_cons_succ] at u0 u1 u2 u3 u4 u5 v0 v1 v2 v3 v4 v5
      have e0 : (x.f0 != x.f0) = false := bne_self_eq_false _
      have e1 : (x.f1 != x.f1) = false := bne_self_eq_false _
      have e2 : (x.f2 != x.f2) = false := bne_self_eq_false _
      have e3 : (x.f3 != x.f3) = false := bne_self_eq_false _
      have e4 : (x.f4 != x.f4) = false := bne_self_eq_false _
      have e5 : (x.f5 != x.f5) = false := bne_self_eq_false _
      have wk : wrap64 ((k : Int) + 1) = ((k + 1 : Nat) : Int) := by rw [← i64_w, IntKind.wrap_i64]; have := HLT.out; have := HN.out; omega
      have WN := Aside0.mk (congrArg (Value.int IntKind.i64) wk)
      have WI := Aside0.mk wk
      clear wk
      have hflag : True := trivial
      go_wp2_with (first
        | (clear hflag; go_at_call 82; refine (jvmcorelaw2_sameInts.calls _ A6 c6 x.f6 B6 d6 x.f6 true _ (Kd.C_below HI.out.1.2 HB2.out) HI.out.1.1 (Kd.C_below HJ.out.1.2 HB2.out) HJ.out.1.1 (sameInts_f HS.out.1 0)).mono ?_; rintro q3 w3 ⟨rfl, hd3⟩; have HB3 := Aside0.mk (below_then HB2.out HB2.out.size hd3.below); have u7 : w3.cell? ⟨bx, 7, none⟩ = some (.slice A7 x.f7.length c7) := blk_cell ((hd3.below.block _ (blk_lt HX1.out)).trans HX1.out) 7; have v7 : w3.cell? ⟨by2, 7, none⟩ = some (.slice B7 x.f7.length d7) := blk_cell ((hd3.below.block _ (blk_lt HX2.out)).trans HX2.out) 7; clear hd3)
        | (go_at_call 82; refine (jvmcorelaw2_sameInts.calls _ A7 c7 x.f7 B7 d7 x.f7 true _ (Kd.C_below HI.out.2.2 HB3.out) HI.out.2.1 (Kd.C_below HJ.out.2.2 HB3.out) HJ.out.2.1 (sameInts_f HS.out.2 0)).mono ?_; rintro q4 w4 ⟨rfl, hd4⟩; have HB4 := Aside0.mk (below_then HB3.out HB3.out.size hd4.below); clear hd4)
        | go_in)
      go_roundw
      case rel => exact ⟨k + 1, HLT.out, by first | exact WN.out | exact WI.out, HB4⟩
      case measure => exact ms_valD HLT.out WN.out
    · obtain rfl : k = l.length := by omega
      have bk : decide ((l.length : Int) < (l.length : Int)) = false := decide_eq_false (by omega)
      go_wp2
      go_ret
      exact ⟨rfl, HB.out⟩
set_option maxHeartbeats 8000000 in
set_option maxRecDepth 100000 in
theorem codeReads_any (a0 : ByteArray) (w : World) : Calls Try.prog 13 #[.string a0] w fun e w' => e = .returned (.bool true) ∧ Below w.heap.size w w' := by
  by_cases h2 : 32768 < a0.size
  · have q2 : decide ((32768 : Int) < (a0.size : Int)) = true := decide_eq_true (by omega)
    have q3 : decide ((a0.size : Int) > 32768) = true := decide_eq_true (by omega)
    have q4 : decide (32768 < a0.size) = true := decide_eq_true h2
    clear h2
    go_enter Try.func13, Try.ntmps13
    go_wp2
    go_ret
    exact ⟨rfl, Below.refl _ _⟩
  · have q2 : decide ((32768 : Int) < (a0.size : Int)) = false := decide_eq_false (by omega)
    have q3 : decide ((a0.size : Int) > 32768) = false := decide_eq_false (by omega)
    have q4 : decide (32768 < a0.size) = false := decide_eq_false h2
    obtain ⟨⟨l, e, p⟩, hD⟩ : ∃ q, decD a0 = q := ⟨_, rfl⟩
    have hf : code_Decode.f a0 = some (l, e, p) := congrArg some hD
    have HF := Aside0.mk hf
    have HSM := Aside0.mk (dec_small hD)
    clear h2 hD hf
    have b1 : (e == e) = true := beq_self_eq_true _
    have b2 : (p == p) = true := beq_self_eq_true _
    go_enter Try.func13, Try.ntmps13
    go_wp2_with (first
      | (go_at_call 48; refine (code_Decode.full a0 l e p _ HF.out).mono ?_; rintro e1 w1 ⟨V1, rfl, hS1, hb1⟩; obtain ⟨A1, c1, hv1⟩ := Kd.S_slice hS1; subst hv1; have HS1 := Aside0.mk hS1; have HB1 := Aside0.mk hb1; clear hS1 hb1)
      | (go_at_call 49; refine (RR.decode_any a0 l e p _ HF.out).mono ?_; rintro e2 w2 ⟨V2, rfl, hS2, hb2⟩; obtain ⟨A2, c2, hv2⟩ := Kd.S_slice hS2; subst hv2; have HS2 := Aside0.mk (And.intro (Kd.S_below HS1.out hb2) hS2); have HB2 := Aside0.mk (below_then HB1.out HB1.out.size hb2); clear hS2 hb2)
      | (go_at_call 41; refine (same_any _ A1 c1 A2 c2 l (Kd.S_reads' (kI_S HS2.out.1)).2.2 (Kd.S_reads' (kI_S HS2.out.2)).2.2 HSM.out.1 HSM.out.2).mono ?_; rintro e3 w3 ⟨rfl, hb3⟩; have HS3 := Aside0.mk (Kd.S_below HS2.out.1 hb3); have HB3 := Aside0.mk (below_then HB2.out HB2.out.size hb3); clear hb3)
      | (go_at_call 50; refine (apart_any w _ A1 c1 l HS3.out HB3.out (by have := HSM.out.1; omega) (rowX_small HSM.out.2)).mono ?_; rintro e4 w4 ⟨rfl, hb4⟩)
      | go_in)
    go_ret
    exact ⟨rfl, hb4⟩
end Go.Proofs.Ytfnjbmpolggdeaa.CD
end
section
namespace Go.Proofs.Ytfnjbmpolggdeaa.codeReads
open Go.ChangeShapes Go.WideShapes Go.ChangeAt Go.RowKit
open Go.ChangeMaps (open_string shut_string)
set_option linter.unusedVariables false
theorem own : ownKnob Try.prog.godebug = none := by kernel_rfl
set_option maxRecDepth 100000 in
theorem lifted (os : Os) (started : os.Started) (H : Type) (enc : TypeId × Value → H) :
    ReturnsInHanded {} Try.checked os 13 .any (Rows.codeReadsSpec.pre6 enc Try.prog Try.f13 Rows.codeReadsRow.domain false) (Rows.codeReadsSpec.post enc Try.prog Try.f13 false true false false) := by
  refine returnsInHanded_of_change_sized (C := Try.checked) own started (by kernel_rfl) Try.func13
    (ChangeSpec.witness6 (enc := enc) (C := Try.checked) false ⟨#[], #[.string ByteArray.empty], []⟩ 8 (by kernel_rfl) (by kernel_rfl) (by kernel_rfl) (by kernel_rfl)) ?_
  intro W base args ds gs before hval0 hW hcnd hsz0 _
  have hsz : (DataW.weightsEach Try.prog (Try.f13.params.toList ++ Rows.codeReadsSpec.plain.varTypes Try.prog) (ds ++ gs)).all (· ≤ reachBytes) = true := hsz0
  have hval : ∀ (j : Nat) t v, Try.f13.params[j]? = some t → args[j]? = some v → Value.okWide Try.prog W .any base t v := hval0
  have hW' := hW
  obtain ⟨p, q, hA0, hV, rfl, hfz, hnd⟩ := hW
  have hA : DataW.TrodAll enc Try.prog W 0 (fun _ => true) true Try.f13.params.toList args.toList ds p := hA0
  rw [Try.params13] at hA hval hsz
  obtain ⟨v0, vs0, d0, ds0, p0, q0, hargs, rfl, rfl, h0, r0⟩ := trodAll_cons hA
  obtain ⟨rfl, rfl, rfl⟩ := trodAll_nil r0
  obtain rfl : args = #[v0] := by cases args; simp_all
  obtain ⟨rfl, rfl⟩ := trodVars_none hV
  obtain ⟨a0, rfl, rfl, rfl, y0⟩ := open_string Try.underlying9 (hval 0 9 v0 rfl rfl) h0
  have w0 : a0.size ≤ 140737488351232 := by
    have z := sized_string hsz (j := 0) (t := 9) rfl rfl
    rw [Array.length_toList] at z
    exact z
  clear hA0 hval0 hsz0 hsz
  refine (CD.codeReads_any a0 W).mono fun e W' ⟨he, bel⟩ => ?_
  subst he
  exact ⟨_, rfl, _, _, _, [], _, [], hW', trodAll_mk1 (shut_bool Try.underlying4 _), (trodAll_cons_mk (shut_string Try.underlying9 y0) trodAll_mk0), rfl, bel.frame _, fun h => by cases h⟩
theorem over : Rows.codeReadsRow.holds Try.pinned (OpenSpec.ofChange Rows.codeReadsSpec) :=
  OpenClaim.holds_of_wide 13 Try.f13 rfl rfl rfl rfl rfl rfl rfl ⟨rfl, rfl, rfl, rfl, rfl⟩ rfl rfl rfl rfl rfl (by kernel_rfl) Try.func13 (by kernel_rfl)
    (of_decide_eq_true (by kernel_rfl)) (by unfold Func.isWrapper; first | (rw [if_pos (by decide +kernel)]; kernel_rfl) | (rw [if_neg (by decide +kernel)]; exact ⟨rfl, rfl⟩))
    (fun os started H enc _ => lifted os started H enc)
theorem proved : Rows.CodeReadsSaid := over
end Go.Proofs.Ytfnjbmpolggdeaa.codeReads
namespace Go.Proofs.Ytfnjbmpolggdeaa
theorem codeReads_holds : Rows.CodeReadsSaid := codeReads.proved
end Go.Proofs.Ytfnjbmpolggdeaa
end
#print axioms Go.Proofs.Ytfnjbmpolggdeaa.codeReads_holds
