/-
  Texts that the proof in the last of these files needs: jvmcorelaw3.MapReads answers true for every string, pool and list of types: nothing is assumed.
-/
import Derived.ArgAppend
import Derived.Test.YtfnjbmpolggdeaaQM2
section
namespace Go.Proofs.Ytfnjbmpolggdeaa.MD.RR
open Go.RowKit Go.Lib Go.Proofs.YtfnjbmpolggdeaaW.PrintWords Go.Proofs.YtfnjbmpolggdeaaW.PrintLast Go.Proofs.YtfnjbmpolggdeaaW.PrintMore
set_option linter.unusedVariables false
set_option linter.unusedSimpArgs false
theorem ms_down {r q : Nat} {v : Value} (h : v = .int .i64 (q : Int) ∧ q < r) : (intOf v).toNat < (intOf (.int .i64 (r : Int))).toNat := by
  obtain ⟨rfl, h⟩ := h
  show ((q : Int)).toNat < ((r : Int)).toNat
  rw [Int.toNat_natCast, Int.toNat_natCast]; exact h
def VPost (w0 w : World) (g : Nat) (s : ByteArray) (p : List S37) (m : Nat) (t : RdS) (e : Ending) (w' : World) : Prop :=
  ∃ v lc, e = .returned v ∧ VS w0 w w' g s (valD s p m [] t).2 v lc ∧ lc.length ≤ m ∧ ((valD s p m [] t).2.2.1 = 0 → lc = (valD s p m [] t).1)
set_option maxHeartbeats 16000000 in
set_option maxRecDepth 100000 in
theorem values_any (w0 w : World) (g : Nat) (s : ByteArray) (t : RdS) (A1 : Option Addr) (c1 : Nat) (p : List S37) (m : Nat) (hm : m ≤ 65536) (ht : OKR s t) (hI : RI w0 w g s t) (hr1 : ∀ W_, KeepBut w W_ g none → Kd.C k37 W_ A1 p.length p) (hc1 : p.length ≤ c1) (hp : ∀ c ∈ p, okC39 c) :
    Calls Try.prog 76 #[.pointer (some ⟨g, 0, none⟩), .slice A1 p.length c1, .int .i64 (m : Int)] w (VPost w0 w g s p m t) := by
  have HP := Aside0.mk hp
  have HM := Aside0.mk hm
  have HR1 := Aside0.mk hr1
  have HC1 := Aside0.mk hc1
  have HWW := Aside0.mk hI.2.size
  have H0 := Aside0.mk (VS.start hI)
  have HT := Aside0.mk ht
  clear hp hm hr1 hc1 hI ht
  go_enter Try.func76, Try.ntmps76
  go_wp2_with fail
  go_loopw [2, 7] (fun i v wr => ∃ (r : Nat) (l : List S54) (t1 : RdS), r ≤ m ∧ i = .int .i64 (r : Int) ∧ Aside0 (VS w0 w wr g s t1 v l) ∧ Aside0 (OKR s t1 ∧ l.length + r = m) ∧ Aside0 (valD s p m [] t = valD s p r l t1)) (fun i _ _ => (intOf i).toNat)
  case atStart => exact ⟨m, [], t, Nat.le_refl _, rfl, H0, ⟨HT.out, by simp⟩, ⟨rfl⟩⟩
  case round =>
    clear H0 HT
    obtain ⟨r, l, t1, hr, rfl, HV, HO, HD⟩ := hrel
    obtain ⟨A7, c7, e7⟩ := Kd.R_slice HV.out.row
    subst e7
    have c1_0 := HV.out.ri.c1
    have c2_0 := HV.out.ri.c2
    by_cases hrm : 0 < r
    · have bj : decide ((r : Int) > 0) = true := decide_eq_true (by omega)
      have bjn : decide (0 < r) = true := decide_eq_true hrm
      have bjm : decide ((0 : Int) < (r : Int)) = true := decide_eq_true (by omega)
      obtain ⟨q, hq⟩ : ∃ q, r = q + 1 := ⟨r - 1, by omega⟩
      have HQM := Aside0.mk (show q ≤ m by omega)
      by_cases he : t1.2.1 = 0
      · have b1 : (t1.2.1 == 0) = true := beq_iff_eq.2 he
        have HD1 : Aside0 (valD s p m [] t = valD s p q (l ++ [(stepV s p t1).1]) (stepV s p t1).2) := ⟨by
          rw [HD.out, hq]
          show (if _ then _ else _) = _
          rw [if_neg (fun h => h he)]⟩
        have HLL := Aside0.mk (show (l.length + 1) * 32 ≤ 140737488355328 by have := HO.out.2; have := HM.out; omega)
        have wk : wrap64 ((r : Int) - 1) = (q : Int) := by rw [← i64_w, IntKind.wrap_i64]; have := HM.out; omega
        have WN := Aside0.mk (show Value.int IntKind.i64 (wrap64 ((r : Int) - 1)) = .int .i64 (q : Int) ∧ q < r from ⟨congrArg (Value.int IntKind.i64) wk, by omega⟩)
        have WI := Aside0.mk wk
        have hu : IntKind.u8.wrap (numR s t1 1).1 = (numR s t1 1).1 := by rw [IntKind.wrap_u8]; have := num1_lt s t1; omega
        replace HO := Aside0.mk (show OKR s t1 ∧ l.length + (q + 1) = m from ⟨HO.out.1, by have := HO.out.2; omega⟩)
        clear wk he hq HD
        go_upto_region 6 with (first | (go_at_call 74; refine (num_any w0 _ g s t1 1 1 rfl (by decide) HO.out.1 HV.out.ri).mono ?_; rintro e4 w4 ⟨rfl, hI4, hk4⟩; have HV4 := Aside0.mk (HV.out.rd hI4 hk4); clear hI4 hk4) | go_in)
        have HO5 := Aside0.mk (HO.out.1.num 1)
        obtain ⟨a, ha⟩ : ∃ a, (numR s t1 1).1 = a := ⟨_, rfl⟩
        have HA := Aside0.mk ha
        rw [ha]
        clear ha hu c1_0 c2_0 bj bjn bjm b1
        have H5 : Aside0 (VB w0 w (w4.alloc (.cells #[.int .u8 a, .string ⟨#[]⟩, .int .i64 0] 54)) g s (numR s t1 1).2 (.slice A7 l.length c7) l w4.heap.size (⟨a, (⟨#[]⟩ : ByteArray), 0⟩ : S54)) := ⟨VB.start HV4.out (⟨a, (⟨#[]⟩ : ByteArray), 0⟩ : S54)⟩
        clear HV HV4
        generalize World.alloc _ _ = W5 at *
        generalize w4.heap.size = bx at *
        obtain ⟨d0_5, d1_5, d2_5, df_5⟩ := H5.out.cells
        dsimp only at d0_5 d1_5 d2_5
        by_cases h7 : a = 7
        · have q7 : (a == 7) = true := beq_iff_eq.2 h7
          have HA7 := Aside0.mk h7
          clear h7
          go_upto_region 8 with (first | (go_at_call 74; refine (num_any w0 _ g s (numR s t1 1).2 2 2 rfl (by decide) HO5.out H5.out.vs.ri).mono ?_; rintro e6 w6 ⟨rfl, hI6, hk6⟩; have H6 := Aside0.mk (H5.out.rd hI6 hk6); obtain ⟨d0_6, d1_6, d2_6, df_6⟩ := H6.out.cells; dsimp only at d0_6 d1_6 d2_6; clear hI6 hk6) | go_in)
          clear d0_5 d1_5 d2_5 df_5
          have HO6 := Aside0.mk (HO5.out.num 2)
          by_cases hb : isB p (numR s (numR s t1 1).2 2).1 7 = true
          · have HB := Aside0.mk hb
            obtain ⟨cb, hcb⟩ := refClass_eq HP.out (numR s (numR s t1 1).2 2).1
            have HCB := Aside0.mk hcb
            have HIS := Aside0.mk ((refIs_eq p (numR s (numR s t1 1).2 2).1 7).trans (congrArg some hb))
            clear hb hcb
            go_upto_region 15 with (first | (go_at_call 115; refine (jvmcoreref1_Is.calls A1 c1 p (numR s (numR s t1 1).2 2).1 7 true _ (HR1.out _ H6.out.vs.kept) HC1.out HIS.out).mono ?_; rintro e7 w7 ⟨rfl, hd7⟩; have H7 := Aside0.mk (H6.out.below hd7.below); obtain ⟨d0_7, d1_7, d2_7, df_7⟩ := H7.out.cells; dsimp only at d0_7 d1_7 d2_7; clear hd7) | (go_at_call 111; refine (jvmcoreref1_ClassOf.calls A1 c1 p (numR s (numR s t1 1).2 2).1 (nameV p (numR s (numR s t1 1).2 2).1) cb _ (HR1.out _ H7.out.vs.kept) HC1.out HCB.out).mono ?_; rintro e8 w8 ⟨rfl, hd8⟩; have H8 := Aside0.mk (H7.out.below hd8.below); obtain ⟨d0_8, d1_8, d2_8, df_8⟩ := H8.out.cells; dsimp only at d0_8 d1_8 d2_8; clear hd8) | go_in)
            have H10 := Aside0.mk (H8.out.set HWW.out 1 (.string (nameV p (numR s (numR s t1 1).2 2).1)) (x1 := (⟨a, nameV p (numR s (numR s t1 1).2 2).1, 0⟩ : S54)) rfl)
            clear d0_7 d1_7 d2_7 df_7
            clear d0_8 d1_8 d2_8 df_8
            generalize World.setCell _ ⟨bx, 1, none⟩ _ = W10 at *
            obtain ⟨d0_10, d1_10, d2_10, df_10⟩ := H10.out.cells
            dsimp only at d0_10 d1_10 d2_10
            have HS := Aside0.mk (show stepV s p t1 = ((⟨a, nameV p (numR s (numR s t1 1).2 2).1, 0⟩ : S54), (numR s (numR s t1 1).2 2).2) by unfold stepV; rw [HA.out, if_pos HA7.out, if_pos HB.out, HA7.out])
            go_wp2_with (first | ((with_reducible refine gate_builtin (b := .append) (xs := #[.tmp 61, .tmp 63]) rfl ?_); at_builtin; refine Kd.R_append k54 w.heap.size rfl (.tmp 61) (.tmp 63) 44 54 (.agg #[(.int .u8 0), (.string ⟨#[]⟩), (.int .i64 0)]) 32 rfl Try.underlying44 infoVT rfl (by decide) (by omega) (.slice A7 l.length c7) l (⟨a, nameV p (numR s (numR s t1 1).2 2).1, 0⟩ : S54) [.int .u8 ((⟨a, nameV p (numR s (numR s t1 1).2 2).1, 0⟩ : S54)).f0, .string ((⟨a, nameV p (numR s (numR s t1 1).2 2).1, 0⟩ : S54)).f1, .int .i64 ((⟨a, nameV p (numR s (numR s t1 1).2 2).1, 0⟩ : S54)).f2] (fun _ => True) (fun _ => False) rfl rfl (k54_mkM _ _ _ _) (fun _ hk => hk.elim) (fun _ _ => trivial) H10.out.vs.row (Below.refl _ _) H10.out.vs.kept.1 HLL.out ?_; intro v9 w9 hr9 hb9 hg9 hat9; have H9 := Aside0.mk (H10.out.app HWW.out hg9 hr9); obtain ⟨A9, c9, e9⟩ := Kd.R_slice hr9; subst e9; clear hr9 hb9 hg9 hat9) | go_in)
            go_roundw
            case rel => exact ⟨q, _, (numR s (numR s t1 1).2 2).2, HQM.out, by first | exact WN.out.1 | exact WI.out | exact congrArg (Value.int IntKind.i64) WI.out, by first | exact H9 | (simp only [List.length_append, List.length_singleton] at H9; exact H9), ⟨by have h := HO.out.1.step (p := p); rw [HS.out] at h; exact h, by rw [List.length_append, List.length_singleton]; have := HO.out.2; omega⟩, ⟨by have h := HD1.out; rw [HS.out] at h; exact h⟩⟩
            case measure => exact ms_down WN.out
          · have hb2 : isB p (numR s (numR s t1 1).2 2).1 7 = false := Bool.eq_false_iff.2 hb
            have HB := Aside0.mk hb
            have HIS := Aside0.mk ((refIs_eq p (numR s (numR s t1 1).2 2).1 7).trans (congrArg some hb2))
            clear hb hb2
            go_upto_region 15 with (first | (go_at_call 115; refine (jvmcoreref1_Is.calls A1 c1 p (numR s (numR s t1 1).2 2).1 7 false _ (HR1.out _ H6.out.vs.kept) HC1.out HIS.out).mono ?_; rintro e7 w7 ⟨rfl, hd7⟩; have H7 := Aside0.mk (H6.out.below hd7.below); obtain ⟨d0_7, d1_7, d2_7, df_7⟩ := H7.out.cells; dsimp only at d0_7 d1_7 d2_7; clear hd7) | (go_at_call 77; refine (fail_any w0 _ g s (numR s (numR s t1 1).2 2).2 7 t1.1 H7.out.vs.ri).mono ?_; rintro e8 w8 ⟨rfl, hI8, hk8⟩; have H8 := Aside0.mk (H7.out.rd hI8 hk8); obtain ⟨d0_8, d1_8, d2_8, df_8⟩ := H8.out.cells; dsimp only at d0_8 d1_8 d2_8; clear hI8 hk8) | go_in)
            clear d0_7 d1_7 d2_7 df_7
            have HS := Aside0.mk (show stepV s p t1 = ((⟨a, (⟨#[]⟩ : ByteArray), 0⟩ : S54), failR (numR s (numR s t1 1).2 2).2 7 t1.1) by unfold stepV; rw [HA.out, if_pos HA7.out, if_neg HB.out, HA7.out])
            go_wp2_with (first | ((with_reducible refine gate_builtin (b := .append) (xs := #[.tmp 61, .tmp 63]) rfl ?_); at_builtin; refine Kd.R_append k54 w.heap.size rfl (.tmp 61) (.tmp 63) 44 54 (.agg #[(.int .u8 0), (.string ⟨#[]⟩), (.int .i64 0)]) 32 rfl Try.underlying44 infoVT rfl (by decide) (by omega) (.slice A7 l.length c7) l (⟨a, (⟨#[]⟩ : ByteArray), 0⟩ : S54) [.int .u8 ((⟨a, (⟨#[]⟩ : ByteArray), 0⟩ : S54)).f0, .string ((⟨a, (⟨#[]⟩ : ByteArray), 0⟩ : S54)).f1, .int .i64 ((⟨a, (⟨#[]⟩ : ByteArray), 0⟩ : S54)).f2] (fun _ => True) (fun _ => False) rfl rfl (k54_mkM _ _ _ _) (fun _ hk => hk.elim) (fun _ _ => trivial) H8.out.vs.row (Below.refl _ _) H8.out.vs.kept.1 HLL.out ?_; intro v9 w9 hr9 hb9 hg9 hat9; have H9 := Aside0.mk (H8.out.app HWW.out hg9 hr9); obtain ⟨A9, c9, e9⟩ := Kd.R_slice hr9; subst e9; clear hr9 hb9 hg9 hat9) | go_in)
            go_roundw
            case rel => exact ⟨q, _, failR (numR s (numR s t1 1).2 2).2 7 t1.1, HQM.out, by first | exact WN.out.1 | exact WI.out | exact congrArg (Value.int IntKind.i64) WI.out, by first | exact H9 | (simp only [List.length_append, List.length_singleton] at H9; exact H9), ⟨by have h := HO.out.1.step (p := p); rw [HS.out] at h; exact h, by rw [List.length_append, List.length_singleton]; have := HO.out.2; omega⟩, ⟨by have h := HD1.out; rw [HS.out] at h; exact h⟩⟩
            case measure => exact ms_down WN.out
        · have q7 : (a == 7) = false := beq_eq_false_iff_ne.2 h7
          by_cases h8 : a = 8
          · have q8 : (a == 8) = true := beq_iff_eq.2 h8
            have HA8 := Aside0.mk (And.intro h7 h8)
            clear h7 h8
            go_upto_region 15 with (first | (go_at_call 74; refine (num_any w0 _ g s (numR s t1 1).2 2 2 rfl (by decide) HO5.out H5.out.vs.ri).mono ?_; rintro e6 w6 ⟨rfl, hI6, hk6⟩; have H6 := Aside0.mk (H5.out.rd hI6 hk6); obtain ⟨d0_6, d1_6, d2_6, df_6⟩ := H6.out.cells; dsimp only at d0_6 d1_6 d2_6; clear hI6 hk6) | go_in)
            have H10 := Aside0.mk (H6.out.set HWW.out 2 (.int .i64 (numR s (numR s t1 1).2 2).1) (x1 := (⟨a, (⟨#[]⟩ : ByteArray), (numR s (numR s t1 1).2 2).1⟩ : S54)) rfl)
            clear d0_5 d1_5 d2_5 df_5
            clear d0_6 d1_6 d2_6 df_6
            generalize World.setCell _ ⟨bx, 2, none⟩ _ = W10 at *
            obtain ⟨d0_10, d1_10, d2_10, df_10⟩ := H10.out.cells
            dsimp only at d0_10 d1_10 d2_10
            have HS := Aside0.mk (show stepV s p t1 = ((⟨a, (⟨#[]⟩ : ByteArray), (numR s (numR s t1 1).2 2).1⟩ : S54), (numR s (numR s t1 1).2 2).2) by unfold stepV; rw [HA.out, if_neg HA8.out.1, if_pos HA8.out.2, HA8.out.2])
            go_wp2_with (first | ((with_reducible refine gate_builtin (b := .append) (xs := #[.tmp 61, .tmp 63]) rfl ?_); at_builtin; refine Kd.R_append k54 w.heap.size rfl (.tmp 61) (.tmp 63) 44 54 (.agg #[(.int .u8 0), (.string ⟨#[]⟩), (.int .i64 0)]) 32 rfl Try.underlying44 infoVT rfl (by decide) (by omega) (.slice A7 l.length c7) l (⟨a, (⟨#[]⟩ : ByteArray), (numR s (numR s t1 1).2 2).1⟩ : S54) [.int .u8 ((⟨a, (⟨#[]⟩ : ByteArray), (numR s (numR s t1 1).2 2).1⟩ : S54)).f0, .string ((⟨a, (⟨#[]⟩ : ByteArray), (numR s (numR s t1 1).2 2).1⟩ : S54)).f1, .int .i64 ((⟨a, (⟨#[]⟩ : ByteArray), (numR s (numR s t1 1).2 2).1⟩ : S54)).f2] (fun _ => True) (fun _ => False) rfl rfl (k54_mkM _ _ _ _) (fun _ hk => hk.elim) (fun _ _ => trivial) H10.out.vs.row (Below.refl _ _) H10.out.vs.kept.1 HLL.out ?_; intro v9 w9 hr9 hb9 hg9 hat9; have H9 := Aside0.mk (H10.out.app HWW.out hg9 hr9); obtain ⟨A9, c9, e9⟩ := Kd.R_slice hr9; subst e9; clear hr9 hb9 hg9 hat9) | go_in)
            go_roundw
            case rel => exact ⟨q, _, (numR s (numR s t1 1).2 2).2, HQM.out, by first | exact WN.out.1 | exact WI.out | exact congrArg (Value.int IntKind.i64) WI.out, by first | exact H9 | (simp only [List.length_append, List.length_singleton] at H9; exact H9), ⟨by have h := HO.out.1.step (p := p); rw [HS.out] at h; exact h, by rw [List.length_append, List.length_singleton]; have := HO.out.2; omega⟩, ⟨by have h := HD1.out; rw [HS.out] at h; exact h⟩⟩
            case measure => exact ms_down WN.out
          · have q8 : (a == 8) = false := beq_eq_false_iff_ne.2 h8
            have HA8 := Aside0.mk (And.intro h7 h8)
            by_cases h9 : a > 8
            · have q9 : decide (a > 8) = true := decide_eq_true h9
              have q9b : decide (8 < a) = true := decide_eq_true h9
              have HA9 := Aside0.mk h9
              clear h7 h8 h9
              go_upto_region 15 with (first | (go_at_call 77; refine (fail_any w0 _ g s (numR s t1 1).2 17 t1.1 H5.out.vs.ri).mono ?_; rintro e6 w6 ⟨rfl, hI6, hk6⟩; have H6 := Aside0.mk (H5.out.rd hI6 hk6); obtain ⟨d0_6, d1_6, d2_6, df_6⟩ := H6.out.cells; dsimp only at d0_6 d1_6 d2_6; clear hI6 hk6) | go_in)
              clear d0_5 d1_5 d2_5 df_5
              have HS := Aside0.mk (show stepV s p t1 = ((⟨a, (⟨#[]⟩ : ByteArray), 0⟩ : S54), failR (numR s t1 1).2 17 t1.1) by unfold stepV; rw [HA.out, if_neg HA8.out.1, if_neg HA8.out.2, if_pos HA9.out])
              go_wp2_with (first | ((with_reducible refine gate_builtin (b := .append) (xs := #[.tmp 61, .tmp 63]) rfl ?_); at_builtin; refine Kd.R_append k54 w.heap.size rfl (.tmp 61) (.tmp 63) 44 54 (.agg #[(.int .u8 0), (.string ⟨#[]⟩), (.int .i64 0)]) 32 rfl Try.underlying44 infoVT rfl (by decide) (by omega) (.slice A7 l.length c7) l (⟨a, (⟨#[]⟩ : ByteArray), 0⟩ : S54) [.int .u8 ((⟨a, (⟨#[]⟩ : ByteArray), 0⟩ : S54)).f0, .string ((⟨a, (⟨#[]⟩ : ByteArray), 0⟩ : S54)).f1, .int .i64 ((⟨a, (⟨#[]⟩ : ByteArray), 0⟩ : S54)).f2] (fun _ => True) (fun _ => False) rfl rfl (k54_mkM _ _ _ _) (fun _ hk => hk.elim) (fun _ _ => trivial) H6.out.vs.row (Below.refl _ _) H6.out.vs.kept.1 HLL.out ?_; intro v9 w9 hr9 hb9 hg9 hat9; have H9 := Aside0.mk (H6.out.app HWW.out hg9 hr9); obtain ⟨A9, c9, e9⟩ := Kd.R_slice hr9; subst e9; clear hr9 hb9 hg9 hat9) | go_in)
              go_roundw
              case rel => exact ⟨q, _, failR (numR s t1 1).2 17 t1.1, HQM.out, by first | exact WN.out.1 | exact WI.out | exact congrArg (Value.int IntKind.i64) WI.out, by first | exact H9 | (simp only [List.length_append, List.length_singleton] at H9; exact H9), ⟨by have h := HO.out.1.step (p := p); rw [HS.out] at h; exact h, by rw [List.length_append, List.length_singleton]; have := HO.out.2; omega⟩, ⟨by have h := HD1.out; rw [HS.out] at h; exact h⟩⟩
              case measure => exact ms_down WN.out
            · have q9 : decide (a > 8) = false := decide_eq_false h9
              have q9b : decide (8 < a) = false := decide_eq_false h9
              have HA9 := Aside0.mk h9
              clear h7 h8 h9
              have HS := Aside0.mk (show stepV s p t1 = ((⟨a, (⟨#[]⟩ : ByteArray), 0⟩ : S54), (numR s t1 1).2) by unfold stepV; rw [HA.out, if_neg HA8.out.1, if_neg HA8.out.2, if_neg HA9.out])
              go_wp2_with (first | ((with_reducible refine gate_builtin (b := .append) (xs := #[.tmp 61, .tmp 63]) rfl ?_); at_builtin; refine Kd.R_append k54 w.heap.size rfl (.tmp 61) (.tmp 63) 44 54 (.agg #[(.int .u8 0), (.string ⟨#[]⟩), (.int .i64 0)]) 32 rfl Try.underlying44 infoVT rfl (by decide) (by omega) (.slice A7 l.length c7) l (⟨a, (⟨#[]⟩ : ByteArray), 0⟩ : S54) [.int .u8 ((⟨a, (⟨#[]⟩ : ByteArray), 0⟩ : S54)).f0, .string ((⟨a, (⟨#[]⟩ : ByteArray), 0⟩ : S54)).f1, .int .i64 ((⟨a, (⟨#[]⟩ : ByteArray), 0⟩ : S54)).f2] (fun _ => True) (fun _ => False) rfl rfl (k54_mkM _ _ _ _) (fun _ hk => hk.elim) (fun _ _ => trivial) H5.out.vs.row (Below.refl _ _) H5.out.vs.kept.1 HLL.out ?_; intro v9 w9 hr9 hb9 hg9 hat9; have H9 := Aside0.mk (H5.out.app HWW.out hg9 hr9); obtain ⟨A9, c9, e9⟩ := Kd.R_slice hr9; subst e9; clear hr9 hb9 hg9 hat9) | go_in)
              go_roundw
              case rel => exact ⟨q, _, (numR s t1 1).2, HQM.out, by first | exact WN.out.1 | exact WI.out | exact congrArg (Value.int IntKind.i64) WI.out, by first | exact H9 | (simp only [List.length_append, List.length_singleton] at H9; exact H9), ⟨by have h := HO.out.1.step (p := p); rw [HS.out] at h; exact h, by rw [List.length_append, List.length_singleton]; have := HO.out.2; omega⟩, ⟨by have h := HD1.out; rw [HS.out] at h; exact h⟩⟩
              case measure => exact ms_down WN.out
      · have b1 : (t1.2.1 == 0) = false := beq_eq_false_iff_ne.2 he
        have HD1 : Aside0 (valD s p m [] t = (l, t1)) := ⟨by rw [HD.out]; exact val_stuck he⟩
        clear he hq HD
        go_wp2
        go_ret
        refine ⟨_, l, rfl, ?_, by have := HO.out.2; omega, ?_⟩
        · rw [HD1.out]
          exact HV.out
        · rw [HD1.out]
          exact fun _ => rfl
    · obtain rfl : r = 0 := by omega
      have bj : decide (((0 : Nat) : Int) > 0) = false := by decide
      have HD1 : Aside0 (valD s p m [] t = (l, t1)) := ⟨HD.out⟩
      clear hrm hr HD
      go_wp2
      go_ret
      refine ⟨_, l, rfl, ?_, by have := HO.out.2; omega, ?_⟩
      · rw [HD1.out]
        exact HV.out
      · rw [HD1.out]
        exact fun _ => rfl
end Go.Proofs.Ytfnjbmpolggdeaa.MD.RR
end
section
namespace Go.Proofs.Ytfnjbmpolggdeaa.MD.RR
open Go.RowKit Go.Lib Go.Proofs.YtfnjbmpolggdeaaW.PrintWords Go.Proofs.YtfnjbmpolggdeaaW.PrintLast Go.Proofs.YtfnjbmpolggdeaaW.PrintMore
set_option linter.unusedVariables false
set_option linter.unusedSimpArgs false
def LocR (w W : World) (vl : Value) (l : List S54) : Prop :=
  VR W w.heap.size vl l ∨ ∃ A c, vl = .slice A l.length c ∧ l.length ≤ c ∧ ∀ W_ g, w.heap.size ≤ g → KeepBut w W_ g none → Kd.C k54 W_ A l.length l
structure MS (w W : World) (g : Nat) (s : ByteArray) (t : RdS) (vl : Value) (l : List S54) (V : Value) (L : List S80) : Prop where
  ri : RI w W g s t
  loc : LocR w W vl l
  out : FR W w.heap.size V L
namespace MS
variable {w W W1 : World} {g : Nat} {s : ByteArray} {t t1 : RdS} {vl V V1 : Value} {l : List S54} {L : List S80}
theorem rd (h : MS w W g s t vl l V L) (hI : RI w W1 g s t1) (hk : KeepBut W W1 g none) : MS w W1 g s t1 vl l V L where
  ri := hI
  loc := h.loc.imp (fun h1 => h1.step (fun k e => hk.2 k (Kd.R_lt h1 k e) (fun he => h1.ne h.ri.1.1 (by decide) (he ▸ e)) (by simp))) id
  out := h.out.keep h.ri.1.1 (by decide) (fun k hlt hne => hk.2 k hlt hne (by simp))
theorem below (h : MS w W g s t vl l V L) (hb : Below W.heap.size W W1) : MS w W1 g s t vl l V L := h.rd (h.ri.below hb) (KeepBut.of_below hb g none)
theorem drew (h : MS w W g s t vl l V L) : MS w W.drew g s t vl l V L := h.below (below_drew (Below.refl _ _))
theorem keep (h : MS w W g s t vl l V L) (hk : KeepBut W W1 g none) : KeepBut w W1 g none := keep_tr (KeepBut.of_below h.ri.2 g none) hk
theorem locS (h : MS w W g s t vl l V L) : ∃ A c, vl = .slice A l.length c ∧ l.length ≤ c := by
  rcases h.loc with h1 | ⟨A, c, e, hc, _⟩
  · obtain ⟨A, c, e⟩ := Kd.R_slice h1
    subst e
    exact ⟨A, c, rfl, (Kd.R_reads' h1).2.1⟩
  · exact ⟨A, c, e, hc⟩
theorem locC {A : Option Addr} {c : Nat} (h : MS w W g s t (.slice A l.length c) l V L) {W_ : World} (hk : KeepBut W W_ g none) : Kd.C k54 W_ A l.length l := by
  rcases h.loc with h1 | ⟨A1, c1, e, hc, hC⟩
  · exact (Kd.R_reads' (VR.step h1 (fun k e => hk.2 k (Kd.R_lt h1 k e) (fun he => h1.ne h.ri.1.1 (by decide) (he ▸ e)) (by simp)))).2.2
  · injection e with e1 e2 e3
    subst e1
    exact hC W_ g h.ri.ge (h.keep hk)
end MS
structure MB (w wc W : World) (g : Nat) (s : ByteArray) (t : RdS) (V : Value) (L : List S80) (bx : Nat) (x : Int) (v1 : Value) (l1 : List S54) (v2 : Value) (l2 : List S54) : Prop where
  ri : RI w W g s t
  out : Kd.S kF 80 W w.heap.size (fun k => True ∧ ¬ wc.heap.size ≤ k) V L
  box : W.heap[bx]? = some (.cells #[.int .i64 x, v1, v2] 80 (0, 0))
  nb : wc.heap.size ≤ bx
  r1 : VR W wc.heap.size v1 l1
  r2 : VR W wc.heap.size v2 l2
  ap : ∀ k, v1.ownBlock = some k → v2.ownBlock ≠ some k
  wcs : w.heap.size ≤ wc.heap.size
  cur : ∀ k, V.ownBlock = some k → k < wc.heap.size
theorem MS.box {w wc W : World} {g : Nat} {s : ByteArray} {t : RdS} {vl V v1 : Value} {l l1 : List S54} {L : List S80} (h : MS w wc g s t vl l V L) (h1 : VR W wc.heap.size v1 l1) (hb0 : Below wc.heap.size wc W) :
    MB w wc (W.alloc (.cells #[.int .i64 0, v1, .slice none 0 0] 80)) g s t V L W.heap.size 0 v1 l1 (.slice none 0 0) [] := by
  have hb := below_alloc (Below.refl W.heap.size W) (.cells #[.int .i64 0, v1, .slice none 0 0] 80)
  exact {
    ri := (h.ri.below hb0).below hb
    out := Kd.S_below (h.out.elder h.ri.1.1 (by decide) (fun k hlt hne => hb0.block k hlt)) hb
    box := Array.getElem?_push_size
    nb := hb0.size
    r1 := h1.step (fun k e => hb.block k (Kd.R_lt h1 k e))
    r2 := Kd.R_nil _ _ _ _ _
    ap := fun k _ e => by cases e
    wcs := h.ri.2.size
    cur := fun k e => Kd.S_lt h.out k e }
namespace MB
variable {w wc W W1 : World} {g bx : Nat} {s : ByteArray} {t t1 : RdS} {V V1 v1 v2 u u1 u2 : Value} {l1 l2 m m1 m2 : List S54} {L L1 : List S80} {x y : Int}
theorem gne (h : MB w wc W g s t V L bx x v1 l1 v2 l2) : bx ≠ g := fun e => h.ri.1.ne_blk h.box (by decide) e.symm
theorem wcl (h : MB w wc W g s t V L bx x v1 l1 v2 l2) : wc.heap.size ≤ W.heap.size := by have := blk_lt h.box; have := h.nb; omega
theorem cells (h : MB w wc W g s t V L bx x v1 l1 v2 l2) : W.cell? ⟨bx, 0, none⟩ = some (.int .i64 x) ∧ W.cell? ⟨bx, 1, none⟩ = some v1 ∧ W.cell? ⟨bx, 2, none⟩ = some v2 ∧ (∀ j, W.frozen? ⟨bx, j, none⟩ = false) :=
  ⟨blk_cell h.box 0, blk_cell h.box 1, blk_cell h.box 2, fun j => blk_frozen h.box j⟩
theorem keep (h : MB w wc W g s t V L bx x v1 l1 v2 l2) (hk : KeepBut W W1 g none) : KeepBut w W1 g none := keep_tr (KeepBut.of_below h.ri.2 g none) hk
theorem rd (h : MB w wc W g s t V L bx x v1 l1 v2 l2) (hI : RI w W1 g s t1) (hk : KeepBut W W1 g none) : MB w wc W1 g s t1 V L bx x v1 l1 v2 l2 where
  ri := hI
  out := Kd.S_mono (Kd.S_step (Kd.S_types h.out h.ri.1.1 (by decide)) (fun k ho hlt => hk.2 k hlt ho.2 (by simp))) (fun k ho => ho.1)
  box := (hk.2 _ (blk_lt h.box) h.gne (by simp)).trans h.box
  nb := h.nb
  r1 := h.r1.step (fun k e => hk.2 k (Kd.R_lt h.r1 k e) (fun he => h.r1.ne h.ri.1.1 (by decide) (he ▸ e)) (by simp))
  r2 := h.r2.step (fun k e => hk.2 k (Kd.R_lt h.r2 k e) (fun he => h.r2.ne h.ri.1.1 (by decide) (he ▸ e)) (by simp))
  ap := h.ap
  wcs := h.wcs
  cur := h.cur
theorem below (h : MB w wc W g s t V L bx x v1 l1 v2 l2) (hb : Below W.heap.size W W1) : MB w wc W1 g s t V L bx x v1 l1 v2 l2 := h.rd (h.ri.below hb) (KeepBut.of_below hb g none)
theorem drew (h : MB w wc W g s t V L bx x v1 l1 v2 l2) : MB w wc W.drew g s t V L bx x v1 l1 v2 l2 := h.below (below_drew (Below.refl _ _))
theorem keepv {v : Value} {B j : Nat} (h : MB w wc W g s t V L bx x v1 l1 v2 l2) (hv : VR W B v m) : VR (W.setCell ⟨bx, j, none⟩ u) B v m :=
  hv.step (fun k e => Below.heap_setCell W ⟨bx, j, none⟩ u k (fun he => hv.ne h.box (by decide) (by rw [← show k = bx from he]; exact e)))
theorem set0 (h : MB w wc W g s t V L bx x v1 l1 v2 l2) (y : Int) : MB w wc (W.setCell ⟨bx, 0, none⟩ (.int .i64 y)) g s t V L bx y v1 l1 v2 l2 where
  ri := ⟨h.ri.1.far (fun e => h.gne e.symm) _, h.ri.2.setCell (p := ⟨bx, 0, none⟩) (Nat.le_trans h.wcs h.nb) _⟩
  out := Kd.S_step h.out (fun k ho _ => Below.heap_setCell W ⟨bx, 0, none⟩ _ k (fun he => ho.2 (by rw [show k = bx from he]; exact h.nb)))
  box := blk_set h.box 0 _
  nb := h.nb
  r1 := h.keepv h.r1
  r2 := h.keepv h.r2
  ap := h.ap
  wcs := h.wcs
  cur := h.cur
theorem put (h : MB w wc W g s t V L bx x v1 l1 v2 l2) (j : Nat) (u : Value) (hx : (#[.int .i64 x, v1, v2] : Array Value).setIfInBounds j u = #[.int .i64 x, u1, u2]) (h1 : VR W wc.heap.size u1 m1) (h2 : VR W wc.heap.size u2 m2) (ha : ∀ k, u1.ownBlock = some k → u2.ownBlock ≠ some k) : MB w wc (W.setCell ⟨bx, j, none⟩ u) g s t V L bx x u1 m1 u2 m2 where
  ri := ⟨h.ri.1.far (fun e => h.gne e.symm) u, h.ri.2.setCell (p := ⟨bx, j, none⟩) (Nat.le_trans h.wcs h.nb) u⟩
  out := Kd.S_step h.out (fun k ho _ => Below.heap_setCell W ⟨bx, j, none⟩ u k (fun he => ho.2 (by rw [show k = bx from he]; exact h.nb)))
  box := by rw [← hx]; exact blk_set h.box j u
  nb := h.nb
  r1 := h.keepv h1
  r2 := h.keepv h2
  ap := ha
  wcs := h.wcs
  cur := h.cur
theorem app1 (h : MB w wc W g s t V L bx x v1 l1 (.slice none 0 0) []) (hg : W.grownBy W1 v1.ownBlock) (hr : VR W1 wc.heap.size u m) : MB w wc (W1.setCell ⟨bx, 1, none⟩ u) g s t V L bx x u m (.slice none 0 0) [] := by
  have i1 : W1.heap[bx]? = some (.cells #[.int .i64 x, v1, .slice none 0 0] 80 (0, 0)) := (hg.block _ (blk_lt h.box) (fun e => h.r1.ne h.box (by decide) e.symm)).trans h.box
  have hw := h.wcs
  have hO : Kd.S kF 80 W1 w.heap.size (fun k => True ∧ ¬ wc.heap.size ≤ k) V L := Kd.S_step h.out (fun k ho hlt => hg.block k hlt (fun he => ho.2 (Kd.R_base h.r1 k he.symm)))
  exact {
    ri := ⟨(h.ri.1.grown hg (fun e => h.r1.ne h.ri.1.1 (by decide) e.symm)).far (fun e => h.gne e.symm) u, (pw_below_grown h.ri.2 _ h.ri.2.size hg (fun k hk => Nat.le_trans hw (Kd.R_base h.r1 k hk))).setCell (p := ⟨bx, 1, none⟩) (Nat.le_trans h.wcs h.nb) u⟩
    out := Kd.S_step hO (fun k ho _ => Below.heap_setCell W1 ⟨bx, 1, none⟩ u k (fun he => ho.2 (by rw [show k = bx from he]; exact h.nb)))
    box := blk_set i1 1 u
    nb := h.nb
    r1 := hr.step (fun k e => Below.heap_setCell W1 ⟨bx, 1, none⟩ u k (fun he => hr.ne i1 (by decide) (by rw [← show k = bx from he]; exact e)))
    r2 := Kd.R_nil _ _ _ _ _
    ap := fun k _ e => by cases e
    wcs := h.wcs
    cur := h.cur }
theorem grown1 (h : MB w wc W g s t V L bx x v1 l1 v2 l2) (hg : W.grownBy W1 v1.ownBlock) : W1.cell? ⟨bx, 1, none⟩ = some v1 ∧ W1.frozen? ⟨bx, 1, none⟩ = false := by
  have i1 : W1.heap[bx]? = some (.cells #[.int .i64 x, v1, v2] 80 (0, 0)) := (hg.block _ (blk_lt h.box) (fun e => h.r1.ne h.box (by decide) e.symm)).trans h.box
  exact ⟨blk_cell i1 1, blk_frozen i1 1⟩
theorem elem (h : MB w wc W g s t V L bx x v1 l1 v2 l2) : kF.M W w.heap.size (fun k => wc.heap.size ≤ k) (⟨x, l1, l2⟩ : S80) [.int .i64 x, v1, v2] := by
  have q1 : Kd.R k54 54 W w.heap.size (fun k => wc.heap.size ≤ k) v1 l1 := Kd.R_mono (Kd.R_lower (Kd.R_tight rfl h.r1) h.wcs) (fun k hk => Kd.R_base h.r1 k hk.symm)
  have q2 : Kd.R k54 54 W w.heap.size (fun k => wc.heap.size ≤ k) v2 l2 := Kd.R_mono (Kd.R_lower (Kd.R_tight rfl h.r2) h.wcs) (fun k hk => Kd.R_base h.r2 k hk.symm)
  refine ⟨k80_mkM W w.heap.size _ (⟨x, l1, l2⟩ : S80) q1 q2, fun u1 u2 e1 e2 => ?_⟩
  injection e1 with e1
  injection e2 with e2
  subst e1 e2
  exact h.ap
theorem app (h : MB w wc W g s t V L bx x v1 l1 v2 l2) (hg : W.grownBy W1 V.ownBlock) (hr : FR W1 w.heap.size V1 L1) : MS w W1 g s t v1 l1 V1 L1 where
  ri := ⟨h.ri.1.grown hg (fun e => Kd.S_ne h.out h.ri.1.1 (by decide) e), pw_below_grown h.ri.2 _ h.ri.2.size hg (fun k hk => Kd.S_base h.out k hk)⟩
  loc := .inl (VR.step (Kd.R_lower h.r1 h.wcs) (fun k e => hg.block k (Kd.R_lt h.r1 k e) (fun he => by
    obtain ⟨c1, e1⟩ := Kd.R_typed h.r1 k e
    exact Kd.S_ne h.out e1 (by decide) he)))
  out := hr
end MB
end Go.Proofs.Ytfnjbmpolggdeaa.MD.RR
end
section
namespace Go.Proofs.Ytfnjbmpolggdeaa.MD
open Go.RowKit Go.Lib Go.Proofs.YtfnjbmpolggdeaaW.PrintWords Go.Proofs.YtfnjbmpolggdeaaW.PrintLast Go.Proofs.YtfnjbmpolggdeaaW.PrintMore
set_option linter.unusedVariables false
set_option linter.unusedSimpArgs false
def Tells (s : ByteArray) (p : List S37) (R : List S80 × RdS) (n : Nat) (L : List S80) (l : List S54) (pl : Int) (t : RdS) : Prop :=
  (t.2.1 = 0 → R = frmD s p n L l pl t) ∧ (t.2.1 ≠ 0 → R.2 = t)
theorem Tells.step {s : ByteArray} {p : List S37} {R : List S80 × RdS} {n : Nat} {L : List S80} {l l1 l2 : List S54} {pl d : Int} {t : RdS} (h : Tells s p R (n + 1) L l pl t) (ht : t.2.1 = 0) (he : (oneM s p l t).t.2.1 = 0 → l1 = (oneM s p l t).l1 ∧ l2 = (oneM s p l t).l2 ∧ d = (oneM s p l t).d) :
    Tells s p R n (L ++ [⟨pl + (d + 1), l1, l2⟩]) l1 (pl + (d + 1)) (oneM s p l t).t := by
  have h1 := h.1 ht
  rw [frm_step ht] at h1
  refine ⟨fun hz => ?_, fun hz => ?_⟩
  · obtain ⟨rfl, rfl, rfl⟩ := he hz
    exact h1
  · rw [h1, frm_stuck hz]
set_option maxHeartbeats 16000000 in
set_option maxRecDepth 100000 in
theorem maps_Read.full (a0 : ByteArray) (A1 : Option Addr) (c1 : Nat) (p : List S37) (A2 : Option Addr) (c2 : Nat) (first : List S54) (w : World) (hs : a0.size ≤ 65535) (hfl : first.length ≤ 65536)
    (hr1 : ∀ W_ g, w.heap.size ≤ g → KeepBut w W_ g none → Kd.C k37 W_ A1 p.length p) (hc1 : p.length ≤ c1) (hr2 : ∀ W_ g, w.heap.size ≤ g → KeepBut w W_ g none → Kd.C k54 W_ A2 first.length first) (hc2 : first.length ≤ c2) (hp : ∀ c ∈ p, okC39 c) :
    Calls Try.prog 34 #[.string a0, .slice A1 p.length c1, .slice A2 first.length c2] w fun e w' => ∃ v0_, e = .returned (.tuple #[v0_, .int .i64 (readD a0 p first).2.1, .int .i64 (readD a0 p first).2.2]) ∧ Kd.S kF 80 w' w.heap.size (fun _ => True) v0_ (readD a0 p first).1 ∧ Below w.heap.size w w' := by
  have HP := Aside0.mk hp
  have HR1 := Aside0.mk hr1
  have HC1 := Aside0.mk hc1
  have HC2 := Aside0.mk (And.intro hr2 hc2)
  have HN := Aside0.mk (And.intro hs hfl)
  have HO0 := Aside0.mk (show OKR a0 ((0, 0, 0) : RdS) from ⟨Int.le_refl _, Int.natCast_nonneg _, hs⟩)
  have HCL := Aside0.mk (show api_VType.f first = some first by unfold api_VType.f; rw [if_pos (by omega)])
  have HRN := Aside0.mk (num2_lt a0 (0, 0, 0))
  clear hp hr1 hc1 hr2 hc2 hs hfl
  go_enter Try.func34, Try.ntmps34
  go_upto_region 6 with (first | (go_at_call 63; refine (pool_NewReader.calls a0 a0 0 0 0 w w (Below.refl _ _) rfl).mono ?_; rintro e1 w1 ⟨g, rfl, hI1, hB1, hb1⟩; have HI1 := Aside0.mk (show RI w w1 g a0 (0, 0, 0) from ⟨hI1, hB1⟩); clear hI1 hB1 hb1) | (go_at_call 68; refine (num_any w _ g a0 (0, 0, 0) 2 2 rfl (by decide) HO0.out HI1.out).mono ?_; rintro e2 w2 ⟨rfl, hI2, hk2⟩; have HI2 := Aside0.mk hI2; have HG2 := Aside0.mk HI1.out.ge; clear hI2 hk2) | (go_at_call 69; refine (api_VType.calls A2 c2 first first _ (HC2.out.1 _ g HG2.out (KeepBut.of_below HI2.out.2 g none)) HC2.out.2 HCL.out).mono ?_; rintro e3 w3 ⟨v3, rfl, hR3, hb3⟩; have HI3 := Aside0.mk (HI2.out.below hb3); have HV3 := Aside0.mk (show VR w3 w.heap.size v3 first from Kd.R_lower hR3 HI2.out.2.size); clear hR3 hb3) | go_in)
  obtain ⟨A4, c4, q4⟩ := Kd.R_slice HV3.out
  subst q4
  have H0 := Aside0.mk (show MS w w3 g a0 (numR a0 (0, 0, 0) 2).2 (.slice A4 first.length c4) first (.slice none 0 0) [] from ⟨HI3.out, HV3.out, Kd.S_nil _ _ _ _ _⟩)
  have HO1 := Aside0.mk (HO0.out.num 2)
  clear HI1 HI2 HI3 HV3
  obtain ⟨n, hn⟩ : ∃ n : Nat, (numR a0 (0, 0, 0) 2).1 = (n : Int) := ⟨_, (Int.toNat_of_nonneg HRN.out.1).symm⟩
  have HNN := Aside0.mk (show n ≤ 65535 by have := HRN.out; omega)
  have HRR := Aside0.mk (show readD a0 p first = finR a0 (frmD a0 p n [] first (-1) (numR a0 (0, 0, 0) 2).2).1 (frmD a0 p n [] first (-1) (numR a0 (0, 0, 0) 2).2).2 by unfold readD; rw [hn, Int.toNat_natCast])
  rw [hn]
  clear hn
  generalize (numR a0 (0, 0, 0) 2).2 = t0 at *
  have HT0 := Aside0.mk (show Tells a0 p (frmD a0 p n [] first (-1) t0) n [] first (-1) t0 from ⟨fun _ => rfl, fun h => by rw [frm_stuck h]⟩)
  generalize frmD a0 p n [] first (-1) t0 = R at *
  clear HRN
  go_upto_region 7 with (fail)
  go_loopw [11, 12, 13, 14] (fun vl vp v i wr => ∃ (k : Nat) (l : List S54) (L : List S80) (pl : Int) (t : RdS), k ≤ n ∧ i = .int .i64 (k : Int) ∧ vp = .int .i64 pl ∧ Aside0 (MS w wr g a0 t vl l v L) ∧ Aside0 (OKR a0 t) ∧ Aside0 (l.length ≤ 65536 + 4 * k ∧ L.length = k ∧ -1 ≤ pl ∧ pl ≤ 65537 * (k : Int)) ∧ Aside0 (Tells a0 p R (n - k) L l pl t)) (fun _ _ _ i _ => n - (intOf i).toNat)
  case atStart => exact ⟨0, first, [], -1, t0, Nat.zero_le _, rfl, rfl, H0, HO1, ⟨by have := HN.out.2; omega, rfl, Int.le_refl _, by decide⟩, HT0⟩
  case round =>
    clear H0 HO1 HT0 HO0
    obtain ⟨k, l, L, pl, t, hkn, rfl, rfl, HM, HO, HL, HT⟩ := hrel
    obtain ⟨A5, c5, q5⟩ := Kd.R_slice HM.out.loc
    subst q5
    obtain ⟨A6, c6, q6⟩ := Kd.S_slice HM.out.out
    subst q6
    have HKN := Aside0.mk hkn
    clear hkn
    go_upto_region 7 with (fail)
    go_cut [32] from 25 to 31 (fun vv wc => vv = .bool (decide (k < n ∧ t.2.1 = 0)) ∧ Aside0 (MS w wc g a0 t (.slice A5 l.length c5) l (.slice A6 L.length c6) L))
    case first =>
      as_aux_lemma =>
      by_cases hl : k < n
      · have b0 : decide ((k : Int) < (n : Int)) = true := decide_eq_true (by omega)
        have b1 : decide (k < n) = true := decide_eq_true hl
        by_cases he : t.2.1 = 0
        · have b2 : (t.2.1 != 0) = false := bne_eq_false_iff_eq.2 he
          have HV := Aside0.mk (decide_eq_true (And.intro hl he))
          clear hl he
          go_wp2_with (first | (go_at_call 70; refine (bad_any w _ g a0 t HM.out.ri).mono ?_; rintro e3 w4 ⟨rfl, hI4, hk4⟩; have H4 := Aside0.mk (HM.out.rd hI4 hk4); clear hI4 hk4) | go_in)
          go_meet
          case rel => exact ⟨by rw [HV.out], ⟨H4.out⟩⟩
        · have b2 : (t.2.1 != 0) = true := bne_iff_ne.2 he
          have HV := Aside0.mk (decide_eq_false (fun h : k < n ∧ t.2.1 = 0 => he h.2))
          clear hl he
          go_wp2_with (first | (go_at_call 70; refine (bad_any w _ g a0 t HM.out.ri).mono ?_; rintro e3 w4 ⟨rfl, hI4, hk4⟩; have H4 := Aside0.mk (HM.out.rd hI4 hk4); clear hI4 hk4) | go_in)
          go_meet
          case rel => exact ⟨by rw [HV.out], ⟨H4.out⟩⟩
      · have b0 : decide ((k : Int) < (n : Int)) = false := decide_eq_false (by omega)
        have b1 : decide (k < n) = false := decide_eq_false hl
        have HV := Aside0.mk (decide_eq_false (fun h : k < n ∧ t.2.1 = 0 => hl h.1))
        clear hl
        go_wp2_with fail
        go_meet
        case rel => exact ⟨by rw [HV.out], ⟨HM.out⟩⟩
    case rest =>
      obtain ⟨rfl, HC⟩ := hcut
      clear HM
      by_cases hc : k < n ∧ t.2.1 = 0
      · rw [decide_eq_true hc]
        have HCC := Aside0.mk hc
        obtain ⟨q, hq⟩ : ∃ q, n - k = q + 1 := ⟨n - k - 1, by omega⟩
        have HQ := Aside0.mk (show n - (k + 1) = q ∧ n - k = q + 1 by omega)
        have wk : wrap64 ((k : Int) + 1) = ((k + 1 : Nat) : Int) := by rw [← i64_w, IntKind.wrap_i64]; have := HNN.out; omega
        have WN := Aside0.mk (congrArg (Value.int IntKind.i64) wk)
        have WI := Aside0.mk wk
        clear hc hq wk
        as_aux_lemma =>
        go_upto_region 10 with (first | (go_at_call 71; refine (mone_any w _ g a0 t A1 c1 p A5 c5 l HO.out HC.out.ri (fun W_ hk_ => HR1.out W_ g HG2.out (HC.out.keep hk_)) HC1.out (fun W_ hk_ => HC.out.locC hk_) (Kd.R_reads' HC.out.loc).2.1 HP.out (by have := HL.out.1; have := HKN.out; have := HNN.out; omega)).mono ?_; rintro e7 w7 ⟨v1, v2, l1, l2, dl, rfl, hI7, h17, h27, ha7, hk7, hl17, hl27, hd7, he7⟩; obtain ⟨A8, c8, q8⟩ := Kd.R_slice h17; subst q8; obtain ⟨B8, d8, r8⟩ := Kd.R_slice h27; subst r8; have HB := Aside0.mk (HC.out.box hI7 h17 h27 ha7 hk7); have HL7 := Aside0.mk (And.intro hl17 (And.intro hl27 hd7)); have HE7 := Aside0.mk he7; clear hI7 h17 h27 ha7 hk7 hl17 hl27 hd7 he7; unfold frC) | go_in)
        generalize World.alloc w7 _ = w8 at *
        generalize w7.heap.size = bx at *
        obtain ⟨d0_8, d1_8, d2_8, df_8⟩ := HB.out.cells
        have e1 : wrap64 (dl + 1) = dl + 1 := by rw [← i64_w, IntKind.wrap_i64]; have := HL7.out.2.2; omega
        have e2 : wrap64 (pl + (dl + 1)) = pl + (dl + 1) := by rw [← i64_w, IntKind.wrap_i64]; have := HL7.out.2.2; have := HL.out.2.2; have := HKN.out; have := HNN.out; omega
        go_upto_region 12 with (fail)
        have HB9 := Aside0.mk (HB.out.set0 (pl + (dl + 1)))
        have HW := Aside0.mk e2
        clear d0_8 d1_8 d2_8 df_8 HB e1 e2
        generalize World.setCell w8 _ _ = w9 at *
        obtain ⟨d0_9, d1_9, d2_9, df_9⟩ := HB9.out.cells
        have HPP := Aside0.mk (show -1 ≤ pl + (dl + 1) ∧ pl + (dl + 1) ≤ 65537 * ((k + 1 : Nat) : Int) by have := HL7.out.2.2; have := HL.out.2.2; omega)
        have HT9 := Aside0.mk ((show Tells a0 p R (q + 1) L l pl t from HQ.out.2 ▸ HT.out).step HCC.out.2 HE7.out)
        have HO9 := Aside0.mk (OKR.one (p := p) (l := l) HO.out)
        clear HT HE7 HO HC
        generalize (oneM a0 p l t).t = t9 at *
        generalize pl + (dl + 1) = pn at *
        have HLA := Aside0.mk (show (L.length + 1) * 56 ≤ 140737488355328 by have := HL.out.2.1; have := HKN.out; have := HNN.out; omega)
        go_wp2_with (first | ((with_reducible refine gate_builtin (b := .append) (xs := #[.tmp 50, .tmp 52]) rfl ?_); at_builtin; refine Kd.S_append kF (w0 := w) w.heap.size rfl (.tmp 50) (.tmp 52) 43 80 _ 56 rfl Try.underlying43 info80 rfl (by decide) (by omega) (.slice A6 L.length c6) L (⟨pn, l1, l2⟩ : S80) [.int .i64 pn, .slice A8 l1.length c8, .slice B8 l2.length d8] (fun _ => True) (fun k => wc.heap.size ≤ k) rfl rfl HB9.out.elem (fun k hk => ⟨trivial, fun e => by have := HB9.out.cur k e.symm; omega⟩) (fun _ _ => trivial) HB9.out.out HB9.out.ri.2 HB9.out.ri.2.size HLA.out ?_; intro v10 w10 hr10 hb10 hg10 hat10) | go_in)
        have H10 := Aside0.mk (HB9.out.app hg10 hr10)
        clear hb10 hg10 hat10
        obtain ⟨A9, c9, e9⟩ := Kd.S_slice hr10
        rw [List.length_append, List.length_singleton] at e9
        subst e9
        clear hr10
        go_roundw
        case rel =>
          refine ⟨k + 1, l1, L ++ [⟨pn, l1, l2⟩], pn, t9, HCC.out.1, by first | exact WN.out | exact WI.out, congrArg (Value.int .i64) HW.out, H10, HO9, ⟨by have := HL7.out.1; have := HL.out.1; omega, by rw [List.length_append, HL.out.2.1]; rfl, HPP.out.1, HPP.out.2⟩, ⟨?_⟩⟩
          rw [HQ.out.1]
          exact HT9.out
        case measure => exact ms_valD HCC.out.1 WN.out
      · rw [decide_eq_false hc]
        have HEND : Aside0 (readD a0 p first = finR a0 L t ∨ (t.2.1 ≠ 0 ∧ readD a0 p first = finR a0 R.1 t)) := ⟨by
          by_cases hz : t.2.1 = 0
          · left
            rw [HRR.out, HT.out.1 hz]
            obtain rfl : k = n := by rcases Nat.lt_or_ge k n with h | h; (exact absurd ⟨h, hz⟩ hc); (have := HKN.out; omega)
            rw [Nat.sub_self]
            rfl
          · right
            exact ⟨hz, by rw [HRR.out, HT.out.2 hz]⟩⟩
        clear hc HT HRR
        by_cases hl : t.1 < (a0.size : Int)
        · have b0 : decide (0 < (a0.size : Int) - t.1) = true := decide_eq_true (by omega)
          have b1 : decide ((a0.size : Int) - t.1 > 0) = true := decide_eq_true (by omega)
          have b3 : decide (t.1 < (a0.size : Int)) = true := decide_eq_true hl
          have hz : (failR t 2 t.1).2.1 ≠ 0 := by
            unfold failR
            split
            · exact (by decide : (2 : Int) ≠ 0)
            · assumption
          have HRD : Aside0 (readD a0 p first = ([], (failR t 2 t.1).2.1, (failR t 2 t.1).2.2)) := ⟨by
            have h1 : ∀ L', finR a0 L' t = ([], (failR t 2 t.1).2.1, (failR t 2 t.1).2.2) := fun L' => by unfold finR; rw [if_pos hl, if_pos hz]
            rcases HEND.out with h | h
            · rw [h, h1]
            · rw [h.2, h1]⟩
          have z0 : ((failR t 2 t.1).2.1 != 0) = true := bne_iff_ne.2 hz
          clear hl hz HEND
          as_aux_lemma =>
          go_wp2_with (first | (go_at_call 72; refine (left_any w _ g a0 t HO.out HC.out.ri).mono ?_; rintro e2 w5 ⟨rfl, hI5, hk5⟩; have H5 := Aside0.mk (HC.out.rd hI5 hk5); clear hI5 hk5) | (go_at_call 66; refine (at_any w _ g a0 t H5.out.ri).mono ?_; rintro e3 w6 ⟨rfl, hI6, hk6⟩; have H6 := Aside0.mk (H5.out.rd hI6 hk6); clear hI6 hk6) | (go_at_call 73; refine (fail_any w _ g a0 t 2 t.1 H6.out.ri).mono ?_; rintro e9 w9 ⟨rfl, hI9, hk9⟩; have H9 := Aside0.mk (H6.out.rd hI9 hk9); clear hI9 hk9) | (go_at_call 65; refine (err_any w _ g a0 (failR t 2 t.1) H9.out.ri).mono ?_; rintro e10 w10 ⟨rfl, hI10, hk10⟩; have H10 := Aside0.mk (H9.out.rd hI10 hk10); clear hI10 hk10) | go_in)
          go_ret3
          rw [HRD.out]
          exact ⟨_, rfl, Kd.S_nil _ _ _ _ _, H10.out.ri.2⟩
        · have b0 : decide (0 < (a0.size : Int) - t.1) = false := decide_eq_false (by omega)
          have b1 : decide ((a0.size : Int) - t.1 > 0) = false := decide_eq_false (by omega)
          have b3 : decide (t.1 < (a0.size : Int)) = false := decide_eq_false hl
          by_cases hz : t.2.1 = 0
          · have z0 : (t.2.1 != 0) = false := bne_eq_false_iff_eq.2 hz
            have HRD : Aside0 (readD a0 p first = (L, 0, 0)) := ⟨by
              rcases HEND.out with h | h
              · rw [h]; unfold finR; rw [if_neg hl, if_neg (fun e => e hz)]
              · exact absurd hz h.1⟩
            clear hl hz HEND
            as_aux_lemma =>
            go_wp2_with (first | (go_at_call 72; refine (left_any w _ g a0 t HO.out HC.out.ri).mono ?_; rintro e2 w5 ⟨rfl, hI5, hk5⟩; have H5 := Aside0.mk (HC.out.rd hI5 hk5); clear hI5 hk5) | (go_at_call 65; refine (err_any w _ g a0 t H5.out.ri).mono ?_; rintro e10 w10 ⟨rfl, hI10, hk10⟩; have H10 := Aside0.mk (H5.out.rd hI10 hk10); clear hI10 hk10) | go_in)
            go_ret3
            rw [HRD.out]
            exact ⟨_, rfl, H10.out.out, H10.out.ri.2⟩
          · have z0 : (t.2.1 != 0) = true := bne_iff_ne.2 hz
            have HRD : Aside0 (readD a0 p first = ([], t.2.1, t.2.2)) := ⟨by
              have h1 : ∀ L', finR a0 L' t = ([], t.2.1, t.2.2) := fun L' => by unfold finR; rw [if_neg hl, if_pos hz]
              rcases HEND.out with h | h
              · rw [h, h1]
              · rw [h.2, h1]⟩
            clear hl hz HEND
            as_aux_lemma =>
            go_wp2_with (first | (go_at_call 72; refine (left_any w _ g a0 t HO.out HC.out.ri).mono ?_; rintro e2 w5 ⟨rfl, hI5, hk5⟩; have H5 := Aside0.mk (HC.out.rd hI5 hk5); clear hI5 hk5) | (go_at_call 65; refine (err_any w _ g a0 t H5.out.ri).mono ?_; rintro e10 w10 ⟨rfl, hI10, hk10⟩; have H10 := Aside0.mk (H5.out.rd hI10 hk10); clear hI10 hk10) | go_in)
            go_ret3
            rw [HRD.out]
            exact ⟨_, rfl, Kd.S_nil _ _ _ _ _, H10.out.ri.2⟩
end Go.Proofs.Ytfnjbmpolggdeaa.MD
end
section
namespace Go.Proofs.Ytfnjbmpolggdeaa.MD.RR
open Go.RowKit Go.Lib Go.Proofs.YtfnjbmpolggdeaaW.PrintWords Go.Proofs.YtfnjbmpolggdeaaW.PrintLast Go.Proofs.YtfnjbmpolggdeaaW.PrintMore
attribute [local go_sem] max2_int min2_int max_two min_two max_three min_three max_four min_four
set_option linter.unusedVariables false
set_option linter.unusedSimpArgs false
theorem list_f {l : List S54} (h : l.length ≤ 1000000) : jvmcoreref3_list.f l = some l := by
  unfold jvmcoreref3_list.f
  rw [if_pos (by rw [List.length_nil]; omega)]
  rfl
theorem failN (t : RdS) {e : Int} (p : Int) (he : e ≠ 0) : (failR t e p).2.1 ≠ 0 := by
  unfold failR
  split
  · exact he
  · assumption
set_option maxHeartbeats 40000000 in
set_option maxRecDepth 100000 in
theorem readMap_any (a0 : ByteArray) (A1 : Option Addr) (c1 : Nat) (p : List S37) (A2 : Option Addr) (c2 : Nat) (first : List S54) (w : World) (hs : a0.size ≤ 65535) (hfl : first.length ≤ 65536)
    (hr1 : ∀ W_ g, w.heap.size ≤ g → KeepBut w W_ g none → Kd.C k37 W_ A1 p.length p) (hc1 : p.length ≤ c1) (hr2 : ∀ W_ g, w.heap.size ≤ g → KeepBut w W_ g none → Kd.C k54 W_ A2 first.length first) (hc2 : first.length ≤ c2) (hp : ∀ c ∈ p, okC39 c) :
    Calls Try.prog 35 #[.string a0, .slice A1 p.length c1, .slice A2 first.length c2] w fun e w' => ∃ v0_, e = .returned (.tuple #[v0_, .int .i64 (readD a0 p first).2.1, .int .i64 (readD a0 p first).2.2]) ∧ Kd.S kF 80 w' w.heap.size (fun _ => True) v0_ (readD a0 p first).1 ∧ Below w.heap.size w w' := by
  have HP := Aside0.mk hp
  have HR1 := Aside0.mk hr1
  have HC1 := Aside0.mk hc1
  have HC2 := Aside0.mk (And.intro hr2 hc2)
  have HN := Aside0.mk (And.intro hs hfl)
  have HO0 := Aside0.mk (show OKR a0 ((0, 0, 0) : RdS) from ⟨Int.le_refl _, Int.natCast_nonneg _, hs⟩)
  have HRN := Aside0.mk (num2_lt a0 (0, 0, 0))
  have hB := below_alloc (Below.refl w.heap.size w) (.cells #[.string a0, .int .i64 0, .int .i64 0, .int .i64 0] 110)
  have HI1 := Aside0.mk (show RI w (w.alloc (.cells #[.string a0, .int .i64 0, .int .i64 0, .int .i64 0] 110)) w.heap.size a0 (0, 0, 0) from ⟨IsS110.new w w a0 0 0 0 (Below.refl _ _), hB⟩)
  clear hp hr1 hc1 hr2 hc2 hs hfl hB
  go_enter Try.func35, Try.ntmps35
  go_upto_region 4 with (first | (go_at_call 74; refine (num_any w _ w.heap.size a0 (0, 0, 0) 2 2 rfl (by decide) HO0.out HI1.out).mono ?_; rintro e2 w2 ⟨rfl, hI2, hk2⟩; have HI2 := Aside0.mk hI2; clear hI2 hk2) | go_in)
  have H0 := Aside0.mk (show MS w w2 w.heap.size a0 (numR a0 (0, 0, 0) 2).2 (.slice A2 first.length c2) first (.slice none 0 0) [] from ⟨HI2.out, .inr ⟨A2, c2, rfl, HC2.out.2, HC2.out.1⟩, Kd.S_nil _ _ _ _ _⟩)
  have HO1 := Aside0.mk (HO0.out.num 2)
  have HG := Aside0.mk (Nat.le_refl w.heap.size)
  clear HI1 HI2
  obtain ⟨g, hg0⟩ : ∃ g, w.heap.size = g := ⟨_, rfl⟩
  replace H0 := Aside0.mk (show MS w w2 g a0 (numR a0 (0, 0, 0) 2).2 (.slice A2 first.length c2) first (.slice none 0 0) [] from hg0 ▸ H0.out)
  replace HG := Aside0.mk (show w.heap.size ≤ g from hg0 ▸ Nat.le_refl _)
  rw [hg0]
  clear hg0
  obtain ⟨n, hn⟩ : ∃ n : Nat, (numR a0 (0, 0, 0) 2).1 = (n : Int) := ⟨_, (Int.toNat_of_nonneg HRN.out.1).symm⟩
  have HNN := Aside0.mk (show n ≤ 65535 by have := HRN.out; omega)
  have HRR := Aside0.mk (show readD a0 p first = finR a0 (frmD a0 p n [] first (-1) (numR a0 (0, 0, 0) 2).2).1 (frmD a0 p n [] first (-1) (numR a0 (0, 0, 0) 2).2).2 by unfold readD; rw [hn, Int.toNat_natCast])
  rw [hn]
  clear hn
  generalize (numR a0 (0, 0, 0) 2).2 = t0 at *
  have HT0 := Aside0.mk (show Tells a0 p (frmD a0 p n [] first (-1) t0) n [] first (-1) t0 from ⟨fun _ => rfl, fun h => by rw [frm_stuck h]⟩)
  generalize frmD a0 p n [] first (-1) t0 = R at *
  clear HRN
  go_upto_region 6 with (fail)
  go_loopw [10, 11, 12, 13] (fun i vl vp v wr => ∃ (r : Nat) (l : List S54) (L : List S80) (pl : Int) (t : RdS), r ≤ n ∧ i = .int .i64 (r : Int) ∧ vp = .int .i64 pl ∧ Aside0 (MS w wr g a0 t vl l v L) ∧ Aside0 (OKR a0 t) ∧ Aside0 (l.length ≤ 65536 + 4 * (n - r) ∧ L.length + r = n ∧ -1 ≤ pl ∧ pl ≤ 65537 * ((n - r : Nat) : Int)) ∧ Aside0 (Tells a0 p R r L l pl t)) (fun i _ _ _ _ => (intOf i).toNat)
  case atStart => exact ⟨n, first, [], -1, t0, Nat.le_refl _, rfl, rfl, H0, HO1, ⟨by have := HN.out.2; omega, by simp, Int.le_refl _, by omega⟩, HT0⟩
  case round =>
    clear H0 HO1 HT0 HO0
    obtain ⟨r, l, L, pl, t, hrn, rfl, rfl, HM, HO, HL, HT⟩ := hrel
    obtain ⟨A5, c5, q5, hc5⟩ := HM.out.locS
    subst q5
    obtain ⟨A6, c6, q6⟩ := Kd.S_slice HM.out.out
    subst q6
    have HKN := Aside0.mk hrn
    have HC5 := Aside0.mk hc5
    clear hrn hc5
    have c2_0 := HM.out.ri.c2
    go_upto_region 6 with (fail)
    go_cut [33] from 25 to 32 (fun vv wc => vv = .bool (decide (0 < r ∧ t.2.1 = 0)) ∧ Aside0 (MS w wc g a0 t (.slice A5 l.length c5) l (.slice A6 L.length c6) L))
    case first =>
      as_aux_lemma =>
      by_cases hl : 0 < r
      · have b0 : decide ((r : Int) > 0) = true := decide_eq_true (by omega)
        have b0b : decide ((0 : Int) < (r : Int)) = true := decide_eq_true (by omega)
        have b1 : decide (0 < r) = true := decide_eq_true hl
        by_cases he : t.2.1 = 0
        · have b2 : (t.2.1 == 0) = true := beq_iff_eq.2 he
          have HV := Aside0.mk (decide_eq_true (And.intro hl he))
          clear hl he
          go_wp2_with fail
          go_meet
          case rel => exact ⟨by rw [HV.out], ⟨HM.out⟩⟩
        · have b2 : (t.2.1 == 0) = false := beq_eq_false_iff_ne.2 he
          have HV := Aside0.mk (decide_eq_false (fun h : 0 < r ∧ t.2.1 = 0 => he h.2))
          clear hl he
          go_wp2_with fail
          go_meet
          case rel => exact ⟨by rw [HV.out], ⟨HM.out⟩⟩
      · have b0 : decide ((r : Int) > 0) = false := decide_eq_false (by omega)
        have b0b : decide ((0 : Int) < (r : Int)) = false := decide_eq_false (by omega)
        have b1 : decide (0 < r) = false := decide_eq_false hl
        have HV := Aside0.mk (decide_eq_false (fun h : 0 < r ∧ t.2.1 = 0 => hl h.1))
        clear hl
        go_wp2_with fail
        go_meet
        case rel => exact ⟨by rw [HV.out], ⟨HM.out⟩⟩
    case rest =>
      obtain ⟨rfl, HC⟩ := hcut
      clear HM c2_0
      by_cases hc : 0 < r ∧ t.2.1 = 0
      · rw [decide_eq_true hc]
        have HCC := Aside0.mk hc
        obtain ⟨q, hq⟩ : ∃ q, r = q + 1 := ⟨r - 1, by omega⟩
        have HQ := Aside0.mk (show q + 1 = r ∧ r = q + 1 ∧ q ≤ n ∧ q < r from ⟨hq.symm, hq, by have := HKN.out; omega, by omega⟩)
        have wk : wrap64 ((r : Int) - 1) = (q : Int) := by rw [← i64_w, IntKind.wrap_i64]; have := HNN.out; have := HKN.out; omega
        have WN := Aside0.mk (congrArg (Value.int IntKind.i64) wk)
        have WI := Aside0.mk wk
        have HLS := Aside0.mk (list_f (l := l) (by have := HL.out.1; have := HNN.out; omega))
        have c1_1 := HC.out.ri.c1
        clear hc hq wk
        as_aux_lemma =>
        go_upto_region 10 with (first | (go_at_call 74; refine (num_any w _ g a0 t 1 1 rfl (by decide) HO.out HC.out.ri).mono ?_; rintro e4 w4 ⟨rfl, hI4, hk4⟩; have H4 := Aside0.mk (HC.out.rd hI4 hk4); clear hI4 hk4) | go_in)
        clear c1_1 HC
        go_upto_region 11 with (first | (go_at_call 75; refine (jvmcoreref3_list.calls A5 c5 l l _ (H4.out.locC (KeepBut.refl _ _ _)) HC5.out HLS.out).mono ?_; rintro e5 w5 ⟨v5, rfl, hR5, hb5⟩; obtain ⟨A7, c7, q7⟩ := Kd.R_slice hR5; subst q7) | go_in)
        have H6 := Aside0.mk (H4.out.box hR5 hb5)
        clear hR5 hb5 H4
        generalize World.alloc _ _ = W6 at *
        generalize w5.heap.size = bx at *
        obtain ⟨d0_6, d1_6, d2_6, df_6⟩ := H6.out.cells
        have HO5 := Aside0.mk (HO.out.num 1)
        obtain ⟨a, ha⟩ : ∃ a, (numR a0 t 1).1 = a := ⟨_, rfl⟩
        have HA := Aside0.mk ha
        have HRA := Aside0.mk (show 0 ≤ a ∧ a < 256 by rw [← ha]; exact num1_lt a0 t)
        rw [ha]
        clear ha
        by_cases h64 : a < 64
        · have g64 : decide (a ≥ 64) = false := decide_eq_false (by omega)
          have gg64 : decide (64 ≤ a) = false := decide_eq_false (by omega)
          have g247 : decide (a ≥ 247) = false := decide_eq_false (by omega)
          have gg247 : decide (247 ≤ a) = false := decide_eq_false (by omega)
          have s64 : decide (a < 64) = true := decide_eq_true (by omega)
          have HM1 := Aside0.mk (show oneM a0 p l t = ⟨l, [], a, (numR a0 t 1).2⟩ by unfold oneM; rw [HA.out, if_pos h64])
          clear h64
          go_upto_region 30 with (fail)
          have HDR := Aside0.mk (show 0 ≤ a ∧ a ≤ 65536 by have := HRA.out; exact ⟨this.1, by omega⟩)
          have HT9 := Aside0.mk ((show Tells a0 p R (q + 1) L l pl t from HQ.out.2.1 ▸ HT.out).step (l1 := l) (l2 := []) (d := a) HCC.out.2 (by rw [HM1.out]; exact fun _ => ⟨rfl, rfl, rfl⟩))
          have HO9 := Aside0.mk (OKR.one (p := p) (l := l) HO.out)
          rw [HM1.out] at HT9 HO9
          have HLN1 := Aside0.mk (show (l).length ≤ l.length + 4 ∨ (l).length ≤ 65536 by exact .inl (by omega))
          clear HT HO
          obtain ⟨dd, hdd⟩ : ∃ dd, a = dd := ⟨_, rfl⟩
          rw [hdd] at HT9 HDR
          try rw [hdd]
          clear hdd
          have e1 : wrap64 (1 + dd) = dd + 1 := by rw [← i64_w, IntKind.wrap_i64]; have := HDR.out; omega
          have e2 : wrap64 (pl + (dd + 1)) = pl + (dd + 1) := by rw [← i64_w, IntKind.wrap_i64]; have := HDR.out; have := HL.out.2.2; have := HKN.out; have := HNN.out; omega
          have HPP := Aside0.mk (show -1 ≤ pl + (dd + 1) ∧ pl + (dd + 1) ≤ 65537 * ((n - q : Nat) : Int) by have := HDR.out; have := HL.out.2.2; have := HQ.out; have := HKN.out; omega)
          have HW := Aside0.mk e2
          go_upto_region 32 with (fail)
          have HX := Aside0.mk (H6.out.set0 (pl + (dd + 1)))
          clear d0_6 d1_6 d2_6 df_6
          clear H6 e1 e2
          generalize World.setCell _ ⟨bx, 0, none⟩ _ = WX at *
          obtain ⟨d0_x, d1_x, d2_x, df_x⟩ := HX.out.cells
          generalize pl + (dd + 1) = pn at *
          have HLA := Aside0.mk (show (L.length + 1) * 56 ≤ 140737488355328 by have := HL.out.2.1; have := HNN.out; omega)
          go_wp2_with (first | ((with_reducible refine gate_builtin (b := .append) (xs := #[.tmp 140, .tmp 142]) rfl ?_); at_builtin; refine Kd.S_append kF (w0 := w) w.heap.size rfl (.tmp 140) (.tmp 142) 43 80 _ 56 rfl Try.underlying43 info80 rfl (by decide) (by omega) (.slice A6 L.length c6) L (⟨pn, l, []⟩ : S80) [.int .i64 pn, (.slice A7 l.length c7), (.slice none 0 0)] (fun _ => True) (fun k => w4.heap.size ≤ k) rfl rfl HX.out.elem (fun k hk => ⟨trivial, fun e => by have := HX.out.cur k e.symm; omega⟩) (fun _ _ => trivial) HX.out.out HX.out.ri.2 HX.out.ri.2.size HLA.out ?_; intro v10 w10 hr10 hb10 hg10 hat10) | go_in)
          have H10 := Aside0.mk (HX.out.app hg10 hr10)
          clear hb10 hg10 hat10
          obtain ⟨A9, c9, e9⟩ := Kd.S_slice hr10
          rw [List.length_append, List.length_singleton] at e9
          subst e9
          clear hr10
          go_roundw
          case rel => exact ⟨q, _, L ++ [⟨pn, l, []⟩], pn, _, HQ.out.2.2.1, by first | exact WN.out | exact WI.out, by first | rfl | exact congrArg (Value.int .i64) HW.out, H10, HO9, ⟨by have := HLN1.out; have := HL.out.1; have := HQ.out; have := HKN.out; omega, by rw [List.length_append, List.length_singleton]; have := HL.out.2.1; have := HQ.out; omega, HPP.out.1, HPP.out.2⟩, HT9⟩
          case measure => exact ms_down ⟨WN.out, HQ.out.2.2.2⟩
        · by_cases h128 : a < 128
          · have g64 : decide (a ≥ 64) = true := decide_eq_true (by omega)
            have gg64 : decide (64 ≤ a) = true := decide_eq_true (by omega)
            have s128 : decide (a < 128) = true := decide_eq_true (by omega)
            have g247 : decide (a ≥ 247) = false := decide_eq_false (by omega)
            have gg247 : decide (247 ≤ a) = false := decide_eq_false (by omega)
            have s64 : decide (a < 64) = false := decide_eq_false (by omega)
            have q251 : (a == 251) = false := beq_eq_false_iff_ne.2 (by omega)
            have hwd : wrap64 (a - 64) = a - 64 := by rw [← i64_w, IntKind.wrap_i64]; have := HRA.out; omega
            have HM1 := Aside0.mk (show oneM a0 p l t = ⟨l, (valD a0 p 1 [] (numR a0 t 1).2).1, a - 64, (valD a0 p 1 [] (numR a0 t 1).2).2⟩ by unfold oneM; rw [HA.out, if_neg h64, if_pos h128])
            have HR2 := Aside0.mk (show 0 ≤ a - 64 ∧ a - 64 ≤ 65536 by have := HRA.out; omega)
            clear h64 h128
            go_upto_region 30 with (first | (go_at_call 76; refine (values_any w _ g a0 (numR a0 t 1).2 A1 c1 p 1 (by decide) HO5.out H6.out.ri (fun W_ hk_ => HR1.out W_ g HG.out (H6.out.keep hk_)) HC1.out HP.out).mono ?_; rintro e7 w7 ⟨v7, lc7, rfl, hV7, hl7, hz7⟩; obtain ⟨B7, k7, q7⟩ := Kd.R_slice hV7.row; subst q7; have HV7 := Aside0.mk hV7; have HL7 := Aside0.mk (And.intro hl7 hz7); have H7 := Aside0.mk (H6.out.rd hV7.ri hV7.kept); obtain ⟨d0_7, d1_7, d2_7, df_7⟩ := H7.out.cells; clear hV7 hl7 hz7) | go_in)
            clear d0_6 d1_6 d2_6 df_6
            have H8 := Aside0.mk (H7.out.put 2 (.slice B7 lc7.length k7) (u1 := (.slice A7 l.length c7)) (u2 := .slice B7 lc7.length k7) rfl H7.out.r1 (Kd.R_lower HV7.out.row H6.out.wcl) (fun k_ e1 e2 => by have := Kd.R_lt H6.out.r1 k_ e1; have := Kd.R_base HV7.out.row k_ e2; omega))
            clear d0_7 d1_7 d2_7 df_7
            generalize World.setCell _ ⟨bx, 2, none⟩ _ = W8 at *
            obtain ⟨d0_8, d1_8, d2_8, df_8⟩ := H8.out.cells
            try rw [hwd]
            clear hwd
            have HDR := Aside0.mk (show 0 ≤ a - 64 ∧ a - 64 ≤ 65536 by exact HR2.out)
            have HT9 := Aside0.mk ((show Tells a0 p R (q + 1) L l pl t from HQ.out.2.1 ▸ HT.out).step (l1 := l) (l2 := lc7) (d := a - 64) HCC.out.2 (by rw [HM1.out]; exact fun h0 => ⟨rfl, HL7.out.2 h0, rfl⟩))
            have HO9 := Aside0.mk (OKR.one (p := p) (l := l) HO.out)
            rw [HM1.out] at HT9 HO9
            have HLN1 := Aside0.mk (show (l).length ≤ l.length + 4 ∨ (l).length ≤ 65536 by exact .inl (by omega))
            clear HT HO
            obtain ⟨dd, hdd⟩ : ∃ dd, a - 64 = dd := ⟨_, rfl⟩
            rw [hdd] at HT9 HDR
            try rw [hdd]
            clear hdd
            have e1 : wrap64 (1 + dd) = dd + 1 := by rw [← i64_w, IntKind.wrap_i64]; have := HDR.out; omega
            have e2 : wrap64 (pl + (dd + 1)) = pl + (dd + 1) := by rw [← i64_w, IntKind.wrap_i64]; have := HDR.out; have := HL.out.2.2; have := HKN.out; have := HNN.out; omega
            have HPP := Aside0.mk (show -1 ≤ pl + (dd + 1) ∧ pl + (dd + 1) ≤ 65537 * ((n - q : Nat) : Int) by have := HDR.out; have := HL.out.2.2; have := HQ.out; have := HKN.out; omega)
            have HW := Aside0.mk e2
            go_upto_region 32 with (fail)
            have HX := Aside0.mk (H8.out.set0 (pl + (dd + 1)))
            clear d0_8 d1_8 d2_8 df_8
            clear H8 e1 e2
            generalize World.setCell _ ⟨bx, 0, none⟩ _ = WX at *
            obtain ⟨d0_x, d1_x, d2_x, df_x⟩ := HX.out.cells
            generalize pl + (dd + 1) = pn at *
            have HLA := Aside0.mk (show (L.length + 1) * 56 ≤ 140737488355328 by have := HL.out.2.1; have := HNN.out; omega)
            go_wp2_with (first | ((with_reducible refine gate_builtin (b := .append) (xs := #[.tmp 140, .tmp 142]) rfl ?_); at_builtin; refine Kd.S_append kF (w0 := w) w.heap.size rfl (.tmp 140) (.tmp 142) 43 80 _ 56 rfl Try.underlying43 info80 rfl (by decide) (by omega) (.slice A6 L.length c6) L (⟨pn, l, lc7⟩ : S80) [.int .i64 pn, (.slice A7 l.length c7), (.slice B7 lc7.length k7)] (fun _ => True) (fun k => w4.heap.size ≤ k) rfl rfl HX.out.elem (fun k hk => ⟨trivial, fun e => by have := HX.out.cur k e.symm; omega⟩) (fun _ _ => trivial) HX.out.out HX.out.ri.2 HX.out.ri.2.size HLA.out ?_; intro v10 w10 hr10 hb10 hg10 hat10) | go_in)
            have H10 := Aside0.mk (HX.out.app hg10 hr10)
            clear hb10 hg10 hat10
            obtain ⟨A9, c9, e9⟩ := Kd.S_slice hr10
            rw [List.length_append, List.length_singleton] at e9
            subst e9
            clear hr10
            go_roundw
            case rel => exact ⟨q, _, L ++ [⟨pn, l, lc7⟩], pn, _, HQ.out.2.2.1, by first | exact WN.out | exact WI.out, by first | rfl | exact congrArg (Value.int .i64) HW.out, H10, HO9, ⟨by have := HLN1.out; have := HL.out.1; have := HQ.out; have := HKN.out; omega, by rw [List.length_append, List.length_singleton]; have := HL.out.2.1; have := HQ.out; omega, HPP.out.1, HPP.out.2⟩, HT9⟩
            case measure => exact ms_down ⟨WN.out, HQ.out.2.2.2⟩
          · by_cases h247 : a < 247
            · have g64 : decide (a ≥ 64) = true := decide_eq_true (by omega)
              have gg64 : decide (64 ≤ a) = true := decide_eq_true (by omega)
              have s128 : decide (a < 128) = false := decide_eq_false (by omega)
              have g247 : decide (a ≥ 247) = false := decide_eq_false (by omega)
              have gg247 : decide (247 ≤ a) = false := decide_eq_false (by omega)
              have s64 : decide (a < 64) = false := decide_eq_false (by omega)
              have q251 : (a == 251) = false := beq_eq_false_iff_ne.2 (by omega)
              have q247 : (a == 247) = false := beq_eq_false_iff_ne.2 (by omega)
              have s247 : decide (a < 247) = true := decide_eq_true (by omega)
              have HM1 := Aside0.mk (show oneM a0 p l t = ⟨l, [], 0, failR (numR a0 t 1).2 17 t.1⟩ by unfold oneM; rw [HA.out, if_neg h64, if_neg h128, if_pos h247])
              clear h64 h128 h247
              go_upto_region 30 with (first | (go_at_call 77; refine (fail_any w _ g a0 (numR a0 t 1).2 17 t.1 H6.out.ri).mono ?_; rintro e7 w7 ⟨rfl, hI7, hk7⟩; have H7 := Aside0.mk (H6.out.rd hI7 hk7); obtain ⟨d0_7, d1_7, d2_7, df_7⟩ := H7.out.cells; clear hI7 hk7) | go_in)
              clear d0_6 d1_6 d2_6 df_6
              have HDR := Aside0.mk (show 0 ≤ a ∧ a ≤ 65536 by have := HRA.out; exact ⟨this.1, by omega⟩)
              have HT9 := Aside0.mk ((show Tells a0 p R (q + 1) L l pl t from HQ.out.2.1 ▸ HT.out).step (l1 := l) (l2 := []) (d := a) HCC.out.2 (by rw [HM1.out]; exact fun h0 => absurd h0 (failN _ _ (by decide))))
              have HO9 := Aside0.mk (OKR.one (p := p) (l := l) HO.out)
              rw [HM1.out] at HT9 HO9
              have HLN1 := Aside0.mk (show (l).length ≤ l.length + 4 ∨ (l).length ≤ 65536 by exact .inl (by omega))
              clear HT HO
              obtain ⟨dd, hdd⟩ : ∃ dd, a = dd := ⟨_, rfl⟩
              rw [hdd] at HT9 HDR
              try rw [hdd]
              clear hdd
              have e1 : wrap64 (1 + dd) = dd + 1 := by rw [← i64_w, IntKind.wrap_i64]; have := HDR.out; omega
              have e2 : wrap64 (pl + (dd + 1)) = pl + (dd + 1) := by rw [← i64_w, IntKind.wrap_i64]; have := HDR.out; have := HL.out.2.2; have := HKN.out; have := HNN.out; omega
              have HPP := Aside0.mk (show -1 ≤ pl + (dd + 1) ∧ pl + (dd + 1) ≤ 65537 * ((n - q : Nat) : Int) by have := HDR.out; have := HL.out.2.2; have := HQ.out; have := HKN.out; omega)
              have HW := Aside0.mk e2
              go_upto_region 32 with (fail)
              have HX := Aside0.mk (H7.out.set0 (pl + (dd + 1)))
              clear d0_7 d1_7 d2_7 df_7
              clear H7 e1 e2
              generalize World.setCell _ ⟨bx, 0, none⟩ _ = WX at *
              obtain ⟨d0_x, d1_x, d2_x, df_x⟩ := HX.out.cells
              generalize pl + (dd + 1) = pn at *
              have HLA := Aside0.mk (show (L.length + 1) * 56 ≤ 140737488355328 by have := HL.out.2.1; have := HNN.out; omega)
              go_wp2_with (first | ((with_reducible refine gate_builtin (b := .append) (xs := #[.tmp 140, .tmp 142]) rfl ?_); at_builtin; refine Kd.S_append kF (w0 := w) w.heap.size rfl (.tmp 140) (.tmp 142) 43 80 _ 56 rfl Try.underlying43 info80 rfl (by decide) (by omega) (.slice A6 L.length c6) L (⟨pn, l, []⟩ : S80) [.int .i64 pn, (.slice A7 l.length c7), (.slice none 0 0)] (fun _ => True) (fun k => w4.heap.size ≤ k) rfl rfl HX.out.elem (fun k hk => ⟨trivial, fun e => by have := HX.out.cur k e.symm; omega⟩) (fun _ _ => trivial) HX.out.out HX.out.ri.2 HX.out.ri.2.size HLA.out ?_; intro v10 w10 hr10 hb10 hg10 hat10) | go_in)
              have H10 := Aside0.mk (HX.out.app hg10 hr10)
              clear hb10 hg10 hat10
              obtain ⟨A9, c9, e9⟩ := Kd.S_slice hr10
              rw [List.length_append, List.length_singleton] at e9
              subst e9
              clear hr10
              go_roundw
              case rel => exact ⟨q, _, L ++ [⟨pn, l, []⟩], pn, _, HQ.out.2.2.1, by first | exact WN.out | exact WI.out, by first | rfl | exact congrArg (Value.int .i64) HW.out, H10, HO9, ⟨by have := HLN1.out; have := HL.out.1; have := HQ.out; have := HKN.out; omega, by rw [List.length_append, List.length_singleton]; have := HL.out.2.1; have := HQ.out; omega, HPP.out.1, HPP.out.2⟩, HT9⟩
              case measure => exact ms_down ⟨WN.out, HQ.out.2.2.2⟩
            · have g64 : decide (a ≥ 64) = true := decide_eq_true (by omega)
              have gg64 : decide (64 ≤ a) = true := decide_eq_true (by omega)
              have s128 : decide (a < 128) = false := decide_eq_false (by omega)
              have g247 : decide (a ≥ 247) = true := decide_eq_true (by omega)
              have gg247 : decide (247 ≤ a) = true := decide_eq_true (by omega)
              have HC_ := Aside0.mk (And.intro h64 (And.intro h128 h247))
              have HO6 := Aside0.mk (HO5.out.num 2)
              have HRD := Aside0.mk (num2_lt a0 (numR a0 t 1).2)
              go_upto_region 18 with (first | (go_at_call 74; refine (num_any w _ g a0 (numR a0 t 1).2 2 2 rfl (by decide) HO5.out H6.out.ri).mono ?_; rintro e7 w7 ⟨rfl, hI7, hk7⟩; have H7 := Aside0.mk (H6.out.rd hI7 hk7); obtain ⟨d0_7, d1_7, d2_7, df_7⟩ := H7.out.cells; clear hI7 hk7) | go_in)
              clear d0_6 d1_6 d2_6 df_6
              clear g64 gg64 s128 g247 gg247
              have s64 : decide (a < 64) = false := decide_eq_false (by omega)
              have s128 : decide (a < 128) = false := decide_eq_false (by omega)
              have s247 : decide (a < 247) = false := decide_eq_false (by omega)
              clear h64 h128 h247
              by_cases h4 : a = 247
              · have q251 : (a == 251) = false := beq_eq_false_iff_ne.2 (by omega)
                have q247 : (a == 247) = true := beq_iff_eq.2 (by omega)
                have HM1 := Aside0.mk (show oneM a0 p l t = ⟨l, (valD a0 p 1 [] (numR a0 (numR a0 t 1).2 2).2).1, (numR a0 (numR a0 t 1).2 2).1, (valD a0 p 1 [] (numR a0 (numR a0 t 1).2 2).2).2⟩ by unfold oneM; rw [HA.out, if_neg (by have := HC_.out; omega), if_neg (by have := HC_.out; omega), if_neg (by have := HC_.out; omega), if_pos h4])
                clear h4
                go_upto_region 30 with (first | (go_at_call 76; refine (values_any w _ g a0 (numR a0 (numR a0 t 1).2 2).2 A1 c1 p 1 (by decide) HO6.out H7.out.ri (fun W_ hk_ => HR1.out W_ g HG.out (H7.out.keep hk_)) HC1.out HP.out).mono ?_; rintro e8 w8 ⟨v8, lc8, rfl, hV8, hl8, hz8⟩; obtain ⟨A8, k8, q8⟩ := Kd.R_slice hV8.row; subst q8; have HV8 := Aside0.mk hV8; have HL8 := Aside0.mk (And.intro hl8 hz8); have H8 := Aside0.mk (H7.out.rd hV8.ri hV8.kept); obtain ⟨d0_8, d1_8, d2_8, df_8⟩ := H8.out.cells; clear hV8 hl8 hz8) | go_in)
                clear d0_7 d1_7 d2_7 df_7
                have H9 := Aside0.mk (H8.out.put 2 (.slice A8 lc8.length k8) (u1 := (.slice A7 l.length c7)) (u2 := .slice A8 lc8.length k8) rfl H8.out.r1 (Kd.R_lower HV8.out.row H7.out.wcl) (fun k_ e1 e2 => by have := Kd.R_lt H7.out.r1 k_ e1; have := Kd.R_base HV8.out.row k_ e2; omega))
                clear d0_8 d1_8 d2_8 df_8
                generalize World.setCell _ ⟨bx, 2, none⟩ _ = W9 at *
                obtain ⟨d0_9, d1_9, d2_9, df_9⟩ := H9.out.cells
                have HDR := Aside0.mk (show 0 ≤ (numR a0 (numR a0 t 1).2 2).1 ∧ (numR a0 (numR a0 t 1).2 2).1 ≤ 65536 by have := HRD.out; exact ⟨this.1, by omega⟩)
                have HT9 := Aside0.mk ((show Tells a0 p R (q + 1) L l pl t from HQ.out.2.1 ▸ HT.out).step (l1 := l) (l2 := lc8) (d := (numR a0 (numR a0 t 1).2 2).1) HCC.out.2 (by rw [HM1.out]; exact fun h0 => ⟨rfl, HL8.out.2 h0, rfl⟩))
                have HO9 := Aside0.mk (OKR.one (p := p) (l := l) HO.out)
                rw [HM1.out] at HT9 HO9
                have HLN1 := Aside0.mk (show (l).length ≤ l.length + 4 ∨ (l).length ≤ 65536 by exact .inl (by omega))
                clear HT HO
                obtain ⟨dd, hdd⟩ : ∃ dd, (numR a0 (numR a0 t 1).2 2).1 = dd := ⟨_, rfl⟩
                rw [hdd] at HT9 HDR
                try rw [hdd]
                clear hdd
                have e1 : wrap64 (1 + dd) = dd + 1 := by rw [← i64_w, IntKind.wrap_i64]; have := HDR.out; omega
                have e2 : wrap64 (pl + (dd + 1)) = pl + (dd + 1) := by rw [← i64_w, IntKind.wrap_i64]; have := HDR.out; have := HL.out.2.2; have := HKN.out; have := HNN.out; omega
                have HPP := Aside0.mk (show -1 ≤ pl + (dd + 1) ∧ pl + (dd + 1) ≤ 65537 * ((n - q : Nat) : Int) by have := HDR.out; have := HL.out.2.2; have := HQ.out; have := HKN.out; omega)
                have HW := Aside0.mk e2
                go_upto_region 32 with (fail)
                have HX := Aside0.mk (H9.out.set0 (pl + (dd + 1)))
                clear d0_9 d1_9 d2_9 df_9
                clear H9 e1 e2
                generalize World.setCell _ ⟨bx, 0, none⟩ _ = WX at *
                obtain ⟨d0_x, d1_x, d2_x, df_x⟩ := HX.out.cells
                generalize pl + (dd + 1) = pn at *
                have HLA := Aside0.mk (show (L.length + 1) * 56 ≤ 140737488355328 by have := HL.out.2.1; have := HNN.out; omega)
                go_wp2_with (first | ((with_reducible refine gate_builtin (b := .append) (xs := #[.tmp 140, .tmp 142]) rfl ?_); at_builtin; refine Kd.S_append kF (w0 := w) w.heap.size rfl (.tmp 140) (.tmp 142) 43 80 _ 56 rfl Try.underlying43 info80 rfl (by decide) (by omega) (.slice A6 L.length c6) L (⟨pn, l, lc8⟩ : S80) [.int .i64 pn, (.slice A7 l.length c7), (.slice A8 lc8.length k8)] (fun _ => True) (fun k => w4.heap.size ≤ k) rfl rfl HX.out.elem (fun k hk => ⟨trivial, fun e => by have := HX.out.cur k e.symm; omega⟩) (fun _ _ => trivial) HX.out.out HX.out.ri.2 HX.out.ri.2.size HLA.out ?_; intro v10 w10 hr10 hb10 hg10 hat10) | go_in)
                have H10 := Aside0.mk (HX.out.app hg10 hr10)
                clear hb10 hg10 hat10
                obtain ⟨A9, c9, e9⟩ := Kd.S_slice hr10
                rw [List.length_append, List.length_singleton] at e9
                subst e9
                clear hr10
                go_roundw
                case rel => exact ⟨q, _, L ++ [⟨pn, l, lc8⟩], pn, _, HQ.out.2.2.1, by first | exact WN.out | exact WI.out, by first | rfl | exact congrArg (Value.int .i64) HW.out, H10, HO9, ⟨by have := HLN1.out; have := HL.out.1; have := HQ.out; have := HKN.out; omega, by rw [List.length_append, List.length_singleton]; have := HL.out.2.1; have := HQ.out; omega, HPP.out.1, HPP.out.2⟩, HT9⟩
                case measure => exact ms_down ⟨WN.out, HQ.out.2.2.2⟩
              · by_cases h5 : a < 251
                · have c2_7 := H7.out.ri.c2
                  have q251 : (a == 251) = false := beq_eq_false_iff_ne.2 (by omega)
                  have q247 : (a == 247) = false := beq_eq_false_iff_ne.2 (by omega)
                  have s251 : decide (a < 251) = true := decide_eq_true (by omega)
                  have HC5_ := Aside0.mk h4
                  have e5a : wrap64 ((l.length : Int) - 251) = (l.length : Int) - 251 := by rw [← i64_w, IntKind.wrap_i64]; have := HL.out; have := HNN.out; omega
                  have e5b : wrap64 ((l.length : Int) - 251 + a) = (l.length : Int) - (251 - a) := by rw [← i64_w, IntKind.wrap_i64]; have := HRA.out; have := HL.out; have := HNN.out; omega
                  by_cases hn : (l.length : Int) - (251 - a) < 0
                  · have HM1 := Aside0.mk (show oneM a0 p l t = ⟨l, [], 0, failR (numR a0 (numR a0 t 1).2 2).2 17 t.1⟩ by unfold oneM; rw [HA.out, if_neg (by have := HC_.out; omega), if_neg (by have := HC_.out; omega), if_neg (by have := HC_.out; omega), if_neg h4, if_pos h5, if_pos hn])
                    have HML := Aside0.mk (Nat.zero_le l.length)
                    obtain ⟨z, hzz⟩ : ∃ z, (l.length : Int) - (251 - a) = z := ⟨_, rfl⟩
                    rw [hzz] at hn e5b
                    clear hzz h4 h5
                    have b6 : decide (z < 0) = true := decide_eq_true hn
                    have hx : max z 0 = 0 := by omega
                    have hx2 : max z (0 : Int) = ((0 : Nat) : Int) := by omega
                    by_cases hz : (numR a0 (numR a0 t 1).2 2).2.2.1 = 0
                    · have z0 : ((numR a0 (numR a0 t 1).2 2).2.2.1 == 0) = true := beq_iff_eq.2 hz
                      clear hz
                      go_upto_region 27 with (first | (go_at_call 77; refine (fail_any w _ g a0 (numR a0 (numR a0 t 1).2 2).2 17 t.1 H7.out.ri).mono ?_; rintro e8 w8 ⟨rfl, hI8, hk8⟩; have H8 := Aside0.mk (H7.out.rd hI8 hk8); obtain ⟨d0_8, d1_8, d2_8, df_8⟩ := H8.out.cells; clear hI8 hk8) | go_in)
                      clear c2_7 b6 z0 e5a e5b
                      clear d0_7 d1_7 d2_7 df_7
                      have HC7 := Aside0.mk (Kd.R_reads' H8.out.r1).2.1
                      have m0 : ((0 : Int) ≤ (0 : Int)) = True := eq_true (by omega)
                      have m1 : ((0 : Nat) ≤ c7) = True := eq_true (by have := HC7.out; have := HML.out; omega)
                      have m2 : ((0 : Int) ≤ (c7 : Int)) = True := eq_true (by have := HC7.out; have := HML.out; omega)
                      go_upto_region 30 with (fail)
                      have H9 := Aside0.mk (H8.out.put 1 (.slice A7 0 c7) (u1 := .slice A7 0 c7) (u2 := (.slice none 0 0)) (m1 := l.take 0) (m2 := []) rfl (Kd.R_take H8.out.r1 HML.out) H8.out.r2 (fun k_ e1 e2 => by cases e2))
                      clear d0_8 d1_8 d2_8 df_8
                      clear m0 m1 m2
                      generalize World.setCell _ ⟨bx, 1, none⟩ _ = W9 at *
                      obtain ⟨d0_9, d1_9, d2_9, df_9⟩ := H9.out.cells
                      have HDR := Aside0.mk (show 0 ≤ (numR a0 (numR a0 t 1).2 2).1 ∧ (numR a0 (numR a0 t 1).2 2).1 ≤ 65536 by have := HRD.out; exact ⟨this.1, by omega⟩)
                      have HT9 := Aside0.mk ((show Tells a0 p R (q + 1) L l pl t from HQ.out.2.1 ▸ HT.out).step (l1 := (l.take 0)) (l2 := []) (d := (numR a0 (numR a0 t 1).2 2).1) HCC.out.2 (by rw [HM1.out]; exact fun h0 => absurd h0 (failN _ _ (by decide))))
                      have HO9 := Aside0.mk (OKR.one (p := p) (l := l) HO.out)
                      rw [HM1.out] at HT9 HO9
                      have HLN1 := Aside0.mk (show ((l.take 0)).length ≤ l.length + 4 ∨ ((l.take 0)).length ≤ 65536 by exact .inl (by rw [List.length_take]; omega))
                      clear HT HO
                      obtain ⟨dd, hdd⟩ : ∃ dd, (numR a0 (numR a0 t 1).2 2).1 = dd := ⟨_, rfl⟩
                      rw [hdd] at HT9 HDR
                      try rw [hdd]
                      clear hdd
                      have e1 : wrap64 (1 + dd) = dd + 1 := by rw [← i64_w, IntKind.wrap_i64]; have := HDR.out; omega
                      have e2 : wrap64 (pl + (dd + 1)) = pl + (dd + 1) := by rw [← i64_w, IntKind.wrap_i64]; have := HDR.out; have := HL.out.2.2; have := HKN.out; have := HNN.out; omega
                      have HPP := Aside0.mk (show -1 ≤ pl + (dd + 1) ∧ pl + (dd + 1) ≤ 65537 * ((n - q : Nat) : Int) by have := HDR.out; have := HL.out.2.2; have := HQ.out; have := HKN.out; omega)
                      have HW := Aside0.mk e2
                      go_upto_region 32 with (fail)
                      have HX := Aside0.mk (H9.out.set0 (pl + (dd + 1)))
                      clear d0_9 d1_9 d2_9 df_9
                      clear H9 e1 e2
                      generalize World.setCell _ ⟨bx, 0, none⟩ _ = WX at *
                      obtain ⟨d0_x, d1_x, d2_x, df_x⟩ := HX.out.cells
                      generalize pl + (dd + 1) = pn at *
                      have HLA := Aside0.mk (show (L.length + 1) * 56 ≤ 140737488355328 by have := HL.out.2.1; have := HNN.out; omega)
                      go_wp2_with (first | ((with_reducible refine gate_builtin (b := .append) (xs := #[.tmp 140, .tmp 142]) rfl ?_); at_builtin; refine Kd.S_append kF (w0 := w) w.heap.size rfl (.tmp 140) (.tmp 142) 43 80 _ 56 rfl Try.underlying43 info80 rfl (by decide) (by omega) (.slice A6 L.length c6) L (⟨pn, (l.take 0), []⟩ : S80) [.int .i64 pn, (.slice A7 0 c7), (.slice none 0 0)] (fun _ => True) (fun k => w4.heap.size ≤ k) rfl rfl HX.out.elem (fun k hk => ⟨trivial, fun e => by have := HX.out.cur k e.symm; omega⟩) (fun _ _ => trivial) HX.out.out HX.out.ri.2 HX.out.ri.2.size HLA.out ?_; intro v10 w10 hr10 hb10 hg10 hat10) | go_in)
                      have H10 := Aside0.mk (HX.out.app hg10 hr10)
                      clear hb10 hg10 hat10
                      obtain ⟨A9, c9, e9⟩ := Kd.S_slice hr10
                      rw [List.length_append, List.length_singleton] at e9
                      subst e9
                      clear hr10
                      go_roundw
                      case rel => exact ⟨q, _, L ++ [⟨pn, (l.take 0), []⟩], pn, _, HQ.out.2.2.1, by first | exact WN.out | exact WI.out, by first | rfl | exact congrArg (Value.int .i64) HW.out, H10, HO9, ⟨by have := HLN1.out; have := HL.out.1; have := HQ.out; have := HKN.out; omega, by rw [List.length_append, List.length_singleton]; have := HL.out.2.1; have := HQ.out; omega, HPP.out.1, HPP.out.2⟩, HT9⟩
                      case measure => exact ms_down ⟨WN.out, HQ.out.2.2.2⟩
                    · have z0 : ((numR a0 (numR a0 t 1).2 2).2.2.1 == 0) = false := beq_eq_false_iff_ne.2 hz
                      have HFR := Aside0.mk (show failR (numR a0 (numR a0 t 1).2 2).2 17 t.1 = (numR a0 (numR a0 t 1).2 2).2 from if_neg hz)
                      clear hz
                      go_upto_region 27 with (fail)
                      clear c2_7 b6 z0
                      rw [HFR.out] at HM1
                      have HC7 := Aside0.mk (Kd.R_reads' H7.out.r1).2.1
                      have m0 : ((0 : Int) ≤ (0 : Int)) = True := eq_true (by omega)
                      have m1 : ((0 : Nat) ≤ c7) = True := eq_true (by have := HC7.out; have := HML.out; omega)
                      have m2 : ((0 : Int) ≤ (c7 : Int)) = True := eq_true (by have := HC7.out; have := HML.out; omega)
                      go_upto_region 30 with (fail)
                      have H8 := Aside0.mk (H7.out.put 1 (.slice A7 0 c7) (u1 := .slice A7 0 c7) (u2 := (.slice none 0 0)) (m1 := l.take 0) (m2 := []) rfl (Kd.R_take H7.out.r1 HML.out) H7.out.r2 (fun k_ e1 e2 => by cases e2))
                      clear d0_7 d1_7 d2_7 df_7
                      clear m0 m1 m2
                      generalize World.setCell _ ⟨bx, 1, none⟩ _ = W8 at *
                      obtain ⟨d0_8, d1_8, d2_8, df_8⟩ := H8.out.cells
                      have HDR := Aside0.mk (show 0 ≤ (numR a0 (numR a0 t 1).2 2).1 ∧ (numR a0 (numR a0 t 1).2 2).1 ≤ 65536 by have := HRD.out; exact ⟨this.1, by omega⟩)
                      have HT9 := Aside0.mk ((show Tells a0 p R (q + 1) L l pl t from HQ.out.2.1 ▸ HT.out).step (l1 := (l.take 0)) (l2 := []) (d := (numR a0 (numR a0 t 1).2 2).1) HCC.out.2 (by rw [HM1.out]; exact fun h0 => absurd (HFR.out.symm ▸ h0) (failN _ _ (by decide))))
                      have HO9 := Aside0.mk (OKR.one (p := p) (l := l) HO.out)
                      rw [HM1.out] at HT9 HO9
                      have HLN1 := Aside0.mk (show ((l.take 0)).length ≤ l.length + 4 ∨ ((l.take 0)).length ≤ 65536 by exact .inl (by rw [List.length_take]; omega))
                      clear HT HO
                      obtain ⟨dd, hdd⟩ : ∃ dd, (numR a0 (numR a0 t 1).2 2).1 = dd := ⟨_, rfl⟩
                      rw [hdd] at HT9 HDR
                      try rw [hdd]
                      clear hdd
                      have e1 : wrap64 (1 + dd) = dd + 1 := by rw [← i64_w, IntKind.wrap_i64]; have := HDR.out; omega
                      have e2 : wrap64 (pl + (dd + 1)) = pl + (dd + 1) := by rw [← i64_w, IntKind.wrap_i64]; have := HDR.out; have := HL.out.2.2; have := HKN.out; have := HNN.out; omega
                      have HPP := Aside0.mk (show -1 ≤ pl + (dd + 1) ∧ pl + (dd + 1) ≤ 65537 * ((n - q : Nat) : Int) by have := HDR.out; have := HL.out.2.2; have := HQ.out; have := HKN.out; omega)
                      have HW := Aside0.mk e2
                      go_upto_region 32 with (fail)
                      have HX := Aside0.mk (H8.out.set0 (pl + (dd + 1)))
                      clear d0_8 d1_8 d2_8 df_8
                      clear H8 e1 e2
                      generalize World.setCell _ ⟨bx, 0, none⟩ _ = WX at *
                      obtain ⟨d0_x, d1_x, d2_x, df_x⟩ := HX.out.cells
                      generalize pl + (dd + 1) = pn at *
                      have HLA := Aside0.mk (show (L.length + 1) * 56 ≤ 140737488355328 by have := HL.out.2.1; have := HNN.out; omega)
                      go_wp2_with (first | ((with_reducible refine gate_builtin (b := .append) (xs := #[.tmp 140, .tmp 142]) rfl ?_); at_builtin; refine Kd.S_append kF (w0 := w) w.heap.size rfl (.tmp 140) (.tmp 142) 43 80 _ 56 rfl Try.underlying43 info80 rfl (by decide) (by omega) (.slice A6 L.length c6) L (⟨pn, (l.take 0), []⟩ : S80) [.int .i64 pn, (.slice A7 0 c7), (.slice none 0 0)] (fun _ => True) (fun k => w4.heap.size ≤ k) rfl rfl HX.out.elem (fun k hk => ⟨trivial, fun e => by have := HX.out.cur k e.symm; omega⟩) (fun _ _ => trivial) HX.out.out HX.out.ri.2 HX.out.ri.2.size HLA.out ?_; intro v10 w10 hr10 hb10 hg10 hat10) | go_in)
                      have H10 := Aside0.mk (HX.out.app hg10 hr10)
                      clear hb10 hg10 hat10
                      obtain ⟨A9, c9, e9⟩ := Kd.S_slice hr10
                      rw [List.length_append, List.length_singleton] at e9
                      subst e9
                      clear hr10
                      go_roundw
                      case rel => exact ⟨q, _, L ++ [⟨pn, (l.take 0), []⟩], pn, _, HQ.out.2.2.1, by first | exact WN.out | exact WI.out, by first | rfl | exact congrArg (Value.int .i64) HW.out, H10, HO9, ⟨by have := HLN1.out; have := HL.out.1; have := HQ.out; have := HKN.out; omega, by rw [List.length_append, List.length_singleton]; have := HL.out.2.1; have := HQ.out; omega, HPP.out.1, HPP.out.2⟩, HT9⟩
                      case measure => exact ms_down ⟨WN.out, HQ.out.2.2.2⟩
                  · obtain ⟨M, hM⟩ : ∃ M : Nat, (l.length : Int) - (251 - a) = (M : Int) := ⟨((l.length : Int) - (251 - a)).toNat, by omega⟩
                    have HML := Aside0.mk (show M ≤ l.length by have := HRA.out; omega)
                    have HM1 := Aside0.mk (show oneM a0 p l t = ⟨l.take M, [], (numR a0 (numR a0 t 1).2 2).1, (numR a0 (numR a0 t 1).2 2).2⟩ by unfold oneM; rw [HA.out, if_neg (by have := HC_.out; omega), if_neg (by have := HC_.out; omega), if_neg (by have := HC_.out; omega), if_neg h4, if_pos h5, if_neg hn, hM, Int.toNat_natCast])
                    have b6 : decide ((l.length : Int) - (251 - a) < 0) = false := decide_eq_false hn
                    go_upto_region 27 with (fail)
                    clear c2_7 b6 e5a e5b hn hM h4 h5 s251
                    have hx : max (M : Int) 0 = (M : Int) := by omega
                    have HC7 := Aside0.mk (Kd.R_reads' H7.out.r1).2.1
                    have m0 : ((0 : Int) ≤ (M : Int)) = True := eq_true (by omega)
                    have m1 : ((M : Nat) ≤ c7) = True := eq_true (by have := HC7.out; have := HML.out; omega)
                    have m2 : ((M : Int) ≤ (c7 : Int)) = True := eq_true (by have := HC7.out; have := HML.out; omega)
                    go_upto_region 30 with (fail)
                    have H8 := Aside0.mk (H7.out.put 1 (.slice A7 M c7) (u1 := .slice A7 M c7) (u2 := (.slice none 0 0)) (m1 := l.take M) (m2 := []) rfl (Kd.R_take H7.out.r1 HML.out) H7.out.r2 (fun k_ e1 e2 => by cases e2))
                    clear d0_7 d1_7 d2_7 df_7
                    clear m0 m1 m2
                    generalize World.setCell _ ⟨bx, 1, none⟩ _ = W8 at *
                    obtain ⟨d0_8, d1_8, d2_8, df_8⟩ := H8.out.cells
                    have HDR := Aside0.mk (show 0 ≤ (numR a0 (numR a0 t 1).2 2).1 ∧ (numR a0 (numR a0 t 1).2 2).1 ≤ 65536 by have := HRD.out; exact ⟨this.1, by omega⟩)
                    have HT9 := Aside0.mk ((show Tells a0 p R (q + 1) L l pl t from HQ.out.2.1 ▸ HT.out).step (l1 := (l.take M)) (l2 := []) (d := (numR a0 (numR a0 t 1).2 2).1) HCC.out.2 (by rw [HM1.out]; exact fun h0 => ⟨rfl, rfl, rfl⟩))
                    have HO9 := Aside0.mk (OKR.one (p := p) (l := l) HO.out)
                    rw [HM1.out] at HT9 HO9
                    have HLN1 := Aside0.mk (show ((l.take M)).length ≤ l.length + 4 ∨ ((l.take M)).length ≤ 65536 by exact .inl (by rw [List.length_take]; omega))
                    clear HT HO
                    obtain ⟨dd, hdd⟩ : ∃ dd, (numR a0 (numR a0 t 1).2 2).1 = dd := ⟨_, rfl⟩
                    rw [hdd] at HT9 HDR
                    try rw [hdd]
                    clear hdd
                    have e1 : wrap64 (1 + dd) = dd + 1 := by rw [← i64_w, IntKind.wrap_i64]; have := HDR.out; omega
                    have e2 : wrap64 (pl + (dd + 1)) = pl + (dd + 1) := by rw [← i64_w, IntKind.wrap_i64]; have := HDR.out; have := HL.out.2.2; have := HKN.out; have := HNN.out; omega
                    have HPP := Aside0.mk (show -1 ≤ pl + (dd + 1) ∧ pl + (dd + 1) ≤ 65537 * ((n - q : Nat) : Int) by have := HDR.out; have := HL.out.2.2; have := HQ.out; have := HKN.out; omega)
                    have HW := Aside0.mk e2
                    go_upto_region 32 with (fail)
                    have HX := Aside0.mk (H8.out.set0 (pl + (dd + 1)))
                    clear d0_8 d1_8 d2_8 df_8
                    clear H8 e1 e2
                    generalize World.setCell _ ⟨bx, 0, none⟩ _ = WX at *
                    obtain ⟨d0_x, d1_x, d2_x, df_x⟩ := HX.out.cells
                    generalize pl + (dd + 1) = pn at *
                    have HLA := Aside0.mk (show (L.length + 1) * 56 ≤ 140737488355328 by have := HL.out.2.1; have := HNN.out; omega)
                    go_wp2_with (first | ((with_reducible refine gate_builtin (b := .append) (xs := #[.tmp 140, .tmp 142]) rfl ?_); at_builtin; refine Kd.S_append kF (w0 := w) w.heap.size rfl (.tmp 140) (.tmp 142) 43 80 _ 56 rfl Try.underlying43 info80 rfl (by decide) (by omega) (.slice A6 L.length c6) L (⟨pn, (l.take M), []⟩ : S80) [.int .i64 pn, (.slice A7 M c7), (.slice none 0 0)] (fun _ => True) (fun k => w4.heap.size ≤ k) rfl rfl HX.out.elem (fun k hk => ⟨trivial, fun e => by have := HX.out.cur k e.symm; omega⟩) (fun _ _ => trivial) HX.out.out HX.out.ri.2 HX.out.ri.2.size HLA.out ?_; intro v10 w10 hr10 hb10 hg10 hat10) | go_in)
                    have H10 := Aside0.mk (HX.out.app hg10 hr10)
                    clear hb10 hg10 hat10
                    obtain ⟨A9, c9, e9⟩ := Kd.S_slice hr10
                    rw [List.length_append, List.length_singleton] at e9
                    subst e9
                    clear hr10
                    go_roundw
                    case rel => exact ⟨q, _, L ++ [⟨pn, (l.take M), []⟩], pn, _, HQ.out.2.2.1, by first | exact WN.out | exact WI.out, by first | rfl | exact congrArg (Value.int .i64) HW.out, H10, HO9, ⟨by have := HLN1.out; have := HL.out.1; have := HQ.out; have := HKN.out; omega, by rw [List.length_append, List.length_singleton]; have := HL.out.2.1; have := HQ.out; omega, HPP.out.1, HPP.out.2⟩, HT9⟩
                    case measure => exact ms_down ⟨WN.out, HQ.out.2.2.2⟩
                · by_cases h251 : a = 251
                  · have h5 := h251
                    have q251 : (a == 251) = true := beq_iff_eq.2 (by omega)
                    have HM1 := Aside0.mk (show oneM a0 p l t = ⟨l, [], (numR a0 (numR a0 t 1).2 2).1, (numR a0 (numR a0 t 1).2 2).2⟩ by unfold oneM; rw [HA.out, if_neg (by have := HC_.out; omega), if_neg (by have := HC_.out; omega), if_neg (by have := HC_.out; omega), if_neg (by omega), if_neg (by omega), if_pos (by omega), h5]; show (⟨l ++ (valD a0 p 0 [] (numR a0 (numR a0 t 1).2 2).2).1, [], (numR a0 (numR a0 t 1).2 2).1, (valD a0 p 0 [] (numR a0 (numR a0 t 1).2 2).2).2⟩ : FrR) = _; rw [show valD a0 p 0 [] (numR a0 (numR a0 t 1).2 2).2 = ([], (numR a0 (numR a0 t 1).2 2).2) from rfl, List.append_nil])
                    clear h5
                    go_upto_region 30 with (fail)
                    have HDR := Aside0.mk (show 0 ≤ (numR a0 (numR a0 t 1).2 2).1 ∧ (numR a0 (numR a0 t 1).2 2).1 ≤ 65536 by have := HRD.out; exact ⟨this.1, by omega⟩)
                    have HT9 := Aside0.mk ((show Tells a0 p R (q + 1) L l pl t from HQ.out.2.1 ▸ HT.out).step (l1 := l) (l2 := []) (d := (numR a0 (numR a0 t 1).2 2).1) HCC.out.2 (by rw [HM1.out]; exact fun _ => ⟨rfl, rfl, rfl⟩))
                    have HO9 := Aside0.mk (OKR.one (p := p) (l := l) HO.out)
                    rw [HM1.out] at HT9 HO9
                    have HLN1 := Aside0.mk (show (l).length ≤ l.length + 4 ∨ (l).length ≤ 65536 by exact .inl (by omega))
                    clear HT HO
                    obtain ⟨dd, hdd⟩ : ∃ dd, (numR a0 (numR a0 t 1).2 2).1 = dd := ⟨_, rfl⟩
                    rw [hdd] at HT9 HDR
                    try rw [hdd]
                    clear hdd
                    have e1 : wrap64 (1 + dd) = dd + 1 := by rw [← i64_w, IntKind.wrap_i64]; have := HDR.out; omega
                    have e2 : wrap64 (pl + (dd + 1)) = pl + (dd + 1) := by rw [← i64_w, IntKind.wrap_i64]; have := HDR.out; have := HL.out.2.2; have := HKN.out; have := HNN.out; omega
                    have HPP := Aside0.mk (show -1 ≤ pl + (dd + 1) ∧ pl + (dd + 1) ≤ 65537 * ((n - q : Nat) : Int) by have := HDR.out; have := HL.out.2.2; have := HQ.out; have := HKN.out; omega)
                    have HW := Aside0.mk e2
                    go_upto_region 32 with (fail)
                    have HX := Aside0.mk (H7.out.set0 (pl + (dd + 1)))
                    clear d0_7 d1_7 d2_7 df_7
                    clear H7 e1 e2
                    generalize World.setCell _ ⟨bx, 0, none⟩ _ = WX at *
                    obtain ⟨d0_x, d1_x, d2_x, df_x⟩ := HX.out.cells
                    generalize pl + (dd + 1) = pn at *
                    have HLA := Aside0.mk (show (L.length + 1) * 56 ≤ 140737488355328 by have := HL.out.2.1; have := HNN.out; omega)
                    go_wp2_with (first | ((with_reducible refine gate_builtin (b := .append) (xs := #[.tmp 140, .tmp 142]) rfl ?_); at_builtin; refine Kd.S_append kF (w0 := w) w.heap.size rfl (.tmp 140) (.tmp 142) 43 80 _ 56 rfl Try.underlying43 info80 rfl (by decide) (by omega) (.slice A6 L.length c6) L (⟨pn, l, []⟩ : S80) [.int .i64 pn, (.slice A7 l.length c7), (.slice none 0 0)] (fun _ => True) (fun k => w4.heap.size ≤ k) rfl rfl HX.out.elem (fun k hk => ⟨trivial, fun e => by have := HX.out.cur k e.symm; omega⟩) (fun _ _ => trivial) HX.out.out HX.out.ri.2 HX.out.ri.2.size HLA.out ?_; intro v10 w10 hr10 hb10 hg10 hat10) | go_in)
                    have H10 := Aside0.mk (HX.out.app hg10 hr10)
                    clear hb10 hg10 hat10
                    obtain ⟨A9, c9, e9⟩ := Kd.S_slice hr10
                    rw [List.length_append, List.length_singleton] at e9
                    subst e9
                    clear hr10
                    go_roundw
                    case rel => exact ⟨q, _, L ++ [⟨pn, l, []⟩], pn, _, HQ.out.2.2.1, by first | exact WN.out | exact WI.out, by first | rfl | exact congrArg (Value.int .i64) HW.out, H10, HO9, ⟨by have := HLN1.out; have := HL.out.1; have := HQ.out; have := HKN.out; omega, by rw [List.length_append, List.length_singleton]; have := HL.out.2.1; have := HQ.out; omega, HPP.out.1, HPP.out.2⟩, HT9⟩
                    case measure => exact ms_down ⟨WN.out, HQ.out.2.2.2⟩
                  · by_cases h6 : a < 255
                    · have q251 : (a == 251) = false := beq_eq_false_iff_ne.2 (by omega)
                      have q247 : (a == 247) = false := beq_eq_false_iff_ne.2 (by omega)
                      have s251 : decide (a < 251) = false := decide_eq_false (by omega)
                      have s255 : decide (a < 255) = true := decide_eq_true (by omega)
                      obtain ⟨M, hM⟩ : ∃ M : Nat, a - 251 = (M : Int) := ⟨(a - 251).toNat, by omega⟩
                      have HM3 := Aside0.mk (show M ≤ 3 by omega)
                      have HM1 := Aside0.mk (show oneM a0 p l t = ⟨l ++ (valD a0 p M [] (numR a0 (numR a0 t 1).2 2).2).1, [], (numR a0 (numR a0 t 1).2 2).1, (valD a0 p M [] (numR a0 (numR a0 t 1).2 2).2).2⟩ by unfold oneM; rw [HA.out, if_neg (by have := HC_.out; omega), if_neg (by have := HC_.out; omega), if_neg (by have := HC_.out; omega), if_neg h4, if_neg h5, if_pos h6, hM, Int.toNat_natCast])
                      have HE1 := Aside0.mk (show wrap64 (a - 251) = (M : Int) by rw [← hM, ← i64_w, IntKind.wrap_i64]; have := HRA.out; omega)
                      clear h4 h5 h6 hM
                      go_upto_region 29 with (fail)
                      have HD := Aside0.mk H7.out.drew
                      clear d0_7 d1_7 d2_7 df_7
                      refine start_ (n := 10) (S := fun w' => w'.cell? ⟨bx, 1, none⟩ = some (.slice A7 l.length c7)) (ds := [7, 9]) #[false, false, false, false, false, false, false, false, false, false] (by kernel_rfl) rfl rfl (HD.out.cells.2.1) (fun hHeld => ?_)
                      refine pure_ (i := 0) (N := some 123) (v := ?_) (a' := ?_) #[true, false, false, false, false, false, false, false, false, false] rfl rfl (by kernel_rfl) (fun _ _ _ h => h) (Or.inl ⟨by rfl, ?_⟩) ?_ ?_
                      rotate_left
                      · intro w'
                        go_simp
                        with_reducible rfl
                      rotate_left
                      · simp only [Act.put, List.setIfInBounds_toArray, List.set_cons_zero, List.set_cons_succ, i64_w, i32_w]
                        rfl
                      refine pure_ (i := 2) (N := some 125) (v := ?_) (a' := ?_) #[true, false, true, false, false, false, false, false, false, false] rfl rfl (by kernel_rfl) (fun _ _ _ h => h) (Or.inl ⟨by rfl, ?_⟩) ?_ ?_
                      rotate_left
                      · intro w'
                        go_simp
                        with_reducible rfl
                      rotate_left
                      · simp only [Act.put, List.setIfInBounds_toArray, List.set_cons_zero, List.set_cons_succ, i64_w, i32_w]
                        rfl
                      refine pure_ (i := 3) (N := some 126) (v := ?_) (a' := ?_) #[true, false, true, true, false, false, false, false, false, false] rfl rfl (by kernel_rfl) (fun _ _ _ h => h) (Or.inl ⟨by rfl, ?_⟩) ?_ ?_
                      rotate_left
                      · intro w'
                        go_simp
                        with_reducible rfl
                      rotate_left
                      · simp only [Act.put, List.setIfInBounds_toArray, List.set_cons_zero, List.set_cons_succ, i64_w, i32_w]
                        rfl
                      refine pure_ (i := 4) (N := some 127) (v := ?_) (a' := ?_) #[true, false, true, true, true, false, false, false, false, false] rfl rfl (by kernel_rfl) (fun _ _ _ h => h) (Or.inl ⟨by rfl, ?_⟩) ?_ ?_
                      rotate_left
                      · intro w'
                        go_simp
                        with_reducible rfl
                      rotate_left
                      · simp only [Act.put, List.setIfInBounds_toArray, List.set_cons_zero, List.set_cons_succ, i64_w, i32_w]
                        rfl
                      refine pure_ (i := 5) (N := some 128) (v := ?_) (a' := ?_) #[true, false, true, true, true, true, false, false, false, false] rfl rfl (by kernel_rfl) (fun _ _ _ h => h) (Or.inl ⟨by rfl, ?_⟩) ?_ ?_
                      rotate_left
                      · intro w'
                        go_simp
                        with_reducible rfl
                      rotate_left
                      · simp only [Act.put, List.setIfInBounds_toArray, List.set_cons_zero, List.set_cons_succ, i64_w, i32_w]
                        rfl
                      refine take_ (i := 1) (N := some 124) (v := ?_) (a' := ?_) #[true, true, true, true, true, true, false, false, false, false] rfl rfl (by kernel_rfl) (fun _ _ _ h => h) (Or.inl ⟨by rfl, ?_⟩) hHeld ?_ ?_
                      rotate_left
                      · intro w' s0
                        go_simp
                        with_reducible rfl
                      rotate_left
                      · simp only [Act.put, List.setIfInBounds_toArray, List.set_cons_zero, List.set_cons_succ, i64_w, i32_w]
                        rfl
                      refine one_ (i := 6) (N := some 129) #[true, true, true, true, true, true, true, false, false, false] rfl rfl (by kernel_rfl) (by decide) (fun K hK => ?_)
                      refine goes_ Try.func76 (by kernel_rfl) rfl #[.pointer (some ⟨g, 0, none⟩), .slice A1 p.length c1, .int .i64 (wrap64 (a - 251))] (by rfl) rfl rfl (by simp only [List.map_toArray, List.map_cons, List.map_nil]; rfl) ?_
                      with_reducible refine (show Calls _ _ #[.pointer (some ⟨g, 0, none⟩), .slice A1 p.length c1, .int .i64 (wrap64 (a - 251))] _ (VPost w _ g a0 p M (numR a0 (numR a0 t 1).2 2).2) from by rw [HE1.out]; exact values_any w _ g a0 (numR a0 (numR a0 t 1).2 2).2 A1 c1 p M (by have := HM3.out; omega) HO6.out HD.out.ri (fun W_ hk_ => HR1.out W_ g HG.out (HD.out.keep hk_)) HC1.out HP.out).mono ?_
                      rintro e8 w8 ⟨v8, lc8, rfl, hV8, hl8, hz8⟩
                      refine ⟨_, rfl, ?_⟩
                      obtain ⟨A8, k8, q8⟩ := Kd.R_slice hV8.row
                      subst q8
                      have HV8 := Aside0.mk hV8
                      have HL8 := Aside0.mk (And.intro hl8 hz8)
                      have HQ8 := Aside0.mk (HD.out.rd hV8.ri hV8.kept)
                      have HLX := Aside0.mk (show (l.length + lc8.length) * 32 ≤ 140737488355328 by have := HL8.out.1; have := HM3.out; have := HL.out; have := HNN.out; omega)
                      clear hV8 hl8 hz8
                      refine hK.out _ _ (HQ8.out.cells.2.1) (fun hHeld => ?_)
                      clear hK K
                      refine norm_ (a' := ?_) ?_ ?_
                      rotate_left
                      · show Act.put _ (some 129) _ = _
                        simp only [Act.put, List.setIfInBounds_toArray, List.set_cons_zero, List.set_cons_succ, i64_w, i32_w]
                        rfl
                      refine last_ (i := 7) (N := some 130) #[true, true, true, true, true, true, true, true, false, false] rfl rfl (by kernel_rfl) (by decide) (fun K hK => ?_)
                      refine Kd.R_append_rows_step k54 (w0 := w8) w4.heap.size (by rfl) (.tmp 124) (.tmp 129) 44 54 (.agg #[(.int .u8 0), (.string ⟨#[]⟩), (.int .i64 0)]) 32 rfl Try.underlying44 info54 rfl (by decide) (by omega) (.slice A7 l.length c7) l lc8 _ _ _ (fun _ => True) (fun _ => False) rfl rfl HQ8.out.r1 (Kd.R_reads' HV8.out.row).2.2 (fun _ _ h => h) (fun _ h => h.elim) (fun _ _ => trivial) (Below.refl _ _) HQ8.out.wcl HLX.out ?_
                      intro v9 w9 hr9 hb9 hg9 hat9
                      obtain ⟨A9, k9, hv9⟩ := Kd.R_slice hr9
                      simp only [List.length_append] at hv9
                      subst hv9
                      refine hK.out _ _ ?_
                      clear hK K
                      refine norm_ (a' := ?_) ?_ ?_
                      rotate_left
                      · show Act.put _ (some 130) _ = _
                        simp only [Act.put, List.setIfInBounds_toArray, List.set_cons_zero, List.set_cons_succ, i64_w, i32_w]
                        rfl
                      refine pure_ (i := 8) (N := some 131) (v := ?_) (a' := ?_) #[true, true, true, true, true, true, true, true, true, false] rfl rfl (by kernel_rfl) (fun _ _ _ h => h) (Or.inl ⟨by rfl, ?_⟩) ?_ ?_
                      rotate_left
                      · intro w'
                        go_simp
                        with_reducible rfl
                      rotate_left
                      · simp only [Act.put, List.setIfInBounds_toArray, List.set_cons_zero, List.set_cons_succ, i64_w, i32_w]
                        rfl
                      refine last_ (i := 9) (N := none) #[true, true, true, true, true, true, true, true, true, true] rfl rfl (by kernel_rfl) (by decide) (fun K hK => ?_)
                      have cg1 := HQ8.out.grown1 hg9
                      have ca1 := cg1.1
                      have cf1 := cg1.2
                      have H10 := Aside0.mk (HQ8.out.app1 hg9 hr9)
                      obtain ⟨d0_10, d1_10, d2_10, df_10⟩ := H10.out.cells
                      refine skip_ (w1 := ?_) (by rfl) rfl ?_ ?_
                      rotate_left
                      · go_simp
                        rfl
                      refine hK.out _ _ ?_
                      clear hK K
                      refine done_ (by kernel_rfl) ?_
                      clear cg1 ca1 cf1
                      try clear hHeld
                      generalize World.setCell _ ⟨bx, 1, none⟩ _ = W10 at *
                      have HDR := Aside0.mk (show 0 ≤ (numR a0 (numR a0 t 1).2 2).1 ∧ (numR a0 (numR a0 t 1).2 2).1 ≤ 65536 by have := HRD.out; exact ⟨this.1, by omega⟩)
                      have HT9 := Aside0.mk ((show Tells a0 p R (q + 1) L l pl t from HQ.out.2.1 ▸ HT.out).step (l1 := (l ++ lc8)) (l2 := []) (d := (numR a0 (numR a0 t 1).2 2).1) HCC.out.2 (by rw [HM1.out]; exact fun h0 => ⟨by rw [HL8.out.2 h0], rfl, rfl⟩))
                      have HO9 := Aside0.mk (OKR.one (p := p) (l := l) HO.out)
                      rw [HM1.out] at HT9 HO9
                      have HLN1 := Aside0.mk (show ((l ++ lc8)).length ≤ l.length + 4 ∨ ((l ++ lc8)).length ≤ 65536 by exact .inl (by rw [List.length_append]; have := HL8.out.1; have := HM3.out; omega))
                      clear HT HO
                      obtain ⟨dd, hdd⟩ : ∃ dd, (numR a0 (numR a0 t 1).2 2).1 = dd := ⟨_, rfl⟩
                      rw [hdd] at HT9 HDR
                      try rw [hdd]
                      clear hdd
                      have e1 : wrap64 (1 + dd) = dd + 1 := by rw [← i64_w, IntKind.wrap_i64]; have := HDR.out; omega
                      have e2 : wrap64 (pl + (dd + 1)) = pl + (dd + 1) := by rw [← i64_w, IntKind.wrap_i64]; have := HDR.out; have := HL.out.2.2; have := HKN.out; have := HNN.out; omega
                      have HPP := Aside0.mk (show -1 ≤ pl + (dd + 1) ∧ pl + (dd + 1) ≤ 65537 * ((n - q : Nat) : Int) by have := HDR.out; have := HL.out.2.2; have := HQ.out; have := HKN.out; omega)
                      have HW := Aside0.mk e2
                      go_upto_region 32 with (fail)
                      have HX := Aside0.mk (H10.out.set0 (pl + (dd + 1)))
                      clear d0_10 d1_10 d2_10 df_10
                      clear H10 e1 e2
                      generalize World.setCell _ ⟨bx, 0, none⟩ _ = WX at *
                      obtain ⟨d0_x, d1_x, d2_x, df_x⟩ := HX.out.cells
                      generalize pl + (dd + 1) = pn at *
                      have HLA := Aside0.mk (show (L.length + 1) * 56 ≤ 140737488355328 by have := HL.out.2.1; have := HNN.out; omega)
                      go_wp2_with (first | ((with_reducible refine gate_builtin (b := .append) (xs := #[.tmp 140, .tmp 142]) rfl ?_); at_builtin; refine Kd.S_append kF (w0 := w) w.heap.size rfl (.tmp 140) (.tmp 142) 43 80 _ 56 rfl Try.underlying43 info80 rfl (by decide) (by omega) (.slice A6 L.length c6) L (⟨pn, (l ++ lc8), []⟩ : S80) [.int .i64 pn, (.slice A9 (l.length + lc8.length) k9), (.slice none 0 0)] (fun _ => True) (fun k => w4.heap.size ≤ k) rfl rfl HX.out.elem (fun k hk => ⟨trivial, fun e => by have := HX.out.cur k e.symm; omega⟩) (fun _ _ => trivial) HX.out.out HX.out.ri.2 HX.out.ri.2.size HLA.out ?_; intro v10 w10 hr10 hb10 hg10 hat10) | go_in)
                      have H10 := Aside0.mk (HX.out.app hg10 hr10)
                      clear hb10 hg10 hat10
                      obtain ⟨Ax, cx, e9⟩ := Kd.S_slice hr10
                      rw [List.length_append, List.length_singleton] at e9
                      subst e9
                      clear hr10
                      go_roundw
                      case rel => exact ⟨q, _, L ++ [⟨pn, (l ++ lc8), []⟩], pn, _, HQ.out.2.2.1, by first | exact WN.out | exact WI.out, by first | rfl | exact congrArg (Value.int .i64) HW.out, H10, HO9, ⟨by have := HLN1.out; have := HL.out.1; have := HQ.out; have := HKN.out; omega, by rw [List.length_append, List.length_singleton]; have := HL.out.2.1; have := HQ.out; omega, HPP.out.1, HPP.out.2⟩, HT9⟩
                      case measure => exact ms_down ⟨WN.out, HQ.out.2.2.2⟩
                    · have q251 : (a == 251) = false := beq_eq_false_iff_ne.2 (by omega)
                      have q247 : (a == 247) = false := beq_eq_false_iff_ne.2 (by omega)
                      have s251 : decide (a < 251) = false := decide_eq_false (by omega)
                      have s255 : decide (a < 255) = false := decide_eq_false (by omega)
                      have HC7 := Aside0.mk (And.intro h4 (And.intro h5 h6))
                      clear h4 h5 h6
                      go_upto_region 17 with (first | (go_at_call 74; refine (num_any w _ g a0 (numR a0 (numR a0 t 1).2 2).2 2 2 rfl (by decide) HO6.out H7.out.ri).mono ?_; rintro e8 w8 ⟨rfl, hI8, hk8⟩; have H8 := Aside0.mk (H7.out.rd hI8 hk8); obtain ⟨d0_8, d1_8, d2_8, df_8⟩ := H8.out.cells; clear hI8 hk8; have HRN8 := Aside0.mk (num2_lt a0 (numR a0 (numR a0 t 1).2 2).2); have HO8 := Aside0.mk (HO6.out.num 2); obtain ⟨m8, hm8⟩ : ∃ m : Nat, (numR a0 (numR a0 (numR a0 t 1).2 2).2 2).1 = (m : Int) := ⟨_, (Int.toNat_of_nonneg HRN8.out.1).symm⟩; rw [hm8]; have HMM8 := Aside0.mk hm8; have HML8 := Aside0.mk (show m8 ≤ 65536 by have := HRN8.out; omega); clear hm8) | (go_at_call 76; refine (values_any w _ g a0 (numR a0 (numR a0 (numR a0 t 1).2 2).2 2).2 A1 c1 p m8 HML8.out HO8.out H8.out.ri (fun W_ hk_ => HR1.out W_ g HG.out (H8.out.keep hk_)) HC1.out HP.out).mono ?_; rintro e9 w9 ⟨v9, lc9, rfl, hV9, hl9, hz9⟩; obtain ⟨A9, k9, q9⟩ := Kd.R_slice hV9.row; subst q9; have HV9 := Aside0.mk hV9; have HL9 := Aside0.mk (And.intro hl9 hz9); have H9 := Aside0.mk (H8.out.rd hV9.ri hV9.kept); obtain ⟨d0_9, d1_9, d2_9, df_9⟩ := H9.out.cells; clear hV9 hl9 hz9) | go_in)
                      have H10 := Aside0.mk (H9.out.put 1 (.slice A9 lc9.length k9) (u1 := .slice A9 lc9.length k9) (u2 := (.slice none 0 0)) rfl (Kd.R_lower HV9.out.row H8.out.wcl) H9.out.r2 (fun k_ e1 e2 => by cases e2))
                      clear d0_7 d1_7 d2_7 df_7
                      clear d0_8 d1_8 d2_8 df_8
                      clear d0_9 d1_9 d2_9 df_9
                      generalize World.setCell _ ⟨bx, 1, none⟩ _ = W10 at *
                      obtain ⟨d0_10, d1_10, d2_10, df_10⟩ := H10.out.cells
                      have HO10 := Aside0.mk (OKR.val (p := p) m8 (l := []) HO8.out)
                      clear H7 H8 H9 HV9
                      go_upto_region 30 with (first | (go_at_call 74; refine (num_any w _ g a0 (valD a0 p m8 [] (numR a0 (numR a0 (numR a0 t 1).2 2).2 2).2).2 2 2 rfl (by decide) HO10.out H10.out.ri).mono ?_; rintro e11 w11 ⟨rfl, hI11, hk11⟩; have H11 := Aside0.mk (H10.out.rd hI11 hk11); obtain ⟨d0_11, d1_11, d2_11, df_11⟩ := H11.out.cells; clear hI11 hk11; have HRN11 := Aside0.mk (num2_lt a0 (valD a0 p m8 [] (numR a0 (numR a0 (numR a0 t 1).2 2).2 2).2).2); have HO11 := Aside0.mk (HO10.out.num 2); obtain ⟨m11, hm11⟩ : ∃ m : Nat, (numR a0 (valD a0 p m8 [] (numR a0 (numR a0 (numR a0 t 1).2 2).2 2).2).2 2).1 = (m : Int) := ⟨_, (Int.toNat_of_nonneg HRN11.out.1).symm⟩; rw [hm11]; have HMM11 := Aside0.mk hm11; have HML11 := Aside0.mk (show m11 ≤ 65536 by have := HRN11.out; omega); clear hm11) | (go_at_call 76; refine (values_any w _ g a0 (numR a0 (valD a0 p m8 [] (numR a0 (numR a0 (numR a0 t 1).2 2).2 2).2).2 2).2 A1 c1 p m11 HML11.out HO11.out H11.out.ri (fun W_ hk_ => HR1.out W_ g HG.out (H11.out.keep hk_)) HC1.out HP.out).mono ?_; rintro e12 w12 ⟨v12, lc12, rfl, hV12, hl12, hz12⟩; obtain ⟨A12, k12, q12⟩ := Kd.R_slice hV12.row; subst q12; have HV12 := Aside0.mk hV12; have HL12 := Aside0.mk (And.intro hl12 hz12); have H12 := Aside0.mk (H11.out.rd hV12.ri hV12.kept); obtain ⟨d0_12, d1_12, d2_12, df_12⟩ := H12.out.cells; clear hV12 hl12 hz12) | go_in)
                      have H13 := Aside0.mk (H12.out.put 2 (.slice A12 lc12.length k12) (u1 := .slice A9 lc9.length k9) (u2 := .slice A12 lc12.length k12) rfl H12.out.r1 (Kd.R_lower HV12.out.row H11.out.wcl) (fun k_ e1 e2 => by have := Kd.R_lt H11.out.r1 k_ e1; have := Kd.R_base HV12.out.row k_ e2; omega))
                      clear d0_10 d1_10 d2_10 df_10
                      clear d0_11 d1_11 d2_11 df_11
                      clear d0_12 d1_12 d2_12 df_12
                      generalize World.setCell _ ⟨bx, 2, none⟩ _ = W13 at *
                      obtain ⟨d0_13, d1_13, d2_13, df_13⟩ := H13.out.cells
                      have HM1 := Aside0.mk (show oneM a0 p l t = ⟨(valD a0 p m8 [] (numR a0 (numR a0 (numR a0 t 1).2 2).2 2).2).1, (valD a0 p m11 [] (numR a0 (valD a0 p m8 [] (numR a0 (numR a0 (numR a0 t 1).2 2).2 2).2).2 2).2).1, (numR a0 (numR a0 t 1).2 2).1, (valD a0 p m11 [] (numR a0 (valD a0 p m8 [] (numR a0 (numR a0 (numR a0 t 1).2 2).2 2).2).2 2).2).2⟩ by unfold oneM; rw [HA.out, if_neg (by have := HC_.out; omega), if_neg (by have := HC_.out; omega), if_neg (by have := HC_.out; omega), if_neg (by have := HC7.out; omega), if_neg (by have := HC7.out; omega), if_neg (by have := HC7.out; omega), HMM8.out, Int.toNat_natCast, HMM11.out, Int.toNat_natCast])
                      have HDR := Aside0.mk (show 0 ≤ (numR a0 (numR a0 t 1).2 2).1 ∧ (numR a0 (numR a0 t 1).2 2).1 ≤ 65536 by have := HRD.out; exact ⟨this.1, by omega⟩)
                      have HT9 := Aside0.mk ((show Tells a0 p R (q + 1) L l pl t from HQ.out.2.1 ▸ HT.out).step (l1 := lc9) (l2 := lc12) (d := (numR a0 (numR a0 t 1).2 2).1) HCC.out.2 (by rw [HM1.out]; exact fun h0 => ⟨HL9.out.2 (val_clean h0), HL12.out.2 h0, rfl⟩))
                      have HO9 := Aside0.mk (OKR.one (p := p) (l := l) HO.out)
                      rw [HM1.out] at HT9 HO9
                      have HLN1 := Aside0.mk (show (lc9).length ≤ l.length + 4 ∨ (lc9).length ≤ 65536 by exact .inr (by have := HL9.out.1; have := HML8.out; omega))
                      clear HT HO
                      obtain ⟨dd, hdd⟩ : ∃ dd, (numR a0 (numR a0 t 1).2 2).1 = dd := ⟨_, rfl⟩
                      rw [hdd] at HT9 HDR
                      try rw [hdd]
                      clear hdd
                      have e1 : wrap64 (1 + dd) = dd + 1 := by rw [← i64_w, IntKind.wrap_i64]; have := HDR.out; omega
                      have e2 : wrap64 (pl + (dd + 1)) = pl + (dd + 1) := by rw [← i64_w, IntKind.wrap_i64]; have := HDR.out; have := HL.out.2.2; have := HKN.out; have := HNN.out; omega
                      have HPP := Aside0.mk (show -1 ≤ pl + (dd + 1) ∧ pl + (dd + 1) ≤ 65537 * ((n - q : Nat) : Int) by have := HDR.out; have := HL.out.2.2; have := HQ.out; have := HKN.out; omega)
                      have HW := Aside0.mk e2
                      go_upto_region 32 with (fail)
                      have HX := Aside0.mk (H13.out.set0 (pl + (dd + 1)))
                      clear d0_13 d1_13 d2_13 df_13
                      clear H13 e1 e2
                      generalize World.setCell _ ⟨bx, 0, none⟩ _ = WX at *
                      obtain ⟨d0_x, d1_x, d2_x, df_x⟩ := HX.out.cells
                      generalize pl + (dd + 1) = pn at *
                      have HLA := Aside0.mk (show (L.length + 1) * 56 ≤ 140737488355328 by have := HL.out.2.1; have := HNN.out; omega)
                      go_wp2_with (first | ((with_reducible refine gate_builtin (b := .append) (xs := #[.tmp 140, .tmp 142]) rfl ?_); at_builtin; refine Kd.S_append kF (w0 := w) w.heap.size rfl (.tmp 140) (.tmp 142) 43 80 _ 56 rfl Try.underlying43 info80 rfl (by decide) (by omega) (.slice A6 L.length c6) L (⟨pn, lc9, lc12⟩ : S80) [.int .i64 pn, (.slice A9 lc9.length k9), (.slice A12 lc12.length k12)] (fun _ => True) (fun k => w4.heap.size ≤ k) rfl rfl HX.out.elem (fun k hk => ⟨trivial, fun e => by have := HX.out.cur k e.symm; omega⟩) (fun _ _ => trivial) HX.out.out HX.out.ri.2 HX.out.ri.2.size HLA.out ?_; intro v10 w10 hr10 hb10 hg10 hat10) | go_in)
                      have H10 := Aside0.mk (HX.out.app hg10 hr10)
                      clear hb10 hg10 hat10
                      obtain ⟨Ax, cx, e9⟩ := Kd.S_slice hr10
                      rw [List.length_append, List.length_singleton] at e9
                      subst e9
                      clear hr10
                      go_roundw
                      case rel => exact ⟨q, _, L ++ [⟨pn, lc9, lc12⟩], pn, _, HQ.out.2.2.1, by first | exact WN.out | exact WI.out, by first | rfl | exact congrArg (Value.int .i64) HW.out, H10, HO9, ⟨by have := HLN1.out; have := HL.out.1; have := HQ.out; have := HKN.out; omega, by rw [List.length_append, List.length_singleton]; have := HL.out.2.1; have := HQ.out; omega, HPP.out.1, HPP.out.2⟩, HT9⟩
                      case measure => exact ms_down ⟨WN.out, HQ.out.2.2.2⟩
      · rw [decide_eq_false hc]
        have HEND : Aside0 (readD a0 p first = finR a0 L t ∨ (t.2.1 ≠ 0 ∧ readD a0 p first = finR a0 R.1 t)) := ⟨by
          by_cases hz : t.2.1 = 0
          · left
            rw [HRR.out, HT.out.1 hz]
            obtain rfl : r = 0 := by rcases Nat.eq_zero_or_pos r with h | h; (exact h); (exact absurd ⟨h, hz⟩ hc)
            rfl
          · right
            exact ⟨hz, by rw [HRR.out, HT.out.2 hz]⟩⟩
        clear hc HT HRR
        have c1_1 := HC.out.ri.c1
        have c2_1 := HC.out.ri.c2
        have c3_1 := HC.out.ri.c3
        by_cases hl : t.1 < (a0.size : Int)
        · have b3 : decide (t.1 < (a0.size : Int)) = true := decide_eq_true hl
          have hz : (failR t 2 t.1).2.1 ≠ 0 := failN _ _ (by decide)
          have HRD : Aside0 (readD a0 p first = ([], (failR t 2 t.1).2.1, (failR t 2 t.1).2.2)) := ⟨by
            have h1 : ∀ L', finR a0 L' t = ([], (failR t 2 t.1).2.1, (failR t 2 t.1).2.2) := fun L' => by unfold finR; rw [if_pos hl, if_pos hz]
            rcases HEND.out with h | h
            · rw [h, h1]
            · rw [h.2, h1]⟩
          have z0 : ((failR t 2 t.1).2.1 != 0) = true := bne_iff_ne.2 hz
          clear hl hz HEND
          as_aux_lemma =>
          go_upto_region 37 with (first | (go_at_call 77; refine (fail_any w _ g a0 t 2 t.1 HC.out.ri).mono ?_; rintro e9 w9 ⟨rfl, hI9, hk9⟩; have H9 := Aside0.mk (HC.out.rd hI9 hk9); have c2_9 := H9.out.ri.c2; have c3_9 := H9.out.ri.c3; clear hI9 hk9) | go_in)
          have HE := Aside0.mk H9.out.drew
          clear c1_1 c2_1 c3_1 c2_9 c3_9
          refine start_ (n := 11) (S := fun w' => w'.cell? ⟨g, 2, none⟩ = some (.int .i64 (failR t 2 t.1).2.1) ∧ w'.cell? ⟨g, 3, none⟩ = some (.int .i64 (failR t 2 t.1).2.2)) (ds := []) #[false, false, false, false, false, false, false, false, false, false, false] (by kernel_rfl) rfl rfl ⟨HE.out.ri.c2, HE.out.ri.c3⟩ (fun hHeld => ?_)
          refine pure_ (i := 0) (N := some 162) (v := ?_) (a' := ?_) #[true, false, false, false, false, false, false, false, false, false, false] rfl rfl (by kernel_rfl) (fun _ _ _ h => h) (Or.inl ⟨by rfl, ?_⟩) ?_ ?_
          rotate_left
          · intro w'
            go_simp
            with_reducible rfl
          rotate_left
          · simp only [Act.put, List.setIfInBounds_toArray, List.set_cons_zero, List.set_cons_succ, i64_w, i32_w]
            rfl
          refine pure_ (i := 1) (N := some 163) (v := ?_) (a' := ?_) #[true, true, false, false, false, false, false, false, false, false, false] rfl rfl (by kernel_rfl) (fun _ _ _ h => h) (Or.inl ⟨by rfl, ?_⟩) ?_ ?_
          rotate_left
          · intro w'
            go_simp
            with_reducible rfl
          rotate_left
          · simp only [Act.put, List.setIfInBounds_toArray, List.set_cons_zero, List.set_cons_succ, i64_w, i32_w]
            rfl
          refine pure_ (i := 2) (N := some 164) (v := ?_) (a' := ?_) #[true, true, true, false, false, false, false, false, false, false, false] rfl rfl (by kernel_rfl) (fun _ _ _ h => h) (Or.inl ⟨by rfl, ?_⟩) ?_ ?_
          rotate_left
          · intro w'
            go_simp
            with_reducible rfl
          rotate_left
          · simp only [Act.put, List.setIfInBounds_toArray, List.set_cons_zero, List.set_cons_succ, i64_w, i32_w]
            rfl
          refine pure_ (i := 4) (N := some 166) (v := ?_) (a' := ?_) #[true, true, true, false, true, false, false, false, false, false, false] rfl rfl (by kernel_rfl) (fun _ _ _ h => h) (Or.inl ⟨by rfl, ?_⟩) ?_ ?_
          rotate_left
          · intro w'
            go_simp
            with_reducible rfl
          rotate_left
          · simp only [Act.put, List.setIfInBounds_toArray, List.set_cons_zero, List.set_cons_succ, i64_w, i32_w]
            rfl
          refine pure_ (i := 5) (N := some 167) (v := ?_) (a' := ?_) #[true, true, true, false, true, true, false, false, false, false, false] rfl rfl (by kernel_rfl) (fun _ _ _ h => h) (Or.inl ⟨by rfl, ?_⟩) ?_ ?_
          rotate_left
          · intro w'
            go_simp
            with_reducible rfl
          rotate_left
          · simp only [Act.put, List.setIfInBounds_toArray, List.set_cons_zero, List.set_cons_succ, i64_w, i32_w]
            rfl
          refine pure_ (i := 6) (N := some 168) (v := ?_) (a' := ?_) #[true, true, true, false, true, true, true, false, false, false, false] rfl rfl (by kernel_rfl) (fun _ _ _ h => h) (Or.inl ⟨by rfl, ?_⟩) ?_ ?_
          rotate_left
          · intro w'
            go_simp
            with_reducible rfl
          rotate_left
          · simp only [Act.put, List.setIfInBounds_toArray, List.set_cons_zero, List.set_cons_succ, i64_w, i32_w]
            rfl
          refine pure_ (i := 8) (N := some 6) (v := ?_) (a' := ?_) #[true, true, true, false, true, true, true, false, true, false, false] rfl rfl (by kernel_rfl) (fun _ _ _ h => h) (Or.inl ⟨by rfl, ?_⟩) ?_ ?_
          rotate_left
          · intro w'
            go_simp
            with_reducible rfl
          rotate_left
          · simp only [Act.put, List.setIfInBounds_toArray, List.set_cons_zero, List.set_cons_succ, i64_w, i32_w]
            rfl
          refine take_ (i := 3) (N := some 165) (v := ?_) (a' := ?_) #[true, true, true, true, true, true, true, false, true, false, false] rfl rfl (by kernel_rfl) (fun _ _ _ h => h) (Or.inl ⟨by rfl, ?_⟩) hHeld ?_ ?_
          rotate_left
          · rintro w' ⟨s0, s1⟩
            go_simp
            with_reducible rfl
          rotate_left
          · simp only [Act.put, List.setIfInBounds_toArray, List.set_cons_zero, List.set_cons_succ, i64_w, i32_w]
            rfl
          refine pure_ (i := 9) (N := some 7) (v := ?_) (a' := ?_) #[true, true, true, true, true, true, true, false, true, true, false] rfl rfl (by kernel_rfl) (fun _ _ _ h => h) (Or.inl ⟨by rfl, ?_⟩) ?_ ?_
          rotate_left
          · intro w'
            go_simp
            with_reducible rfl
          rotate_left
          · simp only [Act.put, List.setIfInBounds_toArray, List.set_cons_zero, List.set_cons_succ, i64_w, i32_w]
            rfl
          refine take_ (i := 7) (N := some 169) (v := ?_) (a' := ?_) #[true, true, true, true, true, true, true, true, true, true, false] rfl rfl (by kernel_rfl) (fun _ _ _ h => h) (Or.inl ⟨by rfl, ?_⟩) hHeld ?_ ?_
          rotate_left
          · rintro w' ⟨s0, s1⟩
            go_simp
            with_reducible rfl
          rotate_left
          · simp only [Act.put, List.setIfInBounds_toArray, List.set_cons_zero, List.set_cons_succ, i64_w, i32_w]
            rfl
          refine pure_ (i := 10) (N := some 8) (v := ?_) (a' := ?_) #[true, true, true, true, true, true, true, true, true, true, true] rfl rfl (by kernel_rfl) (fun _ _ _ h => h) (Or.inl ⟨by rfl, ?_⟩) ?_ ?_
          rotate_left
          · intro w'
            go_simp
            with_reducible rfl
          rotate_left
          · simp only [Act.put, List.setIfInBounds_toArray, List.set_cons_zero, List.set_cons_succ, i64_w, i32_w]
            rfl
          refine done_ (by kernel_rfl) ?_
          try clear hHeld
          go_wp2_with fail
          go_ret3
          rw [HRD.out]
          exact ⟨_, rfl, Kd.S_nil _ _ _ _ _, HE.out.ri.2⟩
        · have b3 : decide (t.1 < (a0.size : Int)) = false := decide_eq_false hl
          by_cases hz : t.2.1 = 0
          · have z0 : (t.2.1 != 0) = false := bne_eq_false_iff_eq.2 hz
            have HRD : Aside0 (readD a0 p first = (L, 0, 0)) := ⟨by
              rcases HEND.out with h | h
              · rw [h]; unfold finR; rw [if_neg hl, if_neg (fun e => e hz)]
              · exact absurd hz h.1⟩
            clear hl hz HEND
            as_aux_lemma =>
            go_wp2_with fail
            go_ret3
            rw [HRD.out]
            exact ⟨_, rfl, HC.out.out, HC.out.ri.2⟩
          · have z0 : (t.2.1 != 0) = true := bne_iff_ne.2 hz
            have HRD : Aside0 (readD a0 p first = ([], t.2.1, t.2.2)) := ⟨by
              have h1 : ∀ L', finR a0 L' t = ([], t.2.1, t.2.2) := fun L' => by unfold finR; rw [if_neg hl, if_pos hz]
              rcases HEND.out with h | h
              · rw [h, h1]
              · rw [h.2, h1]⟩
            clear hl hz HEND
            as_aux_lemma =>
            go_upto_region 37 with (fail)
            have HE := Aside0.mk HC.out.drew
            clear c1_1 c2_1 c3_1
            refine start_ (n := 11) (S := fun w' => w'.cell? ⟨g, 2, none⟩ = some (.int .i64 t.2.1) ∧ w'.cell? ⟨g, 3, none⟩ = some (.int .i64 t.2.2)) (ds := []) #[false, false, false, false, false, false, false, false, false, false, false] (by kernel_rfl) rfl rfl ⟨HE.out.ri.c2, HE.out.ri.c3⟩ (fun hHeld => ?_)
            refine pure_ (i := 0) (N := some 162) (v := ?_) (a' := ?_) #[true, false, false, false, false, false, false, false, false, false, false] rfl rfl (by kernel_rfl) (fun _ _ _ h => h) (Or.inl ⟨by rfl, ?_⟩) ?_ ?_
            rotate_left
            · intro w'
              go_simp
              with_reducible rfl
            rotate_left
            · simp only [Act.put, List.setIfInBounds_toArray, List.set_cons_zero, List.set_cons_succ, i64_w, i32_w]
              rfl
            refine pure_ (i := 1) (N := some 163) (v := ?_) (a' := ?_) #[true, true, false, false, false, false, false, false, false, false, false] rfl rfl (by kernel_rfl) (fun _ _ _ h => h) (Or.inl ⟨by rfl, ?_⟩) ?_ ?_
            rotate_left
            · intro w'
              go_simp
              with_reducible rfl
            rotate_left
            · simp only [Act.put, List.setIfInBounds_toArray, List.set_cons_zero, List.set_cons_succ, i64_w, i32_w]
              rfl
            refine pure_ (i := 2) (N := some 164) (v := ?_) (a' := ?_) #[true, true, true, false, false, false, false, false, false, false, false] rfl rfl (by kernel_rfl) (fun _ _ _ h => h) (Or.inl ⟨by rfl, ?_⟩) ?_ ?_
            rotate_left
            · intro w'
              go_simp
              with_reducible rfl
            rotate_left
            · simp only [Act.put, List.setIfInBounds_toArray, List.set_cons_zero, List.set_cons_succ, i64_w, i32_w]
              rfl
            refine pure_ (i := 4) (N := some 166) (v := ?_) (a' := ?_) #[true, true, true, false, true, false, false, false, false, false, false] rfl rfl (by kernel_rfl) (fun _ _ _ h => h) (Or.inl ⟨by rfl, ?_⟩) ?_ ?_
            rotate_left
            · intro w'
              go_simp
              with_reducible rfl
            rotate_left
            · simp only [Act.put, List.setIfInBounds_toArray, List.set_cons_zero, List.set_cons_succ, i64_w, i32_w]
              rfl
            refine pure_ (i := 5) (N := some 167) (v := ?_) (a' := ?_) #[true, true, true, false, true, true, false, false, false, false, false] rfl rfl (by kernel_rfl) (fun _ _ _ h => h) (Or.inl ⟨by rfl, ?_⟩) ?_ ?_
            rotate_left
            · intro w'
              go_simp
              with_reducible rfl
            rotate_left
            · simp only [Act.put, List.setIfInBounds_toArray, List.set_cons_zero, List.set_cons_succ, i64_w, i32_w]
              rfl
            refine pure_ (i := 6) (N := some 168) (v := ?_) (a' := ?_) #[true, true, true, false, true, true, true, false, false, false, false] rfl rfl (by kernel_rfl) (fun _ _ _ h => h) (Or.inl ⟨by rfl, ?_⟩) ?_ ?_
            rotate_left
            · intro w'
              go_simp
              with_reducible rfl
            rotate_left
            · simp only [Act.put, List.setIfInBounds_toArray, List.set_cons_zero, List.set_cons_succ, i64_w, i32_w]
              rfl
            refine pure_ (i := 8) (N := some 6) (v := ?_) (a' := ?_) #[true, true, true, false, true, true, true, false, true, false, false] rfl rfl (by kernel_rfl) (fun _ _ _ h => h) (Or.inl ⟨by rfl, ?_⟩) ?_ ?_
            rotate_left
            · intro w'
              go_simp
              with_reducible rfl
            rotate_left
            · simp only [Act.put, List.setIfInBounds_toArray, List.set_cons_zero, List.set_cons_succ, i64_w, i32_w]
              rfl
            refine take_ (i := 3) (N := some 165) (v := ?_) (a' := ?_) #[true, true, true, true, true, true, true, false, true, false, false] rfl rfl (by kernel_rfl) (fun _ _ _ h => h) (Or.inl ⟨by rfl, ?_⟩) hHeld ?_ ?_
            rotate_left
            · rintro w' ⟨s0, s1⟩
              go_simp
              with_reducible rfl
            rotate_left
            · simp only [Act.put, List.setIfInBounds_toArray, List.set_cons_zero, List.set_cons_succ, i64_w, i32_w]
              rfl
            refine pure_ (i := 9) (N := some 7) (v := ?_) (a' := ?_) #[true, true, true, true, true, true, true, false, true, true, false] rfl rfl (by kernel_rfl) (fun _ _ _ h => h) (Or.inl ⟨by rfl, ?_⟩) ?_ ?_
            rotate_left
            · intro w'
              go_simp
              with_reducible rfl
            rotate_left
            · simp only [Act.put, List.setIfInBounds_toArray, List.set_cons_zero, List.set_cons_succ, i64_w, i32_w]
              rfl
            refine take_ (i := 7) (N := some 169) (v := ?_) (a' := ?_) #[true, true, true, true, true, true, true, true, true, true, false] rfl rfl (by kernel_rfl) (fun _ _ _ h => h) (Or.inl ⟨by rfl, ?_⟩) hHeld ?_ ?_
            rotate_left
            · rintro w' ⟨s0, s1⟩
              go_simp
              with_reducible rfl
            rotate_left
            · simp only [Act.put, List.setIfInBounds_toArray, List.set_cons_zero, List.set_cons_succ, i64_w, i32_w]
              rfl
            refine pure_ (i := 10) (N := some 8) (v := ?_) (a' := ?_) #[true, true, true, true, true, true, true, true, true, true, true] rfl rfl (by kernel_rfl) (fun _ _ _ h => h) (Or.inl ⟨by rfl, ?_⟩) ?_ ?_
            rotate_left
            · intro w'
              go_simp
              with_reducible rfl
            rotate_left
            · simp only [Act.put, List.setIfInBounds_toArray, List.set_cons_zero, List.set_cons_succ, i64_w, i32_w]
              rfl
            refine done_ (by kernel_rfl) ?_
            try clear hHeld
            go_wp2_with fail
            go_ret3
            rw [HRD.out]
            exact ⟨_, rfl, Kd.S_nil _ _ _ _ _, HE.out.ri.2⟩
end Go.Proofs.Ytfnjbmpolggdeaa.MD.RR
end
section
namespace Go.Proofs.Ytfnjbmpolggdeaa.MD
open Go.RowKit Go.Lib Go.Proofs.YtfnjbmpolggdeaaW.PrintWords Go.Proofs.YtfnjbmpolggdeaaW.PrintLast Go.Proofs.YtfnjbmpolggdeaaW.PrintMore
set_option linter.unusedVariables false
set_option linter.unusedSimpArgs false
def Z0 : S80 := ⟨0, [], []⟩
def ZV : S54 := ⟨0, ⟨#[]⟩, 0⟩
def upd (x : Nat → List S54) (q : Nat) (z : List S54) : Nat → List S54 := fun p => if p = q then z else x p
theorem upd_at (x : Nat → List S54) (q : Nat) (z : List S54) : upd x q z q = z := if_pos rfl
theorem upd_ne (x : Nat → List S54) {p q : Nat} (z : List S54) (h : p ≠ q) : upd x q z p = x p := if_neg h
theorem upd_id (x : Nat → List S54) (q : Nat) : upd x q (x q) = x := by
  funext p
  unfold upd
  split
  · next h => rw [h]
  · rfl
structure AS (w W : World) (B : Nat) (ad : Addr) (gv n : Nat) (l : List S80) (e : Nat → Value) (x : Nat → List S54) : Prop where
  bel : Below B w W
  hB : B ≤ W.heap.size
  adv : ad = ⟨gv, 0, none⟩
  vb : ∃ cells, W.heap[gv]? = some (.cells cells 80 (0, 0))
  cell : ∀ i, i < n → W.cell? (ad.add (i * 3)) = some (.int .i64 (l.getD i Z0).f0) ∧ W.cell? ⟨(ad.add (i * 3)).block, (ad.add (i * 3)).off + 1, none⟩ = some (e (2 * i)) ∧ W.cell? ⟨(ad.add (i * 3)).block, (ad.add (i * 3)).off + 2, none⟩ = some (e (2 * i + 1))
  row : ∀ q, q < 2 * n → VR W B (e q) (x q)
  ne : ∀ p q k, p < 2 * n → q < 2 * n → (e p).ownBlock = some k → (e q).ownBlock = some k → p = q
namespace AS
variable {w W W1 : World} {B : Nat} {ad : Addr} {gv n : Nat} {l : List S80} {e : Nat → Value} {x : Nat → List S54}
theorem blk (h : AS w W B ad gv n l e x) (m : Nat) : (ad.add m).block = gv := by rw [h.adv, add_plain]
theorem gne (h : AS w W B ad gv n l e x) {q : Nat} (hq : q < 2 * n) : some gv ≠ (e q).ownBlock := by
  obtain ⟨cells, hb⟩ := h.vb
  exact fun he => (h.row q hq).ne hb (by decide) he.symm
theorem cells_move (h : AS w W B ad gv n l e x) (hm : W1.heap[gv]? = W.heap[gv]?) : ∀ i, i < n → W1.cell? (ad.add (i * 3)) = some (.int .i64 (l.getD i Z0).f0) ∧ W1.cell? ⟨(ad.add (i * 3)).block, (ad.add (i * 3)).off + 1, none⟩ = some (e (2 * i)) ∧ W1.cell? ⟨(ad.add (i * 3)).block, (ad.add (i * 3)).off + 2, none⟩ = some (e (2 * i + 1)) := by
  intro i hi
  obtain ⟨h0, h1, h2⟩ := h.cell i hi
  have hc : ∀ p : Addr, p.block = gv → W1.cell? p = W.cell? p := fun p hp => World.cell?_of_block (by rw [hp]; exact hm)
  have hg := h.blk (i * 3)
  exact ⟨(hc _ hg).trans h0, (hc ⟨_, _, none⟩ hg).trans h1, (hc ⟨_, _, none⟩ hg).trans h2⟩
theorem move (h : AS w W B ad gv n l e x) {q : Nat} (hq : q < 2 * n) {z : List S54} (hm : ∀ k, k < W.heap.size → some k ≠ (e q).ownBlock → W1.heap[k]? = W.heap[k]?) (hr : VR W1 B (e q) z) (hb : Below B w W1) (hs : W.heap.size ≤ W1.heap.size) : AS w W1 B ad gv n l e (upd x q z) := by
  obtain ⟨cells, hvb⟩ := h.vb
  have hgv := hm gv (blk_lt hvb) (h.gne hq)
  exact {
    bel := hb
    hB := Nat.le_trans h.hB hs
    adv := h.adv
    vb := ⟨cells, hgv.trans hvb⟩
    cell := h.cells_move hgv
    row := fun p hp => by
      by_cases hpq : p = q
      · rw [hpq, upd_at]; exact hr
      · rw [upd_ne _ _ hpq]
        exact (h.row p hp).step (fun k hk => hm k (Kd.R_lt (h.row p hp) k hk) (fun he => hpq (h.ne p q k hp hq hk he.symm)))
    ne := h.ne }
theorem keep (h : AS w W B ad gv n l e x) {q : Nat} (hq : q < 2 * n) (hm : ∀ k, k < W.heap.size → some k ≠ (e q).ownBlock → W1.heap[k]? = W.heap[k]?) (hr : VR W1 B (e q) (x q)) (hb : Below B w W1) (hs : W.heap.size ≤ W1.heap.size) : AS w W1 B ad gv n l e x := by
  have h1 := h.move hq hm hr hb hs
  rw [upd_id] at h1
  exact h1
theorem below (h : AS w W B ad gv n l e x) (hb : Below W.heap.size W W1) : AS w W1 B ad gv n l e x := by
  obtain ⟨cells, hvb⟩ := h.vb
  have hgv := hb.block gv (blk_lt hvb)
  exact {
    bel := below_then h.bel h.hB hb
    hB := Nat.le_trans h.hB hb.size
    adv := h.adv
    vb := ⟨cells, hgv.trans hvb⟩
    cell := h.cells_move hgv
    row := fun p hp => (h.row p hp).step (fun k hk => hb.block k (Kd.R_lt (h.row p hp) k hk))
    ne := h.ne }
theorem put (h : AS w W B ad gv n l e x) {q : Nat} (hq : q < 2 * n) {b m c : Nat} (he : e q = .slice (some ⟨b, 0, none⟩) m c) {z : List S54} (hg : W.grownBy W1 (some b)) (hr : VR W1 B (.slice (some ⟨b, 0, none⟩) m c) z) (hb : Below B w W1) : AS w W1 B ad gv n l e (upd x q z) := by
  rw [← he] at hr
  exact h.move hq (fun k hk hne => hg.block k hk (fun ek => hne (by rw [he]; exact ek))) hr hb hg.size
end AS
theorem keep_append {ops : Array Oper} {rest : List Oper} {o : Oper} {a : Act} {Q : Exit → Act → World → Prop} {w W : World} {B : Nat} {v : Value} {xs : List S54} (hgd : o.guard = none) (s x : Operand)
    (ho : o.op = .call { callee := .builtin .append, args := #[s, x], argTypes := #[44, 44] }) (hv : VR W B v xs) (hs : a.eval s = v) (hx : a.eval x = .slice (some ⟨W.heap.size, 0, none⟩) 2 2) (hbel : Below B w W) (hB : B ≤ W.heap.size) (hl : xs.length ≤ 1000000)
    (h : ∀ v1 w1, (∀ k, k < W.heap.size → some k ≠ v.ownBlock → w1.heap[k]? = W.heap[k]?) → W.heap.size ≤ w1.heap.size → VR w1 B v xs → Below B w w1 → wpList Try.prog ops Q rest (a.put o.dst v1) w1) :
    wpList Try.prog ops Q (o :: rest) a (W.alloc (.cells #[.int .u8 80, .string ⟨#[]⟩, .int .i64 0, .int .u8 80, .string ⟨#[]⟩, .int .i64 0] 54)) := by
  generalize hnews : [Value.int .u8 80, .string ⟨#[]⟩, .int .i64 0, .int .u8 80, .string ⟨#[]⟩, .int .i64 0] = news
  have hnl : news.length = 2 * 3 := by rw [← hnews]; rfl
  have hn1 : ∀ u ∈ news, u.oneCell' = true := by
    have h2 : news.all (fun u => u.oneCell') = true := by rw [← hnews]; rfl
    exact List.all_eq_true.1 h2
  clear hnews
  have hb1 := below_alloc (Below.refl W.heap.size W) (.cells news.toArray 54)
  have hv1 : VR (W.alloc (.cells news.toArray 54)) B v xs := hv.step (fun k hk => hb1.block k (Kd.R_lt hv k hk))
  have hbel1 : Below B w (W.alloc (.cells news.toArray 54)) := below_then hbel hB hb1
  have htmp : (W.alloc (.cells news.toArray 54)).heap[W.heap.size]? = some (.cells news.toArray 54 (0, 0)) := Array.getElem?_push_size
  have hcell : ∀ j u, news[j]? = some u → (W.alloc (.cells news.toArray 54)).cell? ((⟨W.heap.size, 0, none⟩ : Addr).add j) = some u := fun j u hj => by
    rw [add_plain, blk_cell htmp j]
    simpa using hj
  obtain ⟨i, hi, hz⟩ := Option.map_eq_some_iff.1 info54
  simp only [Prod.mk.injEq] at hz
  obtain ⟨z1, z2, z3⟩ := hz
  have hsz1 : W.heap.size ≤ (W.alloc (.cells news.toArray 54)).heap.size := hb1.size
  generalize hW1 : W.alloc (.cells news.toArray 54) = W1 at *
  have fin : ∀ v1 w1, W1.grownBy w1 none → wpList Try.prog ops Q rest (a.put o.dst v1) w1 := fun v1 w1 hg => by
    have hbb : Below W1.heap.size W1 w1 := ⟨hg.os, hg.tape, hg.output, hg.size, fun k hk => hg.block k hk (by simp)⟩
    refine h v1 w1 (fun k hk _ => (hbb.block k (Nat.lt_of_lt_of_le hk hsz1)).trans (hb1.block k hk)) (Nat.le_trans hsz1 hg.size) (hv1.step (fun k hk => hbb.block k (Kd.R_lt hv1 k hk))) (below_then hbel1 (Nat.le_trans hB hsz1) hbb)
  obtain ⟨hok, inner, ⟨hl0, ⟨hv0, hn⟩ | ⟨g, cap, cur, hv0, hg, hb, hnc, hcm, hsz, htk⟩⟩, hreps⟩ := hv1
  · have hx0 : xs.length = 0 := hn
    rw [hx0] at hl0
    obtain rfl : inner = [] := List.eq_nil_of_length_eq_zero (by rw [hl0]; exact Nat.zero_mul _)
    subst hv0
    exact wpList_append_grows _ hgd s x 44 ho 54 i (.agg #[(.int .u8 0), (.string ⟨#[]⟩), (.int .i64 0)]) 3 32 Try.underlying44 hi z1 z2 z3 rfl (by decide) none 0 0 [] hs (fun _ => ⟨rfl, rfl⟩) rfl (fun b hb => by cases hb) ⟨W.heap.size, 0, none⟩ 2 2 news hx hnl hcell hn1 (by decide) (by decide) (by decide) (fun v' w' _ hg => fin v' w' hg)
  · subst hv0
    have hcur : ∀ j, W1.cell? ⟨g, j, none⟩ = cur[j]? := fun j => blk_cell hb j
    have hl0' : inner.length = xs.length * 3 := hl0
    have hsz' : cur.size = cap * 3 := hsz
    have htk' : cur.toList.take (xs.length * 3) = inner := htk
    refine wpList_append_arg _ hgd s x 44 ho 54 i (.agg #[(.int .u8 0), (.string ⟨#[]⟩), (.int .i64 0)]) 3 32 Try.underlying44 hi z1 z2 z3 rfl (by decide) g 0 xs.length cap inner hs hl0' ?_ ⟨W.heap.size, 0, none⟩ 2 2 news hx hnl hcell hn1 ?_ (by unfold maxLen; omega) (by omega) ?_ (fun _ v' w' _ hg => fin v' w' hg)
    · intro j u hj
      rw [Nat.zero_add, hcur]
      have hjl : j < inner.length := (List.getElem?_eq_some_iff.1 hj).1
      rw [← htk', List.getElem?_take_of_lt (by omega)] at hj
      simpa using hj
    · intro hroom j hj
      have hj2 : j < 6 := by rw [hnl] at hj; exact hj
      refine ⟨?_, blk_frozen hb _⟩
      rw [hcur, Array.getElem?_eq_getElem (by omega)]
      rfl
    · intro hroom
      rw [Nat.zero_add]
      obtain ⟨cur', c1, c2, c3⟩ := setCells_row news (xs.length * 3) W1 cur hb (by rw [hnl]; omega)
      obtain ⟨s1, s2, s3, s4⟩ := setCells_same g news (xs.length * 3) W1
      have hfar : ∀ k, k ≠ g → (W1.setCells g (xs.length * 3) news).heap[k]? = W1.heap[k]? := fun k hk => setCells_far news _ k hk
      have hcl : cur.toList.length = cap * 3 := by rw [Array.length_toList]; exact hsz'
      have hr2 : VR (W1.setCells g (xs.length * 3) news) B (.slice (some ⟨g, 0, none⟩) xs.length cap) xs := by
        refine ⟨hok, inner, ⟨hl0, .inr ⟨g, cap, cur', rfl, hg, c1, hnc, hcm, by rw [c2]; exact hsz, ?_⟩⟩, hreps.imp_ (fun p c hp => ?_)⟩
        · show cur'.toList.take (xs.length * 3) = inner
          rw [c3, List.append_assoc, List.take_append_of_le_length (by rw [List.length_take, hcl]; omega), List.take_take, Nat.min_self]
          exact htk'
        · have e1 := k54_openM hp
          subst e1
          exact k54_mkM _ _ _ _
      refine h _ _ (fun k hk hne => ?_) ?_ hr2 ⟨?_, ?_, ?_, ?_, ?_⟩
      · exact (hfar k (fun e => hne (by rw [e]; rfl))).trans (hb1.block k hk)
      · rw [s4]; exact hsz1
      · exact s1.trans hbel1.os
      · exact s2.trans hbel1.tape
      · exact s3.trans hbel1.output
      · rw [s4]; exact hbel1.size
      · exact fun k hk => (hfar k (fun e => by omega)).trans (hbel1.block k hk)
def rowX (l : List S80) (q : Nat) : List S54 := if q % 2 = 0 then (l.getD (q / 2) Z0).f1 else (l.getD (q / 2) Z0).f2
theorem AS.start {w W : World} {B c : Nat} {ad : Addr} {l : List S80} (hS : FR W B (.slice (some ad) l.length c) l) (hb : Below B w W) (hB : B ≤ W.heap.size) : ∃ gv e, AS w W B ad gv l.length l e (rowX l) := by
  obtain ⟨gv, rfl⟩ := Kd.R_head (Kd.S_R hS)
  obtain ⟨cells, hvb⟩ := Kd.S_typed hS gv rfl
  obtain ⟨f, hR⟩ := hS
  have key : ∀ i, i < l.length → ∃ v6 v7, W.cell? ⟨gv, i * 3, none⟩ = some (.int .i64 (l.getD i Z0).f0) ∧ W.cell? ⟨gv, i * 3 + 1, none⟩ = some v6 ∧ W.cell? ⟨gv, i * 3 + 2, none⟩ = some v7 ∧ VR W B v6 (l.getD i Z0).f1 ∧ VR W B v7 (l.getD i Z0).f2 ∧ (∀ k, v6.ownBlock = some k → f k = i ∧ v7.ownBlock ≠ some k) ∧ (∀ k, v7.ownBlock = some k → f k = i) := by
    intro i hi
    obtain ⟨cs, hcl, hM, hcc⟩ := Kd.R_get hR (Z0, 0) (i : Int) (by omega) (by omega)
    have e1 : l.zipIdx.getD ((i : Int)).toNat (Z0, 0) = (l.getD i Z0, i) := by
      rw [Int.toNat_natCast, List.getD_eq_getElem?_getD, List.getD_eq_getElem?_getD, List.getElem?_zipIdx, List.getElem?_eq_getElem hi]
      simp
    rw [e1] at hM
    have hM2 : kF.M W B (fun k => ((True ∧ some k ≠ (Value.slice (some ⟨gv, 0, none⟩) l.length c).ownBlock) ∧ f k = i)) (l.getD i Z0) cs := hM
    obtain ⟨v6, v7, hcs, g6, g7⟩ := k80_openM hM2.1
    have hap := hM2.2
    subst hcs
    have hcell : ∀ j u, [Value.int .i64 (l.getD i Z0).f0, v6, v7][j]? = some u → W.cell? ⟨gv, i * 3 + j, none⟩ = some u := fun j u hj => by
      have h1 := hcc j u hj
      rw [add_plain, Int.toNat_natCast] at h1
      exact h1
    refine ⟨v6, v7, hcell 0 _ rfl, hcell 1 _ rfl, hcell 2 _ rfl, Kd.R_mono g6 (fun _ _ => trivial), Kd.R_mono g7 (fun _ _ => trivial), fun k hk => ⟨(g6.1 k hk).2, hap v6 v7 rfl rfl k hk⟩, fun k hk => (g7.1 k hk).2⟩
  let e : Nat → Value := fun q => (W.cell? ⟨gv, q / 2 * 3 + 1 + q % 2, none⟩).getD (.slice none 0 0)
  have he6 : ∀ i v, W.cell? ⟨gv, i * 3 + 1, none⟩ = some v → e (2 * i) = v := fun i v h => by
    show (W.cell? ⟨gv, 2 * i / 2 * 3 + 1 + 2 * i % 2, none⟩).getD _ = v
    rw [show 2 * i / 2 * 3 + 1 + 2 * i % 2 = i * 3 + 1 by omega, h]; rfl
  have he7 : ∀ i v, W.cell? ⟨gv, i * 3 + 2, none⟩ = some v → e (2 * i + 1) = v := fun i v h => by
    show (W.cell? ⟨gv, (2 * i + 1) / 2 * 3 + 1 + (2 * i + 1) % 2, none⟩).getD _ = v
    rw [show (2 * i + 1) / 2 * 3 + 1 + (2 * i + 1) % 2 = i * 3 + 2 by omega, h]; rfl
  have hown : ∀ q, q < 2 * l.length → ∀ k, (e q).ownBlock = some k → f k = q / 2 := fun q hq k hk => by
    obtain ⟨v6, v7, _, c6, c7, _, _, a6, a7⟩ := key (q / 2) (by omega)
    rcases Nat.mod_two_eq_zero_or_one q with hm | hm
    · have h1 : q = 2 * (q / 2) := by omega
      rw [h1, he6 _ _ c6] at hk
      exact (a6 k hk).1
    · have h1 : q = 2 * (q / 2) + 1 := by omega
      rw [h1, he7 _ _ c7] at hk
      exact a7 k hk
  refine ⟨gv, e, { bel := hb, hB := hB, adv := rfl, vb := ⟨cells, hvb⟩, cell := fun i hi => ?_, row := fun q hq => ?_, ne := fun p q k hp hq h1 h2 => ?_ }⟩
  · obtain ⟨v6, v7, c0, c6, c7, _, _, _, _⟩ := key i hi
    rw [add_plain, he6 _ _ c6, he7 _ _ c7]
    exact ⟨c0, c6, c7⟩
  · obtain ⟨v6, v7, _, c6, c7, r6, r7, _, _⟩ := key (q / 2) (by omega)
    rcases Nat.mod_two_eq_zero_or_one q with hm | hm
    · have h1 : q = 2 * (q / 2) := by omega
      have h2 : e q = v6 := by rw [h1]; exact he6 _ _ c6
      rw [h2]
      unfold rowX
      rw [if_pos hm]
      exact r6
    · have h1 : q = 2 * (q / 2) + 1 := by omega
      have h2 : e q = v7 := by rw [h1]; exact he7 _ _ c7
      rw [h2]
      unfold rowX
      rw [if_neg (by omega)]
      exact r7
  · have f1 := hown p hp k h1
    have f2 := hown q hq k h2
    have hpq : p / 2 = q / 2 := by omega
    obtain ⟨v6, v7, _, c6, c7, _, _, a6, a7⟩ := key (q / 2) (by omega)
    rcases Nat.mod_two_eq_zero_or_one p with mp | mp <;> rcases Nat.mod_two_eq_zero_or_one q with mq | mq
    · omega
    · exfalso
      have e1 : p = 2 * (q / 2) := by omega
      have e2 : q = 2 * (q / 2) + 1 := by omega
      rw [e1, he6 _ _ c6] at h1
      rw [e2, he7 _ _ c7] at h2
      exact (a6 k h1).2 h2
    · exfalso
      have e1 : p = 2 * (q / 2) + 1 := by omega
      have e2 : q = 2 * (q / 2) := by omega
      rw [e1, he7 _ _ c7] at h1
      rw [e2, he6 _ _ c6] at h2
      exact (a6 k h2).2 h1
    · omega
def mkV (q : Nat) : S54 := ⟨if q % 2 = 0 then 78 else 79, ⟨#[]⟩, ((q / 2 : Nat) : Int)⟩
def Lens (l : List S80) (x : Nat → List S54) : Prop := ∀ q, q < 2 * l.length → (x q).length = (rowX l q).length
def Fill (x : Nat → List S54) (q m : Nat) : Prop := ∀ i : Nat, i < m → rd_T54 (x q) (i : Int) = mkV q
theorem Lens.upd {l : List S80} {x : Nat → List S54} (h : Lens l x) (q j : Nat) (v : S54) : Lens l (upd x q ((x q).set j v)) := fun p hp => by
  by_cases hpq : p = q
  · rw [hpq, upd_at, List.length_set, ← hpq]; exact h p hp
  · rw [upd_ne _ _ hpq]; exact h p hp
theorem Fill.zero (x : Nat → List S54) (q : Nat) : Fill x q 0 := fun i hi => absurd hi (Nat.not_lt_zero _)
theorem Fill.other {x : Nat → List S54} {p m : Nat} (h : Fill x p m) {q : Nat} (z : List S54) (hne : p ≠ q) : Fill (upd x q z) p m := fun i hi => by rw [upd_ne _ _ hne]; exact h i hi
theorem Fill.step {x : Nat → List S54} {q j : Nat} (h : Fill x q j) (hj : j < (x q).length) {v : S54} (hv : v = mkV q) : Fill (upd x q ((x q).set j v)) q (j + 1) := fun i hi => by
  rw [upd_at]
  unfold rd_T54
  rw [Int.toNat_natCast, List.getD_eq_getElem?_getD, List.getElem?_set]
  by_cases hij : j = i
  · rw [if_pos hij, if_pos (by omega)]
    exact hv
  · rw [if_neg hij]
    have := h i (by omega)
    unfold rd_T54 at this
    rw [Int.toNat_natCast, List.getD_eq_getElem?_getD] at this
    exact this
theorem AS.keep' {w W W1 : World} {B : Nat} {ad : Addr} {gv n : Nat} {l : List S80} {e : Nat → Value} {x : Nat → List S54} (h : AS w W B ad gv n l e x) {q : Nat} (hq : q < 2 * n) {v : Value} (he : e q = v) (hm : ∀ k, k < W.heap.size → some k ≠ v.ownBlock → W1.heap[k]? = W.heap[k]?) (hs : W.heap.size ≤ W1.heap.size) (hr : VR W1 B v (x q)) (hb : Below B w W1) : AS w W1 B ad gv n l e x := by
  subst he
  exact h.keep hq hm hr hb hs
theorem AS.sl {w W : World} {B : Nat} {ad : Addr} {gv : Nat} {l : List S80} {e : Nat → Value} {x : Nat → List S54} (h : AS w W B ad gv l.length l e x) (hL : Lens l x) {q : Nat} (hq : q < 2 * l.length) : ∃ A c, e q = .slice A (rowX l q).length c := by
  obtain ⟨A, c, hv⟩ := Kd.R_slice (h.row q hq)
  rw [hL q hq] at hv
  exact ⟨A, c, hv⟩
theorem AS.rowOf {w W : World} {B : Nat} {ad : Addr} {gv n : Nat} {l : List S80} {e : Nat → Value} {x : Nat → List S54} (h : AS w W B ad gv n l e x) {q : Nat} (hq : q < 2 * n) {v : Value} (he : e q = v) : VR W B v (x q) := he ▸ h.row q hq
theorem vr_some {W : World} {B : Nat} {A : Option Addr} {m c : Nat} {xs : List S54} (h : VR W B (.slice A m c) xs) {j : Nat} (hj : j < m) : ∃ b, A = .some ⟨b, 0, none⟩ := by
  have hn := (Kd.R_reads' h).1
  obtain ⟨b, cap, hv, _⟩ := Kd.R_form h (by omega)
  injection hv with hA _ _
  exact ⟨b, hA⟩
theorem vr_cell {W : World} {B b m c : Nat} {xs : List S54} (h : VR W B (.slice (some ⟨b, 0, none⟩) m c) xs) {j : Nat} (hj : j < m) : ∀ i u, [Value.int .u8 (xs.getD j ZV).f0, .string (xs.getD j ZV).f1, .int .i64 (xs.getD j ZV).f2][i]? = some u → W.cell? ⟨b, j * 3 + i, none⟩ = some u := by
  obtain ⟨cs, hcl, hM, hcc⟩ := Kd.R_get h ZV (j : Int) (by omega) (by omega)
  have e1 := k54_openM hM
  subst e1
  intro i u hi
  rw [Int.toNat_natCast] at hcc
  have h1 := hcc i u hi
  rw [add_plain] at h1
  exact h1
end Go.Proofs.Ytfnjbmpolggdeaa.MD
end
section
namespace Go.Proofs.Ytfnjbmpolggdeaa.MD
open Go.RowKit Go.Lib Go.Proofs.YtfnjbmpolggdeaaW.PrintWords Go.Proofs.YtfnjbmpolggdeaaW.PrintLast Go.Proofs.YtfnjbmpolggdeaaW.PrintMore
set_option linter.unusedVariables false
set_option linter.unusedSimpArgs false
theorem sizeV : (Try.prog.info? 54).map (·.size) = some 3 := by
  obtain ⟨i, hi, hz⟩ := Option.map_eq_some_iff.1 info54
  simp only [Prod.mk.injEq] at hz
  rw [hi, Option.map_some, hz.2.1]
theorem mkV0 (k : Nat) : (⟨78, ⟨#[]⟩, (k : Int)⟩ : S54) = mkV (2 * k) := by
  unfold mkV
  rw [if_pos (by omega), show 2 * k / 2 = k by omega]
theorem mkV1 (k : Nat) : (⟨79, ⟨#[]⟩, (k : Int)⟩ : S54) = mkV (2 * k + 1) := by
  unfold mkV
  rw [if_neg (by omega), show (2 * k + 1) / 2 = k by omega]
theorem ms_valA {k m : Nat} {v : Value} (h1 : k < m) (h2 : v = .int .i64 ((k + 1 : Nat) : Int)) : m - (intOf v).toNat < m - (intOf (.int .i64 (k : Int))).toNat := by
  subst h2
  show m - (((k + 1 : Nat) : Int)).toNat < m - ((k : Int)).toNat
  rw [Int.toNat_natCast, Int.toNat_natCast]; omega
set_option maxHeartbeats 16000000 in
set_option maxRecDepth 100000 in
theorem apart_nil (w0 w : World) (A : Option Addr) (c : Nat) (hb : Below w0.heap.size w0 w) : Calls Try.prog 36 #[.slice A 0 c] w fun e w' => e = .returned (.bool true) ∧ Below w0.heap.size w0 w' := by
  have HB := Aside0.mk hb
  clear hb
  go_enter Try.func36, Try.ntmps36
  have bk : decide ((0 : Int) < (0 : Int)) = false := by decide
  go_wp2_with fail
  go_loopw [15] (fun i wr => i = .int .i64 0 ∧ Aside0 (Below w0.heap.size w0 wr)) (fun _ _ => 0)
  case atStart => exact ⟨rfl, HB⟩
  case round =>
  clear HB
  obtain ⟨rfl, HB⟩ := hrel
  go_wp2_with fail
  go_loopw [59] (fun i wr => i = .int .i64 0 ∧ Aside0 (Below w0.heap.size w0 wr)) (fun _ _ => 0)
  case atStart => exact ⟨rfl, HB⟩
  case round =>
  clear HB
  obtain ⟨rfl, HB⟩ := hrel
  go_wp2_with fail
  go_loopw [83] (fun i wr => i = .int .i64 0 ∧ Aside0 (Below w0.heap.size w0 wr)) (fun _ _ => 0)
  case atStart => exact ⟨rfl, HB⟩
  case round =>
  clear HB
  obtain ⟨rfl, HB⟩ := hrel
  go_wp2
  go_ret
  exact ⟨rfl, HB.out⟩
set_option maxHeartbeats 16000000 in
set_option maxRecDepth 100000 in
theorem apart_some (w0 w : World) (ad : Addr) (c : Nat) (l : List S80) (hS : FR w w0.heap.size (.slice (some ad) l.length c) l) (hb : Below w0.heap.size w0 w) (hn : l.length ≤ 100000) (hl : ∀ q, q < 2 * l.length → (rowX l q).length ≤ 1000000) :
    Calls Try.prog 36 #[.slice (some ad) l.length c] w fun e w' => e = .returned (.bool true) ∧ Below w0.heap.size w0 w' := by
  have HN := Aside0.mk hn
  have HB := Aside0.mk hl
  obtain ⟨gv, e, h⟩ := AS.start hS hb hb.size
  have H0 := Aside0.mk h
  clear h hS hb hn hl
  go_enter Try.func36, Try.ntmps36
  go_wp2_with fail
  go_loopw [15] (fun i wr => ∃ (k : Nat) (x : Nat → List S54), k ≤ l.length ∧ i = .int .i64 (k : Int) ∧ Aside0 (AS w0 wr w0.heap.size ad gv l.length l e x) ∧ Aside0 (Lens l x) ∧ Aside0 (∀ q, q < 2 * k → Fill x q (rowX l q).length)) (fun i _ => l.length - (intOf i).toNat)
  case atStart => exact ⟨0, _, Nat.zero_le _, rfl, H0, ⟨fun q _ => rfl⟩, ⟨fun q hq => absurd hq (by omega)⟩⟩
  case round =>
    clear H0
    obtain ⟨k, x, hk, rfl, H, HL, HF⟩ := hrel
    by_cases hlt : k < l.length
    · have bk : decide ((k : Int) < (l.length : Int)) = true := decide_eq_true (by omega)
      have bkn : decide (k < l.length) = true := decide_eq_true (by omega)
      obtain ⟨A6, c6, he6⟩ := H.out.sl HL.out (q := 2 * k) (by omega)
      obtain ⟨A7, c7, he7⟩ := H.out.sl HL.out (q := 2 * k + 1) (by omega)
      obtain ⟨m6, hm6⟩ : ∃ m, (rowX l (2 * k)).length = m := ⟨_, rfl⟩
      obtain ⟨m7, hm7⟩ : ∃ m, (rowX l (2 * k + 1)).length = m := ⟨_, rfl⟩
      rw [hm6] at he6
      rw [hm7] at he7
      have HQ6 := Aside0.mk hm6
      have HQ7 := Aside0.mk hm7
      have HM6 := Aside0.mk (show m6 ≤ 1000000 by rw [← hm6]; exact HB.out (2 * k) (by omega))
      have HM7 := Aside0.mk (show m7 ≤ 1000000 by rw [← hm7]; exact HB.out (2 * k + 1) (by omega))
      have HE6 := Aside0.mk he6
      have HE7 := Aside0.mk he7
      have HLT := Aside0.mk hlt
      clear he6 he7 hm6 hm7
      obtain ⟨a0, a6, a7⟩ := H.out.cell k HLT.out
      rw [HE6.out] at a6
      rw [HE7.out] at a7
      clear hk
      as_aux_lemma =>
      go_wp2_with fail
      go_loopw [24] (fun i wr => ∃ (j : Nat) (x : Nat → List S54), j ≤ m6 ∧ i = .int .i64 (j : Int) ∧ Aside0 (AS w0 wr w0.heap.size ad gv l.length l e x) ∧ Aside0 (Lens l x) ∧ Aside0 (∀ q, q < 2 * k → Fill x q (rowX l q).length) ∧ Aside0 (Fill x (2 * k) j)) (fun i _ => m6 - (intOf i).toNat)
      case atStart => exact ⟨0, _, Nat.zero_le _, rfl, H, HL, HF, ⟨Fill.zero _ _⟩⟩
      case round =>
        clear H HL HF
        try clear a0 a6 a7
        obtain ⟨j, x, hj, rfl, H, HL, HF, HJ⟩ := hrel
        obtain ⟨a0, a6, a7⟩ := H.out.cell k HLT.out
        rw [HE6.out] at a6
        rw [HE7.out] at a7
        by_cases hjm : j < m6
        · have bj : decide ((j : Int) < (m6 : Int)) = true := decide_eq_true (by omega)
          have bjn : decide (j < m6) = true := decide_eq_true (by omega)
          have HR := Aside0.mk (H.out.rowOf (q := 2 * k) (by have := HLT.out; omega) HE6.out)
          obtain ⟨b, hA⟩ := vr_some HR.out hjm
          subst hA
          have HCC := Aside0.mk (vr_cell HR.out hjm)
          have wk : wrap64 ((j : Int) + 1) = ((j + 1 : Nat) : Int) := by rw [← i64_w, IntKind.wrap_i64]; have := HM6.out; omega
          have WN := Aside0.mk (congrArg (Value.int IntKind.i64) wk)
          have WI := Aside0.mk wk
          have HJM := Aside0.mk hjm
          have HXL := Aside0.mk (show (x (2 * k)).length = m6 by rw [HL.out _ (by have := HLT.out; omega)]; exact HQ6.out)
          have HQQ := Aside0.mk (show 2 * k < 2 * l.length by have := HLT.out; omega)
          have HKL := Aside0.mk (show k ≤ 100000 by have := HLT.out; have := HN.out; omega)
          clear wk hj
          as_aux_lemma =>
          go_wp2_with (first | ((with_reducible refine gate_ (.store 54 (.tmp 35) (.tmp 34)) rfl ?_); refine Kd.R_store k54 (w0 := w0) w0.heap.size rfl rfl 54 (.tmp 35) (.tmp 34) rfl 54 (g := b) (n := m6) (cap := c6) (o' := j * 3) (j : Int) 0 (x (2 * k)) ⟨78, ⟨#[]⟩, (k : Int)⟩ (.agg #[.int .u8 78, .string ⟨#[]⟩, .int .i64 (k : Int)]) [.int .u8 78, .string ⟨#[]⟩, .int .i64 (k : Int)] [.int .u8 ((x (2 * k)).getD j ZV).f0, .string ((x (2 * k)).getD j ZV).f1, .int .i64 ((x (2 * k)).getD j ZV).f2] (fun _ => True) (fun _ => False) rfl rfl rfl rfl sizeV (by intro q hq; simp at hq; rcases hq with rfl | rfl | rfl <;> rfl) HR.out (by omega) (by have := HJM.out; omega) rfl (fun i u hi => by have := HCC.out i u hi; rw [Int.toNat_natCast]; exact this) (Nat.le_refl _) (k54_mkM _ _ _ _) (fun _ hk => hk.elim) H.out.bel ?_; intro w1 hr1 hb1 hg1) | go_in)
          have H1 := Aside0.mk (H.out.put (q := 2 * k) HQQ.out (b := b) HE6.out hg1 hr1 hb1)
          clear hr1 hb1 hg1
          go_roundw
          case rel => exact ⟨j + 1, _, HJM.out, by first | exact WN.out | exact WI.out, H1, ⟨by rw [Int.toNat_natCast]; exact HL.out.upd _ _ _⟩, ⟨fun q hq => (HF.out q hq).other _ (by omega)⟩, ⟨by rw [Int.toNat_natCast]; exact HJ.out.step (by rw [HXL.out]; exact HJM.out) (mkV0 k)⟩⟩
          case measure => exact ms_valA HJM.out WN.out
        · have hjm2 : m6 = j := by omega
          subst hjm2
          have bj : decide ((m6 : Int) < (m6 : Int)) = false := decide_eq_false (by omega)
          have bjn : decide (m6 < m6) = false := decide_eq_false (by omega)
          clear hjm hj
          have HF6 := HJ
          go_wp2_with fail
          go_loopw [43] (fun i wr => ∃ (j : Nat) (x : Nat → List S54), j ≤ m7 ∧ i = .int .i64 (j : Int) ∧ Aside0 (AS w0 wr w0.heap.size ad gv l.length l e x) ∧ Aside0 (Lens l x) ∧ Aside0 (∀ q, q < 2 * k → Fill x q (rowX l q).length) ∧ Aside0 (Fill x (2 * k) m6) ∧ Aside0 (Fill x (2 * k + 1) j)) (fun i _ => m7 - (intOf i).toNat)
          case atStart => exact ⟨0, _, Nat.zero_le _, rfl, H, HL, HF, HF6, ⟨Fill.zero _ _⟩⟩
          case round =>
            clear H HL HF HF6
            try clear a0 a6 a7
            obtain ⟨j, x, hj, rfl, H, HL, HF, HF6, HJ⟩ := hrel
            obtain ⟨a0, a6, a7⟩ := H.out.cell k HLT.out
            rw [HE6.out] at a6
            rw [HE7.out] at a7
            by_cases hjm : j < m7
            · have bj : decide ((j : Int) < (m7 : Int)) = true := decide_eq_true (by omega)
              have bjn : decide (j < m7) = true := decide_eq_true (by omega)
              have HR := Aside0.mk (H.out.rowOf (q := 2 * k + 1) (by have := HLT.out; omega) HE7.out)
              obtain ⟨b, hA⟩ := vr_some HR.out hjm
              subst hA
              have HCC := Aside0.mk (vr_cell HR.out hjm)
              have wk : wrap64 ((j : Int) + 1) = ((j + 1 : Nat) : Int) := by rw [← i64_w, IntKind.wrap_i64]; have := HM7.out; omega
              have WN := Aside0.mk (congrArg (Value.int IntKind.i64) wk)
              have WI := Aside0.mk wk
              have HJM := Aside0.mk hjm
              have HXL := Aside0.mk (show (x (2 * k + 1)).length = m7 by rw [HL.out _ (by have := HLT.out; omega)]; exact HQ7.out)
              have HQQ := Aside0.mk (show 2 * k + 1 < 2 * l.length by have := HLT.out; omega)
              have HKL := Aside0.mk (show k ≤ 100000 by have := HLT.out; have := HN.out; omega)
              clear wk hj
              as_aux_lemma =>
              go_wp2_with (first | ((with_reducible refine gate_ (.store 54 (.tmp 54) (.tmp 53)) rfl ?_); refine Kd.R_store k54 (w0 := w0) w0.heap.size rfl rfl 54 (.tmp 54) (.tmp 53) rfl 54 (g := b) (n := m7) (cap := c7) (o' := j * 3) (j : Int) 0 (x (2 * k + 1)) ⟨79, ⟨#[]⟩, (k : Int)⟩ (.agg #[.int .u8 79, .string ⟨#[]⟩, .int .i64 (k : Int)]) [.int .u8 79, .string ⟨#[]⟩, .int .i64 (k : Int)] [.int .u8 ((x (2 * k + 1)).getD j ZV).f0, .string ((x (2 * k + 1)).getD j ZV).f1, .int .i64 ((x (2 * k + 1)).getD j ZV).f2] (fun _ => True) (fun _ => False) rfl rfl rfl rfl sizeV (by intro q hq; simp at hq; rcases hq with rfl | rfl | rfl <;> rfl) HR.out (by omega) (by have := HJM.out; omega) rfl (fun i u hi => by have := HCC.out i u hi; rw [Int.toNat_natCast]; exact this) (Nat.le_refl _) (k54_mkM _ _ _ _) (fun _ hk => hk.elim) H.out.bel ?_; intro w1 hr1 hb1 hg1) | go_in)
              have H1 := Aside0.mk (H.out.put (q := 2 * k + 1) HQQ.out (b := b) HE7.out hg1 hr1 hb1)
              clear hr1 hb1 hg1
              go_roundw
              case rel => exact ⟨j + 1, _, HJM.out, by first | exact WN.out | exact WI.out, H1, ⟨by rw [Int.toNat_natCast]; exact HL.out.upd _ _ _⟩, ⟨fun q hq => (HF.out q hq).other _ (by omega)⟩, ⟨HF6.out.other _ (by omega)⟩, ⟨by rw [Int.toNat_natCast]; exact HJ.out.step (by rw [HXL.out]; exact HJM.out) (mkV1 k)⟩⟩
              case measure => exact ms_valA HJM.out WN.out
            · have hjm2 : m7 = j := by omega
              subst hjm2
              have bj : decide ((m7 : Int) < (m7 : Int)) = false := decide_eq_false (by omega)
              have bjn : decide (m7 < m7) = false := decide_eq_false (by omega)
              clear hjm hj
              have wk : wrap64 ((k : Int) + 1) = ((k + 1 : Nat) : Int) := by rw [← i64_w, IntKind.wrap_i64]; have := HLT.out; have := HN.out; omega
              have WN2 := Aside0.mk (congrArg (Value.int IntKind.i64) wk)
              have WI2 := Aside0.mk wk
              clear wk
              as_aux_lemma =>
              go_wp2
              go_roundw
              case rel => exact ⟨k + 1, x, HLT.out, by first | exact WN2.out | exact WI2.out, H, HL, ⟨fun q hq => by
                by_cases h1 : q < 2 * k
                · exact HF.out q h1
                · by_cases h2 : q = 2 * k
                  · subst h2
                    rw [HQ6.out]
                    exact HF6.out
                  · obtain rfl : q = 2 * k + 1 := by omega
                    rw [HQ7.out]
                    exact HJ.out⟩⟩
              case measure => exact ms_valA HLT.out WN2.out
    · obtain rfl : k = l.length := by omega
      have bk : decide ((l.length : Int) < (l.length : Int)) = false := decide_eq_false (by omega)
      have bkn : decide (l.length < l.length) = false := decide_eq_false (by omega)
      clear hlt hk
      have HX := H
      go_wp2_with fail
      go_loopw [59] (fun i wr => ∃ (k : Nat), k ≤ l.length ∧ i = .int .i64 (k : Int) ∧ Aside0 (AS w0 wr w0.heap.size ad gv l.length l e x)) (fun i _ => l.length - (intOf i).toNat)
      case atStart => exact ⟨0, Nat.zero_le _, rfl, HX⟩
      case round =>
        clear H HX
        obtain ⟨k, hk, rfl, H⟩ := hrel
        by_cases hlt : k < l.length
        · have bk : decide ((k : Int) < (l.length : Int)) = true := decide_eq_true (by omega)
          have bkn : decide (k < l.length) = true := decide_eq_true (by omega)
          obtain ⟨A6, c6, he6⟩ := H.out.sl HL.out (q := 2 * k) (by omega)
          obtain ⟨A7, c7, he7⟩ := H.out.sl HL.out (q := 2 * k + 1) (by omega)
          obtain ⟨m6, hm6⟩ : ∃ m, (rowX l (2 * k)).length = m := ⟨_, rfl⟩
          obtain ⟨m7, hm7⟩ : ∃ m, (rowX l (2 * k + 1)).length = m := ⟨_, rfl⟩
          rw [hm6] at he6
          rw [hm7] at he7
          have HQ6 := Aside0.mk hm6
          have HQ7 := Aside0.mk hm7
          have HM6 := Aside0.mk (show m6 ≤ 1000000 by rw [← hm6]; exact HB.out (2 * k) (by omega))
          have HM7 := Aside0.mk (show m7 ≤ 1000000 by rw [← hm7]; exact HB.out (2 * k + 1) (by omega))
          have HE6 := Aside0.mk he6
          have HE7 := Aside0.mk he7
          have HLT := Aside0.mk hlt
          clear he6 he7 hm6 hm7
          obtain ⟨a0, a6, a7⟩ := H.out.cell k HLT.out
          rw [HE6.out] at a6
          rw [HE7.out] at a7
          have HQQ6 := Aside0.mk (show 2 * k < 2 * l.length by omega)
          have HQQ7 := Aside0.mk (show 2 * k + 1 < 2 * l.length by omega)
          have HLX6 := Aside0.mk (show (x (2 * k)).length ≤ 1000000 by rw [HL.out _ HQQ6.out]; exact HB.out _ HQQ6.out)
          have HLX7 := Aside0.mk (show (x (2 * k + 1)).length ≤ 1000000 by rw [HL.out _ HQQ7.out]; exact HB.out _ HQQ7.out)
          have wk : wrap64 ((k : Int) + 1) = ((k + 1 : Nat) : Int) := by rw [← i64_w, IntKind.wrap_i64]; have := HLT.out; have := HN.out; omega
          have WN2 := Aside0.mk (congrArg (Value.int IntKind.i64) wk)
          have WI2 := Aside0.mk wk
          clear wk
          clear hk
          go_upto_region 19 with (first | ((with_reducible refine gate_builtin (b := .append) (xs := #[.tmp 66, .tmp 69]) rfl ?_); at_builtin; refine keep_append (w := w0) (W := wr) (B := w0.heap.size) (v := .slice A6 m6 c6) (xs := x (2 * k)) ?h1_H2 (.tmp 66) (.tmp 69) ?h2_H2 ?h3_H2 ?h4_H2 ?h5_H2 ?h6_H2 ?h7_H2 ?h8_H2 ?h9_H2; (case h1_H2 => rfl); (case h2_H2 => rfl); (case h3_H2 => exact (H.out.rowOf (q := 2 * k) HQQ6.out HE6.out)); (case h4_H2 => rfl); (case h5_H2 => rfl); (case h6_H2 => exact H.out.bel); (case h7_H2 => exact H.out.hB); (case h8_H2 => exact HLX6.out); intro vH2 wH2 hmH2 hsH2 hrH2 hbH2; have H2 := Aside0.mk (H.out.keep' (q := 2 * k) HQQ6.out HE6.out hmH2 hsH2 hrH2 hbH2); clear hmH2 hsH2 hrH2 hbH2) | go_in)
          clear a0 a6 a7
          obtain ⟨b0, b6, b7⟩ := H2.out.cell k HLT.out
          rw [HE6.out] at b6
          rw [HE7.out] at b7
          go_wp2_with (first | ((with_reducible refine gate_builtin (b := .append) (xs := #[.tmp 75, .tmp 78]) rfl ?_); at_builtin; refine keep_append (w := w0) (W := wH2) (B := w0.heap.size) (v := .slice A7 m7 c7) (xs := x (2 * k + 1)) ?h1_H3 (.tmp 75) (.tmp 78) ?h2_H3 ?h3_H3 ?h4_H3 ?h5_H3 ?h6_H3 ?h7_H3 ?h8_H3 ?h9_H3; (case h1_H3 => rfl); (case h2_H3 => rfl); (case h3_H3 => exact (H2.out.rowOf (q := 2 * k + 1) HQQ7.out HE7.out)); (case h4_H3 => rfl); (case h5_H3 => rfl); (case h6_H3 => exact H2.out.bel); (case h7_H3 => exact H2.out.hB); (case h8_H3 => exact HLX7.out); intro vH3 wH3 hmH3 hsH3 hrH3 hbH3; have H3 := Aside0.mk (H2.out.keep' (q := 2 * k + 1) HQQ7.out HE7.out hmH3 hsH3 hrH3 hbH3); clear hmH3 hsH3 hrH3 hbH3) | go_in)
          go_roundw
          case rel => exact ⟨k + 1, HLT.out, by first | exact WN2.out | exact WI2.out, H3⟩
          case measure => exact ms_valA HLT.out WN2.out
        · obtain rfl : k = l.length := by omega
          have bk : decide ((l.length : Int) < (l.length : Int)) = false := decide_eq_false (by omega)
          have bkn : decide (l.length < l.length) = false := decide_eq_false (by omega)
          clear hlt hk
          have HX := H
          go_wp2_with fail
          go_loopw [83] (fun i wr => ∃ (k : Nat), k ≤ l.length ∧ i = .int .i64 (k : Int) ∧ Aside0 (AS w0 wr w0.heap.size ad gv l.length l e x)) (fun i _ => l.length - (intOf i).toNat)
          case atStart => exact ⟨0, Nat.zero_le _, rfl, HX⟩
          case round =>
            clear H HX
            obtain ⟨k, hk, rfl, H⟩ := hrel
            by_cases hlt : k < l.length
            · have bk : decide ((k : Int) < (l.length : Int)) = true := decide_eq_true (by omega)
              have bkn : decide (k < l.length) = true := decide_eq_true (by omega)
              obtain ⟨A6, c6, he6⟩ := H.out.sl HL.out (q := 2 * k) (by omega)
              obtain ⟨A7, c7, he7⟩ := H.out.sl HL.out (q := 2 * k + 1) (by omega)
              obtain ⟨m6, hm6⟩ : ∃ m, (rowX l (2 * k)).length = m := ⟨_, rfl⟩
              obtain ⟨m7, hm7⟩ : ∃ m, (rowX l (2 * k + 1)).length = m := ⟨_, rfl⟩
              rw [hm6] at he6
              rw [hm7] at he7
              have HQ6 := Aside0.mk hm6
              have HQ7 := Aside0.mk hm7
              have HM6 := Aside0.mk (show m6 ≤ 1000000 by rw [← hm6]; exact HB.out (2 * k) (by omega))
              have HM7 := Aside0.mk (show m7 ≤ 1000000 by rw [← hm7]; exact HB.out (2 * k + 1) (by omega))
              have HE6 := Aside0.mk he6
              have HE7 := Aside0.mk he7
              have HLT := Aside0.mk hlt
              clear he6 he7 hm6 hm7
              obtain ⟨a0, a6, a7⟩ := H.out.cell k HLT.out
              rw [HE6.out] at a6
              rw [HE7.out] at a7
              generalize l.getD k Z0 = y at a0
              have H1 := Aside0.mk (H.out.below (below_alloc (Below.refl _ _) (.cells #[.int .i64 y.f0, .slice A6 m6 c6, .slice A7 m7 c7] 80)))
              clear hk H
              go_upto_region 24 with (fail)
              generalize hW : World.alloc wr _ = W1 at *
              have hbx : W1.heap[wr.heap.size]? = some (.cells #[.int .i64 y.f0, .slice A6 m6 c6, .slice A7 m7 c7] 80 (0, 0)) := by rw [← hW]; exact Array.getElem?_push_size
              have y6 : W1.cell? ⟨wr.heap.size, 1, none⟩ = some (.slice A6 m6 c6) := blk_cell hbx 1
              have HBX := Aside0.mk hbx
              clear hbx hW a0 a6 a7
              generalize wr.heap.size = bx at *
              have HX1 := H1
              have HX2 := HBX
              go_wp2_with fail
              go_loopw [91] (fun i wr => ∃ (j : Nat), j ≤ m6 ∧ i = .int .i64 (j : Int) ∧ Aside0 (AS w0 wr w0.heap.size ad gv l.length l e x) ∧ Aside0 (wr.heap[bx]? = some (.cells #[.int .i64 y.f0, .slice A6 m6 c6, .slice A7 m7 c7] 80 (0, 0)))) (fun i _ => m6 - (intOf i).toNat)
              case atStart => exact ⟨0, Nat.zero_le _, rfl, HX1, HX2⟩
              case round =>
                clear HX1 HX2 H1 HBX
                try clear y6 y7
                obtain ⟨j, hj, rfl, H1, HBX⟩ := hrel
                by_cases hjm : j < m6
                · have bj : decide ((j : Int) < (m6 : Int)) = true := decide_eq_true (by omega)
                  have bjn : decide (j < m6) = true := decide_eq_true (by omega)
                  have HR := Aside0.mk (H1.out.rowOf (q := 2 * k) (by have := HLT.out; omega) HE6.out)
                  have HRR := Kd.R_reads' HR.out
                  obtain ⟨ad7, e7, z0, z1, z2⟩ := at_T54 HRR.2.2 (j : Int) (by omega) (by omega)
                  subst e7
                  rw [HF.out (2 * k) (by have := HLT.out; omega) j (by rw [HQ6.out]; exact hjm)] at z0 z1 z2
                  rw [← mkV0] at z0 z1 z2
                  simp only [Int.toNat_natCast] at z0 z1 z2
                  clear HRR
                  have e3 : ((k : Int) != (k : Int)) = false := bne_self_eq_false _
                  have e4 : ((78 : Int) != 78) = false := by decide
                  have wk : wrap64 ((j : Int) + 1) = ((j + 1 : Nat) : Int) := by rw [← i64_w, IntKind.wrap_i64]; have := HM6.out; omega
                  have WN := Aside0.mk (congrArg (Value.int IntKind.i64) wk)
                  have WI := Aside0.mk wk
                  have HJM := Aside0.mk hjm
                  have HBL := Aside0.mk (below_alloc (Below.refl wr.heap.size wr) (.cells #[.int .u8 78, .string ⟨#[]⟩, .int .i64 (k : Int)] 54))
                  have H2 := Aside0.mk (H1.out.below HBL.out)
                  have HBX2 := Aside0.mk (blk_below HBX.out HBL.out)
                  clear wk hj
                  as_aux_lemma =>
                  go_wp2_with fail
                  go_roundw
                  case rel => exact ⟨j + 1, HJM.out, by first | exact WN.out | exact WI.out, H2, HBX2⟩
                  case measure => exact ms_valA HJM.out WN.out
                · have hjm2 : m6 = j := by omega
                  subst hjm2
                  have bj : decide ((m6 : Int) < (m6 : Int)) = false := decide_eq_false (by omega)
                  have bjn : decide (m6 < m6) = false := decide_eq_false (by omega)
                  have y7 : wr.cell? ⟨bx, 2, none⟩ = some (.slice A7 m7 c7) := blk_cell HBX.out 2
                  clear hjm hj
                  have HX1 := H1
                  have HX2 := HBX
                  go_wp2_with fail
                  go_loopw [108] (fun i wr => ∃ (j : Nat), j ≤ m7 ∧ i = .int .i64 (j : Int) ∧ Aside0 (AS w0 wr w0.heap.size ad gv l.length l e x) ∧ Aside0 (wr.heap[bx]? = some (.cells #[.int .i64 y.f0, .slice A6 m6 c6, .slice A7 m7 c7] 80 (0, 0)))) (fun i _ => m7 - (intOf i).toNat)
                  case atStart => exact ⟨0, Nat.zero_le _, rfl, HX1, HX2⟩
                  case round =>
                    clear HX1 HX2 H1 HBX
                    try clear y6 y7
                    obtain ⟨j, hj, rfl, H1, HBX⟩ := hrel
                    by_cases hjm : j < m7
                    · have bj : decide ((j : Int) < (m7 : Int)) = true := decide_eq_true (by omega)
                      have bjn : decide (j < m7) = true := decide_eq_true (by omega)
                      have HR := Aside0.mk (H1.out.rowOf (q := 2 * k + 1) (by have := HLT.out; omega) HE7.out)
                      have HRR := Kd.R_reads' HR.out
                      obtain ⟨ad7, e7, z0, z1, z2⟩ := at_T54 HRR.2.2 (j : Int) (by omega) (by omega)
                      subst e7
                      rw [HF.out (2 * k + 1) (by have := HLT.out; omega) j (by rw [HQ7.out]; exact hjm)] at z0 z1 z2
                      rw [← mkV1] at z0 z1 z2
                      simp only [Int.toNat_natCast] at z0 z1 z2
                      clear HRR
                      have e3 : ((k : Int) != (k : Int)) = false := bne_self_eq_false _
                      have e4 : ((79 : Int) != 79) = false := by decide
                      have wk : wrap64 ((j : Int) + 1) = ((j + 1 : Nat) : Int) := by rw [← i64_w, IntKind.wrap_i64]; have := HM7.out; omega
                      have WN := Aside0.mk (congrArg (Value.int IntKind.i64) wk)
                      have WI := Aside0.mk wk
                      have HJM := Aside0.mk hjm
                      have HBL := Aside0.mk (below_alloc (Below.refl wr.heap.size wr) (.cells #[.int .u8 79, .string ⟨#[]⟩, .int .i64 (k : Int)] 54))
                      have H2 := Aside0.mk (H1.out.below HBL.out)
                      have HBX2 := Aside0.mk (blk_below HBX.out HBL.out)
                      clear wk hj
                      as_aux_lemma =>
                      go_wp2_with fail
                      go_roundw
                      case rel => exact ⟨j + 1, HJM.out, by first | exact WN.out | exact WI.out, H2, HBX2⟩
                      case measure => exact ms_valA HJM.out WN.out
                    · have hjm2 : m7 = j := by omega
                      subst hjm2
                      have bj : decide ((m7 : Int) < (m7 : Int)) = false := decide_eq_false (by omega)
                      have bjn : decide (m7 < m7) = false := decide_eq_false (by omega)
                      have y7 : wr.cell? ⟨bx, 2, none⟩ = some (.slice A7 m7 c7) := blk_cell HBX.out 2
                      clear hjm hj
                      have wk : wrap64 ((k : Int) + 1) = ((k + 1 : Nat) : Int) := by rw [← i64_w, IntKind.wrap_i64]; have := HLT.out; have := HN.out; omega
                      have WN2 := Aside0.mk (congrArg (Value.int IntKind.i64) wk)
                      have WI2 := Aside0.mk wk
                      clear wk
                      as_aux_lemma =>
                      go_wp2
                      go_roundw
                      case rel => exact ⟨k + 1, HLT.out, by first | exact WN2.out | exact WI2.out, H1⟩
                      case measure => exact ms_valA HLT.out WN2.out
            · obtain rfl : k = l.length := by omega
              have bk : decide ((l.length : Int) < (l.length : Int)) = false := decide_eq_false (by omega)
              have bkn : decide (l.length < l.length) = false := decide_eq_false (by omega)
              clear hlt hk
              go_wp2
              go_ret
              exact ⟨rfl, H.out.bel⟩
theorem apart_any (w0 w : World) (A : Option Addr) (c : Nat) (l : List S80) (hS : FR w w0.heap.size (.slice A l.length c) l) (hb : Below w0.heap.size w0 w) (hn : l.length ≤ 100000) (hl : ∀ q, q < 2 * l.length → (rowX l q).length ≤ 1000000) :
    Calls Try.prog 36 #[.slice A l.length c] w fun e w' => e = .returned (.bool true) ∧ Below w0.heap.size w0 w' := by
  by_cases h0 : 0 < l.length
  · obtain ⟨g, cap, hv, _⟩ := Kd.S_form hS h0
    injection hv with hA _ _
    subst hA
    exact apart_some w0 w _ c l hS hb hn hl
  · have h1 : l.length = 0 := by omega
    rw [h1]
    exact apart_nil w0 w A c hb
end Go.Proofs.Ytfnjbmpolggdeaa.MD
end
section
namespace Go.Proofs.Ytfnjbmpolggdeaa.MD
open Go.RowKit Go.Proofs.YtfnjbmpolggdeaaW.PrintWords Go.Proofs.YtfnjbmpolggdeaaW.PrintLast Go.Proofs.YtfnjbmpolggdeaaW.PrintMore
attribute [local go_sem] max2_int min2_int max_two min_two max_three min_three max_four min_four   -- for this text's walks alone
set_option linter.unusedVariables false
set_option linter.unusedSimpArgs false
theorem eqA54 (d : Nat) (w : World) (x0 y0 : Int) (x1 y1 : ByteArray) (x2 y2 : Int) :
    (Op.equalIn (d + 2) 54 (.agg #[.int .u8 x0, .string x1, .int .i64 x2]) (.agg #[.int .u8 y0, .string y1, .int .i64 y2])).run Try.prog w = .ok (x0 == y0 && (x1.toList == y1.toList && (x2 == y2))) w := by
  refine eqA_of Try.underlying54 (by kernel_rfl) ?_
  refine eqf_cons (by rfl) (by go_simp; rfl) (by go_simp; rfl) (by go_simp) ?_
  refine eqf_cons (by rfl) (by go_simp; rfl) (by go_simp; rfl) (by go_simp) ?_
  exact eqf_last (by rfl) (by go_simp; rfl) (by go_simp; rfl) (by go_simp)
end Go.Proofs.Ytfnjbmpolggdeaa.MD
end
section
namespace Go.Proofs.Ytfnjbmpolggdeaa.MD
open Go.RowKit Go.Proofs.YtfnjbmpolggdeaaW.PrintWords Go.Proofs.YtfnjbmpolggdeaaW.PrintLast Go.Proofs.YtfnjbmpolggdeaaW.PrintMore
attribute [local go_sem] max2_int min2_int max_two min_two max_three min_three max_four min_four   -- for this text's walks alone
set_option linter.unusedVariables false
set_option linter.unusedSimpArgs false
attribute [local go_sem high] eqA54
def jvmcorelaw3_sameTypes.l0 : Nat → List (S54) → List (S54) → Int → Int → Option (Bool)
  | 0, _, _, _, _ => none
  | k + 1, x0, x1, x12, x13 => if x13 < x12 then (if 0 ≤ x13 then (if x13 < (x0.length : Int) then (if x13 < (x1.length : Int) then (if (!(((rd_T54 x0 x13).f0) == ((rd_T54 x1 x13).f0)) || (!((((rd_T54 x0 x13).f1).toList) == (((rd_T54 x1 x13).f1).toList)) || (!(((rd_T54 x0 x13).f2) == ((rd_T54 x1 x13).f2))))) = true then (some false) else (jvmcorelaw3_sameTypes.l0 k x0 x1 x12 (wrap64 (x13 + 1)))) else (none)) else (none)) else (none)) else (some true)
def jvmcorelaw3_sameTypes.f (k : Nat) (l0 : List (S54)) (l1 : List (S54)) : Option (Bool) := if (l0.length : Int) = (l1.length : Int) then (jvmcorelaw3_sameTypes.l0 k l0 l1 (l0.length : Int) 0) else (some false)
theorem jvmcorelaw3_sameTypes.mono_l : ∀ k, (∀ y0 y1 y2 y3, LeO (jvmcorelaw3_sameTypes.l0 k y0 y1 y2 y3) (jvmcorelaw3_sameTypes.l0 (k + 1) y0 y1 y2 y3))
  | 0 => fun _ _ _ _ r h => by simp [jvmcorelaw3_sameTypes.l0] at h
  | k + 1 => by
    have ih0 := jvmcorelaw3_sameTypes.mono_l k
    · intro y0 y1 y2 y3
      unfold jvmcorelaw3_sameTypes.l0
      repeat' first
      | (with_reducible exact ih0 _ _ _ _)
      | (with_reducible exact LeO.refl _)
      | (with_reducible exact LeO.none _)
      | (with_reducible refine LeO.ite ?_ ?_)
      | (with_reducible refine LeO.bind ?_ (fun _ => ?_))
theorem jvmcorelaw3_sameTypes.mono : ∀ a0 a1 k, LeO (jvmcorelaw3_sameTypes.f k a0 a1) (jvmcorelaw3_sameTypes.f (k + 1) a0 a1) := by
  intro a0 a1 k
  have ih0 := jvmcorelaw3_sameTypes.mono_l k
  unfold jvmcorelaw3_sameTypes.f
  repeat' first
      | (with_reducible exact ih0 _ _ _ _)
      | (with_reducible exact LeO.refl _)
      | (with_reducible exact LeO.none _)
      | (with_reducible refine LeO.ite ?_ ?_)
      | (with_reducible refine LeO.bind ?_ (fun _ => ?_))
set_option maxHeartbeats 8000000 in
set_option maxRecDepth 100000 in
theorem jvmcorelaw3_sameTypes.calls (k : Nat) (A0 : Option Addr) (c0 : Nat) (l0 : List (S54)) (A1 : Option Addr) (c1 : Nat) (l1 : List (S54)) (r : Bool) (w : World) (hr0 : Kd.C k54 w A0 l0.length l0) (hc0 : l0.length ≤ c0) (hr1 : Kd.C k54 w A1 l1.length l1) (hc1 : l1.length ≤ c1) (h : jvmcorelaw3_sameTypes.f k l0 l1 = some r) :
    Calls Try.prog 30 #[.slice A0 l0.length c0, .slice A1 l1.length c1] w fun e w' => e = .returned (.bool r) ∧ Drawn0 w w' := by
  have hu54 := Try.underlying54
  have HR0 := Aside0.mk hr0
  have HC0 := Aside0.mk hc0
  clear hr0 hc0
  have HR1 := Aside0.mk hr1
  have HC1 := Aside0.mk hc1
  clear hr1 hc1
  have H : (if (l0.length : Int) = (l1.length : Int) then (jvmcorelaw3_sameTypes.l0 k l0 l1 (l0.length : Int) 0) else (some false)) = some r := h
  clear h
  by_cases c3 : (l0.length : Int) = (l1.length : Int)
  · rw [if_pos c3] at H
    have c3b0 : ((l0.length : Int) == (l1.length : Int)) = true := beq_iff_eq.mpr c3
    have c3b1 : ((l0.length : Int) != (l1.length : Int)) = false := bne_eq_false_iff_eq.mpr c3
    have c3b2 : (l0.length == l1.length) = true := by first | simpa using c3 | (simp at c3 ⊢; omega)
    clear c3
    have H' := Aside0.mk H
    clear H
    go_enter Try.func30, Try.ntmps30
    go_wp2
    repeat (go_quiet (fail); try go_wp2)
    go_loopg [13] k (fun kq v13 w' => ∃ (x13_1 : Int), v13 = .int .i64 x13_1 ∧ Aside0 (jvmcorelaw3_sameTypes.l0 kq l0 l1 (l0.length : Int) x13_1 = some r) ∧ Aside0 (kq ≤ k) ∧ Drawn0 w w')
    case atStart => exact ⟨(0), (by first | rfl | (simp; done) | (simp [*]; done)), H', ⟨Nat.le_refl _⟩, by repeat (first | exact Drawn0.refl _ | apply Drawn0.step)⟩
    case round =>
      clear H'
      try clear c1
      try clear p2
      try clear c3
      try clear c3b0
      try clear c3b1
      try clear c3b2
      obtain ⟨x13_1, rfl, HA, HK1, ⟨m1, rfl⟩⟩ := hrel
      cases gk with
      | zero => exact absurd HA.out (by simp [jvmcorelaw3_sameTypes.l0])
      | succ k1 =>
        have H := HA.out
        clear HA
        simp only [jvmcorelaw3_sameTypes.l0] at H
        by_cases c4 : x13_1 < (l0.length : Int)
        · rw [if_pos c4] at H
          have c4b0 : decide (x13_1 < (l0.length : Int)) = true := decide_eq_true c4
          clear c4
          by_cases c5 : 0 ≤ x13_1
          · rw [if_pos c5] at H
            have c5b0 : decide (0 ≤ x13_1) = true := decide_eq_true c5
            clear c5
            by_cases c6 : x13_1 < (l0.length : Int)
            · rw [if_pos c6] at H
              have c6b0 : decide (x13_1 < (l0.length : Int)) = true := decide_eq_true c6
              clear c6
              by_cases c7 : x13_1 < (l1.length : Int)
              · rw [if_pos c7] at H
                have c7b0 : decide (x13_1 < (l1.length : Int)) = true := decide_eq_true c7
                clear c7
                by_cases c8 : (!(((rd_T54 l0 x13_1).f0) == ((rd_T54 l1 x13_1).f0)) || (!((((rd_T54 l0 x13_1).f1).toList) == (((rd_T54 l1 x13_1).f1).toList)) || (!(((rd_T54 l0 x13_1).f2) == ((rd_T54 l1 x13_1).f2))))) = true
                · rw [if_pos c8] at H
                  have c8b0 : (!(((rd_T54 l0 x13_1).f0) == ((rd_T54 l1 x13_1).f0)) || (!((((rd_T54 l0 x13_1).f1).toList) == (((rd_T54 l1 x13_1).f1).toList)) || (!(((rd_T54 l0 x13_1).f2) == ((rd_T54 l1 x13_1).f2))))) = true := c8
                  clear c8
                  obtain rfl := Option.some.inj H
                  have p138 : 0 ≤ (x13_1 : Int) := of_decide_eq_true (by first | (with_reducible assumption) | assumption)
                  have q138 : x13_1 < (l0.length : Int) := of_decide_eq_true (by first | (with_reducible assumption) | assumption)
                  obtain ⟨ad138, e138, hx138_0, hx138_1, hx138_2⟩ := at_T54 HR0.out x13_1 p138 q138
                  cases e138
                  replace p138 := eq_true p138
                  replace q138 := eq_true q138
                  have p139 : 0 ≤ (x13_1 : Int) := of_decide_eq_true (by first | (with_reducible assumption) | assumption)
                  have q139 : x13_1 < (l1.length : Int) := of_decide_eq_true (by first | (with_reducible assumption) | assumption)
                  obtain ⟨ad139, e139, hx139_0, hx139_1, hx139_2⟩ := at_T54 HR1.out x13_1 p139 q139
                  cases e139
                  replace p139 := eq_true p139
                  replace q139 := eq_true q139
                  go_wp2
                  repeat (go_quiet (fail); try go_wp2)
                  go_ret
                  exact ⟨by first | rfl | (simp; done) | (simp [*]; done), by repeat (first | exact Drawn0.refl _ | apply Drawn0.step)⟩
                · rw [if_neg c8] at H
                  have c8b0 : (!(((rd_T54 l0 x13_1).f0) == ((rd_T54 l1 x13_1).f0)) || (!((((rd_T54 l0 x13_1).f1).toList) == (((rd_T54 l1 x13_1).f1).toList)) || (!(((rd_T54 l0 x13_1).f2) == ((rd_T54 l1 x13_1).f2))))) = false := by simpa using c8
                  clear c8
                  have H' := Aside0.mk H
                  clear H
                  have p138 : 0 ≤ (x13_1 : Int) := of_decide_eq_true (by first | (with_reducible assumption) | assumption)
                  have q138 : x13_1 < (l0.length : Int) := of_decide_eq_true (by first | (with_reducible assumption) | assumption)
                  obtain ⟨ad138, e138, hx138_0, hx138_1, hx138_2⟩ := at_T54 HR0.out x13_1 p138 q138
                  cases e138
                  replace p138 := eq_true p138
                  replace q138 := eq_true q138
                  have p139 : 0 ≤ (x13_1 : Int) := of_decide_eq_true (by first | (with_reducible assumption) | assumption)
                  have q139 : x13_1 < (l1.length : Int) := of_decide_eq_true (by first | (with_reducible assumption) | assumption)
                  obtain ⟨ad139, e139, hx139_0, hx139_1, hx139_2⟩ := at_T54 HR1.out x13_1 p139 q139
                  cases e139
                  replace p139 := eq_true p139
                  replace q139 := eq_true q139
                  go_wp2
                  repeat (go_quiet (fail); try go_wp2)
                  go_roundg k1
                  case measure => have := HK1.out; omega
                  case rel => exact ⟨(wrap64 (x13_1 + 1)), (by first | rfl | (simp; done) | (simp [*]; done)), H', ⟨by have := HK1.out; omega⟩, by repeat (first | exact Drawn0.refl _ | apply Drawn0.step)⟩
              · rw [if_neg c7] at H
                exact absurd H (by simp)
            · rw [if_neg c6] at H
              exact absurd H (by simp)
          · rw [if_neg c5] at H
            exact absurd H (by simp)
        · rw [if_neg c4] at H
          have c4b0 : decide (x13_1 < (l0.length : Int)) = false := decide_eq_false c4
          clear c4
          obtain rfl := Option.some.inj H
          go_wp2
          repeat (go_quiet (fail); try go_wp2)
          go_ret
          exact ⟨by first | rfl | (simp; done) | (simp [*]; done), by repeat (first | exact Drawn0.refl _ | apply Drawn0.step)⟩
  · rw [if_neg c3] at H
    have c3b0 : ((l0.length : Int) == (l1.length : Int)) = false := beq_eq_false_iff_ne.mpr c3
    have c3b1 : ((l0.length : Int) != (l1.length : Int)) = true := bne_iff_ne.mpr c3
    have c3b2 : (l0.length == l1.length) = false := by first | simpa using c3 | (simp at c3 ⊢; omega)
    obtain rfl := Option.some.inj H
    go_enter Try.func30, Try.ntmps30
    go_wp2
    repeat (go_quiet (fail); try go_wp2)
    go_ret
    exact ⟨by first | rfl | (simp; done) | (simp [*]; done), by repeat (first | exact Drawn0.refl _ | apply Drawn0.step)⟩
end Go.Proofs.Ytfnjbmpolggdeaa.MD
end
