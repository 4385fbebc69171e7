/-
  Texts that the proof in the last of these files needs: jvmcorelaw3.MapRounds answers true for every string, pool and list of types: nothing is assumed.
-/
import Derived.ArgAppend
import Derived.Deep.RegionLaw
import Derived.Deep.QuietTactic
import Derived.BigQuiet
import Derived.Test.YtfnjbmpolggdeaaQU2
section
namespace Go.Proofs.Ytfnjbmpolggdeaa.MD.RR
open Go.RowKit Go.Lib Go.Proofs.YtfnjbmpolggdeaaW.PrintWords Go.Proofs.YtfnjbmpolggdeaaW.PrintLast Go.Proofs.YtfnjbmpolggdeaaW.PrintMore
set_option linter.unusedVariables false
set_option linter.unusedSimpArgs false
theorem ms_down {r q : Nat} {v : Value} (h : v = .int .i64 (q : Int) ∧ q < r) : (intOf v).toNat < (intOf (.int .i64 (r : Int))).toNat := by
  obtain ⟨rfl, h⟩ := h
  show ((q : Int)).toNat < ((r : Int)).toNat
  rw [Int.toNat_natCast, Int.toNat_natCast]; exact h
def VPost (w0 w : World) (g : Nat) (s : ByteArray) (p : List S37) (m : Nat) (t : RdS) (e : Ending) (w' : World) : Prop :=
  ∃ v lc, e = .returned v ∧ VS w0 w w' g s (valD s p m [] t).2 v lc ∧ lc.length ≤ m ∧ ((valD s p m [] t).2.2.1 = 0 → lc = (valD s p m [] t).1)
set_option maxHeartbeats 16000000 in
set_option maxRecDepth 100000 in
theorem values_any (w0 w : World) (g : Nat) (s : ByteArray) (t : RdS) (A1 : Option Addr) (c1 : Nat) (p : List S37) (m : Nat) (hm : m ≤ 65536) (ht : OKR s t) (hI : RI w0 w g s t) (hr1 : ∀ W_, KeepBut w W_ g none → Kd.C k37 W_ A1 p.length p) (hc1 : p.length ≤ c1) (hp : ∀ c ∈ p, okC39 c) :
    Calls Try.prog 76 #[.pointer (some ⟨g, 0, none⟩), .slice A1 p.length c1, .int .i64 (m : Int)] w (VPost w0 w g s p m t) := by
  have HP := Aside0.mk hp
  have HM := Aside0.mk hm
  have HR1 := Aside0.mk hr1
  have HC1 := Aside0.mk hc1
  have HWW := Aside0.mk hI.2.size
  have H0 := Aside0.mk (VS.start hI)
  have HT := Aside0.mk ht
  clear hp hm hr1 hc1 hI ht
  go_enter Try.func76, Try.ntmps76
  go_wp2_with fail
  go_loopw [2, 7] (fun i v wr => ∃ (r : Nat) (l : List S54) (t1 : RdS), r ≤ m ∧ i = .int .i64 (r : Int) ∧ Aside0 (VS w0 w wr g s t1 v l) ∧ Aside0 (OKR s t1 ∧ l.length + r = m) ∧ Aside0 (valD s p m [] t = valD s p r l t1)) (fun i _ _ => (intOf i).toNat)
  case atStart => exact ⟨m, [], t, Nat.le_refl _, rfl, H0, ⟨HT.out, by simp⟩, ⟨rfl⟩⟩
  case round =>
    clear H0 HT
    obtain ⟨r, l, t1, hr, rfl, HV, HO, HD⟩ := hrel
    obtain ⟨A7, c7, e7⟩ := Kd.R_slice HV.out.row
    subst e7
    have c1_0 := HV.out.ri.c1
    have c2_0 := HV.out.ri.c2
    by_cases hrm : 0 < r
    · have bj : decide ((r : Int) > 0) = true := decide_eq_true (by omega)
      have bjn : decide (0 < r) = true := decide_eq_true hrm
      have bjm : decide ((0 : Int) < (r : Int)) = true := decide_eq_true (by omega)
      obtain ⟨q, hq⟩ : ∃ q, r = q + 1 := ⟨r - 1, by omega⟩
      have HQM := Aside0.mk (show q ≤ m by omega)
      by_cases he : t1.2.1 = 0
      · have b1 : (t1.2.1 == 0) = true := beq_iff_eq.2 he
        have HD1 : Aside0 (valD s p m [] t = valD s p q (l ++ [(stepV s p t1).1]) (stepV s p t1).2) := ⟨by
          rw [HD.out, hq]
          show (if _ then _ else _) = _
          rw [if_neg (fun h => h he)]⟩
        have HLL := Aside0.mk (show (l.length + 1) * 32 ≤ 140737488355328 by have := HO.out.2; have := HM.out; omega)
        have wk : wrap64 ((r : Int) - 1) = (q : Int) := by rw [← i64_w, IntKind.wrap_i64]; have := HM.out; omega
        have WN := Aside0.mk (show Value.int IntKind.i64 (wrap64 ((r : Int) - 1)) = .int .i64 (q : Int) ∧ q < r from ⟨congrArg (Value.int IntKind.i64) wk, by omega⟩)
        have WI := Aside0.mk wk
        have hu : IntKind.u8.wrap (numR s t1 1).1 = (numR s t1 1).1 := by rw [IntKind.wrap_u8]; have := num1_lt s t1; omega
        replace HO := Aside0.mk (show OKR s t1 ∧ l.length + (q + 1) = m from ⟨HO.out.1, by have := HO.out.2; omega⟩)
        clear wk he hq HD
        go_upto_region 6 with (first | (go_at_call 74; refine (num_any w0 _ g s t1 1 1 rfl (by decide) HO.out.1 HV.out.ri).mono ?_; rintro e4 w4 ⟨rfl, hI4, hk4⟩; have HV4 := Aside0.mk (HV.out.rd hI4 hk4); clear hI4 hk4) | go_in)
        have HO5 := Aside0.mk (HO.out.1.num 1)
        obtain ⟨a, ha⟩ : ∃ a, (numR s t1 1).1 = a := ⟨_, rfl⟩
        have HA := Aside0.mk ha
        rw [ha]
        clear ha hu c1_0 c2_0 bj bjn bjm b1
        have H5 : Aside0 (VB w0 w (w4.alloc (.cells #[.int .u8 a, .string ⟨#[]⟩, .int .i64 0] 54)) g s (numR s t1 1).2 (.slice A7 l.length c7) l w4.heap.size (⟨a, (⟨#[]⟩ : ByteArray), 0⟩ : S54)) := ⟨VB.start HV4.out (⟨a, (⟨#[]⟩ : ByteArray), 0⟩ : S54)⟩
        clear HV HV4
        generalize World.alloc _ _ = W5 at *
        generalize w4.heap.size = bx at *
        obtain ⟨d0_5, d1_5, d2_5, df_5⟩ := H5.out.cells
        dsimp only at d0_5 d1_5 d2_5
        by_cases h7 : a = 7
        · have q7 : (a == 7) = true := beq_iff_eq.2 h7
          have HA7 := Aside0.mk h7
          clear h7
          go_upto_region 8 with (first | (go_at_call 74; refine (num_any w0 _ g s (numR s t1 1).2 2 2 rfl (by decide) HO5.out H5.out.vs.ri).mono ?_; rintro e6 w6 ⟨rfl, hI6, hk6⟩; have H6 := Aside0.mk (H5.out.rd hI6 hk6); obtain ⟨d0_6, d1_6, d2_6, df_6⟩ := H6.out.cells; dsimp only at d0_6 d1_6 d2_6; clear hI6 hk6) | go_in)
          clear d0_5 d1_5 d2_5 df_5
          have HO6 := Aside0.mk (HO5.out.num 2)
          by_cases hb : isB p (numR s (numR s t1 1).2 2).1 7 = true
          · have HB := Aside0.mk hb
            obtain ⟨cb, hcb⟩ := refClass_eq HP.out (numR s (numR s t1 1).2 2).1
            have HCB := Aside0.mk hcb
            have HIS := Aside0.mk ((refIs_eq p (numR s (numR s t1 1).2 2).1 7).trans (congrArg some hb))
            clear hb hcb
            go_upto_region 15 with (first | (go_at_call 115; refine (jvmcoreref1_Is.calls A1 c1 p (numR s (numR s t1 1).2 2).1 7 true _ (HR1.out _ H6.out.vs.kept) HC1.out HIS.out).mono ?_; rintro e7 w7 ⟨rfl, hd7⟩; have H7 := Aside0.mk (H6.out.below hd7.below); obtain ⟨d0_7, d1_7, d2_7, df_7⟩ := H7.out.cells; dsimp only at d0_7 d1_7 d2_7; clear hd7) | (go_at_call 111; refine (jvmcoreref1_ClassOf.calls A1 c1 p (numR s (numR s t1 1).2 2).1 (nameV p (numR s (numR s t1 1).2 2).1) cb _ (HR1.out _ H7.out.vs.kept) HC1.out HCB.out).mono ?_; rintro e8 w8 ⟨rfl, hd8⟩; have H8 := Aside0.mk (H7.out.below hd8.below); obtain ⟨d0_8, d1_8, d2_8, df_8⟩ := H8.out.cells; dsimp only at d0_8 d1_8 d2_8; clear hd8) | go_in)
            have H10 := Aside0.mk (H8.out.set HWW.out 1 (.string (nameV p (numR s (numR s t1 1).2 2).1)) (x1 := (⟨a, nameV p (numR s (numR s t1 1).2 2).1, 0⟩ : S54)) rfl)
            clear d0_7 d1_7 d2_7 df_7
            clear d0_8 d1_8 d2_8 df_8
            generalize World.setCell _ ⟨bx, 1, none⟩ _ = W10 at *
            obtain ⟨d0_10, d1_10, d2_10, df_10⟩ := H10.out.cells
            dsimp only at d0_10 d1_10 d2_10
            have HS := Aside0.mk (show stepV s p t1 = ((⟨a, nameV p (numR s (numR s t1 1).2 2).1, 0⟩ : S54), (numR s (numR s t1 1).2 2).2) by unfold stepV; rw [HA.out, if_pos HA7.out, if_pos HB.out, HA7.out])
            go_wp2_with (first | ((with_reducible refine gate_builtin (b := .append) (xs := #[.tmp 61, .tmp 63]) rfl ?_); at_builtin; refine Kd.R_append k54 w.heap.size rfl (.tmp 61) (.tmp 63) 44 54 (.agg #[(.int .u8 0), (.string ⟨#[]⟩), (.int .i64 0)]) 32 rfl Try.underlying44 infoVT rfl (by decide) (by omega) (.slice A7 l.length c7) l (⟨a, nameV p (numR s (numR s t1 1).2 2).1, 0⟩ : S54) [.int .u8 ((⟨a, nameV p (numR s (numR s t1 1).2 2).1, 0⟩ : S54)).f0, .string ((⟨a, nameV p (numR s (numR s t1 1).2 2).1, 0⟩ : S54)).f1, .int .i64 ((⟨a, nameV p (numR s (numR s t1 1).2 2).1, 0⟩ : S54)).f2] (fun _ => True) (fun _ => False) rfl rfl (k54_mkM _ _ _ _) (fun _ hk => hk.elim) (fun _ _ => trivial) H10.out.vs.row (Below.refl _ _) H10.out.vs.kept.1 HLL.out ?_; intro v9 w9 hr9 hb9 hg9 hat9; have H9 := Aside0.mk (H10.out.app HWW.out hg9 hr9); obtain ⟨A9, c9, e9⟩ := Kd.R_slice hr9; subst e9; clear hr9 hb9 hg9 hat9) | go_in)
            go_roundw
            case rel => exact ⟨q, _, (numR s (numR s t1 1).2 2).2, HQM.out, by first | exact WN.out.1 | exact WI.out | exact congrArg (Value.int IntKind.i64) WI.out, by first | exact H9 | (simp only [List.length_append, List.length_singleton] at H9; exact H9), ⟨by have h := HO.out.1.step (p := p); rw [HS.out] at h; exact h, by rw [List.length_append, List.length_singleton]; have := HO.out.2; omega⟩, ⟨by have h := HD1.out; rw [HS.out] at h; exact h⟩⟩
            case measure => exact ms_down WN.out
          · have hb2 : isB p (numR s (numR s t1 1).2 2).1 7 = false := Bool.eq_false_iff.2 hb
            have HB := Aside0.mk hb
            have HIS := Aside0.mk ((refIs_eq p (numR s (numR s t1 1).2 2).1 7).trans (congrArg some hb2))
            clear hb hb2
            go_upto_region 15 with (first | (go_at_call 115; refine (jvmcoreref1_Is.calls A1 c1 p (numR s (numR s t1 1).2 2).1 7 false _ (HR1.out _ H6.out.vs.kept) HC1.out HIS.out).mono ?_; rintro e7 w7 ⟨rfl, hd7⟩; have H7 := Aside0.mk (H6.out.below hd7.below); obtain ⟨d0_7, d1_7, d2_7, df_7⟩ := H7.out.cells; dsimp only at d0_7 d1_7 d2_7; clear hd7) | (go_at_call 77; refine (fail_any w0 _ g s (numR s (numR s t1 1).2 2).2 7 t1.1 H7.out.vs.ri).mono ?_; rintro e8 w8 ⟨rfl, hI8, hk8⟩; have H8 := Aside0.mk (H7.out.rd hI8 hk8); obtain ⟨d0_8, d1_8, d2_8, df_8⟩ := H8.out.cells; dsimp only at d0_8 d1_8 d2_8; clear hI8 hk8) | go_in)
            clear d0_7 d1_7 d2_7 df_7
            have HS := Aside0.mk (show stepV s p t1 = ((⟨a, (⟨#[]⟩ : ByteArray), 0⟩ : S54), failR (numR s (numR s t1 1).2 2).2 7 t1.1) by unfold stepV; rw [HA.out, if_pos HA7.out, if_neg HB.out, HA7.out])
            go_wp2_with (first | ((with_reducible refine gate_builtin (b := .append) (xs := #[.tmp 61, .tmp 63]) rfl ?_); at_builtin; refine Kd.R_append k54 w.heap.size rfl (.tmp 61) (.tmp 63) 44 54 (.agg #[(.int .u8 0), (.string ⟨#[]⟩), (.int .i64 0)]) 32 rfl Try.underlying44 infoVT rfl (by decide) (by omega) (.slice A7 l.length c7) l (⟨a, (⟨#[]⟩ : ByteArray), 0⟩ : S54) [.int .u8 ((⟨a, (⟨#[]⟩ : ByteArray), 0⟩ : S54)).f0, .string ((⟨a, (⟨#[]⟩ : ByteArray), 0⟩ : S54)).f1, .int .i64 ((⟨a, (⟨#[]⟩ : ByteArray), 0⟩ : S54)).f2] (fun _ => True) (fun _ => False) rfl rfl (k54_mkM _ _ _ _) (fun _ hk => hk.elim) (fun _ _ => trivial) H8.out.vs.row (Below.refl _ _) H8.out.vs.kept.1 HLL.out ?_; intro v9 w9 hr9 hb9 hg9 hat9; have H9 := Aside0.mk (H8.out.app HWW.out hg9 hr9); obtain ⟨A9, c9, e9⟩ := Kd.R_slice hr9; subst e9; clear hr9 hb9 hg9 hat9) | go_in)
            go_roundw
            case rel => exact ⟨q, _, failR (numR s (numR s t1 1).2 2).2 7 t1.1, HQM.out, by first | exact WN.out.1 | exact WI.out | exact congrArg (Value.int IntKind.i64) WI.out, by first | exact H9 | (simp only [List.length_append, List.length_singleton] at H9; exact H9), ⟨by have h := HO.out.1.step (p := p); rw [HS.out] at h; exact h, by rw [List.length_append, List.length_singleton]; have := HO.out.2; omega⟩, ⟨by have h := HD1.out; rw [HS.out] at h; exact h⟩⟩
            case measure => exact ms_down WN.out
        · have q7 : (a == 7) = false := beq_eq_false_iff_ne.2 h7
          by_cases h8 : a = 8
          · have q8 : (a == 8) = true := beq_iff_eq.2 h8
            have HA8 := Aside0.mk (And.intro h7 h8)
            clear h7 h8
            go_upto_region 15 with (first | (go_at_call 74; refine (num_any w0 _ g s (numR s t1 1).2 2 2 rfl (by decide) HO5.out H5.out.vs.ri).mono ?_; rintro e6 w6 ⟨rfl, hI6, hk6⟩; have H6 := Aside0.mk (H5.out.rd hI6 hk6); obtain ⟨d0_6, d1_6, d2_6, df_6⟩ := H6.out.cells; dsimp only at d0_6 d1_6 d2_6; clear hI6 hk6) | go_in)
            have H10 := Aside0.mk (H6.out.set HWW.out 2 (.int .i64 (numR s (numR s t1 1).2 2).1) (x1 := (⟨a, (⟨#[]⟩ : ByteArray), (numR s (numR s t1 1).2 2).1⟩ : S54)) rfl)
            clear d0_5 d1_5 d2_5 df_5
            clear d0_6 d1_6 d2_6 df_6
            generalize World.setCell _ ⟨bx, 2, none⟩ _ = W10 at *
            obtain ⟨d0_10, d1_10, d2_10, df_10⟩ := H10.out.cells
            dsimp only at d0_10 d1_10 d2_10
            have HS := Aside0.mk (show stepV s p t1 = ((⟨a, (⟨#[]⟩ : ByteArray), (numR s (numR s t1 1).2 2).1⟩ : S54), (numR s (numR s t1 1).2 2).2) by unfold stepV; rw [HA.out, if_neg HA8.out.1, if_pos HA8.out.2, HA8.out.2])
            go_wp2_with (first | ((with_reducible refine gate_builtin (b := .append) (xs := #[.tmp 61, .tmp 63]) rfl ?_); at_builtin; refine Kd.R_append k54 w.heap.size rfl (.tmp 61) (.tmp 63) 44 54 (.agg #[(.int .u8 0), (.string ⟨#[]⟩), (.int .i64 0)]) 32 rfl Try.underlying44 infoVT rfl (by decide) (by omega) (.slice A7 l.length c7) l (⟨a, (⟨#[]⟩ : ByteArray), (numR s (numR s t1 1).2 2).1⟩ : S54) [.int .u8 ((⟨a, (⟨#[]⟩ : ByteArray), (numR s (numR s t1 1).2 2).1⟩ : S54)).f0, .string ((⟨a, (⟨#[]⟩ : ByteArray), (numR s (numR s t1 1).2 2).1⟩ : S54)).f1, .int .i64 ((⟨a, (⟨#[]⟩ : ByteArray), (numR s (numR s t1 1).2 2).1⟩ : S54)).f2] (fun _ => True) (fun _ => False) rfl rfl (k54_mkM _ _ _ _) (fun _ hk => hk.elim) (fun _ _ => trivial) H10.out.vs.row (Below.refl _ _) H10.out.vs.kept.1 HLL.out ?_; intro v9 w9 hr9 hb9 hg9 hat9; have H9 := Aside0.mk (H10.out.app HWW.out hg9 hr9); obtain ⟨A9, c9, e9⟩ := Kd.R_slice hr9; subst e9; clear hr9 hb9 hg9 hat9) | go_in)
            go_roundw
            case rel => exact ⟨q, _, (numR s (numR s t1 1).2 2).2, HQM.out, by first | exact WN.out.1 | exact WI.out | exact congrArg (Value.int IntKind.i64) WI.out, by first | exact H9 | (simp only [List.length_append, List.length_singleton] at H9; exact H9), ⟨by have h := HO.out.1.step (p := p); rw [HS.out] at h; exact h, by rw [List.length_append, List.length_singleton]; have := HO.out.2; omega⟩, ⟨by have h := HD1.out; rw [HS.out] at h; exact h⟩⟩
            case measure => exact ms_down WN.out
          · have q8 : (a == 8) = false := beq_eq_false_iff_ne.2 h8
            have HA8 := Aside0.mk (And.intro h7 h8)
            by_cases h9 : a > 8
            · have q9 : decide (a > 8) = true := decide_eq_true h9
              have q9b : decide (8 < a) = true := decide_eq_true h9
              have HA9 := Aside0.mk h9
              clear h7 h8 h9
              go_upto_region 15 with (first | (go_at_call 77; refine (fail_any w0 _ g s (numR s t1 1).2 17 t1.1 H5.out.vs.ri).mono ?_; rintro e6 w6 ⟨rfl, hI6, hk6⟩; have H6 := Aside0.mk (H5.out.rd hI6 hk6); obtain ⟨d0_6, d1_6, d2_6, df_6⟩ := H6.out.cells; dsimp only at d0_6 d1_6 d2_6; clear hI6 hk6) | go_in)
              clear d0_5 d1_5 d2_5 df_5
              have HS := Aside0.mk (show stepV s p t1 = ((⟨a, (⟨#[]⟩ : ByteArray), 0⟩ : S54), failR (numR s t1 1).2 17 t1.1) by unfold stepV; rw [HA.out, if_neg HA8.out.1, if_neg HA8.out.2, if_pos HA9.out])
              go_wp2_with (first | ((with_reducible refine gate_builtin (b := .append) (xs := #[.tmp 61, .tmp 63]) rfl ?_); at_builtin; refine Kd.R_append k54 w.heap.size rfl (.tmp 61) (.tmp 63) 44 54 (.agg #[(.int .u8 0), (.string ⟨#[]⟩), (.int .i64 0)]) 32 rfl Try.underlying44 infoVT rfl (by decide) (by omega) (.slice A7 l.length c7) l (⟨a, (⟨#[]⟩ : ByteArray), 0⟩ : S54) [.int .u8 ((⟨a, (⟨#[]⟩ : ByteArray), 0⟩ : S54)).f0, .string ((⟨a, (⟨#[]⟩ : ByteArray), 0⟩ : S54)).f1, .int .i64 ((⟨a, (⟨#[]⟩ : ByteArray), 0⟩ : S54)).f2] (fun _ => True) (fun _ => False) rfl rfl (k54_mkM _ _ _ _) (fun _ hk => hk.elim) (fun _ _ => trivial) H6.out.vs.row (Below.refl _ _) H6.out.vs.kept.1 HLL.out ?_; intro v9 w9 hr9 hb9 hg9 hat9; have H9 := Aside0.mk (H6.out.app HWW.out hg9 hr9); obtain ⟨A9, c9, e9⟩ := Kd.R_slice hr9; subst e9; clear hr9 hb9 hg9 hat9) | go_in)
              go_roundw
              case rel => exact ⟨q, _, failR (numR s t1 1).2 17 t1.1, HQM.out, by first | exact WN.out.1 | exact WI.out | exact congrArg (Value.int IntKind.i64) WI.out, by first | exact H9 | (simp only [List.length_append, List.length_singleton] at H9; exact H9), ⟨by have h := HO.out.1.step (p := p); rw [HS.out] at h; exact h, by rw [List.length_append, List.length_singleton]; have := HO.out.2; omega⟩, ⟨by have h := HD1.out; rw [HS.out] at h; exact h⟩⟩
              case measure => exact ms_down WN.out
            · have q9 : decide (a > 8) = false := decide_eq_false h9
              have q9b : decide (8 < a) = false := decide_eq_false h9
              have HA9 := Aside0.mk h9
              clear h7 h8 h9
              have HS := Aside0.mk (show stepV s p t1 = ((⟨a, (⟨#[]⟩ : ByteArray), 0⟩ : S54), (numR s t1 1).2) by unfold stepV; rw [HA.out, if_neg HA8.out.1, if_neg HA8.out.2, if_neg HA9.out])
              go_wp2_with (first | ((with_reducible refine gate_builtin (b := .append) (xs := #[.tmp 61, .tmp 63]) rfl ?_); at_builtin; refine Kd.R_append k54 w.heap.size rfl (.tmp 61) (.tmp 63) 44 54 (.agg #[(.int .u8 0), (.string ⟨#[]⟩), (.int .i64 0)]) 32 rfl Try.underlying44 infoVT rfl (by decide) (by omega) (.slice A7 l.length c7) l (⟨a, (⟨#[]⟩ : ByteArray), 0⟩ : S54) [.int .u8 ((⟨a, (⟨#[]⟩ : ByteArray), 0⟩ : S54)).f0, .string ((⟨a, (⟨#[]⟩ : ByteArray), 0⟩ : S54)).f1, .int .i64 ((⟨a, (⟨#[]⟩ : ByteArray), 0⟩ : S54)).f2] (fun _ => True) (fun _ => False) rfl rfl (k54_mkM _ _ _ _) (fun _ hk => hk.elim) (fun _ _ => trivial) H5.out.vs.row (Below.refl _ _) H5.out.vs.kept.1 HLL.out ?_; intro v9 w9 hr9 hb9 hg9 hat9; have H9 := Aside0.mk (H5.out.app HWW.out hg9 hr9); obtain ⟨A9, c9, e9⟩ := Kd.R_slice hr9; subst e9; clear hr9 hb9 hg9 hat9) | go_in)
              go_roundw
              case rel => exact ⟨q, _, (numR s t1 1).2, HQM.out, by first | exact WN.out.1 | exact WI.out | exact congrArg (Value.int IntKind.i64) WI.out, by first | exact H9 | (simp only [List.length_append, List.length_singleton] at H9; exact H9), ⟨by have h := HO.out.1.step (p := p); rw [HS.out] at h; exact h, by rw [List.length_append, List.length_singleton]; have := HO.out.2; omega⟩, ⟨by have h := HD1.out; rw [HS.out] at h; exact h⟩⟩
              case measure => exact ms_down WN.out
      · have b1 : (t1.2.1 == 0) = false := beq_eq_false_iff_ne.2 he
        have HD1 : Aside0 (valD s p m [] t = (l, t1)) := ⟨by rw [HD.out]; exact val_stuck he⟩
        clear he hq HD
        go_wp2
        go_ret
        refine ⟨_, l, rfl, ?_, by have := HO.out.2; omega, ?_⟩
        · rw [HD1.out]
          exact HV.out
        · rw [HD1.out]
          exact fun _ => rfl
    · obtain rfl : r = 0 := by omega
      have bj : decide (((0 : Nat) : Int) > 0) = false := by decide
      have HD1 : Aside0 (valD s p m [] t = (l, t1)) := ⟨HD.out⟩
      clear hrm hr HD
      go_wp2
      go_ret
      refine ⟨_, l, rfl, ?_, by have := HO.out.2; omega, ?_⟩
      · rw [HD1.out]
        exact HV.out
      · rw [HD1.out]
        exact fun _ => rfl
end Go.Proofs.Ytfnjbmpolggdeaa.MD.RR
end
section
namespace Go.Proofs.Ytfnjbmpolggdeaa.MD.RR
open Go.RowKit Go.Lib Go.Proofs.YtfnjbmpolggdeaaW.PrintWords Go.Proofs.YtfnjbmpolggdeaaW.PrintLast Go.Proofs.YtfnjbmpolggdeaaW.PrintMore
set_option linter.unusedVariables false
set_option linter.unusedSimpArgs false
def LocR (w W : World) (vl : Value) (l : List S54) : Prop :=
  VR W w.heap.size vl l ∨ ∃ A c, vl = .slice A l.length c ∧ l.length ≤ c ∧ ∀ W_ g, w.heap.size ≤ g → KeepBut w W_ g none → Kd.C k54 W_ A l.length l
structure MS (w W : World) (g : Nat) (s : ByteArray) (t : RdS) (vl : Value) (l : List S54) (V : Value) (L : List S80) : Prop where
  ri : RI w W g s t
  loc : LocR w W vl l
  out : FR W w.heap.size V L
namespace MS
variable {w W W1 : World} {g : Nat} {s : ByteArray} {t t1 : RdS} {vl V V1 : Value} {l : List S54} {L : List S80}
theorem rd (h : MS w W g s t vl l V L) (hI : RI w W1 g s t1) (hk : KeepBut W W1 g none) : MS w W1 g s t1 vl l V L where
  ri := hI
  loc := h.loc.imp (fun h1 => h1.step (fun k e => hk.2 k (Kd.R_lt h1 k e) (fun he => h1.ne h.ri.1.1 (by decide) (he ▸ e)) (by simp))) id
  out := h.out.keep h.ri.1.1 (by decide) (fun k hlt hne => hk.2 k hlt hne (by simp))
theorem below (h : MS w W g s t vl l V L) (hb : Below W.heap.size W W1) : MS w W1 g s t vl l V L := h.rd (h.ri.below hb) (KeepBut.of_below hb g none)
theorem drew (h : MS w W g s t vl l V L) : MS w W.drew g s t vl l V L := h.below (below_drew (Below.refl _ _))
theorem keep (h : MS w W g s t vl l V L) (hk : KeepBut W W1 g none) : KeepBut w W1 g none := keep_tr (KeepBut.of_below h.ri.2 g none) hk
theorem locC {A : Option Addr} {c : Nat} (h : MS w W g s t (.slice A l.length c) l V L) {W_ : World} (hk : KeepBut W W_ g none) : Kd.C k54 W_ A l.length l := by
  rcases h.loc with h1 | ⟨A1, c1, e, hc, hC⟩
  · exact (Kd.R_reads' (VR.step h1 (fun k e => hk.2 k (Kd.R_lt h1 k e) (fun he => h1.ne h.ri.1.1 (by decide) (he ▸ e)) (by simp)))).2.2
  · injection e with e1 e2 e3
    subst e1
    exact hC W_ g h.ri.ge (h.keep hk)
end MS
structure MB (w wc W : World) (g : Nat) (s : ByteArray) (t : RdS) (V : Value) (L : List S80) (bx : Nat) (x : Int) (v1 : Value) (l1 : List S54) (v2 : Value) (l2 : List S54) : Prop where
  ri : RI w W g s t
  out : Kd.S kF 80 W w.heap.size (fun k => True ∧ ¬ wc.heap.size ≤ k) V L
  box : W.heap[bx]? = some (.cells #[.int .i64 x, v1, v2] 80 (0, 0))
  nb : wc.heap.size ≤ bx
  r1 : VR W wc.heap.size v1 l1
  r2 : VR W wc.heap.size v2 l2
  ap : ∀ k, v1.ownBlock = some k → v2.ownBlock ≠ some k
  wcs : w.heap.size ≤ wc.heap.size
  cur : ∀ k, V.ownBlock = some k → k < wc.heap.size
theorem MS.box {w wc W : World} {g : Nat} {s : ByteArray} {t : RdS} {vl V v1 : Value} {l l1 : List S54} {L : List S80} (h : MS w wc g s t vl l V L) (h1 : VR W wc.heap.size v1 l1) (hb0 : Below wc.heap.size wc W) :
    MB w wc (W.alloc (.cells #[.int .i64 0, v1, .slice none 0 0] 80)) g s t V L W.heap.size 0 v1 l1 (.slice none 0 0) [] := by
  have hb := below_alloc (Below.refl W.heap.size W) (.cells #[.int .i64 0, v1, .slice none 0 0] 80)
  exact {
    ri := (h.ri.below hb0).below hb
    out := Kd.S_below (h.out.elder h.ri.1.1 (by decide) (fun k hlt hne => hb0.block k hlt)) hb
    box := Array.getElem?_push_size
    nb := hb0.size
    r1 := h1.step (fun k e => hb.block k (Kd.R_lt h1 k e))
    r2 := Kd.R_nil _ _ _ _ _
    ap := fun k _ e => by cases e
    wcs := h.ri.2.size
    cur := fun k e => Kd.S_lt h.out k e }
namespace MB
variable {w wc W W1 : World} {g bx : Nat} {s : ByteArray} {t t1 : RdS} {V V1 v1 v2 u u1 u2 : Value} {l1 l2 m m1 m2 : List S54} {L L1 : List S80} {x y : Int}
theorem gne (h : MB w wc W g s t V L bx x v1 l1 v2 l2) : bx ≠ g := fun e => h.ri.1.ne_blk h.box (by decide) e.symm
theorem cells (h : MB w wc W g s t V L bx x v1 l1 v2 l2) : W.cell? ⟨bx, 0, none⟩ = some (.int .i64 x) ∧ W.cell? ⟨bx, 1, none⟩ = some v1 ∧ W.cell? ⟨bx, 2, none⟩ = some v2 ∧ (∀ j, W.frozen? ⟨bx, j, none⟩ = false) :=
  ⟨blk_cell h.box 0, blk_cell h.box 1, blk_cell h.box 2, fun j => blk_frozen h.box j⟩
theorem keep (h : MB w wc W g s t V L bx x v1 l1 v2 l2) (hk : KeepBut W W1 g none) : KeepBut w W1 g none := keep_tr (KeepBut.of_below h.ri.2 g none) hk
theorem rd (h : MB w wc W g s t V L bx x v1 l1 v2 l2) (hI : RI w W1 g s t1) (hk : KeepBut W W1 g none) : MB w wc W1 g s t1 V L bx x v1 l1 v2 l2 where
  ri := hI
  out := Kd.S_mono (Kd.S_step (Kd.S_types h.out h.ri.1.1 (by decide)) (fun k ho hlt => hk.2 k hlt ho.2 (by simp))) (fun k ho => ho.1)
  box := (hk.2 _ (blk_lt h.box) h.gne (by simp)).trans h.box
  nb := h.nb
  r1 := h.r1.step (fun k e => hk.2 k (Kd.R_lt h.r1 k e) (fun he => h.r1.ne h.ri.1.1 (by decide) (he ▸ e)) (by simp))
  r2 := h.r2.step (fun k e => hk.2 k (Kd.R_lt h.r2 k e) (fun he => h.r2.ne h.ri.1.1 (by decide) (he ▸ e)) (by simp))
  ap := h.ap
  wcs := h.wcs
  cur := h.cur
theorem below (h : MB w wc W g s t V L bx x v1 l1 v2 l2) (hb : Below W.heap.size W W1) : MB w wc W1 g s t V L bx x v1 l1 v2 l2 := h.rd (h.ri.below hb) (KeepBut.of_below hb g none)
theorem drew (h : MB w wc W g s t V L bx x v1 l1 v2 l2) : MB w wc W.drew g s t V L bx x v1 l1 v2 l2 := h.below (below_drew (Below.refl _ _))
theorem keepv {v : Value} {B j : Nat} (h : MB w wc W g s t V L bx x v1 l1 v2 l2) (hv : VR W B v m) : VR (W.setCell ⟨bx, j, none⟩ u) B v m :=
  hv.step (fun k e => Below.heap_setCell W ⟨bx, j, none⟩ u k (fun he => hv.ne h.box (by decide) (by rw [← show k = bx from he]; exact e)))
theorem set0 (h : MB w wc W g s t V L bx x v1 l1 v2 l2) (y : Int) : MB w wc (W.setCell ⟨bx, 0, none⟩ (.int .i64 y)) g s t V L bx y v1 l1 v2 l2 where
  ri := ⟨h.ri.1.far (fun e => h.gne e.symm) _, h.ri.2.setCell (p := ⟨bx, 0, none⟩) (Nat.le_trans h.wcs h.nb) _⟩
  out := Kd.S_step h.out (fun k ho _ => Below.heap_setCell W ⟨bx, 0, none⟩ _ k (fun he => ho.2 (by rw [show k = bx from he]; exact h.nb)))
  box := blk_set h.box 0 _
  nb := h.nb
  r1 := h.keepv h.r1
  r2 := h.keepv h.r2
  ap := h.ap
  wcs := h.wcs
  cur := h.cur
theorem put (h : MB w wc W g s t V L bx x v1 l1 v2 l2) (j : Nat) (u : Value) (hx : (#[.int .i64 x, v1, v2] : Array Value).setIfInBounds j u = #[.int .i64 x, u1, u2]) (h1 : VR W wc.heap.size u1 m1) (h2 : VR W wc.heap.size u2 m2) (ha : ∀ k, u1.ownBlock = some k → u2.ownBlock ≠ some k) : MB w wc (W.setCell ⟨bx, j, none⟩ u) g s t V L bx x u1 m1 u2 m2 where
  ri := ⟨h.ri.1.far (fun e => h.gne e.symm) u, h.ri.2.setCell (p := ⟨bx, j, none⟩) (Nat.le_trans h.wcs h.nb) u⟩
  out := Kd.S_step h.out (fun k ho _ => Below.heap_setCell W ⟨bx, j, none⟩ u k (fun he => ho.2 (by rw [show k = bx from he]; exact h.nb)))
  box := by rw [← hx]; exact blk_set h.box j u
  nb := h.nb
  r1 := h.keepv h1
  r2 := h.keepv h2
  ap := ha
  wcs := h.wcs
  cur := h.cur
theorem app1 (h : MB w wc W g s t V L bx x v1 l1 (.slice none 0 0) []) (hg : W.grownBy W1 v1.ownBlock) (hr : VR W1 wc.heap.size u m) : MB w wc (W1.setCell ⟨bx, 1, none⟩ u) g s t V L bx x u m (.slice none 0 0) [] := by
  have i1 : W1.heap[bx]? = some (.cells #[.int .i64 x, v1, .slice none 0 0] 80 (0, 0)) := (hg.block _ (blk_lt h.box) (fun e => h.r1.ne h.box (by decide) e.symm)).trans h.box
  have hw := h.wcs
  have hO : Kd.S kF 80 W1 w.heap.size (fun k => True ∧ ¬ wc.heap.size ≤ k) V L := Kd.S_step h.out (fun k ho hlt => hg.block k hlt (fun he => ho.2 (Kd.R_base h.r1 k he.symm)))
  exact {
    ri := ⟨(h.ri.1.grown hg (fun e => h.r1.ne h.ri.1.1 (by decide) e.symm)).far (fun e => h.gne e.symm) u, (pw_below_grown h.ri.2 _ h.ri.2.size hg (fun k hk => Nat.le_trans hw (Kd.R_base h.r1 k hk))).setCell (p := ⟨bx, 1, none⟩) (Nat.le_trans h.wcs h.nb) u⟩
    out := Kd.S_step hO (fun k ho _ => Below.heap_setCell W1 ⟨bx, 1, none⟩ u k (fun he => ho.2 (by rw [show k = bx from he]; exact h.nb)))
    box := blk_set i1 1 u
    nb := h.nb
    r1 := hr.step (fun k e => Below.heap_setCell W1 ⟨bx, 1, none⟩ u k (fun he => hr.ne i1 (by decide) (by rw [← show k = bx from he]; exact e)))
    r2 := Kd.R_nil _ _ _ _ _
    ap := fun k _ e => by cases e
    wcs := h.wcs
    cur := h.cur }
theorem grown1 (h : MB w wc W g s t V L bx x v1 l1 v2 l2) (hg : W.grownBy W1 v1.ownBlock) : W1.cell? ⟨bx, 1, none⟩ = some v1 ∧ W1.frozen? ⟨bx, 1, none⟩ = false := by
  have i1 : W1.heap[bx]? = some (.cells #[.int .i64 x, v1, v2] 80 (0, 0)) := (hg.block _ (blk_lt h.box) (fun e => h.r1.ne h.box (by decide) e.symm)).trans h.box
  exact ⟨blk_cell i1 1, blk_frozen i1 1⟩
theorem elem (h : MB w wc W g s t V L bx x v1 l1 v2 l2) : kF.M W w.heap.size (fun k => wc.heap.size ≤ k) (⟨x, l1, l2⟩ : S80) [.int .i64 x, v1, v2] := by
  have q1 : Kd.R k54 54 W w.heap.size (fun k => wc.heap.size ≤ k) v1 l1 := Kd.R_mono (Kd.R_lower (Kd.R_tight rfl h.r1) h.wcs) (fun k hk => Kd.R_base h.r1 k hk.symm)
  have q2 : Kd.R k54 54 W w.heap.size (fun k => wc.heap.size ≤ k) v2 l2 := Kd.R_mono (Kd.R_lower (Kd.R_tight rfl h.r2) h.wcs) (fun k hk => Kd.R_base h.r2 k hk.symm)
  refine ⟨k80_mkM W w.heap.size _ (⟨x, l1, l2⟩ : S80) q1 q2, fun u1 u2 e1 e2 => ?_⟩
  injection e1 with e1
  injection e2 with e2
  subst e1 e2
  exact h.ap
theorem app (h : MB w wc W g s t V L bx x v1 l1 v2 l2) (hg : W.grownBy W1 V.ownBlock) (hr : FR W1 w.heap.size V1 L1) : MS w W1 g s t v1 l1 V1 L1 where
  ri := ⟨h.ri.1.grown hg (fun e => Kd.S_ne h.out h.ri.1.1 (by decide) e), pw_below_grown h.ri.2 _ h.ri.2.size hg (fun k hk => Kd.S_base h.out k hk)⟩
  loc := .inl (VR.step (Kd.R_lower h.r1 h.wcs) (fun k e => hg.block k (Kd.R_lt h.r1 k e) (fun he => by
    obtain ⟨c1, e1⟩ := Kd.R_typed h.r1 k e
    exact Kd.S_ne h.out e1 (by decide) he)))
  out := hr
end MB
end Go.Proofs.Ytfnjbmpolggdeaa.MD.RR
end
section
namespace Go.Proofs.Ytfnjbmpolggdeaa.MD
open Go.RowKit Go.Lib Go.Proofs.YtfnjbmpolggdeaaW.PrintWords Go.Proofs.YtfnjbmpolggdeaaW.PrintLast Go.Proofs.YtfnjbmpolggdeaaW.PrintMore
set_option linter.unusedVariables false
set_option linter.unusedSimpArgs false
def Tells (s : ByteArray) (p : List S37) (R : List S80 × RdS) (n : Nat) (L : List S80) (l : List S54) (pl : Int) (t : RdS) : Prop :=
  (t.2.1 = 0 → R = frmD s p n L l pl t) ∧ (t.2.1 ≠ 0 → R.2 = t)
theorem Tells.step {s : ByteArray} {p : List S37} {R : List S80 × RdS} {n : Nat} {L : List S80} {l l1 l2 : List S54} {pl d : Int} {t : RdS} (h : Tells s p R (n + 1) L l pl t) (ht : t.2.1 = 0) (he : (oneM s p l t).t.2.1 = 0 → l1 = (oneM s p l t).l1 ∧ l2 = (oneM s p l t).l2 ∧ d = (oneM s p l t).d) :
    Tells s p R n (L ++ [⟨pl + (d + 1), l1, l2⟩]) l1 (pl + (d + 1)) (oneM s p l t).t := by
  have h1 := h.1 ht
  rw [frm_step ht] at h1
  refine ⟨fun hz => ?_, fun hz => ?_⟩
  · obtain ⟨rfl, rfl, rfl⟩ := he hz
    exact h1
  · rw [h1, frm_stuck hz]
set_option maxHeartbeats 16000000 in
set_option maxRecDepth 100000 in
theorem maps_Read.full (a0 : ByteArray) (A1 : Option Addr) (c1 : Nat) (p : List S37) (A2 : Option Addr) (c2 : Nat) (first : List S54) (w : World) (hs : a0.size ≤ 65535) (hfl : first.length ≤ 65536)
    (hr1 : ∀ W_ g, w.heap.size ≤ g → KeepBut w W_ g none → Kd.C k37 W_ A1 p.length p) (hc1 : p.length ≤ c1) (hr2 : ∀ W_ g, w.heap.size ≤ g → KeepBut w W_ g none → Kd.C k54 W_ A2 first.length first) (hc2 : first.length ≤ c2) (hp : ∀ c ∈ p, okC39 c) :
    Calls Try.prog 34 #[.string a0, .slice A1 p.length c1, .slice A2 first.length c2] w fun e w' => ∃ v0_, e = .returned (.tuple #[v0_, .int .i64 (readD a0 p first).2.1, .int .i64 (readD a0 p first).2.2]) ∧ Kd.S kF 80 w' w.heap.size (fun _ => True) v0_ (readD a0 p first).1 ∧ Below w.heap.size w w' := by
  have HP := Aside0.mk hp
  have HR1 := Aside0.mk hr1
  have HC1 := Aside0.mk hc1
  have HC2 := Aside0.mk (And.intro hr2 hc2)
  have HN := Aside0.mk (And.intro hs hfl)
  have HO0 := Aside0.mk (show OKR a0 ((0, 0, 0) : RdS) from ⟨Int.le_refl _, Int.natCast_nonneg _, hs⟩)
  have HCL := Aside0.mk (show api_VType_69.f first = some first by unfold api_VType_69.f; rw [if_pos (by omega)])
  have HRN := Aside0.mk (num2_lt a0 (0, 0, 0))
  clear hp hr1 hc1 hr2 hc2 hs hfl
  go_enter Try.func34, Try.ntmps34
  go_upto_region 6 with (first | (go_at_call 63; refine (pool_NewReader.calls a0 a0 0 0 0 w w (Below.refl _ _) rfl).mono ?_; rintro e1 w1 ⟨g, rfl, hI1, hB1, hb1⟩; have HI1 := Aside0.mk (show RI w w1 g a0 (0, 0, 0) from ⟨hI1, hB1⟩); clear hI1 hB1 hb1) | (go_at_call 68; refine (num_any w _ g a0 (0, 0, 0) 2 2 rfl (by decide) HO0.out HI1.out).mono ?_; rintro e2 w2 ⟨rfl, hI2, hk2⟩; have HI2 := Aside0.mk hI2; have HG2 := Aside0.mk HI1.out.ge; clear hI2 hk2) | (go_at_call 69; refine (api_VType_69.calls A2 c2 first first _ (HC2.out.1 _ g HG2.out (KeepBut.of_below HI2.out.2 g none)) HC2.out.2 HCL.out).mono ?_; rintro e3 w3 ⟨v3, rfl, hR3, hb3⟩; have HI3 := Aside0.mk (HI2.out.below hb3); have HV3 := Aside0.mk (show VR w3 w.heap.size v3 first from Kd.R_lower hR3 HI2.out.2.size); clear hR3 hb3) | go_in)
  obtain ⟨A4, c4, q4⟩ := Kd.R_slice HV3.out
  subst q4
  have H0 := Aside0.mk (show MS w w3 g a0 (numR a0 (0, 0, 0) 2).2 (.slice A4 first.length c4) first (.slice none 0 0) [] from ⟨HI3.out, HV3.out, Kd.S_nil _ _ _ _ _⟩)
  have HO1 := Aside0.mk (HO0.out.num 2)
  clear HI1 HI2 HI3 HV3
  obtain ⟨n, hn⟩ : ∃ n : Nat, (numR a0 (0, 0, 0) 2).1 = (n : Int) := ⟨_, (Int.toNat_of_nonneg HRN.out.1).symm⟩
  have HNN := Aside0.mk (show n ≤ 65535 by have := HRN.out; omega)
  have HRR := Aside0.mk (show readD a0 p first = finR a0 (frmD a0 p n [] first (-1) (numR a0 (0, 0, 0) 2).2).1 (frmD a0 p n [] first (-1) (numR a0 (0, 0, 0) 2).2).2 by unfold readD; rw [hn, Int.toNat_natCast])
  rw [hn]
  clear hn
  generalize (numR a0 (0, 0, 0) 2).2 = t0 at *
  have HT0 := Aside0.mk (show Tells a0 p (frmD a0 p n [] first (-1) t0) n [] first (-1) t0 from ⟨fun _ => rfl, fun h => by rw [frm_stuck h]⟩)
  generalize frmD a0 p n [] first (-1) t0 = R at *
  clear HRN
  go_upto_region 7 with (fail)
  go_loopw [11, 12, 13, 14] (fun vl vp v i wr => ∃ (k : Nat) (l : List S54) (L : List S80) (pl : Int) (t : RdS), k ≤ n ∧ i = .int .i64 (k : Int) ∧ vp = .int .i64 pl ∧ Aside0 (MS w wr g a0 t vl l v L) ∧ Aside0 (OKR a0 t) ∧ Aside0 (l.length ≤ 65536 + 4 * k ∧ L.length = k ∧ -1 ≤ pl ∧ pl ≤ 65537 * (k : Int)) ∧ Aside0 (Tells a0 p R (n - k) L l pl t)) (fun _ _ _ i _ => n - (intOf i).toNat)
  case atStart => exact ⟨0, first, [], -1, t0, Nat.zero_le _, rfl, rfl, H0, HO1, ⟨by have := HN.out.2; omega, rfl, Int.le_refl _, by decide⟩, HT0⟩
  case round =>
    clear H0 HO1 HT0 HO0
    obtain ⟨k, l, L, pl, t, hkn, rfl, rfl, HM, HO, HL, HT⟩ := hrel
    obtain ⟨A5, c5, q5⟩ := Kd.R_slice HM.out.loc
    subst q5
    obtain ⟨A6, c6, q6⟩ := Kd.S_slice HM.out.out
    subst q6
    have HKN := Aside0.mk hkn
    clear hkn
    go_upto_region 7 with (fail)
    go_cut [32] from 25 to 31 (fun vv wc => vv = .bool (decide (k < n ∧ t.2.1 = 0)) ∧ Aside0 (MS w wc g a0 t (.slice A5 l.length c5) l (.slice A6 L.length c6) L))
    case first =>
      as_aux_lemma =>
      by_cases hl : k < n
      · have b0 : decide ((k : Int) < (n : Int)) = true := decide_eq_true (by omega)
        have b1 : decide (k < n) = true := decide_eq_true hl
        by_cases he : t.2.1 = 0
        · have b2 : (t.2.1 != 0) = false := bne_eq_false_iff_eq.2 he
          have HV := Aside0.mk (decide_eq_true (And.intro hl he))
          clear hl he
          go_wp2_with (first | (go_at_call 70; refine (bad_any w _ g a0 t HM.out.ri).mono ?_; rintro e3 w4 ⟨rfl, hI4, hk4⟩; have H4 := Aside0.mk (HM.out.rd hI4 hk4); clear hI4 hk4) | go_in)
          go_meet
          case rel => exact ⟨by rw [HV.out], ⟨H4.out⟩⟩
        · have b2 : (t.2.1 != 0) = true := bne_iff_ne.2 he
          have HV := Aside0.mk (decide_eq_false (fun h : k < n ∧ t.2.1 = 0 => he h.2))
          clear hl he
          go_wp2_with (first | (go_at_call 70; refine (bad_any w _ g a0 t HM.out.ri).mono ?_; rintro e3 w4 ⟨rfl, hI4, hk4⟩; have H4 := Aside0.mk (HM.out.rd hI4 hk4); clear hI4 hk4) | go_in)
          go_meet
          case rel => exact ⟨by rw [HV.out], ⟨H4.out⟩⟩
      · have b0 : decide ((k : Int) < (n : Int)) = false := decide_eq_false (by omega)
        have b1 : decide (k < n) = false := decide_eq_false hl
        have HV := Aside0.mk (decide_eq_false (fun h : k < n ∧ t.2.1 = 0 => hl h.1))
        clear hl
        go_wp2_with fail
        go_meet
        case rel => exact ⟨by rw [HV.out], ⟨HM.out⟩⟩
    case rest =>
      obtain ⟨rfl, HC⟩ := hcut
      clear HM
      by_cases hc : k < n ∧ t.2.1 = 0
      · rw [decide_eq_true hc]
        have HCC := Aside0.mk hc
        obtain ⟨q, hq⟩ : ∃ q, n - k = q + 1 := ⟨n - k - 1, by omega⟩
        have HQ := Aside0.mk (show n - (k + 1) = q ∧ n - k = q + 1 by omega)
        have wk : wrap64 ((k : Int) + 1) = ((k + 1 : Nat) : Int) := by rw [← i64_w, IntKind.wrap_i64]; have := HNN.out; omega
        have WN := Aside0.mk (congrArg (Value.int IntKind.i64) wk)
        have WI := Aside0.mk wk
        clear hc hq wk
        as_aux_lemma =>
        go_upto_region 10 with (first | (go_at_call 71; refine (mone_any w _ g a0 t A1 c1 p A5 c5 l HO.out HC.out.ri (fun W_ hk_ => HR1.out W_ g HG2.out (HC.out.keep hk_)) HC1.out (fun W_ hk_ => HC.out.locC hk_) (Kd.R_reads' HC.out.loc).2.1 HP.out (by have := HL.out.1; have := HKN.out; have := HNN.out; omega)).mono ?_; rintro e7 w7 ⟨v1, v2, l1, l2, dl, rfl, hI7, h17, h27, ha7, hk7, hl17, hl27, hd7, he7⟩; obtain ⟨A8, c8, q8⟩ := Kd.R_slice h17; subst q8; obtain ⟨B8, d8, r8⟩ := Kd.R_slice h27; subst r8; have HB := Aside0.mk (HC.out.box hI7 h17 h27 ha7 hk7); have HL7 := Aside0.mk (And.intro hl17 (And.intro hl27 hd7)); have HE7 := Aside0.mk he7; clear hI7 h17 h27 ha7 hk7 hl17 hl27 hd7 he7; unfold frC) | go_in)
        generalize World.alloc w7 _ = w8 at *
        generalize w7.heap.size = bx at *
        obtain ⟨d0_8, d1_8, d2_8, df_8⟩ := HB.out.cells
        have e1 : wrap64 (dl + 1) = dl + 1 := by rw [← i64_w, IntKind.wrap_i64]; have := HL7.out.2.2; omega
        have e2 : wrap64 (pl + (dl + 1)) = pl + (dl + 1) := by rw [← i64_w, IntKind.wrap_i64]; have := HL7.out.2.2; have := HL.out.2.2; have := HKN.out; have := HNN.out; omega
        go_upto_region 12 with (fail)
        have HB9 := Aside0.mk (HB.out.set0 (pl + (dl + 1)))
        have HW := Aside0.mk e2
        clear d0_8 d1_8 d2_8 df_8 HB e1 e2
        generalize World.setCell w8 _ _ = w9 at *
        obtain ⟨d0_9, d1_9, d2_9, df_9⟩ := HB9.out.cells
        have HPP := Aside0.mk (show -1 ≤ pl + (dl + 1) ∧ pl + (dl + 1) ≤ 65537 * ((k + 1 : Nat) : Int) by have := HL7.out.2.2; have := HL.out.2.2; omega)
        have HT9 := Aside0.mk ((show Tells a0 p R (q + 1) L l pl t from HQ.out.2 ▸ HT.out).step HCC.out.2 HE7.out)
        have HO9 := Aside0.mk (OKR.one (p := p) (l := l) HO.out)
        clear HT HE7 HO HC
        generalize (oneM a0 p l t).t = t9 at *
        generalize pl + (dl + 1) = pn at *
        have HLA := Aside0.mk (show (L.length + 1) * 56 ≤ 140737488355328 by have := HL.out.2.1; have := HKN.out; have := HNN.out; omega)
        go_wp2_with (first | ((with_reducible refine gate_builtin (b := .append) (xs := #[.tmp 50, .tmp 52]) rfl ?_); at_builtin; refine Kd.S_append kF (w0 := w) w.heap.size rfl (.tmp 50) (.tmp 52) 43 80 _ 56 rfl Try.underlying43 info80 rfl (by decide) (by omega) (.slice A6 L.length c6) L (⟨pn, l1, l2⟩ : S80) [.int .i64 pn, .slice A8 l1.length c8, .slice B8 l2.length d8] (fun _ => True) (fun k => wc.heap.size ≤ k) rfl rfl HB9.out.elem (fun k hk => ⟨trivial, fun e => by have := HB9.out.cur k e.symm; omega⟩) (fun _ _ => trivial) HB9.out.out HB9.out.ri.2 HB9.out.ri.2.size HLA.out ?_; intro v10 w10 hr10 hb10 hg10 hat10) | go_in)
        have H10 := Aside0.mk (HB9.out.app hg10 hr10)
        clear hb10 hg10 hat10
        obtain ⟨A9, c9, e9⟩ := Kd.S_slice hr10
        rw [List.length_append, List.length_singleton] at e9
        subst e9
        clear hr10
        go_roundw
        case rel =>
          refine ⟨k + 1, l1, L ++ [⟨pn, l1, l2⟩], pn, t9, HCC.out.1, by first | exact WN.out | exact WI.out, congrArg (Value.int .i64) HW.out, H10, HO9, ⟨by have := HL7.out.1; have := HL.out.1; omega, by rw [List.length_append, HL.out.2.1]; rfl, HPP.out.1, HPP.out.2⟩, ⟨?_⟩⟩
          rw [HQ.out.1]
          exact HT9.out
        case measure => exact ms_valD HCC.out.1 WN.out
      · rw [decide_eq_false hc]
        have HEND : Aside0 (readD a0 p first = finR a0 L t ∨ (t.2.1 ≠ 0 ∧ readD a0 p first = finR a0 R.1 t)) := ⟨by
          by_cases hz : t.2.1 = 0
          · left
            rw [HRR.out, HT.out.1 hz]
            obtain rfl : k = n := by rcases Nat.lt_or_ge k n with h | h; (exact absurd ⟨h, hz⟩ hc); (have := HKN.out; omega)
            rw [Nat.sub_self]
            rfl
          · right
            exact ⟨hz, by rw [HRR.out, HT.out.2 hz]⟩⟩
        clear hc HT HRR
        by_cases hl : t.1 < (a0.size : Int)
        · have b0 : decide (0 < (a0.size : Int) - t.1) = true := decide_eq_true (by omega)
          have b1 : decide ((a0.size : Int) - t.1 > 0) = true := decide_eq_true (by omega)
          have b3 : decide (t.1 < (a0.size : Int)) = true := decide_eq_true hl
          have hz : (failR t 2 t.1).2.1 ≠ 0 := by
            unfold failR
            split
            · exact (by decide : (2 : Int) ≠ 0)
            · assumption
          have HRD : Aside0 (readD a0 p first = ([], (failR t 2 t.1).2.1, (failR t 2 t.1).2.2)) := ⟨by
            have h1 : ∀ L', finR a0 L' t = ([], (failR t 2 t.1).2.1, (failR t 2 t.1).2.2) := fun L' => by unfold finR; rw [if_pos hl, if_pos hz]
            rcases HEND.out with h | h
            · rw [h, h1]
            · rw [h.2, h1]⟩
          have z0 : ((failR t 2 t.1).2.1 != 0) = true := bne_iff_ne.2 hz
          clear hl hz HEND
          as_aux_lemma =>
          go_wp2_with (first | (go_at_call 72; refine (left_any w _ g a0 t HO.out HC.out.ri).mono ?_; rintro e2 w5 ⟨rfl, hI5, hk5⟩; have H5 := Aside0.mk (HC.out.rd hI5 hk5); clear hI5 hk5) | (go_at_call 66; refine (at_any w _ g a0 t H5.out.ri).mono ?_; rintro e3 w6 ⟨rfl, hI6, hk6⟩; have H6 := Aside0.mk (H5.out.rd hI6 hk6); clear hI6 hk6) | (go_at_call 73; refine (fail_any w _ g a0 t 2 t.1 H6.out.ri).mono ?_; rintro e9 w9 ⟨rfl, hI9, hk9⟩; have H9 := Aside0.mk (H6.out.rd hI9 hk9); clear hI9 hk9) | (go_at_call 65; refine (err_any w _ g a0 (failR t 2 t.1) H9.out.ri).mono ?_; rintro e10 w10 ⟨rfl, hI10, hk10⟩; have H10 := Aside0.mk (H9.out.rd hI10 hk10); clear hI10 hk10) | go_in)
          go_ret3
          rw [HRD.out]
          exact ⟨_, rfl, Kd.S_nil _ _ _ _ _, H10.out.ri.2⟩
        · have b0 : decide (0 < (a0.size : Int) - t.1) = false := decide_eq_false (by omega)
          have b1 : decide ((a0.size : Int) - t.1 > 0) = false := decide_eq_false (by omega)
          have b3 : decide (t.1 < (a0.size : Int)) = false := decide_eq_false hl
          by_cases hz : t.2.1 = 0
          · have z0 : (t.2.1 != 0) = false := bne_eq_false_iff_eq.2 hz
            have HRD : Aside0 (readD a0 p first = (L, 0, 0)) := ⟨by
              rcases HEND.out with h | h
              · rw [h]; unfold finR; rw [if_neg hl, if_neg (fun e => e hz)]
              · exact absurd hz h.1⟩
            clear hl hz HEND
            as_aux_lemma =>
            go_wp2_with (first | (go_at_call 72; refine (left_any w _ g a0 t HO.out HC.out.ri).mono ?_; rintro e2 w5 ⟨rfl, hI5, hk5⟩; have H5 := Aside0.mk (HC.out.rd hI5 hk5); clear hI5 hk5) | (go_at_call 65; refine (err_any w _ g a0 t H5.out.ri).mono ?_; rintro e10 w10 ⟨rfl, hI10, hk10⟩; have H10 := Aside0.mk (H5.out.rd hI10 hk10); clear hI10 hk10) | go_in)
            go_ret3
            rw [HRD.out]
            exact ⟨_, rfl, H10.out.out, H10.out.ri.2⟩
          · have z0 : (t.2.1 != 0) = true := bne_iff_ne.2 hz
            have HRD : Aside0 (readD a0 p first = ([], t.2.1, t.2.2)) := ⟨by
              have h1 : ∀ L', finR a0 L' t = ([], t.2.1, t.2.2) := fun L' => by unfold finR; rw [if_neg hl, if_pos hz]
              rcases HEND.out with h | h
              · rw [h, h1]
              · rw [h.2, h1]⟩
            clear hl hz HEND
            as_aux_lemma =>
            go_wp2_with (first | (go_at_call 72; refine (left_any w _ g a0 t HO.out HC.out.ri).mono ?_; rintro e2 w5 ⟨rfl, hI5, hk5⟩; have H5 := Aside0.mk (HC.out.rd hI5 hk5); clear hI5 hk5) | (go_at_call 65; refine (err_any w _ g a0 t H5.out.ri).mono ?_; rintro e10 w10 ⟨rfl, hI10, hk10⟩; have H10 := Aside0.mk (H5.out.rd hI10 hk10); clear hI10 hk10) | go_in)
            go_ret3
            rw [HRD.out]
            exact ⟨_, rfl, Kd.S_nil _ _ _ _ _, H10.out.ri.2⟩
end Go.Proofs.Ytfnjbmpolggdeaa.MD
end
section
namespace Go.Proofs.Ytfnjbmpolggdeaa.MD.RR
open Go.RowKit Go.Lib Go.Proofs.YtfnjbmpolggdeaaW.PrintWords Go.Proofs.YtfnjbmpolggdeaaW.PrintLast Go.Proofs.YtfnjbmpolggdeaaW.PrintMore
attribute [local go_sem] max2_int min2_int max_two min_two max_three min_three max_four min_four
set_option linter.unusedVariables false
set_option linter.unusedSimpArgs false
end Go.Proofs.Ytfnjbmpolggdeaa.MD.RR
end
section
namespace Go.Proofs.Ytfnjbmpolggdeaa.MD
open Go.RowKit Go.Lib Go.Proofs.YtfnjbmpolggdeaaW.PrintWords Go.Proofs.YtfnjbmpolggdeaaW.PrintLast Go.Proofs.YtfnjbmpolggdeaaW.PrintMore
set_option linter.unusedVariables false
set_option linter.unusedSimpArgs false
def Z0 : S80 := ⟨0, [], []⟩
def upd (x : Nat → List S54) (q : Nat) (z : List S54) : Nat → List S54 := fun p => if p = q then z else x p
theorem upd_at (x : Nat → List S54) (q : Nat) (z : List S54) : upd x q z q = z := if_pos rfl
theorem upd_ne (x : Nat → List S54) {p q : Nat} (z : List S54) (h : p ≠ q) : upd x q z p = x p := if_neg h
theorem upd_id (x : Nat → List S54) (q : Nat) : upd x q (x q) = x := by
  funext p
  unfold upd
  split
  · next h => rw [h]
  · rfl
structure AS (w W : World) (B : Nat) (ad : Addr) (gv n : Nat) (l : List S80) (e : Nat → Value) (x : Nat → List S54) : Prop where
  bel : Below B w W
  hB : B ≤ W.heap.size
  adv : ad = ⟨gv, 0, none⟩
  vb : ∃ cells, W.heap[gv]? = some (.cells cells 80 (0, 0))
  cell : ∀ i, i < n → W.cell? (ad.add (i * 3)) = some (.int .i64 (l.getD i Z0).f0) ∧ W.cell? ⟨(ad.add (i * 3)).block, (ad.add (i * 3)).off + 1, none⟩ = some (e (2 * i)) ∧ W.cell? ⟨(ad.add (i * 3)).block, (ad.add (i * 3)).off + 2, none⟩ = some (e (2 * i + 1))
  row : ∀ q, q < 2 * n → VR W B (e q) (x q)
  ne : ∀ p q k, p < 2 * n → q < 2 * n → (e p).ownBlock = some k → (e q).ownBlock = some k → p = q
namespace AS
variable {w W W1 : World} {B : Nat} {ad : Addr} {gv n : Nat} {l : List S80} {e : Nat → Value} {x : Nat → List S54}
theorem blk (h : AS w W B ad gv n l e x) (m : Nat) : (ad.add m).block = gv := by rw [h.adv, add_plain]
theorem gne (h : AS w W B ad gv n l e x) {q : Nat} (hq : q < 2 * n) : some gv ≠ (e q).ownBlock := by
  obtain ⟨cells, hb⟩ := h.vb
  exact fun he => (h.row q hq).ne hb (by decide) he.symm
theorem cells_move (h : AS w W B ad gv n l e x) (hm : W1.heap[gv]? = W.heap[gv]?) : ∀ i, i < n → W1.cell? (ad.add (i * 3)) = some (.int .i64 (l.getD i Z0).f0) ∧ W1.cell? ⟨(ad.add (i * 3)).block, (ad.add (i * 3)).off + 1, none⟩ = some (e (2 * i)) ∧ W1.cell? ⟨(ad.add (i * 3)).block, (ad.add (i * 3)).off + 2, none⟩ = some (e (2 * i + 1)) := by
  intro i hi
  obtain ⟨h0, h1, h2⟩ := h.cell i hi
  have hc : ∀ p : Addr, p.block = gv → W1.cell? p = W.cell? p := fun p hp => World.cell?_of_block (by rw [hp]; exact hm)
  have hg := h.blk (i * 3)
  exact ⟨(hc _ hg).trans h0, (hc ⟨_, _, none⟩ hg).trans h1, (hc ⟨_, _, none⟩ hg).trans h2⟩
theorem move (h : AS w W B ad gv n l e x) {q : Nat} (hq : q < 2 * n) {z : List S54} (hm : ∀ k, k < W.heap.size → some k ≠ (e q).ownBlock → W1.heap[k]? = W.heap[k]?) (hr : VR W1 B (e q) z) (hb : Below B w W1) (hs : W.heap.size ≤ W1.heap.size) : AS w W1 B ad gv n l e (upd x q z) := by
  obtain ⟨cells, hvb⟩ := h.vb
  have hgv := hm gv (blk_lt hvb) (h.gne hq)
  exact {
    bel := hb
    hB := Nat.le_trans h.hB hs
    adv := h.adv
    vb := ⟨cells, hgv.trans hvb⟩
    cell := h.cells_move hgv
    row := fun p hp => by
      by_cases hpq : p = q
      · rw [hpq, upd_at]; exact hr
      · rw [upd_ne _ _ hpq]
        exact (h.row p hp).step (fun k hk => hm k (Kd.R_lt (h.row p hp) k hk) (fun he => hpq (h.ne p q k hp hq hk he.symm)))
    ne := h.ne }
theorem keep (h : AS w W B ad gv n l e x) {q : Nat} (hq : q < 2 * n) (hm : ∀ k, k < W.heap.size → some k ≠ (e q).ownBlock → W1.heap[k]? = W.heap[k]?) (hr : VR W1 B (e q) (x q)) (hb : Below B w W1) (hs : W.heap.size ≤ W1.heap.size) : AS w W1 B ad gv n l e x := by
  have h1 := h.move hq hm hr hb hs
  rw [upd_id] at h1
  exact h1
theorem below (h : AS w W B ad gv n l e x) (hb : Below W.heap.size W W1) : AS w W1 B ad gv n l e x := by
  obtain ⟨cells, hvb⟩ := h.vb
  have hgv := hb.block gv (blk_lt hvb)
  exact {
    bel := below_then h.bel h.hB hb
    hB := Nat.le_trans h.hB hb.size
    adv := h.adv
    vb := ⟨cells, hgv.trans hvb⟩
    cell := h.cells_move hgv
    row := fun p hp => (h.row p hp).step (fun k hk => hb.block k (Kd.R_lt (h.row p hp) k hk))
    ne := h.ne }
theorem put (h : AS w W B ad gv n l e x) {q : Nat} (hq : q < 2 * n) {b m c : Nat} (he : e q = .slice (some ⟨b, 0, none⟩) m c) {z : List S54} (hg : W.grownBy W1 (some b)) (hr : VR W1 B (.slice (some ⟨b, 0, none⟩) m c) z) (hb : Below B w W1) : AS w W1 B ad gv n l e (upd x q z) := by
  rw [← he] at hr
  exact h.move hq (fun k hk hne => hg.block k hk (fun ek => hne (by rw [he]; exact ek))) hr hb hg.size
end AS
def rowX (l : List S80) (q : Nat) : List S54 := if q % 2 = 0 then (l.getD (q / 2) Z0).f1 else (l.getD (q / 2) Z0).f2
def mkV (q : Nat) : S54 := ⟨if q % 2 = 0 then 78 else 79, ⟨#[]⟩, ((q / 2 : Nat) : Int)⟩
def Lens (l : List S80) (x : Nat → List S54) : Prop := ∀ q, q < 2 * l.length → (x q).length = (rowX l q).length
def Fill (x : Nat → List S54) (q m : Nat) : Prop := ∀ i : Nat, i < m → rd_T54 (x q) (i : Int) = mkV q
theorem Lens.upd {l : List S80} {x : Nat → List S54} (h : Lens l x) (q j : Nat) (v : S54) : Lens l (upd x q ((x q).set j v)) := fun p hp => by
  by_cases hpq : p = q
  · rw [hpq, upd_at, List.length_set, ← hpq]; exact h p hp
  · rw [upd_ne _ _ hpq]; exact h p hp
theorem Fill.zero (x : Nat → List S54) (q : Nat) : Fill x q 0 := fun i hi => absurd hi (Nat.not_lt_zero _)
theorem Fill.step {x : Nat → List S54} {q j : Nat} (h : Fill x q j) (hj : j < (x q).length) {v : S54} (hv : v = mkV q) : Fill (upd x q ((x q).set j v)) q (j + 1) := fun i hi => by
  rw [upd_at]
  unfold rd_T54
  rw [Int.toNat_natCast, List.getD_eq_getElem?_getD, List.getElem?_set]
  by_cases hij : j = i
  · rw [if_pos hij, if_pos (by omega)]
    exact hv
  · rw [if_neg hij]
    have := h i (by omega)
    unfold rd_T54 at this
    rw [Int.toNat_natCast, List.getD_eq_getElem?_getD] at this
    exact this
end Go.Proofs.Ytfnjbmpolggdeaa.MD
end
section
namespace Go.Proofs.Ytfnjbmpolggdeaa.MD
open Go.RowKit Go.Lib Go.Proofs.YtfnjbmpolggdeaaW.PrintWords Go.Proofs.YtfnjbmpolggdeaaW.PrintLast Go.Proofs.YtfnjbmpolggdeaaW.PrintMore
set_option linter.unusedVariables false
set_option linter.unusedSimpArgs false
theorem ms_valA {k m : Nat} {v : Value} (h1 : k < m) (h2 : v = .int .i64 ((k + 1 : Nat) : Int)) : m - (intOf v).toNat < m - (intOf (.int .i64 (k : Int))).toNat := by
  subst h2
  show m - (((k + 1 : Nat) : Int)).toNat < m - ((k : Int)).toNat
  rw [Int.toNat_natCast, Int.toNat_natCast]; omega
end Go.Proofs.Ytfnjbmpolggdeaa.MD
end
section
namespace Go.Proofs.Ytfnjbmpolggdeaa.MD
open Go.RowKit Go.Proofs.YtfnjbmpolggdeaaW.PrintWords Go.Proofs.YtfnjbmpolggdeaaW.PrintLast Go.Proofs.YtfnjbmpolggdeaaW.PrintMore
attribute [local go_sem] max2_int min2_int max_two min_two max_three min_three max_four min_four   -- for this text's walks alone
set_option linter.unusedVariables false
set_option linter.unusedSimpArgs false
theorem eqA54 (d : Nat) (w : World) (x0 y0 : Int) (x1 y1 : ByteArray) (x2 y2 : Int) :
    (Op.equalIn (d + 2) 54 (.agg #[.int .u8 x0, .string x1, .int .i64 x2]) (.agg #[.int .u8 y0, .string y1, .int .i64 y2])).run Try.prog w = .ok (x0 == y0 && (x1.toList == y1.toList && (x2 == y2))) w := by
  refine eqA_of Try.underlying54 (by kernel_rfl) ?_
  refine eqf_cons (by rfl) (by go_simp; rfl) (by go_simp; rfl) (by go_simp) ?_
  refine eqf_cons (by rfl) (by go_simp; rfl) (by go_simp; rfl) (by go_simp) ?_
  exact eqf_last (by rfl) (by go_simp; rfl) (by go_simp; rfl) (by go_simp)
end Go.Proofs.Ytfnjbmpolggdeaa.MD
end
section
namespace Go.Proofs.Ytfnjbmpolggdeaa.MD
open Go.RowKit Go.Proofs.YtfnjbmpolggdeaaW.PrintWords Go.Proofs.YtfnjbmpolggdeaaW.PrintLast Go.Proofs.YtfnjbmpolggdeaaW.PrintMore
attribute [local go_sem] max2_int min2_int max_two min_two max_three min_three max_four min_four   -- for this text's walks alone
set_option linter.unusedVariables false
set_option linter.unusedSimpArgs false
attribute [local go_sem high] eqA54
def jvmcorelaw3_sameTypes.l0 : Nat → List (S54) → List (S54) → Int → Int → Option (Bool)
  | 0, _, _, _, _ => none
  | k + 1, x0, x1, x12, x13 => if x13 < x12 then (if 0 ≤ x13 then (if x13 < (x0.length : Int) then (if x13 < (x1.length : Int) then (if (!(((rd_T54 x0 x13).f0) == ((rd_T54 x1 x13).f0)) || (!((((rd_T54 x0 x13).f1).toList) == (((rd_T54 x1 x13).f1).toList)) || (!(((rd_T54 x0 x13).f2) == ((rd_T54 x1 x13).f2))))) = true then (some false) else (jvmcorelaw3_sameTypes.l0 k x0 x1 x12 (wrap64 (x13 + 1)))) else (none)) else (none)) else (none)) else (some true)
def jvmcorelaw3_sameTypes.f (k : Nat) (l0 : List (S54)) (l1 : List (S54)) : Option (Bool) := if (l0.length : Int) = (l1.length : Int) then (jvmcorelaw3_sameTypes.l0 k l0 l1 (l0.length : Int) 0) else (some false)
theorem jvmcorelaw3_sameTypes.mono_l : ∀ k, (∀ y0 y1 y2 y3, LeO (jvmcorelaw3_sameTypes.l0 k y0 y1 y2 y3) (jvmcorelaw3_sameTypes.l0 (k + 1) y0 y1 y2 y3))
  | 0 => fun _ _ _ _ r h => by simp [jvmcorelaw3_sameTypes.l0] at h
  | k + 1 => by
    have ih0 := jvmcorelaw3_sameTypes.mono_l k
    · intro y0 y1 y2 y3
      unfold jvmcorelaw3_sameTypes.l0
      repeat' first
      | (with_reducible exact ih0 _ _ _ _)
      | (with_reducible exact LeO.refl _)
      | (with_reducible exact LeO.none _)
      | (with_reducible refine LeO.ite ?_ ?_)
      | (with_reducible refine LeO.bind ?_ (fun _ => ?_))
theorem jvmcorelaw3_sameTypes.mono : ∀ a0 a1 k, LeO (jvmcorelaw3_sameTypes.f k a0 a1) (jvmcorelaw3_sameTypes.f (k + 1) a0 a1) := by
  intro a0 a1 k
  have ih0 := jvmcorelaw3_sameTypes.mono_l k
  unfold jvmcorelaw3_sameTypes.f
  repeat' first
      | (with_reducible exact ih0 _ _ _ _)
      | (with_reducible exact LeO.refl _)
      | (with_reducible exact LeO.none _)
      | (with_reducible refine LeO.ite ?_ ?_)
      | (with_reducible refine LeO.bind ?_ (fun _ => ?_))
set_option maxHeartbeats 8000000 in
set_option maxRecDepth 100000 in
theorem jvmcorelaw3_sameTypes.calls (k : Nat) (A0 : Option Addr) (c0 : Nat) (l0 : List (S54)) (A1 : Option Addr) (c1 : Nat) (l1 : List (S54)) (r : Bool) (w : World) (hr0 : Kd.C k54 w A0 l0.length l0) (hc0 : l0.length ≤ c0) (hr1 : Kd.C k54 w A1 l1.length l1) (hc1 : l1.length ≤ c1) (h : jvmcorelaw3_sameTypes.f k l0 l1 = some r) :
    Calls Try.prog 30 #[.slice A0 l0.length c0, .slice A1 l1.length c1] w fun e w' => e = .returned (.bool r) ∧ Drawn0 w w' := by
  have hu54 := Try.underlying54
  have HR0 := Aside0.mk hr0
  have HC0 := Aside0.mk hc0
  clear hr0 hc0
  have HR1 := Aside0.mk hr1
  have HC1 := Aside0.mk hc1
  clear hr1 hc1
  have H : (if (l0.length : Int) = (l1.length : Int) then (jvmcorelaw3_sameTypes.l0 k l0 l1 (l0.length : Int) 0) else (some false)) = some r := h
  clear h
  by_cases c3 : (l0.length : Int) = (l1.length : Int)
  · rw [if_pos c3] at H
    have c3b0 : ((l0.length : Int) == (l1.length : Int)) = true := beq_iff_eq.mpr c3
    have c3b1 : ((l0.length : Int) != (l1.length : Int)) = false := bne_eq_false_iff_eq.mpr c3
    have c3b2 : (l0.length == l1.length) = true := by first | simpa using c3 | (simp at c3 ⊢; omega)
    clear c3
    have H' := Aside0.mk H
    clear H
    go_enter Try.func30, Try.ntmps30
    go_wp2
    repeat (go_quiet (fail); try go_wp2)
    go_loopg [13] k (fun kq v13 w' => ∃ (x13_1 : Int), v13 = .int .i64 x13_1 ∧ Aside0 (jvmcorelaw3_sameTypes.l0 kq l0 l1 (l0.length : Int) x13_1 = some r) ∧ Aside0 (kq ≤ k) ∧ Drawn0 w w')
    case atStart => exact ⟨(0), (by first | rfl | (simp; done) | (simp [*]; done)), H', ⟨Nat.le_refl _⟩, by repeat (first | exact Drawn0.refl _ | apply Drawn0.step)⟩
    case round =>
      clear H'
      try clear c1
      try clear p2
      try clear c3
      try clear c3b0
      try clear c3b1
      try clear c3b2
      obtain ⟨x13_1, rfl, HA, HK1, ⟨m1, rfl⟩⟩ := hrel
      cases gk with
      | zero => exact absurd HA.out (by simp [jvmcorelaw3_sameTypes.l0])
      | succ k1 =>
        have H := HA.out
        clear HA
        simp only [jvmcorelaw3_sameTypes.l0] at H
        by_cases c4 : x13_1 < (l0.length : Int)
        · rw [if_pos c4] at H
          have c4b0 : decide (x13_1 < (l0.length : Int)) = true := decide_eq_true c4
          clear c4
          by_cases c5 : 0 ≤ x13_1
          · rw [if_pos c5] at H
            have c5b0 : decide (0 ≤ x13_1) = true := decide_eq_true c5
            clear c5
            by_cases c6 : x13_1 < (l0.length : Int)
            · rw [if_pos c6] at H
              have c6b0 : decide (x13_1 < (l0.length : Int)) = true := decide_eq_true c6
              clear c6
              by_cases c7 : x13_1 < (l1.length : Int)
              · rw [if_pos c7] at H
                have c7b0 : decide (x13_1 < (l1.length : Int)) = true := decide_eq_true c7
                clear c7
                by_cases c8 : (!(((rd_T54 l0 x13_1).f0) == ((rd_T54 l1 x13_1).f0)) || (!((((rd_T54 l0 x13_1).f1).toList) == (((rd_T54 l1 x13_1).f1).toList)) || (!(((rd_T54 l0 x13_1).f2) == ((rd_T54 l1 x13_1).f2))))) = true
                · rw [if_pos c8] at H
                  have c8b0 : (!(((rd_T54 l0 x13_1).f0) == ((rd_T54 l1 x13_1).f0)) || (!((((rd_T54 l0 x13_1).f1).toList) == (((rd_T54 l1 x13_1).f1).toList)) || (!(((rd_T54 l0 x13_1).f2) == ((rd_T54 l1 x13_1).f2))))) = true := c8
                  clear c8
                  obtain rfl := Option.some.inj H
                  have p138 : 0 ≤ (x13_1 : Int) := of_decide_eq_true (by first | (with_reducible assumption) | assumption)
                  have q138 : x13_1 < (l0.length : Int) := of_decide_eq_true (by first | (with_reducible assumption) | assumption)
                  obtain ⟨ad138, e138, hx138_0, hx138_1, hx138_2⟩ := at_T54 HR0.out x13_1 p138 q138
                  cases e138
                  replace p138 := eq_true p138
                  replace q138 := eq_true q138
                  have p139 : 0 ≤ (x13_1 : Int) := of_decide_eq_true (by first | (with_reducible assumption) | assumption)
                  have q139 : x13_1 < (l1.length : Int) := of_decide_eq_true (by first | (with_reducible assumption) | assumption)
                  obtain ⟨ad139, e139, hx139_0, hx139_1, hx139_2⟩ := at_T54 HR1.out x13_1 p139 q139
                  cases e139
                  replace p139 := eq_true p139
                  replace q139 := eq_true q139
                  go_wp2
                  repeat (go_quiet (fail); try go_wp2)
                  go_ret
                  exact ⟨by first | rfl | (simp; done) | (simp [*]; done), by repeat (first | exact Drawn0.refl _ | apply Drawn0.step)⟩
                · rw [if_neg c8] at H
                  have c8b0 : (!(((rd_T54 l0 x13_1).f0) == ((rd_T54 l1 x13_1).f0)) || (!((((rd_T54 l0 x13_1).f1).toList) == (((rd_T54 l1 x13_1).f1).toList)) || (!(((rd_T54 l0 x13_1).f2) == ((rd_T54 l1 x13_1).f2))))) = false := by simpa using c8
                  clear c8
                  have H' := Aside0.mk H
                  clear H
                  have p138 : 0 ≤ (x13_1 : Int) := of_decide_eq_true (by first | (with_reducible assumption) | assumption)
                  have q138 : x13_1 < (l0.length : Int) := of_decide_eq_true (by first | (with_reducible assumption) | assumption)
                  obtain ⟨ad138, e138, hx138_0, hx138_1, hx138_2⟩ := at_T54 HR0.out x13_1 p138 q138
                  cases e138
                  replace p138 := eq_true p138
                  replace q138 := eq_true q138
                  have p139 : 0 ≤ (x13_1 : Int) := of_decide_eq_true (by first | (with_reducible assumption) | assumption)
                  have q139 : x13_1 < (l1.length : Int) := of_decide_eq_true (by first | (with_reducible assumption) | assumption)
                  obtain ⟨ad139, e139, hx139_0, hx139_1, hx139_2⟩ := at_T54 HR1.out x13_1 p139 q139
                  cases e139
                  replace p139 := eq_true p139
                  replace q139 := eq_true q139
                  go_wp2
                  repeat (go_quiet (fail); try go_wp2)
                  go_roundg k1
                  case measure => have := HK1.out; omega
                  case rel => exact ⟨(wrap64 (x13_1 + 1)), (by first | rfl | (simp; done) | (simp [*]; done)), H', ⟨by have := HK1.out; omega⟩, by repeat (first | exact Drawn0.refl _ | apply Drawn0.step)⟩
              · rw [if_neg c7] at H
                exact absurd H (by simp)
            · rw [if_neg c6] at H
              exact absurd H (by simp)
          · rw [if_neg c5] at H
            exact absurd H (by simp)
        · rw [if_neg c4] at H
          have c4b0 : decide (x13_1 < (l0.length : Int)) = false := decide_eq_false c4
          clear c4
          obtain rfl := Option.some.inj H
          go_wp2
          repeat (go_quiet (fail); try go_wp2)
          go_ret
          exact ⟨by first | rfl | (simp; done) | (simp [*]; done), by repeat (first | exact Drawn0.refl _ | apply Drawn0.step)⟩
  · rw [if_neg c3] at H
    have c3b0 : ((l0.length : Int) == (l1.length : Int)) = false := beq_eq_false_iff_ne.mpr c3
    have c3b1 : ((l0.length : Int) != (l1.length : Int)) = true := bne_iff_ne.mpr c3
    have c3b2 : (l0.length == l1.length) = false := by first | simpa using c3 | (simp at c3 ⊢; omega)
    obtain rfl := Option.some.inj H
    go_enter Try.func30, Try.ntmps30
    go_wp2
    repeat (go_quiet (fail); try go_wp2)
    go_ret
    exact ⟨by first | rfl | (simp; done) | (simp [*]; done), by repeat (first | exact Drawn0.refl _ | apply Drawn0.step)⟩
end Go.Proofs.Ytfnjbmpolggdeaa.MD
end
section
namespace Go.Proofs.Ytfnjbmpolggdeaa.MD
open Go.RowKit Go.Proofs.YtfnjbmpolggdeaaW.PrintWords Go.Proofs.YtfnjbmpolggdeaaW.PrintLast Go.Proofs.YtfnjbmpolggdeaaW.PrintMore
attribute [local go_sem] max2_int min2_int max_two min_two max_three min_three max_four min_four   -- for this text's walks alone
set_option linter.unusedVariables false
set_option linter.unusedSimpArgs false
def jvmcorelaw3_sameFrames.l0 : Nat → List (S80) → List (S80) → Int → Int → Option (Bool)
  | 0, _, _, _, _ => none
  | k + 1, x0, x1, x12, x13 => if x13 < x12 then (if 0 ≤ x13 then (if x13 < (x0.length : Int) then (if x13 < (x1.length : Int) then (if ((rd_T80 x0 x13).f0) = ((rd_T80 x1 x13).f0) then ((jvmcorelaw3_sameTypes.f k ((rd_T80 x0 x13).f1) ((rd_T80 x1 x13).f1)).bind fun t144 => (if t144 = true then ((jvmcorelaw3_sameTypes.f k ((rd_T80 x0 x13).f2) ((rd_T80 x1 x13).f2)).bind fun t147 => (if t147 = true then (jvmcorelaw3_sameFrames.l0 k x0 x1 x12 (wrap64 (x13 + 1))) else (some false))) else (some false))) else (some false)) else (none)) else (none)) else (none)) else (some true)
def jvmcorelaw3_sameFrames.f (k : Nat) (l0 : List (S80)) (l1 : List (S80)) : Option (Bool) := if (l0.length : Int) = (l1.length : Int) then (jvmcorelaw3_sameFrames.l0 k l0 l1 (l0.length : Int) 0) else (some false)
theorem jvmcorelaw3_sameFrames.mono_l : ∀ k, (∀ y0 y1 y2 y3, LeO (jvmcorelaw3_sameFrames.l0 k y0 y1 y2 y3) (jvmcorelaw3_sameFrames.l0 (k + 1) y0 y1 y2 y3))
  | 0 => fun _ _ _ _ r h => by simp [jvmcorelaw3_sameFrames.l0] at h
  | k + 1 => by
    have ih0 := jvmcorelaw3_sameFrames.mono_l k
    · intro y0 y1 y2 y3
      unfold jvmcorelaw3_sameFrames.l0
      repeat' first
      | (with_reducible exact ih0 _ _ _ _)
      | (with_reducible exact jvmcorelaw3_sameTypes.mono _ _ _)
      | (with_reducible exact LeO.refl _)
      | (with_reducible exact LeO.none _)
      | (with_reducible refine LeO.ite ?_ ?_)
      | (with_reducible refine LeO.bind ?_ (fun _ => ?_))
theorem jvmcorelaw3_sameFrames.mono : ∀ a0 a1 k, LeO (jvmcorelaw3_sameFrames.f k a0 a1) (jvmcorelaw3_sameFrames.f (k + 1) a0 a1) := by
  intro a0 a1 k
  have ih0 := jvmcorelaw3_sameFrames.mono_l k
  unfold jvmcorelaw3_sameFrames.f
  repeat' first
      | (with_reducible exact ih0 _ _ _ _)
      | (with_reducible exact jvmcorelaw3_sameTypes.mono _ _ _)
      | (with_reducible exact LeO.refl _)
      | (with_reducible exact LeO.none _)
      | (with_reducible refine LeO.ite ?_ ?_)
      | (with_reducible refine LeO.bind ?_ (fun _ => ?_))
def jvmcorelaw3_sameFrames.T6 : Bool × List (List Nat × List Nat) := (true, [([], []), ([], []), ([0, 1], [0, 1]), ([2], [2]), ([3], [3]), ([], []), ([], []), ([5, 6], [5, 6]), ([7], [7]), ([8], [8]), ([4, 9], [4, 9]), ([10], [10]), ([11], [11]), ([11], [11]), ([12, 13, 11], [11, 12, 13]), ([14, 11], [11, 14]), ([15, 11], [11, 15]), ([11], [11]), ([11], [11]), ([17, 18, 11], [11, 17, 18]), ([19, 11], [11, 19]), ([20, 11], [11, 20]), ([16, 21, 11, 11], [11, 16, 21]), ([22, 11], [11, 22]), ([11, 23], [11, 23]), ([24, 22], [24]), ([25], [25]), ([25], [25]), ([26, 27, 25], [25, 26, 27]), ([28, 25], [25, 28]), ([29, 25], [25, 29]), ([25], [25]), ([25], [25]), ([31, 32, 25], [25, 31, 32]), ([33, 25], [25, 33]), ([34, 25], [25, 34]), ([30, 35, 25, 25], [25, 30, 35]), ([36, 25], [25, 36]), ([25, 37], [25, 37])])
def jvmcorelaw3_sameFrames.B6 : List Nat := [0, 0, 3, 7, 15, 0, 0, 96, 224, 480, 1023, 2047, 4095, 4095, 16383, 32767, 65535, 4095, 4095, 397311, 921599, 1970175, 4194303, 8388607, 16777215, 33554431, 67108863, 67108863, 268435455, 536870911, 1073741823, 67108863, 67108863, 6509559807, 15099494399, 32279363583, 68719476735, 137438953471, 274877906943]
theorem jvmcorelaw3_sameFrames.tab6 : rtab .any (opsOf Try.f29 6) = jvmcorelaw3_sameFrames.T6 := by kernel_rfl
theorem jvmcorelaw3_sameFrames.bits6 : waitsOk jvmcorelaw3_sameFrames.T6.2 jvmcorelaw3_sameFrames.B6 = true := by kernel_rfl
set_option maxHeartbeats 8000000 in
set_option maxRecDepth 100000 in
theorem jvmcorelaw3_sameFrames.calls (k : Nat) (A0 : Option Addr) (c0 : Nat) (l0 : List (S80)) (A1 : Option Addr) (c1 : Nat) (l1 : List (S80)) (r : Bool) (w : World) (hr0 : Kd.C k80 w A0 l0.length l0) (hc0 : l0.length ≤ c0) (hr1 : Kd.C k80 w A1 l1.length l1) (hc1 : l1.length ≤ c1) (h : jvmcorelaw3_sameFrames.f k l0 l1 = some r) :
    Calls Try.prog 29 #[.slice A0 l0.length c0, .slice A1 l1.length c1] w fun e w' => e = .returned (.bool r) ∧ Below w.heap.size w w' := by
  have HR0 := Aside0.mk hr0
  have HC0 := Aside0.mk hc0
  clear hr0 hc0
  have HR1 := Aside0.mk hr1
  have HC1 := Aside0.mk hc1
  clear hr1 hc1
  have HB := Aside0.mk (Below.refl w.heap.size w)
  have H : (if (l0.length : Int) = (l1.length : Int) then (jvmcorelaw3_sameFrames.l0 k l0 l1 (l0.length : Int) 0) else (some false)) = some r := h
  clear h
  by_cases c3 : (l0.length : Int) = (l1.length : Int)
  · rw [if_pos c3] at H
    have c3b0 : ((l0.length : Int) == (l1.length : Int)) = true := beq_iff_eq.mpr c3
    have c3b1 : ((l0.length : Int) != (l1.length : Int)) = false := bne_eq_false_iff_eq.mpr c3
    have c3b2 : (l0.length == l1.length) = true := by first | simpa using c3 | (simp at c3 ⊢; omega)
    clear c3
    have H' := Aside0.mk H
    clear H
    go_enter Try.func29, Try.ntmps29
    go_wp2
    go_loopg [13] k (fun kq v13 w' => ∃ (x13_1 : Int), v13 = .int .i64 x13_1 ∧ Aside0 (jvmcorelaw3_sameFrames.l0 kq l0 l1 (l0.length : Int) x13_1 = some r) ∧ Aside0 (kq ≤ k) ∧ Aside0 (Below w.heap.size w w'))
    case atStart => exact ⟨(0), (by first | rfl | (simp; done) | (simp [*]; done)), H', ⟨Nat.le_refl _⟩, ⟨by repeat (first | (with_reducible first | exact HB.out | apply below_alloc | apply pw_below_drewN | apply below_drew1) | exact HB.out)⟩⟩
    case round =>
      clear H'
      try clear c1
      try clear c2
      try clear p2
      try clear c3
      try clear c3b0
      try clear c3b1
      try clear c3b2
      obtain ⟨x13_1, rfl, HA, HK1, HB⟩ := hrel
      cases gk with
      | zero => exact absurd HA.out (by simp [jvmcorelaw3_sameFrames.l0])
      | succ k1 =>
        have H := HA.out
        clear HA
        simp only [jvmcorelaw3_sameFrames.l0] at H
        by_cases c4 : x13_1 < (l0.length : Int)
        · rw [if_pos c4] at H
          have c4b0 : decide (x13_1 < (l0.length : Int)) = true := decide_eq_true c4
          clear c4
          by_cases c5 : 0 ≤ x13_1
          · rw [if_pos c5] at H
            have c5b0 : decide (0 ≤ x13_1) = true := decide_eq_true c5
            clear c5
            by_cases c6 : x13_1 < (l0.length : Int)
            · rw [if_pos c6] at H
              have c6b0 : decide (x13_1 < (l0.length : Int)) = true := decide_eq_true c6
              clear c6
              by_cases c7 : x13_1 < (l1.length : Int)
              · rw [if_pos c7] at H
                have c7b0 : decide (x13_1 < (l1.length : Int)) = true := decide_eq_true c7
                clear c7
                by_cases c8 : ((rd_T80 l0 x13_1).f0) = ((rd_T80 l1 x13_1).f0)
                · rw [if_pos c8] at H
                  have c8b0 : (((rd_T80 l0 x13_1).f0) == ((rd_T80 l1 x13_1).f0)) = true := beq_iff_eq.mpr c8
                  have c8b1 : (((rd_T80 l0 x13_1).f0) != ((rd_T80 l1 x13_1).f0)) = false := bne_eq_false_iff_eq.mpr c8
                  clear c8
                  replace H := Option.bind_eq_some_iff.mp H
                  obtain ⟨t144, A90, H⟩ := H
                  replace H : (if t144 = true then ((jvmcorelaw3_sameTypes.f k1 ((rd_T80 l0 x13_1).f2) ((rd_T80 l1 x13_1).f2)).bind fun t147 => (if t147 = true then (jvmcorelaw3_sameFrames.l0 k1 l0 l1 (l0.length : Int) (wrap64 (x13_1 + 1))) else (some false))) else (some false)) = some r := H
                  have A9 := Aside0.mk A90
                  clear A90
                  by_cases c10 : t144 = true
                  · subst c10
                    have H1 : ((jvmcorelaw3_sameTypes.f k1 ((rd_T80 l0 x13_1).f2) ((rd_T80 l1 x13_1).f2)).bind fun t147 => (if t147 = true then (jvmcorelaw3_sameFrames.l0 k1 l0 l1 (l0.length : Int) (wrap64 (x13_1 + 1))) else (some false))) = some r := by rw [if_pos rfl] at H; exact H
                    clear H
                    have H := H1
                    clear H1
                    replace H := Option.bind_eq_some_iff.mp H
                    obtain ⟨t147, A110, H⟩ := H
                    replace H : (if t147 = true then (jvmcorelaw3_sameFrames.l0 k1 l0 l1 (l0.length : Int) (wrap64 (x13_1 + 1))) else (some false)) = some r := H
                    have A11 := Aside0.mk A110
                    clear A110
                    by_cases c12 : t147 = true
                    · subst c12
                      have H1 : (jvmcorelaw3_sameFrames.l0 k1 l0 l1 (l0.length : Int) (wrap64 (x13_1 + 1))) = some r := by rw [if_pos rfl] at H; exact H
                      clear H
                      have H := H1
                      clear H1
                      have H' := Aside0.mk H
                      clear H
                      try go_wp2
                      have n0_ := Aside0.mk (below_drew1 HB.out)
                      clear HB
                      have HB := n0_
                      clear n0_
                      have p140 : 0 ≤ (x13_1 : Int) := of_decide_eq_true (by first | (with_reducible assumption) | assumption)
                      have q140 : x13_1 < (l0.length : Int) := of_decide_eq_true (by first | (with_reducible assumption) | assumption)
                      obtain ⟨ad140, A140_1, c140_1, A140_2, c140_2, e140, hx140_0, hx140_1, hx140_2, hl140_1, hi140_1, hl140_2, hi140_2⟩ := at_T80 HR0.out x13_1 p140 q140
                      have hw140_2 := hx140_2
                      have hw140_1 := hx140_1
                      have hw140_0 := hx140_0
                      cases e140
                      replace hx140_0 := (HB.out.cell (World.block_lt_of_cell? w _ hx140_0)).trans hx140_0
                      replace hx140_1 := (HB.out.cell (World.block_lt_of_cell? w _ hx140_1)).trans hx140_1
                      replace hx140_2 := (HB.out.cell (World.block_lt_of_cell? w _ hx140_2)).trans hx140_2
                      have HR140_1 := Aside0.mk hi140_1
                      have HC140_1 := Aside0.mk hl140_1
                      clear hi140_1 hl140_1
                      have HR140_2 := Aside0.mk hi140_2
                      have HC140_2 := Aside0.mk hl140_2
                      clear hi140_2 hl140_2
                      replace p140 := eq_true p140
                      replace q140 := eq_true q140
                      have p141 : 0 ≤ (x13_1 : Int) := of_decide_eq_true (by first | (with_reducible assumption) | assumption)
                      have q141 : x13_1 < (l1.length : Int) := of_decide_eq_true (by first | (with_reducible assumption) | assumption)
                      obtain ⟨ad141, A141_1, c141_1, A141_2, c141_2, e141, hx141_0, hx141_1, hx141_2, hl141_1, hi141_1, hl141_2, hi141_2⟩ := at_T80 HR1.out x13_1 p141 q141
                      have hw141_2 := hx141_2
                      have hw141_1 := hx141_1
                      have hw141_0 := hx141_0
                      cases e141
                      replace hx141_0 := (HB.out.cell (World.block_lt_of_cell? w _ hx141_0)).trans hx141_0
                      replace hx141_1 := (HB.out.cell (World.block_lt_of_cell? w _ hx141_1)).trans hx141_1
                      replace hx141_2 := (HB.out.cell (World.block_lt_of_cell? w _ hx141_2)).trans hx141_2
                      have HR141_1 := Aside0.mk hi141_1
                      have HC141_1 := Aside0.mk hl141_1
                      clear hi141_1 hl141_1
                      have HR141_2 := Aside0.mk hi141_2
                      have HC141_2 := Aside0.mk hl141_2
                      clear hi141_2 hl141_2
                      replace p141 := eq_true p141
                      replace q141 := eq_true q141
                      have p142 : 0 ≤ (x13_1 : Int) := of_decide_eq_true (by first | (with_reducible assumption) | assumption)
                      have q142 : x13_1 < (l0.length : Int) := of_decide_eq_true (by first | (with_reducible assumption) | assumption)
                      obtain ⟨ad142, A142_1, c142_1, A142_2, c142_2, e142, hx142_0, hx142_1, hx142_2, hl142_1, hi142_1, hl142_2, hi142_2⟩ := at_T80 HR0.out x13_1 p142 q142
                      have hw142_2 := hx142_2
                      have hw142_1 := hx142_1
                      have hw142_0 := hx142_0
                      obtain rfl : ad140 = ad142 := (by injection e142)
                      replace hx142_0 := (HB.out.cell (World.block_lt_of_cell? w _ hx142_0)).trans hx142_0
                      replace hx142_1 := (HB.out.cell (World.block_lt_of_cell? w _ hx142_1)).trans hx142_1
                      replace hx142_2 := (HB.out.cell (World.block_lt_of_cell? w _ hx142_2)).trans hx142_2
                      have HR142_1 := Aside0.mk hi142_1
                      have HC142_1 := Aside0.mk hl142_1
                      clear hi142_1 hl142_1
                      have HR142_2 := Aside0.mk hi142_2
                      have HC142_2 := Aside0.mk hl142_2
                      clear hi142_2 hl142_2
                      replace p142 := eq_true p142
                      replace q142 := eq_true q142
                      have ea_ := Option.some.inj (hx140_1.symm.trans hx142_1)
                      injection ea_ with ea_ en_ ec_
                      subst ea_
                      subst ec_
                      clear en_
                      have ea_ := Option.some.inj (hx140_2.symm.trans hx142_2)
                      injection ea_ with ea_ en_ ec_
                      subst ea_
                      subst ec_
                      clear en_
                      have p143 : 0 ≤ (x13_1 : Int) := of_decide_eq_true (by first | (with_reducible assumption) | assumption)
                      have q143 : x13_1 < (l1.length : Int) := of_decide_eq_true (by first | (with_reducible assumption) | assumption)
                      obtain ⟨ad143, A143_1, c143_1, A143_2, c143_2, e143, hx143_0, hx143_1, hx143_2, hl143_1, hi143_1, hl143_2, hi143_2⟩ := at_T80 HR1.out x13_1 p143 q143
                      have hw143_2 := hx143_2
                      have hw143_1 := hx143_1
                      have hw143_0 := hx143_0
                      obtain rfl : ad141 = ad143 := (by injection e143)
                      replace hx143_0 := (HB.out.cell (World.block_lt_of_cell? w _ hx143_0)).trans hx143_0
                      replace hx143_1 := (HB.out.cell (World.block_lt_of_cell? w _ hx143_1)).trans hx143_1
                      replace hx143_2 := (HB.out.cell (World.block_lt_of_cell? w _ hx143_2)).trans hx143_2
                      have HR143_1 := Aside0.mk hi143_1
                      have HC143_1 := Aside0.mk hl143_1
                      clear hi143_1 hl143_1
                      have HR143_2 := Aside0.mk hi143_2
                      have HC143_2 := Aside0.mk hl143_2
                      clear hi143_2 hl143_2
                      replace p143 := eq_true p143
                      replace q143 := eq_true q143
                      have ea_ := Option.some.inj (hx141_1.symm.trans hx143_1)
                      injection ea_ with ea_ en_ ec_
                      subst ea_
                      subst ec_
                      clear en_
                      have ea_ := Option.some.inj (hx141_2.symm.trans hx143_2)
                      injection ea_ with ea_ en_ ec_
                      subst ea_
                      subst ec_
                      clear en_
                      have p145 : 0 ≤ (x13_1 : Int) := of_decide_eq_true (by first | (with_reducible assumption) | assumption)
                      have q145 : x13_1 < (l0.length : Int) := of_decide_eq_true (by first | (with_reducible assumption) | assumption)
                      obtain ⟨ad145, A145_1, c145_1, A145_2, c145_2, e145, hx145_0, hx145_1, hx145_2, hl145_1, hi145_1, hl145_2, hi145_2⟩ := at_T80 HR0.out x13_1 p145 q145
                      have hw145_2 := hx145_2
                      have hw145_1 := hx145_1
                      have hw145_0 := hx145_0
                      obtain rfl : ad140 = ad145 := (by injection e145)
                      replace hx145_0 := (HB.out.cell (World.block_lt_of_cell? w _ hx145_0)).trans hx145_0
                      replace hx145_1 := (HB.out.cell (World.block_lt_of_cell? w _ hx145_1)).trans hx145_1
                      replace hx145_2 := (HB.out.cell (World.block_lt_of_cell? w _ hx145_2)).trans hx145_2
                      have HR145_1 := Aside0.mk hi145_1
                      have HC145_1 := Aside0.mk hl145_1
                      clear hi145_1 hl145_1
                      have HR145_2 := Aside0.mk hi145_2
                      have HC145_2 := Aside0.mk hl145_2
                      clear hi145_2 hl145_2
                      replace p145 := eq_true p145
                      replace q145 := eq_true q145
                      have ea_ := Option.some.inj (hx140_1.symm.trans hx145_1)
                      injection ea_ with ea_ en_ ec_
                      subst ea_
                      subst ec_
                      clear en_
                      have ea_ := Option.some.inj (hx140_2.symm.trans hx145_2)
                      injection ea_ with ea_ en_ ec_
                      subst ea_
                      subst ec_
                      clear en_
                      have p146 : 0 ≤ (x13_1 : Int) := of_decide_eq_true (by first | (with_reducible assumption) | assumption)
                      have q146 : x13_1 < (l1.length : Int) := of_decide_eq_true (by first | (with_reducible assumption) | assumption)
                      obtain ⟨ad146, A146_1, c146_1, A146_2, c146_2, e146, hx146_0, hx146_1, hx146_2, hl146_1, hi146_1, hl146_2, hi146_2⟩ := at_T80 HR1.out x13_1 p146 q146
                      have hw146_2 := hx146_2
                      have hw146_1 := hx146_1
                      have hw146_0 := hx146_0
                      obtain rfl : ad141 = ad146 := (by injection e146)
                      replace hx146_0 := (HB.out.cell (World.block_lt_of_cell? w _ hx146_0)).trans hx146_0
                      replace hx146_1 := (HB.out.cell (World.block_lt_of_cell? w _ hx146_1)).trans hx146_1
                      replace hx146_2 := (HB.out.cell (World.block_lt_of_cell? w _ hx146_2)).trans hx146_2
                      have HR146_1 := Aside0.mk hi146_1
                      have HC146_1 := Aside0.mk hl146_1
                      clear hi146_1 hl146_1
                      have HR146_2 := Aside0.mk hi146_2
                      have HC146_2 := Aside0.mk hl146_2
                      clear hi146_2 hl146_2
                      replace p146 := eq_true p146
                      replace q146 := eq_true q146
                      have ea_ := Option.some.inj (hx141_1.symm.trans hx146_1)
                      injection ea_ with ea_ en_ ec_
                      subst ea_
                      subst ec_
                      clear en_
                      have ea_ := Option.some.inj (hx141_2.symm.trans hx146_2)
                      injection ea_ with ea_ en_ ec_
                      subst ea_
                      subst ec_
                      clear en_
                      refine start_ (n := 39) (S := fun w' => w'.cell? (ad140.add ((x13_1).toNat * 3)) = some (.int .i64 ((rd_T80 l0 x13_1).f0)) ∧ w'.cell? ⟨(ad140.add ((x13_1).toNat * 3)).block, (ad140.add ((x13_1).toNat * 3)).off + 1, none⟩ = some (.slice A140_1 ((rd_T80 l0 x13_1).f1).length c140_1) ∧ w'.cell? ⟨(ad140.add ((x13_1).toNat * 3)).block, (ad140.add ((x13_1).toNat * 3)).off + 2, none⟩ = some (.slice A140_2 ((rd_T80 l0 x13_1).f2).length c140_2) ∧ w'.cell? (ad141.add ((x13_1).toNat * 3)) = some (.int .i64 ((rd_T80 l1 x13_1).f0)) ∧ w'.cell? ⟨(ad141.add ((x13_1).toNat * 3)).block, (ad141.add ((x13_1).toNat * 3)).off + 1, none⟩ = some (.slice A141_1 ((rd_T80 l1 x13_1).f1).length c141_1) ∧ w'.cell? ⟨(ad141.add ((x13_1).toNat * 3)).block, (ad141.add ((x13_1).toNat * 3)).off + 2, none⟩ = some (.slice A141_2 ((rd_T80 l1 x13_1).f2).length c141_2) ∧ w'.cell? (ad140.add ((x13_1).toNat * 3)) = some (.int .i64 ((rd_T80 l0 x13_1).f0)) ∧ w'.cell? ⟨(ad140.add ((x13_1).toNat * 3)).block, (ad140.add ((x13_1).toNat * 3)).off + 1, none⟩ = some (.slice A140_1 ((rd_T80 l0 x13_1).f1).length c140_1) ∧ w'.cell? ⟨(ad140.add ((x13_1).toNat * 3)).block, (ad140.add ((x13_1).toNat * 3)).off + 2, none⟩ = some (.slice A140_2 ((rd_T80 l0 x13_1).f2).length c140_2) ∧ w'.cell? (ad141.add ((x13_1).toNat * 3)) = some (.int .i64 ((rd_T80 l1 x13_1).f0)) ∧ w'.cell? ⟨(ad141.add ((x13_1).toNat * 3)).block, (ad141.add ((x13_1).toNat * 3)).off + 1, none⟩ = some (.slice A141_1 ((rd_T80 l1 x13_1).f1).length c141_1) ∧ w'.cell? ⟨(ad141.add ((x13_1).toNat * 3)).block, (ad141.add ((x13_1).toNat * 3)).off + 2, none⟩ = some (.slice A141_2 ((rd_T80 l1 x13_1).f2).length c141_2) ∧ w'.cell? (ad140.add ((x13_1).toNat * 3)) = some (.int .i64 ((rd_T80 l0 x13_1).f0)) ∧ w'.cell? ⟨(ad140.add ((x13_1).toNat * 3)).block, (ad140.add ((x13_1).toNat * 3)).off + 1, none⟩ = some (.slice A140_1 ((rd_T80 l0 x13_1).f1).length c140_1) ∧ w'.cell? ⟨(ad140.add ((x13_1).toNat * 3)).block, (ad140.add ((x13_1).toNat * 3)).off + 2, none⟩ = some (.slice A140_2 ((rd_T80 l0 x13_1).f2).length c140_2) ∧ w'.cell? (ad141.add ((x13_1).toNat * 3)) = some (.int .i64 ((rd_T80 l1 x13_1).f0)) ∧ w'.cell? ⟨(ad141.add ((x13_1).toNat * 3)).block, (ad141.add ((x13_1).toNat * 3)).off + 1, none⟩ = some (.slice A141_1 ((rd_T80 l1 x13_1).f1).length c141_1) ∧ w'.cell? ⟨(ad141.add ((x13_1).toNat * 3)).block, (ad141.add ((x13_1).toNat * 3)).off + 2, none⟩ = some (.slice A141_2 ((rd_T80 l1 x13_1).f2).length c141_2)) (ds := []) #[false, false, false, false, false, false, false, false, false, false, false, false, false, false, false, false, false, false, false, false, false, false, false, false, false, false, false, false, false, false, false, false, false, false, false, false, false, false, false] (by kernel_rfl) rfl rfl ⟨((HB.out.cell (World.block_lt_of_cell? w _ hw140_0)).trans hw140_0), ((HB.out.cell (World.block_lt_of_cell? w _ hw140_1)).trans hw140_1), ((HB.out.cell (World.block_lt_of_cell? w _ hw140_2)).trans hw140_2), ((HB.out.cell (World.block_lt_of_cell? w _ hw141_0)).trans hw141_0), ((HB.out.cell (World.block_lt_of_cell? w _ hw141_1)).trans hw141_1), ((HB.out.cell (World.block_lt_of_cell? w _ hw141_2)).trans hw141_2), ((HB.out.cell (World.block_lt_of_cell? w _ hw142_0)).trans hw142_0), ((HB.out.cell (World.block_lt_of_cell? w _ hw142_1)).trans hw142_1), ((HB.out.cell (World.block_lt_of_cell? w _ hw142_2)).trans hw142_2), ((HB.out.cell (World.block_lt_of_cell? w _ hw143_0)).trans hw143_0), ((HB.out.cell (World.block_lt_of_cell? w _ hw143_1)).trans hw143_1), ((HB.out.cell (World.block_lt_of_cell? w _ hw143_2)).trans hw143_2), ((HB.out.cell (World.block_lt_of_cell? w _ hw145_0)).trans hw145_0), ((HB.out.cell (World.block_lt_of_cell? w _ hw145_1)).trans hw145_1), ((HB.out.cell (World.block_lt_of_cell? w _ hw145_2)).trans hw145_2), ((HB.out.cell (World.block_lt_of_cell? w _ hw146_0)).trans hw146_0), ((HB.out.cell (World.block_lt_of_cell? w _ hw146_1)).trans hw146_1), ((HB.out.cell (World.block_lt_of_cell? w _ hw146_2)).trans hw146_2)⟩ (fun hHeld => ?_); refine with_tabW jvmcorelaw3_sameFrames.tab6 jvmcorelaw3_sameFrames.bits6 (fun HT_ HW_ => ?_)
                      generalize wr.drew = w13 at HB HR140_1 HR140_2 HR141_1 HR141_2 HR142_1 HR142_2 HR143_1 HR143_2 HR145_1 HR145_2 HR146_1 HR146_2 hx140_0 hx140_1 hx140_2 hx141_0 hx141_1 hx141_2 hx142_0 hx142_1 hx142_2 hx143_0 hx143_1 hx143_2 hx145_0 hx145_1 hx145_2 hx146_0 hx146_1 hx146_2 hHeld ⊢
                      refine pure_ (i := 0) (N := some 16) (v := ?_) (a' := ?_) #[true, false, false, false, false, false, false, false, false, false, false, false, false, false, false, false, false, false, false, false, false, false, false, false, false, false, false, false, false, false, false, false, false, false, false, false, false, false, false] rfl rfl (any_of HT_.out (by kernel_rfl)) (fun _ _ _ h => h) (Or.inl ⟨by rfl, ?_⟩) ?_ ?_
                      rotate_left
                      · intro w'
                        go_simp
                        with_reducible rfl
                      rotate_left
                      · simp only [Act.put, List.setIfInBounds_toArray, List.set_cons_zero, List.set_cons_succ, i64_w, i32_w]
                        rfl
                      refine pure_ (i := 1) (N := some 17) (v := ?_) (a' := ?_) #[true, true, false, false, false, false, false, false, false, false, false, false, false, false, false, false, false, false, false, false, false, false, false, false, false, false, false, false, false, false, false, false, false, false, false, false, false, false, false] rfl rfl (any_of HT_.out (by kernel_rfl)) (fun _ _ _ h => h) (Or.inl ⟨by rfl, ?_⟩) ?_ ?_
                      rotate_left
                      · intro w'
                        go_simp
                        with_reducible rfl
                      rotate_left
                      · simp only [Act.put, List.setIfInBounds_toArray, List.set_cons_zero, List.set_cons_succ, i64_w, i32_w]
                        rfl
                      refine pure_ (i := 2) (N := some 18) (v := ?_) (a' := ?_) #[true, true, true, false, false, false, false, false, false, false, false, false, false, false, false, false, false, false, false, false, false, false, false, false, false, false, false, false, false, false, false, false, false, false, false, false, false, false, false] rfl rfl (any_of HT_.out (by kernel_rfl)) (fun _ _ _ h => h) (Or.inl ⟨by rfl, ?_⟩) ?_ ?_
                      rotate_left
                      · intro w'
                        go_simp
                        with_reducible rfl
                      rotate_left
                      · simp only [Act.put, List.setIfInBounds_toArray, List.set_cons_zero, List.set_cons_succ, i64_w, i32_w]
                        rfl
                      refine pure_ (i := 3) (N := some 19) (v := ?_) (a' := ?_) #[true, true, true, true, false, false, false, false, false, false, false, false, false, false, false, false, false, false, false, false, false, false, false, false, false, false, false, false, false, false, false, false, false, false, false, false, false, false, false] rfl rfl (any_of HT_.out (by kernel_rfl)) (fun _ _ _ h => h) (Or.inl ⟨by rfl, ?_⟩) ?_ ?_
                      rotate_left
                      · intro w'
                        go_simp
                        with_reducible rfl
                      rotate_left
                      · simp only [Act.put, List.setIfInBounds_toArray, List.set_cons_zero, List.set_cons_succ, i64_w, i32_w]
                        rfl
                      refine pure_ (i := 5) (N := some 21) (v := ?_) (a' := ?_) #[true, true, true, true, false, true, false, false, false, false, false, false, false, false, false, false, false, false, false, false, false, false, false, false, false, false, false, false, false, false, false, false, false, false, false, false, false, false, false] rfl rfl (any_of HT_.out (by kernel_rfl)) (fun _ _ _ h => h) (Or.inl ⟨by rfl, ?_⟩) ?_ ?_
                      rotate_left
                      · intro w'
                        go_simp
                        with_reducible rfl
                      rotate_left
                      · simp only [Act.put, List.setIfInBounds_toArray, List.set_cons_zero, List.set_cons_succ, i64_w, i32_w]
                        rfl
                      refine pure_ (i := 6) (N := some 22) (v := ?_) (a' := ?_) #[true, true, true, true, false, true, true, false, false, false, false, false, false, false, false, false, false, false, false, false, false, false, false, false, false, false, false, false, false, false, false, false, false, false, false, false, false, false, false] rfl rfl (any_of HT_.out (by kernel_rfl)) (fun _ _ _ h => h) (Or.inl ⟨by rfl, ?_⟩) ?_ ?_
                      rotate_left
                      · intro w'
                        go_simp
                        with_reducible rfl
                      rotate_left
                      · simp only [Act.put, List.setIfInBounds_toArray, List.set_cons_zero, List.set_cons_succ, i64_w, i32_w]
                        rfl
                      refine pure_ (i := 7) (N := some 23) (v := ?_) (a' := ?_) #[true, true, true, true, false, true, true, true, false, false, false, false, false, false, false, false, false, false, false, false, false, false, false, false, false, false, false, false, false, false, false, false, false, false, false, false, false, false, false] rfl rfl (any_of HT_.out (by kernel_rfl)) (fun _ _ _ h => h) (Or.inl ⟨by rfl, ?_⟩) ?_ ?_
                      rotate_left
                      · intro w'
                        go_simp
                        with_reducible rfl
                      rotate_left
                      · simp only [Act.put, List.setIfInBounds_toArray, List.set_cons_zero, List.set_cons_succ, i64_w, i32_w]
                        rfl
                      refine pure_ (i := 8) (N := some 24) (v := ?_) (a' := ?_) #[true, true, true, true, false, true, true, true, true, false, false, false, false, false, false, false, false, false, false, false, false, false, false, false, false, false, false, false, false, false, false, false, false, false, false, false, false, false, false] rfl rfl (any_of HT_.out (by kernel_rfl)) (fun _ _ _ h => h) (Or.inl ⟨by rfl, ?_⟩) ?_ ?_
                      rotate_left
                      · intro w'
                        go_simp
                        with_reducible rfl
                      rotate_left
                      · simp only [Act.put, List.setIfInBounds_toArray, List.set_cons_zero, List.set_cons_succ, i64_w, i32_w]
                        rfl
                      refine take_ (i := 4) (N := some 20) (v := ?_) (a' := ?_) #[true, true, true, true, true, true, true, true, true, false, false, false, false, false, false, false, false, false, false, false, false, false, false, false, false, false, false, false, false, false, false, false, false, false, false, false, false, false, false] rfl rfl (take_ofW HT_.out HW_.out (by kernel_rfl)) (fun _ _ _ h => h) (Or.inl ⟨by rfl, ?_⟩) hHeld ?_ ?_
                      rotate_left
                      · rintro w' ⟨s0, s1, s2, s3, s4, s5, s6, s7, s8, s9, s10, s11, s12, s13, s14, s15, s16, s17⟩
                        go_simp
                        with_reducible rfl
                      rotate_left
                      · simp only [Act.put, List.setIfInBounds_toArray, List.set_cons_zero, List.set_cons_succ, i64_w, i32_w]
                        rfl
                      refine take_ (i := 9) (N := some 25) (v := ?_) (a' := ?_) #[true, true, true, true, true, true, true, true, true, true, false, false, false, false, false, false, false, false, false, false, false, false, false, false, false, false, false, false, false, false, false, false, false, false, false, false, false, false, false] rfl rfl (take_ofW HT_.out HW_.out (by kernel_rfl)) (fun _ _ _ h => h) (Or.inl ⟨by rfl, ?_⟩) hHeld ?_ ?_
                      rotate_left
                      · rintro w' ⟨s0, s1, s2, s3, s4, s5, s6, s7, s8, s9, s10, s11, s12, s13, s14, s15, s16, s17⟩
                        go_simp
                        with_reducible rfl
                      rotate_left
                      · simp only [Act.put, List.setIfInBounds_toArray, List.set_cons_zero, List.set_cons_succ, i64_w, i32_w]
                        rfl
                      refine pure_ (i := 10) (N := some 26) (v := ?_) (a' := ?_) #[true, true, true, true, true, true, true, true, true, true, true, false, false, false, false, false, false, false, false, false, false, false, false, false, false, false, false, false, false, false, false, false, false, false, false, false, false, false, false] rfl rfl (any_of HT_.out (by kernel_rfl)) (fun _ _ _ h => h) (Or.inl ⟨by rfl, ?_⟩) ?_ ?_
                      rotate_left
                      · intro w'
                        go_simp
                        with_reducible rfl
                      rotate_left
                      · simp only [Act.put, List.setIfInBounds_toArray, List.set_cons_zero, List.set_cons_succ, i64_w, i32_w]
                        rfl
                      refine pure_ (i := 11) (N := some 27) (v := ?_) (a' := ?_) #[true, true, true, true, true, true, true, true, true, true, true, true, false, false, false, false, false, false, false, false, false, false, false, false, false, false, false, false, false, false, false, false, false, false, false, false, false, false, false] rfl rfl (any_of HT_.out (by kernel_rfl)) (fun _ _ _ h => h) (Or.inl ⟨by rfl, ?_⟩) ?_ ?_
                      rotate_left
                      · intro w'
                        go_simp
                        with_reducible rfl
                      rotate_left
                      · simp only [Act.put, List.setIfInBounds_toArray, List.set_cons_zero, List.set_cons_succ, i64_w, i32_w]
                        rfl
                      refine pure_ (i := 12) (N := some 28) (v := ?_) (a' := ?_) #[true, true, true, true, true, true, true, true, true, true, true, true, true, false, false, false, false, false, false, false, false, false, false, false, false, false, false, false, false, false, false, false, false, false, false, false, false, false, false] rfl rfl (any_of HT_.out (by kernel_rfl)) (fun _ _ _ h => h) (Or.inl ⟨by rfl, ?_⟩) ?_ ?_
                      rotate_left
                      · intro w'
                        go_simp
                        with_reducible rfl
                      rotate_left
                      · simp only [Act.put, List.setIfInBounds_toArray, List.set_cons_zero, List.set_cons_succ, i64_w, i32_w]
                        rfl
                      refine pure_ (i := 13) (N := some 29) (v := ?_) (a' := ?_) #[true, true, true, true, true, true, true, true, true, true, true, true, true, true, false, false, false, false, false, false, false, false, false, false, false, false, false, false, false, false, false, false, false, false, false, false, false, false, false] rfl rfl (any_of HT_.out (by kernel_rfl)) (fun _ _ _ h => h) (Or.inl ⟨by rfl, ?_⟩) ?_ ?_
                      rotate_left
                      · intro w'
                        go_simp
                        with_reducible rfl
                      rotate_left
                      · simp only [Act.put, List.setIfInBounds_toArray, List.set_cons_zero, List.set_cons_succ, i64_w, i32_w]
                        rfl
                      refine pure_ (i := 14) (N := some 30) (v := ?_) (a' := ?_) #[true, true, true, true, true, true, true, true, true, true, true, true, true, true, true, false, false, false, false, false, false, false, false, false, false, false, false, false, false, false, false, false, false, false, false, false, false, false, false] rfl rfl (any_of HT_.out (by kernel_rfl)) (fun _ _ _ h => h) (Or.inl ⟨by rfl, ?_⟩) ?_ ?_
                      rotate_left
                      · intro w'
                        go_simp
                        with_reducible rfl
                      rotate_left
                      · simp only [Act.put, List.setIfInBounds_toArray, List.set_cons_zero, List.set_cons_succ, i64_w, i32_w]
                        rfl
                      refine pure_ (i := 15) (N := some 31) (v := ?_) (a' := ?_) #[true, true, true, true, true, true, true, true, true, true, true, true, true, true, true, true, false, false, false, false, false, false, false, false, false, false, false, false, false, false, false, false, false, false, false, false, false, false, false] rfl rfl (any_of HT_.out (by kernel_rfl)) (fun _ _ _ h => h) (Or.inl ⟨by rfl, ?_⟩) ?_ ?_
                      rotate_left
                      · intro w'
                        go_simp
                        with_reducible rfl
                      rotate_left
                      · simp only [Act.put, List.setIfInBounds_toArray, List.set_cons_zero, List.set_cons_succ, i64_w, i32_w]
                        rfl
                      refine pure_ (i := 17) (N := some 33) (v := ?_) (a' := ?_) #[true, true, true, true, true, true, true, true, true, true, true, true, true, true, true, true, false, true, false, false, false, false, false, false, false, false, false, false, false, false, false, false, false, false, false, false, false, false, false] rfl rfl (any_of HT_.out (by kernel_rfl)) (fun _ _ _ h => h) (Or.inl ⟨by rfl, ?_⟩) ?_ ?_
                      rotate_left
                      · intro w'
                        go_simp
                        with_reducible rfl
                      rotate_left
                      · simp only [Act.put, List.setIfInBounds_toArray, List.set_cons_zero, List.set_cons_succ, i64_w, i32_w]
                        rfl
                      refine pure_ (i := 18) (N := some 34) (v := ?_) (a' := ?_) #[true, true, true, true, true, true, true, true, true, true, true, true, true, true, true, true, false, true, true, false, false, false, false, false, false, false, false, false, false, false, false, false, false, false, false, false, false, false, false] rfl rfl (any_of HT_.out (by kernel_rfl)) (fun _ _ _ h => h) (Or.inl ⟨by rfl, ?_⟩) ?_ ?_
                      rotate_left
                      · intro w'
                        go_simp
                        with_reducible rfl
                      rotate_left
                      · simp only [Act.put, List.setIfInBounds_toArray, List.set_cons_zero, List.set_cons_succ, i64_w, i32_w]
                        rfl
                      refine pure_ (i := 19) (N := some 35) (v := ?_) (a' := ?_) #[true, true, true, true, true, true, true, true, true, true, true, true, true, true, true, true, false, true, true, true, false, false, false, false, false, false, false, false, false, false, false, false, false, false, false, false, false, false, false] rfl rfl (any_of HT_.out (by kernel_rfl)) (fun _ _ _ h => h) (Or.inl ⟨by rfl, ?_⟩) ?_ ?_
                      rotate_left
                      · intro w'
                        go_simp
                        with_reducible rfl
                      rotate_left
                      · simp only [Act.put, List.setIfInBounds_toArray, List.set_cons_zero, List.set_cons_succ, i64_w, i32_w]
                        rfl
                      refine pure_ (i := 20) (N := some 36) (v := ?_) (a' := ?_) #[true, true, true, true, true, true, true, true, true, true, true, true, true, true, true, true, false, true, true, true, true, false, false, false, false, false, false, false, false, false, false, false, false, false, false, false, false, false, false] rfl rfl (any_of HT_.out (by kernel_rfl)) (fun _ _ _ h => h) (Or.inl ⟨by rfl, ?_⟩) ?_ ?_
                      rotate_left
                      · intro w'
                        go_simp
                        with_reducible rfl
                      rotate_left
                      · simp only [Act.put, List.setIfInBounds_toArray, List.set_cons_zero, List.set_cons_succ, i64_w, i32_w]
                        rfl
                      refine take_ (i := 16) (N := some 32) (v := ?_) (a' := ?_) #[true, true, true, true, true, true, true, true, true, true, true, true, true, true, true, true, true, true, true, true, true, false, false, false, false, false, false, false, false, false, false, false, false, false, false, false, false, false, false] rfl rfl (take_ofW HT_.out HW_.out (by kernel_rfl)) (fun _ _ _ h => h) (Or.inl ⟨by rfl, ?_⟩) hHeld ?_ ?_
                      rotate_left
                      · rintro w' ⟨s0, s1, s2, s3, s4, s5, s6, s7, s8, s9, s10, s11, s12, s13, s14, s15, s16, s17⟩
                        go_simp
                        with_reducible rfl
                      rotate_left
                      · simp only [Act.put, List.setIfInBounds_toArray, List.set_cons_zero, List.set_cons_succ, i64_w, i32_w]
                        rfl
                      refine take_ (i := 21) (N := some 37) (v := ?_) (a' := ?_) #[true, true, true, true, true, true, true, true, true, true, true, true, true, true, true, true, true, true, true, true, true, true, false, false, false, false, false, false, false, false, false, false, false, false, false, false, false, false, false] rfl rfl (take_ofW HT_.out HW_.out (by kernel_rfl)) (fun _ _ _ h => h) (Or.inl ⟨by rfl, ?_⟩) hHeld ?_ ?_
                      rotate_left
                      · rintro w' ⟨s0, s1, s2, s3, s4, s5, s6, s7, s8, s9, s10, s11, s12, s13, s14, s15, s16, s17⟩
                        go_simp
                        with_reducible rfl
                      rotate_left
                      · simp only [Act.put, List.setIfInBounds_toArray, List.set_cons_zero, List.set_cons_succ, i64_w, i32_w]
                        rfl
                      refine one_ (i := 22) (N := some 38) #[true, true, true, true, true, true, true, true, true, true, true, true, true, true, true, true, true, true, true, true, true, true, true, false, false, false, false, false, false, false, false, false, false, false, false, false, false, false, false] rfl rfl (one_of HT_.out (by kernel_rfl)) (by decide) (fun K hK => ?_)
                      refine goes_ Try.func30 (by kernel_rfl) rfl #[.slice A140_1 ((rd_T80 l0 x13_1).f1).length c140_1, .slice A141_1 ((rd_T80 l1 x13_1).f1).length c141_1] (by rfl) rfl rfl (by (try simp only [List.map_toArray, List.map_cons, List.map_nil]); first | done | rfl | (simp only [List.length_drop, List.length_take]; rfl)) ?_
                      with_reducible refine (jvmcorelaw3_sameTypes.calls k1 _ _ ((rd_T80 l0 x13_1).f1) _ _ ((rd_T80 l1 x13_1).f1) true _ ?side1 ?side2 ?side3 ?side4 A9.out).mono ?_
                      (case side1 => repeat (first | exact (Kd.C_below HR142_1.out HB.out) | (with_reducible refine Kd.C_alloc ?_ _) | (with_reducible refine Kd.C_drewN ?_ _) | (with_reducible refine Kd.C_drew ?_)))
                      (case side2 => exact HC142_1.out)
                      (case side3 => repeat (first | exact (Kd.C_below HR143_1.out HB.out) | (with_reducible refine Kd.C_alloc ?_ _) | (with_reducible refine Kd.C_drewN ?_ _) | (with_reducible refine Kd.C_drew ?_)))
                      (case side4 => exact HC143_1.out)
                      rintro e w' ⟨rfl, ⟨nd, rfl⟩⟩
                      refine ⟨_, rfl, ?_⟩
                      refine hK.out _ _ ⟨((HB.out.cell (World.block_lt_of_cell? w _ hw140_0)).trans hw140_0), ((HB.out.cell (World.block_lt_of_cell? w _ hw140_1)).trans hw140_1), ((HB.out.cell (World.block_lt_of_cell? w _ hw140_2)).trans hw140_2), ((HB.out.cell (World.block_lt_of_cell? w _ hw141_0)).trans hw141_0), ((HB.out.cell (World.block_lt_of_cell? w _ hw141_1)).trans hw141_1), ((HB.out.cell (World.block_lt_of_cell? w _ hw141_2)).trans hw141_2), ((HB.out.cell (World.block_lt_of_cell? w _ hw142_0)).trans hw142_0), ((HB.out.cell (World.block_lt_of_cell? w _ hw142_1)).trans hw142_1), ((HB.out.cell (World.block_lt_of_cell? w _ hw142_2)).trans hw142_2), ((HB.out.cell (World.block_lt_of_cell? w _ hw143_0)).trans hw143_0), ((HB.out.cell (World.block_lt_of_cell? w _ hw143_1)).trans hw143_1), ((HB.out.cell (World.block_lt_of_cell? w _ hw143_2)).trans hw143_2), ((HB.out.cell (World.block_lt_of_cell? w _ hw145_0)).trans hw145_0), ((HB.out.cell (World.block_lt_of_cell? w _ hw145_1)).trans hw145_1), ((HB.out.cell (World.block_lt_of_cell? w _ hw145_2)).trans hw145_2), ((HB.out.cell (World.block_lt_of_cell? w _ hw146_0)).trans hw146_0), ((HB.out.cell (World.block_lt_of_cell? w _ hw146_1)).trans hw146_1), ((HB.out.cell (World.block_lt_of_cell? w _ hw146_2)).trans hw146_2)⟩ (fun hHeld => ?_)
                      clear hK K
                      refine norm_ (a' := ?_) ?_ ?_
                      rotate_left
                      · show Act.put _ (some 38) _ = _
                        simp only [Act.put, List.setIfInBounds_toArray, List.set_cons_zero, List.set_cons_succ, i64_w, i32_w]
                        rfl
                      refine pure_ (i := 23) (N := some 39) (v := ?_) (a' := ?_) #[true, true, true, true, true, true, true, true, true, true, true, true, true, true, true, true, true, true, true, true, true, true, true, true, false, false, false, false, false, false, false, false, false, false, false, false, false, false, false] rfl rfl (any_of HT_.out (by kernel_rfl)) (fun _ _ _ h => h) (Or.inl ⟨by rfl, ?_⟩) ?_ ?_
                      rotate_left
                      · intro w'
                        go_simp
                        with_reducible rfl
                      rotate_left
                      · simp only [Act.put, List.setIfInBounds_toArray, List.set_cons_zero, List.set_cons_succ, i64_w, i32_w]
                        rfl
                      refine pure_ (i := 24) (N := some 40) (v := ?_) (a' := ?_) #[true, true, true, true, true, true, true, true, true, true, true, true, true, true, true, true, true, true, true, true, true, true, true, true, true, false, false, false, false, false, false, false, false, false, false, false, false, false, false] rfl rfl (any_of HT_.out (by kernel_rfl)) (fun _ _ _ h => h) (Or.inl ⟨by rfl, ?_⟩) ?_ ?_
                      rotate_left
                      · intro w'
                        go_simp
                        with_reducible rfl
                      rotate_left
                      · simp only [Act.put, List.setIfInBounds_toArray, List.set_cons_zero, List.set_cons_succ, i64_w, i32_w]
                        rfl
                      refine pure_ (i := 25) (N := some 41) (v := ?_) (a' := ?_) #[true, true, true, true, true, true, true, true, true, true, true, true, true, true, true, true, true, true, true, true, true, true, true, true, true, true, false, false, false, false, false, false, false, false, false, false, false, false, false] rfl rfl (any_of HT_.out (by kernel_rfl)) (fun _ _ _ h => h) (Or.inl ⟨by rfl, ?_⟩) ?_ ?_
                      rotate_left
                      · intro w'
                        go_simp
                        with_reducible rfl
                      rotate_left
                      · simp only [Act.put, List.setIfInBounds_toArray, List.set_cons_zero, List.set_cons_succ, i64_w, i32_w]
                        rfl
                      refine pure_ (i := 26) (N := some 42) (v := ?_) (a' := ?_) #[true, true, true, true, true, true, true, true, true, true, true, true, true, true, true, true, true, true, true, true, true, true, true, true, true, true, true, false, false, false, false, false, false, false, false, false, false, false, false] rfl rfl (any_of HT_.out (by kernel_rfl)) (fun _ _ _ h => h) (Or.inl ⟨by rfl, ?_⟩) ?_ ?_
                      rotate_left
                      · intro w'
                        go_simp
                        with_reducible rfl
                      rotate_left
                      · simp only [Act.put, List.setIfInBounds_toArray, List.set_cons_zero, List.set_cons_succ, i64_w, i32_w]
                        rfl
                      refine pure_ (i := 27) (N := some 43) (v := ?_) (a' := ?_) #[true, true, true, true, true, true, true, true, true, true, true, true, true, true, true, true, true, true, true, true, true, true, true, true, true, true, true, true, false, false, false, false, false, false, false, false, false, false, false] rfl rfl (any_of HT_.out (by kernel_rfl)) (fun _ _ _ h => h) (Or.inl ⟨by rfl, ?_⟩) ?_ ?_
                      rotate_left
                      · intro w'
                        go_simp
                        with_reducible rfl
                      rotate_left
                      · simp only [Act.put, List.setIfInBounds_toArray, List.set_cons_zero, List.set_cons_succ, i64_w, i32_w]
                        rfl
                      refine pure_ (i := 28) (N := some 44) (v := ?_) (a' := ?_) #[true, true, true, true, true, true, true, true, true, true, true, true, true, true, true, true, true, true, true, true, true, true, true, true, true, true, true, true, true, false, false, false, false, false, false, false, false, false, false] rfl rfl (any_of HT_.out (by kernel_rfl)) (fun _ _ _ h => h) (Or.inl ⟨by rfl, ?_⟩) ?_ ?_
                      rotate_left
                      · intro w'
                        go_simp
                        with_reducible rfl
                      rotate_left
                      · simp only [Act.put, List.setIfInBounds_toArray, List.set_cons_zero, List.set_cons_succ, i64_w, i32_w]
                        rfl
                      refine pure_ (i := 29) (N := some 45) (v := ?_) (a' := ?_) #[true, true, true, true, true, true, true, true, true, true, true, true, true, true, true, true, true, true, true, true, true, true, true, true, true, true, true, true, true, true, false, false, false, false, false, false, false, false, false] rfl rfl (any_of HT_.out (by kernel_rfl)) (fun _ _ _ h => h) (Or.inl ⟨by rfl, ?_⟩) ?_ ?_
                      rotate_left
                      · intro w'
                        go_simp
                        with_reducible rfl
                      rotate_left
                      · simp only [Act.put, List.setIfInBounds_toArray, List.set_cons_zero, List.set_cons_succ, i64_w, i32_w]
                        rfl
                      refine pure_ (i := 31) (N := some 47) (v := ?_) (a' := ?_) #[true, true, true, true, true, true, true, true, true, true, true, true, true, true, true, true, true, true, true, true, true, true, true, true, true, true, true, true, true, true, false, true, false, false, false, false, false, false, false] rfl rfl (any_of HT_.out (by kernel_rfl)) (fun _ _ _ h => h) (Or.inl ⟨by rfl, ?_⟩) ?_ ?_
                      rotate_left
                      · intro w'
                        go_simp
                        with_reducible rfl
                      rotate_left
                      · simp only [Act.put, List.setIfInBounds_toArray, List.set_cons_zero, List.set_cons_succ, i64_w, i32_w]
                        rfl
                      refine pure_ (i := 32) (N := some 48) (v := ?_) (a' := ?_) #[true, true, true, true, true, true, true, true, true, true, true, true, true, true, true, true, true, true, true, true, true, true, true, true, true, true, true, true, true, true, false, true, true, false, false, false, false, false, false] rfl rfl (any_of HT_.out (by kernel_rfl)) (fun _ _ _ h => h) (Or.inl ⟨by rfl, ?_⟩) ?_ ?_
                      rotate_left
                      · intro w'
                        go_simp
                        with_reducible rfl
                      rotate_left
                      · simp only [Act.put, List.setIfInBounds_toArray, List.set_cons_zero, List.set_cons_succ, i64_w, i32_w]
                        rfl
                      refine pure_ (i := 33) (N := some 49) (v := ?_) (a' := ?_) #[true, true, true, true, true, true, true, true, true, true, true, true, true, true, true, true, true, true, true, true, true, true, true, true, true, true, true, true, true, true, false, true, true, true, false, false, false, false, false] rfl rfl (any_of HT_.out (by kernel_rfl)) (fun _ _ _ h => h) (Or.inl ⟨by rfl, ?_⟩) ?_ ?_
                      rotate_left
                      · intro w'
                        go_simp
                        with_reducible rfl
                      rotate_left
                      · simp only [Act.put, List.setIfInBounds_toArray, List.set_cons_zero, List.set_cons_succ, i64_w, i32_w]
                        rfl
                      refine pure_ (i := 34) (N := some 50) (v := ?_) (a' := ?_) #[true, true, true, true, true, true, true, true, true, true, true, true, true, true, true, true, true, true, true, true, true, true, true, true, true, true, true, true, true, true, false, true, true, true, true, false, false, false, false] rfl rfl (any_of HT_.out (by kernel_rfl)) (fun _ _ _ h => h) (Or.inl ⟨by rfl, ?_⟩) ?_ ?_
                      rotate_left
                      · intro w'
                        go_simp
                        with_reducible rfl
                      rotate_left
                      · simp only [Act.put, List.setIfInBounds_toArray, List.set_cons_zero, List.set_cons_succ, i64_w, i32_w]
                        rfl
                      refine take_ (i := 30) (N := some 46) (v := ?_) (a' := ?_) #[true, true, true, true, true, true, true, true, true, true, true, true, true, true, true, true, true, true, true, true, true, true, true, true, true, true, true, true, true, true, true, true, true, true, true, false, false, false, false] rfl rfl (take_ofW HT_.out HW_.out (by kernel_rfl)) (fun _ _ _ h => h) (Or.inl ⟨by rfl, ?_⟩) hHeld ?_ ?_
                      rotate_left
                      · rintro w' ⟨s0, s1, s2, s3, s4, s5, s6, s7, s8, s9, s10, s11, s12, s13, s14, s15, s16, s17⟩
                        go_simp
                        with_reducible rfl
                      rotate_left
                      · simp only [Act.put, List.setIfInBounds_toArray, List.set_cons_zero, List.set_cons_succ, i64_w, i32_w]
                        rfl
                      refine take_ (i := 35) (N := some 51) (v := ?_) (a' := ?_) #[true, true, true, true, true, true, true, true, true, true, true, true, true, true, true, true, true, true, true, true, true, true, true, true, true, true, true, true, true, true, true, true, true, true, true, true, false, false, false] rfl rfl (take_ofW HT_.out HW_.out (by kernel_rfl)) (fun _ _ _ h => h) (Or.inl ⟨by rfl, ?_⟩) hHeld ?_ ?_
                      rotate_left
                      · rintro w' ⟨s0, s1, s2, s3, s4, s5, s6, s7, s8, s9, s10, s11, s12, s13, s14, s15, s16, s17⟩
                        go_simp
                        with_reducible rfl
                      rotate_left
                      · simp only [Act.put, List.setIfInBounds_toArray, List.set_cons_zero, List.set_cons_succ, i64_w, i32_w]
                        rfl
                      refine one_ (i := 36) (N := some 52) #[true, true, true, true, true, true, true, true, true, true, true, true, true, true, true, true, true, true, true, true, true, true, true, true, true, true, true, true, true, true, true, true, true, true, true, true, true, false, false] rfl rfl (one_of HT_.out (by kernel_rfl)) (by decide) (fun K hK => ?_)
                      refine goes_ Try.func30 (by kernel_rfl) rfl #[.slice A140_2 ((rd_T80 l0 x13_1).f2).length c140_2, .slice A141_2 ((rd_T80 l1 x13_1).f2).length c141_2] (by rfl) rfl rfl (by (try simp only [List.map_toArray, List.map_cons, List.map_nil]); first | done | rfl | (simp only [List.length_drop, List.length_take]; rfl)) ?_
                      with_reducible refine (jvmcorelaw3_sameTypes.calls k1 _ _ ((rd_T80 l0 x13_1).f2) _ _ ((rd_T80 l1 x13_1).f2) true _ ?side1 ?side2 ?side3 ?side4 A11.out).mono ?_
                      (case side1 => repeat (first | exact (Kd.C_below HR145_2.out (by repeat (first | (with_reducible first | exact HB.out | apply below_alloc | apply pw_below_drewN | apply below_drew1) | exact HB.out))) | (with_reducible refine Kd.C_alloc ?_ _) | (with_reducible refine Kd.C_drewN ?_ _) | (with_reducible refine Kd.C_drew ?_)))
                      (case side2 => exact HC145_2.out)
                      (case side3 => repeat (first | exact (Kd.C_below HR146_2.out (by repeat (first | (with_reducible first | exact HB.out | apply below_alloc | apply pw_below_drewN | apply below_drew1) | exact HB.out))) | (with_reducible refine Kd.C_alloc ?_ _) | (with_reducible refine Kd.C_drewN ?_ _) | (with_reducible refine Kd.C_drew ?_)))
                      (case side4 => exact HC146_2.out)
                      rintro e w' ⟨rfl, ⟨nd, rfl⟩⟩
                      refine ⟨_, rfl, ?_⟩
                      refine hK.out _ _ ⟨((HB.out.cell (World.block_lt_of_cell? w _ hw140_0)).trans hw140_0), ((HB.out.cell (World.block_lt_of_cell? w _ hw140_1)).trans hw140_1), ((HB.out.cell (World.block_lt_of_cell? w _ hw140_2)).trans hw140_2), ((HB.out.cell (World.block_lt_of_cell? w _ hw141_0)).trans hw141_0), ((HB.out.cell (World.block_lt_of_cell? w _ hw141_1)).trans hw141_1), ((HB.out.cell (World.block_lt_of_cell? w _ hw141_2)).trans hw141_2), ((HB.out.cell (World.block_lt_of_cell? w _ hw142_0)).trans hw142_0), ((HB.out.cell (World.block_lt_of_cell? w _ hw142_1)).trans hw142_1), ((HB.out.cell (World.block_lt_of_cell? w _ hw142_2)).trans hw142_2), ((HB.out.cell (World.block_lt_of_cell? w _ hw143_0)).trans hw143_0), ((HB.out.cell (World.block_lt_of_cell? w _ hw143_1)).trans hw143_1), ((HB.out.cell (World.block_lt_of_cell? w _ hw143_2)).trans hw143_2), ((HB.out.cell (World.block_lt_of_cell? w _ hw145_0)).trans hw145_0), ((HB.out.cell (World.block_lt_of_cell? w _ hw145_1)).trans hw145_1), ((HB.out.cell (World.block_lt_of_cell? w _ hw145_2)).trans hw145_2), ((HB.out.cell (World.block_lt_of_cell? w _ hw146_0)).trans hw146_0), ((HB.out.cell (World.block_lt_of_cell? w _ hw146_1)).trans hw146_1), ((HB.out.cell (World.block_lt_of_cell? w _ hw146_2)).trans hw146_2)⟩ (fun hHeld => ?_)
                      clear hK K
                      refine norm_ (a' := ?_) ?_ ?_
                      rotate_left
                      · show Act.put _ (some 52) _ = _
                        simp only [Act.put, List.setIfInBounds_toArray, List.set_cons_zero, List.set_cons_succ, i64_w, i32_w]
                        rfl
                      refine pure_ (i := 37) (N := some 53) (v := ?_) (a' := ?_) #[true, true, true, true, true, true, true, true, true, true, true, true, true, true, true, true, true, true, true, true, true, true, true, true, true, true, true, true, true, true, true, true, true, true, true, true, true, true, false] rfl rfl (any_of HT_.out (by kernel_rfl)) (fun _ _ _ h => h) (Or.inl ⟨by rfl, ?_⟩) ?_ ?_
                      rotate_left
                      · intro w'
                        go_simp
                        with_reducible rfl
                      rotate_left
                      · simp only [Act.put, List.setIfInBounds_toArray, List.set_cons_zero, List.set_cons_succ, i64_w, i32_w]
                        rfl
                      refine pure_ (i := 38) (N := some 54) (v := ?_) (a' := ?_) #[true, true, true, true, true, true, true, true, true, true, true, true, true, true, true, true, true, true, true, true, true, true, true, true, true, true, true, true, true, true, true, true, true, true, true, true, true, true, true] rfl rfl (any_of HT_.out (by kernel_rfl)) (fun _ _ _ h => h) (Or.inl ⟨by rfl, ?_⟩) ?_ ?_
                      rotate_left
                      · intro w'
                        go_simp
                        with_reducible rfl
                      rotate_left
                      · simp only [Act.put, List.setIfInBounds_toArray, List.set_cons_zero, List.set_cons_succ, i64_w, i32_w]
                        rfl
                      refine done_ (done_of HT_.out (by kernel_rfl)) ?_
                      try go_wp2
                      go_roundg k1
                      case measure => have := HK1.out; omega
                      case rel => exact ⟨(wrap64 (x13_1 + 1)), (by first | rfl | (simp; done) | (simp [*]; done)), H', ⟨by have := HK1.out; omega⟩, ⟨by repeat (first | (with_reducible first | exact HB.out | apply below_alloc | apply pw_below_drewN | apply below_drew1) | exact HB.out)⟩⟩
                    · replace c12 := Bool.eq_false_iff.mpr c12
                      subst c12
                      have H1 : (some false) = some r := by rw [if_neg (show ¬ (false = true) by decide)] at H; exact H
                      clear H
                      have H := H1
                      clear H1
                      obtain rfl := Option.some.inj H
                      try go_wp2
                      have n0_ := Aside0.mk (below_drew1 HB.out)
                      clear HB
                      have HB := n0_
                      clear n0_
                      have p140 : 0 ≤ (x13_1 : Int) := of_decide_eq_true (by first | (with_reducible assumption) | assumption)
                      have q140 : x13_1 < (l0.length : Int) := of_decide_eq_true (by first | (with_reducible assumption) | assumption)
                      obtain ⟨ad140, A140_1, c140_1, A140_2, c140_2, e140, hx140_0, hx140_1, hx140_2, hl140_1, hi140_1, hl140_2, hi140_2⟩ := at_T80 HR0.out x13_1 p140 q140
                      have hw140_2 := hx140_2
                      have hw140_1 := hx140_1
                      have hw140_0 := hx140_0
                      cases e140
                      replace hx140_0 := (HB.out.cell (World.block_lt_of_cell? w _ hx140_0)).trans hx140_0
                      replace hx140_1 := (HB.out.cell (World.block_lt_of_cell? w _ hx140_1)).trans hx140_1
                      replace hx140_2 := (HB.out.cell (World.block_lt_of_cell? w _ hx140_2)).trans hx140_2
                      have HR140_1 := Aside0.mk hi140_1
                      have HC140_1 := Aside0.mk hl140_1
                      clear hi140_1 hl140_1
                      have HR140_2 := Aside0.mk hi140_2
                      have HC140_2 := Aside0.mk hl140_2
                      clear hi140_2 hl140_2
                      replace p140 := eq_true p140
                      replace q140 := eq_true q140
                      have p141 : 0 ≤ (x13_1 : Int) := of_decide_eq_true (by first | (with_reducible assumption) | assumption)
                      have q141 : x13_1 < (l1.length : Int) := of_decide_eq_true (by first | (with_reducible assumption) | assumption)
                      obtain ⟨ad141, A141_1, c141_1, A141_2, c141_2, e141, hx141_0, hx141_1, hx141_2, hl141_1, hi141_1, hl141_2, hi141_2⟩ := at_T80 HR1.out x13_1 p141 q141
                      have hw141_2 := hx141_2
                      have hw141_1 := hx141_1
                      have hw141_0 := hx141_0
                      cases e141
                      replace hx141_0 := (HB.out.cell (World.block_lt_of_cell? w _ hx141_0)).trans hx141_0
                      replace hx141_1 := (HB.out.cell (World.block_lt_of_cell? w _ hx141_1)).trans hx141_1
                      replace hx141_2 := (HB.out.cell (World.block_lt_of_cell? w _ hx141_2)).trans hx141_2
                      have HR141_1 := Aside0.mk hi141_1
                      have HC141_1 := Aside0.mk hl141_1
                      clear hi141_1 hl141_1
                      have HR141_2 := Aside0.mk hi141_2
                      have HC141_2 := Aside0.mk hl141_2
                      clear hi141_2 hl141_2
                      replace p141 := eq_true p141
                      replace q141 := eq_true q141
                      have p142 : 0 ≤ (x13_1 : Int) := of_decide_eq_true (by first | (with_reducible assumption) | assumption)
                      have q142 : x13_1 < (l0.length : Int) := of_decide_eq_true (by first | (with_reducible assumption) | assumption)
                      obtain ⟨ad142, A142_1, c142_1, A142_2, c142_2, e142, hx142_0, hx142_1, hx142_2, hl142_1, hi142_1, hl142_2, hi142_2⟩ := at_T80 HR0.out x13_1 p142 q142
                      have hw142_2 := hx142_2
                      have hw142_1 := hx142_1
                      have hw142_0 := hx142_0
                      obtain rfl : ad140 = ad142 := (by injection e142)
                      replace hx142_0 := (HB.out.cell (World.block_lt_of_cell? w _ hx142_0)).trans hx142_0
                      replace hx142_1 := (HB.out.cell (World.block_lt_of_cell? w _ hx142_1)).trans hx142_1
                      replace hx142_2 := (HB.out.cell (World.block_lt_of_cell? w _ hx142_2)).trans hx142_2
                      have HR142_1 := Aside0.mk hi142_1
                      have HC142_1 := Aside0.mk hl142_1
                      clear hi142_1 hl142_1
                      have HR142_2 := Aside0.mk hi142_2
                      have HC142_2 := Aside0.mk hl142_2
                      clear hi142_2 hl142_2
                      replace p142 := eq_true p142
                      replace q142 := eq_true q142
                      have ea_ := Option.some.inj (hx140_1.symm.trans hx142_1)
                      injection ea_ with ea_ en_ ec_
                      subst ea_
                      subst ec_
                      clear en_
                      have ea_ := Option.some.inj (hx140_2.symm.trans hx142_2)
                      injection ea_ with ea_ en_ ec_
                      subst ea_
                      subst ec_
                      clear en_
                      have p143 : 0 ≤ (x13_1 : Int) := of_decide_eq_true (by first | (with_reducible assumption) | assumption)
                      have q143 : x13_1 < (l1.length : Int) := of_decide_eq_true (by first | (with_reducible assumption) | assumption)
                      obtain ⟨ad143, A143_1, c143_1, A143_2, c143_2, e143, hx143_0, hx143_1, hx143_2, hl143_1, hi143_1, hl143_2, hi143_2⟩ := at_T80 HR1.out x13_1 p143 q143
                      have hw143_2 := hx143_2
                      have hw143_1 := hx143_1
                      have hw143_0 := hx143_0
                      obtain rfl : ad141 = ad143 := (by injection e143)
                      replace hx143_0 := (HB.out.cell (World.block_lt_of_cell? w _ hx143_0)).trans hx143_0
                      replace hx143_1 := (HB.out.cell (World.block_lt_of_cell? w _ hx143_1)).trans hx143_1
                      replace hx143_2 := (HB.out.cell (World.block_lt_of_cell? w _ hx143_2)).trans hx143_2
                      have HR143_1 := Aside0.mk hi143_1
                      have HC143_1 := Aside0.mk hl143_1
                      clear hi143_1 hl143_1
                      have HR143_2 := Aside0.mk hi143_2
                      have HC143_2 := Aside0.mk hl143_2
                      clear hi143_2 hl143_2
                      replace p143 := eq_true p143
                      replace q143 := eq_true q143
                      have ea_ := Option.some.inj (hx141_1.symm.trans hx143_1)
                      injection ea_ with ea_ en_ ec_
                      subst ea_
                      subst ec_
                      clear en_
                      have ea_ := Option.some.inj (hx141_2.symm.trans hx143_2)
                      injection ea_ with ea_ en_ ec_
                      subst ea_
                      subst ec_
                      clear en_
                      have p145 : 0 ≤ (x13_1 : Int) := of_decide_eq_true (by first | (with_reducible assumption) | assumption)
                      have q145 : x13_1 < (l0.length : Int) := of_decide_eq_true (by first | (with_reducible assumption) | assumption)
                      obtain ⟨ad145, A145_1, c145_1, A145_2, c145_2, e145, hx145_0, hx145_1, hx145_2, hl145_1, hi145_1, hl145_2, hi145_2⟩ := at_T80 HR0.out x13_1 p145 q145
                      have hw145_2 := hx145_2
                      have hw145_1 := hx145_1
                      have hw145_0 := hx145_0
                      obtain rfl : ad140 = ad145 := (by injection e145)
                      replace hx145_0 := (HB.out.cell (World.block_lt_of_cell? w _ hx145_0)).trans hx145_0
                      replace hx145_1 := (HB.out.cell (World.block_lt_of_cell? w _ hx145_1)).trans hx145_1
                      replace hx145_2 := (HB.out.cell (World.block_lt_of_cell? w _ hx145_2)).trans hx145_2
                      have HR145_1 := Aside0.mk hi145_1
                      have HC145_1 := Aside0.mk hl145_1
                      clear hi145_1 hl145_1
                      have HR145_2 := Aside0.mk hi145_2
                      have HC145_2 := Aside0.mk hl145_2
                      clear hi145_2 hl145_2
                      replace p145 := eq_true p145
                      replace q145 := eq_true q145
                      have ea_ := Option.some.inj (hx140_1.symm.trans hx145_1)
                      injection ea_ with ea_ en_ ec_
                      subst ea_
                      subst ec_
                      clear en_
                      have ea_ := Option.some.inj (hx140_2.symm.trans hx145_2)
                      injection ea_ with ea_ en_ ec_
                      subst ea_
                      subst ec_
                      clear en_
                      have p146 : 0 ≤ (x13_1 : Int) := of_decide_eq_true (by first | (with_reducible assumption) | assumption)
                      have q146 : x13_1 < (l1.length : Int) := of_decide_eq_true (by first | (with_reducible assumption) | assumption)
                      obtain ⟨ad146, A146_1, c146_1, A146_2, c146_2, e146, hx146_0, hx146_1, hx146_2, hl146_1, hi146_1, hl146_2, hi146_2⟩ := at_T80 HR1.out x13_1 p146 q146
                      have hw146_2 := hx146_2
                      have hw146_1 := hx146_1
                      have hw146_0 := hx146_0
                      obtain rfl : ad141 = ad146 := (by injection e146)
                      replace hx146_0 := (HB.out.cell (World.block_lt_of_cell? w _ hx146_0)).trans hx146_0
                      replace hx146_1 := (HB.out.cell (World.block_lt_of_cell? w _ hx146_1)).trans hx146_1
                      replace hx146_2 := (HB.out.cell (World.block_lt_of_cell? w _ hx146_2)).trans hx146_2
                      have HR146_1 := Aside0.mk hi146_1
                      have HC146_1 := Aside0.mk hl146_1
                      clear hi146_1 hl146_1
                      have HR146_2 := Aside0.mk hi146_2
                      have HC146_2 := Aside0.mk hl146_2
                      clear hi146_2 hl146_2
                      replace p146 := eq_true p146
                      replace q146 := eq_true q146
                      have ea_ := Option.some.inj (hx141_1.symm.trans hx146_1)
                      injection ea_ with ea_ en_ ec_
                      subst ea_
                      subst ec_
                      clear en_
                      have ea_ := Option.some.inj (hx141_2.symm.trans hx146_2)
                      injection ea_ with ea_ en_ ec_
                      subst ea_
                      subst ec_
                      clear en_
                      refine start_ (n := 39) (S := fun w' => w'.cell? (ad140.add ((x13_1).toNat * 3)) = some (.int .i64 ((rd_T80 l0 x13_1).f0)) ∧ w'.cell? ⟨(ad140.add ((x13_1).toNat * 3)).block, (ad140.add ((x13_1).toNat * 3)).off + 1, none⟩ = some (.slice A140_1 ((rd_T80 l0 x13_1).f1).length c140_1) ∧ w'.cell? ⟨(ad140.add ((x13_1).toNat * 3)).block, (ad140.add ((x13_1).toNat * 3)).off + 2, none⟩ = some (.slice A140_2 ((rd_T80 l0 x13_1).f2).length c140_2) ∧ w'.cell? (ad141.add ((x13_1).toNat * 3)) = some (.int .i64 ((rd_T80 l1 x13_1).f0)) ∧ w'.cell? ⟨(ad141.add ((x13_1).toNat * 3)).block, (ad141.add ((x13_1).toNat * 3)).off + 1, none⟩ = some (.slice A141_1 ((rd_T80 l1 x13_1).f1).length c141_1) ∧ w'.cell? ⟨(ad141.add ((x13_1).toNat * 3)).block, (ad141.add ((x13_1).toNat * 3)).off + 2, none⟩ = some (.slice A141_2 ((rd_T80 l1 x13_1).f2).length c141_2) ∧ w'.cell? (ad140.add ((x13_1).toNat * 3)) = some (.int .i64 ((rd_T80 l0 x13_1).f0)) ∧ w'.cell? ⟨(ad140.add ((x13_1).toNat * 3)).block, (ad140.add ((x13_1).toNat * 3)).off + 1, none⟩ = some (.slice A140_1 ((rd_T80 l0 x13_1).f1).length c140_1) ∧ w'.cell? ⟨(ad140.add ((x13_1).toNat * 3)).block, (ad140.add ((x13_1).toNat * 3)).off + 2, none⟩ = some (.slice A140_2 ((rd_T80 l0 x13_1).f2).length c140_2) ∧ w'.cell? (ad141.add ((x13_1).toNat * 3)) = some (.int .i64 ((rd_T80 l1 x13_1).f0)) ∧ w'.cell? ⟨(ad141.add ((x13_1).toNat * 3)).block, (ad141.add ((x13_1).toNat * 3)).off + 1, none⟩ = some (.slice A141_1 ((rd_T80 l1 x13_1).f1).length c141_1) ∧ w'.cell? ⟨(ad141.add ((x13_1).toNat * 3)).block, (ad141.add ((x13_1).toNat * 3)).off + 2, none⟩ = some (.slice A141_2 ((rd_T80 l1 x13_1).f2).length c141_2) ∧ w'.cell? (ad140.add ((x13_1).toNat * 3)) = some (.int .i64 ((rd_T80 l0 x13_1).f0)) ∧ w'.cell? ⟨(ad140.add ((x13_1).toNat * 3)).block, (ad140.add ((x13_1).toNat * 3)).off + 1, none⟩ = some (.slice A140_1 ((rd_T80 l0 x13_1).f1).length c140_1) ∧ w'.cell? ⟨(ad140.add ((x13_1).toNat * 3)).block, (ad140.add ((x13_1).toNat * 3)).off + 2, none⟩ = some (.slice A140_2 ((rd_T80 l0 x13_1).f2).length c140_2) ∧ w'.cell? (ad141.add ((x13_1).toNat * 3)) = some (.int .i64 ((rd_T80 l1 x13_1).f0)) ∧ w'.cell? ⟨(ad141.add ((x13_1).toNat * 3)).block, (ad141.add ((x13_1).toNat * 3)).off + 1, none⟩ = some (.slice A141_1 ((rd_T80 l1 x13_1).f1).length c141_1) ∧ w'.cell? ⟨(ad141.add ((x13_1).toNat * 3)).block, (ad141.add ((x13_1).toNat * 3)).off + 2, none⟩ = some (.slice A141_2 ((rd_T80 l1 x13_1).f2).length c141_2)) (ds := []) #[false, false, false, false, false, false, false, false, false, false, false, false, false, false, false, false, false, false, false, false, false, false, false, false, false, false, false, false, false, false, false, false, false, false, false, false, false, false, false] (by kernel_rfl) rfl rfl ⟨((HB.out.cell (World.block_lt_of_cell? w _ hw140_0)).trans hw140_0), ((HB.out.cell (World.block_lt_of_cell? w _ hw140_1)).trans hw140_1), ((HB.out.cell (World.block_lt_of_cell? w _ hw140_2)).trans hw140_2), ((HB.out.cell (World.block_lt_of_cell? w _ hw141_0)).trans hw141_0), ((HB.out.cell (World.block_lt_of_cell? w _ hw141_1)).trans hw141_1), ((HB.out.cell (World.block_lt_of_cell? w _ hw141_2)).trans hw141_2), ((HB.out.cell (World.block_lt_of_cell? w _ hw142_0)).trans hw142_0), ((HB.out.cell (World.block_lt_of_cell? w _ hw142_1)).trans hw142_1), ((HB.out.cell (World.block_lt_of_cell? w _ hw142_2)).trans hw142_2), ((HB.out.cell (World.block_lt_of_cell? w _ hw143_0)).trans hw143_0), ((HB.out.cell (World.block_lt_of_cell? w _ hw143_1)).trans hw143_1), ((HB.out.cell (World.block_lt_of_cell? w _ hw143_2)).trans hw143_2), ((HB.out.cell (World.block_lt_of_cell? w _ hw145_0)).trans hw145_0), ((HB.out.cell (World.block_lt_of_cell? w _ hw145_1)).trans hw145_1), ((HB.out.cell (World.block_lt_of_cell? w _ hw145_2)).trans hw145_2), ((HB.out.cell (World.block_lt_of_cell? w _ hw146_0)).trans hw146_0), ((HB.out.cell (World.block_lt_of_cell? w _ hw146_1)).trans hw146_1), ((HB.out.cell (World.block_lt_of_cell? w _ hw146_2)).trans hw146_2)⟩ (fun hHeld => ?_); refine with_tabW jvmcorelaw3_sameFrames.tab6 jvmcorelaw3_sameFrames.bits6 (fun HT_ HW_ => ?_)
                      generalize wr.drew = w14 at HB HR140_1 HR140_2 HR141_1 HR141_2 HR142_1 HR142_2 HR143_1 HR143_2 HR145_1 HR145_2 HR146_1 HR146_2 hx140_0 hx140_1 hx140_2 hx141_0 hx141_1 hx141_2 hx142_0 hx142_1 hx142_2 hx143_0 hx143_1 hx143_2 hx145_0 hx145_1 hx145_2 hx146_0 hx146_1 hx146_2 hHeld ⊢
                      refine pure_ (i := 0) (N := some 16) (v := ?_) (a' := ?_) #[true, false, false, false, false, false, false, false, false, false, false, false, false, false, false, false, false, false, false, false, false, false, false, false, false, false, false, false, false, false, false, false, false, false, false, false, false, false, false] rfl rfl (any_of HT_.out (by kernel_rfl)) (fun _ _ _ h => h) (Or.inl ⟨by rfl, ?_⟩) ?_ ?_
                      rotate_left
                      · intro w'
                        go_simp
                        with_reducible rfl
                      rotate_left
                      · simp only [Act.put, List.setIfInBounds_toArray, List.set_cons_zero, List.set_cons_succ, i64_w, i32_w]
                        rfl
                      refine pure_ (i := 1) (N := some 17) (v := ?_) (a' := ?_) #[true, true, false, false, false, false, false, false, false, false, false, false, false, false, false, false, false, false, false, false, false, false, false, false, false, false, false, false, false, false, false, false, false, false, false, false, false, false, false] rfl rfl (any_of HT_.out (by kernel_rfl)) (fun _ _ _ h => h) (Or.inl ⟨by rfl, ?_⟩) ?_ ?_
                      rotate_left
                      · intro w'
                        go_simp
                        with_reducible rfl
                      rotate_left
                      · simp only [Act.put, List.setIfInBounds_toArray, List.set_cons_zero, List.set_cons_succ, i64_w, i32_w]
                        rfl
                      refine pure_ (i := 2) (N := some 18) (v := ?_) (a' := ?_) #[true, true, true, false, false, false, false, false, false, false, false, false, false, false, false, false, false, false, false, false, false, false, false, false, false, false, false, false, false, false, false, false, false, false, false, false, false, false, false] rfl rfl (any_of HT_.out (by kernel_rfl)) (fun _ _ _ h => h) (Or.inl ⟨by rfl, ?_⟩) ?_ ?_
                      rotate_left
                      · intro w'
                        go_simp
                        with_reducible rfl
                      rotate_left
                      · simp only [Act.put, List.setIfInBounds_toArray, List.set_cons_zero, List.set_cons_succ, i64_w, i32_w]
                        rfl
                      refine pure_ (i := 3) (N := some 19) (v := ?_) (a' := ?_) #[true, true, true, true, false, false, false, false, false, false, false, false, false, false, false, false, false, false, false, false, false, false, false, false, false, false, false, false, false, false, false, false, false, false, false, false, false, false, false] rfl rfl (any_of HT_.out (by kernel_rfl)) (fun _ _ _ h => h) (Or.inl ⟨by rfl, ?_⟩) ?_ ?_
                      rotate_left
                      · intro w'
                        go_simp
                        with_reducible rfl
                      rotate_left
                      · simp only [Act.put, List.setIfInBounds_toArray, List.set_cons_zero, List.set_cons_succ, i64_w, i32_w]
                        rfl
                      refine pure_ (i := 5) (N := some 21) (v := ?_) (a' := ?_) #[true, true, true, true, false, true, false, false, false, false, false, false, false, false, false, false, false, false, false, false, false, false, false, false, false, false, false, false, false, false, false, false, false, false, false, false, false, false, false] rfl rfl (any_of HT_.out (by kernel_rfl)) (fun _ _ _ h => h) (Or.inl ⟨by rfl, ?_⟩) ?_ ?_
                      rotate_left
                      · intro w'
                        go_simp
                        with_reducible rfl
                      rotate_left
                      · simp only [Act.put, List.setIfInBounds_toArray, List.set_cons_zero, List.set_cons_succ, i64_w, i32_w]
                        rfl
                      refine pure_ (i := 6) (N := some 22) (v := ?_) (a' := ?_) #[true, true, true, true, false, true, true, false, false, false, false, false, false, false, false, false, false, false, false, false, false, false, false, false, false, false, false, false, false, false, false, false, false, false, false, false, false, false, false] rfl rfl (any_of HT_.out (by kernel_rfl)) (fun _ _ _ h => h) (Or.inl ⟨by rfl, ?_⟩) ?_ ?_
                      rotate_left
                      · intro w'
                        go_simp
                        with_reducible rfl
                      rotate_left
                      · simp only [Act.put, List.setIfInBounds_toArray, List.set_cons_zero, List.set_cons_succ, i64_w, i32_w]
                        rfl
                      refine pure_ (i := 7) (N := some 23) (v := ?_) (a' := ?_) #[true, true, true, true, false, true, true, true, false, false, false, false, false, false, false, false, false, false, false, false, false, false, false, false, false, false, false, false, false, false, false, false, false, false, false, false, false, false, false] rfl rfl (any_of HT_.out (by kernel_rfl)) (fun _ _ _ h => h) (Or.inl ⟨by rfl, ?_⟩) ?_ ?_
                      rotate_left
                      · intro w'
                        go_simp
                        with_reducible rfl
                      rotate_left
                      · simp only [Act.put, List.setIfInBounds_toArray, List.set_cons_zero, List.set_cons_succ, i64_w, i32_w]
                        rfl
                      refine pure_ (i := 8) (N := some 24) (v := ?_) (a' := ?_) #[true, true, true, true, false, true, true, true, true, false, false, false, false, false, false, false, false, false, false, false, false, false, false, false, false, false, false, false, false, false, false, false, false, false, false, false, false, false, false] rfl rfl (any_of HT_.out (by kernel_rfl)) (fun _ _ _ h => h) (Or.inl ⟨by rfl, ?_⟩) ?_ ?_
                      rotate_left
                      · intro w'
                        go_simp
                        with_reducible rfl
                      rotate_left
                      · simp only [Act.put, List.setIfInBounds_toArray, List.set_cons_zero, List.set_cons_succ, i64_w, i32_w]
                        rfl
                      refine take_ (i := 4) (N := some 20) (v := ?_) (a' := ?_) #[true, true, true, true, true, true, true, true, true, false, false, false, false, false, false, false, false, false, false, false, false, false, false, false, false, false, false, false, false, false, false, false, false, false, false, false, false, false, false] rfl rfl (take_ofW HT_.out HW_.out (by kernel_rfl)) (fun _ _ _ h => h) (Or.inl ⟨by rfl, ?_⟩) hHeld ?_ ?_
                      rotate_left
                      · rintro w' ⟨s0, s1, s2, s3, s4, s5, s6, s7, s8, s9, s10, s11, s12, s13, s14, s15, s16, s17⟩
                        go_simp
                        with_reducible rfl
                      rotate_left
                      · simp only [Act.put, List.setIfInBounds_toArray, List.set_cons_zero, List.set_cons_succ, i64_w, i32_w]
                        rfl
                      refine take_ (i := 9) (N := some 25) (v := ?_) (a' := ?_) #[true, true, true, true, true, true, true, true, true, true, false, false, false, false, false, false, false, false, false, false, false, false, false, false, false, false, false, false, false, false, false, false, false, false, false, false, false, false, false] rfl rfl (take_ofW HT_.out HW_.out (by kernel_rfl)) (fun _ _ _ h => h) (Or.inl ⟨by rfl, ?_⟩) hHeld ?_ ?_
                      rotate_left
                      · rintro w' ⟨s0, s1, s2, s3, s4, s5, s6, s7, s8, s9, s10, s11, s12, s13, s14, s15, s16, s17⟩
                        go_simp
                        with_reducible rfl
                      rotate_left
                      · simp only [Act.put, List.setIfInBounds_toArray, List.set_cons_zero, List.set_cons_succ, i64_w, i32_w]
                        rfl
                      refine pure_ (i := 10) (N := some 26) (v := ?_) (a' := ?_) #[true, true, true, true, true, true, true, true, true, true, true, false, false, false, false, false, false, false, false, false, false, false, false, false, false, false, false, false, false, false, false, false, false, false, false, false, false, false, false] rfl rfl (any_of HT_.out (by kernel_rfl)) (fun _ _ _ h => h) (Or.inl ⟨by rfl, ?_⟩) ?_ ?_
                      rotate_left
                      · intro w'
                        go_simp
                        with_reducible rfl
                      rotate_left
                      · simp only [Act.put, List.setIfInBounds_toArray, List.set_cons_zero, List.set_cons_succ, i64_w, i32_w]
                        rfl
                      refine pure_ (i := 11) (N := some 27) (v := ?_) (a' := ?_) #[true, true, true, true, true, true, true, true, true, true, true, true, false, false, false, false, false, false, false, false, false, false, false, false, false, false, false, false, false, false, false, false, false, false, false, false, false, false, false] rfl rfl (any_of HT_.out (by kernel_rfl)) (fun _ _ _ h => h) (Or.inl ⟨by rfl, ?_⟩) ?_ ?_
                      rotate_left
                      · intro w'
                        go_simp
                        with_reducible rfl
                      rotate_left
                      · simp only [Act.put, List.setIfInBounds_toArray, List.set_cons_zero, List.set_cons_succ, i64_w, i32_w]
                        rfl
                      refine pure_ (i := 12) (N := some 28) (v := ?_) (a' := ?_) #[true, true, true, true, true, true, true, true, true, true, true, true, true, false, false, false, false, false, false, false, false, false, false, false, false, false, false, false, false, false, false, false, false, false, false, false, false, false, false] rfl rfl (any_of HT_.out (by kernel_rfl)) (fun _ _ _ h => h) (Or.inl ⟨by rfl, ?_⟩) ?_ ?_
                      rotate_left
                      · intro w'
                        go_simp
                        with_reducible rfl
                      rotate_left
                      · simp only [Act.put, List.setIfInBounds_toArray, List.set_cons_zero, List.set_cons_succ, i64_w, i32_w]
                        rfl
                      refine pure_ (i := 13) (N := some 29) (v := ?_) (a' := ?_) #[true, true, true, true, true, true, true, true, true, true, true, true, true, true, false, false, false, false, false, false, false, false, false, false, false, false, false, false, false, false, false, false, false, false, false, false, false, false, false] rfl rfl (any_of HT_.out (by kernel_rfl)) (fun _ _ _ h => h) (Or.inl ⟨by rfl, ?_⟩) ?_ ?_
                      rotate_left
                      · intro w'
                        go_simp
                        with_reducible rfl
                      rotate_left
                      · simp only [Act.put, List.setIfInBounds_toArray, List.set_cons_zero, List.set_cons_succ, i64_w, i32_w]
                        rfl
                      refine pure_ (i := 14) (N := some 30) (v := ?_) (a' := ?_) #[true, true, true, true, true, true, true, true, true, true, true, true, true, true, true, false, false, false, false, false, false, false, false, false, false, false, false, false, false, false, false, false, false, false, false, false, false, false, false] rfl rfl (any_of HT_.out (by kernel_rfl)) (fun _ _ _ h => h) (Or.inl ⟨by rfl, ?_⟩) ?_ ?_
                      rotate_left
                      · intro w'
                        go_simp
                        with_reducible rfl
                      rotate_left
                      · simp only [Act.put, List.setIfInBounds_toArray, List.set_cons_zero, List.set_cons_succ, i64_w, i32_w]
                        rfl
                      refine pure_ (i := 15) (N := some 31) (v := ?_) (a' := ?_) #[true, true, true, true, true, true, true, true, true, true, true, true, true, true, true, true, false, false, false, false, false, false, false, false, false, false, false, false, false, false, false, false, false, false, false, false, false, false, false] rfl rfl (any_of HT_.out (by kernel_rfl)) (fun _ _ _ h => h) (Or.inl ⟨by rfl, ?_⟩) ?_ ?_
                      rotate_left
                      · intro w'
                        go_simp
                        with_reducible rfl
                      rotate_left
                      · simp only [Act.put, List.setIfInBounds_toArray, List.set_cons_zero, List.set_cons_succ, i64_w, i32_w]
                        rfl
                      refine pure_ (i := 17) (N := some 33) (v := ?_) (a' := ?_) #[true, true, true, true, true, true, true, true, true, true, true, true, true, true, true, true, false, true, false, false, false, false, false, false, false, false, false, false, false, false, false, false, false, false, false, false, false, false, false] rfl rfl (any_of HT_.out (by kernel_rfl)) (fun _ _ _ h => h) (Or.inl ⟨by rfl, ?_⟩) ?_ ?_
                      rotate_left
                      · intro w'
                        go_simp
                        with_reducible rfl
                      rotate_left
                      · simp only [Act.put, List.setIfInBounds_toArray, List.set_cons_zero, List.set_cons_succ, i64_w, i32_w]
                        rfl
                      refine pure_ (i := 18) (N := some 34) (v := ?_) (a' := ?_) #[true, true, true, true, true, true, true, true, true, true, true, true, true, true, true, true, false, true, true, false, false, false, false, false, false, false, false, false, false, false, false, false, false, false, false, false, false, false, false] rfl rfl (any_of HT_.out (by kernel_rfl)) (fun _ _ _ h => h) (Or.inl ⟨by rfl, ?_⟩) ?_ ?_
                      rotate_left
                      · intro w'
                        go_simp
                        with_reducible rfl
                      rotate_left
                      · simp only [Act.put, List.setIfInBounds_toArray, List.set_cons_zero, List.set_cons_succ, i64_w, i32_w]
                        rfl
                      refine pure_ (i := 19) (N := some 35) (v := ?_) (a' := ?_) #[true, true, true, true, true, true, true, true, true, true, true, true, true, true, true, true, false, true, true, true, false, false, false, false, false, false, false, false, false, false, false, false, false, false, false, false, false, false, false] rfl rfl (any_of HT_.out (by kernel_rfl)) (fun _ _ _ h => h) (Or.inl ⟨by rfl, ?_⟩) ?_ ?_
                      rotate_left
                      · intro w'
                        go_simp
                        with_reducible rfl
                      rotate_left
                      · simp only [Act.put, List.setIfInBounds_toArray, List.set_cons_zero, List.set_cons_succ, i64_w, i32_w]
                        rfl
                      refine pure_ (i := 20) (N := some 36) (v := ?_) (a' := ?_) #[true, true, true, true, true, true, true, true, true, true, true, true, true, true, true, true, false, true, true, true, true, false, false, false, false, false, false, false, false, false, false, false, false, false, false, false, false, false, false] rfl rfl (any_of HT_.out (by kernel_rfl)) (fun _ _ _ h => h) (Or.inl ⟨by rfl, ?_⟩) ?_ ?_
                      rotate_left
                      · intro w'
                        go_simp
                        with_reducible rfl
                      rotate_left
                      · simp only [Act.put, List.setIfInBounds_toArray, List.set_cons_zero, List.set_cons_succ, i64_w, i32_w]
                        rfl
                      refine take_ (i := 16) (N := some 32) (v := ?_) (a' := ?_) #[true, true, true, true, true, true, true, true, true, true, true, true, true, true, true, true, true, true, true, true, true, false, false, false, false, false, false, false, false, false, false, false, false, false, false, false, false, false, false] rfl rfl (take_ofW HT_.out HW_.out (by kernel_rfl)) (fun _ _ _ h => h) (Or.inl ⟨by rfl, ?_⟩) hHeld ?_ ?_
                      rotate_left
                      · rintro w' ⟨s0, s1, s2, s3, s4, s5, s6, s7, s8, s9, s10, s11, s12, s13, s14, s15, s16, s17⟩
                        go_simp
                        with_reducible rfl
                      rotate_left
                      · simp only [Act.put, List.setIfInBounds_toArray, List.set_cons_zero, List.set_cons_succ, i64_w, i32_w]
                        rfl
                      refine take_ (i := 21) (N := some 37) (v := ?_) (a' := ?_) #[true, true, true, true, true, true, true, true, true, true, true, true, true, true, true, true, true, true, true, true, true, true, false, false, false, false, false, false, false, false, false, false, false, false, false, false, false, false, false] rfl rfl (take_ofW HT_.out HW_.out (by kernel_rfl)) (fun _ _ _ h => h) (Or.inl ⟨by rfl, ?_⟩) hHeld ?_ ?_
                      rotate_left
                      · rintro w' ⟨s0, s1, s2, s3, s4, s5, s6, s7, s8, s9, s10, s11, s12, s13, s14, s15, s16, s17⟩
                        go_simp
                        with_reducible rfl
                      rotate_left
                      · simp only [Act.put, List.setIfInBounds_toArray, List.set_cons_zero, List.set_cons_succ, i64_w, i32_w]
                        rfl
                      refine one_ (i := 22) (N := some 38) #[true, true, true, true, true, true, true, true, true, true, true, true, true, true, true, true, true, true, true, true, true, true, true, false, false, false, false, false, false, false, false, false, false, false, false, false, false, false, false] rfl rfl (one_of HT_.out (by kernel_rfl)) (by decide) (fun K hK => ?_)
                      refine goes_ Try.func30 (by kernel_rfl) rfl #[.slice A140_1 ((rd_T80 l0 x13_1).f1).length c140_1, .slice A141_1 ((rd_T80 l1 x13_1).f1).length c141_1] (by rfl) rfl rfl (by (try simp only [List.map_toArray, List.map_cons, List.map_nil]); first | done | rfl | (simp only [List.length_drop, List.length_take]; rfl)) ?_
                      with_reducible refine (jvmcorelaw3_sameTypes.calls k1 _ _ ((rd_T80 l0 x13_1).f1) _ _ ((rd_T80 l1 x13_1).f1) true _ ?side1 ?side2 ?side3 ?side4 A9.out).mono ?_
                      (case side1 => repeat (first | exact (Kd.C_below HR142_1.out HB.out) | (with_reducible refine Kd.C_alloc ?_ _) | (with_reducible refine Kd.C_drewN ?_ _) | (with_reducible refine Kd.C_drew ?_)))
                      (case side2 => exact HC142_1.out)
                      (case side3 => repeat (first | exact (Kd.C_below HR143_1.out HB.out) | (with_reducible refine Kd.C_alloc ?_ _) | (with_reducible refine Kd.C_drewN ?_ _) | (with_reducible refine Kd.C_drew ?_)))
                      (case side4 => exact HC143_1.out)
                      rintro e w' ⟨rfl, ⟨nd, rfl⟩⟩
                      refine ⟨_, rfl, ?_⟩
                      refine hK.out _ _ ⟨((HB.out.cell (World.block_lt_of_cell? w _ hw140_0)).trans hw140_0), ((HB.out.cell (World.block_lt_of_cell? w _ hw140_1)).trans hw140_1), ((HB.out.cell (World.block_lt_of_cell? w _ hw140_2)).trans hw140_2), ((HB.out.cell (World.block_lt_of_cell? w _ hw141_0)).trans hw141_0), ((HB.out.cell (World.block_lt_of_cell? w _ hw141_1)).trans hw141_1), ((HB.out.cell (World.block_lt_of_cell? w _ hw141_2)).trans hw141_2), ((HB.out.cell (World.block_lt_of_cell? w _ hw142_0)).trans hw142_0), ((HB.out.cell (World.block_lt_of_cell? w _ hw142_1)).trans hw142_1), ((HB.out.cell (World.block_lt_of_cell? w _ hw142_2)).trans hw142_2), ((HB.out.cell (World.block_lt_of_cell? w _ hw143_0)).trans hw143_0), ((HB.out.cell (World.block_lt_of_cell? w _ hw143_1)).trans hw143_1), ((HB.out.cell (World.block_lt_of_cell? w _ hw143_2)).trans hw143_2), ((HB.out.cell (World.block_lt_of_cell? w _ hw145_0)).trans hw145_0), ((HB.out.cell (World.block_lt_of_cell? w _ hw145_1)).trans hw145_1), ((HB.out.cell (World.block_lt_of_cell? w _ hw145_2)).trans hw145_2), ((HB.out.cell (World.block_lt_of_cell? w _ hw146_0)).trans hw146_0), ((HB.out.cell (World.block_lt_of_cell? w _ hw146_1)).trans hw146_1), ((HB.out.cell (World.block_lt_of_cell? w _ hw146_2)).trans hw146_2)⟩ (fun hHeld => ?_)
                      clear hK K
                      refine norm_ (a' := ?_) ?_ ?_
                      rotate_left
                      · show Act.put _ (some 38) _ = _
                        simp only [Act.put, List.setIfInBounds_toArray, List.set_cons_zero, List.set_cons_succ, i64_w, i32_w]
                        rfl
                      refine pure_ (i := 23) (N := some 39) (v := ?_) (a' := ?_) #[true, true, true, true, true, true, true, true, true, true, true, true, true, true, true, true, true, true, true, true, true, true, true, true, false, false, false, false, false, false, false, false, false, false, false, false, false, false, false] rfl rfl (any_of HT_.out (by kernel_rfl)) (fun _ _ _ h => h) (Or.inl ⟨by rfl, ?_⟩) ?_ ?_
                      rotate_left
                      · intro w'
                        go_simp
                        with_reducible rfl
                      rotate_left
                      · simp only [Act.put, List.setIfInBounds_toArray, List.set_cons_zero, List.set_cons_succ, i64_w, i32_w]
                        rfl
                      refine pure_ (i := 24) (N := some 40) (v := ?_) (a' := ?_) #[true, true, true, true, true, true, true, true, true, true, true, true, true, true, true, true, true, true, true, true, true, true, true, true, true, false, false, false, false, false, false, false, false, false, false, false, false, false, false] rfl rfl (any_of HT_.out (by kernel_rfl)) (fun _ _ _ h => h) (Or.inl ⟨by rfl, ?_⟩) ?_ ?_
                      rotate_left
                      · intro w'
                        go_simp
                        with_reducible rfl
                      rotate_left
                      · simp only [Act.put, List.setIfInBounds_toArray, List.set_cons_zero, List.set_cons_succ, i64_w, i32_w]
                        rfl
                      refine pure_ (i := 25) (N := some 41) (v := ?_) (a' := ?_) #[true, true, true, true, true, true, true, true, true, true, true, true, true, true, true, true, true, true, true, true, true, true, true, true, true, true, false, false, false, false, false, false, false, false, false, false, false, false, false] rfl rfl (any_of HT_.out (by kernel_rfl)) (fun _ _ _ h => h) (Or.inl ⟨by rfl, ?_⟩) ?_ ?_
                      rotate_left
                      · intro w'
                        go_simp
                        with_reducible rfl
                      rotate_left
                      · simp only [Act.put, List.setIfInBounds_toArray, List.set_cons_zero, List.set_cons_succ, i64_w, i32_w]
                        rfl
                      refine pure_ (i := 26) (N := some 42) (v := ?_) (a' := ?_) #[true, true, true, true, true, true, true, true, true, true, true, true, true, true, true, true, true, true, true, true, true, true, true, true, true, true, true, false, false, false, false, false, false, false, false, false, false, false, false] rfl rfl (any_of HT_.out (by kernel_rfl)) (fun _ _ _ h => h) (Or.inl ⟨by rfl, ?_⟩) ?_ ?_
                      rotate_left
                      · intro w'
                        go_simp
                        with_reducible rfl
                      rotate_left
                      · simp only [Act.put, List.setIfInBounds_toArray, List.set_cons_zero, List.set_cons_succ, i64_w, i32_w]
                        rfl
                      refine pure_ (i := 27) (N := some 43) (v := ?_) (a' := ?_) #[true, true, true, true, true, true, true, true, true, true, true, true, true, true, true, true, true, true, true, true, true, true, true, true, true, true, true, true, false, false, false, false, false, false, false, false, false, false, false] rfl rfl (any_of HT_.out (by kernel_rfl)) (fun _ _ _ h => h) (Or.inl ⟨by rfl, ?_⟩) ?_ ?_
                      rotate_left
                      · intro w'
                        go_simp
                        with_reducible rfl
                      rotate_left
                      · simp only [Act.put, List.setIfInBounds_toArray, List.set_cons_zero, List.set_cons_succ, i64_w, i32_w]
                        rfl
                      refine pure_ (i := 28) (N := some 44) (v := ?_) (a' := ?_) #[true, true, true, true, true, true, true, true, true, true, true, true, true, true, true, true, true, true, true, true, true, true, true, true, true, true, true, true, true, false, false, false, false, false, false, false, false, false, false] rfl rfl (any_of HT_.out (by kernel_rfl)) (fun _ _ _ h => h) (Or.inl ⟨by rfl, ?_⟩) ?_ ?_
                      rotate_left
                      · intro w'
                        go_simp
                        with_reducible rfl
                      rotate_left
                      · simp only [Act.put, List.setIfInBounds_toArray, List.set_cons_zero, List.set_cons_succ, i64_w, i32_w]
                        rfl
                      refine pure_ (i := 29) (N := some 45) (v := ?_) (a' := ?_) #[true, true, true, true, true, true, true, true, true, true, true, true, true, true, true, true, true, true, true, true, true, true, true, true, true, true, true, true, true, true, false, false, false, false, false, false, false, false, false] rfl rfl (any_of HT_.out (by kernel_rfl)) (fun _ _ _ h => h) (Or.inl ⟨by rfl, ?_⟩) ?_ ?_
                      rotate_left
                      · intro w'
                        go_simp
                        with_reducible rfl
                      rotate_left
                      · simp only [Act.put, List.setIfInBounds_toArray, List.set_cons_zero, List.set_cons_succ, i64_w, i32_w]
                        rfl
                      refine pure_ (i := 31) (N := some 47) (v := ?_) (a' := ?_) #[true, true, true, true, true, true, true, true, true, true, true, true, true, true, true, true, true, true, true, true, true, true, true, true, true, true, true, true, true, true, false, true, false, false, false, false, false, false, false] rfl rfl (any_of HT_.out (by kernel_rfl)) (fun _ _ _ h => h) (Or.inl ⟨by rfl, ?_⟩) ?_ ?_
                      rotate_left
                      · intro w'
                        go_simp
                        with_reducible rfl
                      rotate_left
                      · simp only [Act.put, List.setIfInBounds_toArray, List.set_cons_zero, List.set_cons_succ, i64_w, i32_w]
                        rfl
                      refine pure_ (i := 32) (N := some 48) (v := ?_) (a' := ?_) #[true, true, true, true, true, true, true, true, true, true, true, true, true, true, true, true, true, true, true, true, true, true, true, true, true, true, true, true, true, true, false, true, true, false, false, false, false, false, false] rfl rfl (any_of HT_.out (by kernel_rfl)) (fun _ _ _ h => h) (Or.inl ⟨by rfl, ?_⟩) ?_ ?_
                      rotate_left
                      · intro w'
                        go_simp
                        with_reducible rfl
                      rotate_left
                      · simp only [Act.put, List.setIfInBounds_toArray, List.set_cons_zero, List.set_cons_succ, i64_w, i32_w]
                        rfl
                      refine pure_ (i := 33) (N := some 49) (v := ?_) (a' := ?_) #[true, true, true, true, true, true, true, true, true, true, true, true, true, true, true, true, true, true, true, true, true, true, true, true, true, true, true, true, true, true, false, true, true, true, false, false, false, false, false] rfl rfl (any_of HT_.out (by kernel_rfl)) (fun _ _ _ h => h) (Or.inl ⟨by rfl, ?_⟩) ?_ ?_
                      rotate_left
                      · intro w'
                        go_simp
                        with_reducible rfl
                      rotate_left
                      · simp only [Act.put, List.setIfInBounds_toArray, List.set_cons_zero, List.set_cons_succ, i64_w, i32_w]
                        rfl
                      refine pure_ (i := 34) (N := some 50) (v := ?_) (a' := ?_) #[true, true, true, true, true, true, true, true, true, true, true, true, true, true, true, true, true, true, true, true, true, true, true, true, true, true, true, true, true, true, false, true, true, true, true, false, false, false, false] rfl rfl (any_of HT_.out (by kernel_rfl)) (fun _ _ _ h => h) (Or.inl ⟨by rfl, ?_⟩) ?_ ?_
                      rotate_left
                      · intro w'
                        go_simp
                        with_reducible rfl
                      rotate_left
                      · simp only [Act.put, List.setIfInBounds_toArray, List.set_cons_zero, List.set_cons_succ, i64_w, i32_w]
                        rfl
                      refine take_ (i := 30) (N := some 46) (v := ?_) (a' := ?_) #[true, true, true, true, true, true, true, true, true, true, true, true, true, true, true, true, true, true, true, true, true, true, true, true, true, true, true, true, true, true, true, true, true, true, true, false, false, false, false] rfl rfl (take_ofW HT_.out HW_.out (by kernel_rfl)) (fun _ _ _ h => h) (Or.inl ⟨by rfl, ?_⟩) hHeld ?_ ?_
                      rotate_left
                      · rintro w' ⟨s0, s1, s2, s3, s4, s5, s6, s7, s8, s9, s10, s11, s12, s13, s14, s15, s16, s17⟩
                        go_simp
                        with_reducible rfl
                      rotate_left
                      · simp only [Act.put, List.setIfInBounds_toArray, List.set_cons_zero, List.set_cons_succ, i64_w, i32_w]
                        rfl
                      refine take_ (i := 35) (N := some 51) (v := ?_) (a' := ?_) #[true, true, true, true, true, true, true, true, true, true, true, true, true, true, true, true, true, true, true, true, true, true, true, true, true, true, true, true, true, true, true, true, true, true, true, true, false, false, false] rfl rfl (take_ofW HT_.out HW_.out (by kernel_rfl)) (fun _ _ _ h => h) (Or.inl ⟨by rfl, ?_⟩) hHeld ?_ ?_
                      rotate_left
                      · rintro w' ⟨s0, s1, s2, s3, s4, s5, s6, s7, s8, s9, s10, s11, s12, s13, s14, s15, s16, s17⟩
                        go_simp
                        with_reducible rfl
                      rotate_left
                      · simp only [Act.put, List.setIfInBounds_toArray, List.set_cons_zero, List.set_cons_succ, i64_w, i32_w]
                        rfl
                      refine one_ (i := 36) (N := some 52) #[true, true, true, true, true, true, true, true, true, true, true, true, true, true, true, true, true, true, true, true, true, true, true, true, true, true, true, true, true, true, true, true, true, true, true, true, true, false, false] rfl rfl (one_of HT_.out (by kernel_rfl)) (by decide) (fun K hK => ?_)
                      refine goes_ Try.func30 (by kernel_rfl) rfl #[.slice A140_2 ((rd_T80 l0 x13_1).f2).length c140_2, .slice A141_2 ((rd_T80 l1 x13_1).f2).length c141_2] (by rfl) rfl rfl (by (try simp only [List.map_toArray, List.map_cons, List.map_nil]); first | done | rfl | (simp only [List.length_drop, List.length_take]; rfl)) ?_
                      with_reducible refine (jvmcorelaw3_sameTypes.calls k1 _ _ ((rd_T80 l0 x13_1).f2) _ _ ((rd_T80 l1 x13_1).f2) false _ ?side1 ?side2 ?side3 ?side4 A11.out).mono ?_
                      (case side1 => repeat (first | exact (Kd.C_below HR145_2.out (by repeat (first | (with_reducible first | exact HB.out | apply below_alloc | apply pw_below_drewN | apply below_drew1) | exact HB.out))) | (with_reducible refine Kd.C_alloc ?_ _) | (with_reducible refine Kd.C_drewN ?_ _) | (with_reducible refine Kd.C_drew ?_)))
                      (case side2 => exact HC145_2.out)
                      (case side3 => repeat (first | exact (Kd.C_below HR146_2.out (by repeat (first | (with_reducible first | exact HB.out | apply below_alloc | apply pw_below_drewN | apply below_drew1) | exact HB.out))) | (with_reducible refine Kd.C_alloc ?_ _) | (with_reducible refine Kd.C_drewN ?_ _) | (with_reducible refine Kd.C_drew ?_)))
                      (case side4 => exact HC146_2.out)
                      rintro e w' ⟨rfl, ⟨nd, rfl⟩⟩
                      refine ⟨_, rfl, ?_⟩
                      refine hK.out _ _ ⟨((HB.out.cell (World.block_lt_of_cell? w _ hw140_0)).trans hw140_0), ((HB.out.cell (World.block_lt_of_cell? w _ hw140_1)).trans hw140_1), ((HB.out.cell (World.block_lt_of_cell? w _ hw140_2)).trans hw140_2), ((HB.out.cell (World.block_lt_of_cell? w _ hw141_0)).trans hw141_0), ((HB.out.cell (World.block_lt_of_cell? w _ hw141_1)).trans hw141_1), ((HB.out.cell (World.block_lt_of_cell? w _ hw141_2)).trans hw141_2), ((HB.out.cell (World.block_lt_of_cell? w _ hw142_0)).trans hw142_0), ((HB.out.cell (World.block_lt_of_cell? w _ hw142_1)).trans hw142_1), ((HB.out.cell (World.block_lt_of_cell? w _ hw142_2)).trans hw142_2), ((HB.out.cell (World.block_lt_of_cell? w _ hw143_0)).trans hw143_0), ((HB.out.cell (World.block_lt_of_cell? w _ hw143_1)).trans hw143_1), ((HB.out.cell (World.block_lt_of_cell? w _ hw143_2)).trans hw143_2), ((HB.out.cell (World.block_lt_of_cell? w _ hw145_0)).trans hw145_0), ((HB.out.cell (World.block_lt_of_cell? w _ hw145_1)).trans hw145_1), ((HB.out.cell (World.block_lt_of_cell? w _ hw145_2)).trans hw145_2), ((HB.out.cell (World.block_lt_of_cell? w _ hw146_0)).trans hw146_0), ((HB.out.cell (World.block_lt_of_cell? w _ hw146_1)).trans hw146_1), ((HB.out.cell (World.block_lt_of_cell? w _ hw146_2)).trans hw146_2)⟩ (fun hHeld => ?_)
                      clear hK K
                      refine norm_ (a' := ?_) ?_ ?_
                      rotate_left
                      · show Act.put _ (some 52) _ = _
                        simp only [Act.put, List.setIfInBounds_toArray, List.set_cons_zero, List.set_cons_succ, i64_w, i32_w]
                        rfl
                      refine pure_ (i := 37) (N := some 53) (v := ?_) (a' := ?_) #[true, true, true, true, true, true, true, true, true, true, true, true, true, true, true, true, true, true, true, true, true, true, true, true, true, true, true, true, true, true, true, true, true, true, true, true, true, true, false] rfl rfl (any_of HT_.out (by kernel_rfl)) (fun _ _ _ h => h) (Or.inl ⟨by rfl, ?_⟩) ?_ ?_
                      rotate_left
                      · intro w'
                        go_simp
                        with_reducible rfl
                      rotate_left
                      · simp only [Act.put, List.setIfInBounds_toArray, List.set_cons_zero, List.set_cons_succ, i64_w, i32_w]
                        rfl
                      refine pure_ (i := 38) (N := some 54) (v := ?_) (a' := ?_) #[true, true, true, true, true, true, true, true, true, true, true, true, true, true, true, true, true, true, true, true, true, true, true, true, true, true, true, true, true, true, true, true, true, true, true, true, true, true, true] rfl rfl (any_of HT_.out (by kernel_rfl)) (fun _ _ _ h => h) (Or.inl ⟨by rfl, ?_⟩) ?_ ?_
                      rotate_left
                      · intro w'
                        go_simp
                        with_reducible rfl
                      rotate_left
                      · simp only [Act.put, List.setIfInBounds_toArray, List.set_cons_zero, List.set_cons_succ, i64_w, i32_w]
                        rfl
                      refine done_ (done_of HT_.out (by kernel_rfl)) ?_
                      try go_wp2
                      go_ret
                      exact ⟨by first | rfl | (simp [errW_none, errW_some] <;> rfl) | (simp [*, errW_none, errW_some] <;> rfl), by repeat (first | (with_reducible first | exact HB.out | apply below_alloc | apply pw_below_drewN | apply below_drew1) | exact HB.out)⟩
                  · replace c10 := Bool.eq_false_iff.mpr c10
                    subst c10
                    have H1 : (some false) = some r := by rw [if_neg (show ¬ (false = true) by decide)] at H; exact H
                    clear H
                    have H := H1
                    clear H1
                    obtain rfl := Option.some.inj H
                    try go_wp2
                    have n0_ := Aside0.mk (below_drew1 HB.out)
                    clear HB
                    have HB := n0_
                    clear n0_
                    have p140 : 0 ≤ (x13_1 : Int) := of_decide_eq_true (by first | (with_reducible assumption) | assumption)
                    have q140 : x13_1 < (l0.length : Int) := of_decide_eq_true (by first | (with_reducible assumption) | assumption)
                    obtain ⟨ad140, A140_1, c140_1, A140_2, c140_2, e140, hx140_0, hx140_1, hx140_2, hl140_1, hi140_1, hl140_2, hi140_2⟩ := at_T80 HR0.out x13_1 p140 q140
                    have hw140_2 := hx140_2
                    have hw140_1 := hx140_1
                    have hw140_0 := hx140_0
                    cases e140
                    replace hx140_0 := (HB.out.cell (World.block_lt_of_cell? w _ hx140_0)).trans hx140_0
                    replace hx140_1 := (HB.out.cell (World.block_lt_of_cell? w _ hx140_1)).trans hx140_1
                    replace hx140_2 := (HB.out.cell (World.block_lt_of_cell? w _ hx140_2)).trans hx140_2
                    have HR140_1 := Aside0.mk hi140_1
                    have HC140_1 := Aside0.mk hl140_1
                    clear hi140_1 hl140_1
                    have HR140_2 := Aside0.mk hi140_2
                    have HC140_2 := Aside0.mk hl140_2
                    clear hi140_2 hl140_2
                    replace p140 := eq_true p140
                    replace q140 := eq_true q140
                    have p141 : 0 ≤ (x13_1 : Int) := of_decide_eq_true (by first | (with_reducible assumption) | assumption)
                    have q141 : x13_1 < (l1.length : Int) := of_decide_eq_true (by first | (with_reducible assumption) | assumption)
                    obtain ⟨ad141, A141_1, c141_1, A141_2, c141_2, e141, hx141_0, hx141_1, hx141_2, hl141_1, hi141_1, hl141_2, hi141_2⟩ := at_T80 HR1.out x13_1 p141 q141
                    have hw141_2 := hx141_2
                    have hw141_1 := hx141_1
                    have hw141_0 := hx141_0
                    cases e141
                    replace hx141_0 := (HB.out.cell (World.block_lt_of_cell? w _ hx141_0)).trans hx141_0
                    replace hx141_1 := (HB.out.cell (World.block_lt_of_cell? w _ hx141_1)).trans hx141_1
                    replace hx141_2 := (HB.out.cell (World.block_lt_of_cell? w _ hx141_2)).trans hx141_2
                    have HR141_1 := Aside0.mk hi141_1
                    have HC141_1 := Aside0.mk hl141_1
                    clear hi141_1 hl141_1
                    have HR141_2 := Aside0.mk hi141_2
                    have HC141_2 := Aside0.mk hl141_2
                    clear hi141_2 hl141_2
                    replace p141 := eq_true p141
                    replace q141 := eq_true q141
                    have p142 : 0 ≤ (x13_1 : Int) := of_decide_eq_true (by first | (with_reducible assumption) | assumption)
                    have q142 : x13_1 < (l0.length : Int) := of_decide_eq_true (by first | (with_reducible assumption) | assumption)
                    obtain ⟨ad142, A142_1, c142_1, A142_2, c142_2, e142, hx142_0, hx142_1, hx142_2, hl142_1, hi142_1, hl142_2, hi142_2⟩ := at_T80 HR0.out x13_1 p142 q142
                    have hw142_2 := hx142_2
                    have hw142_1 := hx142_1
                    have hw142_0 := hx142_0
                    obtain rfl : ad140 = ad142 := (by injection e142)
                    replace hx142_0 := (HB.out.cell (World.block_lt_of_cell? w _ hx142_0)).trans hx142_0
                    replace hx142_1 := (HB.out.cell (World.block_lt_of_cell? w _ hx142_1)).trans hx142_1
                    replace hx142_2 := (HB.out.cell (World.block_lt_of_cell? w _ hx142_2)).trans hx142_2
                    have HR142_1 := Aside0.mk hi142_1
                    have HC142_1 := Aside0.mk hl142_1
                    clear hi142_1 hl142_1
                    have HR142_2 := Aside0.mk hi142_2
                    have HC142_2 := Aside0.mk hl142_2
                    clear hi142_2 hl142_2
                    replace p142 := eq_true p142
                    replace q142 := eq_true q142
                    have ea_ := Option.some.inj (hx140_1.symm.trans hx142_1)
                    injection ea_ with ea_ en_ ec_
                    subst ea_
                    subst ec_
                    clear en_
                    have ea_ := Option.some.inj (hx140_2.symm.trans hx142_2)
                    injection ea_ with ea_ en_ ec_
                    subst ea_
                    subst ec_
                    clear en_
                    have p143 : 0 ≤ (x13_1 : Int) := of_decide_eq_true (by first | (with_reducible assumption) | assumption)
                    have q143 : x13_1 < (l1.length : Int) := of_decide_eq_true (by first | (with_reducible assumption) | assumption)
                    obtain ⟨ad143, A143_1, c143_1, A143_2, c143_2, e143, hx143_0, hx143_1, hx143_2, hl143_1, hi143_1, hl143_2, hi143_2⟩ := at_T80 HR1.out x13_1 p143 q143
                    have hw143_2 := hx143_2
                    have hw143_1 := hx143_1
                    have hw143_0 := hx143_0
                    obtain rfl : ad141 = ad143 := (by injection e143)
                    replace hx143_0 := (HB.out.cell (World.block_lt_of_cell? w _ hx143_0)).trans hx143_0
                    replace hx143_1 := (HB.out.cell (World.block_lt_of_cell? w _ hx143_1)).trans hx143_1
                    replace hx143_2 := (HB.out.cell (World.block_lt_of_cell? w _ hx143_2)).trans hx143_2
                    have HR143_1 := Aside0.mk hi143_1
                    have HC143_1 := Aside0.mk hl143_1
                    clear hi143_1 hl143_1
                    have HR143_2 := Aside0.mk hi143_2
                    have HC143_2 := Aside0.mk hl143_2
                    clear hi143_2 hl143_2
                    replace p143 := eq_true p143
                    replace q143 := eq_true q143
                    have ea_ := Option.some.inj (hx141_1.symm.trans hx143_1)
                    injection ea_ with ea_ en_ ec_
                    subst ea_
                    subst ec_
                    clear en_
                    have ea_ := Option.some.inj (hx141_2.symm.trans hx143_2)
                    injection ea_ with ea_ en_ ec_
                    subst ea_
                    subst ec_
                    clear en_
                    refine start_ (n := 39) (S := fun w' => w'.cell? (ad140.add ((x13_1).toNat * 3)) = some (.int .i64 ((rd_T80 l0 x13_1).f0)) ∧ w'.cell? ⟨(ad140.add ((x13_1).toNat * 3)).block, (ad140.add ((x13_1).toNat * 3)).off + 1, none⟩ = some (.slice A140_1 ((rd_T80 l0 x13_1).f1).length c140_1) ∧ w'.cell? ⟨(ad140.add ((x13_1).toNat * 3)).block, (ad140.add ((x13_1).toNat * 3)).off + 2, none⟩ = some (.slice A140_2 ((rd_T80 l0 x13_1).f2).length c140_2) ∧ w'.cell? (ad141.add ((x13_1).toNat * 3)) = some (.int .i64 ((rd_T80 l1 x13_1).f0)) ∧ w'.cell? ⟨(ad141.add ((x13_1).toNat * 3)).block, (ad141.add ((x13_1).toNat * 3)).off + 1, none⟩ = some (.slice A141_1 ((rd_T80 l1 x13_1).f1).length c141_1) ∧ w'.cell? ⟨(ad141.add ((x13_1).toNat * 3)).block, (ad141.add ((x13_1).toNat * 3)).off + 2, none⟩ = some (.slice A141_2 ((rd_T80 l1 x13_1).f2).length c141_2) ∧ w'.cell? (ad140.add ((x13_1).toNat * 3)) = some (.int .i64 ((rd_T80 l0 x13_1).f0)) ∧ w'.cell? ⟨(ad140.add ((x13_1).toNat * 3)).block, (ad140.add ((x13_1).toNat * 3)).off + 1, none⟩ = some (.slice A140_1 ((rd_T80 l0 x13_1).f1).length c140_1) ∧ w'.cell? ⟨(ad140.add ((x13_1).toNat * 3)).block, (ad140.add ((x13_1).toNat * 3)).off + 2, none⟩ = some (.slice A140_2 ((rd_T80 l0 x13_1).f2).length c140_2) ∧ w'.cell? (ad141.add ((x13_1).toNat * 3)) = some (.int .i64 ((rd_T80 l1 x13_1).f0)) ∧ w'.cell? ⟨(ad141.add ((x13_1).toNat * 3)).block, (ad141.add ((x13_1).toNat * 3)).off + 1, none⟩ = some (.slice A141_1 ((rd_T80 l1 x13_1).f1).length c141_1) ∧ w'.cell? ⟨(ad141.add ((x13_1).toNat * 3)).block, (ad141.add ((x13_1).toNat * 3)).off + 2, none⟩ = some (.slice A141_2 ((rd_T80 l1 x13_1).f2).length c141_2)) (ds := []) #[false, false, false, false, false, false, false, false, false, false, false, false, false, false, false, false, false, false, false, false, false, false, false, false, false, false, false, false, false, false, false, false, false, false, false, false, false, false, false] (by kernel_rfl) rfl rfl ⟨((HB.out.cell (World.block_lt_of_cell? w _ hw140_0)).trans hw140_0), ((HB.out.cell (World.block_lt_of_cell? w _ hw140_1)).trans hw140_1), ((HB.out.cell (World.block_lt_of_cell? w _ hw140_2)).trans hw140_2), ((HB.out.cell (World.block_lt_of_cell? w _ hw141_0)).trans hw141_0), ((HB.out.cell (World.block_lt_of_cell? w _ hw141_1)).trans hw141_1), ((HB.out.cell (World.block_lt_of_cell? w _ hw141_2)).trans hw141_2), ((HB.out.cell (World.block_lt_of_cell? w _ hw142_0)).trans hw142_0), ((HB.out.cell (World.block_lt_of_cell? w _ hw142_1)).trans hw142_1), ((HB.out.cell (World.block_lt_of_cell? w _ hw142_2)).trans hw142_2), ((HB.out.cell (World.block_lt_of_cell? w _ hw143_0)).trans hw143_0), ((HB.out.cell (World.block_lt_of_cell? w _ hw143_1)).trans hw143_1), ((HB.out.cell (World.block_lt_of_cell? w _ hw143_2)).trans hw143_2)⟩ (fun hHeld => ?_); refine with_tabW jvmcorelaw3_sameFrames.tab6 jvmcorelaw3_sameFrames.bits6 (fun HT_ HW_ => ?_)
                    generalize wr.drew = w15 at HB HR140_1 HR140_2 HR141_1 HR141_2 HR142_1 HR142_2 HR143_1 HR143_2 hx140_0 hx140_1 hx140_2 hx141_0 hx141_1 hx141_2 hx142_0 hx142_1 hx142_2 hx143_0 hx143_1 hx143_2 hHeld ⊢
                    refine pure_ (i := 0) (N := some 16) (v := ?_) (a' := ?_) #[true, false, false, false, false, false, false, false, false, false, false, false, false, false, false, false, false, false, false, false, false, false, false, false, false, false, false, false, false, false, false, false, false, false, false, false, false, false, false] rfl rfl (any_of HT_.out (by kernel_rfl)) (fun _ _ _ h => h) (Or.inl ⟨by rfl, ?_⟩) ?_ ?_
                    rotate_left
                    · intro w'
                      go_simp
                      with_reducible rfl
                    rotate_left
                    · simp only [Act.put, List.setIfInBounds_toArray, List.set_cons_zero, List.set_cons_succ, i64_w, i32_w]
                      rfl
                    refine pure_ (i := 1) (N := some 17) (v := ?_) (a' := ?_) #[true, true, false, false, false, false, false, false, false, false, false, false, false, false, false, false, false, false, false, false, false, false, false, false, false, false, false, false, false, false, false, false, false, false, false, false, false, false, false] rfl rfl (any_of HT_.out (by kernel_rfl)) (fun _ _ _ h => h) (Or.inl ⟨by rfl, ?_⟩) ?_ ?_
                    rotate_left
                    · intro w'
                      go_simp
                      with_reducible rfl
                    rotate_left
                    · simp only [Act.put, List.setIfInBounds_toArray, List.set_cons_zero, List.set_cons_succ, i64_w, i32_w]
                      rfl
                    refine pure_ (i := 2) (N := some 18) (v := ?_) (a' := ?_) #[true, true, true, false, false, false, false, false, false, false, false, false, false, false, false, false, false, false, false, false, false, false, false, false, false, false, false, false, false, false, false, false, false, false, false, false, false, false, false] rfl rfl (any_of HT_.out (by kernel_rfl)) (fun _ _ _ h => h) (Or.inl ⟨by rfl, ?_⟩) ?_ ?_
                    rotate_left
                    · intro w'
                      go_simp
                      with_reducible rfl
                    rotate_left
                    · simp only [Act.put, List.setIfInBounds_toArray, List.set_cons_zero, List.set_cons_succ, i64_w, i32_w]
                      rfl
                    refine pure_ (i := 3) (N := some 19) (v := ?_) (a' := ?_) #[true, true, true, true, false, false, false, false, false, false, false, false, false, false, false, false, false, false, false, false, false, false, false, false, false, false, false, false, false, false, false, false, false, false, false, false, false, false, false] rfl rfl (any_of HT_.out (by kernel_rfl)) (fun _ _ _ h => h) (Or.inl ⟨by rfl, ?_⟩) ?_ ?_
                    rotate_left
                    · intro w'
                      go_simp
                      with_reducible rfl
                    rotate_left
                    · simp only [Act.put, List.setIfInBounds_toArray, List.set_cons_zero, List.set_cons_succ, i64_w, i32_w]
                      rfl
                    refine pure_ (i := 5) (N := some 21) (v := ?_) (a' := ?_) #[true, true, true, true, false, true, false, false, false, false, false, false, false, false, false, false, false, false, false, false, false, false, false, false, false, false, false, false, false, false, false, false, false, false, false, false, false, false, false] rfl rfl (any_of HT_.out (by kernel_rfl)) (fun _ _ _ h => h) (Or.inl ⟨by rfl, ?_⟩) ?_ ?_
                    rotate_left
                    · intro w'
                      go_simp
                      with_reducible rfl
                    rotate_left
                    · simp only [Act.put, List.setIfInBounds_toArray, List.set_cons_zero, List.set_cons_succ, i64_w, i32_w]
                      rfl
                    refine pure_ (i := 6) (N := some 22) (v := ?_) (a' := ?_) #[true, true, true, true, false, true, true, false, false, false, false, false, false, false, false, false, false, false, false, false, false, false, false, false, false, false, false, false, false, false, false, false, false, false, false, false, false, false, false] rfl rfl (any_of HT_.out (by kernel_rfl)) (fun _ _ _ h => h) (Or.inl ⟨by rfl, ?_⟩) ?_ ?_
                    rotate_left
                    · intro w'
                      go_simp
                      with_reducible rfl
                    rotate_left
                    · simp only [Act.put, List.setIfInBounds_toArray, List.set_cons_zero, List.set_cons_succ, i64_w, i32_w]
                      rfl
                    refine pure_ (i := 7) (N := some 23) (v := ?_) (a' := ?_) #[true, true, true, true, false, true, true, true, false, false, false, false, false, false, false, false, false, false, false, false, false, false, false, false, false, false, false, false, false, false, false, false, false, false, false, false, false, false, false] rfl rfl (any_of HT_.out (by kernel_rfl)) (fun _ _ _ h => h) (Or.inl ⟨by rfl, ?_⟩) ?_ ?_
                    rotate_left
                    · intro w'
                      go_simp
                      with_reducible rfl
                    rotate_left
                    · simp only [Act.put, List.setIfInBounds_toArray, List.set_cons_zero, List.set_cons_succ, i64_w, i32_w]
                      rfl
                    refine pure_ (i := 8) (N := some 24) (v := ?_) (a' := ?_) #[true, true, true, true, false, true, true, true, true, false, false, false, false, false, false, false, false, false, false, false, false, false, false, false, false, false, false, false, false, false, false, false, false, false, false, false, false, false, false] rfl rfl (any_of HT_.out (by kernel_rfl)) (fun _ _ _ h => h) (Or.inl ⟨by rfl, ?_⟩) ?_ ?_
                    rotate_left
                    · intro w'
                      go_simp
                      with_reducible rfl
                    rotate_left
                    · simp only [Act.put, List.setIfInBounds_toArray, List.set_cons_zero, List.set_cons_succ, i64_w, i32_w]
                      rfl
                    refine take_ (i := 4) (N := some 20) (v := ?_) (a' := ?_) #[true, true, true, true, true, true, true, true, true, false, false, false, false, false, false, false, false, false, false, false, false, false, false, false, false, false, false, false, false, false, false, false, false, false, false, false, false, false, false] rfl rfl (take_ofW HT_.out HW_.out (by kernel_rfl)) (fun _ _ _ h => h) (Or.inl ⟨by rfl, ?_⟩) hHeld ?_ ?_
                    rotate_left
                    · rintro w' ⟨s0, s1, s2, s3, s4, s5, s6, s7, s8, s9, s10, s11⟩
                      go_simp
                      with_reducible rfl
                    rotate_left
                    · simp only [Act.put, List.setIfInBounds_toArray, List.set_cons_zero, List.set_cons_succ, i64_w, i32_w]
                      rfl
                    refine take_ (i := 9) (N := some 25) (v := ?_) (a' := ?_) #[true, true, true, true, true, true, true, true, true, true, false, false, false, false, false, false, false, false, false, false, false, false, false, false, false, false, false, false, false, false, false, false, false, false, false, false, false, false, false] rfl rfl (take_ofW HT_.out HW_.out (by kernel_rfl)) (fun _ _ _ h => h) (Or.inl ⟨by rfl, ?_⟩) hHeld ?_ ?_
                    rotate_left
                    · rintro w' ⟨s0, s1, s2, s3, s4, s5, s6, s7, s8, s9, s10, s11⟩
                      go_simp
                      with_reducible rfl
                    rotate_left
                    · simp only [Act.put, List.setIfInBounds_toArray, List.set_cons_zero, List.set_cons_succ, i64_w, i32_w]
                      rfl
                    refine pure_ (i := 10) (N := some 26) (v := ?_) (a' := ?_) #[true, true, true, true, true, true, true, true, true, true, true, false, false, false, false, false, false, false, false, false, false, false, false, false, false, false, false, false, false, false, false, false, false, false, false, false, false, false, false] rfl rfl (any_of HT_.out (by kernel_rfl)) (fun _ _ _ h => h) (Or.inl ⟨by rfl, ?_⟩) ?_ ?_
                    rotate_left
                    · intro w'
                      go_simp
                      with_reducible rfl
                    rotate_left
                    · simp only [Act.put, List.setIfInBounds_toArray, List.set_cons_zero, List.set_cons_succ, i64_w, i32_w]
                      rfl
                    refine pure_ (i := 11) (N := some 27) (v := ?_) (a' := ?_) #[true, true, true, true, true, true, true, true, true, true, true, true, false, false, false, false, false, false, false, false, false, false, false, false, false, false, false, false, false, false, false, false, false, false, false, false, false, false, false] rfl rfl (any_of HT_.out (by kernel_rfl)) (fun _ _ _ h => h) (Or.inl ⟨by rfl, ?_⟩) ?_ ?_
                    rotate_left
                    · intro w'
                      go_simp
                      with_reducible rfl
                    rotate_left
                    · simp only [Act.put, List.setIfInBounds_toArray, List.set_cons_zero, List.set_cons_succ, i64_w, i32_w]
                      rfl
                    refine pure_ (i := 12) (N := some 28) (v := ?_) (a' := ?_) #[true, true, true, true, true, true, true, true, true, true, true, true, true, false, false, false, false, false, false, false, false, false, false, false, false, false, false, false, false, false, false, false, false, false, false, false, false, false, false] rfl rfl (any_of HT_.out (by kernel_rfl)) (fun _ _ _ h => h) (Or.inl ⟨by rfl, ?_⟩) ?_ ?_
                    rotate_left
                    · intro w'
                      go_simp
                      with_reducible rfl
                    rotate_left
                    · simp only [Act.put, List.setIfInBounds_toArray, List.set_cons_zero, List.set_cons_succ, i64_w, i32_w]
                      rfl
                    refine pure_ (i := 13) (N := some 29) (v := ?_) (a' := ?_) #[true, true, true, true, true, true, true, true, true, true, true, true, true, true, false, false, false, false, false, false, false, false, false, false, false, false, false, false, false, false, false, false, false, false, false, false, false, false, false] rfl rfl (any_of HT_.out (by kernel_rfl)) (fun _ _ _ h => h) (Or.inl ⟨by rfl, ?_⟩) ?_ ?_
                    rotate_left
                    · intro w'
                      go_simp
                      with_reducible rfl
                    rotate_left
                    · simp only [Act.put, List.setIfInBounds_toArray, List.set_cons_zero, List.set_cons_succ, i64_w, i32_w]
                      rfl
                    refine pure_ (i := 14) (N := some 30) (v := ?_) (a' := ?_) #[true, true, true, true, true, true, true, true, true, true, true, true, true, true, true, false, false, false, false, false, false, false, false, false, false, false, false, false, false, false, false, false, false, false, false, false, false, false, false] rfl rfl (any_of HT_.out (by kernel_rfl)) (fun _ _ _ h => h) (Or.inl ⟨by rfl, ?_⟩) ?_ ?_
                    rotate_left
                    · intro w'
                      go_simp
                      with_reducible rfl
                    rotate_left
                    · simp only [Act.put, List.setIfInBounds_toArray, List.set_cons_zero, List.set_cons_succ, i64_w, i32_w]
                      rfl
                    refine pure_ (i := 15) (N := some 31) (v := ?_) (a' := ?_) #[true, true, true, true, true, true, true, true, true, true, true, true, true, true, true, true, false, false, false, false, false, false, false, false, false, false, false, false, false, false, false, false, false, false, false, false, false, false, false] rfl rfl (any_of HT_.out (by kernel_rfl)) (fun _ _ _ h => h) (Or.inl ⟨by rfl, ?_⟩) ?_ ?_
                    rotate_left
                    · intro w'
                      go_simp
                      with_reducible rfl
                    rotate_left
                    · simp only [Act.put, List.setIfInBounds_toArray, List.set_cons_zero, List.set_cons_succ, i64_w, i32_w]
                      rfl
                    refine pure_ (i := 17) (N := some 33) (v := ?_) (a' := ?_) #[true, true, true, true, true, true, true, true, true, true, true, true, true, true, true, true, false, true, false, false, false, false, false, false, false, false, false, false, false, false, false, false, false, false, false, false, false, false, false] rfl rfl (any_of HT_.out (by kernel_rfl)) (fun _ _ _ h => h) (Or.inl ⟨by rfl, ?_⟩) ?_ ?_
                    rotate_left
                    · intro w'
                      go_simp
                      with_reducible rfl
                    rotate_left
                    · simp only [Act.put, List.setIfInBounds_toArray, List.set_cons_zero, List.set_cons_succ, i64_w, i32_w]
                      rfl
                    refine pure_ (i := 18) (N := some 34) (v := ?_) (a' := ?_) #[true, true, true, true, true, true, true, true, true, true, true, true, true, true, true, true, false, true, true, false, false, false, false, false, false, false, false, false, false, false, false, false, false, false, false, false, false, false, false] rfl rfl (any_of HT_.out (by kernel_rfl)) (fun _ _ _ h => h) (Or.inl ⟨by rfl, ?_⟩) ?_ ?_
                    rotate_left
                    · intro w'
                      go_simp
                      with_reducible rfl
                    rotate_left
                    · simp only [Act.put, List.setIfInBounds_toArray, List.set_cons_zero, List.set_cons_succ, i64_w, i32_w]
                      rfl
                    refine pure_ (i := 19) (N := some 35) (v := ?_) (a' := ?_) #[true, true, true, true, true, true, true, true, true, true, true, true, true, true, true, true, false, true, true, true, false, false, false, false, false, false, false, false, false, false, false, false, false, false, false, false, false, false, false] rfl rfl (any_of HT_.out (by kernel_rfl)) (fun _ _ _ h => h) (Or.inl ⟨by rfl, ?_⟩) ?_ ?_
                    rotate_left
                    · intro w'
                      go_simp
                      with_reducible rfl
                    rotate_left
                    · simp only [Act.put, List.setIfInBounds_toArray, List.set_cons_zero, List.set_cons_succ, i64_w, i32_w]
                      rfl
                    refine pure_ (i := 20) (N := some 36) (v := ?_) (a' := ?_) #[true, true, true, true, true, true, true, true, true, true, true, true, true, true, true, true, false, true, true, true, true, false, false, false, false, false, false, false, false, false, false, false, false, false, false, false, false, false, false] rfl rfl (any_of HT_.out (by kernel_rfl)) (fun _ _ _ h => h) (Or.inl ⟨by rfl, ?_⟩) ?_ ?_
                    rotate_left
                    · intro w'
                      go_simp
                      with_reducible rfl
                    rotate_left
                    · simp only [Act.put, List.setIfInBounds_toArray, List.set_cons_zero, List.set_cons_succ, i64_w, i32_w]
                      rfl
                    refine take_ (i := 16) (N := some 32) (v := ?_) (a' := ?_) #[true, true, true, true, true, true, true, true, true, true, true, true, true, true, true, true, true, true, true, true, true, false, false, false, false, false, false, false, false, false, false, false, false, false, false, false, false, false, false] rfl rfl (take_ofW HT_.out HW_.out (by kernel_rfl)) (fun _ _ _ h => h) (Or.inl ⟨by rfl, ?_⟩) hHeld ?_ ?_
                    rotate_left
                    · rintro w' ⟨s0, s1, s2, s3, s4, s5, s6, s7, s8, s9, s10, s11⟩
                      go_simp
                      with_reducible rfl
                    rotate_left
                    · simp only [Act.put, List.setIfInBounds_toArray, List.set_cons_zero, List.set_cons_succ, i64_w, i32_w]
                      rfl
                    refine take_ (i := 21) (N := some 37) (v := ?_) (a' := ?_) #[true, true, true, true, true, true, true, true, true, true, true, true, true, true, true, true, true, true, true, true, true, true, false, false, false, false, false, false, false, false, false, false, false, false, false, false, false, false, false] rfl rfl (take_ofW HT_.out HW_.out (by kernel_rfl)) (fun _ _ _ h => h) (Or.inl ⟨by rfl, ?_⟩) hHeld ?_ ?_
                    rotate_left
                    · rintro w' ⟨s0, s1, s2, s3, s4, s5, s6, s7, s8, s9, s10, s11⟩
                      go_simp
                      with_reducible rfl
                    rotate_left
                    · simp only [Act.put, List.setIfInBounds_toArray, List.set_cons_zero, List.set_cons_succ, i64_w, i32_w]
                      rfl
                    refine one_ (i := 22) (N := some 38) #[true, true, true, true, true, true, true, true, true, true, true, true, true, true, true, true, true, true, true, true, true, true, true, false, false, false, false, false, false, false, false, false, false, false, false, false, false, false, false] rfl rfl (one_of HT_.out (by kernel_rfl)) (by decide) (fun K hK => ?_)
                    refine goes_ Try.func30 (by kernel_rfl) rfl #[.slice A140_1 ((rd_T80 l0 x13_1).f1).length c140_1, .slice A141_1 ((rd_T80 l1 x13_1).f1).length c141_1] (by rfl) rfl rfl (by (try simp only [List.map_toArray, List.map_cons, List.map_nil]); first | done | rfl | (simp only [List.length_drop, List.length_take]; rfl)) ?_
                    with_reducible refine (jvmcorelaw3_sameTypes.calls k1 _ _ ((rd_T80 l0 x13_1).f1) _ _ ((rd_T80 l1 x13_1).f1) false _ ?side1 ?side2 ?side3 ?side4 A9.out).mono ?_
                    (case side1 => repeat (first | exact (Kd.C_below HR142_1.out HB.out) | (with_reducible refine Kd.C_alloc ?_ _) | (with_reducible refine Kd.C_drewN ?_ _) | (with_reducible refine Kd.C_drew ?_)))
                    (case side2 => exact HC142_1.out)
                    (case side3 => repeat (first | exact (Kd.C_below HR143_1.out HB.out) | (with_reducible refine Kd.C_alloc ?_ _) | (with_reducible refine Kd.C_drewN ?_ _) | (with_reducible refine Kd.C_drew ?_)))
                    (case side4 => exact HC143_1.out)
                    rintro e w' ⟨rfl, ⟨nd, rfl⟩⟩
                    refine ⟨_, rfl, ?_⟩
                    refine hK.out _ _ ⟨((HB.out.cell (World.block_lt_of_cell? w _ hw140_0)).trans hw140_0), ((HB.out.cell (World.block_lt_of_cell? w _ hw140_1)).trans hw140_1), ((HB.out.cell (World.block_lt_of_cell? w _ hw140_2)).trans hw140_2), ((HB.out.cell (World.block_lt_of_cell? w _ hw141_0)).trans hw141_0), ((HB.out.cell (World.block_lt_of_cell? w _ hw141_1)).trans hw141_1), ((HB.out.cell (World.block_lt_of_cell? w _ hw141_2)).trans hw141_2), ((HB.out.cell (World.block_lt_of_cell? w _ hw142_0)).trans hw142_0), ((HB.out.cell (World.block_lt_of_cell? w _ hw142_1)).trans hw142_1), ((HB.out.cell (World.block_lt_of_cell? w _ hw142_2)).trans hw142_2), ((HB.out.cell (World.block_lt_of_cell? w _ hw143_0)).trans hw143_0), ((HB.out.cell (World.block_lt_of_cell? w _ hw143_1)).trans hw143_1), ((HB.out.cell (World.block_lt_of_cell? w _ hw143_2)).trans hw143_2)⟩ (fun hHeld => ?_)
                    clear hK K
                    refine norm_ (a' := ?_) ?_ ?_
                    rotate_left
                    · show Act.put _ (some 38) _ = _
                      simp only [Act.put, List.setIfInBounds_toArray, List.set_cons_zero, List.set_cons_succ, i64_w, i32_w]
                      rfl
                    refine pure_ (i := 23) (N := some 39) (v := ?_) (a' := ?_) #[true, true, true, true, true, true, true, true, true, true, true, true, true, true, true, true, true, true, true, true, true, true, true, true, false, false, false, false, false, false, false, false, false, false, false, false, false, false, false] rfl rfl (any_of HT_.out (by kernel_rfl)) (fun _ _ _ h => h) (Or.inl ⟨by rfl, ?_⟩) ?_ ?_
                    rotate_left
                    · intro w'
                      go_simp
                      with_reducible rfl
                    rotate_left
                    · simp only [Act.put, List.setIfInBounds_toArray, List.set_cons_zero, List.set_cons_succ, i64_w, i32_w]
                      rfl
                    refine pure_ (i := 24) (N := some 40) (v := ?_) (a' := ?_) #[true, true, true, true, true, true, true, true, true, true, true, true, true, true, true, true, true, true, true, true, true, true, true, true, true, false, false, false, false, false, false, false, false, false, false, false, false, false, false] rfl rfl (any_of HT_.out (by kernel_rfl)) (fun _ _ _ h => h) (Or.inl ⟨by rfl, ?_⟩) ?_ ?_
                    rotate_left
                    · intro w'
                      go_simp
                      with_reducible rfl
                    rotate_left
                    · simp only [Act.put, List.setIfInBounds_toArray, List.set_cons_zero, List.set_cons_succ, i64_w, i32_w]
                      rfl
                    refine pure_ (i := 25) (N := some 41) (v := ?_) (a' := ?_) #[true, true, true, true, true, true, true, true, true, true, true, true, true, true, true, true, true, true, true, true, true, true, true, true, true, true, false, false, false, false, false, false, false, false, false, false, false, false, false] rfl rfl (any_of HT_.out (by kernel_rfl)) (fun _ _ _ h => h) (Or.inl ⟨by rfl, ?_⟩) ?_ ?_
                    rotate_left
                    · intro w'
                      go_simp
                      with_reducible rfl
                    rotate_left
                    · simp only [Act.put, List.setIfInBounds_toArray, List.set_cons_zero, List.set_cons_succ, i64_w, i32_w]
                      rfl
                    refine pure_ (i := 26) (N := some 42) (v := undef) (a' := ?_) #[true, true, true, true, true, true, true, true, true, true, true, true, true, true, true, true, true, true, true, true, true, true, true, true, true, true, true, false, false, false, false, false, false, false, false, false, false, false, false] rfl rfl (any_of HT_.out (by kernel_rfl)) (fun _ _ _ h => h) (Or.inr ⟨by rfl, rfl⟩) ?_ ?_
                    rotate_left
                    · simp only [Act.put, List.setIfInBounds_toArray, List.set_cons_zero, List.set_cons_succ, i64_w, i32_w]
                      rfl
                    refine pure_ (i := 27) (N := some 43) (v := undef) (a' := ?_) #[true, true, true, true, true, true, true, true, true, true, true, true, true, true, true, true, true, true, true, true, true, true, true, true, true, true, true, true, false, false, false, false, false, false, false, false, false, false, false] rfl rfl (any_of HT_.out (by kernel_rfl)) (fun _ _ _ h => h) (Or.inr ⟨by rfl, rfl⟩) ?_ ?_
                    rotate_left
                    · simp only [Act.put, List.setIfInBounds_toArray, List.set_cons_zero, List.set_cons_succ, i64_w, i32_w]
                      rfl
                    refine pure_ (i := 28) (N := some 44) (v := undef) (a' := ?_) #[true, true, true, true, true, true, true, true, true, true, true, true, true, true, true, true, true, true, true, true, true, true, true, true, true, true, true, true, true, false, false, false, false, false, false, false, false, false, false] rfl rfl (any_of HT_.out (by kernel_rfl)) (fun _ _ _ h => h) (Or.inr ⟨by rfl, rfl⟩) ?_ ?_
                    rotate_left
                    · simp only [Act.put, List.setIfInBounds_toArray, List.set_cons_zero, List.set_cons_succ, i64_w, i32_w]
                      rfl
                    refine pure_ (i := 29) (N := some 45) (v := undef) (a' := ?_) #[true, true, true, true, true, true, true, true, true, true, true, true, true, true, true, true, true, true, true, true, true, true, true, true, true, true, true, true, true, true, false, false, false, false, false, false, false, false, false] rfl rfl (any_of HT_.out (by kernel_rfl)) (fun _ _ _ h => h) (Or.inr ⟨by rfl, rfl⟩) ?_ ?_
                    rotate_left
                    · simp only [Act.put, List.setIfInBounds_toArray, List.set_cons_zero, List.set_cons_succ, i64_w, i32_w]
                      rfl
                    refine pure_ (i := 30) (N := some 46) (v := undef) (a' := ?_) #[true, true, true, true, true, true, true, true, true, true, true, true, true, true, true, true, true, true, true, true, true, true, true, true, true, true, true, true, true, true, true, false, false, false, false, false, false, false, false] rfl rfl (any_of HT_.out (by kernel_rfl)) (fun _ _ _ h => h) (Or.inr ⟨by rfl, rfl⟩) ?_ ?_
                    rotate_left
                    · simp only [Act.put, List.setIfInBounds_toArray, List.set_cons_zero, List.set_cons_succ, i64_w, i32_w]
                      rfl
                    refine pure_ (i := 31) (N := some 47) (v := undef) (a' := ?_) #[true, true, true, true, true, true, true, true, true, true, true, true, true, true, true, true, true, true, true, true, true, true, true, true, true, true, true, true, true, true, true, true, false, false, false, false, false, false, false] rfl rfl (any_of HT_.out (by kernel_rfl)) (fun _ _ _ h => h) (Or.inr ⟨by rfl, rfl⟩) ?_ ?_
                    rotate_left
                    · simp only [Act.put, List.setIfInBounds_toArray, List.set_cons_zero, List.set_cons_succ, i64_w, i32_w]
                      rfl
                    refine pure_ (i := 32) (N := some 48) (v := undef) (a' := ?_) #[true, true, true, true, true, true, true, true, true, true, true, true, true, true, true, true, true, true, true, true, true, true, true, true, true, true, true, true, true, true, true, true, true, false, false, false, false, false, false] rfl rfl (any_of HT_.out (by kernel_rfl)) (fun _ _ _ h => h) (Or.inr ⟨by rfl, rfl⟩) ?_ ?_
                    rotate_left
                    · simp only [Act.put, List.setIfInBounds_toArray, List.set_cons_zero, List.set_cons_succ, i64_w, i32_w]
                      rfl
                    refine pure_ (i := 33) (N := some 49) (v := undef) (a' := ?_) #[true, true, true, true, true, true, true, true, true, true, true, true, true, true, true, true, true, true, true, true, true, true, true, true, true, true, true, true, true, true, true, true, true, true, false, false, false, false, false] rfl rfl (any_of HT_.out (by kernel_rfl)) (fun _ _ _ h => h) (Or.inr ⟨by rfl, rfl⟩) ?_ ?_
                    rotate_left
                    · simp only [Act.put, List.setIfInBounds_toArray, List.set_cons_zero, List.set_cons_succ, i64_w, i32_w]
                      rfl
                    refine pure_ (i := 34) (N := some 50) (v := undef) (a' := ?_) #[true, true, true, true, true, true, true, true, true, true, true, true, true, true, true, true, true, true, true, true, true, true, true, true, true, true, true, true, true, true, true, true, true, true, true, false, false, false, false] rfl rfl (any_of HT_.out (by kernel_rfl)) (fun _ _ _ h => h) (Or.inr ⟨by rfl, rfl⟩) ?_ ?_
                    rotate_left
                    · simp only [Act.put, List.setIfInBounds_toArray, List.set_cons_zero, List.set_cons_succ, i64_w, i32_w]
                      rfl
                    refine pure_ (i := 35) (N := some 51) (v := undef) (a' := ?_) #[true, true, true, true, true, true, true, true, true, true, true, true, true, true, true, true, true, true, true, true, true, true, true, true, true, true, true, true, true, true, true, true, true, true, true, true, false, false, false] rfl rfl (any_of HT_.out (by kernel_rfl)) (fun _ _ _ h => h) (Or.inr ⟨by rfl, rfl⟩) ?_ ?_
                    rotate_left
                    · simp only [Act.put, List.setIfInBounds_toArray, List.set_cons_zero, List.set_cons_succ, i64_w, i32_w]
                      rfl
                    refine pure_ (i := 36) (N := some 52) (v := undef) (a' := ?_) #[true, true, true, true, true, true, true, true, true, true, true, true, true, true, true, true, true, true, true, true, true, true, true, true, true, true, true, true, true, true, true, true, true, true, true, true, true, false, false] rfl rfl (any_of HT_.out (by kernel_rfl)) (fun _ _ _ h => h) (Or.inr ⟨by rfl, rfl⟩) ?_ ?_
                    rotate_left
                    · simp only [Act.put, List.setIfInBounds_toArray, List.set_cons_zero, List.set_cons_succ, i64_w, i32_w]
                      rfl
                    refine pure_ (i := 37) (N := some 53) (v := undef) (a' := ?_) #[true, true, true, true, true, true, true, true, true, true, true, true, true, true, true, true, true, true, true, true, true, true, true, true, true, true, true, true, true, true, true, true, true, true, true, true, true, true, false] rfl rfl (any_of HT_.out (by kernel_rfl)) (fun _ _ _ h => h) (Or.inr ⟨by rfl, rfl⟩) ?_ ?_
                    rotate_left
                    · simp only [Act.put, List.setIfInBounds_toArray, List.set_cons_zero, List.set_cons_succ, i64_w, i32_w]
                      rfl
                    refine pure_ (i := 38) (N := some 54) (v := ?_) (a' := ?_) #[true, true, true, true, true, true, true, true, true, true, true, true, true, true, true, true, true, true, true, true, true, true, true, true, true, true, true, true, true, true, true, true, true, true, true, true, true, true, true] rfl rfl (any_of HT_.out (by kernel_rfl)) (fun _ _ _ h => h) (Or.inl ⟨by rfl, ?_⟩) ?_ ?_
                    rotate_left
                    · intro w'
                      go_simp
                      with_reducible rfl
                    rotate_left
                    · simp only [Act.put, List.setIfInBounds_toArray, List.set_cons_zero, List.set_cons_succ, i64_w, i32_w]
                      rfl
                    refine done_ (done_of HT_.out (by kernel_rfl)) ?_
                    try go_wp2
                    go_ret
                    exact ⟨by first | rfl | (simp [errW_none, errW_some] <;> rfl) | (simp [*, errW_none, errW_some] <;> rfl), by repeat (first | (with_reducible first | exact HB.out | apply below_alloc | apply pw_below_drewN | apply below_drew1) | exact HB.out)⟩
                · rw [if_neg c8] at H
                  have c8b0 : (((rd_T80 l0 x13_1).f0) == ((rd_T80 l1 x13_1).f0)) = false := beq_eq_false_iff_ne.mpr c8
                  have c8b1 : (((rd_T80 l0 x13_1).f0) != ((rd_T80 l1 x13_1).f0)) = true := bne_iff_ne.mpr c8
                  obtain rfl := Option.some.inj H
                  try go_wp2
                  have n0_ := Aside0.mk (below_drew1 HB.out)
                  clear HB
                  have HB := n0_
                  clear n0_
                  have p140 : 0 ≤ (x13_1 : Int) := of_decide_eq_true (by first | (with_reducible assumption) | assumption)
                  have q140 : x13_1 < (l0.length : Int) := of_decide_eq_true (by first | (with_reducible assumption) | assumption)
                  obtain ⟨ad140, A140_1, c140_1, A140_2, c140_2, e140, hx140_0, hx140_1, hx140_2, hl140_1, hi140_1, hl140_2, hi140_2⟩ := at_T80 HR0.out x13_1 p140 q140
                  have hw140_2 := hx140_2
                  have hw140_1 := hx140_1
                  have hw140_0 := hx140_0
                  cases e140
                  replace hx140_0 := (HB.out.cell (World.block_lt_of_cell? w _ hx140_0)).trans hx140_0
                  replace hx140_1 := (HB.out.cell (World.block_lt_of_cell? w _ hx140_1)).trans hx140_1
                  replace hx140_2 := (HB.out.cell (World.block_lt_of_cell? w _ hx140_2)).trans hx140_2
                  have HR140_1 := Aside0.mk hi140_1
                  have HC140_1 := Aside0.mk hl140_1
                  clear hi140_1 hl140_1
                  have HR140_2 := Aside0.mk hi140_2
                  have HC140_2 := Aside0.mk hl140_2
                  clear hi140_2 hl140_2
                  replace p140 := eq_true p140
                  replace q140 := eq_true q140
                  have p141 : 0 ≤ (x13_1 : Int) := of_decide_eq_true (by first | (with_reducible assumption) | assumption)
                  have q141 : x13_1 < (l1.length : Int) := of_decide_eq_true (by first | (with_reducible assumption) | assumption)
                  obtain ⟨ad141, A141_1, c141_1, A141_2, c141_2, e141, hx141_0, hx141_1, hx141_2, hl141_1, hi141_1, hl141_2, hi141_2⟩ := at_T80 HR1.out x13_1 p141 q141
                  have hw141_2 := hx141_2
                  have hw141_1 := hx141_1
                  have hw141_0 := hx141_0
                  cases e141
                  replace hx141_0 := (HB.out.cell (World.block_lt_of_cell? w _ hx141_0)).trans hx141_0
                  replace hx141_1 := (HB.out.cell (World.block_lt_of_cell? w _ hx141_1)).trans hx141_1
                  replace hx141_2 := (HB.out.cell (World.block_lt_of_cell? w _ hx141_2)).trans hx141_2
                  have HR141_1 := Aside0.mk hi141_1
                  have HC141_1 := Aside0.mk hl141_1
                  clear hi141_1 hl141_1
                  have HR141_2 := Aside0.mk hi141_2
                  have HC141_2 := Aside0.mk hl141_2
                  clear hi141_2 hl141_2
                  replace p141 := eq_true p141
                  replace q141 := eq_true q141
                  refine start_ (n := 39) (S := fun w' => w'.cell? (ad140.add ((x13_1).toNat * 3)) = some (.int .i64 ((rd_T80 l0 x13_1).f0)) ∧ w'.cell? ⟨(ad140.add ((x13_1).toNat * 3)).block, (ad140.add ((x13_1).toNat * 3)).off + 1, none⟩ = some (.slice A140_1 ((rd_T80 l0 x13_1).f1).length c140_1) ∧ w'.cell? ⟨(ad140.add ((x13_1).toNat * 3)).block, (ad140.add ((x13_1).toNat * 3)).off + 2, none⟩ = some (.slice A140_2 ((rd_T80 l0 x13_1).f2).length c140_2) ∧ w'.cell? (ad141.add ((x13_1).toNat * 3)) = some (.int .i64 ((rd_T80 l1 x13_1).f0)) ∧ w'.cell? ⟨(ad141.add ((x13_1).toNat * 3)).block, (ad141.add ((x13_1).toNat * 3)).off + 1, none⟩ = some (.slice A141_1 ((rd_T80 l1 x13_1).f1).length c141_1) ∧ w'.cell? ⟨(ad141.add ((x13_1).toNat * 3)).block, (ad141.add ((x13_1).toNat * 3)).off + 2, none⟩ = some (.slice A141_2 ((rd_T80 l1 x13_1).f2).length c141_2)) (ds := []) #[false, false, false, false, false, false, false, false, false, false, false, false, false, false, false, false, false, false, false, false, false, false, false, false, false, false, false, false, false, false, false, false, false, false, false, false, false, false, false] (by kernel_rfl) rfl rfl ⟨((HB.out.cell (World.block_lt_of_cell? w _ hw140_0)).trans hw140_0), ((HB.out.cell (World.block_lt_of_cell? w _ hw140_1)).trans hw140_1), ((HB.out.cell (World.block_lt_of_cell? w _ hw140_2)).trans hw140_2), ((HB.out.cell (World.block_lt_of_cell? w _ hw141_0)).trans hw141_0), ((HB.out.cell (World.block_lt_of_cell? w _ hw141_1)).trans hw141_1), ((HB.out.cell (World.block_lt_of_cell? w _ hw141_2)).trans hw141_2)⟩ (fun hHeld => ?_); refine with_tabW jvmcorelaw3_sameFrames.tab6 jvmcorelaw3_sameFrames.bits6 (fun HT_ HW_ => ?_)
                  generalize wr.drew = w16 at HB HR140_1 HR140_2 HR141_1 HR141_2 hx140_0 hx140_1 hx140_2 hx141_0 hx141_1 hx141_2 hHeld ⊢
                  refine pure_ (i := 0) (N := some 16) (v := ?_) (a' := ?_) #[true, false, false, false, false, false, false, false, false, false, false, false, false, false, false, false, false, false, false, false, false, false, false, false, false, false, false, false, false, false, false, false, false, false, false, false, false, false, false] rfl rfl (any_of HT_.out (by kernel_rfl)) (fun _ _ _ h => h) (Or.inl ⟨by rfl, ?_⟩) ?_ ?_
                  rotate_left
                  · intro w'
                    go_simp
                    with_reducible rfl
                  rotate_left
                  · simp only [Act.put, List.setIfInBounds_toArray, List.set_cons_zero, List.set_cons_succ, i64_w, i32_w]
                    rfl
                  refine pure_ (i := 1) (N := some 17) (v := ?_) (a' := ?_) #[true, true, false, false, false, false, false, false, false, false, false, false, false, false, false, false, false, false, false, false, false, false, false, false, false, false, false, false, false, false, false, false, false, false, false, false, false, false, false] rfl rfl (any_of HT_.out (by kernel_rfl)) (fun _ _ _ h => h) (Or.inl ⟨by rfl, ?_⟩) ?_ ?_
                  rotate_left
                  · intro w'
                    go_simp
                    with_reducible rfl
                  rotate_left
                  · simp only [Act.put, List.setIfInBounds_toArray, List.set_cons_zero, List.set_cons_succ, i64_w, i32_w]
                    rfl
                  refine pure_ (i := 2) (N := some 18) (v := ?_) (a' := ?_) #[true, true, true, false, false, false, false, false, false, false, false, false, false, false, false, false, false, false, false, false, false, false, false, false, false, false, false, false, false, false, false, false, false, false, false, false, false, false, false] rfl rfl (any_of HT_.out (by kernel_rfl)) (fun _ _ _ h => h) (Or.inl ⟨by rfl, ?_⟩) ?_ ?_
                  rotate_left
                  · intro w'
                    go_simp
                    with_reducible rfl
                  rotate_left
                  · simp only [Act.put, List.setIfInBounds_toArray, List.set_cons_zero, List.set_cons_succ, i64_w, i32_w]
                    rfl
                  refine pure_ (i := 3) (N := some 19) (v := ?_) (a' := ?_) #[true, true, true, true, false, false, false, false, false, false, false, false, false, false, false, false, false, false, false, false, false, false, false, false, false, false, false, false, false, false, false, false, false, false, false, false, false, false, false] rfl rfl (any_of HT_.out (by kernel_rfl)) (fun _ _ _ h => h) (Or.inl ⟨by rfl, ?_⟩) ?_ ?_
                  rotate_left
                  · intro w'
                    go_simp
                    with_reducible rfl
                  rotate_left
                  · simp only [Act.put, List.setIfInBounds_toArray, List.set_cons_zero, List.set_cons_succ, i64_w, i32_w]
                    rfl
                  refine pure_ (i := 5) (N := some 21) (v := ?_) (a' := ?_) #[true, true, true, true, false, true, false, false, false, false, false, false, false, false, false, false, false, false, false, false, false, false, false, false, false, false, false, false, false, false, false, false, false, false, false, false, false, false, false] rfl rfl (any_of HT_.out (by kernel_rfl)) (fun _ _ _ h => h) (Or.inl ⟨by rfl, ?_⟩) ?_ ?_
                  rotate_left
                  · intro w'
                    go_simp
                    with_reducible rfl
                  rotate_left
                  · simp only [Act.put, List.setIfInBounds_toArray, List.set_cons_zero, List.set_cons_succ, i64_w, i32_w]
                    rfl
                  refine pure_ (i := 6) (N := some 22) (v := ?_) (a' := ?_) #[true, true, true, true, false, true, true, false, false, false, false, false, false, false, false, false, false, false, false, false, false, false, false, false, false, false, false, false, false, false, false, false, false, false, false, false, false, false, false] rfl rfl (any_of HT_.out (by kernel_rfl)) (fun _ _ _ h => h) (Or.inl ⟨by rfl, ?_⟩) ?_ ?_
                  rotate_left
                  · intro w'
                    go_simp
                    with_reducible rfl
                  rotate_left
                  · simp only [Act.put, List.setIfInBounds_toArray, List.set_cons_zero, List.set_cons_succ, i64_w, i32_w]
                    rfl
                  refine pure_ (i := 7) (N := some 23) (v := ?_) (a' := ?_) #[true, true, true, true, false, true, true, true, false, false, false, false, false, false, false, false, false, false, false, false, false, false, false, false, false, false, false, false, false, false, false, false, false, false, false, false, false, false, false] rfl rfl (any_of HT_.out (by kernel_rfl)) (fun _ _ _ h => h) (Or.inl ⟨by rfl, ?_⟩) ?_ ?_
                  rotate_left
                  · intro w'
                    go_simp
                    with_reducible rfl
                  rotate_left
                  · simp only [Act.put, List.setIfInBounds_toArray, List.set_cons_zero, List.set_cons_succ, i64_w, i32_w]
                    rfl
                  refine pure_ (i := 8) (N := some 24) (v := ?_) (a' := ?_) #[true, true, true, true, false, true, true, true, true, false, false, false, false, false, false, false, false, false, false, false, false, false, false, false, false, false, false, false, false, false, false, false, false, false, false, false, false, false, false] rfl rfl (any_of HT_.out (by kernel_rfl)) (fun _ _ _ h => h) (Or.inl ⟨by rfl, ?_⟩) ?_ ?_
                  rotate_left
                  · intro w'
                    go_simp
                    with_reducible rfl
                  rotate_left
                  · simp only [Act.put, List.setIfInBounds_toArray, List.set_cons_zero, List.set_cons_succ, i64_w, i32_w]
                    rfl
                  refine take_ (i := 4) (N := some 20) (v := ?_) (a' := ?_) #[true, true, true, true, true, true, true, true, true, false, false, false, false, false, false, false, false, false, false, false, false, false, false, false, false, false, false, false, false, false, false, false, false, false, false, false, false, false, false] rfl rfl (take_ofW HT_.out HW_.out (by kernel_rfl)) (fun _ _ _ h => h) (Or.inl ⟨by rfl, ?_⟩) hHeld ?_ ?_
                  rotate_left
                  · rintro w' ⟨s0, s1, s2, s3, s4, s5⟩
                    go_simp
                    with_reducible rfl
                  rotate_left
                  · simp only [Act.put, List.setIfInBounds_toArray, List.set_cons_zero, List.set_cons_succ, i64_w, i32_w]
                    rfl
                  refine take_ (i := 9) (N := some 25) (v := ?_) (a' := ?_) #[true, true, true, true, true, true, true, true, true, true, false, false, false, false, false, false, false, false, false, false, false, false, false, false, false, false, false, false, false, false, false, false, false, false, false, false, false, false, false] rfl rfl (take_ofW HT_.out HW_.out (by kernel_rfl)) (fun _ _ _ h => h) (Or.inl ⟨by rfl, ?_⟩) hHeld ?_ ?_
                  rotate_left
                  · rintro w' ⟨s0, s1, s2, s3, s4, s5⟩
                    go_simp
                    with_reducible rfl
                  rotate_left
                  · simp only [Act.put, List.setIfInBounds_toArray, List.set_cons_zero, List.set_cons_succ, i64_w, i32_w]
                    rfl
                  refine pure_ (i := 10) (N := some 26) (v := ?_) (a' := ?_) #[true, true, true, true, true, true, true, true, true, true, true, false, false, false, false, false, false, false, false, false, false, false, false, false, false, false, false, false, false, false, false, false, false, false, false, false, false, false, false] rfl rfl (any_of HT_.out (by kernel_rfl)) (fun _ _ _ h => h) (Or.inl ⟨by rfl, ?_⟩) ?_ ?_
                  rotate_left
                  · intro w'
                    go_simp
                    with_reducible rfl
                  rotate_left
                  · simp only [Act.put, List.setIfInBounds_toArray, List.set_cons_zero, List.set_cons_succ, i64_w, i32_w]
                    rfl
                  refine pure_ (i := 11) (N := some 27) (v := ?_) (a' := ?_) #[true, true, true, true, true, true, true, true, true, true, true, true, false, false, false, false, false, false, false, false, false, false, false, false, false, false, false, false, false, false, false, false, false, false, false, false, false, false, false] rfl rfl (any_of HT_.out (by kernel_rfl)) (fun _ _ _ h => h) (Or.inl ⟨by rfl, ?_⟩) ?_ ?_
                  rotate_left
                  · intro w'
                    go_simp
                    with_reducible rfl
                  rotate_left
                  · simp only [Act.put, List.setIfInBounds_toArray, List.set_cons_zero, List.set_cons_succ, i64_w, i32_w]
                    rfl
                  refine pure_ (i := 12) (N := some 28) (v := undef) (a' := ?_) #[true, true, true, true, true, true, true, true, true, true, true, true, true, false, false, false, false, false, false, false, false, false, false, false, false, false, false, false, false, false, false, false, false, false, false, false, false, false, false] rfl rfl (any_of HT_.out (by kernel_rfl)) (fun _ _ _ h => h) (Or.inr ⟨by rfl, rfl⟩) ?_ ?_
                  rotate_left
                  · simp only [Act.put, List.setIfInBounds_toArray, List.set_cons_zero, List.set_cons_succ, i64_w, i32_w]
                    rfl
                  refine pure_ (i := 13) (N := some 29) (v := undef) (a' := ?_) #[true, true, true, true, true, true, true, true, true, true, true, true, true, true, false, false, false, false, false, false, false, false, false, false, false, false, false, false, false, false, false, false, false, false, false, false, false, false, false] rfl rfl (any_of HT_.out (by kernel_rfl)) (fun _ _ _ h => h) (Or.inr ⟨by rfl, rfl⟩) ?_ ?_
                  rotate_left
                  · simp only [Act.put, List.setIfInBounds_toArray, List.set_cons_zero, List.set_cons_succ, i64_w, i32_w]
                    rfl
                  refine pure_ (i := 14) (N := some 30) (v := undef) (a' := ?_) #[true, true, true, true, true, true, true, true, true, true, true, true, true, true, true, false, false, false, false, false, false, false, false, false, false, false, false, false, false, false, false, false, false, false, false, false, false, false, false] rfl rfl (any_of HT_.out (by kernel_rfl)) (fun _ _ _ h => h) (Or.inr ⟨by rfl, rfl⟩) ?_ ?_
                  rotate_left
                  · simp only [Act.put, List.setIfInBounds_toArray, List.set_cons_zero, List.set_cons_succ, i64_w, i32_w]
                    rfl
                  refine pure_ (i := 15) (N := some 31) (v := undef) (a' := ?_) #[true, true, true, true, true, true, true, true, true, true, true, true, true, true, true, true, false, false, false, false, false, false, false, false, false, false, false, false, false, false, false, false, false, false, false, false, false, false, false] rfl rfl (any_of HT_.out (by kernel_rfl)) (fun _ _ _ h => h) (Or.inr ⟨by rfl, rfl⟩) ?_ ?_
                  rotate_left
                  · simp only [Act.put, List.setIfInBounds_toArray, List.set_cons_zero, List.set_cons_succ, i64_w, i32_w]
                    rfl
                  refine pure_ (i := 16) (N := some 32) (v := undef) (a' := ?_) #[true, true, true, true, true, true, true, true, true, true, true, true, true, true, true, true, true, false, false, false, false, false, false, false, false, false, false, false, false, false, false, false, false, false, false, false, false, false, false] rfl rfl (any_of HT_.out (by kernel_rfl)) (fun _ _ _ h => h) (Or.inr ⟨by rfl, rfl⟩) ?_ ?_
                  rotate_left
                  · simp only [Act.put, List.setIfInBounds_toArray, List.set_cons_zero, List.set_cons_succ, i64_w, i32_w]
                    rfl
                  refine pure_ (i := 17) (N := some 33) (v := undef) (a' := ?_) #[true, true, true, true, true, true, true, true, true, true, true, true, true, true, true, true, true, true, false, false, false, false, false, false, false, false, false, false, false, false, false, false, false, false, false, false, false, false, false] rfl rfl (any_of HT_.out (by kernel_rfl)) (fun _ _ _ h => h) (Or.inr ⟨by rfl, rfl⟩) ?_ ?_
                  rotate_left
                  · simp only [Act.put, List.setIfInBounds_toArray, List.set_cons_zero, List.set_cons_succ, i64_w, i32_w]
                    rfl
                  refine pure_ (i := 18) (N := some 34) (v := undef) (a' := ?_) #[true, true, true, true, true, true, true, true, true, true, true, true, true, true, true, true, true, true, true, false, false, false, false, false, false, false, false, false, false, false, false, false, false, false, false, false, false, false, false] rfl rfl (any_of HT_.out (by kernel_rfl)) (fun _ _ _ h => h) (Or.inr ⟨by rfl, rfl⟩) ?_ ?_
                  rotate_left
                  · simp only [Act.put, List.setIfInBounds_toArray, List.set_cons_zero, List.set_cons_succ, i64_w, i32_w]
                    rfl
                  refine pure_ (i := 19) (N := some 35) (v := undef) (a' := ?_) #[true, true, true, true, true, true, true, true, true, true, true, true, true, true, true, true, true, true, true, true, false, false, false, false, false, false, false, false, false, false, false, false, false, false, false, false, false, false, false] rfl rfl (any_of HT_.out (by kernel_rfl)) (fun _ _ _ h => h) (Or.inr ⟨by rfl, rfl⟩) ?_ ?_
                  rotate_left
                  · simp only [Act.put, List.setIfInBounds_toArray, List.set_cons_zero, List.set_cons_succ, i64_w, i32_w]
                    rfl
                  refine pure_ (i := 20) (N := some 36) (v := undef) (a' := ?_) #[true, true, true, true, true, true, true, true, true, true, true, true, true, true, true, true, true, true, true, true, true, false, false, false, false, false, false, false, false, false, false, false, false, false, false, false, false, false, false] rfl rfl (any_of HT_.out (by kernel_rfl)) (fun _ _ _ h => h) (Or.inr ⟨by rfl, rfl⟩) ?_ ?_
                  rotate_left
                  · simp only [Act.put, List.setIfInBounds_toArray, List.set_cons_zero, List.set_cons_succ, i64_w, i32_w]
                    rfl
                  refine pure_ (i := 21) (N := some 37) (v := undef) (a' := ?_) #[true, true, true, true, true, true, true, true, true, true, true, true, true, true, true, true, true, true, true, true, true, true, false, false, false, false, false, false, false, false, false, false, false, false, false, false, false, false, false] rfl rfl (any_of HT_.out (by kernel_rfl)) (fun _ _ _ h => h) (Or.inr ⟨by rfl, rfl⟩) ?_ ?_
                  rotate_left
                  · simp only [Act.put, List.setIfInBounds_toArray, List.set_cons_zero, List.set_cons_succ, i64_w, i32_w]
                    rfl
                  refine pure_ (i := 22) (N := some 38) (v := undef) (a' := ?_) #[true, true, true, true, true, true, true, true, true, true, true, true, true, true, true, true, true, true, true, true, true, true, true, false, false, false, false, false, false, false, false, false, false, false, false, false, false, false, false] rfl rfl (any_of HT_.out (by kernel_rfl)) (fun _ _ _ h => h) (Or.inr ⟨by rfl, rfl⟩) ?_ ?_
                  rotate_left
                  · simp only [Act.put, List.setIfInBounds_toArray, List.set_cons_zero, List.set_cons_succ, i64_w, i32_w]
                    rfl
                  refine pure_ (i := 23) (N := some 39) (v := undef) (a' := ?_) #[true, true, true, true, true, true, true, true, true, true, true, true, true, true, true, true, true, true, true, true, true, true, true, true, false, false, false, false, false, false, false, false, false, false, false, false, false, false, false] rfl rfl (any_of HT_.out (by kernel_rfl)) (fun _ _ _ h => h) (Or.inr ⟨by rfl, rfl⟩) ?_ ?_
                  rotate_left
                  · simp only [Act.put, List.setIfInBounds_toArray, List.set_cons_zero, List.set_cons_succ, i64_w, i32_w]
                    rfl
                  refine pure_ (i := 24) (N := some 40) (v := ?_) (a' := ?_) #[true, true, true, true, true, true, true, true, true, true, true, true, true, true, true, true, true, true, true, true, true, true, true, true, true, false, false, false, false, false, false, false, false, false, false, false, false, false, false] rfl rfl (any_of HT_.out (by kernel_rfl)) (fun _ _ _ h => h) (Or.inl ⟨by rfl, ?_⟩) ?_ ?_
                  rotate_left
                  · intro w'
                    go_simp
                    with_reducible rfl
                  rotate_left
                  · simp only [Act.put, List.setIfInBounds_toArray, List.set_cons_zero, List.set_cons_succ, i64_w, i32_w]
                    rfl
                  refine pure_ (i := 25) (N := some 41) (v := ?_) (a' := ?_) #[true, true, true, true, true, true, true, true, true, true, true, true, true, true, true, true, true, true, true, true, true, true, true, true, true, true, false, false, false, false, false, false, false, false, false, false, false, false, false] rfl rfl (any_of HT_.out (by kernel_rfl)) (fun _ _ _ h => h) (Or.inl ⟨by rfl, ?_⟩) ?_ ?_
                  rotate_left
                  · intro w'
                    go_simp
                    with_reducible rfl
                  rotate_left
                  · simp only [Act.put, List.setIfInBounds_toArray, List.set_cons_zero, List.set_cons_succ, i64_w, i32_w]
                    rfl
                  refine pure_ (i := 26) (N := some 42) (v := undef) (a' := ?_) #[true, true, true, true, true, true, true, true, true, true, true, true, true, true, true, true, true, true, true, true, true, true, true, true, true, true, true, false, false, false, false, false, false, false, false, false, false, false, false] rfl rfl (any_of HT_.out (by kernel_rfl)) (fun _ _ _ h => h) (Or.inr ⟨by rfl, rfl⟩) ?_ ?_
                  rotate_left
                  · simp only [Act.put, List.setIfInBounds_toArray, List.set_cons_zero, List.set_cons_succ, i64_w, i32_w]
                    rfl
                  refine pure_ (i := 27) (N := some 43) (v := undef) (a' := ?_) #[true, true, true, true, true, true, true, true, true, true, true, true, true, true, true, true, true, true, true, true, true, true, true, true, true, true, true, true, false, false, false, false, false, false, false, false, false, false, false] rfl rfl (any_of HT_.out (by kernel_rfl)) (fun _ _ _ h => h) (Or.inr ⟨by rfl, rfl⟩) ?_ ?_
                  rotate_left
                  · simp only [Act.put, List.setIfInBounds_toArray, List.set_cons_zero, List.set_cons_succ, i64_w, i32_w]
                    rfl
                  refine pure_ (i := 28) (N := some 44) (v := undef) (a' := ?_) #[true, true, true, true, true, true, true, true, true, true, true, true, true, true, true, true, true, true, true, true, true, true, true, true, true, true, true, true, true, false, false, false, false, false, false, false, false, false, false] rfl rfl (any_of HT_.out (by kernel_rfl)) (fun _ _ _ h => h) (Or.inr ⟨by rfl, rfl⟩) ?_ ?_
                  rotate_left
                  · simp only [Act.put, List.setIfInBounds_toArray, List.set_cons_zero, List.set_cons_succ, i64_w, i32_w]
                    rfl
                  refine pure_ (i := 29) (N := some 45) (v := undef) (a' := ?_) #[true, true, true, true, true, true, true, true, true, true, true, true, true, true, true, true, true, true, true, true, true, true, true, true, true, true, true, true, true, true, false, false, false, false, false, false, false, false, false] rfl rfl (any_of HT_.out (by kernel_rfl)) (fun _ _ _ h => h) (Or.inr ⟨by rfl, rfl⟩) ?_ ?_
                  rotate_left
                  · simp only [Act.put, List.setIfInBounds_toArray, List.set_cons_zero, List.set_cons_succ, i64_w, i32_w]
                    rfl
                  refine pure_ (i := 30) (N := some 46) (v := undef) (a' := ?_) #[true, true, true, true, true, true, true, true, true, true, true, true, true, true, true, true, true, true, true, true, true, true, true, true, true, true, true, true, true, true, true, false, false, false, false, false, false, false, false] rfl rfl (any_of HT_.out (by kernel_rfl)) (fun _ _ _ h => h) (Or.inr ⟨by rfl, rfl⟩) ?_ ?_
                  rotate_left
                  · simp only [Act.put, List.setIfInBounds_toArray, List.set_cons_zero, List.set_cons_succ, i64_w, i32_w]
                    rfl
                  refine pure_ (i := 31) (N := some 47) (v := undef) (a' := ?_) #[true, true, true, true, true, true, true, true, true, true, true, true, true, true, true, true, true, true, true, true, true, true, true, true, true, true, true, true, true, true, true, true, false, false, false, false, false, false, false] rfl rfl (any_of HT_.out (by kernel_rfl)) (fun _ _ _ h => h) (Or.inr ⟨by rfl, rfl⟩) ?_ ?_
                  rotate_left
                  · simp only [Act.put, List.setIfInBounds_toArray, List.set_cons_zero, List.set_cons_succ, i64_w, i32_w]
                    rfl
                  refine pure_ (i := 32) (N := some 48) (v := undef) (a' := ?_) #[true, true, true, true, true, true, true, true, true, true, true, true, true, true, true, true, true, true, true, true, true, true, true, true, true, true, true, true, true, true, true, true, true, false, false, false, false, false, false] rfl rfl (any_of HT_.out (by kernel_rfl)) (fun _ _ _ h => h) (Or.inr ⟨by rfl, rfl⟩) ?_ ?_
                  rotate_left
                  · simp only [Act.put, List.setIfInBounds_toArray, List.set_cons_zero, List.set_cons_succ, i64_w, i32_w]
                    rfl
                  refine pure_ (i := 33) (N := some 49) (v := undef) (a' := ?_) #[true, true, true, true, true, true, true, true, true, true, true, true, true, true, true, true, true, true, true, true, true, true, true, true, true, true, true, true, true, true, true, true, true, true, false, false, false, false, false] rfl rfl (any_of HT_.out (by kernel_rfl)) (fun _ _ _ h => h) (Or.inr ⟨by rfl, rfl⟩) ?_ ?_
                  rotate_left
                  · simp only [Act.put, List.setIfInBounds_toArray, List.set_cons_zero, List.set_cons_succ, i64_w, i32_w]
                    rfl
                  refine pure_ (i := 34) (N := some 50) (v := undef) (a' := ?_) #[true, true, true, true, true, true, true, true, true, true, true, true, true, true, true, true, true, true, true, true, true, true, true, true, true, true, true, true, true, true, true, true, true, true, true, false, false, false, false] rfl rfl (any_of HT_.out (by kernel_rfl)) (fun _ _ _ h => h) (Or.inr ⟨by rfl, rfl⟩) ?_ ?_
                  rotate_left
                  · simp only [Act.put, List.setIfInBounds_toArray, List.set_cons_zero, List.set_cons_succ, i64_w, i32_w]
                    rfl
                  refine pure_ (i := 35) (N := some 51) (v := undef) (a' := ?_) #[true, true, true, true, true, true, true, true, true, true, true, true, true, true, true, true, true, true, true, true, true, true, true, true, true, true, true, true, true, true, true, true, true, true, true, true, false, false, false] rfl rfl (any_of HT_.out (by kernel_rfl)) (fun _ _ _ h => h) (Or.inr ⟨by rfl, rfl⟩) ?_ ?_
                  rotate_left
                  · simp only [Act.put, List.setIfInBounds_toArray, List.set_cons_zero, List.set_cons_succ, i64_w, i32_w]
                    rfl
                  refine pure_ (i := 36) (N := some 52) (v := undef) (a' := ?_) #[true, true, true, true, true, true, true, true, true, true, true, true, true, true, true, true, true, true, true, true, true, true, true, true, true, true, true, true, true, true, true, true, true, true, true, true, true, false, false] rfl rfl (any_of HT_.out (by kernel_rfl)) (fun _ _ _ h => h) (Or.inr ⟨by rfl, rfl⟩) ?_ ?_
                  rotate_left
                  · simp only [Act.put, List.setIfInBounds_toArray, List.set_cons_zero, List.set_cons_succ, i64_w, i32_w]
                    rfl
                  refine pure_ (i := 37) (N := some 53) (v := undef) (a' := ?_) #[true, true, true, true, true, true, true, true, true, true, true, true, true, true, true, true, true, true, true, true, true, true, true, true, true, true, true, true, true, true, true, true, true, true, true, true, true, true, false] rfl rfl (any_of HT_.out (by kernel_rfl)) (fun _ _ _ h => h) (Or.inr ⟨by rfl, rfl⟩) ?_ ?_
                  rotate_left
                  · simp only [Act.put, List.setIfInBounds_toArray, List.set_cons_zero, List.set_cons_succ, i64_w, i32_w]
                    rfl
                  refine pure_ (i := 38) (N := some 54) (v := ?_) (a' := ?_) #[true, true, true, true, true, true, true, true, true, true, true, true, true, true, true, true, true, true, true, true, true, true, true, true, true, true, true, true, true, true, true, true, true, true, true, true, true, true, true] rfl rfl (any_of HT_.out (by kernel_rfl)) (fun _ _ _ h => h) (Or.inl ⟨by rfl, ?_⟩) ?_ ?_
                  rotate_left
                  · intro w'
                    go_simp
                    with_reducible rfl
                  rotate_left
                  · simp only [Act.put, List.setIfInBounds_toArray, List.set_cons_zero, List.set_cons_succ, i64_w, i32_w]
                    rfl
                  refine done_ (done_of HT_.out (by kernel_rfl)) ?_
                  try go_wp2
                  go_ret
                  exact ⟨by first | rfl | (simp [errW_none, errW_some] <;> rfl) | (simp [*, errW_none, errW_some] <;> rfl), by repeat (first | (with_reducible first | exact HB.out | apply below_alloc | apply pw_below_drewN | apply below_drew1) | exact HB.out)⟩
              · rw [if_neg c7] at H
                exact absurd H (by simp)
            · rw [if_neg c6] at H
              exact absurd H (by simp)
          · rw [if_neg c5] at H
            exact absurd H (by simp)
        · rw [if_neg c4] at H
          have c4b0 : decide (x13_1 < (l0.length : Int)) = false := decide_eq_false c4
          clear c4
          obtain rfl := Option.some.inj H
          go_wp2
          go_ret
          exact ⟨by first | rfl | (simp [errW_none, errW_some] <;> rfl) | (simp [*, errW_none, errW_some] <;> rfl), by repeat (first | (with_reducible first | exact HB.out | apply below_alloc | apply pw_below_drewN | apply below_drew1) | exact HB.out)⟩
  · rw [if_neg c3] at H
    have c3b0 : ((l0.length : Int) == (l1.length : Int)) = false := beq_eq_false_iff_ne.mpr c3
    have c3b1 : ((l0.length : Int) != (l1.length : Int)) = true := bne_iff_ne.mpr c3
    have c3b2 : (l0.length == l1.length) = false := by first | simpa using c3 | (simp at c3 ⊢; omega)
    obtain rfl := Option.some.inj H
    go_enter Try.func29, Try.ntmps29
    go_wp2
    go_ret
    exact ⟨by first | rfl | (simp [errW_none, errW_some] <;> rfl) | (simp [*, errW_none, errW_some] <;> rfl), by repeat (first | (with_reducible first | exact HB.out | apply below_alloc | apply pw_below_drewN | apply below_drew1) | exact HB.out)⟩
end Go.Proofs.Ytfnjbmpolggdeaa.MD
end
section
namespace Go.Proofs.Ytfnjbmpolggdeaa.MD
open Go.RowKit Go.Lib Go.Proofs.YtfnjbmpolggdeaaW.PrintWords Go.Proofs.YtfnjbmpolggdeaaW.PrintLast Go.Proofs.YtfnjbmpolggdeaaW.PrintMore
set_option linter.unusedVariables false
set_option linter.unusedSimpArgs false
theorem valD_len {s : ByteArray} {p : List S37} : ∀ (n : Nat) (l : List S54) (t : RdS), (valD s p n l t).1.length ≤ l.length + n
  | 0, l, t => Nat.le_refl _
  | n + 1, l, t => by
    unfold valD
    split
    · exact Nat.le_add_right _ _
    · have := valD_len n (l ++ [(stepV s p t).1]) (stepV s p t).2 (p := p) (s := s)
      rw [List.length_append, List.length_singleton] at this
      omega
theorem oneM_len (s : ByteArray) (p : List S37) (l : List S54) (t : RdS) : ((oneM s p l t).l1.length ≤ l.length + 4 ∨ (oneM s p l t).l1.length ≤ 65536) ∧ (oneM s p l t).l2.length ≤ 65536 := by
  have hv : ∀ (n : Nat) (t : RdS), (valD s p n [] t).1.length ≤ n := fun n t => by
    have := valD_len n [] t (s := s) (p := p)
    rw [List.length_nil] at this
    omega
  have hn : ∀ t : RdS, (valD s p (numR s t 2).1.toNat [] (numR s t 2).2).1.length ≤ 65536 := fun t => by
    have h1 := hv (numR s t 2).1.toNat (numR s t 2).2
    have h2 := num2_lt s t
    omega
  have h1 : ∀ t : RdS, (valD s p 1 [] t).1.length ≤ 65536 := fun t => by have := hv 1 t; omega
  have h0 : ([] : List S54).length ≤ 65536 := by decide
  unfold oneM
  split
  · exact ⟨.inl (Nat.le_add_right _ _), h0⟩
  · split
    · exact ⟨.inl (Nat.le_add_right _ _), h1 _⟩
    · split
      · exact ⟨.inl (Nat.le_add_right _ _), h0⟩
      · split
        · exact ⟨.inl (Nat.le_add_right _ _), h1 _⟩
        · split
          · split
            · exact ⟨.inl (Nat.le_add_right _ _), h0⟩
            · exact ⟨.inl (by show (l.take _).length ≤ _; rw [List.length_take]; omega), h0⟩
          · split
            · next h255 => exact ⟨.inl (by
                show (l ++ _).length ≤ _
                have := hv ((numR s t 1).1 - 251).toNat (numR s (numR s t 1).2 2).2
                rw [List.length_append]
                omega), h0⟩
            · exact ⟨.inr (hn _), hn _⟩
theorem frm_small {s : ByteArray} {p : List S37} : ∀ (n : Nat) (L : List S80) (l : List S54) (pl : Int) (t : RdS), (∀ f ∈ L, f.f1.length ≤ 400000 ∧ f.f2.length ≤ 400000) → l.length + 4 * n ≤ 400000 → 65536 + 4 * n ≤ 400000 →
    (frmD s p n L l pl t).1.length ≤ L.length + n ∧ ∀ f ∈ (frmD s p n L l pl t).1, f.f1.length ≤ 400000 ∧ f.f2.length ≤ 400000
  | 0, L, l, pl, t, h, _, _ => ⟨Nat.le_refl _, h⟩
  | n + 1, L, l, pl, t, h, h1, h2 => by
    unfold frmD
    split
    · exact ⟨Nat.le_add_right _ _, h⟩
    · obtain ⟨a, b⟩ := oneM_len s p l t
      have h3 := frm_small n (L ++ [⟨pl + ((oneM s p l t).d + 1), (oneM s p l t).l1, (oneM s p l t).l2⟩]) (oneM s p l t).l1 (pl + ((oneM s p l t).d + 1)) (oneM s p l t).t (s := s) (p := p) (fun f hf => by
        rcases List.mem_append.1 hf with hf | hf
        · exact h f hf
        · rw [List.mem_singleton.1 hf]
          exact ⟨by show (oneM s p l t).l1.length ≤ _; omega, by show (oneM s p l t).l2.length ≤ _; omega⟩) (by omega) (by omega)
      rw [List.length_append, List.length_singleton] at h3
      exact ⟨by omega, h3.2⟩
theorem readD_small {s : ByteArray} {p : List S37} {first : List S54} (hf : first.length ≤ 65536) {L : List S80} {e q : Int} (h : readD s p first = (L, e, q)) : L.length ≤ 65535 ∧ ∀ f ∈ L, f.f1.length ≤ 400000 ∧ f.f2.length ≤ 400000 := by
  have hn := num2_lt s (0, 0, 0)
  have h1 := frm_small (s := s) (p := p) (numR s (0, 0, 0) 2).1.toNat [] first (-1) (numR s (0, 0, 0) 2).2 (fun f hf => absurd hf (by simp)) (by omega) (by omega)
  rw [List.length_nil] at h1
  have h0 : ([] : List S80).length ≤ 65535 ∧ ∀ f ∈ ([] : List S80), f.f1.length ≤ 400000 ∧ f.f2.length ≤ 400000 := ⟨by decide, fun f hf => absurd hf (by simp)⟩
  have key : (readD s p first).1.length ≤ 65535 ∧ ∀ f ∈ (readD s p first).1, f.f1.length ≤ 400000 ∧ f.f2.length ≤ 400000 := by
    unfold readD finR
    split
    · split
      · exact h0
      · exact ⟨by show (frmD _ _ _ _ _ _ _).1.length ≤ _; omega, h1.2⟩
    · split
      · exact h0
      · exact ⟨by show (frmD _ _ _ _ _ _ _).1.length ≤ _; omega, h1.2⟩
  rw [h] at key
  exact key
theorem wrS {i : Nat} (h : i ≤ 140737488355328) : wrap64 ((i : Int) + 1) = ((i + 1 : Nat) : Int) := by unfold wrap64; omega
theorem rdFr_at {xs : List S80} {k : Nat} (h : k < xs.length) : rd_T80 xs (k : Int) = xs[k] := by
  unfold rd_T80
  rw [Int.toNat_natCast, List.getD_eq_getElem?_getD, List.getElem?_eq_getElem h]; rfl
theorem st_l (a : List S54) (hl : a.length ≤ 140737488355328) : ∀ r i k : Nat, i + r = a.length → r + 1 ≤ k → jvmcorelaw3_sameTypes.l0 k a a (a.length : Int) (i : Int) = some true
  | 0, i, k + 1, hi, hk => by rw [jvmcorelaw3_sameTypes.l0, if_neg (by omega)]
  | r + 1, i, k + 1, hi, hk => by
    rw [jvmcorelaw3_sameTypes.l0, if_pos (by omega), if_pos (by omega), if_pos (by omega), if_pos (by omega), if_neg (by simp), wrS (by omega)]
    exact st_l a hl r (i + 1) k (by omega) (by omega)
theorem st_refl (a : List S54) (hl : a.length ≤ 140737488355328) (k : Nat) (hk : a.length + 1 ≤ k) : jvmcorelaw3_sameTypes.f k a a = some true := by
  unfold jvmcorelaw3_sameTypes.f
  rw [if_pos rfl]
  exact st_l a hl a.length 0 k (by omega) hk
theorem sf_l (l0 : List S80) (hl : l0.length ≤ 65535) (hf : ∀ f ∈ l0, f.f1.length ≤ 400000 ∧ f.f2.length ≤ 400000) : ∀ r i k : Nat, i + r = l0.length → r + 400010 ≤ k → jvmcorelaw3_sameFrames.l0 k l0 l0 (l0.length : Int) (i : Int) = some true
  | 0, i, 0, hi, hk => absurd hk (by omega)
  | r + 1, i, 0, hi, hk => absurd hk (by omega)
  | 0, i, k + 1, hi, hk => by rw [jvmcorelaw3_sameFrames.l0, if_neg (by omega)]
  | r + 1, i, k + 1, hi, hk => by
    have hlt : i < l0.length := by omega
    obtain ⟨h1, h2⟩ := hf _ (List.getElem_mem hlt)
    rw [jvmcorelaw3_sameFrames.l0, if_pos (by omega), if_pos (by omega), if_pos (by omega), if_pos (by omega), if_pos rfl, rdFr_at hlt, st_refl _ (by omega) k (by omega), Option.bind_some, if_pos rfl, st_refl _ (by omega) k (by omega), Option.bind_some, if_pos rfl, wrS (by omega)]
    exact sf_l l0 hl hf r (i + 1) k (by omega) (by omega)
theorem sf_refl (l0 : List S80) (hl : l0.length ≤ 65535) (hf : ∀ f ∈ l0, f.f1.length ≤ 400000 ∧ f.f2.length ≤ 400000) : jvmcorelaw3_sameFrames.f 1000000 l0 l0 = some true := by
  unfold jvmcorelaw3_sameFrames.f
  rw [if_pos rfl]
  exact sf_l l0 hl hf l0.length 0 1000000 (by omega) (by omega)
namespace JS
variable {W0 W W1 : World} {first : List S54} {v : Value} {b : Nat}
end JS
theorem read_any (a0 : ByteArray) (A1 : Option Addr) (c1 : Nat) (p : List S37) (A2 : Option Addr) (c2 : Nat) (first : List S54) (w : World) (L : List S80) (e q : Int) (hD : readD a0 p first = (L, e, q)) (hs : a0.size ≤ 65535) (hfl : first.length ≤ 65536)
    (hr1 : ∀ W_ g, w.heap.size ≤ g → KeepBut w W_ g none → Kd.C k37 W_ A1 p.length p) (hc1 : p.length ≤ c1) (hr2 : ∀ W_ g, w.heap.size ≤ g → KeepBut w W_ g none → Kd.C k54 W_ A2 first.length first) (hc2 : first.length ≤ c2) (hp : ∀ c ∈ p, okC39 c) :
    Calls Try.prog 34 #[.string a0, .slice A1 p.length c1, .slice A2 first.length c2] w fun e' w' => ∃ v0_, e' = .returned (.tuple #[v0_, .int .i64 e, .int .i64 q]) ∧ Kd.S kF 80 w' w.heap.size (fun _ => True) v0_ L ∧ Below w.heap.size w w' := by
  have h := maps_Read.full a0 A1 c1 p A2 c2 first w hs hfl hr1 hc1 hr2 hc2 hp
  rw [hD] at h
  exact h
end Go.Proofs.Ytfnjbmpolggdeaa.MD
end
section
namespace Go.Proofs.Ytfnjbmpolggdeaa
open Go.RowKit Go.Lib Go.Proofs.YtfnjbmpolggdeaaW.PrintWords
set_option linter.unusedVariables false
set_option linter.unusedSimpArgs false
theorem mrow.step {w w' : World} {base e n} {v : Value} {xs : List Value} (h : mrow w base e v n xs) (hm : ∀ k, v.ownBlock = some k → w'.heap[k]? = w.heap[k]?) : mrow w' base e v n xs := by
  refine ⟨h.1, ?_⟩
  rcases h.2 with h2 | ⟨g, cap, cur, fr, hv, hbg, hg, r⟩
  · exact .inl h2
  · exact .inr ⟨g, cap, cur, fr, hv, hbg, (hm g (by rw [hv]; rfl)).trans hg, r⟩
theorem mrow.typed {w : World} {base e n} {v : Value} {xs : List Value} (h : mrow w base e v n xs) : ∀ k, v.ownBlock = some k → ∃ cur fr, w.heap[k]? = some (.cells cur e fr) := by
  intro k hk
  rcases h.2 with ⟨rfl, _⟩ | ⟨g, cap, cur, fr, rfl, hb, hg, _⟩
  · simp [Value.ownBlock] at hk
  · simp [Value.ownBlock] at hk
    subst hk
    exact ⟨cur, fr, hg⟩
theorem str_step {P : Program} {ops : Array Oper} {o : Oper} {a : Act} {Q : Exit → Act → World → Prop} {K : Act → World → Prop} {w : World} (hw : Region.wanted o (yielded ops a.tmps) = true) (s x : Operand) (t u : TypeId)
    (ho : o.op = .call { callee := .builtin .append, args := #[s, x], argTypes := #[t, u] })
    (e : TypeId) (ht : P.underlying t = some (.slice e)) (hu : P.underlying u = some .string) (hI : (P.info? e).map (fun i => (i.zero, i.size, i.bytes)) = some (some (.int .u8 0), 1, 1))
    (base : Nat) {v : Value} {n : Nat} {xs : List Value} (hown : mrow w base e v n xs) (hs : a.eval s = v)
    (str : ByteArray) (hx : a.eval x = .string str) (hn : n + str.size ≤ 140737488355328) (hbase : base ≤ w.heap.size)
    (h : ∀ v' w', mrow w' base e v' (n + str.size) (xs ++ u8s (bs str)) → w.grownBy w' v.ownBlock → (v'.ownBlock = v.ownBlock ∨ v'.ownBlock = some w.heap.size) → K (a.put o.dst v') w') :
    if Region.wanted o (yielded ops a.tmps) = true then Oper.wp P o a w K Q else K (a.put o.dst undef) w := by
  obtain ⟨i, hi, hz, hsize, hby⟩ := info_parts hI
  obtain ⟨v', w', hr, h2, hg, h4⟩ := run_append_mrow_str (P := P) base t u o.type e i ht hu hi hz hsize hby v n xs hown str (by unfold maxLen; omega) hn hbase
  rw [strCells_bs] at h2
  rw [if_pos hw]
  unfold Oper.wp execOp
  simp only [ho, resolve, invoke, builtin, Sem.run_bind, Sem.run_pure, Result.andThen_ok, List.map_toArray, List.map_cons, List.map_nil, hs, hx, hr]
  exact h v' w' h2 hg h4
def BW (base : Nat) (W : World) (g : Nat) (T : TypeId) (cells : Value → Array Value) (v : Value) (l : List Nat) : Prop :=
  W.heap[g]? = some (.cells (cells v) T (0, 0)) ∧ base ≤ g ∧ mrow W base 5 v l.length (u8s l)
def BS (w : World) (g : Nat) (v : Value) (w' : World) (v' : Value) : Prop :=
  Kept w w' (fun k => k = g ∨ v.ownBlock = some k) ∧ (v'.ownBlock = v.ownBlock ∨ ∃ b, v'.ownBlock = some b ∧ w.heap.size ≤ b)
theorem BS.refl (w : World) (g : Nat) (v : Value) : BS w g v w v := ⟨Kept.refl _ _, .inl rfl⟩
theorem BS.trans {w w1 w2 : World} {g : Nat} {v v1 v2 : Value} (h : BS w g v w1 v1) (k : BS w1 g v1 w2 v2) : BS w g v w2 v2 := by
  refine ⟨h.1.then_ k.1 (fun q hq => ?_), ?_⟩
  · rcases hq with rfl | hq
    · exact .inl (.inl rfl)
    · rcases h.2 with h2 | ⟨b, hb, hbs⟩
      · exact .inl (.inr (h2 ▸ hq))
      · rw [hb] at hq; injection hq with hq; exact .inr (by omega)
  · rcases k.2 with k2 | ⟨b, hb, hbs⟩
    · rcases h.2 with h2 | h2
      · exact .inl (k2.trans h2)
      · rw [k2]; exact .inr h2
    · exact .inr ⟨b, hb, Nat.le_trans h.1.1 hbs⟩
theorem BS.below {w w1 : World} {g : Nat} {v : Value} (hb : Below w.heap.size w w1) : BS w g v w1 v := ⟨Kept.of_below hb _, .inl rfl⟩
theorem BS.blk {w w' : World} {g k : Nat} {v v' : Value} {o : Obj} (h : BS w g v w' v') (hk : w.heap[k]? = some o) (h1 : k ≠ g) (h2 : v.ownBlock ≠ some k) : w'.heap[k]? = some o :=
  blk_kept hk h.1 (fun hh => hh.elim h1 h2)
theorem BS.cell {w w' : World} {g : Nat} {v v' u : Value} {a : Addr} (h : BS w g v w' v') (hc : w.cell? a = some u) (h1 : a.block ≠ g) (h2 : v.ownBlock ≠ some a.block) : w'.cell? a = some u :=
  cell_kept hc h.1 (fun hh => hh.elim h1 h2)
section
variable {base : Nat} {W W1 : World} {g : Nat} {T : TypeId} {cells : Value → Array Value} {v : Value} {l : List Nat}
theorem BW.ne (h : BW base W g T cells v l) (hT : T ≠ 5) : v.ownBlock ≠ some g := fun he => by
  obtain ⟨cur, fr, hc⟩ := h.2.2.typed g he
  rw [h.1] at hc
  injection hc with hc
  injection hc with _ ht
  exact hT ht
theorem BW.below (h : BW base W g T cells v l) (hb : Below W.heap.size W W1) : BW base W1 g T cells v l :=
  ⟨(hb.block g (blk_lt h.1)).trans h.1, h.2.1, h.2.2.below hb⟩
theorem BW.lt (h : BW base W g T cells v l) : g < W.heap.size := blk_lt h.1
theorem BW.ge (h : BW base W g T cells v l) : ∀ k, v.ownBlock = some k → base ≤ k := fun k hk => (h.2.2.ge k hk).1
theorem BW.old (h : BW base W g T cells v l) {k : Nat} (hk : k < base) : k ≠ g ∧ v.ownBlock ≠ some k :=
  ⟨fun e => by have := h.2.1; omega, fun e => by have := h.ge k e; omega⟩
theorem BW.put (h : BW base W g T cells v l) (hT : T ≠ 5) {v1 : Value} {l1 : List Nat} (hg : W.grownBy W1 v.ownBlock) (hm : mrow W1 base 5 v1 l1.length (u8s l1)) (hat : v1.ownBlock = v.ownBlock ∨ ∃ b, v1.ownBlock = some b ∧ W.heap.size ≤ b) (hc : ∀ u, (cells u).size = (cells v).size ∧ ((cells v).setIfInBounds 0 u) = cells u) :
    BW base (W1.setCell ⟨g, 0, none⟩ v1) g T cells v1 l1 ∧ BS W g v (W1.setCell ⟨g, 0, none⟩ v1) v1 := by
  have hgg : W1.heap[g]? = some (.cells (cells v) T (0, 0)) := (hg.block g (blk_lt h.1) (fun e => h.ne hT e.symm)).trans h.1
  have hne : v1.ownBlock ≠ some g := by
    rcases hat with e | ⟨b, e, hb⟩
    · rw [e]; exact h.ne hT
    · rw [e]; intro he; injection he with he; have := blk_lt h.1; omega
  refine ⟨⟨?_, h.2.1, hm.step (fun k hk => Below.heap_setCell W1 _ v1 k (fun e => hne (by rw [hk]; exact congrArg some e)))⟩, ?_, hat⟩
  · have := blk_set hgg 0 v1
    rw [this, (hc v1).2]
  · exact ((Kept.refl W _).of_grown hg (fun k hk => .inl (.inr hk))).setCell (.inl (.inl rfl)) v1
end
end Go.Proofs.Ytfnjbmpolggdeaa
end
section
namespace Go.Proofs.Ytfnjbmpolggdeaa
open Go.RowKit Go.Lib Go.Proofs.YtfnjbmpolggdeaaW.PrintWords
set_option linter.unusedVariables false
set_option linter.unusedSimpArgs false
def mwC (A : Option Addr) (n c : Nat) (e : Int) (v : Value) : Array Value := #[v, .slice A n c, .int .i64 e]
def U64 (x : Int) : Nat := (IntKind.u64.wrap x).toNat
theorem u64_nat (x : Int) : IntKind.u64.wrap x = (U64 x : Nat) := by
  unfold U64
  have : 0 ≤ IntKind.u64.wrap x := by simp only [IntKind.wrap, IntKind.bits, IntKind.signed]; simp; omega
  omega
theorem u64_lt (x : Int) : U64 x < 18446744073709551616 := by
  unfold U64
  have : IntKind.u64.wrap x < 18446744073709551616 := by simp only [IntKind.wrap, IntKind.bits, IntKind.signed]; simp; omega
  omega
theorem below_drew0 {w w1 : World} (h : Below w.drew.heap.size w.drew w1) : Below w.heap.size w w1 := ⟨h.os, h.tape, h.output, h.size, h.block⟩
theorem hg_blk {base : Nat} {W W1 : World} {g : Nat} {A : Option Addr} {n c : Nat} {er : Int} {v : Value} {l : List Nat} (hg : W.grownBy W1 v.ownBlock) (h : BW base W g 92 (mwC A n c er) v l) : W1.heap[g]? = some (.cells (mwC A n c er v) 92 (0, 0)) :=
  (hg.block g (blk_lt h.1) (fun e => h.ne (by decide) e.symm)).trans h.1
theorem hg_cell {base : Nat} {W W1 : World} {g : Nat} {A : Option Addr} {n c : Nat} {er : Int} {v : Value} {l : List Nat} (hg : W.grownBy W1 v.ownBlock) (h : BW base W g 92 (mwC A n c er) v l) : W1.cell? ⟨g, 0, none⟩ = some v := blk_cell (hg_blk hg h) 0
theorem hg_frozen {base : Nat} {W W1 : World} {g : Nat} {A : Option Addr} {n c : Nat} {er : Int} {v : Value} {l : List Nat} (hg : W.grownBy W1 v.ownBlock) (h : BW base W g 92 (mwC A n c er) v l) : W1.frozen? ⟨g, 0, none⟩ = false := blk_frozen (hg_blk hg h) 0
theorem mrow_slice {w : World} {base e n} {v : Value} {xs : List Value} (h : mrow w base e v n xs) : ∃ A c, v = .slice A n c := by
  rcases h.2 with ⟨rfl, rfl⟩ | ⟨g, cap, cur, fr, rfl, _⟩
  · exact ⟨_, _, rfl⟩
  · exact ⟨_, _, rfl⟩
def NumPost (w0 w : World) (g : Nat) (v : Value) (cells : Value → Array Value) (T : TypeId) (l1 : List Nat) (e : Ending) (w' : World) : Prop :=
  e = .returned (.tuple #[]) ∧ Below w0.heap.size w0 w' ∧ ∃ v', BW w0.heap.size w' g T cells v' l1 ∧ BS w g v w' v'
set_option maxHeartbeats 4000000 in
set_option maxRecDepth 100000 in
theorem mapNum_any (w0 w : World) (g : Nat) (A : Option Addr) (n c : Nat) (er : Int) (v : Value) (l : List Nat) (x : Int) (j : Int) (m : Nat) (hj : j = m) (hm : m ≤ 8) (hW : BW w0.heap.size w g 92 (mwC A n c er) v l) (hB : Below w0.heap.size w0 w) (hl : l.length + 8 ≤ 140737488355328) :
    Calls Try.prog 59 #[.pointer (some ⟨g, 0, none⟩), .int .i64 x, .int .i64 j] w (NumPost w0 w g v (mwC A n c er) 92 (l ++ bigB (U64 x) m)) := by
  have hc0 : w.cell? ⟨g, 0, none⟩ = some v := blk_cell hW.1 0
  have HM := Lib.hid hW
  have HB := Lib.hid hB
  have HL := Lib.hid hl
  have HJ := Lib.hid hj
  have HMM := Lib.hid hm
  clear hW hB hl hj hm
  go_enter Try.func59, Try.ntmps59
  go_wp2_with fail
  go_region_law (first
    | (refine str_step (by rfl) (.tmp 10) (.tmp 14) 87 9 rfl 5 Try.underlying87 Try.underlying9 Try.infoB w0.heap.size (HM.out.below (below_drew0 hbx)).2.2 rfl (sb (bigB (U64 x) m)) rfl (by rw [sb_size, bigB_length]; have := HL.out; have := HMM.out; omega) (by have := HB.out.size; have := (below_drew0 hbx).size; omega) ?_; intro v' w2 hm' hg' hat'; obtain ⟨A', c', rfl⟩ := mrow_slice hm'; have hc2 := hg_cell hg' (HM.out.below (below_drew0 hbx)); have hf2 := hg_frozen hg' (HM.out.below (below_drew0 hbx)))
    | (go_simp; refine (Big_any (U64 x) m _ (u64_nat x) j HJ.out _ (u64_lt x) HMM.out).mono ?_; rintro e w' ⟨rfl, hbx⟩; dsimp only; have hcx := pw_cell_below (below_drew0 hbx) hc0))
  all_goals
    go_end0
    have h1 := HM.out.below (below_drew0 hbx)
    have hB1 := below_then HB.out HB.out.size (below_drew0 hbx)
    have hlen : l.length + (sb (bigB (U64 x) m)).size = (l ++ bigB (U64 x) m).length := by rw [sb_size, List.length_append]
    rw [hlen, bs_sb (bigB_lt m _), ← u8s_append] at hm'
    rw [hlen] at hat' ⊢
    have hP := h1.put (by decide) hg' hm' (by rcases hat' with h | h; exact .inl h; exact .inr ⟨_, h, Nat.le_refl _⟩) (fun u => ⟨rfl, rfl⟩)
    exact ⟨rfl, (pw_below_grown hB1 _ hB1.size hg' (fun k hk => h1.ge k hk)).setCell h1.2.1 _, _, hP.1, (BS.below (below_drew0 hbx)).trans hP.2⟩
end Go.Proofs.Ytfnjbmpolggdeaa
end
section
namespace Go.Proofs.Ytfnjbmpolggdeaa.MD.WW
open Go.RowKit Go.Proofs.YtfnjbmpolggdeaaW.PrintWords Go.Proofs.YtfnjbmpolggdeaaW.PrintLast Go.Proofs.YtfnjbmpolggdeaaW.PrintMore
set_option linter.unusedVariables false
set_option linter.unusedSimpArgs false
def failE (er x : Int) : Int := if er = 0 then x else er
def FailPost (w0 w : World) (g : Nat) (v : Value) (A : Option Addr) (n c : Nat) (er : Int) (l : List Nat) (e : Ending) (w' : World) : Prop :=
  e = .returned (.tuple #[]) ∧ Below w0.heap.size w0 w' ∧ BW w0.heap.size w' g 92 (mwC A n c er) v l ∧ BS w g v w' v
set_option maxHeartbeats 2000000 in
set_option maxRecDepth 100000 in
theorem mapFail_any (w0 w : World) (g : Nat) (A : Option Addr) (n c : Nat) (er : Int) (v : Value) (l : List Nat) (x : Int) (hW : BW w0.heap.size w g 92 (mwC A n c er) v l) (hB : Below w0.heap.size w0 w) :
    Calls Try.prog 139 #[.pointer (some ⟨g, 0, none⟩), .int .i64 x] w (FailPost w0 w g v A n c (failE er x) l) := by
  have hc2 : w.cell? ⟨g, 2, none⟩ = some (.int .i64 er) := blk_cell hW.1 2
  have hf2 : w.frozen? ⟨g, 2, none⟩ = false := blk_frozen hW.1 2
  have HM := Lib.hid hW
  have HB := Lib.hid hB
  clear hW hB
  by_cases h : er = 0
  · have hb : (er == 0) = true := beq_iff_eq.2 h
    have HE : Aside0 (failE er x = x) := ⟨if_pos h⟩
    clear h
    go_enter Try.func139, Try.ntmps139
    go_wp2
    go_end0
    rw [HE.out]
    refine ⟨rfl, HB.out.setCell HM.out.2.1 _, ⟨?_, HM.out.2.1, HM.out.2.2.step (fun k hk => Below.heap_setCell w _ _ k (fun e => HM.out.ne (by decide) (by rw [hk]; exact congrArg some e)))⟩, (Kept.refl w _).setCell (.inl (.inl rfl)) _, .inl rfl⟩
    exact (blk_set HM.out.1 2 _).trans rfl
  · have hb : (er == 0) = false := beq_eq_false_iff_ne.2 h
    have HE : Aside0 (failE er x = er) := ⟨if_neg h⟩
    clear h
    go_enter Try.func139, Try.ntmps139
    go_wp2
    go_end0
    rw [HE.out]
    exact ⟨rfl, HB.out, HM.out, BS.refl _ _ _⟩
def cloB (l1 : List S37) (nm : ByteArray) (c : S37) : Bool := (c.f0 == 7) && (isB l1 c.f3 1 && ((strV l1 c.f3).toList == nm.toList))
set_option maxHeartbeats 4000000 in
set_option maxRecDepth 100000 in
theorem clo_any (A : Option Addr) (c1 : Nat) (l1 : List S37) (c : S37) (nm : ByteArray) (wb g vb : Nat) (w : World) (hr : Kd.C k37 w A l1.length l1) (hc : l1.length ≤ c1) (h3 : 0 ≤ c.f3 ∧ c.f3 < 65536)
    (hwb : w.cell? ⟨wb, 0, none⟩ = some (.pointer (some ⟨g, 0, none⟩))) (hp : w.cell? ⟨g, 1, none⟩ = some (.slice A l1.length c1)) (hn : w.cell? ⟨vb, 1, none⟩ = some (.string nm)) :
    Calls Try.prog 138 #[.agg #[.int .u8 c.f0, .string c.f1, .int .u64 c.f2, .int .u16 c.f3, .int .u16 c.f4], .pointer (some ⟨wb, 0, none⟩), .pointer (some ⟨vb, 0, none⟩)] w fun e w' => e = .returned (.bool (cloB l1 nm c)) ∧ Below w.heap.size w w' := by
  have hbel := below_alloc (Below.refl w.heap.size w) (.cells #[.int .u8 c.f0, .string c.f1, .int .u64 c.f2, .int .u16 c.f3, .int .u16 c.f4] 37)
  have a1 := pw_cell_below hbel hwb
  have a2 := pw_cell_below hbel hp
  have a3 := pw_cell_below hbel hn
  have HR := Aside0.mk (Kd.C_below hr hbel)
  have HC := Aside0.mk hc
  have HBL := Aside0.mk hbel
  have HI := Aside0.mk (pool_Is_eq l1 c.f3 1 h3.1 h3.2)
  have HS := Aside0.mk (poolStr_eq l1 h3.1 h3.2)
  clear hr hc hbel hwb hp hn h3
  by_cases h7 : c.f0 = 7
  · have b7 : (c.f0 == 7) = true := beq_iff_eq.2 h7
    clear h7
    cases hi : isB l1 c.f3 1 with
    | false =>
      have HF : Aside0 (cloB l1 nm c = false) := ⟨by unfold cloB; rw [hi, Bool.false_and, Bool.and_false]⟩
      rw [hi] at HI
      clear hi
      go_enter Try.func138, Try.ntmps138
      go_wp2
      go_quiet ((go_at_call 133; exact Calls.quiet_of ((pool_Is.calls A c1 l1 c.f3 1 false _ (Kd.C_below HR.out (by repeat (first | exact Below.refl _ _ | apply pw_below_drewN | apply below_drew1))) HC.out HI.out).mono fun e w' h => ⟨h.1, h.2.out⟩)))
      go_wp2
      go_ret
      exact ⟨by rw [HF.out]; rfl, by repeat (first | exact HBL.out | apply pw_below_drewN | apply below_drew1)⟩
    | true =>
      have HF : Aside0 (cloB l1 nm c = ((strV l1 c.f3).toList == nm.toList)) := ⟨by unfold cloB; rw [b7, hi, Bool.true_and, Bool.true_and]⟩
      rw [hi] at HI
      clear hi
      go_enter Try.func138, Try.ntmps138
      go_wp2
      go_quiet ((first | (go_at_call 133; exact Calls.quiet_of ((pool_Is.calls A c1 l1 c.f3 1 true _ (Kd.C_below HR.out (by repeat (first | exact Below.refl _ _ | apply pw_below_drewN | apply below_drew1))) HC.out HI.out).mono fun e w' h => ⟨h.1, h.2.out⟩)) | (go_at_call 134; exact Calls.quiet_of ((pool_String.calls A c1 l1 c.f3 (strV l1 c.f3) _ (Kd.C_below HR.out (by repeat (first | exact Below.refl _ _ | apply pw_below_drewN | apply below_drew1))) HC.out HS.out).mono fun e w' h => ⟨h.1, h.2.out⟩))))
      go_wp2
      go_ret
      exact ⟨by rw [HF.out]; rfl, by repeat (first | exact HBL.out | apply pw_below_drewN | apply below_drew1)⟩
  · have b7 : (c.f0 == 7) = false := beq_eq_false_iff_ne.2 h7
    have HF : Aside0 (cloB l1 nm c = false) := ⟨by unfold cloB; rw [b7, Bool.false_and]⟩
    clear h7
    go_enter Try.func138, Try.ntmps138
    go_wp2
    go_quiet (fail)
    go_wp2
    go_ret
    exact ⟨by rw [HF.out]; rfl, by repeat (first | exact HBL.out | apply pw_below_drewN | apply below_drew1)⟩
def idxF (p : S37 → Bool) (L : List S37) : Int := match L.findIdx? p with | some i => (i : Int) | none => -1
end Go.Proofs.Ytfnjbmpolggdeaa.MD.WW
end
section
namespace Go.Proofs.Ytfnjbmpolggdeaa.MD.WW
open Go.RowKit Go.Proofs.YtfnjbmpolggdeaaW.PrintWords Go.Proofs.YtfnjbmpolggdeaaW.PrintLast Go.Proofs.YtfnjbmpolggdeaaW.PrintMore
set_option linter.unusedVariables false
set_option linter.unusedSimpArgs false
theorem idxF_some {p : S37 → Bool} {L : List S37} {k : Nat} (hk : k < L.length) (h : ∀ (j : Nat) (hj : j < k), p (L[j]'(by omega)) = false) (hp : p L[k] = true) : idxF p L = k := by
  unfold idxF
  rw [show L.findIdx? p = some k from List.findIdx?_eq_some_iff_getElem.2 ⟨hk, hp, fun j hj => by simpa using h j hj⟩]
theorem idxF_none {p : S37 → Bool} {L : List S37} (h : ∀ (j : Nat) (hj : j < L.length), p L[j] = false) : idxF p L = -1 := by
  unfold idxF
  rw [show L.findIdx? p = none from List.findIdx?_eq_none_iff.2 (fun x hx => by obtain ⟨j, hj, rfl⟩ := List.mem_iff_getElem.1 hx; exact h j hj)]
theorem idxF_range (p : S37 → Bool) (L : List S37) : -1 ≤ idxF p L ∧ idxF p L < (L.length : Int) := by
  unfold idxF
  cases h : L.findIdx? p with
  | none => exact ⟨Int.le_refl _, by show (-1 : Int) < _; omega⟩
  | some i => obtain ⟨hi, _⟩ := List.findIdx?_eq_some_iff_getElem.1 h; exact ⟨by show (-1 : Int) ≤ (i : Int); omega, by show (i : Int) < _; omega⟩
theorem rdC_at {L : List S37} {k : Nat} (h : k < L.length) : rd_T37 L (k : Int) = L[k] := by
  unfold rd_T37
  rw [List.getD_eq_getElem?_getD, Int.toNat_natCast, List.getElem?_eq_getElem h]; rfl
set_option maxHeartbeats 4000000 in
set_option maxRecDepth 100000 in
theorem idx_any (A0 : Option Addr) (c0 : Nat) (L : List S37) (A : Option Addr) (c1 : Nat) (l1 : List S37) (nm : ByteArray) (wb g vb : Nat) (w : World) (hL : Kd.C k37 w A0 L.length L) (hc0 : L.length ≤ c0) (hl : L.length ≤ 4611686018427387904)
    (hr : Kd.C k37 w A l1.length l1) (hc : l1.length ≤ c1) (h3 : ∀ c ∈ L, 0 ≤ c.f3 ∧ c.f3 < 65536)
    (hwb : w.cell? ⟨wb, 0, none⟩ = some (.pointer (some ⟨g, 0, none⟩))) (hp : w.cell? ⟨g, 1, none⟩ = some (.slice A l1.length c1)) (hn : w.cell? ⟨vb, 1, none⟩ = some (.string nm)) :
    Calls Try.prog 137 #[.slice A0 L.length c0, .func (.func 138) #[] #[.pointer (some ⟨wb, 0, none⟩), .pointer (some ⟨vb, 0, none⟩)]] w fun e w' => e = .returned (.int .i64 (idxF (cloB l1 nm) L)) ∧ Below w.heap.size w w' := by
  have HL := Aside0.mk hL
  have HR := Aside0.mk hr
  have HC := Aside0.mk hc
  have H3 := Aside0.mk h3
  have HWB := Aside0.mk hwb
  have HP := Aside0.mk hp
  have HN := Aside0.mk hn
  clear hL hr hc h3 hwb hp hn
  go_enter Try.func137, Try.ntmps137
  go_wp2_with fail
  go_loopw [8] (fun i wr => ∃ (k : Nat), k ≤ L.length ∧ i = .int .i64 k ∧ Aside0 (∀ (j : Nat) (hj : j < L.length), j < k → cloB l1 nm L[j] = false) ∧ Aside0 (Below w.heap.size w wr)) (fun i _ => L.length - (intOf i).toNat)
  case atStart => exact ⟨0, by omega, rfl, ⟨fun j _ hj => absurd hj (Nat.not_lt_zero _)⟩, ⟨Below.refl _ _⟩⟩
  case round =>
    obtain ⟨k, hk, rfl, HALL, HBL⟩ := hrel
    by_cases hlt : k < L.length
    · obtain ⟨ad0, e0, x0, x1, x2, x3, x4⟩ := at_T37 HL.out (k : Int) (by omega) (by omega)
      subst e0
      rw [rdC_at hlt] at x0 x1 x2 x3 x4
      simp only [Int.toNat_natCast] at x0 x1 x2 x3 x4
      have y0 := pw_cell_below HBL.out x0
      have y1 := pw_cell_below HBL.out x1
      have y2 := pw_cell_below HBL.out x2
      have y3 := pw_cell_below HBL.out x3
      have y4 := pw_cell_below HBL.out x4
      have HK3 := Aside0.mk (H3.out _ (List.getElem_mem hlt))
      have HKB : Aside0 (∀ b, cloB l1 nm L[k] = b → cloB l1 nm L[k] = b) := ⟨fun _ h => h⟩
      clear x0 x1 x2 x3 x4
      have HA : ∀ b, cloB l1 nm L[k] = b → Aside0 (cloB l1 nm L[k] = b) := fun b h => ⟨h⟩
      cases hb : cloB l1 nm L[k] with
      | true =>
        have HF := Aside0.mk (idxF_some hlt (fun j hj => HALL.out j (by omega) hj) hb)
        have HV := HA true hb
        clear HA HKB hb
        go_wp2_with fail
        refine (clo_any A c1 l1 L[k] nm wb g vb _ (Kd.C_below HR.out HBL.out) HC.out HK3.out (pw_cell_below HBL.out HWB.out) (pw_cell_below HBL.out HP.out) (pw_cell_below HBL.out HN.out)).mono ?_
        rintro e w2 ⟨rfl, hb2⟩
        rw [HV.out]
        have HB2 := Aside0.mk (below_then HBL.out HBL.out.size hb2)
        clear hb2
        go_wp2
        go_ret
        exact ⟨by rw [HF.out]; rfl, HB2.out⟩
      | false =>
        have HV := HA false hb
        clear HA HKB hb
        go_wp2_with fail
        refine (clo_any A c1 l1 L[k] nm wb g vb _ (Kd.C_below HR.out HBL.out) HC.out HK3.out (pw_cell_below HBL.out HWB.out) (pw_cell_below HBL.out HP.out) (pw_cell_below HBL.out HN.out)).mono ?_
        rintro e w2 ⟨rfl, hb2⟩
        rw [HV.out]
        have HB2 := Aside0.mk (below_then HBL.out HBL.out.size hb2)
        clear hb2
        go_wp2
        go_roundw
        case rel => exact ⟨k + 1, by omega, by go_num, ⟨fun j hj hjk => by rcases Nat.lt_or_ge j k with h | h; exact HALL.out j hj h; obtain rfl : j = k := (by omega); exact HV.out⟩, HB2⟩
        case measure => simp [intOf]; omega
    · obtain rfl : k = L.length := by omega
      have HF := Aside0.mk (idxF_none (p := cloB l1 nm) (fun j hj => HALL.out j hj hj))
      go_wp2
      go_ret
      exact ⟨by rw [HF.out]; rfl, HBL.out⟩
end Go.Proofs.Ytfnjbmpolggdeaa.MD.WW
end
