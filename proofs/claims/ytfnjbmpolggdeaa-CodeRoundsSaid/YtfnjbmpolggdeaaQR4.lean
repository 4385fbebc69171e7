/-
  CodeRounds of jvmcorelaw2: whatever the bytes are, what code.Decode makes of them is encoded by code.Encode as the same bytes; nothing is assumed.
-/
import Derived.Test.YtfnjbmpolggdeaaRows
import Derived.WalkKit
import Derived.ProofKit
import Derived.OpenShut
import Derived.ShutString
import Derived.ChangeOld
import Derived.Below
import Derived.SizedLaws
import Derived.Test.YtfnjbmpolggdeaaQR3
section
namespace Go.Proofs.Ytfnjbmpolggdeaa.CW
open Go.RowKit Go.Lib Go.Proofs.YtfnjbmpolggdeaaW.PrintWords Go.Proofs.YtfnjbmpolggdeaaW.PrintLast Go.Proofs.YtfnjbmpolggdeaaW.PrintMore
set_option linter.unusedVariables false
set_option linter.unusedSimpArgs false
set_option maxHeartbeats 8000000 in
set_option maxRecDepth 100000 in
theorem code_Decode.calls (a0 : ByteArray) (r1 : List S82) (r2 : Int) (r3 : Int) (w : World) (h : code_Decode.f a0 = some (r1, r2, r3)) :
    Calls Try.prog 48 #[.string a0] w fun e w' => ∃ v0_, e = .returned (.tuple #[v0_, .int .i64 r2, .int .i64 r3]) ∧ Kd.S k82 82 w' w.heap.size (fun _ => True) v0_ r1 ∧ Below w.heap.size w w' := by
  have hd : decD a0 = (r1, r2, r3) := Option.some.inj h
  clear h
  by_cases h1 : a0.size = 0
  · have hr : (([] : List S82), (12 : Int), (0 : Int)) = (r1, r2, r3) := by rw [← hd]; unfold decD; rw [if_pos (.inl h1)]
    injection hr with e1 e2
    injection e2 with e2 e3
    subst e1 e2 e3
    have q1 : a0.toList.isEmpty = true := by rw [show a0 = ⟨#[]⟩ from ByteArray.ext (Array.eq_empty_of_size_eq_zero h1)]; decide +kernel
    clear h1 hd
    go_enter Try.func48, Try.ntmps48
    go_wp2
    go_ret3
    exact ⟨_, rfl, Kd.S_nil _ _ _ _ _, Below.refl _ _⟩
  · have q1 : a0.toList.isEmpty = false := by
      rw [Go.ByteArray.toList_eq]
      have h3 : a0.data.toList ≠ [] := fun e => h1 (by show a0.data.size = 0; rw [← Array.length_toList, e]; rfl)
      revert h3
      cases a0.data.toList with
      | nil => intro h; exact absurd rfl h
      | cons _ _ => intro _; rfl
    by_cases h2 : 65535 < a0.size
    · have hr : (([] : List S82), (12 : Int), (0 : Int)) = (r1, r2, r3) := by rw [← hd]; unfold decD; rw [if_pos (.inr h2)]
      injection hr with e1 e2
      injection e2 with e2 e3
      subst e1 e2 e3
      have q2 : decide ((65535 : Int) < (a0.size : Int)) = true := decide_eq_true (by omega)
      have q3 : decide ((a0.size : Int) > 65535) = true := decide_eq_true (by omega)
      have q4 : decide (65535 < a0.size) = true := decide_eq_true h2
      clear h1 h2 hd
      go_enter Try.func48, Try.ntmps48
      go_wp2
      go_ret3
      exact ⟨_, rfl, Kd.S_nil _ _ _ _ _, Below.refl _ _⟩
    · have hr : finD a0 (allD a0 a0.size (0, 0, 0)).1 (chkD a0 ((allD a0 a0.size (0, 0, 0)).1.map (·.f0)) (allD a0 a0.size (0, 0, 0)).1 (allD a0 a0.size (0, 0, 0)).2) = (r1, r2, r3) := by rw [← hd]; unfold decD; rw [if_neg (fun h => h.elim h1 h2)]
      have HR := Aside0.mk hr
      have q2 : decide ((65535 : Int) < (a0.size : Int)) = false := decide_eq_false (by omega)
      have q3 : decide ((a0.size : Int) > 65535) = false := decide_eq_false (by omega)
      have q4 : decide (65535 < a0.size) = false := decide_eq_false h2
      have HN := Aside0.mk (And.intro h1 (Nat.not_lt.1 h2))
      have HL0 : 0 ≤ (a0.size : Int) := Int.natCast_nonneg _
      have HL1 : (a0.size : Int).toNat * 1 ≤ 281474976710656 := by omega
      clear h1 h2 hd hr
      go_enter Try.func48, Try.ntmps48
      go_wp2_with (first | (go_at_call 63; refine (pool_NewReader.calls a0 a0 0 0 0 w w (Below.refl _ _) rfl).mono ?_; rintro e1 w1 ⟨g, rfl, hI1, hB1, hb1⟩; have HI1 := Aside0.mk (And.intro hI1 hB1); have HB1 := below_alloc hB1 (.cells #[.pointer (some ⟨g, 0, none⟩)] 144); clear hI1 hb1 hB1) | (refine Kd.R_make Kd.bool _ 4 rfl (N := 26) rfl 120 _ _ rfl (a0.size : Int) rfl rfl Try.underlying120 (.bool false) 1 infoBool rfl (by decide) (by omega) false (ok := fun _ => True) (okp := fun _ => True) rfl (fun _ hk => hk) trivial HL0 HL1 HB1 HB1.size ?_; intro U w2 hU hb2 hg2 hnew2; clear hb2 hnew2) | go_in)
      have HBL := Aside0.mk (BL.nil a0)
      obtain ⟨b, cap, hUv, hUb, hUl, hUt⟩ := Kd.R_form hU (by rw [List.length_replicate]; have := HN.out.1; omega)
      rw [List.length_replicate, Int.toNat_natCast] at hUv
      subst hUv
      have H0 := Aside0.mk (DS.start HI1.out HI1.out.2.size hg2 hU)
      clear hU hg2 hUb hUl hUt HB1 HI1 HL0 HL1
      generalize w1.heap.size = d at *
      generalize List.replicate (a0.size : Int).toNat false = bl0 at *
      go_loopw [7] (fun v wr => ∃ (t : RdS) (bl : List Bool) (l : List S82), Aside0 (DS w wr g d b cap a0 t bl v l) ∧ Aside0 (OKR a0 t ∧ (t.2.1 = 0 → (l.length : Int) ≤ t.1)) ∧ Aside0 (l.length ≤ a0.size ∧ ∀ x ∈ l, x.f7.length ≤ 100000) ∧ Aside0 (BL a0 (l.map (·.f0)) bl) ∧ Aside0 (allD a0 a0.size (0, 0, 0) = (l ++ (allD a0 (a0.size - l.length) t).1, (allD a0 (a0.size - l.length) t).2))) (fun v _ => a0.size - lenV v)
      case atStart => exact ⟨(0, 0, 0), bl0, [], H0, ⟨⟨Int.le_refl _, HN.out.2 |> fun _ => Int.natCast_nonneg _, HN.out.2⟩, fun _ => Int.le_refl _⟩, ⟨Nat.zero_le _, fun x hx => absurd hx (by simp)⟩, HBL, ⟨by simp⟩⟩
      case round =>
        clear H0 HBL
        obtain ⟨t, bl, l, HD, HO, HLN, HB, HA⟩ := hrel
        have c0_1 := HD.out.c0
        go_upto_region 6 with (fail)
        go_cut [36] from 27 to 35 (fun vv wc => vv = .bool (decide (0 < (a0.size : Int) - t.1 ∧ t.2.1 = 0)) ∧ Aside0 (DS w wc g d b cap a0 t bl u7 l))
        case first =>
          as_aux_lemma =>
          by_cases hl : 0 < (a0.size : Int) - t.1
          · have b0 : decide (0 < (a0.size : Int) - t.1) = true := decide_eq_true hl
            have b1 : decide ((a0.size : Int) - t.1 > 0) = true := decide_eq_true hl
            have b3 : decide (t.1 < (a0.size : Int)) = true := decide_eq_true (by omega)
            by_cases he : t.2.1 = 0
            · have b2 : (t.2.1 != 0) = false := bne_eq_false_iff_eq.2 he
              have HV := Aside0.mk (decide_eq_true (And.intro hl he))
              clear hl he
              go_wp2_with (first | (go_at_call 72; refine (left_any w _ g a0 t HO.out.1 HD.out.ri).mono ?_; rintro e2 w2 ⟨rfl, hI2, hk2⟩; have H2 := Aside0.mk (HD.out.rd hI2 hk2); have c0_2 := H2.out.c0; clear hI2 hk2) | (go_at_call 70; refine (bad_any w _ g a0 t H2.out.ri).mono ?_; rintro e3 w3 ⟨rfl, hI3, hk3⟩; have H3 := Aside0.mk (H2.out.rd hI3 hk3); clear hI3 hk3) | go_in)
              go_meet
              case rel => exact ⟨by rw [HV.out], ⟨H3.out⟩⟩
            · have b2 : (t.2.1 != 0) = true := bne_iff_ne.2 he
              have HV := Aside0.mk (decide_eq_false (fun h : 0 < (a0.size : Int) - t.1 ∧ t.2.1 = 0 => he h.2))
              clear hl he
              go_wp2_with (first | (go_at_call 72; refine (left_any w _ g a0 t HO.out.1 HD.out.ri).mono ?_; rintro e2 w2 ⟨rfl, hI2, hk2⟩; have H2 := Aside0.mk (HD.out.rd hI2 hk2); have c0_2 := H2.out.c0; clear hI2 hk2) | (go_at_call 70; refine (bad_any w _ g a0 t H2.out.ri).mono ?_; rintro e3 w3 ⟨rfl, hI3, hk3⟩; have H3 := Aside0.mk (H2.out.rd hI3 hk3); clear hI3 hk3) | go_in)
              go_meet
              case rel => exact ⟨by rw [HV.out], ⟨H3.out⟩⟩
          · have b0 : decide (0 < (a0.size : Int) - t.1) = false := decide_eq_false hl
            have b1 : decide ((a0.size : Int) - t.1 > 0) = false := decide_eq_false hl
            have b3 : decide (t.1 < (a0.size : Int)) = false := decide_eq_false (by omega)
            have HV := Aside0.mk (decide_eq_false (fun h : 0 < (a0.size : Int) - t.1 ∧ t.2.1 = 0 => hl h.1))
            clear hl
            go_wp2_with (first | (go_at_call 72; refine (left_any w _ g a0 t HO.out.1 HD.out.ri).mono ?_; rintro e2 w2 ⟨rfl, hI2, hk2⟩; have H2 := Aside0.mk (HD.out.rd hI2 hk2); have c0_2 := H2.out.c0; clear hI2 hk2) | go_in)
            go_meet
            case rel => exact ⟨by rw [HV.out], ⟨H2.out⟩⟩
        case rest =>
          obtain ⟨rfl, HC⟩ := hcut
          clear c0_1 HD
          have H4 := HC
          have c0_4 := H4.out.c0
          by_cases hc : 0 < (a0.size : Int) - t.1 ∧ t.2.1 = 0
          · rw [decide_eq_true hc]
            have HCC := Aside0.mk hc
            have h0 : 0 ≤ t.1 := HO.out.1.1
            have h1 : t.1 < (a0.size : Int) := by omega
            have HLL : Aside0 (l.length < a0.size ∧ a0.size ≤ 65535) := ⟨by have := HO.out.2 hc.2; omega, HN.out.2⟩
            have p7 : (0 ≤ t.1) = True := eq_true h0
            have q7 : (t.1 < (a0.size : Int)) = True := eq_true h1
            have P7 := Aside0.mk (And.intro h0 h1)
            clear hc h0 h1
            go_upto_region 8 with (first | (go_at_call 66; refine (at_any w _ g a0 t H4.out.ri).mono ?_; rintro e5 w5 ⟨rfl, hI5, hk5⟩; have H5 := Aside0.mk (H4.out.rd hI5 hk5); obtain ⟨x5, y5⟩ := Kd.R_celln false H5.out.row t.1 P7.out.1 P7.out.2; clear hI5 hk5) | go_in)
            have H6 := Aside0.mk (H5.out.mark t.1)
            have HB6 := Aside0.mk (HB.out.mark t.1 P7.out.1 P7.out.2)
            clear H4 H5 HC c0_4 x5 y5 p7 q7
            generalize w5.setCell ⟨b, t.1.toNat, none⟩ (.bool true) = w6 at *
            generalize bl.set t.1.toNat true = bl6 at *
            have c0_6 := H6.out.c0
            have hf : (oneD a0 t).1.f0 = t.1 := one_at a0 t
            have HF := Aside0.mk hf
            have HAS := Aside0.mk (all_step HCC.out (show a0.size - l.length = (a0.size - (l.length + 1)) + 1 by have := HLL.out.1; omega))
            have HON : Aside0 (OKR a0 (oneD a0 t).2 ∧ ((oneD a0 t).2.2.1 = 0 → ((l.length + 1 : Nat) : Int) ≤ (oneD a0 t).2.1)) := ⟨HO.out.1.one, fun hz => by
              have h1 := (oneG HO.out.1 hz).up
              have h2 := HO.out.2 HCC.out.2
              omega⟩
            have HO1 := Aside0.mk HO.out.1
            have HX7 := Aside0.mk (one_len HO.out.1)
            clear hf HO HCC
            generalize hp : oneD a0 t = pr at *
            obtain ⟨x, t1⟩ := pr
            obtain ⟨A7, c7, e7⟩ := Kd.S_slice H6.out.out
            subst e7
            have HP := Aside0.mk hp
            clear hp
            have HL8 : (l.length + 1) * 88 ≤ 140737488355328 := by have := HLL.out.1; have := HLL.out.2; omega
            have HL9 := Aside0.mk HL8
            clear HL8
            go_wp2_with (first | (go_at_call 95; refine (decOne_any w _ g a0 t HO1.out H6.out.ri).mono ?_; rw [HP.out]; rintro e8 w8 ⟨v6, v7, rfl, hI8, h68, h78, hk8⟩; have H8 := Aside0.mk (H6.out.rd hI8 hk8); have HE8 := Aside0.mk (OnePost.elem h68 h78 H6.out.ri.2.size); have HX8 := Aside0.mk (IR.elder H6.out.out H6.out.ri.1.1 (by decide) (fun k hlt hne => hk8.2 k hlt hne (by simp))); clear hI8 hk8 h68 h78; unfold insC) | ((with_reducible refine gate_builtin (b := .append) (xs := #[.tmp 42, .tmp 45]) rfl ?_); at_builtin; refine Kd.S_append k82 (w0 := w) w.heap.size rfl (.tmp 42) (.tmp 45) 59 82 _ 88 rfl Try.underlying59 info82 rfl (by decide) (by omega) (.slice A7 l.length c7) l x [.int .i64 x.f0, .int .u8 x.f1, .bool x.f2, .int .i64 x.f3, .int .i64 x.f4, .int .i64 x.f5, v6, v7] (fun _ => True) (fun k => w6.heap.size ≤ k) rfl rfl HE8.out (fun k hk => ⟨trivial, fun e => by have := Kd.S_lt H6.out.out k e.symm; omega⟩) (fun _ _ => trivial) HX8.out H8.out.ri.2 H8.out.ri.2.size HL9.out ?_; intro v9 w9 hr9 hb9 hg9 hat9) | go_in)
            have H9 := Aside0.mk (H8.out.app hg9 hr9)
            obtain ⟨A9, c9, e9⟩ := Kd.S_slice hr9
            rw [List.length_append, List.length_singleton] at e9
            subst e9
            clear hr9 hb9 hg9 hat9
            have HLE := Aside0.mk (show (l ++ [x]).length = l.length + 1 by rw [List.length_append]; rfl)
            go_roundw
            case rel =>
              refine ⟨t1, bl6, l ++ [x], H9, ⟨HON.out.1, fun hz => by rw [HLE.out]; exact HON.out.2 hz⟩, ⟨by rw [HLE.out]; exact HLL.out.1, fun z hz => (List.mem_append.1 hz).elim (HLN.out.2 z) (fun hz => by rw [List.mem_singleton.1 hz]; exact HX7.out)⟩, ⟨?_⟩, ⟨?_⟩⟩
              · rw [List.map_append]
                show BL a0 (l.map (·.f0) ++ [x.f0]) bl6
                rw [HF.out]
                exact HB6.out
              · have h := HA.out
                rw [HAS.out] at h
                rw [HLE.out, h]
                simp
            case measure =>
              show a0.size - (l.length + 1) < a0.size - l.length
              have := HLL.out.1
              omega
          · rw [decide_eq_false hc]
            have HEND := Aside0.mk (all_end (n := a0.size - l.length) hc)
            clear hc
            have HAE : Aside0 (allD a0 a0.size (0, 0, 0) = (l, t)) := ⟨by have h := HA.out; rw [HEND.out] at h; rw [h]; simp⟩
            have HRE : Aside0 (finD a0 l (chkD a0 (l.map (·.f0)) l t) = (r1, r2, r3)) := ⟨by have h := HR.out; rw [HAE.out] at h; exact h⟩
            have HO1 := Aside0.mk HO.out.1
            clear HEND HAE HA HR HO HC
            obtain ⟨A7, c7, e7⟩ := Kd.S_slice H4.out.out
            subst e7
            have HB4 := HB
            clear HB
            have H4' := H4
            go_wp2_with fail
            go_loopw [49] (fun i wr => ∃ (k : Nat) (t2 : RdS), k ≤ l.length ∧ i = .int .i64 (k : Int) ∧ Aside0 (DS w wr g d b cap a0 t2 bl (.slice A7 l.length c7) l) ∧ Aside0 (finD a0 l (chkD a0 (l.map (·.f0)) (l.drop k) t2) = (r1, r2, r3))) (fun i _ => l.length - (intOf i).toNat)
            case atStart => exact ⟨0, t, Nat.zero_le _, rfl, ⟨H4'.out⟩, ⟨HRE.out⟩⟩
            case round =>
              clear H4 H4' HRE HO1 c0_4
              obtain ⟨k, t2, hk, rfl, HD, HG⟩ := hrel
              by_cases hlt : k < l.length
              · have bk2 : decide ((k : Int) < (l.length : Int)) = true := decide_eq_true (by omega)
                have HG2 := Aside0.mk ((show finD a0 l (chkD a0 (l.map (·.f0)) (l[k] :: l.drop (k + 1)) t2) = (r1, r2, r3) from (List.drop_eq_getElem_cons hlt) ▸ HG.out))
                clear HG
                obtain ⟨hn8, hc8, hC8⟩ := Kd.S_reads' HD.out.out
                obtain ⟨ad0, A6, c6, B7, d7, e0, x0, x1, x2, x3, x4, x5, x6, x7, hl6, hi6, hl7, hi7⟩ := at_T82 hC8 (k : Int) (by omega) (by omega)
                subst e0
                rw [rdI_at hlt] at x0 x1 x2 x3 x4 x5 x6 x7 hl6 hi6 hl7 hi7
                simp only [Int.toNat_natCast] at x0 x1 x2 x3 x4 x5 x6 x7
                have HR70 := Aside0.mk (IR.row7 HD.out.out k hlt x7)
                have HLX := Aside0.mk (HLN.out.2 _ (List.getElem_mem hlt))
                have HLT := Aside0.mk hlt
                clear hl6 hi6 hl7 hi7 hk hn8 hc8 hC8
                generalize l[k] = x at *
                have HS := Aside0.mk (show finD a0 l (chkD a0 (l.map (·.f0)) (l.drop (k + 1)) (chk1 a0 (l.map (·.f0)) x.f0 x.f7 t2)) = (r1, r2, r3) from HG2.out)
                clear HG2
                have hbx := below_alloc (Below.refl _ wr) (.cells #[.int .i64 x.f0, .int .u8 x.f1, .bool x.f2, .int .i64 x.f3, .int .i64 x.f4, .int .i64 x.f5, .slice A6 x.f6.length c6, .slice B7 x.f7.length d7] 82)
                have HD1 := Aside0.mk (HD.out.below hbx)
                have HR71 := Aside0.mk (HR70.out.step (fun q e => hbx.block q (Kd.R_lt HR70.out q e)))
                have HBX1 : Aside0 ((wr.alloc (.cells #[.int .i64 x.f0, .int .u8 x.f1, .bool x.f2, .int .i64 x.f3, .int .i64 x.f4, .int .i64 x.f5, .slice A6 x.f6.length c6, .slice B7 x.f7.length d7] 82)).heap[wr.heap.size]? = some (.cells #[.int .i64 x.f0, .int .u8 x.f1, .bool x.f2, .int .i64 x.f3, .int .i64 x.f4, .int .i64 x.f5, .slice A6 x.f6.length c6, .slice B7 x.f7.length d7] 82 (0, 0))) := ⟨Array.getElem?_push_size⟩
                clear hbx HR70 HD
                go_wp2_with fail
                generalize wr.heap.size = bx at *
                go_loopw [56] (fun i wr => ∃ (j : Nat) (t3 : RdS), j ≤ x.f7.length ∧ i = .int .i64 (j : Int) ∧ Aside0 (DS w wr g d b cap a0 t3 bl (.slice (some ad0) l.length c7) l) ∧ Aside0 (RW wr w.heap.size (.slice B7 x.f7.length d7) x.f7) ∧ Aside0 (wr.heap[bx]? = some (.cells #[.int .i64 x.f0, .int .u8 x.f1, .bool x.f2, .int .i64 x.f3, .int .i64 x.f4, .int .i64 x.f5, .slice A6 x.f6.length c6, .slice B7 x.f7.length d7] 82 (0, 0))) ∧ Aside0 (finD a0 l (chkD a0 (l.map (·.f0)) (l.drop (k + 1)) (chk1 a0 (l.map (·.f0)) x.f0 (x.f7.drop j) t3)) = (r1, r2, r3))) (fun i _ => x.f7.length - (intOf i).toNat)
                case atStart => exact ⟨0, t2, Nat.zero_le _, rfl, HD1, HR71, HBX1, ⟨HS.out⟩⟩
                case round =>
                  clear HD1 HR71 HBX1 HS x0 x1 x2 x3 x4 x5 x6 x7
                  obtain ⟨j, t3, hj, rfl, HD, HR7, HBX, HG⟩ := hrel
                  have c0_5 := HD.out.c0
                  have b0_5 : wr.cell? ⟨bx, 0, none⟩ = some (.int .i64 x.f0) := blk_cell HBX.out 0
                  by_cases hjt : j < x.f7.length
                  · have bj : decide ((j : Int) < (x.f7.length : Int)) = true := decide_eq_true (by omega)
                    obtain ⟨hn7, hc7, hC7⟩ := Kd.R_reads' HR7.out
                    obtain ⟨ad7, e7, z0⟩ := Kd.at_int hC7 (j : Int) (by omega) (by omega)
                    subst e7
                    simp only [Int.toNat_natCast] at z0
                    have hrd : rd x.f7 (j : Int) = x.f7[j] := by unfold rd; rw [Int.toNat_natCast, List.getD_eq_getElem?_getD, List.getElem?_eq_getElem hjt]; rfl
                    rw [hrd] at z0
                    have HG2 := Aside0.mk ((show finD a0 l (chkD a0 (l.map (·.f0)) (l.drop (k + 1)) (chk1 a0 (l.map (·.f0)) x.f0 (x.f7[j] :: x.f7.drop (j + 1)) t3)) = (r1, r2, r3) from (List.drop_eq_getElem_cons hjt) ▸ HG.out))
                    have HJT := Aside0.mk hjt
                    have wk : wrap64 ((j : Int) + 1) = ((j + 1 : Nat) : Int) := by rw [← i64_w, IntKind.wrap_i64]; have := HLX.out; omega
                    have WN := Aside0.mk (congrArg (Value.int IntKind.i64) wk)
                    have WI := Aside0.mk wk
                    clear HG hrd hn7 hc7 hC7 wk hj
                    generalize x.f7[j] = y at *
                    by_cases hy0 : y < 0
                    · have g0 : decide (y < 0) = true := decide_eq_true hy0
                      have hbt : badT a0 (l.map (·.f0)) y = true := by unfold badT; rw [g0]; rfl
                      clear hy0
                      have HT4 : Aside0 (finD a0 l (chkD a0 (l.map (·.f0)) (l.drop (k + 1)) (chk1 a0 (l.map (·.f0)) x.f0 (x.f7.drop (j + 1)) (failR t3 16 x.f0))) = (r1, r2, r3)) := ⟨by
                        have h := HG2.out
                        rw [chk1_cons, if_pos hbt] at h
                        exact h⟩
                      clear hbt HG2
                      as_aux_lemma =>
                      go_wp2_with (first | (go_at_call 73; refine (fail_any w _ g a0 t3 16 x.f0 HD.out.ri).mono ?_; rintro e9 w9 ⟨rfl, hI9, hk9⟩; have H9 := Aside0.mk (HD.out.rd hI9 hk9); have HR9 := Aside0.mk (HR7.out.step (fun k e => hk9.2 k (Kd.R_lt HR7.out k e) (fun he => HR7.out.ne HD.out.ri.1.1 (by decide) (he ▸ e)) (by simp))); have HX9 := Aside0.mk ((hk9.2 _ (blk_lt HBX.out) (fun e => HD.out.ri.1.ne_blk HBX.out (by decide) e.symm) (by simp)).trans HBX.out); clear hI9 hk9) | go_in)
                      go_roundw
                      case rel => exact ⟨j + 1, failR t3 16 x.f0, HJT.out, by first | exact WN.out | exact WI.out, H9, HR9, HX9, HT4⟩
                      case measure => exact ms_val HJT.out WN.out
                    · have g0 : decide (y < 0) = false := decide_eq_false hy0
                      by_cases hy1 : (a0.size : Int) ≤ y
                      · have g1 : decide ((a0.size : Int) ≤ y) = true := decide_eq_true hy1
                        have g2 : decide (y ≥ (a0.size : Int)) = true := decide_eq_true hy1
                        have hbt : badT a0 (l.map (·.f0)) y = true := by unfold badT; rw [g1]; simp
                        clear hy0 hy1
                        have HT4 : Aside0 (finD a0 l (chkD a0 (l.map (·.f0)) (l.drop (k + 1)) (chk1 a0 (l.map (·.f0)) x.f0 (x.f7.drop (j + 1)) (failR t3 16 x.f0))) = (r1, r2, r3)) := ⟨by
                          have h := HG2.out
                          rw [chk1_cons, if_pos hbt] at h
                          exact h⟩
                        clear hbt HG2
                        as_aux_lemma =>
                        go_wp2_with (first | (go_at_call 73; refine (fail_any w _ g a0 t3 16 x.f0 HD.out.ri).mono ?_; rintro e9 w9 ⟨rfl, hI9, hk9⟩; have H9 := Aside0.mk (HD.out.rd hI9 hk9); have HR9 := Aside0.mk (HR7.out.step (fun k e => hk9.2 k (Kd.R_lt HR7.out k e) (fun he => HR7.out.ne HD.out.ri.1.1 (by decide) (he ▸ e)) (by simp))); have HX9 := Aside0.mk ((hk9.2 _ (blk_lt HBX.out) (fun e => HD.out.ri.1.ne_blk HBX.out (by decide) e.symm) (by simp)).trans HBX.out); clear hI9 hk9) | go_in)
                        go_roundw
                        case rel => exact ⟨j + 1, failR t3 16 x.f0, HJT.out, by first | exact WN.out | exact WI.out, H9, HR9, HX9, HT4⟩
                        case measure => exact ms_val HJT.out WN.out
                      · have g1 : decide ((a0.size : Int) ≤ y) = false := decide_eq_false hy1
                        have g2 : decide (y ≥ (a0.size : Int)) = false := decide_eq_false hy1
                        have p9 : (0 ≤ y) = True := eq_true (by omega)
                        have q9 : (y < (a0.size : Int)) = True := eq_true (by omega)
                        obtain ⟨x9, y9⟩ := Kd.R_celln false HD.out.row y (by omega) (by omega)
                        rw [show rdOf false bl y = decide (y ∈ l.map (·.f0)) from HB4.out.2 y (by omega) (by omega)] at x9
                        by_cases hm : y ∈ l.map (·.f0)
                        · rw [decide_eq_true hm] at x9
                          have hbt : badT a0 (l.map (·.f0)) y = false := by unfold badT; rw [g0, g1, decide_eq_true hm]; rfl
                          clear hm hy0 hy1
                          have HT4 : Aside0 (finD a0 l (chkD a0 (l.map (·.f0)) (l.drop (k + 1)) (chk1 a0 (l.map (·.f0)) x.f0 (x.f7.drop (j + 1)) t3)) = (r1, r2, r3)) := ⟨by
                            have h := HG2.out
                            rw [chk1_cons, if_neg (by rw [hbt]; decide)] at h
                            exact h⟩
                          clear hbt HG2
                          as_aux_lemma =>
                          go_wp2_with fail
                          go_roundw
                          case rel => exact ⟨j + 1, t3, HJT.out, by first | exact WN.out | exact WI.out, HD, HR7, HBX, HT4⟩
                          case measure => exact ms_val HJT.out WN.out
                        · rw [decide_eq_false hm] at x9
                          have hbt : badT a0 (l.map (·.f0)) y = true := by unfold badT; rw [g0, g1, decide_eq_false hm]; rfl
                          clear hm hy0 hy1
                          have HT4 : Aside0 (finD a0 l (chkD a0 (l.map (·.f0)) (l.drop (k + 1)) (chk1 a0 (l.map (·.f0)) x.f0 (x.f7.drop (j + 1)) (failR t3 16 x.f0))) = (r1, r2, r3)) := ⟨by
                            have h := HG2.out
                            rw [chk1_cons, if_pos hbt] at h
                            exact h⟩
                          clear hbt HG2
                          as_aux_lemma =>
                          go_wp2_with (first | (go_at_call 73; refine (fail_any w _ g a0 t3 16 x.f0 HD.out.ri).mono ?_; rintro e9 w9 ⟨rfl, hI9, hk9⟩; have H9 := Aside0.mk (HD.out.rd hI9 hk9); have HR9 := Aside0.mk (HR7.out.step (fun k e => hk9.2 k (Kd.R_lt HR7.out k e) (fun he => HR7.out.ne HD.out.ri.1.1 (by decide) (he ▸ e)) (by simp))); have HX9 := Aside0.mk ((hk9.2 _ (blk_lt HBX.out) (fun e => HD.out.ri.1.ne_blk HBX.out (by decide) e.symm) (by simp)).trans HBX.out); clear hI9 hk9) | go_in)
                          go_roundw
                          case rel => exact ⟨j + 1, failR t3 16 x.f0, HJT.out, by first | exact WN.out | exact WI.out, H9, HR9, HX9, HT4⟩
                          case measure => exact ms_val HJT.out WN.out
                  · obtain rfl : j = x.f7.length := by omega
                    have bj : decide ((x.f7.length : Int) < (x.f7.length : Int)) = false := decide_eq_false (by omega)
                    have HT4 : Aside0 (finD a0 l (chkD a0 (l.map (·.f0)) (l.drop (k + 1)) t3) = (r1, r2, r3)) := ⟨by
                      have h := HG.out
                      rw [List.drop_length] at h
                      exact h⟩
                    have wk : wrap64 ((k : Int) + 1) = ((k + 1 : Nat) : Int) := by rw [← i64_w, IntKind.wrap_i64]; have := HLN.out.1; have := HN.out.2; omega
                    have WN := Aside0.mk (congrArg (Value.int IntKind.i64) wk)
                    have WI := Aside0.mk wk
                    clear wk HG hjt
                    as_aux_lemma =>
                    go_wp2
                    go_roundw
                    case rel => exact ⟨k + 1, t3, HLT.out, by first | exact WN.out | exact WI.out, HD, HT4⟩
                    case measure => exact ms_val HLT.out WN.out
              · obtain rfl : k = l.length := by omega
                have bk2 : decide ((l.length : Int) < (l.length : Int)) = false := decide_eq_false (by omega)
                have HS : Aside0 (finD a0 l t2 = (r1, r2, r3)) := ⟨by
                  have h := HG.out
                  rw [List.drop_length] at h
                  exact h⟩
                have c0_6 := HD.out.c0
                clear HG hlt
                by_cases hz : t2.2.1 = 0
                · have z0 : (t2.2.1 != 0) = false := bne_eq_false_iff_eq.2 hz
                  have hs : (l, (0 : Int), (0 : Int)) = (r1, r2, r3) := by
                    have h := HS.out
                    unfold finD at h
                    rw [if_neg (fun h => h hz)] at h
                    exact h
                  injection hs with e1 e2
                  injection e2 with e2 e3
                  subst e1 e2 e3
                  clear hz HS
                  as_aux_lemma =>
                  go_wp2_with (first | (go_at_call 65; refine (err_any w _ g a0 t2 HD.out.ri).mono ?_; rintro e9 w9 ⟨rfl, hI9, hk9⟩; have H9 := Aside0.mk (HD.out.rd hI9 hk9); clear hI9 hk9) | go_in)
                  go_ret3
                  exact ⟨_, rfl, H9.out.out, H9.out.ri.2⟩
                · have z0 : (t2.2.1 != 0) = true := bne_iff_ne.2 hz
                  have hs : (([] : List S82), t2.2.1, t2.2.2) = (r1, r2, r3) := by
                    have h := HS.out
                    unfold finD at h
                    rw [if_pos hz] at h
                    exact h
                  injection hs with e1 e2
                  injection e2 with e2 e3
                  subst e1 e2 e3
                  clear hz HS
                  as_aux_lemma =>
                  go_wp2_with (first | (go_at_call 65; refine (err_any w _ g a0 t2 HD.out.ri).mono ?_; rintro e9 w9 ⟨rfl, hI9, hk9⟩; have H9 := Aside0.mk (HD.out.rd hI9 hk9); clear hI9 hk9) | go_in)
                  go_ret3
                  exact ⟨_, rfl, Kd.S_nil _ _ _ _ _, H9.out.ri.2⟩
end Go.Proofs.Ytfnjbmpolggdeaa.CW
end
section
namespace Go.Proofs.Ytfnjbmpolggdeaa.CW
open Go.RowKit Go.Lib Go.Proofs.YtfnjbmpolggdeaaW.PrintWords Go.Proofs.YtfnjbmpolggdeaaW.PrintLast Go.Proofs.YtfnjbmpolggdeaaW.PrintMore
set_option linter.unusedVariables false
set_option linter.unusedSimpArgs false
set_option maxHeartbeats 8000000 in
set_option maxRecDepth 100000 in
theorem code_Encode.calls (A0 : Option Addr) (c0 : Nat) (l0 : List (S82)) (r1 : ByteArray) (r2 : Int) (r3 : Int) (w : World) (hr0 : Kd.C k82 w A0 l0.length l0) (hc0 : l0.length ≤ c0) (h : code_Encode.f l0 = some (r1, r2, r3)) :
    Calls Try.prog 39 #[.slice A0 l0.length c0] w fun e w' => e = .returned (.tuple #[.string r1, .int .i64 r2, .int .i64 r3]) ∧ Below w.heap.size w w' := by
  unfold code_Encode.f at h
  by_cases hp : encOK l0
  · rw [if_pos hp, Option.some.injEq] at h
    have H := Aside0.mk h
    have HP := Aside0.mk hp
    have HN0 := Aside0.mk hp.1
    have HR0 := Aside0.mk hr0
    have HC0 := Aside0.mk hc0
    clear h hp hr0 hc0
    have hbelA := below_alloc (Below.refl w.heap.size w) (.cells #[.slice none 0 0, .bool true] 114)
    have hEL : EL w ((w.alloc (.cells #[.slice none 0 0, .bool true] 114)).alloc (.map #[] 0)) (.map []) 0 (.slice none 0 0) ([], true) := by
      have hs : (w.alloc (.cells #[.slice none 0 0, .bool true] 114)).heap.size = w.heap.size + 1 := Array.size_push _
      have hbw : BW w.heap.size (w.alloc (.cells #[.slice none 0 0, .bool true] 114)) w.heap.size 114 (ewC true) (.slice none 0 0) [] := ⟨Array.getElem?_push_size, Nat.le_refl _, mrow.nil _ _ _⟩
      have hbelB := below_alloc (Below.refl _ (w.alloc (.cells #[.slice none 0 0, .bool true] 114))) (.map #[] 0)
      refine ⟨hbw.below hbelB, below_then hbelA hbelA.size hbelB, ?_⟩
      rw [← hs]
      exact World.ownsMap_made _ _ _ _
    have HEL := Aside0.mk hEL
    clear hbelA hEL
    have hmm := @run_makeMap Try.prog
    go_enter Try.func39, Try.ntmps39
    go_wp2_with fail
    clear hmm
    go_loopw [21] (fun i wr => ∃ (k n : Nat) (V : Value) (b : List Nat) (D : DataW Unit), k ≤ l0.length ∧ i = .int .i64 k ∧ Aside0 (EL w wr D n V (b, true)) ∧ Aside0 (n ≤ k ∧ b.length ≤ 65535) ∧ Aside0 (Has D ((l0.take k).map (·.f0))) ∧ Aside0 (encG l0 (l0.drop k) k b = (r1, r2, r3))) (fun i _ => l0.length - (intOf i).toNat)
    case atStart => exact ⟨0, 0, .slice none 0 0, [], .map [], Nat.zero_le _, rfl, HEL, ⟨Nat.le_refl _, Nat.zero_le _⟩, ⟨Has.nil⟩, H⟩
    case round =>
      clear HEL H
      obtain ⟨k, n, V, b, D, hk, rfl, HE, HNB, HD, HG⟩ := hrel
      by_cases hlt : k < l0.length
      · have bk : decide ((k : Int) < (l0.length : Int)) = true := decide_eq_true (by omega)
        have HG2 := Aside0.mk ((show encG l0 (l0[k] :: l0.drop (k + 1)) k b = (r1, r2, r3) from (List.drop_eq_getElem_cons hlt) ▸ HG.out))
        have HTK := Aside0.mk (show (l0.take (k + 1)).map (·.f0) = (l0.take k).map (·.f0) ++ [l0[k].f0] by rw [List.take_succ_eq_append_getElem hlt, List.map_append]; rfl)
        clear HG
        obtain ⟨ad0, A6, c6, A7, c7, e0, x0, x1, x2, x3, x4, x5, x6, x7, hl6, hi6, hl7, hi7⟩ := at_T82 HR0.out (k : Int) (by omega) (by omega)
        subst e0
        rw [rdI_at hlt] at x0 x1 x2 x3 x4 x5 x6 x7 hl6 hi6 hl7 hi7
        simp only [Int.toNat_natCast] at x0 x1 x2 x3 x4 x5 x6 x7
        have y0 := pw_cell_below HE.out.2.1 x0
        have y1 := pw_cell_below HE.out.2.1 x1
        have y2 := pw_cell_below HE.out.2.1 x2
        have y3 := pw_cell_below HE.out.2.1 x3
        have y4 := pw_cell_below HE.out.2.1 x4
        have y5 := pw_cell_below HE.out.2.1 x5
        have y6 := pw_cell_below HE.out.2.1 x6
        have y7 := pw_cell_below HE.out.2.1 x7
        have HX6 := Aside0.mk (And.intro hi6 hl6)
        have HX7 := Aside0.mk (And.intro hi7 hl7)
        have HOK := Aside0.mk (HP.out.2 _ (List.getElem_mem hlt))
        have HLT := Aside0.mk hlt
        clear x0 x1 x2 x3 x4 x5 x6 x7 hi6 hl6 hi7 hl7 hk
        generalize l0[k] = x at *
        have HS := Aside0.mk ((encG.eq_2 ..).symm.trans HG2.out)
        clear HG2
        have HISM := Aside0.mk (show Maps.IsMap D from World.ownsMap.isMap HE.out.2.2)
        obtain ⟨A, c, rfl⟩ := HE.out.sl
        have HB1 := Aside0.mk (ES.start HE.out #[.int .i64 x.f0, .int .u8 x.f1, .bool x.f2, .int .i64 x.f3, .int .i64 x.f4, .int .i64 x.f5, .slice A6 x.f6.length c6, .slice A7 x.f7.length c7])
        clear HE
        go_wp2_with fail
        have c0_1 := HB1.out.1.c0
        have c1_1 := HB1.out.1.c1
        obtain ⟨b0_1, b1_1, b2_1, b3_1, b4_1, b5_1, b6_1, b7_1⟩ := box8 HB1.out.2.1
        by_cases g0 : x.f0 = (b.length : Int)
        · have q0 : (x.f0 != (b.length : Int)) = false := bne_eq_false_iff_eq.2 g0
          have HKEY := Aside0.mk (Maps.keyOf_int_mk (P := Try.prog) Try.underlying3 (a := x.f0) (by rw [g0]; exact wf_nat (by have := HNB.out.2; omega)))
          have HVAL := Aside0.mk (plainElem_int (H := Unit) (P := Try.prog) Try.underlying3 (a := (k : Int)) (wf_nat (by have := HN0.out; omega)))
          have HROOM : n < maxLen := by have := HNB.out.1; have := HN0.out; unfold maxLen; omega
          have HG0 := Aside0.mk g0
          clear g0
          go_quiet (fail)
          go_upto_region 9 with (first | (at_mapUpdate; refine wpList_mapUpdate_own _ rfl _ _ _ 115 rfl 3 3 lawI Try.underlying115 _ (w.heap.size + 1) n D rfl (by first | exact HB1.out.1.2.2 | exact (HB1.out.step (drewNB _ _)).1.2.2 | exact (HB1.out.step (drewB _)).1.2.2) HROOM (.int .i64 x.f0) (.int .i64 k) (.int .i64 x.f0) rfl rfl HKEY.out (.lit (.int .i64 k)) [] HVAL.out ?_; intro w2 hown2 hg2; have HB2 := Aside0.mk (ES.map (by first | exact HB1.out | exact HB1.out.step (drewNB _ _) | exact HB1.out.step (drewB _)) hown2 hg2); obtain ⟨b0_2, b1_2, b2_2, b3_2, b4_2, b5_2, b6_2, b7_2⟩ := box8 HB2.out.2.1; clear hown2 hg2) | go_in)
          go_upto_region 10 with ((go_at_call 78; refine (code_form.calls 3 x.f1 (formF x.f1) _ (formF_some _)).mono ?_; rintro e3 w3 ⟨rfl, hd3⟩))
          have HB3 := Aside0.mk (HB2.out.step hd3.below)
          clear b0_1 b1_1 b2_1 b3_1 b4_1 b5_1 b6_1 b7_1
          clear b0_2 b1_2 b2_2 b3_2 b4_2 b5_2 b6_2 b7_2
          clear hd3 HB1 HB2 HKEY HVAL HROOM q0 c0_1 c1_1
          have HD2 := Aside0.mk (HD.out.put HISM.out x.f0 (.lit (.int .i64 k)))
          rw [← HTK.out] at HD2
          obtain ⟨f, hf⟩ : ∃ f, formF x.f1 = f := ⟨_, rfl⟩
          rw [hf] at HS ⊢
          have HF := Aside0.mk hf
          have HFR := Aside0.mk (hf ▸ formF_le x.f1)
          clear hf
          obtain ⟨b0_3, b1_3, b2_3, b3_3, b4_3, b5_3, b6_3, b7_3⟩ := box8 HB3.out.2.1
          have HS2 := Aside0.mk ((if_neg (fun h => h HG0.out)).symm.trans HS.out)
          go_cut [59] from 42 to 58 (fun vv wc => vv = .bool (badF x) ∧ Aside0 (ES w wc (D.put (.int .i64 x.f0) (.lit (.int .i64 k))) (n + 1) (.slice A b.length c) (b, true) wr.heap.size #[.int .i64 x.f0, .int .u8 x.f1, .bool x.f2, .int .i64 x.f3, .int .i64 x.f4, .int .i64 x.f5, .slice A6 x.f6.length c6, .slice A7 x.f7.length c7]))
          case first =>
            as_aux_lemma =>
            by_cases h1 : f = 1
            · have q1 : (f == 1) = true := beq_iff_eq.2 h1
              have hbad : badF x = true := by unfold badF; rw [HF.out]; simp [*]
              clear hlt
              go_wp2
              go_meet
              case rel => exact ⟨by rw [hbad], ⟨HB3.out⟩⟩
              
            · have q1 : (f == 1) = false := beq_eq_false_iff_ne.2 h1
              by_cases h2 : f = 15
              · have q2 : (f == 15) = true := beq_iff_eq.2 h2
                have hbad : badF x = true := by unfold badF; rw [HF.out]; simp [*]
                clear hlt
                go_wp2
                go_meet
                case rel => exact ⟨by rw [hbad], ⟨HB3.out⟩⟩
                
              · have q2 : (f == 15) = false := beq_eq_false_iff_ne.2 h2
                obtain ⟨z2, hz2⟩ : ∃ z2, x.f2 = z2 := ⟨_, rfl⟩
                have hz3 := b2_3
                rw [hz2] at hz3
                cases z2 with
                | false =>
                  have hbad : badF x = false := by unfold badF; rw [HF.out]; simp [*]
                  clear hlt
                  go_wp2
                  go_meet
                  case rel => exact ⟨by rw [hbad], ⟨HB3.out⟩⟩
                  
                | true =>
                  by_cases h6 : f = 6
                  · have q6 : (f != 6) = false := bne_eq_false_iff_eq.2 h6
                    have hbad : badF x = false := by unfold badF; rw [HF.out]; simp [*]
                    clear hlt
                    go_wp2
                    go_meet
                    case rel => exact ⟨by rw [hbad], ⟨HB3.out⟩⟩
                    
                  · have q6 : (f != 6) = true := bne_iff_ne.2 h6
                    by_cases h7 : f = 7
                    · have q7 : (f != 7) = false := bne_eq_false_iff_eq.2 h7
                      have hbad : badF x = false := by unfold badF; rw [HF.out]; simp [*]
                      clear hlt
                      go_wp2
                      go_meet
                      case rel => exact ⟨by rw [hbad], ⟨HB3.out⟩⟩
                      
                    · have q7 : (f != 7) = true := bne_iff_ne.2 h7
                      have hbad : badF x = true := by unfold badF; rw [HF.out]; simp [*]
                      clear hlt
                      go_wp2
                      go_meet
                      case rel => exact ⟨by rw [hbad], ⟨HB3.out⟩⟩
                      
          case rest =>
            obtain ⟨rfl, HW⟩ := hcut
            clear b0_3 b1_3 b2_3 b3_3 b4_3 b5_3 b6_3 b7_3
            clear HB3
            obtain ⟨b0_4, b1_4, b2_4, b3_4, b4_4, b5_4, b6_4, b7_4⟩ := box8 HW.out.2.1
            by_cases hC : badF x = true
            · rw [hC]
              have HC := Aside0.mk hC
              clear hC
              as_aux_lemma =>
              go_wp2
              go_ret3
              have hs := HS2.out
              (try dsimp only at hs)
              rw [if_pos HC.out] at hs
              injection hs with e1 e2
              injection e2 with e2 e3
              subst e1 e2 e3
              exact ⟨rfl, HW.out.1.2.1⟩
            · have hC2 : badF x = false := Bool.eq_false_iff.2 hC
              rw [hC2]
              have HC := Aside0.mk hC
              have HFG : Aside0 (0 ≤ f ∧ f ≤ 15 ∧ f ≠ 1 ∧ f ≠ 15) := ⟨by
                have h := HF.out
                have h2 := HFR.out
                refine ⟨h2.1, h2.2, ?_, ?_⟩
                · rintro rfl; unfold badF at hC2; rw [h] at hC2; simp at hC2
                · rintro rfl; unfold badF at hC2; rw [h] at hC2; simp at hC2⟩
              clear hC hC2
              go_wp2_with fail
              refine (one_any w _ w.heap.size _ (b, true) x A6 c6 A7 c7 f HFG.out HOK.out.1 HX6.out.1 HX6.out.2 HX7.out.1 HX7.out.2 HW.out.1.1 HW.out.1.2.1 (by have := HOK.out.2.2.1; have := HNB.out.2; dsimp only; omega)).mono ?_
              rintro e5 w5 ⟨rfl, hb5, v5, hw5, hs5⟩
              have H5 := Aside0.mk (HW.out.call hw5 hb5 hs5)
              clear b0_4 b1_4 b2_4 b3_4 b4_4 b5_4 b6_4 b7_4
              clear hw5 hb5 hs5 HW
              have HQ5 : Aside0 (x.f0 ≠ (b.length : Int) → False) := ⟨fun h => h HG0.out⟩
              generalize oneF f x (b, true) = s5 at *
              obtain ⟨b5, ok5⟩ := s5
              have c1_5 := H5.out.1.c1
              cases ok5 with
              | false =>
                dsimp only at c1_5
                as_aux_lemma =>
                go_wp2
                go_ret3
                have hs : ((⟨#[]⟩ : ByteArray), (15 : Int), (k : Int)) = (r1, r2, r3) := by
                  have h := HS2.out
                  rw [if_neg HC.out] at h
                  exact h
                injection hs with e1 e2
                injection e2 with e2 e3
                subst e1 e2 e3
                exact ⟨rfl, H5.out.1.2.1⟩
              | true =>
                dsimp only at c1_5
                obtain ⟨A5, c5, rfl⟩ := H5.out.1.sl
                have c0_5 := H5.out.1.c0
                by_cases hl : 65535 < b5.length
                · have ql : decide ((b5.length : Int) > 65535) = true := decide_eq_true (by omega)
                  have HLL := Aside0.mk hl
                  clear hl
                  as_aux_lemma =>
                  go_wp2
                  go_ret3
                  have hs := HS2.out
                  (try dsimp only at hs)
                  rw [if_neg HC.out, if_neg (show ¬ (true = false) by decide), if_pos HLL.out] at hs
                  injection hs with e1 e2
                  injection e2 with e2 e3
                  subst e1 e2 e3
                  exact ⟨rfl, H5.out.1.2.1⟩
                · have ql : decide ((b5.length : Int) > 65535) = false := decide_eq_false (by omega)
                  have HS4 : Aside0 (encG l0 (l0.drop (k + 1)) (k + 1) b5 = (r1, r2, r3)) := ⟨by
                    have hs := HS2.out
                    (try dsimp only at hs)
                    rw [if_neg HC.out, if_neg (show ¬ (true = false) by decide), if_neg hl] at hs
                    exact hs⟩
                  have HL5 := Aside0.mk (show b5.length ≤ 65535 by omega)
                  clear hl
                  have wk : wrap64 ((k : Int) + 1) = ((k + 1 : Nat) : Int) := by rw [← i64_w, IntKind.wrap_i64]; have := HN0.out; omega
                  have WN := Aside0.mk (congrArg (Value.int IntKind.i64) wk)
                  have WI := Aside0.mk wk
                  clear wk
                  go_wp2
                  go_roundw
                  case rel => exact ⟨k + 1, n + 1, _, b5, _, HLT.out, by first | exact WN.out | exact WI.out, ⟨H5.out.1⟩, ⟨by have := HNB.out.1; omega, HL5.out⟩, HD2, HS4⟩
                  case measure => exact ms_val HLT.out WN.out
        · have q0 : (x.f0 != (b.length : Int)) = true := bne_iff_ne.2 g0
          have HQ := Aside0.mk g0
          clear g0
          as_aux_lemma =>
          go_quiet (fail)
          go_wp2
          go_ret3
          have hs := HS.out
          rw [if_pos HQ.out] at hs
          injection hs with e1 e2
          injection e2 with e2 e3
          subst e1 e2 e3
          exact ⟨rfl, by first | exact HB1.out.1.2.1 | exact pw_below_drewN HB1.out.1.2.1 _ | exact (HB1.out.step (drewB _)).1.2.1⟩
      · obtain rfl : k = l0.length := by omega
        have bk : decide ((l0.length : Int) < (l0.length : Int)) = false := decide_eq_false (by omega)
        have HS0 := HG.out
        rw [List.drop_length] at HS0
        have HS := Aside0.mk ((encG.eq_1 ..).symm.trans HS0)
        have HKS : Aside0 (Has D (l0.map (·.f0))) := ⟨by have h := HD.out; rw [List.take_length] at h; exact h⟩
        clear HS0 HG HD hlt
        by_cases hz : l0.length = 0
        · have qz : ((l0.length : Int) == 0) = true := beq_iff_eq.2 (by omega)
          have HZ := Aside0.mk hz
          clear hz
          as_aux_lemma =>
          go_wp2
          go_ret3
          have hs := HS.out
          rw [if_pos HZ.out] at hs
          injection hs with e1 e2
          injection e2 with e2 e3
          subst e1 e2 e3
          exact ⟨rfl, HE.out.2.1⟩
        · have qz : ((l0.length : Int) == 0) = false := beq_eq_false_iff_ne.2 (by omega)
          have HT : Aside0 (tgtG (l0.map (·.f0)) b l0 0 = (r1, r2, r3)) := ⟨(if_neg hz).symm.trans HS.out⟩
          clear hz HS
          have HEE := HE
          go_wp2_with fail
          go_loopw [84] (fun i wr2 => ∃ k : Nat, k ≤ l0.length ∧ i = .int .i64 k ∧ Aside0 (EL w wr2 D n V (b, true)) ∧ Aside0 (tgtG (l0.map (·.f0)) b (l0.drop k) k = (r1, r2, r3))) (fun i _ => l0.length - (intOf i).toNat)
          case atStart => exact ⟨0, Nat.zero_le _, rfl, ⟨HEE.out⟩, HT⟩
          case round =>
            clear HE HEE HT
            obtain ⟨k, hk, rfl, HE, HG⟩ := hrel
            by_cases hlt : k < l0.length
            · have bk2 : decide ((k : Int) < (l0.length : Int)) = true := decide_eq_true (by omega)
              have HG2 := Aside0.mk ((show tgtG (l0.map (·.f0)) b (l0[k] :: l0.drop (k + 1)) k = (r1, r2, r3) from (List.drop_eq_getElem_cons hlt) ▸ HG.out))
              clear HG
              obtain ⟨ad0, A6, c6, A7, c7, e0, x0, x1, x2, x3, x4, x5, x6, x7, hl6, hi6, hl7, hi7⟩ := at_T82 HR0.out (k : Int) (by omega) (by omega)
              subst e0
              rw [rdI_at hlt] at x0 x1 x2 x3 x4 x5 x6 x7 hl6 hi6 hl7 hi7
              simp only [Int.toNat_natCast] at x0 x1 x2 x3 x4 x5 x6 x7
              have y0 := pw_cell_below HE.out.2.1 x0
              have y1 := pw_cell_below HE.out.2.1 x1
              have y2 := pw_cell_below HE.out.2.1 x2
              have y3 := pw_cell_below HE.out.2.1 x3
              have y4 := pw_cell_below HE.out.2.1 x4
              have y5 := pw_cell_below HE.out.2.1 x5
              have y6 := pw_cell_below HE.out.2.1 x6
              have y7 := pw_cell_below HE.out.2.1 x7
              have HX6 := Aside0.mk (And.intro hi6 hl6)
              have HX7 := Aside0.mk (And.intro hi7 hl7)
              have HOK := Aside0.mk (HP.out.2 _ (List.getElem_mem hlt))
              have HLT := Aside0.mk hlt
              clear x0 x1 x2 x3 x4 x5 x6 x7 hi6 hl6 hi7 hl7 hk
              generalize l0[k] = x at *
              have HS := Aside0.mk ((tgtG.eq_2 ..).symm.trans HG2.out)
              clear HG2
              have HB1 := Aside0.mk (ES.start HE.out #[.int .i64 x.f0, .int .u8 x.f1, .bool x.f2, .int .i64 x.f3, .int .i64 x.f4, .int .i64 x.f5, .slice A6 x.f6.length c6, .slice A7 x.f7.length c7])
              clear HE
              go_wp2_with fail
              go_loopw [92] (fun i wr3 => ∃ j : Nat, j ≤ x.f7.length ∧ i = .int .i64 j ∧ Aside0 (EL w wr3 D n V (b, true)) ∧ Aside0 ((if (x.f7.drop j).all (fun t => decide (t ∈ l0.map (·.f0))) = true then tgtG (l0.map (·.f0)) b (l0.drop (k + 1)) (k + 1) else ((⟨#[]⟩ : ByteArray), 16, (k : Int))) = (r1, r2, r3))) (fun i _ => x.f7.length - (intOf i).toNat)
              case atStart => exact ⟨0, Nat.zero_le _, rfl, ⟨HB1.out.1⟩, HS⟩
              case round =>
                clear HB1 HS y0 y1 y2 y3 y4 y5 y6 y7
                obtain ⟨j, hj, rfl, HE, HG⟩ := hrel
                by_cases hjt : j < x.f7.length
                · have bj : decide ((j : Int) < (x.f7.length : Int)) = true := decide_eq_true (by omega)
                  obtain ⟨ad7, e7, z0⟩ := Kd.at_int HX7.out.1 (j : Int) (by omega) (by omega)
                  subst e7
                  simp only [Int.toNat_natCast] at z0
                  have y0 := pw_cell_below HE.out.2.1 z0
                  have hrd : rd x.f7 (j : Int) = x.f7[j] := by unfold rd; rw [Int.toNat_natCast, List.getD_eq_getElem?_getD, List.getElem?_eq_getElem hjt]; rfl
                  rw [hrd] at y0
                  have HKEY := Aside0.mk (Maps.keyOf_int_mk (P := Try.prog) Try.underlying3 (a := x.f7[j]) (HOK.out.2.2.2 _ (List.getElem_mem hjt)))
                  have HG2 : Aside0 ((if (x.f7[j] :: x.f7.drop (j + 1)).all (fun t => decide (t ∈ l0.map (·.f0))) = true then tgtG (l0.map (·.f0)) b (l0.drop (k + 1)) (k + 1) else ((⟨#[]⟩ : ByteArray), 16, (k : Int))) = (r1, r2, r3)) := ⟨(List.drop_eq_getElem_cons hjt) ▸ HG.out⟩
                  clear HG z0 hrd
                  have HJT := Aside0.mk hjt
                  have HHT := Aside0.mk (HKS.out x.f7[j])
                  generalize x.f7[j] = t at *
                  by_cases ht : t ∈ l0.map (·.f0)
                  · have HH : Maps.has D (.int .i64 t) = true := by rw [HHT.out]; exact decide_eq_true ht
                    have HT3 : Aside0 ((if (x.f7.drop (j + 1)).all (fun t => decide (t ∈ l0.map (·.f0))) = true then tgtG (l0.map (·.f0)) b (l0.drop (k + 1)) (k + 1) else ((⟨#[]⟩ : ByteArray), 16, (k : Int))) = (r1, r2, r3)) := ⟨by
                      have h := HG2.out
                      rw [List.all_cons, decide_eq_true ht, Bool.true_and] at h
                      exact h⟩
                    have wk : wrap64 ((j : Int) + 1) = ((j + 1 : Nat) : Int) := by rw [← i64_w, IntKind.wrap_i64]; have := HOK.out.2.2.1; omega
                    have WN := Aside0.mk (congrArg (Value.int IntKind.i64) wk)
                    have WI := Aside0.mk wk
                    clear wk ht HG2 hj
                    go_wp2_with (first | (at_lookup; refine wpList_lookup_own_ok_int _ rfl _ _ 115 rfl 3 3 .i64 lawI Try.underlying115 Try.underlying3 (zeroI _) (w.heap.size + 1) n D rfl HE.out.2.2 (.int .i64 t) (.int .i64 t) rfl HKEY.out ?_; intro cc hat hwc; clear hat hwc) | go_in)
                    go_roundw
                    case rel => exact ⟨j + 1, HJT.out, by first | exact WN.out | exact WI.out, HE, HT3⟩
                    case measure => exact ms_val HJT.out WN.out
                  · have HH : Maps.has D (.int .i64 t) = false := by rw [HHT.out]; exact decide_eq_false ht
                    have hs : ((⟨#[]⟩ : ByteArray), (16 : Int), (k : Int)) = (r1, r2, r3) := by
                      have h := HG2.out
                      rw [List.all_cons, decide_eq_false ht, Bool.false_and, if_neg (by decide)] at h
                      exact h
                    have HSS := Aside0.mk hs
                    clear hs ht HG2 hj
                    go_wp2_with (first | (at_lookup; refine wpList_lookup_own_ok_int _ rfl _ _ 115 rfl 3 3 .i64 lawI Try.underlying115 Try.underlying3 (zeroI _) (w.heap.size + 1) n D rfl HE.out.2.2 (.int .i64 t) (.int .i64 t) rfl HKEY.out ?_; intro cc hat hwc; clear hat hwc) | go_in)
                    go_ret3
                    have hs := HSS.out
                    injection hs with e1 e2
                    injection e2 with e2 e3
                    subst e1 e2 e3
                    exact ⟨rfl, HE.out.2.1⟩
                · obtain rfl : j = x.f7.length := by omega
                  have bj : decide ((x.f7.length : Int) < (x.f7.length : Int)) = false := decide_eq_false (by omega)
                  have HT3 : Aside0 (tgtG (l0.map (·.f0)) b (l0.drop (k + 1)) (k + 1) = (r1, r2, r3)) := ⟨by
                    have h := HG.out
                    rw [List.drop_length] at h
                    exact h⟩
                  have wk : wrap64 ((k : Int) + 1) = ((k + 1 : Nat) : Int) := by rw [← i64_w, IntKind.wrap_i64]; have := HN0.out; omega
                  have WN := Aside0.mk (congrArg (Value.int IntKind.i64) wk)
                  have WI := Aside0.mk wk
                  clear wk
                  go_wp2
                  go_roundw
                  case rel => exact ⟨k + 1, HLT.out, by first | exact WN.out | exact WI.out, HE, HT3⟩
                  case measure => exact ms_val HLT.out WN.out
            · obtain rfl : k = l0.length := by omega
              have bk2 : decide ((l0.length : Int) < (l0.length : Int)) = false := decide_eq_false (by omega)
              have hs0 := HG.out
              rw [List.drop_length] at hs0
              have HSS := Aside0.mk ((tgtG.eq_1 ..).symm.trans hs0)
              have hstr := HE.out.str
              have c0_9 := HE.out.c0
              obtain ⟨A, c, rfl⟩ := HE.out.sl
              clear hs0 HG hlt
              go_wp2
              go_ret3
              have hs := HSS.out
              injection hs with e1 e2
              injection e2 with e2 e3
              subst e1 e2 e3
              exact ⟨rfl, HE.out.2.1⟩
  · rw [if_neg hp] at h
    exact absurd h (by simp)
end Go.Proofs.Ytfnjbmpolggdeaa.CW
end
section
namespace Go.Proofs.Ytfnjbmpolggdeaa.CW
open Go.RowKit Go.Proofs.YtfnjbmpolggdeaaW.PrintWords Go.Proofs.YtfnjbmpolggdeaaW.PrintLast Go.Proofs.YtfnjbmpolggdeaaW.PrintMore
attribute [local go_sem] max2_int min2_int max_two min_two max_three min_three max_four min_four   -- for this text's walks alone
set_option linter.unusedVariables false
set_option linter.unusedSimpArgs false
def jvmcorelaw2_CodeRounds.f (a0 : ByteArray) : Option (Bool) := if (a0.size : Int) > 32768 then (some true) else ((code_Decode.f a0).bind fun bt189 => (if bt189.2.1 = 0 then ((code_Encode.f bt189.1).bind fun bt194 => (if bt194.2.1 = 0 then (some (bt194.1.toList == a0.toList)) else (some false))) else ((code_Decode.f (⟨#[0, 177]⟩ : ByteArray)).bind fun bt197 => (if (bt189.1.length : Int) = 0 then (if bt197.2.1 = 0 then (if (bt197.1.length : Int) = 2 then (if 1 < (bt197.1.length : Int) then (some (((rd_T82 bt197.1 1).f0) == 1)) else (none)) else (some false)) else (some false)) else (some false)))))
set_option maxHeartbeats 8000000 in
set_option maxRecDepth 100000 in
theorem jvmcorelaw2_CodeRounds.calls (a0 : ByteArray) (r : Bool) (w : World) (h : jvmcorelaw2_CodeRounds.f a0 = some r) :
    Calls Try.prog 16 #[.string a0] w fun e w' => e = .returned (.bool r) ∧ Below w.heap.size w w' := by
  have HB := Aside0.mk (Below.refl w.heap.size w)
  have H : (if (a0.size : Int) > 32768 then (some true) else ((code_Decode.f a0).bind fun bt189 => (if bt189.2.1 = 0 then ((code_Encode.f bt189.1).bind fun bt194 => (if bt194.2.1 = 0 then (some (bt194.1.toList == a0.toList)) else (some false))) else ((code_Decode.f (⟨#[0, 177]⟩ : ByteArray)).bind fun bt197 => (if (bt189.1.length : Int) = 0 then (if bt197.2.1 = 0 then (if (bt197.1.length : Int) = 2 then (if 1 < (bt197.1.length : Int) then (some (((rd_T82 bt197.1 1).f0) == 1)) else (none)) else (some false)) else (some false)) else (some false)))))) = some r := h
  clear h
  by_cases c2 : (a0.size : Int) > 32768
  · rw [if_pos c2] at H
    have c2b0 : decide (32768 < (a0.size : Int)) = true := decide_eq_true c2
    have c2b1 : decide (32768 < a0.size) = true := decide_eq_true (by omega)
    clear c2
    obtain rfl := Option.some.inj H
    go_enter Try.func16, Try.ntmps16
    go_wp2
    go_ret
    exact ⟨by first | rfl | (simp [errW_none, errW_some] <;> rfl) | (simp [*, errW_none, errW_some] <;> rfl), by repeat (first | (with_reducible first | exact HB.out | apply below_alloc | apply pw_below_drewN | apply below_drew1) | exact HB.out)⟩
  · rw [if_neg c2] at H
    have c2b0 : decide (32768 < (a0.size : Int)) = false := decide_eq_false c2
    have c2b1 : decide (32768 < a0.size) = false := decide_eq_false (by omega)
    clear c2
    replace H := Option.bind_eq_some_iff.mp H
    obtain ⟨⟨t189, t190, t191⟩, A30, H⟩ := H
    replace H : (if t190 = 0 then ((code_Encode.f t189).bind fun bt194 => (if bt194.2.1 = 0 then (some (bt194.1.toList == a0.toList)) else (some false))) else ((code_Decode.f (⟨#[0, 177]⟩ : ByteArray)).bind fun bt197 => (if (t189.length : Int) = 0 then (if bt197.2.1 = 0 then (if (bt197.1.length : Int) = 2 then (if 1 < (bt197.1.length : Int) then (some (((rd_T82 bt197.1 1).f0) == 1)) else (none)) else (some false)) else (some false)) else (some false)))) = some r := H
    have A3 := Aside0.mk A30
    clear A30
    by_cases c4 : t190 = 0
    · rw [if_pos c4] at H
      have c4b0 : (t190 == 0) = true := beq_iff_eq.mpr c4
      have c4b1 : (t190 != 0) = false := bne_eq_false_iff_eq.mpr c4
      clear c4
      replace H := Option.bind_eq_some_iff.mp H
      obtain ⟨⟨t194, t195, t196⟩, A50, H⟩ := H
      replace H : (if t195 = 0 then (some (t194.toList == a0.toList)) else (some false)) = some r := H
      have A5 := Aside0.mk A50
      clear A50
      by_cases c6 : t195 = 0
      · rw [if_pos c6] at H
        have c6b0 : (t195 == 0) = true := beq_iff_eq.mpr c6
        have c6b1 : (t195 != 0) = false := bne_eq_false_iff_eq.mpr c6
        clear c6
        obtain rfl := Option.some.inj H
        go_enter Try.func16, Try.ntmps16
        go_wp2_with (first | ((with_reducible refine gate_callee (f := 48) rfl ?_); refine goesL_ (some 16) rfl rfl Try.func48 (by kernel_rfl) rfl #[.string a0] rfl (by (try simp only [List.map_toArray, List.map_cons, List.map_nil]); first | done | rfl | (simp only [List.length_drop, List.length_take]; rfl)) ?_; (with_reducible refine (code_Decode.calls a0 t189 t190 t191 _ A3.out).mono ?_); rintro e w7 ⟨v192, rfl, ho0, hb⟩; refine ⟨_, rfl, ?_⟩; have n0_ := Aside0.mk (Kd.S_lower ho0 (below_size (by repeat (first | (with_reducible first | exact HB.out | apply below_alloc | apply pw_below_drewN | apply below_drew1) | exact HB.out)))); have n1_ := Aside0.mk (below_step (by repeat (first | (with_reducible first | exact HB.out | apply below_alloc | apply pw_below_drewN | apply below_drew1) | exact HB.out)) hb); clear HB; have HO193 := n0_; have HB := n1_; clear n0_ n1_; (try clear hb); (try clear hb2); (try clear hk); (try clear hi); (try clear ho0); obtain ⟨Ao8, co8, eo8⟩ := Kd.S_slice HO193.out; subst eo8) | ((with_reducible refine gate_callee (f := 39) rfl ?_); refine goesL_ (some 48) rfl rfl Try.func39 (by kernel_rfl) rfl #[.slice Ao8 t189.length co8] rfl (by (try simp only [List.map_toArray, List.map_cons, List.map_nil]); first | done | rfl | (simp only [List.length_drop, List.length_take]; rfl)) ?_; (with_reducible refine (code_Encode.calls _ _ t189 t194 t195 t196 _ ?side1 ?side2 A5.out).mono ?_); (case side1 => repeat (first | exact (Kd.S_reads' HO193.out).2.2 | (with_reducible refine Kd.C_alloc ?_ _) | (with_reducible refine Kd.C_drewN ?_ _) | (with_reducible refine Kd.C_drew ?_))); (case side2 => exact (Kd.S_reads' HO193.out).2.1); rintro e w9 ⟨rfl, hb⟩; refine ⟨_, rfl, ?_⟩; have n0_ := Aside0.mk (Kd.S_below (by (with_reducible repeat (first | apply Kd.S_alloc | apply Kd.S_drewN | apply Kd.S_drew)); exact HO193.out) hb); have n1_ := Aside0.mk (below_step (by repeat (first | (with_reducible first | exact HB.out | apply below_alloc | apply pw_below_drewN | apply below_drew1) | exact HB.out)) hb); clear HO193; clear HB; have HO193 := n0_; have HB := n1_; clear n0_ n1_; (try clear hb); (try clear hb2); (try clear hk); (try clear hi)))
        go_ret
        exact ⟨by first | rfl | (simp [errW_none, errW_some] <;> rfl) | (simp [*, errW_none, errW_some] <;> rfl), by repeat (first | (with_reducible first | exact HB.out | apply below_alloc | apply pw_below_drewN | apply below_drew1) | exact HB.out)⟩
      · rw [if_neg c6] at H
        have c6b0 : (t195 == 0) = false := beq_eq_false_iff_ne.mpr c6
        have c6b1 : (t195 != 0) = true := bne_iff_ne.mpr c6
        obtain rfl := Option.some.inj H
        go_enter Try.func16, Try.ntmps16
        go_wp2_with (first | ((with_reducible refine gate_callee (f := 48) rfl ?_); refine goesL_ (some 16) rfl rfl Try.func48 (by kernel_rfl) rfl #[.string a0] rfl (by (try simp only [List.map_toArray, List.map_cons, List.map_nil]); first | done | rfl | (simp only [List.length_drop, List.length_take]; rfl)) ?_; (with_reducible refine (code_Decode.calls a0 t189 t190 t191 _ A3.out).mono ?_); rintro e w10 ⟨v192, rfl, ho0, hb⟩; refine ⟨_, rfl, ?_⟩; have n0_ := Aside0.mk (Kd.S_lower ho0 (below_size (by repeat (first | (with_reducible first | exact HB.out | apply below_alloc | apply pw_below_drewN | apply below_drew1) | exact HB.out)))); have n1_ := Aside0.mk (below_step (by repeat (first | (with_reducible first | exact HB.out | apply below_alloc | apply pw_below_drewN | apply below_drew1) | exact HB.out)) hb); clear HB; have HO193 := n0_; have HB := n1_; clear n0_ n1_; (try clear hb); (try clear hb2); (try clear hk); (try clear hi); (try clear ho0); obtain ⟨Ao11, co11, eo11⟩ := Kd.S_slice HO193.out; subst eo11) | ((with_reducible refine gate_callee (f := 39) rfl ?_); refine goesL_ (some 48) rfl rfl Try.func39 (by kernel_rfl) rfl #[.slice Ao11 t189.length co11] rfl (by (try simp only [List.map_toArray, List.map_cons, List.map_nil]); first | done | rfl | (simp only [List.length_drop, List.length_take]; rfl)) ?_; (with_reducible refine (code_Encode.calls _ _ t189 t194 t195 t196 _ ?side1 ?side2 A5.out).mono ?_); (case side1 => repeat (first | exact (Kd.S_reads' HO193.out).2.2 | (with_reducible refine Kd.C_alloc ?_ _) | (with_reducible refine Kd.C_drewN ?_ _) | (with_reducible refine Kd.C_drew ?_))); (case side2 => exact (Kd.S_reads' HO193.out).2.1); rintro e w12 ⟨rfl, hb⟩; refine ⟨_, rfl, ?_⟩; have n0_ := Aside0.mk (Kd.S_below (by (with_reducible repeat (first | apply Kd.S_alloc | apply Kd.S_drewN | apply Kd.S_drew)); exact HO193.out) hb); have n1_ := Aside0.mk (below_step (by repeat (first | (with_reducible first | exact HB.out | apply below_alloc | apply pw_below_drewN | apply below_drew1) | exact HB.out)) hb); clear HO193; clear HB; have HO193 := n0_; have HB := n1_; clear n0_ n1_; (try clear hb); (try clear hb2); (try clear hk); (try clear hi)))
        go_ret
        exact ⟨by first | rfl | (simp [errW_none, errW_some] <;> rfl) | (simp [*, errW_none, errW_some] <;> rfl), by repeat (first | (with_reducible first | exact HB.out | apply below_alloc | apply pw_below_drewN | apply below_drew1) | exact HB.out)⟩
    · rw [if_neg c4] at H
      have c4b0 : (t190 == 0) = false := beq_eq_false_iff_ne.mpr c4
      have c4b1 : (t190 != 0) = true := bne_iff_ne.mpr c4
      replace H := Option.bind_eq_some_iff.mp H
      obtain ⟨⟨t197, t198, t199⟩, A130, H⟩ := H
      replace H : (if (t189.length : Int) = 0 then (if t198 = 0 then (if (t197.length : Int) = 2 then (if 1 < (t197.length : Int) then (some (((rd_T82 t197 1).f0) == 1)) else (none)) else (some false)) else (some false)) else (some false)) = some r := H
      have A13 := Aside0.mk A130
      clear A130
      by_cases c14 : (t189.length : Int) = 0
      · rw [if_pos c14] at H
        have c14b0 : ((t189.length : Int) == 0) = true := beq_iff_eq.mpr c14
        have c14b1 : ((t189.length : Int) != 0) = false := bne_eq_false_iff_eq.mpr c14
        clear c14
        by_cases c15 : t198 = 0
        · rw [if_pos c15] at H
          have c15b0 : (t198 == 0) = true := beq_iff_eq.mpr c15
          have c15b1 : (t198 != 0) = false := bne_eq_false_iff_eq.mpr c15
          clear c15
          by_cases c16 : (t197.length : Int) = 2
          · rw [if_pos c16] at H
            have c16b0 : ((t197.length : Int) == 2) = true := beq_iff_eq.mpr c16
            have c16b1 : ((t197.length : Int) != 2) = false := bne_eq_false_iff_eq.mpr c16
            clear c16
            by_cases c17 : 1 < (t197.length : Int)
            · rw [if_pos c17] at H
              have c17b0 : decide (1 < (t197.length : Int)) = true := decide_eq_true c17
              have c17b1 : decide (1 < t197.length) = true := decide_eq_true (by omega)
              clear c17
              obtain rfl := Option.some.inj H
              go_enter Try.func16, Try.ntmps16
              go_wp2_with (first | ((with_reducible refine gate_callee (f := 48) rfl ?_); refine goesL_ (some 16) rfl rfl Try.func48 (by kernel_rfl) rfl #[.string a0] rfl (by (try simp only [List.map_toArray, List.map_cons, List.map_nil]); first | done | rfl | (simp only [List.length_drop, List.length_take]; rfl)) ?_; (with_reducible refine (code_Decode.calls a0 t189 t190 t191 _ A3.out).mono ?_); rintro e w18 ⟨v192, rfl, ho0, hb⟩; refine ⟨_, rfl, ?_⟩; have n0_ := Aside0.mk (Kd.S_lower ho0 (below_size (by repeat (first | (with_reducible first | exact HB.out | apply below_alloc | apply pw_below_drewN | apply below_drew1) | exact HB.out)))); have n1_ := Aside0.mk (below_step (by repeat (first | (with_reducible first | exact HB.out | apply below_alloc | apply pw_below_drewN | apply below_drew1) | exact HB.out)) hb); clear HB; have HO193 := n0_; have HB := n1_; clear n0_ n1_; (try clear hb); (try clear hb2); (try clear hk); (try clear hi); (try clear ho0)) | ((with_reducible refine gate_callee (f := 48) rfl ?_); refine goesL_ (some 23) rfl rfl Try.func48 (by kernel_rfl) rfl #[.string (⟨#[0, 177]⟩ : ByteArray)] rfl (by (try simp only [List.map_toArray, List.map_cons, List.map_nil]); first | done | rfl | (simp only [List.length_drop, List.length_take]; rfl)) ?_; (with_reducible refine (code_Decode.calls (⟨#[0, 177]⟩ : ByteArray) t197 t198 t199 _ A13.out).mono ?_); rintro e w19 ⟨v200, rfl, ho0, hb⟩; refine ⟨_, rfl, ?_⟩; have n0_ := Aside0.mk (Kd.S_elder' (by (with_reducible repeat (first | apply Kd.S_alloc | apply Kd.S_drewN | apply Kd.S_drew)); exact HO193.out) (Kd.S_base ho0) hb); have n1_ := Aside0.mk (Kd.S_lower (Kd.S_new' ho0 (Kd.S_lt (by (with_reducible repeat (first | apply Kd.S_alloc | apply Kd.S_drewN | apply Kd.S_drew)); exact HO193.out))) (below_size (by repeat (first | (with_reducible first | exact HB.out | apply below_alloc | apply pw_below_drewN | apply below_drew1) | exact HB.out)))); have n2_ := Aside0.mk (below_step (by repeat (first | (with_reducible first | exact HB.out | apply below_alloc | apply pw_below_drewN | apply below_drew1) | exact HB.out)) hb); clear HO193; clear HB; have HO193 := n0_; have HO201 := n1_; have HB := n2_; clear n0_ n1_ n2_; (try clear hb); (try clear hb2); (try clear hk); (try clear hi); (try clear ho0); obtain ⟨Ao20, co20, eo20⟩ := Kd.S_slice HO193.out; subst eo20; obtain ⟨Ao21, co21, eo21⟩ := Kd.S_slice HO201.out; subst eo21; have p202 : 0 ≤ (1 : Int) := (by omega); have q202 : 1 < (t197.length : Int) := of_decide_eq_true (by first | (with_reducible assumption) | assumption); obtain ⟨ad202, A202_6, c202_6, A202_7, c202_7, e202, hx202_0, hx202_1, hx202_2, hx202_3, hx202_4, hx202_5, hx202_6, hx202_7, hl202_6, hi202_6, hl202_7, hi202_7⟩ := at_T82 (Kd.S_reads' HO201.out).2.2 1 p202 q202; cases e202; obtain ⟨ce202, hce202, hMe202, hcc202⟩ := Kd.S_get HO201.out z82 1 p202 (by first | exact q202 | exact of_decide_eq_true (by first | (with_reducible assumption) | assumption) | (have e_ := (Kd.S_reads' HO201.out).1; omega)); obtain ⟨ve202_6, ve202_7, rfl, ge202_6, ge202_7⟩ := k82_openM hMe202; have hv202_6 := hcc202 6 _ rfl; rw [add_field _ _ 6 (by omega)] at hv202_6; replace hv202_6 := Option.some.inj (hv202_6.symm.trans hx202_6); rw [hv202_6] at ge202_6; have HL202_6 := Aside0.mk (show Kd.R (Kd.int .i64) 3 _ _ _ _ ((rd_T82 t197 1).f6) from ge202_6); clear hv202_6 ge202_6; have hv202_7 := hcc202 7 _ rfl; rw [add_field _ _ 7 (by omega)] at hv202_7; replace hv202_7 := Option.some.inj (hv202_7.symm.trans hx202_7); rw [hv202_7] at ge202_7; have HL202_7 := Aside0.mk (show Kd.R (Kd.int .i64) 3 _ _ _ _ ((rd_T82 t197 1).f7) from ge202_7); clear hv202_7 ge202_7; clear hcc202 hce202; (try simp only [show (1 : Int).toNat = 1 from rfl, Nat.reduceMul, Nat.reduceEqDiff, Go.Addr.add, ↓reduceIte] at hx202_0); (try simp only [show (1 : Int).toNat = 1 from rfl, Nat.reduceMul, Nat.reduceEqDiff, Go.Addr.add, ↓reduceIte] at hx202_1); (try simp only [show (1 : Int).toNat = 1 from rfl, Nat.reduceMul, Nat.reduceEqDiff, Go.Addr.add, ↓reduceIte] at hx202_2); (try simp only [show (1 : Int).toNat = 1 from rfl, Nat.reduceMul, Nat.reduceEqDiff, Go.Addr.add, ↓reduceIte] at hx202_3); (try simp only [show (1 : Int).toNat = 1 from rfl, Nat.reduceMul, Nat.reduceEqDiff, Go.Addr.add, ↓reduceIte] at hx202_4); (try simp only [show (1 : Int).toNat = 1 from rfl, Nat.reduceMul, Nat.reduceEqDiff, Go.Addr.add, ↓reduceIte] at hx202_5); (try simp only [show (1 : Int).toNat = 1 from rfl, Nat.reduceMul, Nat.reduceEqDiff, Go.Addr.add, ↓reduceIte] at hx202_6); (try simp only [show (1 : Int).toNat = 1 from rfl, Nat.reduceMul, Nat.reduceEqDiff, Go.Addr.add, ↓reduceIte] at hx202_7); have qi202 : (1 < t197.length) = True := eq_true (by omega); (try rw [show ((1 : Int)).toNat = 1 from rfl] at hx202_0); (try rw [show 1 * 8 = 8 from rfl] at hx202_0); (try rw [show ((1 : Int)).toNat = 1 from rfl] at hx202_1); (try rw [show 1 * 8 = 8 from rfl] at hx202_1); (try rw [show ((1 : Int)).toNat = 1 from rfl] at hx202_2); (try rw [show 1 * 8 = 8 from rfl] at hx202_2); (try rw [show ((1 : Int)).toNat = 1 from rfl] at hx202_3); (try rw [show 1 * 8 = 8 from rfl] at hx202_3); (try rw [show ((1 : Int)).toNat = 1 from rfl] at hx202_4); (try rw [show 1 * 8 = 8 from rfl] at hx202_4); (try rw [show ((1 : Int)).toNat = 1 from rfl] at hx202_5); (try rw [show 1 * 8 = 8 from rfl] at hx202_5); (try rw [show ((1 : Int)).toNat = 1 from rfl] at hx202_6); (try rw [show 1 * 8 = 8 from rfl] at hx202_6); (try rw [show ((1 : Int)).toNat = 1 from rfl] at hx202_7); (try rw [show 1 * 8 = 8 from rfl] at hx202_7); have HR202_6 := Aside0.mk hi202_6; have HC202_6 := Aside0.mk hl202_6; clear hi202_6 hl202_6; have HR202_7 := Aside0.mk hi202_7; have HC202_7 := Aside0.mk hl202_7; clear hi202_7 hl202_7; replace p202 := eq_true p202; replace q202 := eq_true q202))
              go_ret
              exact ⟨by first | rfl | (simp [errW_none, errW_some] <;> rfl) | (simp [*, errW_none, errW_some] <;> rfl), by repeat (first | (with_reducible first | exact HB.out | apply below_alloc | apply pw_below_drewN | apply below_drew1) | exact HB.out)⟩
            · rw [if_neg c17] at H
              exact absurd H (by simp)
          · rw [if_neg c16] at H
            have c16b0 : ((t197.length : Int) == 2) = false := beq_eq_false_iff_ne.mpr c16
            have c16b1 : ((t197.length : Int) != 2) = true := bne_iff_ne.mpr c16
            obtain rfl := Option.some.inj H
            go_enter Try.func16, Try.ntmps16
            go_wp2_with (first | ((with_reducible refine gate_callee (f := 48) rfl ?_); refine goesL_ (some 16) rfl rfl Try.func48 (by kernel_rfl) rfl #[.string a0] rfl (by (try simp only [List.map_toArray, List.map_cons, List.map_nil]); first | done | rfl | (simp only [List.length_drop, List.length_take]; rfl)) ?_; (with_reducible refine (code_Decode.calls a0 t189 t190 t191 _ A3.out).mono ?_); rintro e w22 ⟨v192, rfl, ho0, hb⟩; refine ⟨_, rfl, ?_⟩; have n0_ := Aside0.mk (Kd.S_lower ho0 (below_size (by repeat (first | (with_reducible first | exact HB.out | apply below_alloc | apply pw_below_drewN | apply below_drew1) | exact HB.out)))); have n1_ := Aside0.mk (below_step (by repeat (first | (with_reducible first | exact HB.out | apply below_alloc | apply pw_below_drewN | apply below_drew1) | exact HB.out)) hb); clear HB; have HO193 := n0_; have HB := n1_; clear n0_ n1_; (try clear hb); (try clear hb2); (try clear hk); (try clear hi); (try clear ho0)) | ((with_reducible refine gate_callee (f := 48) rfl ?_); refine goesL_ (some 23) rfl rfl Try.func48 (by kernel_rfl) rfl #[.string (⟨#[0, 177]⟩ : ByteArray)] rfl (by (try simp only [List.map_toArray, List.map_cons, List.map_nil]); first | done | rfl | (simp only [List.length_drop, List.length_take]; rfl)) ?_; (with_reducible refine (code_Decode.calls (⟨#[0, 177]⟩ : ByteArray) t197 t198 t199 _ A13.out).mono ?_); rintro e w23 ⟨v200, rfl, ho0, hb⟩; refine ⟨_, rfl, ?_⟩; have n0_ := Aside0.mk (Kd.S_elder' (by (with_reducible repeat (first | apply Kd.S_alloc | apply Kd.S_drewN | apply Kd.S_drew)); exact HO193.out) (Kd.S_base ho0) hb); have n1_ := Aside0.mk (Kd.S_lower (Kd.S_new' ho0 (Kd.S_lt (by (with_reducible repeat (first | apply Kd.S_alloc | apply Kd.S_drewN | apply Kd.S_drew)); exact HO193.out))) (below_size (by repeat (first | (with_reducible first | exact HB.out | apply below_alloc | apply pw_below_drewN | apply below_drew1) | exact HB.out)))); have n2_ := Aside0.mk (below_step (by repeat (first | (with_reducible first | exact HB.out | apply below_alloc | apply pw_below_drewN | apply below_drew1) | exact HB.out)) hb); clear HO193; clear HB; have HO193 := n0_; have HO201 := n1_; have HB := n2_; clear n0_ n1_ n2_; (try clear hb); (try clear hb2); (try clear hk); (try clear hi); (try clear ho0); obtain ⟨Ao24, co24, eo24⟩ := Kd.S_slice HO193.out; subst eo24; obtain ⟨Ao25, co25, eo25⟩ := Kd.S_slice HO201.out; subst eo25))
            go_ret
            exact ⟨by first | rfl | (simp [errW_none, errW_some] <;> rfl) | (simp [*, errW_none, errW_some] <;> rfl), by repeat (first | (with_reducible first | exact HB.out | apply below_alloc | apply pw_below_drewN | apply below_drew1) | exact HB.out)⟩
        · rw [if_neg c15] at H
          have c15b0 : (t198 == 0) = false := beq_eq_false_iff_ne.mpr c15
          have c15b1 : (t198 != 0) = true := bne_iff_ne.mpr c15
          obtain rfl := Option.some.inj H
          go_enter Try.func16, Try.ntmps16
          go_wp2_with (first | ((with_reducible refine gate_callee (f := 48) rfl ?_); refine goesL_ (some 16) rfl rfl Try.func48 (by kernel_rfl) rfl #[.string a0] rfl (by (try simp only [List.map_toArray, List.map_cons, List.map_nil]); first | done | rfl | (simp only [List.length_drop, List.length_take]; rfl)) ?_; (with_reducible refine (code_Decode.calls a0 t189 t190 t191 _ A3.out).mono ?_); rintro e w26 ⟨v192, rfl, ho0, hb⟩; refine ⟨_, rfl, ?_⟩; have n0_ := Aside0.mk (Kd.S_lower ho0 (below_size (by repeat (first | (with_reducible first | exact HB.out | apply below_alloc | apply pw_below_drewN | apply below_drew1) | exact HB.out)))); have n1_ := Aside0.mk (below_step (by repeat (first | (with_reducible first | exact HB.out | apply below_alloc | apply pw_below_drewN | apply below_drew1) | exact HB.out)) hb); clear HB; have HO193 := n0_; have HB := n1_; clear n0_ n1_; (try clear hb); (try clear hb2); (try clear hk); (try clear hi); (try clear ho0)) | ((with_reducible refine gate_callee (f := 48) rfl ?_); refine goesL_ (some 23) rfl rfl Try.func48 (by kernel_rfl) rfl #[.string (⟨#[0, 177]⟩ : ByteArray)] rfl (by (try simp only [List.map_toArray, List.map_cons, List.map_nil]); first | done | rfl | (simp only [List.length_drop, List.length_take]; rfl)) ?_; (with_reducible refine (code_Decode.calls (⟨#[0, 177]⟩ : ByteArray) t197 t198 t199 _ A13.out).mono ?_); rintro e w27 ⟨v200, rfl, ho0, hb⟩; refine ⟨_, rfl, ?_⟩; have n0_ := Aside0.mk (Kd.S_elder' (by (with_reducible repeat (first | apply Kd.S_alloc | apply Kd.S_drewN | apply Kd.S_drew)); exact HO193.out) (Kd.S_base ho0) hb); have n1_ := Aside0.mk (Kd.S_lower (Kd.S_new' ho0 (Kd.S_lt (by (with_reducible repeat (first | apply Kd.S_alloc | apply Kd.S_drewN | apply Kd.S_drew)); exact HO193.out))) (below_size (by repeat (first | (with_reducible first | exact HB.out | apply below_alloc | apply pw_below_drewN | apply below_drew1) | exact HB.out)))); have n2_ := Aside0.mk (below_step (by repeat (first | (with_reducible first | exact HB.out | apply below_alloc | apply pw_below_drewN | apply below_drew1) | exact HB.out)) hb); clear HO193; clear HB; have HO193 := n0_; have HO201 := n1_; have HB := n2_; clear n0_ n1_ n2_; (try clear hb); (try clear hb2); (try clear hk); (try clear hi); (try clear ho0); obtain ⟨Ao28, co28, eo28⟩ := Kd.S_slice HO193.out; subst eo28))
          go_ret
          exact ⟨by first | rfl | (simp [errW_none, errW_some] <;> rfl) | (simp [*, errW_none, errW_some] <;> rfl), by repeat (first | (with_reducible first | exact HB.out | apply below_alloc | apply pw_below_drewN | apply below_drew1) | exact HB.out)⟩
      · rw [if_neg c14] at H
        have c14b0 : ((t189.length : Int) == 0) = false := beq_eq_false_iff_ne.mpr c14
        have c14b1 : ((t189.length : Int) != 0) = true := bne_iff_ne.mpr c14
        have c14b2 : ¬ (t189 = []) := fun h_ => c14 (by rw [h_]; rfl)
        obtain rfl := Option.some.inj H
        go_enter Try.func16, Try.ntmps16
        go_wp2_with (first | ((with_reducible refine gate_callee (f := 48) rfl ?_); refine goesL_ (some 16) rfl rfl Try.func48 (by kernel_rfl) rfl #[.string a0] rfl (by (try simp only [List.map_toArray, List.map_cons, List.map_nil]); first | done | rfl | (simp only [List.length_drop, List.length_take]; rfl)) ?_; (with_reducible refine (code_Decode.calls a0 t189 t190 t191 _ A3.out).mono ?_); rintro e w29 ⟨v192, rfl, ho0, hb⟩; refine ⟨_, rfl, ?_⟩; have n0_ := Aside0.mk (Kd.S_lower ho0 (below_size (by repeat (first | (with_reducible first | exact HB.out | apply below_alloc | apply pw_below_drewN | apply below_drew1) | exact HB.out)))); have n1_ := Aside0.mk (below_step (by repeat (first | (with_reducible first | exact HB.out | apply below_alloc | apply pw_below_drewN | apply below_drew1) | exact HB.out)) hb); clear HB; have HO193 := n0_; have HB := n1_; clear n0_ n1_; (try clear hb); (try clear hb2); (try clear hk); (try clear hi); (try clear ho0)) | ((with_reducible refine gate_callee (f := 48) rfl ?_); refine goesL_ (some 23) rfl rfl Try.func48 (by kernel_rfl) rfl #[.string (⟨#[0, 177]⟩ : ByteArray)] rfl (by (try simp only [List.map_toArray, List.map_cons, List.map_nil]); first | done | rfl | (simp only [List.length_drop, List.length_take]; rfl)) ?_; (with_reducible refine (code_Decode.calls (⟨#[0, 177]⟩ : ByteArray) t197 t198 t199 _ A13.out).mono ?_); rintro e w30 ⟨v200, rfl, ho0, hb⟩; refine ⟨_, rfl, ?_⟩; have n0_ := Aside0.mk (Kd.S_elder' (by (with_reducible repeat (first | apply Kd.S_alloc | apply Kd.S_drewN | apply Kd.S_drew)); exact HO193.out) (Kd.S_base ho0) hb); have n1_ := Aside0.mk (Kd.S_lower (Kd.S_new' ho0 (Kd.S_lt (by (with_reducible repeat (first | apply Kd.S_alloc | apply Kd.S_drewN | apply Kd.S_drew)); exact HO193.out))) (below_size (by repeat (first | (with_reducible first | exact HB.out | apply below_alloc | apply pw_below_drewN | apply below_drew1) | exact HB.out)))); have n2_ := Aside0.mk (below_step (by repeat (first | (with_reducible first | exact HB.out | apply below_alloc | apply pw_below_drewN | apply below_drew1) | exact HB.out)) hb); clear HO193; clear HB; have HO193 := n0_; have HO201 := n1_; have HB := n2_; clear n0_ n1_ n2_; (try clear hb); (try clear hb2); (try clear hk); (try clear hi); (try clear ho0); obtain ⟨Ao31, co31, eo31⟩ := Kd.S_slice HO193.out; subst eo31))
        go_ret
        exact ⟨by first | rfl | (simp [errW_none, errW_some] <;> rfl) | (simp [*, errW_none, errW_some] <;> rfl), by repeat (first | (with_reducible first | exact HB.out | apply below_alloc | apply pw_below_drewN | apply below_drew1) | exact HB.out)⟩
def jvmcorelaw2_CodeRounds.Pure : Prop := ∀ (a0 : ByteArray), a0.size ≤ 140737488351232 → jvmcorelaw2_CodeRounds.f a0 = some true
theorem jvmcorelaw2_CodeRounds.walk (P : jvmcorelaw2_CodeRounds.Pure) (a0 : ByteArray) (w : World) (w0 : a0.size ≤ 140737488351232) :
    Calls Try.prog 16 #[.string a0] w fun e w' => e = .returned (.bool true) ∧ Below w.heap.size w w' := by
  have h := P a0 w0
  refine (jvmcorelaw2_CodeRounds.calls a0 true w h).mono ?_
  rintro e w' ⟨rfl, hd⟩
  exact ⟨rfl, hd⟩
end Go.Proofs.Ytfnjbmpolggdeaa.CW
end
section
namespace Go.Proofs.Ytfnjbmpolggdeaa.Pure
open Go.RowKit Go.Proofs.Ytfnjbmpolggdeaa Go.Proofs.Ytfnjbmpolggdeaa.CW Go.Proofs.YtfnjbmpolggdeaaW.PrintWords Go.Proofs.YtfnjbmpolggdeaaW.PrintLast
theorem dec_nil {s : ByteArray} {l : List S82} {e p : Int} (h : decD s = (l, e, p)) (he : e ≠ 0) : l = [] := by
  unfold decD at h
  split at h
  · injection h with h _
    exact h.symm
  · unfold finD at h
    split at h
    · injection h with h _
      exact h.symm
    · injection h with _ h
      injection h with h _
      exact absurd h.symm he
theorem dec_lit : ((decD ⟨#[0, 177]⟩).2.1 == 0 && (((decD ⟨#[0, 177]⟩).1.length : Int) == 2 && (rd_T82 (decD ⟨#[0, 177]⟩).1 1).f0 == 1)) = true := by decide +kernel
theorem CodeRounds : jvmcorelaw2_CodeRounds.Pure := by
  intro a0 hz
  unfold jvmcorelaw2_CodeRounds.f
  by_cases h : (a0.size : Int) > 32768
  · rw [if_pos h]
  · rw [if_neg h]
    have hd : code_Decode.f a0 = some (decD a0) := rfl
    rw [hd, Option.bind_some]
    obtain ⟨⟨l, e, p⟩, hD⟩ : ∃ q, decD a0 = q := ⟨_, rfl⟩
    rw [hD]
    by_cases he : e = 0
    · subst he
      obtain ⟨h1, h2⟩ := decG hD
      have hE : code_Encode.f l = some (a0, 0, 0) := by unfold code_Encode.f; rw [if_pos h1, h2]
      dsimp only
      rw [if_pos rfl, hE, Option.bind_some]
      dsimp only
      rw [if_pos rfl, beq_self_eq_true]
    · obtain rfl := dec_nil hD he
      dsimp only
      rw [if_neg he]
      have hd2 : code_Decode.f ⟨#[0, 177]⟩ = some (decD ⟨#[0, 177]⟩) := rfl
      rw [hd2, Option.bind_some, if_pos (show ((([] : List S82).length : Nat) : Int) = 0 from rfl)]
      have hl := dec_lit
      rw [Bool.and_eq_true, Bool.and_eq_true, beq_iff_eq, beq_iff_eq, beq_iff_eq] at hl
      rw [if_pos hl.1, if_pos hl.2.1, if_pos (by rw [hl.2.1]; decide), hl.2.2]
      rfl
end Go.Proofs.Ytfnjbmpolggdeaa.Pure
end
section
namespace Go.Proofs.Ytfnjbmpolggdeaa.codeRounds
open Go.ChangeShapes Go.WideShapes Go.ChangeAt Go.RowKit
open Go.ChangeMaps (open_string shut_string)
set_option linter.unusedVariables false
theorem own : ownKnob Try.prog.godebug = none := by kernel_rfl
set_option maxRecDepth 100000 in
theorem lifted (os : Os) (started : os.Started) (H : Type) (enc : TypeId × Value → H) :
    ReturnsInHanded {} Try.checked os 16 .any (Rows.codeRoundsSpec.pre6 enc Try.prog Try.f16 Rows.codeRoundsRow.domain false) (Rows.codeRoundsSpec.post enc Try.prog Try.f16 false true false false) := by
  refine returnsInHanded_of_change_sized (C := Try.checked) own started (by kernel_rfl) Try.func16
    (ChangeSpec.witness6 (enc := enc) (C := Try.checked) false ⟨#[], #[.string ByteArray.empty], []⟩ 8 (by kernel_rfl) (by kernel_rfl) (by kernel_rfl) (by kernel_rfl)) ?_
  intro W base args ds gs before hval0 hW hcnd hsz0 _
  have hsz : (DataW.weightsEach Try.prog (Try.f16.params.toList ++ Rows.codeRoundsSpec.plain.varTypes Try.prog) (ds ++ gs)).all (· ≤ reachBytes) = true := hsz0
  have hval : ∀ (j : Nat) t v, Try.f16.params[j]? = some t → args[j]? = some v → Value.okWide Try.prog W .any base t v := hval0
  have hW' := hW
  obtain ⟨p, q, hA0, hV, rfl, hfz, hnd⟩ := hW
  have hA : DataW.TrodAll enc Try.prog W 0 (fun _ => true) true Try.f16.params.toList args.toList ds p := hA0
  rw [Try.params16] at hA hval hsz
  obtain ⟨v0, vs0, d0, ds0, p0, q0, hargs, rfl, rfl, h0, r0⟩ := trodAll_cons hA
  obtain ⟨rfl, rfl, rfl⟩ := trodAll_nil r0
  obtain rfl : args = #[v0] := by cases args; simp_all
  obtain ⟨rfl, rfl⟩ := trodVars_none hV
  obtain ⟨a0, rfl, rfl, rfl, y0⟩ := open_string Try.underlying9 (hval 0 9 v0 rfl rfl) h0
  have w0 : a0.size ≤ 140737488351232 := by
    have z := sized_string hsz (j := 0) (t := 9) rfl rfl
    rw [Array.length_toList] at z
    exact z
  clear hA0 hval0 hsz0 hsz
  refine (CW.jvmcorelaw2_CodeRounds.walk Pure.CodeRounds a0 W w0).mono fun e W' ⟨he, bel⟩ => ?_
  subst he
  exact ⟨_, rfl, _, _, _, [], _, [], hW', trodAll_mk1 (shut_bool Try.underlying4 _), (trodAll_cons_mk (shut_string Try.underlying9 y0) trodAll_mk0), rfl, bel.frame _, fun h => by cases h⟩
theorem over : Rows.codeRoundsRow.holds Try.pinned (OpenSpec.ofChange Rows.codeRoundsSpec) :=
  OpenClaim.holds_of_wide 16 Try.f16 rfl rfl rfl rfl rfl rfl rfl ⟨rfl, rfl, rfl, rfl, rfl⟩ rfl rfl rfl rfl rfl (by kernel_rfl) Try.func16 (by kernel_rfl)
    (of_decide_eq_true (by kernel_rfl)) (by unfold Func.isWrapper; first | (rw [if_pos (by decide +kernel)]; kernel_rfl) | (rw [if_neg (by decide +kernel)]; exact ⟨rfl, rfl⟩))
    (fun os started H enc _ => lifted os started H enc)
theorem proved : Rows.CodeRoundsSaid := over
end Go.Proofs.Ytfnjbmpolggdeaa.codeRounds
namespace Go.Proofs.Ytfnjbmpolggdeaa
theorem codeRounds_holds : Rows.CodeRoundsSaid := codeRounds.proved
end Go.Proofs.Ytfnjbmpolggdeaa
end
#print axioms Go.Proofs.Ytfnjbmpolggdeaa.codeRounds_holds
