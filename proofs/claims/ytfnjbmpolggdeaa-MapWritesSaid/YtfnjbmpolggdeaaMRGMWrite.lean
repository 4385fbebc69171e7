/-
  maps.Write, given to the print.
-/
import Derived.Test.YtfnjbmpolggdeaaMRGMOne
namespace Go.Proofs.Ytfnjbmpolggdeaa.MR
open Go.RowKit Go.Proofs.YtfnjbmpolggdeaaW.PrintWords Go.Proofs.YtfnjbmpolggdeaaW.PrintLast Go.Proofs.YtfnjbmpolggdeaaW.PrintMore
set_option linter.unusedVariables false
set_option linter.unusedSimpArgs false
theorem mrow_str {P : Program} {w : World} {base n : Nat} {e' src dst e : TypeId} {v : Value} {l : List Nat} (hs : P.underlying src = some (.slice e)) (he : P.underlying e = some (.int .u8)) (hd : P.underlying dst = some .string)
    (h : mrow w base e' v n (u8s l)) : (convert src dst v).run P w = .ok (.string (sb l)) w := by
  have hl : l.length = n := by have := h.1; simp [u8s] at this; exact this
  rcases h.2 with ⟨rfl, rfl⟩ | ⟨g, cap, cur, fr, rfl, _, hg, h1, _, _, ht, _⟩
  · obtain rfl : l = [] := List.eq_nil_of_length_eq_zero hl
    exact run_convert_bytes_nil w src e hs he 0 0 dst hd
  · rw [← strOfNums_nats]
    refine run_convert_bytes_arg w src e hs he g 0 n cap (l.map fun x : Nat => (x : Int)) (by simpa using hl) (fun i hi => ?_) dst hd
    have hc := cell_of_row w g i cur e' fr hg
    have hx : cur[i]? = some (.int .u8 ((l.map fun x : Nat => (x : Int)).getD i 0)) := by
      have h2 : (u8s l)[i]? = some (.int .u8 ((l.map fun x : Nat => (x : Int)).getD i 0)) := by simp [u8s, List.getElem?_eq_getElem (show i < l.length by omega), List.getD_eq_getElem?_getD]
      rw [← ht, List.getElem?_take_of_lt (by omega)] at h2
      simpa using h2
    have ha : (⟨g, 0, none⟩ : Addr).add i = ⟨g, 0 + i, none⟩ := by unfold Addr.add; split <;> simp_all
    rw [Nat.zero_add, hc]
    exact hx
/-- what is written of the frames that are left. -/
def writeL (l1 : List S37) : List S80 → Nat → Int → List S54 → List Nat × Int → ByteArray × Int × Int
  | [], _, _, _, s => (sb s.1, 0, 0)
  | f :: fs, k, place, zs, s =>
    if f.f0 ≤ place ∨ f.f0 > 65535 ∨ (f.f1.length : Int) > 65535 ∨ (f.f2.length : Int) > 65535 then (⟨#[]⟩, 17, k)
    else if (oneS l1 f.f1 f.f2 zs (f.f0 - place - 1) s).2 = 0 then writeL l1 fs (k + 1) f.f0 f.f1 (oneS l1 f.f1 f.f2 zs (f.f0 - place - 1) s)
    else (⟨#[]⟩, (oneS l1 f.f1 f.f2 zs (f.f0 - place - 1) s).2, k)
def maps_Write.f (l0 : List S80) (l1 : List S37) (l2 : List S54) : Option (ByteArray × Int × Int) :=
  if l1.length ≤ 140737488355328 ∧ l2.length ≤ 140737488355328 ∧ (∀ x ∈ l1, 0 ≤ x.f3 ∧ x.f3 < 65536) ∧ (∀ f ∈ l0, (∀ x ∈ f.f1, 0 ≤ x.f0 ∧ x.f0 < 256) ∧ ∀ x ∈ f.f2, 0 ≤ x.f0 ∧ x.f0 < 256)
  then some (if (l0.length : Int) > 65535 then (⟨#[]⟩, 12, 0) else writeL l1 l0 0 (-1) l2 (bigB (U64 l0.length) 2, 0)) else none
theorem oneS_len (l1 : List S37) (xs ys zs : List S54) (d : Int) (s : List Nat × Int) : (oneS l1 xs ys zs d s).1.length ≤ s.1.length + 7 + 3 * xs.length + 3 * ys.length := by
  unfold oneS
  dsimp only
  have a := valsS_len l1
  repeat' split
  all_goals first
    | (simp only [List.length_append, bigB_length]; omega)
    | (refine Nat.le_trans (a _ _) ?_; simp only [List.length_append, bigB_length, List.length_drop]; omega)
    | (refine Nat.le_trans (a _ _) ?_; simp only [List.length_append, bigB_length]; have := a xs (((s.1 ++ bigB (U64 255) 1) ++ bigB (U64 d) 2) ++ bigB (U64 xs.length) 2, s.2); simp only [List.length_append, bigB_length] at this; omega)
theorem rdF_at {xs : List S80} {k : Nat} (h : k < xs.length) : rd_T80 xs (k : Int) = xs[k] := by
  unfold rd_T80
  rw [Int.toNat_natCast, List.getD_eq_getElem?_getD, List.getElem?_eq_getElem h]; rfl
set_option maxHeartbeats 8000000 in
set_option maxRecDepth 100000 in
theorem maps_Write.calls (A0 : Option Addr) (c0 : Nat) (l0 : List (S80)) (A1 : Option Addr) (c1 : Nat) (l1 : List (S37)) (A2 : Option Addr) (c2 : Nat) (l2 : List (S54)) (r1 : ByteArray) (r2 r3 : Int) (w : World) (hr0 : Kd.C k80 w A0 l0.length l0) (hc0 : l0.length ≤ c0) (hr1 : Kd.C k37 w A1 l1.length l1) (hc1 : l1.length ≤ c1) (hr2 : Kd.C k54 w A2 l2.length l2) (hc2 : l2.length ≤ c2) (h : maps_Write.f l0 l1 l2 = some (r1, r2, r3)) :
    Calls Try.prog 27 #[.slice A0 l0.length c0, .slice A1 l1.length c1, .slice A2 l2.length c2] w fun e w' => e = .returned (.tuple #[.string r1, .int .i64 r2, .int .i64 r3]) ∧ Below w.heap.size w w' := by
  unfold maps_Write.f at h
  by_cases hp : l1.length ≤ 140737488355328 ∧ l2.length ≤ 140737488355328 ∧ (∀ x ∈ l1, 0 ≤ x.f3 ∧ x.f3 < 65536) ∧ (∀ f ∈ l0, (∀ x ∈ f.f1, 0 ≤ x.f0 ∧ x.f0 < 256) ∧ ∀ x ∈ f.f2, 0 ≤ x.f0 ∧ x.f0 < 256)
  · rw [if_pos hp, Option.some.injEq] at h
    have H := Aside0.mk h
    have HP1 := Aside0.mk hp.1
    have HP2 := Aside0.mk hp.2.1
    have H3 := Aside0.mk hp.2.2.1
    have HT := Aside0.mk hp.2.2.2
    have HR0 := Aside0.mk hr0
    have HC0 := Aside0.mk hc0
    have HR1 := Aside0.mk hr1
    have HC1 := Aside0.mk hc1
    have HR2 := Aside0.mk hr2
    have HC2 := Aside0.mk hc2
    clear h hp hr0 hc0 hr1 hc1 hr2 hc2
    by_cases hl : (l0.length : Int) > 65535
    · have b0 : decide ((l0.length : Int) > 65535) = true := decide_eq_true hl
      have HL := Aside0.mk hl
      clear hl
      go_enter Try.func27, Try.ntmps27
      go_wp2
      go_ret3
      have h := H.out
      rw [if_pos HL.out] at h
      injection h with e1 e2
      injection e2 with e2 e3
      subst e1 e2 e3
      exact ⟨rfl, below_alloc (Below.refl _ _) _⟩
    · have b0 : decide ((l0.length : Int) > 65535) = false := decide_eq_false hl
      have HL := Aside0.mk hl
      have HS := Aside0.mk ((if_neg hl).symm.trans H.out)
      have hl2 : (l0.length : Int) ≤ 65535 := by omega
      have HL2 := Aside0.mk hl2
      have hvl : l0.length ≤ 140737488355328 := by omega
      clear hl hl2 H
      go_enter Try.func27, Try.ntmps27
      go_wp2_with fail
      have hbel := below_alloc (Below.refl w.heap.size w) (.cells #[.slice none 0 0, .slice A1 l1.length c1, .int .i64 0] 92)
      have hbw : BW w.heap.size (w.alloc (.cells #[.slice none 0 0, .slice A1 l1.length c1, .int .i64 0] 92)) w.heap.size 92 (mwC A1 l1.length c1 0) (.slice none 0 0) [] := ⟨Array.getElem?_push_size, Nat.le_refl _, mrow.nil _ _ _⟩
      refine (mapNum_any w _ w.heap.size A1 l1.length c1 0 (.slice none 0 0) [] (l0.length : Int) _ 2 rfl (by decide) hbw hbel (by simp only [List.length_nil]; omega)).mono ?_
      rintro e1 w1 ⟨rfl, hb1, v0, hw1, hs1⟩
      have HB1 := Aside0.mk hb1
      have HW1 := Aside0.mk hw1
      clear hb1 hw1 hs1 hbel hbw
      go_wp2_with fail
      go_loopw [10, 11, 27] (fun q10 q11 i wr => ∃ (k : Nat) (v1 : Value) (s : List Nat × Int) (place : Int) (A3 : Option Addr) (c3 : Nat) (zs : List S54), k ≤ l0.length ∧ i = .int .i64 k ∧ q11 = .int .i64 place ∧ q10 = .slice A3 zs.length c3 ∧ Aside0 (-1 ≤ place ∧ place ≤ 65535) ∧ Aside0 (BW w.heap.size wr w.heap.size 92 (mwC A1 l1.length c1 s.2) v1 s.1) ∧ Aside0 (Below w.heap.size w wr) ∧ Aside0 (Kd.C k54 w A3 zs.length zs ∧ zs.length ≤ c3 ∧ zs.length ≤ 140737488355328) ∧ Aside0 (s.1.length ≤ 2 + 400000 * k ∧ s.2 = 0) ∧ Aside0 (writeL l1 (l0.drop k) k place zs s = (r1, r2, r3))) (fun _ _ i _ => l0.length - (intOf i).toNat)
      case atStart => exact ⟨0, v0, (bigB (U64 l0.length) 2, 0), -1, A2, c2, l2, by omega, rfl, rfl, rfl, ⟨by omega⟩, ⟨HW1.out⟩, ⟨HB1.out⟩, ⟨HR2.out, HC2.out, HP2.out⟩, ⟨by simp [bigB_length], rfl⟩, ⟨HS.out⟩⟩
      case round =>
        obtain ⟨k, v1, s, place, A3, c3, zs, hk, rfl, rfl, rfl, HPL, HW, HB, HZ, HN, HR⟩ := hrel
        have hpl0 := HPL.out.1
        have hpl1 := HPL.out.2
        by_cases hlt : k < l0.length
        · have HR2 := Aside0.mk ((show writeL l1 (l0[k] :: l0.drop (k + 1)) k place zs s = (r1, r2, r3) from (List.drop_eq_getElem_cons hlt) ▸ HR.out))
          clear HR
          obtain ⟨ad0, A1_, c1_, A2_, c2_, e0, x0, x1, x2, hl1, hi1, hl2, hi2⟩ := at_T80 HR0.out (k : Int) (by omega) (by omega)
          subst e0
          rw [rdF_at hlt] at x0 x1 x2 hl1 hi1 hl2 hi2
          simp only [Int.toNat_natCast] at x0 x1 x2
          have y0 := pw_cell_below HB.out x0
          have y1 := pw_cell_below HB.out x1
          have y2 := pw_cell_below HB.out x2
          have HX := Aside0.mk (And.intro hi1 hl1)
          have HY := Aside0.mk (And.intro hi2 hl2)
          have HTK := Aside0.mk (HT.out _ (List.getElem_mem hlt))
          have HLT := Aside0.mk hlt
          clear x0 x1 x2 hi1 hl1 hi2 hl2
          generalize l0[k] = f at *
          have HS2 := Aside0.mk ((writeL.eq_2 ..).symm.trans HR2.out)
          have hbel := below_alloc (Below.refl wr.heap.size wr) (.cells #[.int .i64 f.f0, .slice A1_ f.f1.length c1_, .slice A2_ f.f2.length c2_] 80)
          have HBE := Aside0.mk (below_then HB.out HB.out.size hbel)
          have HBW := Aside0.mk (HW.out.below hbel)
          have HGN := Aside0.mk (And.intro (show wr.heap.size ≠ w.heap.size by have := HW.out.lt; omega) (show v1.ownBlock ≠ some wr.heap.size from fun e => by have := (HW.out.2.2.ge _ e).2; omega))
          clear hbel
          by_cases g0 : f.f0 ≤ place
          · have p0 : decide (f.f0 ≤ place) = true := decide_eq_true g0
            have HQ := Aside0.mk g0
            clear g0
            go_wp2
            go_ret3
            have HS3 := HS2.out.symm.trans (if_pos (.inl HQ.out))
            injection HS3 with e1 e2
            injection e2 with e2 e3
            subst e1 e2 e3
            exact ⟨rfl, HBE.out⟩
          · have p0 : decide (f.f0 ≤ place) = false := decide_eq_false g0
            by_cases g1 : f.f0 > 65535
            · have p1 : decide (f.f0 > 65535) = true := decide_eq_true g1
              have HQ := Aside0.mk g1
              clear g1
              go_wp2
              go_ret3
              have HS3 := HS2.out.symm.trans (if_pos (.inr (.inl HQ.out)))
              injection HS3 with e1 e2
              injection e2 with e2 e3
              subst e1 e2 e3
              exact ⟨rfl, HBE.out⟩
            · have p1 : decide (f.f0 > 65535) = false := decide_eq_false g1
              by_cases g2 : (f.f1.length : Int) > 65535
              · have p2 : decide ((f.f1.length : Int) > 65535) = true := decide_eq_true g2
                have HQ := Aside0.mk g2
                clear g2
                go_wp2
                go_ret3
                have HS3 := HS2.out.symm.trans (if_pos (.inr (.inr (.inl HQ.out))))
                injection HS3 with e1 e2
                injection e2 with e2 e3
                subst e1 e2 e3
                exact ⟨rfl, HBE.out⟩
              · have p2 : decide ((f.f1.length : Int) > 65535) = false := decide_eq_false g2
                by_cases g3 : (f.f2.length : Int) > 65535
                · have p3 : decide ((f.f2.length : Int) > 65535) = true := decide_eq_true g3
                  have HQ := Aside0.mk g3
                  clear g3
                  go_wp2
                  go_ret3
                  have HS3 := HS2.out.symm.trans (if_pos (.inr (.inr (.inr HQ.out))))
                  injection HS3 with e1 e2
                  injection e2 with e2 e3
                  subst e1 e2 e3
                  exact ⟨rfl, HBE.out⟩
                · have p3 : decide ((f.f2.length : Int) > 65535) = false := decide_eq_false g3
                  have HQ := Aside0.mk (show ¬(f.f0 ≤ place ∨ f.f0 > 65535 ∨ (f.f1.length : Int) > 65535 ∨ (f.f2.length : Int) > 65535) by omega)
                  have HF := Aside0.mk (show place < f.f0 ∧ f.f0 ≤ 65535 ∧ f.f1.length ≤ 65535 ∧ f.f2.length ≤ 65535 by omega)
                  have hf0 := HF.out.1
                  have hf1 := HF.out.2.1
                  have hwa : IntKind.i64.wrap (f.f0 - place) = f.f0 - place := by rw [IntKind.wrap_i64]; omega
                  have hwb : IntKind.i64.wrap (f.f0 - place - 1) = f.f0 - place - 1 := by rw [IntKind.wrap_i64]; omega
                  have HS3 := Aside0.mk ((if_neg HQ.out).symm.trans HS2.out)
                  clear g0 g1 g2 g3
                  go_wp2_with fail
                  refine (one_any w _ w.heap.size A1 c1 l1 v1 s f.f0 A1_ c1_ f.f1 A2_ c2_ f.f2 A3 c3 zs (f.f0 - place - 1) HBW.out HBE.out HR1.out HC1.out HP1.out H3.out HX.out.1 HX.out.2 HTK.out.1 HF.out.2.2.1 HY.out.1 HY.out.2 HTK.out.2 HF.out.2.2.2 HZ.out.1 HZ.out.2.1 HZ.out.2.2 (by omega) (by have := HN.out.1; have := HLT.out; have := HL2.out; omega)).mono ?_
                  rintro e2 w2 ⟨rfl, v2, hw2, hb2, hs2⟩
                  have k0 := hs2.cell (a := ⟨wr.heap.size, 0, none⟩) (u := .int .i64 f.f0) (by go_simp) HGN.out.1 HGN.out.2
                  have k1 := hs2.cell (a := ⟨wr.heap.size, 1, none⟩) (u := .slice A1_ f.f1.length c1_) (by go_simp) HGN.out.1 HGN.out.2
                  have HB2 := Aside0.mk hb2
                  have HW2 := Aside0.mk hw2
                  have HLEN := Aside0.mk (oneS_len l1 f.f1 f.f2 zs (f.f0 - place - 1) s)
                  clear hs2 hb2 hw2
                  have q0 : w2.cell? ⟨w.heap.size, 2, none⟩ = some (.int .i64 (oneS l1 f.f1 f.f2 zs (f.f0 - place - 1) s).2) := blk_cell HW2.out.1 2
                  generalize oneS l1 f.f1 f.f2 zs (f.f0 - place - 1) s = t at *
                  by_cases ht : t.2 = 0
                  · have bt : (t.2 == 0) = true := beq_iff_eq.2 ht
                    have bt2 : (t.2 != 0) = false := bne_eq_false_iff_eq.2 ht
                    have HE := Aside0.mk ht
                    have HS4 := Aside0.mk ((if_pos ht).symm.trans HS3.out)
                    clear ht
                    go_wp2
                    go_roundw
                    case rel => exact ⟨k + 1, v2, t, f.f0, A1_, c1_, f.f1, by have := HLT.out; omega, by go_num, rfl, rfl, ⟨by omega⟩, HW2, HB2, ⟨HX.out.1, HX.out.2, by have := HF.out.2.2.1; omega⟩, ⟨by have := HLEN.out; have := HN.out.1; have := HF.out; omega, HE.out⟩, HS4⟩
                    case measure => have := HLT.out; simp [intOf]; omega
                  · have bt : (t.2 == 0) = false := beq_eq_false_iff_ne.2 ht
                    have bt2 : (t.2 != 0) = true := bne_iff_ne.2 ht
                    have HS4 := Aside0.mk ((if_neg ht).symm.trans HS3.out)
                    clear ht
                    go_wp2_with fail
                    go_quiet (fail)
                    go_wp2
                    go_ret3
                    have h := HS4.out
                    injection h with e1 e2
                    injection e2 with e2 e3
                    subst e1 e2 e3
                    exact ⟨rfl, by (first | exact HB2.out | exact pw_below_drewN HB2.out _)⟩
        · obtain rfl : k = l0.length := by omega
          have HS2 := HR.out
          rw [List.drop_length] at HS2
          unfold writeL at HS2
          injection HS2 with e1 e2
          injection e2 with e2 e3
          subst e1 e2 e3
          have c0 : wr.cell? ⟨w.heap.size, 0, none⟩ = some v1 := blk_cell HW.out.1 0
          have hs := mrow_str (P := Try.prog) Try.underlying87 Try.underlying5 Try.underlying9 HW.out.2.2
          go_wp2
          go_ret3
          exact ⟨rfl, HB.out⟩
  · rw [if_neg hp] at h
    exact absurd h (by simp)
end Go.Proofs.Ytfnjbmpolggdeaa.MR
