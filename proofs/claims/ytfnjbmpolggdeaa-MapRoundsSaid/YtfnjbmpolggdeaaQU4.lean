/-
  jvmcorelaw3.MapRounds answers true for every string, pool and list of types: nothing is assumed.
-/
import Derived.Test.YtfnjbmpolggdeaaRows
import Derived.WalkKit
import Derived.ProofKit
import Derived.OpenShut
import Derived.ShutString
import Derived.ChangeOld
import Derived.SizedLaws
import Derived.Below
import Derived.Test.YtfnjbmpolggdeaaQU3
section
namespace Go.Proofs.Ytfnjbmpolggdeaa.MD.WW
open Go.RowKit Go.Proofs.YtfnjbmpolggdeaaW.PrintWords Go.Proofs.YtfnjbmpolggdeaaW.PrintLast Go.Proofs.YtfnjbmpolggdeaaW.PrintMore
attribute [local go_sem] max2_int min2_int max_two min_two max_three min_three max_four min_four
set_option linter.unusedVariables false
set_option linter.unusedSimpArgs false
theorem min1_len {n : Nat} (h : 1 ≤ n) : (if (n : Int) < 1 then (n : Int) else 1) = 1 := if_neg (by omega)
attribute [local go_sem] min1_len
def firstC (l1 : List S37) (nm : ByteArray) : Int := 1 + idxF (cloB l1 nm) (l1.drop 1)
def valE (l1 : List S37) (v : S54) (er : Int) : Int :=
  if v.f0 = 7 then (if firstC l1 v.f1 = 0 then failE er 7 else er) else if v.f0 = 8 then (if v.f2 < 0 ∨ v.f2 > 65535 then failE er 17 else er) else if v.f0 > 8 then failE er 17 else er
def valL (l1 : List S37) (v : S54) (bs : List Nat) : List Nat :=
  if v.f0 = 7 then (bs ++ bigB (U64 v.f0) 1) ++ bigB (U64 (firstC l1 v.f1)) 2 else if v.f0 = 8 then (bs ++ bigB (U64 v.f0) 1) ++ bigB (U64 v.f2) 2 else bs ++ bigB (U64 v.f0) 1
def valsS (l1 : List S37) (vs : List S54) (s : List Nat × Int) : List Nat × Int := vs.foldl (fun s v => (valL l1 v s.1, valE l1 v s.2)) s
theorem valL_len (l1 : List S37) (v : S54) (bs : List Nat) : (valL l1 v bs).length ≤ bs.length + 3 := by
  unfold valL
  split
  · simp [bigB_length]
  · split <;> simp [bigB_length]
theorem valsS_snoc (l1 : List S37) (vs : List S54) (k : Nat) (hk : k < vs.length) (s : List Nat × Int) : valsS l1 (vs.take (k + 1)) s = (valL l1 vs[k] (valsS l1 (vs.take k) s).1, valE l1 vs[k] (valsS l1 (vs.take k) s).2) := by
  unfold valsS
  rw [List.take_succ_eq_append_getElem hk, List.foldl_append]; rfl
theorem rdV_at {L : List S54} {k : Nat} (h : k < L.length) : rd_T54 L (k : Int) = L[k] := by
  unfold rd_T54
  rw [List.getD_eq_getElem?_getD, Int.toNat_natCast, List.getElem?_eq_getElem h]; rfl
structure VRel (w0 w1 wr : World) (g : Nat) (v v' : Value) (A : Option Addr) (n c : Nat) (s : List Nat × Int) : Prop where
  bw : BW w0.heap.size wr g 92 (mwC A n c s.2) v' s.1
  be : Below w0.heap.size w0 wr
  st : BS w1 g v wr v'
def ValsPost (w0 w : World) (g : Nat) (v : Value) (A : Option Addr) (n c : Nat) (s : List Nat × Int) (e : Ending) (w' : World) : Prop :=
  e = .returned (.tuple #[]) ∧ ∃ v', VRel w0 w w' g v v' A n c s
theorem BS.old_ne {w wr : World} {g q : Nat} {v v' : Value} (h : BS w g v wr v') (hq : q < w.heap.size) (hv : v.ownBlock ≠ some q) : v'.ownBlock ≠ some q := by
  rcases h.2 with e | ⟨b, e, hb⟩
  · rw [e]; exact hv
  · rw [e]; intro he; injection he with he; omega
theorem C_none (A : Option Addr) (W : World) : Kd.C k37 W A 0 ([] : List S37) := ⟨rfl, by omega, fun h => absurd h (Nat.lt_irrefl 0)⟩
theorem VRel.mk' {w0 w1 wr : World} {g : Nat} {v v' : Value} {A : Option Addr} {n c : Nat} {s : List Nat × Int} {l : List Nat} {e : Int} (hs : s = (l, e)) (bw : BW w0.heap.size wr g 92 (mwC A n c e) v' l) (be : Below w0.heap.size w0 wr) (st : BS w1 g v wr v') : VRel w0 w1 wr g v v' A n c s := by
  subst hs; exact ⟨bw, be, st⟩
theorem vals_len {l1 : List S37} {e : S54} {t s1 : List Nat × Int} {z : Int} {m k : Nat} (h : t = (valL l1 e s1.1, z)) (hl : s1.1.length ≤ m + 3 * k) : t.1.length ≤ m + 3 * (k + 1) := by
  subst h
  have := valL_len l1 e s1.1
  show (valL l1 e s1.1).length ≤ _
  omega
theorem idx_any2 (A0 : Option Addr) (c0 n : Nat) {L : List S37} (hnl : L.length = n) (A : Option Addr) (c1 : Nat) (l1 : List S37) (nm : ByteArray) (wb g vb : Nat) (w : World) (hL : Kd.C k37 w A0 L.length L) (hc0 : L.length ≤ c0) (hl : L.length ≤ 4611686018427387904)
    (hr : Kd.C k37 w A l1.length l1) (hc : l1.length ≤ c1) (h3 : ∀ c ∈ L, 0 ≤ c.f3 ∧ c.f3 < 65536)
    (hwb : w.cell? ⟨wb, 0, none⟩ = some (.pointer (some ⟨g, 0, none⟩))) (hp : w.cell? ⟨g, 1, none⟩ = some (.slice A l1.length c1)) (hn : w.cell? ⟨vb, 1, none⟩ = some (.string nm)) :
    Calls Try.prog 137 #[.slice A0 n c0, .func (.func 138) #[] #[.pointer (some ⟨wb, 0, none⟩), .pointer (some ⟨vb, 0, none⟩)]] w fun e w' => e = .returned (.int .i64 (idxF (cloB l1 nm) L)) ∧ Below w.heap.size w w' := by
  subst hnl
  exact idx_any A0 c0 L A c1 l1 nm wb g vb w hL hc0 hl hr hc h3 hwb hp hn
set_option maxHeartbeats 8000000 in
set_option maxRecDepth 100000 in
theorem values_ne (w0 w : World) (g : Nat) (A : Option Addr) (c : Nat) (l1 : List S37) (hn1 : 1 ≤ l1.length) (v : Value) (s : List Nat × Int) (A3 : Option Addr) (c3 : Nat) (vs : List S54)
    (hW : BW w0.heap.size w g 92 (mwC A l1.length c s.2) v s.1) (hB : Below w0.heap.size w0 w) (hr : Kd.C k37 w0 A l1.length l1) (hc : l1.length ≤ c) (hll : l1.length ≤ 140737488355328) (h3 : ∀ x ∈ l1, 0 ≤ x.f3 ∧ x.f3 < 65536)
    (hv : Kd.C k54 w0 A3 vs.length vs) (hc3 : vs.length ≤ c3) (ht : ∀ x ∈ vs, 0 ≤ x.f0 ∧ x.f0 < 256) (hlen : s.1.length + 3 * vs.length + 8 ≤ 140737488355328) :
    Calls Try.prog 110 #[.pointer (some ⟨g, 0, none⟩), .slice A3 vs.length c3] w (ValsPost w0 w g v A l1.length c (valsS l1 vs s)) := by
  have hvl : vs.length ≤ 140737488355328 := by omega
  have HW := Aside0.mk hW
  have HB := Aside0.mk hB
  have HRP := Aside0.mk hr
  have HC := Aside0.mk hc
  have HLL := Aside0.mk hll
  have H3 := Aside0.mk h3
  have HV := Aside0.mk hv
  have HC3 := Aside0.mk hc3
  have HT := Aside0.mk ht
  have HLEN := Aside0.mk hlen
  have HN1 := Aside0.mk hn1
  have HGW := Aside0.mk hW.lt
  have HVN := Aside0.mk (show v.ownBlock ≠ some w.heap.size from fun e => by have := (hW.2.2.ge _ e).2; omega)
  clear hW hB hr hc hll h3 hv hc3 ht hlen hn1
  go_enter Try.func110, Try.ntmps110
  go_wp2_with fail
  go_loopw [9] (fun i wr => ∃ (k : Nat) (v1 : Value), k ≤ vs.length ∧ i = .int .i64 k ∧ Aside0 (VRel w0 (w.alloc (.cells #[.pointer (some ⟨g, 0, none⟩)] 90)) wr g v v1 A l1.length c (valsS l1 (vs.take k) s)) ∧ Aside0 ((valsS l1 (vs.take k) s).1.length ≤ s.1.length + 3 * k) ∧ wr.cell? ⟨w.heap.size, 0, none⟩ = some (.pointer (some ⟨g, 0, none⟩))) (fun i _ => vs.length - (intOf i).toNat)
  case atStart => exact ⟨0, v, by omega, rfl, ⟨⟨HW.out.below (below_alloc (Below.refl _ _) _), below_then HB.out HB.out.size (below_alloc (Below.refl _ _) _), BS.refl _ _ _⟩⟩, ⟨by simp [valsS]⟩, by go_simp⟩
  case round =>
    obtain ⟨k, v1, hk, rfl, HR, HLN, hbox⟩ := hrel
    by_cases hlt : k < vs.length
    · have HSN := Aside0.mk (valsS_snoc l1 vs k hlt s)
      generalize valsS l1 (vs.take k) s = s1 at *
      obtain ⟨ad0, e0, x0, x1, x2⟩ := at_T54 HV.out (k : Int) (by omega) (by omega)
      subst e0
      rw [rdV_at hlt] at x0 x1 x2
      simp only [Int.toNat_natCast] at x0 x1 x2
      have y0 := pw_cell_below HR.out.be x0
      have y1 := pw_cell_below HR.out.be x1
      have y2 := pw_cell_below HR.out.be x2
      have HTK := Aside0.mk (HT.out _ (List.getElem_mem hlt))
      have hw0 : w.heap.size < wr.heap.size := by have h_ := HR.out.st.1.1; simp at h_; omega
      have HG := Aside0.mk (And.intro (show wr.heap.size ≠ g by have := HR.out.bw.lt; omega) (show v1.ownBlock ≠ some wr.heap.size from fun e => by have := (HR.out.bw.2.2.ge _ e).2; omega))
      have HG0 := Aside0.mk (And.intro (show w.heap.size ≠ g by have := HGW.out; omega) (BS.old_ne HR.out.st (q := w.heap.size) (by simp) HVN.out))
      have HWR := Aside0.mk hw0
      have HLT := Aside0.mk hlt
      clear x0 x1 x2 hw0
      have HS1 : Aside0 (s1.1.length + 3 + 8 ≤ 140737488355328) := ⟨by have := HLN.out; have := HLEN.out; omega⟩
      generalize vs[k] = e at *
      have hbel := below_alloc (Below.refl wr.heap.size wr) (.cells #[.int .u8 e.f0, .string e.f1, .int .i64 e.f2] 54)
      have hbox2 := pw_cell_below hbel hbox
      have HBEL := Aside0.mk hbel
      have HBE := Aside0.mk (below_then HR.out.be HR.out.be.size hbel)
      have HBW := Aside0.mk (HR.out.bw.below hbel)
      clear hbel hbox
      have h0 := HTK.out.1
      have h1 := HTK.out.2
      by_cases c7 : e.f0 = 7
      · have b7 : (e.f0 == 7) = true := beq_iff_eq.2 c7
        have HN7 := Aside0.mk c7
        clear c7
        by_cases hc1 : c = 1
        · subst hc1
          go_wp2_with fail
          refine (mapNum_any w0 _ g A l1.length 1 s1.2 v1 s1.1 _ _ 1 rfl (by decide) HBW.out HBE.out (by have := HS1.out; omega)).mono ?_
          rintro e2 w2 ⟨rfl, hb2, v2, hw2, hs2⟩
          have k0 := hs2.cell hbox2 HG0.out.1 HG0.out.2
          have k1 := hs2.cell (a := ⟨wr.heap.size, 0, none⟩) (u := .int .u8 e.f0) (by go_simp) HG.out.1 HG.out.2
          have k2 := hs2.cell (a := ⟨wr.heap.size, 1, none⟩) (u := .string e.f1) (by go_simp) HG.out.1 HG.out.2
          have k3 := hs2.cell (a := ⟨wr.heap.size, 2, none⟩) (u := .int .i64 e.f2) (by go_simp) HG.out.1 HG.out.2
          have HB2 := Aside0.mk hb2
          have HW2 := Aside0.mk hw2
          have HN2 := Aside0.mk (And.intro (BS.old_ne hs2 (q := w.heap.size) (by have := HWR.out; simp; omega) HG0.out.2) (BS.old_ne hs2 (q := wr.heap.size) (by simp) HG.out.2))
          have HS2 := Aside0.mk (HR.out.st.trans ((BS.below HBEL.out).trans hs2))
          have HL2 : Aside0 ((s1.1 ++ bigB (U64 e.f0) 1).length + 2 + 8 ≤ 140737488355328) := ⟨by rw [List.length_append, bigB_length]; have := HS1.out; omega⟩
          clear hb2 hw2 hs2 hbox2
          have hA' : ∀ W : World, Kd.C k37 W A l1.length l1 → Kd.C k37 W (A) (l1.drop 1).length (l1.drop 1) := fun W h => by
            have := Kd.C_drop (k := k37) h (m := 1) HN1.out HC.out
            simpa using this
          obtain ⟨ix, hix, hi1, hi2⟩ : ∃ ix, idxF (cloB l1 e.f1) (l1.drop 1) = ix ∧ -1 ≤ ix ∧ ix < 140737488355328 := ⟨_, rfl, (idxF_range _ _).1, by have := (idxF_range (cloB l1 e.f1) (l1.drop 1)).2; have := HLL.out; simp at *; omega⟩
          have HIX := Aside0.mk hix
          have HA' := Aside0.mk hA'
          have p1 : w2.cell? ⟨g, 1, none⟩ = some (.slice A l1.length 1) := blk_cell HW2.out.1 1
          have hm5 : (1 : Int) ≤ (l1.length : Int) := by have := HN1.out; omega
          have hm6 : ¬ ((l1.length : Int) < 1) := by have := HN1.out; omega
          have hm7 : 1 ≤ l1.length := by have := HN1.out; omega
          have hm8 : (l1.length : Int) ≤ (1 : Int) := by have := HC.out; omega
          have hwr : IntKind.i64.wrap (1 + ix) = 1 + ix := by rw [IntKind.wrap_i64]; omega
          clear hix hA'
          by_cases hz : ix = -1
          · have HE : Aside0 (valE l1 e s1.2 = failE s1.2 7) := ⟨by unfold valE; rw [if_pos HN7.out, if_pos (by unfold firstC; rw [HIX.out]; omega)]⟩
            have HL : Aside0 (valL l1 e s1.1 = (s1.1 ++ bigB (U64 e.f0) 1) ++ bigB (U64 (1 + ix)) 2) := ⟨by unfold valL; rw [if_pos HN7.out]; unfold firstC; rw [HIX.out]⟩
            have bz : ((1 + ix : Int) == 0) = true := beq_iff_eq.2 (by omega)
            have HZ := Aside0.mk hz
            clear hz
            go_wp2_with fail
            go_region_held3 (fun w' => w'.cell? ⟨w.heap.size, 0, none⟩ = some (.pointer (some ⟨g, 0, none⟩)) ∧ w'.cell? ⟨g, 1, none⟩ = some (.slice A l1.length 1)) (first | exact ⟨k0, p1⟩ | exact ⟨pw_cell_below (below_drew0 (by assumption)) k0, pw_cell_below (below_drew0 (by assumption)) p1⟩) ((go_at_call 137; refine (idx_any2 _ _ _ (L := l1.drop 1) List.length_drop A 1 l1 e.f1 w.heap.size g wr.heap.size _ (HA'.out _ (Kd.C_below HRP.out (pw_below_drewN HB2.out 1))) (by have := HC.out; simp; omega) (by have := HLL.out; simp; omega) (Kd.C_below HRP.out (pw_below_drewN HB2.out 1)) HC.out (fun x hx => H3.out x (List.mem_of_mem_drop hx)) k0 p1 k2).mono ?_; rintro e3 w3 ⟨rfl, hbx⟩; rw [HIX.out]))
            all_goals (
              have hb3 := below_drew0 hbx
              have q0 := pw_cell_below hb3 k0
              have HB3 := Aside0.mk (below_then HB2.out HB2.out.size hb3)
              have HW3 := Aside0.mk (HW2.out.below hb3)
              have HS3 := Aside0.mk (HS2.out.trans (BS.below hb3))
              clear hb3 hbx p1 k1 k2 k3 k0
              go_wp2_with fail
              refine (mapFail_any w0 _ g A l1.length 1 s1.2 v2 (s1.1 ++ bigB (U64 e.f0) 1) 7 HW3.out HB3.out).mono ?_
              rintro e4 w4 ⟨rfl, hb4, hw4, hs4⟩
              have m40 := hs4.cell q0 HG0.out.1 HN2.out.1
              have HB4 := Aside0.mk hb4
              have HW4 := Aside0.mk hw4
              have HS4 := Aside0.mk (HS3.out.trans hs4)
              clear hb4 hw4 hs4
              go_wp2_with fail
              refine (mapNum_any w0 _ g A l1.length 1 (failE s1.2 7) v2 (s1.1 ++ bigB (U64 e.f0) 1) (1 + ix) _ 2 rfl (by decide) HW4.out HB4.out (by have := HL2.out; omega)).mono ?_
              rintro e5 w5 ⟨rfl, hb5, v5, hw5, hs5⟩
              have n50 := hs5.cell m40 HG0.out.1 HN2.out.1
              have HB5 := Aside0.mk hb5
              have HW5 := Aside0.mk hw5
              have HS5 := Aside0.mk (HS4.out.trans hs5)
              clear hb5 hw5 hs5
              go_wp2
              go_roundw
              case rel => exact ⟨k + 1, v5, by have := HLT.out; omega, by go_num, ⟨VRel.mk' (HSN.out.trans (by rw [HL.out, HE.out])) HW5.out HB5.out HS5.out⟩, ⟨vals_len HSN.out HLN.out⟩, n50⟩
              case measure => have := HLT.out; simp [intOf]; omega)
          · have HE : Aside0 (valE l1 e s1.2 = s1.2) := ⟨by unfold valE; rw [if_pos HN7.out, if_neg (by unfold firstC; rw [HIX.out]; omega)]⟩
            have HL : Aside0 (valL l1 e s1.1 = (s1.1 ++ bigB (U64 e.f0) 1) ++ bigB (U64 (1 + ix)) 2) := ⟨by unfold valL; rw [if_pos HN7.out]; unfold firstC; rw [HIX.out]⟩
            have bz : ((1 + ix : Int) == 0) = false := beq_eq_false_iff_ne.2 (by omega)
            clear hz
            go_wp2_with fail
            go_region_held3 (fun w' => w'.cell? ⟨w.heap.size, 0, none⟩ = some (.pointer (some ⟨g, 0, none⟩)) ∧ w'.cell? ⟨g, 1, none⟩ = some (.slice A l1.length 1)) (first | exact ⟨k0, p1⟩ | exact ⟨pw_cell_below (below_drew0 (by assumption)) k0, pw_cell_below (below_drew0 (by assumption)) p1⟩) ((go_at_call 137; refine (idx_any2 _ _ _ (L := l1.drop 1) List.length_drop A 1 l1 e.f1 w.heap.size g wr.heap.size _ (HA'.out _ (Kd.C_below HRP.out (pw_below_drewN HB2.out 1))) (by have := HC.out; simp; omega) (by have := HLL.out; simp; omega) (Kd.C_below HRP.out (pw_below_drewN HB2.out 1)) HC.out (fun x hx => H3.out x (List.mem_of_mem_drop hx)) k0 p1 k2).mono ?_; rintro e3 w3 ⟨rfl, hbx⟩; rw [HIX.out]))
            all_goals (
              have hb3 := below_drew0 hbx
              have q0 := pw_cell_below hb3 k0
              have HB3 := Aside0.mk (below_then HB2.out HB2.out.size hb3)
              have HW3 := Aside0.mk (HW2.out.below hb3)
              have HS3 := Aside0.mk (HS2.out.trans (BS.below hb3))
              clear hb3 hbx p1 k1 k2 k3 k0
              go_wp2_with fail
              refine (mapNum_any w0 _ g A l1.length 1 s1.2 v2 (s1.1 ++ bigB (U64 e.f0) 1) (1 + ix) _ 2 rfl (by decide) HW3.out HB3.out (by have := HL2.out; omega)).mono ?_
              rintro e4 w4 ⟨rfl, hb4, v4, hw4, hs4⟩
              have n40 := hs4.cell q0 HG0.out.1 HN2.out.1
              have HB4 := Aside0.mk hb4
              have HW4 := Aside0.mk hw4
              have HS4 := Aside0.mk (HS3.out.trans hs4)
              clear hb4 hw4 hs4
              go_wp2
              go_roundw
              case rel => exact ⟨k + 1, v4, by have := HLT.out; omega, by go_num, ⟨VRel.mk' (HSN.out.trans (by rw [HL.out, HE.out])) HW4.out HB4.out HS4.out⟩, ⟨vals_len HSN.out HLN.out⟩, n40⟩
              case measure => have := HLT.out; simp [intOf]; omega)
        · have HC1 := Aside0.mk hc1
          go_wp2_with fail
          refine (mapNum_any w0 _ g A l1.length c s1.2 v1 s1.1 _ _ 1 rfl (by decide) HBW.out HBE.out (by have := HS1.out; omega)).mono ?_
          rintro e2 w2 ⟨rfl, hb2, v2, hw2, hs2⟩
          have k0 := hs2.cell hbox2 HG0.out.1 HG0.out.2
          have k1 := hs2.cell (a := ⟨wr.heap.size, 0, none⟩) (u := .int .u8 e.f0) (by go_simp) HG.out.1 HG.out.2
          have k2 := hs2.cell (a := ⟨wr.heap.size, 1, none⟩) (u := .string e.f1) (by go_simp) HG.out.1 HG.out.2
          have k3 := hs2.cell (a := ⟨wr.heap.size, 2, none⟩) (u := .int .i64 e.f2) (by go_simp) HG.out.1 HG.out.2
          have HB2 := Aside0.mk hb2
          have HW2 := Aside0.mk hw2
          have HN2 := Aside0.mk (And.intro (BS.old_ne hs2 (q := w.heap.size) (by have := HWR.out; simp; omega) HG0.out.2) (BS.old_ne hs2 (q := wr.heap.size) (by simp) HG.out.2))
          have HS2 := Aside0.mk (HR.out.st.trans ((BS.below HBEL.out).trans hs2))
          have HL2 : Aside0 ((s1.1 ++ bigB (U64 e.f0) 1).length + 2 + 8 ≤ 140737488355328) := ⟨by rw [List.length_append, bigB_length]; have := HS1.out; omega⟩
          clear hb2 hw2 hs2 hbox2
          have hA' : ∀ W : World, Kd.C k37 W A l1.length l1 → Kd.C k37 W (A.map (·.add (1 * 5))) (l1.drop 1).length (l1.drop 1) := fun W h => by
            have := Kd.C_drop (k := k37) h (m := 1) HN1.out HC.out
            rw [if_neg HC1.out] at this; exact this
          obtain ⟨ix, hix, hi1, hi2⟩ : ∃ ix, idxF (cloB l1 e.f1) (l1.drop 1) = ix ∧ -1 ≤ ix ∧ ix < 140737488355328 := ⟨_, rfl, (idxF_range _ _).1, by have := (idxF_range (cloB l1 e.f1) (l1.drop 1)).2; have := HLL.out; simp at *; omega⟩
          have HIX := Aside0.mk hix
          have HA' := Aside0.mk hA'
          have p1 : w2.cell? ⟨g, 1, none⟩ = some (.slice A l1.length c) := blk_cell HW2.out.1 1
          have hm5 : (1 : Int) ≤ (l1.length : Int) := by have := HN1.out; omega
          have hm6 : ¬ ((l1.length : Int) < 1) := by have := HN1.out; omega
          have hm7 : 1 ≤ l1.length := by have := HN1.out; omega
          have hm8 : (l1.length : Int) ≤ (c : Int) := by have := HC.out; omega
          have hwr : IntKind.i64.wrap (1 + ix) = 1 + ix := by rw [IntKind.wrap_i64]; omega
          clear hix hA'
          by_cases hz : ix = -1
          · have HE : Aside0 (valE l1 e s1.2 = failE s1.2 7) := ⟨by unfold valE; rw [if_pos HN7.out, if_pos (by unfold firstC; rw [HIX.out]; omega)]⟩
            have HL : Aside0 (valL l1 e s1.1 = (s1.1 ++ bigB (U64 e.f0) 1) ++ bigB (U64 (1 + ix)) 2) := ⟨by unfold valL; rw [if_pos HN7.out]; unfold firstC; rw [HIX.out]⟩
            have bz : ((1 + ix : Int) == 0) = true := beq_iff_eq.2 (by omega)
            have HZ := Aside0.mk hz
            clear hz
            go_wp2_with fail
            go_region_held3 (fun w' => w'.cell? ⟨w.heap.size, 0, none⟩ = some (.pointer (some ⟨g, 0, none⟩)) ∧ w'.cell? ⟨g, 1, none⟩ = some (.slice A l1.length c)) (first | exact ⟨k0, p1⟩ | exact ⟨pw_cell_below (below_drew0 (by assumption)) k0, pw_cell_below (below_drew0 (by assumption)) p1⟩) ((go_at_call 137; refine (idx_any2 _ _ _ (L := l1.drop 1) List.length_drop A c l1 e.f1 w.heap.size g wr.heap.size _ (HA'.out _ (Kd.C_below HRP.out (pw_below_drewN HB2.out 1))) (by have := HC.out; simp; omega) (by have := HLL.out; simp; omega) (Kd.C_below HRP.out (pw_below_drewN HB2.out 1)) HC.out (fun x hx => H3.out x (List.mem_of_mem_drop hx)) k0 p1 k2).mono ?_; rintro e3 w3 ⟨rfl, hbx⟩; rw [HIX.out]))
            all_goals (
              have hb3 := below_drew0 hbx
              have q0 := pw_cell_below hb3 k0
              have HB3 := Aside0.mk (below_then HB2.out HB2.out.size hb3)
              have HW3 := Aside0.mk (HW2.out.below hb3)
              have HS3 := Aside0.mk (HS2.out.trans (BS.below hb3))
              clear hb3 hbx p1 k1 k2 k3 k0
              go_wp2_with fail
              refine (mapFail_any w0 _ g A l1.length c s1.2 v2 (s1.1 ++ bigB (U64 e.f0) 1) 7 HW3.out HB3.out).mono ?_
              rintro e4 w4 ⟨rfl, hb4, hw4, hs4⟩
              have m40 := hs4.cell q0 HG0.out.1 HN2.out.1
              have HB4 := Aside0.mk hb4
              have HW4 := Aside0.mk hw4
              have HS4 := Aside0.mk (HS3.out.trans hs4)
              clear hb4 hw4 hs4
              go_wp2_with fail
              refine (mapNum_any w0 _ g A l1.length c (failE s1.2 7) v2 (s1.1 ++ bigB (U64 e.f0) 1) (1 + ix) _ 2 rfl (by decide) HW4.out HB4.out (by have := HL2.out; omega)).mono ?_
              rintro e5 w5 ⟨rfl, hb5, v5, hw5, hs5⟩
              have n50 := hs5.cell m40 HG0.out.1 HN2.out.1
              have HB5 := Aside0.mk hb5
              have HW5 := Aside0.mk hw5
              have HS5 := Aside0.mk (HS4.out.trans hs5)
              clear hb5 hw5 hs5
              go_wp2
              go_roundw
              case rel => exact ⟨k + 1, v5, by have := HLT.out; omega, by go_num, ⟨VRel.mk' (HSN.out.trans (by rw [HL.out, HE.out])) HW5.out HB5.out HS5.out⟩, ⟨vals_len HSN.out HLN.out⟩, n50⟩
              case measure => have := HLT.out; simp [intOf]; omega)
          · have HE : Aside0 (valE l1 e s1.2 = s1.2) := ⟨by unfold valE; rw [if_pos HN7.out, if_neg (by unfold firstC; rw [HIX.out]; omega)]⟩
            have HL : Aside0 (valL l1 e s1.1 = (s1.1 ++ bigB (U64 e.f0) 1) ++ bigB (U64 (1 + ix)) 2) := ⟨by unfold valL; rw [if_pos HN7.out]; unfold firstC; rw [HIX.out]⟩
            have bz : ((1 + ix : Int) == 0) = false := beq_eq_false_iff_ne.2 (by omega)
            clear hz
            go_wp2_with fail
            go_region_held3 (fun w' => w'.cell? ⟨w.heap.size, 0, none⟩ = some (.pointer (some ⟨g, 0, none⟩)) ∧ w'.cell? ⟨g, 1, none⟩ = some (.slice A l1.length c)) (first | exact ⟨k0, p1⟩ | exact ⟨pw_cell_below (below_drew0 (by assumption)) k0, pw_cell_below (below_drew0 (by assumption)) p1⟩) ((go_at_call 137; refine (idx_any2 _ _ _ (L := l1.drop 1) List.length_drop A c l1 e.f1 w.heap.size g wr.heap.size _ (HA'.out _ (Kd.C_below HRP.out (pw_below_drewN HB2.out 1))) (by have := HC.out; simp; omega) (by have := HLL.out; simp; omega) (Kd.C_below HRP.out (pw_below_drewN HB2.out 1)) HC.out (fun x hx => H3.out x (List.mem_of_mem_drop hx)) k0 p1 k2).mono ?_; rintro e3 w3 ⟨rfl, hbx⟩; rw [HIX.out]))
            all_goals (
              have hb3 := below_drew0 hbx
              have q0 := pw_cell_below hb3 k0
              have HB3 := Aside0.mk (below_then HB2.out HB2.out.size hb3)
              have HW3 := Aside0.mk (HW2.out.below hb3)
              have HS3 := Aside0.mk (HS2.out.trans (BS.below hb3))
              clear hb3 hbx p1 k1 k2 k3 k0
              go_wp2_with fail
              refine (mapNum_any w0 _ g A l1.length c s1.2 v2 (s1.1 ++ bigB (U64 e.f0) 1) (1 + ix) _ 2 rfl (by decide) HW3.out HB3.out (by have := HL2.out; omega)).mono ?_
              rintro e4 w4 ⟨rfl, hb4, v4, hw4, hs4⟩
              have n40 := hs4.cell q0 HG0.out.1 HN2.out.1
              have HB4 := Aside0.mk hb4
              have HW4 := Aside0.mk hw4
              have HS4 := Aside0.mk (HS3.out.trans hs4)
              clear hb4 hw4 hs4
              go_wp2
              go_roundw
              case rel => exact ⟨k + 1, v4, by have := HLT.out; omega, by go_num, ⟨VRel.mk' (HSN.out.trans (by rw [HL.out, HE.out])) HW4.out HB4.out HS4.out⟩, ⟨vals_len HSN.out HLN.out⟩, n40⟩
              case measure => have := HLT.out; simp [intOf]; omega)
      · have b7 : (e.f0 == 7) = false := beq_eq_false_iff_ne.2 c7
        have HN7 := Aside0.mk c7
        clear c7
        by_cases c8 : e.f0 = 8
        · have b8 : (e.f0 == 8) = true := beq_iff_eq.2 c8
          have HN8 := Aside0.mk c8
          clear c8
          by_cases ca : e.f2 < 0
          · have HE : Aside0 (valE l1 e s1.2 = failE s1.2 17) := ⟨by unfold valE; rw [if_neg HN7.out, if_pos HN8.out, if_pos (.inl ca)]⟩
            have HL : Aside0 (valL l1 e s1.1 = (s1.1 ++ bigB (U64 e.f0) 1) ++ bigB (U64 e.f2) 2) := ⟨by unfold valL; rw [if_neg HN7.out, if_pos HN8.out]⟩
            have ba : decide (e.f2 < 0) = true := decide_eq_true ca
            clear ca
            go_wp2_with fail
            refine (mapNum_any w0 _ g A l1.length c s1.2 v1 s1.1 _ _ 1 rfl (by decide) HBW.out HBE.out (by have := HS1.out; omega)).mono ?_
            rintro e2 w2 ⟨rfl, hb2, v2, hw2, hs2⟩
            have k0 := hs2.cell hbox2 HG0.out.1 HG0.out.2
            have k1 := hs2.cell (a := ⟨wr.heap.size, 0, none⟩) (u := .int .u8 e.f0) (by go_simp) HG.out.1 HG.out.2
            have k2 := hs2.cell (a := ⟨wr.heap.size, 1, none⟩) (u := .string e.f1) (by go_simp) HG.out.1 HG.out.2
            have k3 := hs2.cell (a := ⟨wr.heap.size, 2, none⟩) (u := .int .i64 e.f2) (by go_simp) HG.out.1 HG.out.2
            have HB2 := Aside0.mk hb2
            have HW2 := Aside0.mk hw2
            have HN2 := Aside0.mk (And.intro (BS.old_ne hs2 (q := w.heap.size) (by have := HWR.out; simp; omega) HG0.out.2) (BS.old_ne hs2 (q := wr.heap.size) (by simp) HG.out.2))
            have HS2 := Aside0.mk (HR.out.st.trans ((BS.below HBEL.out).trans hs2))
            have HL2 : Aside0 ((s1.1 ++ bigB (U64 e.f0) 1).length + 2 + 8 ≤ 140737488355328) := ⟨by rw [List.length_append, bigB_length]; have := HS1.out; omega⟩
            clear hb2 hw2 hs2 hbox2
            go_wp2_with fail
            refine (mapFail_any w0 _ g A l1.length c s1.2 v2 (s1.1 ++ bigB (U64 e.f0) 1) 17 HW2.out HB2.out).mono ?_
            rintro e3 w3 ⟨rfl, hb3, hw3, hs3⟩
            have m30 := hs3.cell k0 HG0.out.1 HN2.out.1
            have m33 := hs3.cell k3 HG.out.1 HN2.out.2
            have HB3 := Aside0.mk hb3
            have HW3 := Aside0.mk hw3
            have HS3 := Aside0.mk (HS2.out.trans hs3)
            clear hb3 hw3 hs3
            go_wp2_with fail
            refine (mapNum_any w0 _ g A l1.length c (failE s1.2 17) v2 (s1.1 ++ bigB (U64 e.f0) 1) e.f2 _ 2 rfl (by decide) HW3.out HB3.out (by have := HL2.out; omega)).mono ?_
            rintro e4 w4 ⟨rfl, hb4, v4, hw4, hs4⟩
            have n40 := hs4.cell m30 HG0.out.1 HN2.out.1
            have HB4 := Aside0.mk hb4
            have HW4 := Aside0.mk hw4
            have HS4 := Aside0.mk (HS3.out.trans hs4)
            clear hb4 hw4 hs4
            go_wp2
            go_roundw
            case rel => exact ⟨k + 1, v4, by have := HLT.out; omega, by go_num, ⟨VRel.mk' (HSN.out.trans (by rw [HL.out, HE.out])) HW4.out HB4.out HS4.out⟩, ⟨vals_len HSN.out HLN.out⟩, n40⟩
            case measure => have := HLT.out; simp [intOf]; omega
          · by_cases cb : e.f2 > 65535
            · have HE : Aside0 (valE l1 e s1.2 = failE s1.2 17) := ⟨by unfold valE; rw [if_neg HN7.out, if_pos HN8.out, if_pos (.inr cb)]⟩
              have HL : Aside0 (valL l1 e s1.1 = (s1.1 ++ bigB (U64 e.f0) 1) ++ bigB (U64 e.f2) 2) := ⟨by unfold valL; rw [if_neg HN7.out, if_pos HN8.out]⟩
              have ba : decide (e.f2 < 0) = false := decide_eq_false ca
              have bb : decide (e.f2 > 65535) = true := decide_eq_true cb
              clear ca cb
              go_wp2_with fail
              refine (mapNum_any w0 _ g A l1.length c s1.2 v1 s1.1 _ _ 1 rfl (by decide) HBW.out HBE.out (by have := HS1.out; omega)).mono ?_
              rintro e2 w2 ⟨rfl, hb2, v2, hw2, hs2⟩
              have k0 := hs2.cell hbox2 HG0.out.1 HG0.out.2
              have k1 := hs2.cell (a := ⟨wr.heap.size, 0, none⟩) (u := .int .u8 e.f0) (by go_simp) HG.out.1 HG.out.2
              have k2 := hs2.cell (a := ⟨wr.heap.size, 1, none⟩) (u := .string e.f1) (by go_simp) HG.out.1 HG.out.2
              have k3 := hs2.cell (a := ⟨wr.heap.size, 2, none⟩) (u := .int .i64 e.f2) (by go_simp) HG.out.1 HG.out.2
              have HB2 := Aside0.mk hb2
              have HW2 := Aside0.mk hw2
              have HN2 := Aside0.mk (And.intro (BS.old_ne hs2 (q := w.heap.size) (by have := HWR.out; simp; omega) HG0.out.2) (BS.old_ne hs2 (q := wr.heap.size) (by simp) HG.out.2))
              have HS2 := Aside0.mk (HR.out.st.trans ((BS.below HBEL.out).trans hs2))
              have HL2 : Aside0 ((s1.1 ++ bigB (U64 e.f0) 1).length + 2 + 8 ≤ 140737488355328) := ⟨by rw [List.length_append, bigB_length]; have := HS1.out; omega⟩
              clear hb2 hw2 hs2 hbox2
              go_wp2_with fail
              refine (mapFail_any w0 _ g A l1.length c s1.2 v2 (s1.1 ++ bigB (U64 e.f0) 1) 17 HW2.out HB2.out).mono ?_
              rintro e3 w3 ⟨rfl, hb3, hw3, hs3⟩
              have m30 := hs3.cell k0 HG0.out.1 HN2.out.1
              have m33 := hs3.cell k3 HG.out.1 HN2.out.2
              have HB3 := Aside0.mk hb3
              have HW3 := Aside0.mk hw3
              have HS3 := Aside0.mk (HS2.out.trans hs3)
              clear hb3 hw3 hs3
              go_wp2_with fail
              refine (mapNum_any w0 _ g A l1.length c (failE s1.2 17) v2 (s1.1 ++ bigB (U64 e.f0) 1) e.f2 _ 2 rfl (by decide) HW3.out HB3.out (by have := HL2.out; omega)).mono ?_
              rintro e4 w4 ⟨rfl, hb4, v4, hw4, hs4⟩
              have n40 := hs4.cell m30 HG0.out.1 HN2.out.1
              have HB4 := Aside0.mk hb4
              have HW4 := Aside0.mk hw4
              have HS4 := Aside0.mk (HS3.out.trans hs4)
              clear hb4 hw4 hs4
              go_wp2
              go_roundw
              case rel => exact ⟨k + 1, v4, by have := HLT.out; omega, by go_num, ⟨VRel.mk' (HSN.out.trans (by rw [HL.out, HE.out])) HW4.out HB4.out HS4.out⟩, ⟨vals_len HSN.out HLN.out⟩, n40⟩
              case measure => have := HLT.out; simp [intOf]; omega
            · have HE : Aside0 (valE l1 e s1.2 = s1.2) := ⟨by unfold valE; rw [if_neg HN7.out, if_pos HN8.out, if_neg (fun h => h.elim ca cb)]⟩
              have HL : Aside0 (valL l1 e s1.1 = (s1.1 ++ bigB (U64 e.f0) 1) ++ bigB (U64 e.f2) 2) := ⟨by unfold valL; rw [if_neg HN7.out, if_pos HN8.out]⟩
              have ba : decide (e.f2 < 0) = false := decide_eq_false ca
              have bb : decide (e.f2 > 65535) = false := decide_eq_false cb
              clear ca cb
              go_wp2_with fail
              refine (mapNum_any w0 _ g A l1.length c s1.2 v1 s1.1 _ _ 1 rfl (by decide) HBW.out HBE.out (by have := HS1.out; omega)).mono ?_
              rintro e2 w2 ⟨rfl, hb2, v2, hw2, hs2⟩
              have k0 := hs2.cell hbox2 HG0.out.1 HG0.out.2
              have k1 := hs2.cell (a := ⟨wr.heap.size, 0, none⟩) (u := .int .u8 e.f0) (by go_simp) HG.out.1 HG.out.2
              have k2 := hs2.cell (a := ⟨wr.heap.size, 1, none⟩) (u := .string e.f1) (by go_simp) HG.out.1 HG.out.2
              have k3 := hs2.cell (a := ⟨wr.heap.size, 2, none⟩) (u := .int .i64 e.f2) (by go_simp) HG.out.1 HG.out.2
              have HB2 := Aside0.mk hb2
              have HW2 := Aside0.mk hw2
              have HN2 := Aside0.mk (And.intro (BS.old_ne hs2 (q := w.heap.size) (by have := HWR.out; simp; omega) HG0.out.2) (BS.old_ne hs2 (q := wr.heap.size) (by simp) HG.out.2))
              have HS2 := Aside0.mk (HR.out.st.trans ((BS.below HBEL.out).trans hs2))
              have HL2 : Aside0 ((s1.1 ++ bigB (U64 e.f0) 1).length + 2 + 8 ≤ 140737488355328) := ⟨by rw [List.length_append, bigB_length]; have := HS1.out; omega⟩
              clear hb2 hw2 hs2 hbox2
              go_wp2_with fail
              refine (mapNum_any w0 _ g A l1.length c s1.2 v2 (s1.1 ++ bigB (U64 e.f0) 1) e.f2 _ 2 rfl (by decide) HW2.out HB2.out (by have := HL2.out; omega)).mono ?_
              rintro e3 w3 ⟨rfl, hb3, v3, hw3, hs3⟩
              have n30 := hs3.cell k0 HG0.out.1 HN2.out.1
              have HB3 := Aside0.mk hb3
              have HW3 := Aside0.mk hw3
              have HS3 := Aside0.mk (HS2.out.trans hs3)
              clear hb3 hw3 hs3
              go_wp2
              go_roundw
              case rel => exact ⟨k + 1, v3, by have := HLT.out; omega, by go_num, ⟨VRel.mk' (HSN.out.trans (by rw [HL.out, HE.out])) HW3.out HB3.out HS3.out⟩, ⟨vals_len HSN.out HLN.out⟩, n30⟩
              case measure => have := HLT.out; simp [intOf]; omega
        · have b8 : (e.f0 == 8) = false := beq_eq_false_iff_ne.2 c8
          have HN8 := Aside0.mk c8
          clear c8
          by_cases c9 : e.f0 > 8
          · have HE : Aside0 (valE l1 e s1.2 = failE s1.2 17) := ⟨by unfold valE; rw [if_neg HN7.out, if_neg HN8.out, if_pos c9]⟩
            have HL : Aside0 (valL l1 e s1.1 = (s1.1 ++ bigB (U64 e.f0) 1)) := ⟨by unfold valL; rw [if_neg HN7.out, if_neg HN8.out]⟩
            have b9 : decide (e.f0 > 8) = true := decide_eq_true c9
            clear c9
            go_wp2_with fail
            refine (mapNum_any w0 _ g A l1.length c s1.2 v1 s1.1 _ _ 1 rfl (by decide) HBW.out HBE.out (by have := HS1.out; omega)).mono ?_
            rintro e2 w2 ⟨rfl, hb2, v2, hw2, hs2⟩
            have k0 := hs2.cell hbox2 HG0.out.1 HG0.out.2
            have k1 := hs2.cell (a := ⟨wr.heap.size, 0, none⟩) (u := .int .u8 e.f0) (by go_simp) HG.out.1 HG.out.2
            have k2 := hs2.cell (a := ⟨wr.heap.size, 1, none⟩) (u := .string e.f1) (by go_simp) HG.out.1 HG.out.2
            have k3 := hs2.cell (a := ⟨wr.heap.size, 2, none⟩) (u := .int .i64 e.f2) (by go_simp) HG.out.1 HG.out.2
            have HB2 := Aside0.mk hb2
            have HW2 := Aside0.mk hw2
            have HN2 := Aside0.mk (And.intro (BS.old_ne hs2 (q := w.heap.size) (by have := HWR.out; simp; omega) HG0.out.2) (BS.old_ne hs2 (q := wr.heap.size) (by simp) HG.out.2))
            have HS2 := Aside0.mk (HR.out.st.trans ((BS.below HBEL.out).trans hs2))
            have HL2 : Aside0 ((s1.1 ++ bigB (U64 e.f0) 1).length + 2 + 8 ≤ 140737488355328) := ⟨by rw [List.length_append, bigB_length]; have := HS1.out; omega⟩
            clear hb2 hw2 hs2 hbox2
            go_wp2_with fail
            refine (mapFail_any w0 _ g A l1.length c s1.2 v2 (s1.1 ++ bigB (U64 e.f0) 1) 17 HW2.out HB2.out).mono ?_
            rintro e3 w3 ⟨rfl, hb3, hw3, hs3⟩
            have m30 := hs3.cell k0 HG0.out.1 HN2.out.1
            have m33 := hs3.cell k3 HG.out.1 HN2.out.2
            have HB3 := Aside0.mk hb3
            have HW3 := Aside0.mk hw3
            have HS3 := Aside0.mk (HS2.out.trans hs3)
            clear hb3 hw3 hs3
            go_wp2
            go_roundw
            case rel => exact ⟨k + 1, v2, by have := HLT.out; omega, by go_num, ⟨VRel.mk' (HSN.out.trans (by rw [HL.out, HE.out])) HW3.out HB3.out HS3.out⟩, ⟨vals_len HSN.out HLN.out⟩, m30⟩
            case measure => have := HLT.out; simp [intOf]; omega
          · have HE : Aside0 (valE l1 e s1.2 = s1.2) := ⟨by unfold valE; rw [if_neg HN7.out, if_neg HN8.out, if_neg c9]⟩
            have HL : Aside0 (valL l1 e s1.1 = (s1.1 ++ bigB (U64 e.f0) 1)) := ⟨by unfold valL; rw [if_neg HN7.out, if_neg HN8.out]⟩
            have b9 : decide (e.f0 > 8) = false := decide_eq_false c9
            clear c9
            go_wp2_with fail
            refine (mapNum_any w0 _ g A l1.length c s1.2 v1 s1.1 _ _ 1 rfl (by decide) HBW.out HBE.out (by have := HS1.out; omega)).mono ?_
            rintro e2 w2 ⟨rfl, hb2, v2, hw2, hs2⟩
            have k0 := hs2.cell hbox2 HG0.out.1 HG0.out.2
            have k1 := hs2.cell (a := ⟨wr.heap.size, 0, none⟩) (u := .int .u8 e.f0) (by go_simp) HG.out.1 HG.out.2
            have k2 := hs2.cell (a := ⟨wr.heap.size, 1, none⟩) (u := .string e.f1) (by go_simp) HG.out.1 HG.out.2
            have k3 := hs2.cell (a := ⟨wr.heap.size, 2, none⟩) (u := .int .i64 e.f2) (by go_simp) HG.out.1 HG.out.2
            have HB2 := Aside0.mk hb2
            have HW2 := Aside0.mk hw2
            have HN2 := Aside0.mk (And.intro (BS.old_ne hs2 (q := w.heap.size) (by have := HWR.out; simp; omega) HG0.out.2) (BS.old_ne hs2 (q := wr.heap.size) (by simp) HG.out.2))
            have HS2 := Aside0.mk (HR.out.st.trans ((BS.below HBEL.out).trans hs2))
            have HL2 : Aside0 ((s1.1 ++ bigB (U64 e.f0) 1).length + 2 + 8 ≤ 140737488355328) := ⟨by rw [List.length_append, bigB_length]; have := HS1.out; omega⟩
            clear hb2 hw2 hs2 hbox2
            go_wp2
            go_roundw
            case rel => exact ⟨k + 1, v2, by have := HLT.out; omega, by go_num, ⟨VRel.mk' (HSN.out.trans (by rw [HL.out, HE.out])) HW2.out HB2.out HS2.out⟩, ⟨vals_len HSN.out HLN.out⟩, k0⟩
            case measure => have := HLT.out; simp [intOf]; omega
    · obtain rfl : k = vs.length := by omega
      rw [List.take_length] at HR
      go_wp2
      go_end0
      exact ⟨rfl, v1, HR.out.bw, HR.out.be, (BS.below (below_alloc (Below.refl _ _) _)).trans HR.out.st⟩
set_option maxHeartbeats 8000000 in
set_option maxRecDepth 100000 in
theorem values_nil (w0 w : World) (g : Nat) (A : Option Addr) (c : Nat) (v : Value) (s : List Nat × Int) (A3 : Option Addr) (c3 : Nat) (vs : List S54)
    (hW : BW w0.heap.size w g 92 (mwC A 0 c s.2) v s.1) (hB : Below w0.heap.size w0 w) (hr : Kd.C k37 w0 A 0 ([] : List S37)) (hc : 0 ≤ c) (hll : 0 ≤ 140737488355328) (h3 : ∀ x ∈ ([] : List S37), 0 ≤ x.f3 ∧ x.f3 < 65536)
    (hv : Kd.C k54 w0 A3 vs.length vs) (hc3 : vs.length ≤ c3) (ht : ∀ x ∈ vs, 0 ≤ x.f0 ∧ x.f0 < 256) (hlen : s.1.length + 3 * vs.length + 8 ≤ 140737488355328) :
    Calls Try.prog 110 #[.pointer (some ⟨g, 0, none⟩), .slice A3 vs.length c3] w (ValsPost w0 w g v A 0 c (valsS ([] : List S37) vs s)) := by
  have hvl : vs.length ≤ 140737488355328 := by omega
  have HW := Aside0.mk hW
  have HB := Aside0.mk hB
  have HRP := Aside0.mk hr
  have HC := Aside0.mk hc
  have HLL := Aside0.mk hll
  have H3 := Aside0.mk h3
  have HV := Aside0.mk hv
  have HC3 := Aside0.mk hc3
  have HT := Aside0.mk ht
  have HLEN := Aside0.mk hlen
  have HGW := Aside0.mk hW.lt
  have HVN := Aside0.mk (show v.ownBlock ≠ some w.heap.size from fun e => by have := (hW.2.2.ge _ e).2; omega)
  clear hW hB hr hc hll h3 hv hc3 ht hlen
  go_enter Try.func110, Try.ntmps110
  go_wp2_with fail
  go_loopw [9] (fun i wr => ∃ (k : Nat) (v1 : Value), k ≤ vs.length ∧ i = .int .i64 k ∧ Aside0 (VRel w0 (w.alloc (.cells #[.pointer (some ⟨g, 0, none⟩)] 90)) wr g v v1 A 0 c (valsS ([] : List S37) (vs.take k) s)) ∧ Aside0 ((valsS ([] : List S37) (vs.take k) s).1.length ≤ s.1.length + 3 * k) ∧ wr.cell? ⟨w.heap.size, 0, none⟩ = some (.pointer (some ⟨g, 0, none⟩))) (fun i _ => vs.length - (intOf i).toNat)
  case atStart => exact ⟨0, v, by omega, rfl, ⟨⟨HW.out.below (below_alloc (Below.refl _ _) _), below_then HB.out HB.out.size (below_alloc (Below.refl _ _) _), BS.refl _ _ _⟩⟩, ⟨by simp [valsS]⟩, by go_simp⟩
  case round =>
    obtain ⟨k, v1, hk, rfl, HR, HLN, hbox⟩ := hrel
    by_cases hlt : k < vs.length
    · have HSN := Aside0.mk (valsS_snoc ([] : List S37) vs k hlt s)
      generalize valsS ([] : List S37) (vs.take k) s = s1 at *
      obtain ⟨ad0, e0, x0, x1, x2⟩ := at_T54 HV.out (k : Int) (by omega) (by omega)
      subst e0
      rw [rdV_at hlt] at x0 x1 x2
      simp only [Int.toNat_natCast] at x0 x1 x2
      have y0 := pw_cell_below HR.out.be x0
      have y1 := pw_cell_below HR.out.be x1
      have y2 := pw_cell_below HR.out.be x2
      have HTK := Aside0.mk (HT.out _ (List.getElem_mem hlt))
      have hw0 : w.heap.size < wr.heap.size := by have h_ := HR.out.st.1.1; simp at h_; omega
      have HG := Aside0.mk (And.intro (show wr.heap.size ≠ g by have := HR.out.bw.lt; omega) (show v1.ownBlock ≠ some wr.heap.size from fun e => by have := (HR.out.bw.2.2.ge _ e).2; omega))
      have HG0 := Aside0.mk (And.intro (show w.heap.size ≠ g by have := HGW.out; omega) (BS.old_ne HR.out.st (q := w.heap.size) (by simp) HVN.out))
      have HWR := Aside0.mk hw0
      have HLT := Aside0.mk hlt
      clear x0 x1 x2 hw0
      have HS1 : Aside0 (s1.1.length + 3 + 8 ≤ 140737488355328) := ⟨by have := HLN.out; have := HLEN.out; omega⟩
      generalize vs[k] = e at *
      have hbel := below_alloc (Below.refl wr.heap.size wr) (.cells #[.int .u8 e.f0, .string e.f1, .int .i64 e.f2] 54)
      have hbox2 := pw_cell_below hbel hbox
      have HBEL := Aside0.mk hbel
      have HBE := Aside0.mk (below_then HR.out.be HR.out.be.size hbel)
      have HBW := Aside0.mk (HR.out.bw.below hbel)
      clear hbel hbox
      have h0 := HTK.out.1
      have h1 := HTK.out.2
      by_cases c7 : e.f0 = 7
      · have b7 : (e.f0 == 7) = true := beq_iff_eq.2 c7
        have HN7 := Aside0.mk c7
        clear c7
        by_cases hc1 : c = 0
        · subst hc1
          go_wp2_with fail
          refine (mapNum_any w0 _ g A 0 0 s1.2 v1 s1.1 _ _ 1 rfl (by decide) HBW.out HBE.out (by have := HS1.out; omega)).mono ?_
          rintro e2 w2 ⟨rfl, hb2, v2, hw2, hs2⟩
          have k0 := hs2.cell hbox2 HG0.out.1 HG0.out.2
          have k1 := hs2.cell (a := ⟨wr.heap.size, 0, none⟩) (u := .int .u8 e.f0) (by go_simp) HG.out.1 HG.out.2
          have k2 := hs2.cell (a := ⟨wr.heap.size, 1, none⟩) (u := .string e.f1) (by go_simp) HG.out.1 HG.out.2
          have k3 := hs2.cell (a := ⟨wr.heap.size, 2, none⟩) (u := .int .i64 e.f2) (by go_simp) HG.out.1 HG.out.2
          have HB2 := Aside0.mk hb2
          have HW2 := Aside0.mk hw2
          have HN2 := Aside0.mk (And.intro (BS.old_ne hs2 (q := w.heap.size) (by have := HWR.out; simp; omega) HG0.out.2) (BS.old_ne hs2 (q := wr.heap.size) (by simp) HG.out.2))
          have HS2 := Aside0.mk (HR.out.st.trans ((BS.below HBEL.out).trans hs2))
          have HL2 : Aside0 ((s1.1 ++ bigB (U64 e.f0) 1).length + 2 + 8 ≤ 140737488355328) := ⟨by rw [List.length_append, bigB_length]; have := HS1.out; omega⟩
          clear hb2 hw2 hs2 hbox2
          obtain ⟨ix, hix, hi1, hi2⟩ : ∃ ix, idxF (cloB ([] : List S37) e.f1) ([] : List S37) = ix ∧ -1 ≤ ix ∧ ix < 140737488355328 := ⟨_, rfl, (idxF_range _ _).1, by have := (idxF_range (cloB ([] : List S37) e.f1) ([] : List S37)).2; simp at *; omega⟩
          have HIX := Aside0.mk (show idxF (cloB ([] : List S37) e.f1) (List.drop 1 []) = ix from hix)
          have p1 : w2.cell? ⟨g, 1, none⟩ = some (.slice A 0 0) := blk_cell HW2.out.1 1
          have hwr : IntKind.i64.wrap (1 + ix) = 1 + ix := by rw [IntKind.wrap_i64]; omega
          clear hix
          by_cases hz : ix = -1
          · have HE : Aside0 (valE ([] : List S37) e s1.2 = failE s1.2 7) := ⟨by unfold valE; rw [if_pos HN7.out, if_pos (by unfold firstC; rw [HIX.out]; omega)]⟩
            have HL : Aside0 (valL ([] : List S37) e s1.1 = (s1.1 ++ bigB (U64 e.f0) 1) ++ bigB (U64 (1 + ix)) 2) := ⟨by unfold valL; rw [if_pos HN7.out]; unfold firstC; rw [HIX.out]⟩
            have bz : ((1 + ix : Int) == 0) = true := beq_iff_eq.2 (by omega)
            have HZ := Aside0.mk hz
            clear hz
            go_wp2_with fail
            go_region_held3 (fun w' => w'.cell? ⟨w.heap.size, 0, none⟩ = some (.pointer (some ⟨g, 0, none⟩)) ∧ w'.cell? ⟨g, 1, none⟩ = some (.slice A 0 0)) (first | exact ⟨k0, p1⟩ | exact ⟨pw_cell_below (below_drew0 (by assumption)) k0, pw_cell_below (below_drew0 (by assumption)) p1⟩) ((go_at_call 137; refine (idx_any2 _ _ _ (L := ([] : List S37)) rfl A 0 ([] : List S37) e.f1 w.heap.size g wr.heap.size _ (C_none _ _) (Nat.zero_le _) (Nat.zero_le _) (Kd.C_below HRP.out (pw_below_drewN HB2.out 1)) HC.out (fun x hx => nomatch hx) k0 p1 k2).mono ?_; rintro e3 w3 ⟨rfl, hbx⟩; rw [show idxF (cloB ([] : List S37) e.f1) [] = ix from HIX.out]))
            all_goals (
              have hb3 := below_drew0 hbx
              have q0 := pw_cell_below hb3 k0
              have HB3 := Aside0.mk (below_then HB2.out HB2.out.size hb3)
              have HW3 := Aside0.mk (HW2.out.below hb3)
              have HS3 := Aside0.mk (HS2.out.trans (BS.below hb3))
              clear hb3 hbx p1 k1 k2 k3 k0
              go_wp2_with fail
              refine (mapFail_any w0 _ g A 0 0 s1.2 v2 (s1.1 ++ bigB (U64 e.f0) 1) 7 HW3.out HB3.out).mono ?_
              rintro e4 w4 ⟨rfl, hb4, hw4, hs4⟩
              have m40 := hs4.cell q0 HG0.out.1 HN2.out.1
              have HB4 := Aside0.mk hb4
              have HW4 := Aside0.mk hw4
              have HS4 := Aside0.mk (HS3.out.trans hs4)
              clear hb4 hw4 hs4
              go_wp2_with fail
              refine (mapNum_any w0 _ g A 0 0 (failE s1.2 7) v2 (s1.1 ++ bigB (U64 e.f0) 1) (1 + ix) _ 2 rfl (by decide) HW4.out HB4.out (by have := HL2.out; omega)).mono ?_
              rintro e5 w5 ⟨rfl, hb5, v5, hw5, hs5⟩
              have n50 := hs5.cell m40 HG0.out.1 HN2.out.1
              have HB5 := Aside0.mk hb5
              have HW5 := Aside0.mk hw5
              have HS5 := Aside0.mk (HS4.out.trans hs5)
              clear hb5 hw5 hs5
              go_wp2
              go_roundw
              case rel => exact ⟨k + 1, v5, by have := HLT.out; omega, by go_num, ⟨VRel.mk' (HSN.out.trans (by rw [HL.out, HE.out])) HW5.out HB5.out HS5.out⟩, ⟨vals_len HSN.out HLN.out⟩, n50⟩
              case measure => have := HLT.out; simp [intOf]; omega)
          · have HE : Aside0 (valE ([] : List S37) e s1.2 = s1.2) := ⟨by unfold valE; rw [if_pos HN7.out, if_neg (by unfold firstC; rw [HIX.out]; omega)]⟩
            have HL : Aside0 (valL ([] : List S37) e s1.1 = (s1.1 ++ bigB (U64 e.f0) 1) ++ bigB (U64 (1 + ix)) 2) := ⟨by unfold valL; rw [if_pos HN7.out]; unfold firstC; rw [HIX.out]⟩
            have bz : ((1 + ix : Int) == 0) = false := beq_eq_false_iff_ne.2 (by omega)
            clear hz
            go_wp2_with fail
            go_region_held3 (fun w' => w'.cell? ⟨w.heap.size, 0, none⟩ = some (.pointer (some ⟨g, 0, none⟩)) ∧ w'.cell? ⟨g, 1, none⟩ = some (.slice A 0 0)) (first | exact ⟨k0, p1⟩ | exact ⟨pw_cell_below (below_drew0 (by assumption)) k0, pw_cell_below (below_drew0 (by assumption)) p1⟩) ((go_at_call 137; refine (idx_any2 _ _ _ (L := ([] : List S37)) rfl A 0 ([] : List S37) e.f1 w.heap.size g wr.heap.size _ (C_none _ _) (Nat.zero_le _) (Nat.zero_le _) (Kd.C_below HRP.out (pw_below_drewN HB2.out 1)) HC.out (fun x hx => nomatch hx) k0 p1 k2).mono ?_; rintro e3 w3 ⟨rfl, hbx⟩; rw [show idxF (cloB ([] : List S37) e.f1) [] = ix from HIX.out]))
            all_goals (
              have hb3 := below_drew0 hbx
              have q0 := pw_cell_below hb3 k0
              have HB3 := Aside0.mk (below_then HB2.out HB2.out.size hb3)
              have HW3 := Aside0.mk (HW2.out.below hb3)
              have HS3 := Aside0.mk (HS2.out.trans (BS.below hb3))
              clear hb3 hbx p1 k1 k2 k3 k0
              go_wp2_with fail
              refine (mapNum_any w0 _ g A 0 0 s1.2 v2 (s1.1 ++ bigB (U64 e.f0) 1) (1 + ix) _ 2 rfl (by decide) HW3.out HB3.out (by have := HL2.out; omega)).mono ?_
              rintro e4 w4 ⟨rfl, hb4, v4, hw4, hs4⟩
              have n40 := hs4.cell q0 HG0.out.1 HN2.out.1
              have HB4 := Aside0.mk hb4
              have HW4 := Aside0.mk hw4
              have HS4 := Aside0.mk (HS3.out.trans hs4)
              clear hb4 hw4 hs4
              go_wp2
              go_roundw
              case rel => exact ⟨k + 1, v4, by have := HLT.out; omega, by go_num, ⟨VRel.mk' (HSN.out.trans (by rw [HL.out, HE.out])) HW4.out HB4.out HS4.out⟩, ⟨vals_len HSN.out HLN.out⟩, n40⟩
              case measure => have := HLT.out; simp [intOf]; omega)
        · have HC1 := Aside0.mk hc1
          go_wp2_with fail
          refine (mapNum_any w0 _ g A 0 c s1.2 v1 s1.1 _ _ 1 rfl (by decide) HBW.out HBE.out (by have := HS1.out; omega)).mono ?_
          rintro e2 w2 ⟨rfl, hb2, v2, hw2, hs2⟩
          have k0 := hs2.cell hbox2 HG0.out.1 HG0.out.2
          have k1 := hs2.cell (a := ⟨wr.heap.size, 0, none⟩) (u := .int .u8 e.f0) (by go_simp) HG.out.1 HG.out.2
          have k2 := hs2.cell (a := ⟨wr.heap.size, 1, none⟩) (u := .string e.f1) (by go_simp) HG.out.1 HG.out.2
          have k3 := hs2.cell (a := ⟨wr.heap.size, 2, none⟩) (u := .int .i64 e.f2) (by go_simp) HG.out.1 HG.out.2
          have HB2 := Aside0.mk hb2
          have HW2 := Aside0.mk hw2
          have HN2 := Aside0.mk (And.intro (BS.old_ne hs2 (q := w.heap.size) (by have := HWR.out; simp; omega) HG0.out.2) (BS.old_ne hs2 (q := wr.heap.size) (by simp) HG.out.2))
          have HS2 := Aside0.mk (HR.out.st.trans ((BS.below HBEL.out).trans hs2))
          have HL2 : Aside0 ((s1.1 ++ bigB (U64 e.f0) 1).length + 2 + 8 ≤ 140737488355328) := ⟨by rw [List.length_append, bigB_length]; have := HS1.out; omega⟩
          clear hb2 hw2 hs2 hbox2
          obtain ⟨ix, hix, hi1, hi2⟩ : ∃ ix, idxF (cloB ([] : List S37) e.f1) ([] : List S37) = ix ∧ -1 ≤ ix ∧ ix < 140737488355328 := ⟨_, rfl, (idxF_range _ _).1, by have := (idxF_range (cloB ([] : List S37) e.f1) ([] : List S37)).2; simp at *; omega⟩
          have HIX := Aside0.mk (show idxF (cloB ([] : List S37) e.f1) (List.drop 1 []) = ix from hix)
          have p1 : w2.cell? ⟨g, 1, none⟩ = some (.slice A 0 c) := blk_cell HW2.out.1 1
          have hwr : IntKind.i64.wrap (1 + ix) = 1 + ix := by rw [IntKind.wrap_i64]; omega
          clear hix
          by_cases hz : ix = -1
          · have HE : Aside0 (valE ([] : List S37) e s1.2 = failE s1.2 7) := ⟨by unfold valE; rw [if_pos HN7.out, if_pos (by unfold firstC; rw [HIX.out]; omega)]⟩
            have HL : Aside0 (valL ([] : List S37) e s1.1 = (s1.1 ++ bigB (U64 e.f0) 1) ++ bigB (U64 (1 + ix)) 2) := ⟨by unfold valL; rw [if_pos HN7.out]; unfold firstC; rw [HIX.out]⟩
            have bz : ((1 + ix : Int) == 0) = true := beq_iff_eq.2 (by omega)
            have HZ := Aside0.mk hz
            clear hz
            go_wp2_with fail
            go_region_held3 (fun w' => w'.cell? ⟨w.heap.size, 0, none⟩ = some (.pointer (some ⟨g, 0, none⟩)) ∧ w'.cell? ⟨g, 1, none⟩ = some (.slice A 0 c)) (first | exact ⟨k0, p1⟩ | exact ⟨pw_cell_below (below_drew0 (by assumption)) k0, pw_cell_below (below_drew0 (by assumption)) p1⟩) ((go_at_call 137; refine (idx_any2 _ _ _ (L := ([] : List S37)) rfl A c ([] : List S37) e.f1 w.heap.size g wr.heap.size _ (C_none _ _) (Nat.zero_le _) (Nat.zero_le _) (Kd.C_below HRP.out (pw_below_drewN HB2.out 1)) HC.out (fun x hx => nomatch hx) k0 p1 k2).mono ?_; rintro e3 w3 ⟨rfl, hbx⟩; rw [show idxF (cloB ([] : List S37) e.f1) [] = ix from HIX.out]))
            all_goals (
              have hb3 := below_drew0 hbx
              have q0 := pw_cell_below hb3 k0
              have HB3 := Aside0.mk (below_then HB2.out HB2.out.size hb3)
              have HW3 := Aside0.mk (HW2.out.below hb3)
              have HS3 := Aside0.mk (HS2.out.trans (BS.below hb3))
              clear hb3 hbx p1 k1 k2 k3 k0
              go_wp2_with fail
              refine (mapFail_any w0 _ g A 0 c s1.2 v2 (s1.1 ++ bigB (U64 e.f0) 1) 7 HW3.out HB3.out).mono ?_
              rintro e4 w4 ⟨rfl, hb4, hw4, hs4⟩
              have m40 := hs4.cell q0 HG0.out.1 HN2.out.1
              have HB4 := Aside0.mk hb4
              have HW4 := Aside0.mk hw4
              have HS4 := Aside0.mk (HS3.out.trans hs4)
              clear hb4 hw4 hs4
              go_wp2_with fail
              refine (mapNum_any w0 _ g A 0 c (failE s1.2 7) v2 (s1.1 ++ bigB (U64 e.f0) 1) (1 + ix) _ 2 rfl (by decide) HW4.out HB4.out (by have := HL2.out; omega)).mono ?_
              rintro e5 w5 ⟨rfl, hb5, v5, hw5, hs5⟩
              have n50 := hs5.cell m40 HG0.out.1 HN2.out.1
              have HB5 := Aside0.mk hb5
              have HW5 := Aside0.mk hw5
              have HS5 := Aside0.mk (HS4.out.trans hs5)
              clear hb5 hw5 hs5
              go_wp2
              go_roundw
              case rel => exact ⟨k + 1, v5, by have := HLT.out; omega, by go_num, ⟨VRel.mk' (HSN.out.trans (by rw [HL.out, HE.out])) HW5.out HB5.out HS5.out⟩, ⟨vals_len HSN.out HLN.out⟩, n50⟩
              case measure => have := HLT.out; simp [intOf]; omega)
          · have HE : Aside0 (valE ([] : List S37) e s1.2 = s1.2) := ⟨by unfold valE; rw [if_pos HN7.out, if_neg (by unfold firstC; rw [HIX.out]; omega)]⟩
            have HL : Aside0 (valL ([] : List S37) e s1.1 = (s1.1 ++ bigB (U64 e.f0) 1) ++ bigB (U64 (1 + ix)) 2) := ⟨by unfold valL; rw [if_pos HN7.out]; unfold firstC; rw [HIX.out]⟩
            have bz : ((1 + ix : Int) == 0) = false := beq_eq_false_iff_ne.2 (by omega)
            clear hz
            go_wp2_with fail
            go_region_held3 (fun w' => w'.cell? ⟨w.heap.size, 0, none⟩ = some (.pointer (some ⟨g, 0, none⟩)) ∧ w'.cell? ⟨g, 1, none⟩ = some (.slice A 0 c)) (first | exact ⟨k0, p1⟩ | exact ⟨pw_cell_below (below_drew0 (by assumption)) k0, pw_cell_below (below_drew0 (by assumption)) p1⟩) ((go_at_call 137; refine (idx_any2 _ _ _ (L := ([] : List S37)) rfl A c ([] : List S37) e.f1 w.heap.size g wr.heap.size _ (C_none _ _) (Nat.zero_le _) (Nat.zero_le _) (Kd.C_below HRP.out (pw_below_drewN HB2.out 1)) HC.out (fun x hx => nomatch hx) k0 p1 k2).mono ?_; rintro e3 w3 ⟨rfl, hbx⟩; rw [show idxF (cloB ([] : List S37) e.f1) [] = ix from HIX.out]))
            all_goals (
              have hb3 := below_drew0 hbx
              have q0 := pw_cell_below hb3 k0
              have HB3 := Aside0.mk (below_then HB2.out HB2.out.size hb3)
              have HW3 := Aside0.mk (HW2.out.below hb3)
              have HS3 := Aside0.mk (HS2.out.trans (BS.below hb3))
              clear hb3 hbx p1 k1 k2 k3 k0
              go_wp2_with fail
              refine (mapNum_any w0 _ g A 0 c s1.2 v2 (s1.1 ++ bigB (U64 e.f0) 1) (1 + ix) _ 2 rfl (by decide) HW3.out HB3.out (by have := HL2.out; omega)).mono ?_
              rintro e4 w4 ⟨rfl, hb4, v4, hw4, hs4⟩
              have n40 := hs4.cell q0 HG0.out.1 HN2.out.1
              have HB4 := Aside0.mk hb4
              have HW4 := Aside0.mk hw4
              have HS4 := Aside0.mk (HS3.out.trans hs4)
              clear hb4 hw4 hs4
              go_wp2
              go_roundw
              case rel => exact ⟨k + 1, v4, by have := HLT.out; omega, by go_num, ⟨VRel.mk' (HSN.out.trans (by rw [HL.out, HE.out])) HW4.out HB4.out HS4.out⟩, ⟨vals_len HSN.out HLN.out⟩, n40⟩
              case measure => have := HLT.out; simp [intOf]; omega)
      · have b7 : (e.f0 == 7) = false := beq_eq_false_iff_ne.2 c7
        have HN7 := Aside0.mk c7
        clear c7
        by_cases c8 : e.f0 = 8
        · have b8 : (e.f0 == 8) = true := beq_iff_eq.2 c8
          have HN8 := Aside0.mk c8
          clear c8
          by_cases ca : e.f2 < 0
          · have HE : Aside0 (valE ([] : List S37) e s1.2 = failE s1.2 17) := ⟨by unfold valE; rw [if_neg HN7.out, if_pos HN8.out, if_pos (.inl ca)]⟩
            have HL : Aside0 (valL ([] : List S37) e s1.1 = (s1.1 ++ bigB (U64 e.f0) 1) ++ bigB (U64 e.f2) 2) := ⟨by unfold valL; rw [if_neg HN7.out, if_pos HN8.out]⟩
            have ba : decide (e.f2 < 0) = true := decide_eq_true ca
            clear ca
            go_wp2_with fail
            refine (mapNum_any w0 _ g A 0 c s1.2 v1 s1.1 _ _ 1 rfl (by decide) HBW.out HBE.out (by have := HS1.out; omega)).mono ?_
            rintro e2 w2 ⟨rfl, hb2, v2, hw2, hs2⟩
            have k0 := hs2.cell hbox2 HG0.out.1 HG0.out.2
            have k1 := hs2.cell (a := ⟨wr.heap.size, 0, none⟩) (u := .int .u8 e.f0) (by go_simp) HG.out.1 HG.out.2
            have k2 := hs2.cell (a := ⟨wr.heap.size, 1, none⟩) (u := .string e.f1) (by go_simp) HG.out.1 HG.out.2
            have k3 := hs2.cell (a := ⟨wr.heap.size, 2, none⟩) (u := .int .i64 e.f2) (by go_simp) HG.out.1 HG.out.2
            have HB2 := Aside0.mk hb2
            have HW2 := Aside0.mk hw2
            have HN2 := Aside0.mk (And.intro (BS.old_ne hs2 (q := w.heap.size) (by have := HWR.out; simp; omega) HG0.out.2) (BS.old_ne hs2 (q := wr.heap.size) (by simp) HG.out.2))
            have HS2 := Aside0.mk (HR.out.st.trans ((BS.below HBEL.out).trans hs2))
            have HL2 : Aside0 ((s1.1 ++ bigB (U64 e.f0) 1).length + 2 + 8 ≤ 140737488355328) := ⟨by rw [List.length_append, bigB_length]; have := HS1.out; omega⟩
            clear hb2 hw2 hs2 hbox2
            go_wp2_with fail
            refine (mapFail_any w0 _ g A 0 c s1.2 v2 (s1.1 ++ bigB (U64 e.f0) 1) 17 HW2.out HB2.out).mono ?_
            rintro e3 w3 ⟨rfl, hb3, hw3, hs3⟩
            have m30 := hs3.cell k0 HG0.out.1 HN2.out.1
            have m33 := hs3.cell k3 HG.out.1 HN2.out.2
            have HB3 := Aside0.mk hb3
            have HW3 := Aside0.mk hw3
            have HS3 := Aside0.mk (HS2.out.trans hs3)
            clear hb3 hw3 hs3
            go_wp2_with fail
            refine (mapNum_any w0 _ g A 0 c (failE s1.2 17) v2 (s1.1 ++ bigB (U64 e.f0) 1) e.f2 _ 2 rfl (by decide) HW3.out HB3.out (by have := HL2.out; omega)).mono ?_
            rintro e4 w4 ⟨rfl, hb4, v4, hw4, hs4⟩
            have n40 := hs4.cell m30 HG0.out.1 HN2.out.1
            have HB4 := Aside0.mk hb4
            have HW4 := Aside0.mk hw4
            have HS4 := Aside0.mk (HS3.out.trans hs4)
            clear hb4 hw4 hs4
            go_wp2
            go_roundw
            case rel => exact ⟨k + 1, v4, by have := HLT.out; omega, by go_num, ⟨VRel.mk' (HSN.out.trans (by rw [HL.out, HE.out])) HW4.out HB4.out HS4.out⟩, ⟨vals_len HSN.out HLN.out⟩, n40⟩
            case measure => have := HLT.out; simp [intOf]; omega
          · by_cases cb : e.f2 > 65535
            · have HE : Aside0 (valE ([] : List S37) e s1.2 = failE s1.2 17) := ⟨by unfold valE; rw [if_neg HN7.out, if_pos HN8.out, if_pos (.inr cb)]⟩
              have HL : Aside0 (valL ([] : List S37) e s1.1 = (s1.1 ++ bigB (U64 e.f0) 1) ++ bigB (U64 e.f2) 2) := ⟨by unfold valL; rw [if_neg HN7.out, if_pos HN8.out]⟩
              have ba : decide (e.f2 < 0) = false := decide_eq_false ca
              have bb : decide (e.f2 > 65535) = true := decide_eq_true cb
              clear ca cb
              go_wp2_with fail
              refine (mapNum_any w0 _ g A 0 c s1.2 v1 s1.1 _ _ 1 rfl (by decide) HBW.out HBE.out (by have := HS1.out; omega)).mono ?_
              rintro e2 w2 ⟨rfl, hb2, v2, hw2, hs2⟩
              have k0 := hs2.cell hbox2 HG0.out.1 HG0.out.2
              have k1 := hs2.cell (a := ⟨wr.heap.size, 0, none⟩) (u := .int .u8 e.f0) (by go_simp) HG.out.1 HG.out.2
              have k2 := hs2.cell (a := ⟨wr.heap.size, 1, none⟩) (u := .string e.f1) (by go_simp) HG.out.1 HG.out.2
              have k3 := hs2.cell (a := ⟨wr.heap.size, 2, none⟩) (u := .int .i64 e.f2) (by go_simp) HG.out.1 HG.out.2
              have HB2 := Aside0.mk hb2
              have HW2 := Aside0.mk hw2
              have HN2 := Aside0.mk (And.intro (BS.old_ne hs2 (q := w.heap.size) (by have := HWR.out; simp; omega) HG0.out.2) (BS.old_ne hs2 (q := wr.heap.size) (by simp) HG.out.2))
              have HS2 := Aside0.mk (HR.out.st.trans ((BS.below HBEL.out).trans hs2))
              have HL2 : Aside0 ((s1.1 ++ bigB (U64 e.f0) 1).length + 2 + 8 ≤ 140737488355328) := ⟨by rw [List.length_append, bigB_length]; have := HS1.out; omega⟩
              clear hb2 hw2 hs2 hbox2
              go_wp2_with fail
              refine (mapFail_any w0 _ g A 0 c s1.2 v2 (s1.1 ++ bigB (U64 e.f0) 1) 17 HW2.out HB2.out).mono ?_
              rintro e3 w3 ⟨rfl, hb3, hw3, hs3⟩
              have m30 := hs3.cell k0 HG0.out.1 HN2.out.1
              have m33 := hs3.cell k3 HG.out.1 HN2.out.2
              have HB3 := Aside0.mk hb3
              have HW3 := Aside0.mk hw3
              have HS3 := Aside0.mk (HS2.out.trans hs3)
              clear hb3 hw3 hs3
              go_wp2_with fail
              refine (mapNum_any w0 _ g A 0 c (failE s1.2 17) v2 (s1.1 ++ bigB (U64 e.f0) 1) e.f2 _ 2 rfl (by decide) HW3.out HB3.out (by have := HL2.out; omega)).mono ?_
              rintro e4 w4 ⟨rfl, hb4, v4, hw4, hs4⟩
              have n40 := hs4.cell m30 HG0.out.1 HN2.out.1
              have HB4 := Aside0.mk hb4
              have HW4 := Aside0.mk hw4
              have HS4 := Aside0.mk (HS3.out.trans hs4)
              clear hb4 hw4 hs4
              go_wp2
              go_roundw
              case rel => exact ⟨k + 1, v4, by have := HLT.out; omega, by go_num, ⟨VRel.mk' (HSN.out.trans (by rw [HL.out, HE.out])) HW4.out HB4.out HS4.out⟩, ⟨vals_len HSN.out HLN.out⟩, n40⟩
              case measure => have := HLT.out; simp [intOf]; omega
            · have HE : Aside0 (valE ([] : List S37) e s1.2 = s1.2) := ⟨by unfold valE; rw [if_neg HN7.out, if_pos HN8.out, if_neg (fun h => h.elim ca cb)]⟩
              have HL : Aside0 (valL ([] : List S37) e s1.1 = (s1.1 ++ bigB (U64 e.f0) 1) ++ bigB (U64 e.f2) 2) := ⟨by unfold valL; rw [if_neg HN7.out, if_pos HN8.out]⟩
              have ba : decide (e.f2 < 0) = false := decide_eq_false ca
              have bb : decide (e.f2 > 65535) = false := decide_eq_false cb
              clear ca cb
              go_wp2_with fail
              refine (mapNum_any w0 _ g A 0 c s1.2 v1 s1.1 _ _ 1 rfl (by decide) HBW.out HBE.out (by have := HS1.out; omega)).mono ?_
              rintro e2 w2 ⟨rfl, hb2, v2, hw2, hs2⟩
              have k0 := hs2.cell hbox2 HG0.out.1 HG0.out.2
              have k1 := hs2.cell (a := ⟨wr.heap.size, 0, none⟩) (u := .int .u8 e.f0) (by go_simp) HG.out.1 HG.out.2
              have k2 := hs2.cell (a := ⟨wr.heap.size, 1, none⟩) (u := .string e.f1) (by go_simp) HG.out.1 HG.out.2
              have k3 := hs2.cell (a := ⟨wr.heap.size, 2, none⟩) (u := .int .i64 e.f2) (by go_simp) HG.out.1 HG.out.2
              have HB2 := Aside0.mk hb2
              have HW2 := Aside0.mk hw2
              have HN2 := Aside0.mk (And.intro (BS.old_ne hs2 (q := w.heap.size) (by have := HWR.out; simp; omega) HG0.out.2) (BS.old_ne hs2 (q := wr.heap.size) (by simp) HG.out.2))
              have HS2 := Aside0.mk (HR.out.st.trans ((BS.below HBEL.out).trans hs2))
              have HL2 : Aside0 ((s1.1 ++ bigB (U64 e.f0) 1).length + 2 + 8 ≤ 140737488355328) := ⟨by rw [List.length_append, bigB_length]; have := HS1.out; omega⟩
              clear hb2 hw2 hs2 hbox2
              go_wp2_with fail
              refine (mapNum_any w0 _ g A 0 c s1.2 v2 (s1.1 ++ bigB (U64 e.f0) 1) e.f2 _ 2 rfl (by decide) HW2.out HB2.out (by have := HL2.out; omega)).mono ?_
              rintro e3 w3 ⟨rfl, hb3, v3, hw3, hs3⟩
              have n30 := hs3.cell k0 HG0.out.1 HN2.out.1
              have HB3 := Aside0.mk hb3
              have HW3 := Aside0.mk hw3
              have HS3 := Aside0.mk (HS2.out.trans hs3)
              clear hb3 hw3 hs3
              go_wp2
              go_roundw
              case rel => exact ⟨k + 1, v3, by have := HLT.out; omega, by go_num, ⟨VRel.mk' (HSN.out.trans (by rw [HL.out, HE.out])) HW3.out HB3.out HS3.out⟩, ⟨vals_len HSN.out HLN.out⟩, n30⟩
              case measure => have := HLT.out; simp [intOf]; omega
        · have b8 : (e.f0 == 8) = false := beq_eq_false_iff_ne.2 c8
          have HN8 := Aside0.mk c8
          clear c8
          by_cases c9 : e.f0 > 8
          · have HE : Aside0 (valE ([] : List S37) e s1.2 = failE s1.2 17) := ⟨by unfold valE; rw [if_neg HN7.out, if_neg HN8.out, if_pos c9]⟩
            have HL : Aside0 (valL ([] : List S37) e s1.1 = (s1.1 ++ bigB (U64 e.f0) 1)) := ⟨by unfold valL; rw [if_neg HN7.out, if_neg HN8.out]⟩
            have b9 : decide (e.f0 > 8) = true := decide_eq_true c9
            clear c9
            go_wp2_with fail
            refine (mapNum_any w0 _ g A 0 c s1.2 v1 s1.1 _ _ 1 rfl (by decide) HBW.out HBE.out (by have := HS1.out; omega)).mono ?_
            rintro e2 w2 ⟨rfl, hb2, v2, hw2, hs2⟩
            have k0 := hs2.cell hbox2 HG0.out.1 HG0.out.2
            have k1 := hs2.cell (a := ⟨wr.heap.size, 0, none⟩) (u := .int .u8 e.f0) (by go_simp) HG.out.1 HG.out.2
            have k2 := hs2.cell (a := ⟨wr.heap.size, 1, none⟩) (u := .string e.f1) (by go_simp) HG.out.1 HG.out.2
            have k3 := hs2.cell (a := ⟨wr.heap.size, 2, none⟩) (u := .int .i64 e.f2) (by go_simp) HG.out.1 HG.out.2
            have HB2 := Aside0.mk hb2
            have HW2 := Aside0.mk hw2
            have HN2 := Aside0.mk (And.intro (BS.old_ne hs2 (q := w.heap.size) (by have := HWR.out; simp; omega) HG0.out.2) (BS.old_ne hs2 (q := wr.heap.size) (by simp) HG.out.2))
            have HS2 := Aside0.mk (HR.out.st.trans ((BS.below HBEL.out).trans hs2))
            have HL2 : Aside0 ((s1.1 ++ bigB (U64 e.f0) 1).length + 2 + 8 ≤ 140737488355328) := ⟨by rw [List.length_append, bigB_length]; have := HS1.out; omega⟩
            clear hb2 hw2 hs2 hbox2
            go_wp2_with fail
            refine (mapFail_any w0 _ g A 0 c s1.2 v2 (s1.1 ++ bigB (U64 e.f0) 1) 17 HW2.out HB2.out).mono ?_
            rintro e3 w3 ⟨rfl, hb3, hw3, hs3⟩
            have m30 := hs3.cell k0 HG0.out.1 HN2.out.1
            have m33 := hs3.cell k3 HG.out.1 HN2.out.2
            have HB3 := Aside0.mk hb3
            have HW3 := Aside0.mk hw3
            have HS3 := Aside0.mk (HS2.out.trans hs3)
            clear hb3 hw3 hs3
            go_wp2
            go_roundw
            case rel => exact ⟨k + 1, v2, by have := HLT.out; omega, by go_num, ⟨VRel.mk' (HSN.out.trans (by rw [HL.out, HE.out])) HW3.out HB3.out HS3.out⟩, ⟨vals_len HSN.out HLN.out⟩, m30⟩
            case measure => have := HLT.out; simp [intOf]; omega
          · have HE : Aside0 (valE ([] : List S37) e s1.2 = s1.2) := ⟨by unfold valE; rw [if_neg HN7.out, if_neg HN8.out, if_neg c9]⟩
            have HL : Aside0 (valL ([] : List S37) e s1.1 = (s1.1 ++ bigB (U64 e.f0) 1)) := ⟨by unfold valL; rw [if_neg HN7.out, if_neg HN8.out]⟩
            have b9 : decide (e.f0 > 8) = false := decide_eq_false c9
            clear c9
            go_wp2_with fail
            refine (mapNum_any w0 _ g A 0 c s1.2 v1 s1.1 _ _ 1 rfl (by decide) HBW.out HBE.out (by have := HS1.out; omega)).mono ?_
            rintro e2 w2 ⟨rfl, hb2, v2, hw2, hs2⟩
            have k0 := hs2.cell hbox2 HG0.out.1 HG0.out.2
            have k1 := hs2.cell (a := ⟨wr.heap.size, 0, none⟩) (u := .int .u8 e.f0) (by go_simp) HG.out.1 HG.out.2
            have k2 := hs2.cell (a := ⟨wr.heap.size, 1, none⟩) (u := .string e.f1) (by go_simp) HG.out.1 HG.out.2
            have k3 := hs2.cell (a := ⟨wr.heap.size, 2, none⟩) (u := .int .i64 e.f2) (by go_simp) HG.out.1 HG.out.2
            have HB2 := Aside0.mk hb2
            have HW2 := Aside0.mk hw2
            have HN2 := Aside0.mk (And.intro (BS.old_ne hs2 (q := w.heap.size) (by have := HWR.out; simp; omega) HG0.out.2) (BS.old_ne hs2 (q := wr.heap.size) (by simp) HG.out.2))
            have HS2 := Aside0.mk (HR.out.st.trans ((BS.below HBEL.out).trans hs2))
            have HL2 : Aside0 ((s1.1 ++ bigB (U64 e.f0) 1).length + 2 + 8 ≤ 140737488355328) := ⟨by rw [List.length_append, bigB_length]; have := HS1.out; omega⟩
            clear hb2 hw2 hs2 hbox2
            go_wp2
            go_roundw
            case rel => exact ⟨k + 1, v2, by have := HLT.out; omega, by go_num, ⟨VRel.mk' (HSN.out.trans (by rw [HL.out, HE.out])) HW2.out HB2.out HS2.out⟩, ⟨vals_len HSN.out HLN.out⟩, k0⟩
            case measure => have := HLT.out; simp [intOf]; omega
    · obtain rfl : k = vs.length := by omega
      rw [List.take_length] at HR
      go_wp2
      go_end0
      exact ⟨rfl, v1, HR.out.bw, HR.out.be, (BS.below (below_alloc (Below.refl _ _) _)).trans HR.out.st⟩
theorem values_any (w0 w : World) (g : Nat) (A : Option Addr) (c : Nat) (l1 : List S37) (v : Value) (s : List Nat × Int) (A3 : Option Addr) (c3 : Nat) (vs : List S54)
    (hW : BW w0.heap.size w g 92 (mwC A l1.length c s.2) v s.1) (hB : Below w0.heap.size w0 w) (hr : Kd.C k37 w0 A l1.length l1) (hc : l1.length ≤ c) (hll : l1.length ≤ 140737488355328) (h3 : ∀ x ∈ l1, 0 ≤ x.f3 ∧ x.f3 < 65536)
    (hv : Kd.C k54 w0 A3 vs.length vs) (hc3 : vs.length ≤ c3) (ht : ∀ x ∈ vs, 0 ≤ x.f0 ∧ x.f0 < 256) (hlen : s.1.length + 3 * vs.length + 8 ≤ 140737488355328) :
    Calls Try.prog 110 #[.pointer (some ⟨g, 0, none⟩), .slice A3 vs.length c3] w (ValsPost w0 w g v A l1.length c (valsS l1 vs s)) := by
  cases l1 with
  | nil => exact values_nil w0 w g A c v s A3 c3 vs hW hB hr hc hll h3 hv hc3 ht hlen
  | cons x l => exact values_ne w0 w g A c (x :: l) (by simp) v s A3 c3 vs hW hB hr hc hll h3 hv hc3 ht hlen
end Go.Proofs.Ytfnjbmpolggdeaa.MD.WW
end
section
namespace Go.Proofs.Ytfnjbmpolggdeaa.MD
open Go.RowKit Go.Proofs.YtfnjbmpolggdeaaW.PrintWords Go.Proofs.YtfnjbmpolggdeaaW.PrintLast Go.Proofs.YtfnjbmpolggdeaaW.PrintMore
attribute [local go_sem] max2_int min2_int max_two min_two max_three min_three max_four min_four   -- for this text's walks alone
set_option linter.unusedVariables false
set_option linter.unusedSimpArgs false
attribute [local go_sem high] eqA54
def api_VType_109.l0 : Nat → List (S54) → List (S54) → Int → Int → Option (Bool)
  | 0, _, _, _, _ => none
  | k + 1, x0, x1, x12, x13 => if x13 < x12 then (if 0 ≤ x13 then (if x13 < (x0.length : Int) then (if x13 < (x1.length : Int) then (if (!(((rd_T54 x0 x13).f0) == ((rd_T54 x1 x13).f0)) || (!((((rd_T54 x0 x13).f1).toList) == (((rd_T54 x1 x13).f1).toList)) || (!(((rd_T54 x0 x13).f2) == ((rd_T54 x1 x13).f2))))) = true then (some false) else (api_VType_109.l0 k x0 x1 x12 (wrap64 (x13 + 1)))) else (none)) else (none)) else (none)) else (some true)
def api_VType_109.f (k : Nat) (l0 : List (S54)) (l1 : List (S54)) : Option (Bool) := if (l0.length : Int) = (l1.length : Int) then (api_VType_109.l0 k l0 l1 (l0.length : Int) 0) else (some false)
theorem api_VType_109.mono_l : ∀ k, (∀ y0 y1 y2 y3, LeO (api_VType_109.l0 k y0 y1 y2 y3) (api_VType_109.l0 (k + 1) y0 y1 y2 y3))
  | 0 => fun _ _ _ _ r h => by simp [api_VType_109.l0] at h
  | k + 1 => by
    have ih0 := api_VType_109.mono_l k
    · intro y0 y1 y2 y3
      unfold api_VType_109.l0
      repeat' first
      | (with_reducible exact ih0 _ _ _ _)
      | (with_reducible exact LeO.refl _)
      | (with_reducible exact LeO.none _)
      | (with_reducible refine LeO.ite ?_ ?_)
      | (with_reducible refine LeO.bind ?_ (fun _ => ?_))
theorem api_VType_109.mono : ∀ a0 a1 k, LeO (api_VType_109.f k a0 a1) (api_VType_109.f (k + 1) a0 a1) := by
  intro a0 a1 k
  have ih0 := api_VType_109.mono_l k
  unfold api_VType_109.f
  repeat' first
      | (with_reducible exact ih0 _ _ _ _)
      | (with_reducible exact LeO.refl _)
      | (with_reducible exact LeO.none _)
      | (with_reducible refine LeO.ite ?_ ?_)
      | (with_reducible refine LeO.bind ?_ (fun _ => ?_))
set_option maxHeartbeats 8000000 in
set_option maxRecDepth 100000 in
theorem api_VType_109.calls (k : Nat) (A0 : Option Addr) (c0 : Nat) (l0 : List (S54)) (A1 : Option Addr) (c1 : Nat) (l1 : List (S54)) (r : Bool) (w : World) (hr0 : Kd.C k54 w A0 l0.length l0) (hc0 : l0.length ≤ c0) (hr1 : Kd.C k54 w A1 l1.length l1) (hc1 : l1.length ≤ c1) (h : api_VType_109.f k l0 l1 = some r) :
    Calls Try.prog 109 #[.slice A0 l0.length c0, .slice A1 l1.length c1] w fun e w' => e = .returned (.bool r) ∧ Drawn0 w w' := by
  have hu54 := Try.underlying54
  have HR0 := Aside0.mk hr0
  have HC0 := Aside0.mk hc0
  clear hr0 hc0
  have HR1 := Aside0.mk hr1
  have HC1 := Aside0.mk hc1
  clear hr1 hc1
  have H : (if (l0.length : Int) = (l1.length : Int) then (api_VType_109.l0 k l0 l1 (l0.length : Int) 0) else (some false)) = some r := h
  clear h
  by_cases c3 : (l0.length : Int) = (l1.length : Int)
  · rw [if_pos c3] at H
    have c3b0 : ((l0.length : Int) == (l1.length : Int)) = true := beq_iff_eq.mpr c3
    have c3b1 : ((l0.length : Int) != (l1.length : Int)) = false := bne_eq_false_iff_eq.mpr c3
    have c3b2 : (l0.length == l1.length) = true := by first | simpa using c3 | (simp at c3 ⊢; omega)
    clear c3
    have H' := Aside0.mk H
    clear H
    go_enter Try.func109, Try.ntmps109
    go_wp2
    repeat (go_quiet (fail); try go_wp2)
    go_loopg [13] k (fun kq v13 w' => ∃ (x13_1 : Int), v13 = .int .i64 x13_1 ∧ Aside0 (api_VType_109.l0 kq l0 l1 (l0.length : Int) x13_1 = some r) ∧ Aside0 (kq ≤ k) ∧ Drawn0 w w')
    case atStart => exact ⟨(0), (by first | rfl | (simp; done) | (simp [*]; done)), H', ⟨Nat.le_refl _⟩, by repeat (first | exact Drawn0.refl _ | apply Drawn0.step)⟩
    case round =>
      clear H'
      try clear c1
      try clear p2
      try clear c3
      try clear c3b0
      try clear c3b1
      try clear c3b2
      obtain ⟨x13_1, rfl, HA, HK1, ⟨m1, rfl⟩⟩ := hrel
      cases gk with
      | zero => exact absurd HA.out (by simp [api_VType_109.l0])
      | succ k1 =>
        have H := HA.out
        clear HA
        simp only [api_VType_109.l0] at H
        by_cases c4 : x13_1 < (l0.length : Int)
        · rw [if_pos c4] at H
          have c4b0 : decide (x13_1 < (l0.length : Int)) = true := decide_eq_true c4
          clear c4
          by_cases c5 : 0 ≤ x13_1
          · rw [if_pos c5] at H
            have c5b0 : decide (0 ≤ x13_1) = true := decide_eq_true c5
            clear c5
            by_cases c6 : x13_1 < (l0.length : Int)
            · rw [if_pos c6] at H
              have c6b0 : decide (x13_1 < (l0.length : Int)) = true := decide_eq_true c6
              clear c6
              by_cases c7 : x13_1 < (l1.length : Int)
              · rw [if_pos c7] at H
                have c7b0 : decide (x13_1 < (l1.length : Int)) = true := decide_eq_true c7
                clear c7
                by_cases c8 : (!(((rd_T54 l0 x13_1).f0) == ((rd_T54 l1 x13_1).f0)) || (!((((rd_T54 l0 x13_1).f1).toList) == (((rd_T54 l1 x13_1).f1).toList)) || (!(((rd_T54 l0 x13_1).f2) == ((rd_T54 l1 x13_1).f2))))) = true
                · rw [if_pos c8] at H
                  have c8b0 : (!(((rd_T54 l0 x13_1).f0) == ((rd_T54 l1 x13_1).f0)) || (!((((rd_T54 l0 x13_1).f1).toList) == (((rd_T54 l1 x13_1).f1).toList)) || (!(((rd_T54 l0 x13_1).f2) == ((rd_T54 l1 x13_1).f2))))) = true := c8
                  clear c8
                  obtain rfl := Option.some.inj H
                  have p521 : 0 ≤ (x13_1 : Int) := of_decide_eq_true (by first | (with_reducible assumption) | assumption)
                  have q521 : x13_1 < (l0.length : Int) := of_decide_eq_true (by first | (with_reducible assumption) | assumption)
                  obtain ⟨ad521, e521, hx521_0, hx521_1, hx521_2⟩ := at_T54 HR0.out x13_1 p521 q521
                  cases e521
                  replace p521 := eq_true p521
                  replace q521 := eq_true q521
                  have p522 : 0 ≤ (x13_1 : Int) := of_decide_eq_true (by first | (with_reducible assumption) | assumption)
                  have q522 : x13_1 < (l1.length : Int) := of_decide_eq_true (by first | (with_reducible assumption) | assumption)
                  obtain ⟨ad522, e522, hx522_0, hx522_1, hx522_2⟩ := at_T54 HR1.out x13_1 p522 q522
                  cases e522
                  replace p522 := eq_true p522
                  replace q522 := eq_true q522
                  go_wp2
                  repeat (go_quiet (fail); try go_wp2)
                  go_ret
                  exact ⟨by first | rfl | (simp; done) | (simp [*]; done), by repeat (first | exact Drawn0.refl _ | apply Drawn0.step)⟩
                · rw [if_neg c8] at H
                  have c8b0 : (!(((rd_T54 l0 x13_1).f0) == ((rd_T54 l1 x13_1).f0)) || (!((((rd_T54 l0 x13_1).f1).toList) == (((rd_T54 l1 x13_1).f1).toList)) || (!(((rd_T54 l0 x13_1).f2) == ((rd_T54 l1 x13_1).f2))))) = false := by simpa using c8
                  clear c8
                  have H' := Aside0.mk H
                  clear H
                  have p521 : 0 ≤ (x13_1 : Int) := of_decide_eq_true (by first | (with_reducible assumption) | assumption)
                  have q521 : x13_1 < (l0.length : Int) := of_decide_eq_true (by first | (with_reducible assumption) | assumption)
                  obtain ⟨ad521, e521, hx521_0, hx521_1, hx521_2⟩ := at_T54 HR0.out x13_1 p521 q521
                  cases e521
                  replace p521 := eq_true p521
                  replace q521 := eq_true q521
                  have p522 : 0 ≤ (x13_1 : Int) := of_decide_eq_true (by first | (with_reducible assumption) | assumption)
                  have q522 : x13_1 < (l1.length : Int) := of_decide_eq_true (by first | (with_reducible assumption) | assumption)
                  obtain ⟨ad522, e522, hx522_0, hx522_1, hx522_2⟩ := at_T54 HR1.out x13_1 p522 q522
                  cases e522
                  replace p522 := eq_true p522
                  replace q522 := eq_true q522
                  go_wp2
                  repeat (go_quiet (fail); try go_wp2)
                  go_roundg k1
                  case measure => have := HK1.out; omega
                  case rel => exact ⟨(wrap64 (x13_1 + 1)), (by first | rfl | (simp; done) | (simp [*]; done)), H', ⟨by have := HK1.out; omega⟩, by repeat (first | exact Drawn0.refl _ | apply Drawn0.step)⟩
              · rw [if_neg c7] at H
                exact absurd H (by simp)
            · rw [if_neg c6] at H
              exact absurd H (by simp)
          · rw [if_neg c5] at H
            exact absurd H (by simp)
        · rw [if_neg c4] at H
          have c4b0 : decide (x13_1 < (l0.length : Int)) = false := decide_eq_false c4
          clear c4
          obtain rfl := Option.some.inj H
          go_wp2
          repeat (go_quiet (fail); try go_wp2)
          go_ret
          exact ⟨by first | rfl | (simp; done) | (simp [*]; done), by repeat (first | exact Drawn0.refl _ | apply Drawn0.step)⟩
  · rw [if_neg c3] at H
    have c3b0 : ((l0.length : Int) == (l1.length : Int)) = false := beq_eq_false_iff_ne.mpr c3
    have c3b1 : ((l0.length : Int) != (l1.length : Int)) = true := bne_iff_ne.mpr c3
    have c3b2 : (l0.length == l1.length) = false := by first | simpa using c3 | (simp at c3 ⊢; omega)
    obtain rfl := Option.some.inj H
    go_enter Try.func109, Try.ntmps109
    go_wp2
    repeat (go_quiet (fail); try go_wp2)
    go_ret
    exact ⟨by first | rfl | (simp; done) | (simp [*]; done), by repeat (first | exact Drawn0.refl _ | apply Drawn0.step)⟩
end Go.Proofs.Ytfnjbmpolggdeaa.MD
end
section
namespace Go.Proofs.Ytfnjbmpolggdeaa.MD.WW
open Go.RowKit Go.Proofs.YtfnjbmpolggdeaaW.PrintWords Go.Proofs.YtfnjbmpolggdeaaW.PrintLast Go.Proofs.YtfnjbmpolggdeaaW.PrintMore
attribute [local go_sem] max2_int min2_int max_two min_two max_three min_three max_four min_four
set_option linter.unusedVariables false
set_option linter.unusedSimpArgs false
def eqV (x y : S54) : Bool := !(!(x.f0 == y.f0) || (!(x.f1.toList == y.f1.toList) || (!(x.f2 == y.f2))))
def likeB (a b : List S54) : Bool := (a.length == b.length) && (List.range' 0 a.length).all fun i => eqV (rd_T54 a (i : Nat)) (rd_T54 b (i : Nat))
theorem like_l (a b : List S54) (h : a.length = b.length) (hl : a.length ≤ 140737488355328) : ∀ r i : Nat, i + r = a.length → api_VType_109.l0 (r + 1) a b (a.length : Int) (i : Int) = some ((List.range' i r).all fun i => eqV (rd_T54 a (i : Nat)) (rd_T54 b (i : Nat)))
  | 0, i, hi => by
    rw [api_VType_109.l0, if_neg (by omega)]
    rfl
  | r + 1, i, hi => by
    rw [api_VType_109.l0, if_pos (by omega), if_pos (by omega), if_pos (by omega), if_pos (by omega)]
    rw [show (wrap64 ((i : Int) + 1)) = ((i + 1 : Nat) : Int) by unfold wrap64; omega, like_l a b h hl r (i + 1) (by omega)]
    rw [List.range'_succ, List.all_cons]
    unfold eqV
    split
    · rename_i hx; rw [hx]; rfl
    · rename_i hx; rw [Bool.not_eq_true] at hx; rw [hx]; rfl
theorem like_f (a b : List S54) (hl : a.length ≤ 140737488355328) : api_VType_109.f (a.length + 1) a b = some (likeB a b) := by
  unfold api_VType_109.f likeB
  by_cases h : a.length = b.length
  · rw [if_pos (by omega), beq_iff_eq.2 h, Bool.true_and]; exact like_l a b h hl a.length 0 (by omega)
  · rw [if_neg (by omega), beq_eq_false_iff_ne.2 h, Bool.false_and]
theorem like_any (A0 : Option Addr) (c0 n0 : Nat) (a : List S54) (ha : a.length = n0) (A1 : Option Addr) (c1 n1 : Nat) (b : List S54) (hb : b.length = n1) (w : World) (h0 : Kd.C k54 w A0 a.length a) (h1 : Kd.C k54 w A1 b.length b) (hc0 : a.length ≤ c0) (hc1 : b.length ≤ c1) (hl : a.length ≤ 140737488355328) :
    Calls Try.prog 109 #[.slice A0 n0 c0, .slice A1 n1 c1] w fun e w' => e = .returned (.bool (likeB a b)) ∧ Below w.heap.size w w' := by
  subst ha hb
  refine (api_VType_109.calls (a.length + 1) A0 c0 a A1 c1 b _ w h0 hc0 h1 hc1 (like_f a b hl)).mono ?_
  rintro e w' ⟨he, hd⟩
  exact ⟨he, hd.below⟩
def oneS (l1 : List S37) (xs ys zs : List S54) (d : Int) (s : List Nat × Int) : List Nat × Int :=
  let n : Int := (xs.length : Int) - (zs.length : Int)
  let m : Nat := min xs.length zs.length
  let like := likeB (xs.take m) (zs.take m)
  if like = true ∧ n = 0 ∧ ys.length = 0 ∧ d < 64 then (s.1 ++ bigB (U64 d) 1, s.2)
  else if like = true ∧ n = 0 ∧ ys.length = 0 then ((s.1 ++ bigB (U64 251) 1) ++ bigB (U64 d) 2, s.2)
  else if like = true ∧ n = 0 ∧ ys.length = 1 ∧ d < 64 then valsS l1 ys (s.1 ++ bigB (U64 (64 + d)) 1, s.2)
  else if like = true ∧ n = 0 ∧ ys.length = 1 then valsS l1 ys ((s.1 ++ bigB (U64 247) 1) ++ bigB (U64 d) 2, s.2)
  else if like = true ∧ n < 0 ∧ n ≥ -3 ∧ ys.length = 0 then ((s.1 ++ bigB (U64 (251 + n)) 1) ++ bigB (U64 d) 2, s.2)
  else if like = true ∧ n > 0 ∧ n ≤ 3 ∧ ys.length = 0 then valsS l1 (xs.drop m) ((s.1 ++ bigB (U64 (251 + n)) 1) ++ bigB (U64 d) 2, s.2)
  else let t := valsS l1 xs (((s.1 ++ bigB (U64 255) 1) ++ bigB (U64 d) 2) ++ bigB (U64 xs.length) 2, s.2)
    valsS l1 ys (t.1 ++ bigB (U64 ys.length) 2, t.2)
theorem valsS_len (l1 : List S37) (vs : List S54) (s : List Nat × Int) : (valsS l1 vs s).1.length ≤ s.1.length + 3 * vs.length := by
  unfold valsS
  induction vs generalizing s with
  | nil => simp
  | cons v vs ih =>
    rw [List.foldl_cons]
    have := ih (valL l1 v s.1, valE l1 v s.2)
    have h2 := valL_len l1 v s.1
    simp only [List.length_cons] at *
    omega
theorem values_any2 (w0 w : World) (g : Nat) (A : Option Addr) (c : Nat) (l1 : List S37) (v : Value) (l : List Nat) (er : Int) (A3 : Option Addr) (c3 : Nat) (n : Nat) (vs : List S54) (hn : vs.length = n)
    (hW : BW w0.heap.size w g 92 (mwC A l1.length c er) v l) (hB : Below w0.heap.size w0 w) (hr : Kd.C k37 w0 A l1.length l1) (hc : l1.length ≤ c) (hll : l1.length ≤ 140737488355328) (h3 : ∀ x ∈ l1, 0 ≤ x.f3 ∧ x.f3 < 65536)
    (hv : Kd.C k54 w0 A3 vs.length vs) (hc3 : vs.length ≤ c3) (ht : ∀ x ∈ vs, 0 ≤ x.f0 ∧ x.f0 < 256) (hlen : l.length + 3 * vs.length + 8 ≤ 140737488355328) :
    Calls Try.prog 110 #[.pointer (some ⟨g, 0, none⟩), .slice A3 n c3] w (ValsPost w0 w g v A l1.length c (valsS l1 vs (l, er))) := by
  subst hn
  exact values_any w0 w g A c l1 v (l, er) A3 c3 vs hW hB hr hc hll h3 hv hc3 ht hlen
theorem one_len {l1 : List S37} {t : List Nat × Int} {xs : List S54} {s : List Nat × Int} {m : Nat} (h : t = valsS l1 xs s) (hl : s.1.length ≤ m) : t.1.length ≤ m + 3 * xs.length := by
  have := valsS_len l1 xs s
  rw [h]; omega
set_option maxHeartbeats 8000000 in
set_option maxRecDepth 100000 in
theorem one_any (w0 w : World) (g : Nat) (A : Option Addr) (c : Nat) (l1 : List S37) (v : Value) (s : List Nat × Int) (fat : Int) (A1 : Option Addr) (c1 : Nat) (xs : List S54) (A2 : Option Addr) (c2 : Nat) (ys : List S54) (A3 : Option Addr) (c3 : Nat) (zs : List S54) (d : Int)
    (hW : BW w0.heap.size w g 92 (mwC A l1.length c s.2) v s.1) (hB : Below w0.heap.size w0 w) (hr : Kd.C k37 w0 A l1.length l1) (hc : l1.length ≤ c) (hll : l1.length ≤ 140737488355328) (h3 : ∀ x ∈ l1, 0 ≤ x.f3 ∧ x.f3 < 65536)
    (hx : Kd.C k54 w0 A1 xs.length xs) (hc1 : xs.length ≤ c1) (tx : ∀ x ∈ xs, 0 ≤ x.f0 ∧ x.f0 < 256) (lx : xs.length ≤ 65535)
    (hy : Kd.C k54 w0 A2 ys.length ys) (hc2 : ys.length ≤ c2) (ty : ∀ x ∈ ys, 0 ≤ x.f0 ∧ x.f0 < 256) (ly : ys.length ≤ 65535)
    (hz : Kd.C k54 w0 A3 zs.length zs) (hc3 : zs.length ≤ c3) (lz : zs.length ≤ 140737488355328) (hd : 0 ≤ d ∧ d ≤ 65535) (hlen : s.1.length + 1000000 ≤ 140737488355328) :
    Calls Try.prog 60 #[.pointer (some ⟨g, 0, none⟩), .agg #[.int .i64 fat, .slice A1 xs.length c1, .slice A2 ys.length c2], .int .i64 d, .slice A3 zs.length c3] w (ValsPost w0 w g v A l1.length c (oneS l1 xs ys zs d s)) := by
  have HW := Aside0.mk hW
  have HB := Aside0.mk hB
  have HRP := Aside0.mk hr
  have HC := Aside0.mk hc
  have HLL := Aside0.mk hll
  have H3 := Aside0.mk h3
  have HX := Aside0.mk hx
  have HCX := Aside0.mk hc1
  have HTX := Aside0.mk tx
  have HLX := Aside0.mk lx
  have HY := Aside0.mk hy
  have HCY := Aside0.mk hc2
  have HTY := Aside0.mk ty
  have HLY := Aside0.mk ly
  have HZ := Aside0.mk hz
  have HCZ := Aside0.mk hc3
  have HLZ := Aside0.mk lz
  have HD := Aside0.mk hd
  have HLEN := Aside0.mk hlen
  have HG := Aside0.mk (show w.heap.size ≠ g by have := hW.lt; omega)
  have HVN := Aside0.mk (show v.ownBlock ≠ some w.heap.size from fun e => by have := (hW.2.2.ge _ e).2; omega)
  obtain ⟨m, hm⟩ : ∃ m, m = min xs.length zs.length := ⟨_, rfl⟩
  obtain ⟨n, hn⟩ : ∃ n : Int, n = (xs.length : Int) - (zs.length : Int) := ⟨_, rfl⟩
  obtain ⟨b, hb⟩ : ∃ b : Bool, likeB (xs.take m) (zs.take m) = b := ⟨_, rfl⟩
  have HM := Aside0.mk hm
  have HN := Aside0.mk hn
  have HL := Aside0.mk hb
  have hS : oneS l1 xs ys zs d s = (if b = true ∧ n = 0 ∧ ys.length = 0 ∧ d < 64 then (s.1 ++ bigB (U64 d) 1, s.2)
  else if b = true ∧ n = 0 ∧ ys.length = 0 then ((s.1 ++ bigB (U64 251) 1) ++ bigB (U64 d) 2, s.2)
  else if b = true ∧ n = 0 ∧ ys.length = 1 ∧ d < 64 then valsS l1 ys (s.1 ++ bigB (U64 (64 + d)) 1, s.2)
  else if b = true ∧ n = 0 ∧ ys.length = 1 then valsS l1 ys ((s.1 ++ bigB (U64 247) 1) ++ bigB (U64 d) 2, s.2)
  else if b = true ∧ n < 0 ∧ n ≥ -3 ∧ ys.length = 0 then ((s.1 ++ bigB (U64 (251 + n)) 1) ++ bigB (U64 d) 2, s.2)
  else if b = true ∧ n > 0 ∧ n ≤ 3 ∧ ys.length = 0 then valsS l1 (xs.drop m) ((s.1 ++ bigB (U64 (251 + n)) 1) ++ bigB (U64 d) 2, s.2)
  else valsS l1 ys ((valsS l1 xs (((s.1 ++ bigB (U64 255) 1) ++ bigB (U64 d) 2) ++ bigB (U64 xs.length) 2, s.2)).1 ++ bigB (U64 ys.length) 2, (valsS l1 xs (((s.1 ++ bigB (U64 255) 1) ++ bigB (U64 d) 2) ++ bigB (U64 xs.length) 2, s.2)).2)) := by
    subst hb hn hm; rfl
  generalize oneS l1 xs ys zs d s = so at *
  have HS := Aside0.mk hS
  have hmx : (m : Int) ≤ (xs.length : Int) := by omega
  have hmz : (m : Int) ≤ (zs.length : Int) := by omega
  have hmc1 : (m : Int) ≤ (c1 : Int) := by omega
  have hmc3 : (m : Int) ≤ (c3 : Int) := by omega
  have hnw : IntKind.i64.wrap ((xs.length : Int) - (zs.length : Int)) = n := by rw [IntKind.wrap_i64]; omega
  clear hW hB hr hc hll h3 hx hc1 tx lx hy hc2 ty ly hz hc3 lz hd hlen hS hb hn
  have hd0 := HD.out.1
  have hd1 := HD.out.2
  rcases Nat.lt_or_ge zs.length xs.length with hlt | hge
  · obtain rfl : m = zs.length := by omega
    have hlt2 : (zs.length : Int) < (xs.length : Int) := by omega
    clear hm
    go_enter Try.func60, Try.ntmps60
    go_wp2_with fail
    have a0 : (w.alloc (.cells #[.int .i64 fat, .slice A1 xs.length c1, .slice A2 ys.length c2] 80)).cell? ⟨w.heap.size, 1, none⟩ = some (.slice A1 xs.length c1) := by go_simp
    have b0 : (w.alloc (.cells #[.int .i64 fat, .slice A1 xs.length c1, .slice A2 ys.length c2] 80)).cell? ⟨w.heap.size, 2, none⟩ = some (.slice A2 ys.length c2) := by go_simp
    have hbel := below_alloc (Below.refl w.heap.size w) (.cells #[.int .i64 fat, .slice A1 xs.length c1, .slice A2 ys.length c2] 80)
    have hz0 : w.heap.size < (w.alloc (.cells #[.int .i64 fat, .slice A1 xs.length c1, .slice A2 ys.length c2] 80)).heap.size := by simp
    have HB0 := Aside0.mk (below_then HB.out HB.out.size hbel)
    have HW0 := Aside0.mk (HW.out.below hbel)
    have HS0 := Aside0.mk (BS.below (g := g) (v := v) hbel)
    clear hbel
    generalize w.alloc (.cells #[.int .i64 fat, .slice A1 xs.length c1, .slice A2 ys.length c2] 80) = w1 at *
    have HZ1 := Aside0.mk hz0
    clear hz0
    have lk : ∀ W, Below w0.heap.size w0 W → Calls Try.prog 109 #[.slice A1 zs.length c1, .slice A3 zs.length c3] W fun e w' => e = .returned (.bool b) ∧ Below W.heap.size W w' := fun W hW => by
      have k0 := like_any A1 c1 zs.length (xs.take zs.length) (by rw [List.length_take]; omega) A3 c3 zs.length (zs.take zs.length) (by rw [List.length_take]; omega) W (Kd.C_take (Kd.C_below HX.out hW) (by omega)) (Kd.C_take (Kd.C_below HZ.out hW) (by omega)) (by rw [List.length_take]; have := HCX.out; omega) (by rw [List.length_take]; have := HCZ.out; omega) (by rw [List.length_take]; have := HLX.out; omega)
      rw [HL.out] at k0
      exact k0
    have LK := Aside0.mk lk
    clear lk
    go_region_held3 (fun w' => w'.cell? ⟨w.heap.size, 1, none⟩ = some (.slice A1 xs.length c1)) (first | exact a0 | exact pw_cell_below (below_drew0 (by assumption)) a0) ((go_at_call 109; refine (LK.out _ (pw_below_drewN HB0.out _)).mono ?_; rintro e2 w2 ⟨rfl, hbx⟩))
    have hb2 := below_drew0 hbx
    have a2 := pw_cell_below hb2 a0
    have b2 := pw_cell_below hb2 b0
    have HB2 := Aside0.mk (below_then HB0.out HB0.out.size hb2)
    have HW2 := Aside0.mk (HW0.out.below hb2)
    have HS2 := Aside0.mk (HS0.out.trans (BS.below hb2))
    have HN2 := HVN
    have HZ2 := Aside0.mk (show w.heap.size < w2.heap.size from Nat.lt_of_lt_of_le HZ1.out hb2.size)
    clear hb2 hbx a0 b0
    try clear LK
    cases b
    · have HF := Aside0.mk (show True from trivial)
      go_wp2_with fail
      refine (mapNum_any w0 _ g A l1.length c s.2 v s.1 255 _ 1 rfl (by decide) HW2.out HB2.out (by first | (have := HLEN.out; (try simp only [List.length_append, bigB_length]); omega) | (have := HLEN.out; have := HTL.out; have := HLX.out; (try simp only [List.length_append, bigB_length]); omega))).mono ?_
      rintro e3 w3 ⟨rfl, hb3, v3, hw3, hs3⟩
      have a3 := hs3.cell a2 HG.out HN2.out
      have b3 := hs3.cell b2 HG.out HN2.out
      have HN3 := Aside0.mk (BS.old_ne hs3 (q := w.heap.size) HZ2.out HN2.out)
      have HZ3 := Aside0.mk (show w.heap.size < w3.heap.size from Nat.lt_of_lt_of_le HZ2.out hs3.1.1)
      have HB3 := Aside0.mk hb3
      have HW3 := Aside0.mk hw3
      have HS3 := Aside0.mk (HS2.out.trans hs3)
      clear hb3 hw3 hs3 a2 b2
      go_wp2_with fail
      refine (mapNum_any w0 _ g A l1.length c s.2 v3 (s.1 ++ bigB (U64 255) 1) d _ 2 rfl (by decide) HW3.out HB3.out (by first | (have := HLEN.out; (try simp only [List.length_append, bigB_length]); omega) | (have := HLEN.out; have := HTL.out; have := HLX.out; (try simp only [List.length_append, bigB_length]); omega))).mono ?_
      rintro e4 w4 ⟨rfl, hb4, v4, hw4, hs4⟩
      have a4 := hs4.cell a3 HG.out HN3.out
      have b4 := hs4.cell b3 HG.out HN3.out
      have HN4 := Aside0.mk (BS.old_ne hs4 (q := w.heap.size) HZ3.out HN3.out)
      have HZ4 := Aside0.mk (show w.heap.size < w4.heap.size from Nat.lt_of_lt_of_le HZ3.out hs4.1.1)
      have HB4 := Aside0.mk hb4
      have HW4 := Aside0.mk hw4
      have HS4 := Aside0.mk (HS3.out.trans hs4)
      clear hb4 hw4 hs4 a3 b3
      go_wp2_with fail
      refine (mapNum_any w0 _ g A l1.length c s.2 v4 ((s.1 ++ bigB (U64 255) 1) ++ bigB (U64 d) 2) (xs.length : Int) _ 2 rfl (by decide) HW4.out HB4.out (by first | (have := HLEN.out; (try simp only [List.length_append, bigB_length]); omega) | (have := HLEN.out; have := HTL.out; have := HLX.out; (try simp only [List.length_append, bigB_length]); omega))).mono ?_
      rintro e5 w5 ⟨rfl, hb5, v5, hw5, hs5⟩
      have a5 := hs5.cell a4 HG.out HN4.out
      have b5 := hs5.cell b4 HG.out HN4.out
      have HN5 := Aside0.mk (BS.old_ne hs5 (q := w.heap.size) HZ4.out HN4.out)
      have HZ5 := Aside0.mk (show w.heap.size < w5.heap.size from Nat.lt_of_lt_of_le HZ4.out hs5.1.1)
      have HB5 := Aside0.mk hb5
      have HW5 := Aside0.mk hw5
      have HS5 := Aside0.mk (HS4.out.trans hs5)
      clear hb5 hw5 hs5 a4 b4
      go_wp2_with fail
      refine (values_any2 w0 _ g A c l1 v5 (((s.1 ++ bigB (U64 255) 1) ++ bigB (U64 d) 2) ++ bigB (U64 (xs.length : Int)) 2) s.2 _ _ _ xs rfl HW5.out HB5.out HRP.out HC.out HLL.out H3.out HX.out HCX.out HTX.out (by have := HLEN.out; first | (have := HLX.out; have := HLY.out; simp only [List.length_append, bigB_length, List.length_drop]; omega) | (have := HTL.out; have := HLX.out; have := HLY.out; simp only [List.length_append, bigB_length]; omega))).mono ?_
      rintro e6 w6 ⟨rfl, v6, hw6, hb6, hs6⟩
      have a6 := hs6.cell a5 HG.out HN5.out
      have b6 := hs6.cell b5 HG.out HN5.out
      have HN6 := Aside0.mk (BS.old_ne hs6 (q := w.heap.size) HZ5.out HN5.out)
      have HZ6 := Aside0.mk (show w.heap.size < w6.heap.size from Nat.lt_of_lt_of_le HZ5.out hs6.1.1)
      have HB6 := Aside0.mk hb6
      have HW6 := Aside0.mk hw6
      have HS6 := Aside0.mk (HS5.out.trans hs6)
      clear hb6 hw6 hs6 a5 b5
      have HTL := Aside0.mk (one_len (l1 := l1) (xs := xs) (m := s.1.length + 5) rfl (s := ((((s.1 ++ bigB (U64 255) 1) ++ bigB (U64 d) 2) ++ bigB (U64 (xs.length : Int)) 2), s.2)) (by simp only [List.length_append, bigB_length]; omega))
      generalize ht : valsS l1 xs ((((s.1 ++ bigB (U64 255) 1) ++ bigB (U64 d) 2) ++ bigB (U64 (xs.length : Int)) 2), s.2) = t at *
      have HT := Aside0.mk ht
      clear ht
      go_wp2_with fail
      refine (mapNum_any w0 _ g A l1.length c t.2 v6 t.1 (ys.length : Int) _ 2 rfl (by decide) HW6.out HB6.out (by first | (have := HLEN.out; (try simp only [List.length_append, bigB_length]); omega) | (have := HLEN.out; have := HTL.out; have := HLX.out; (try simp only [List.length_append, bigB_length]); omega))).mono ?_
      rintro e7 w7 ⟨rfl, hb7, v7, hw7, hs7⟩
      have a7 := hs7.cell a6 HG.out HN6.out
      have b7 := hs7.cell b6 HG.out HN6.out
      have HN7 := Aside0.mk (BS.old_ne hs7 (q := w.heap.size) HZ6.out HN6.out)
      have HZ7 := Aside0.mk (show w.heap.size < w7.heap.size from Nat.lt_of_lt_of_le HZ6.out hs7.1.1)
      have HB7 := Aside0.mk hb7
      have HW7 := Aside0.mk hw7
      have HS7 := Aside0.mk (HS6.out.trans hs7)
      clear hb7 hw7 hs7 a6 b6
      go_wp2_with fail
      refine (values_any2 w0 _ g A c l1 v7 (t.1 ++ bigB (U64 (ys.length : Int)) 2) t.2 _ _ _ ys rfl HW7.out HB7.out HRP.out HC.out HLL.out H3.out HY.out HCY.out HTY.out (by have := HLEN.out; first | (have := HLX.out; have := HLY.out; simp only [List.length_append, bigB_length, List.length_drop]; omega) | (have := HTL.out; have := HLX.out; have := HLY.out; simp only [List.length_append, bigB_length]; omega))).mono ?_
      rintro e8 w8 ⟨rfl, v8, hw8, hb8, hs8⟩
      have a8 := hs8.cell a7 HG.out HN7.out
      have b8 := hs8.cell b7 HG.out HN7.out
      have HN8 := Aside0.mk (BS.old_ne hs8 (q := w.heap.size) HZ7.out HN7.out)
      have HZ8 := Aside0.mk (show w.heap.size < w8.heap.size from Nat.lt_of_lt_of_le HZ7.out hs8.1.1)
      have HB8 := Aside0.mk hb8
      have HW8 := Aside0.mk hw8
      have HS8 := Aside0.mk (HS7.out.trans hs8)
      clear hb8 hw8 hs8 a7 b7
      have HE : so = valsS l1 ys (t.1 ++ bigB (U64 (ys.length : Int)) 2, t.2) := by
        refine HS.out.trans ?_
        refine (if_neg (fun h => by first | exact absurd h.1 (by decide) | (have := HF.out; have := h.2; omega))).trans ?_
        refine (if_neg (fun h => by first | exact absurd h.1 (by decide) | (have := HF.out; have := h.2; omega))).trans ?_
        refine (if_neg (fun h => by first | exact absurd h.1 (by decide) | (have := HF.out; have := h.2; omega))).trans ?_
        refine (if_neg (fun h => by first | exact absurd h.1 (by decide) | (have := HF.out; have := h.2; omega))).trans ?_
        refine (if_neg (fun h => by first | exact absurd h.1 (by decide) | (have := HF.out; have := h.2; omega))).trans ?_
        refine (if_neg (fun h => by first | exact absurd h.1 (by decide) | (have := HF.out; have := h.2; omega))).trans ?_
        first | rfl | rw [HT.out]
      go_wp2
      go_end0
      rw [HE]
      exact ⟨rfl, v8, HW8.out, HB8.out, HS8.out⟩
    · have hn_ : 0 < n := by have := HN.out; omega
      by_cases h3_ : n ≤ 3
      · by_cases hy_ : ys.length = 0
        · have HF := Aside0.mk (show 0 < n ∧ n ≤ 3 ∧ ys.length = 0 ∧ zs.length < xs.length from ⟨hn_, h3_, hy_, hlt⟩)
          have q_n0 : (n == 0) = false := beq_eq_false_iff_ne.2 (by omega)
          have q_nl : decide (n < 0) = false := decide_eq_false (by omega)
          have q_ng : decide (n > 0) = true := decide_eq_true (by omega)
          have q_m3 : decide (n ≤ 3) = true := decide_eq_true (by omega)
          have q_y0 : ((ys.length : Int) == 0) = true := beq_iff_eq.2 (by omega)
          have hw3 : IntKind.i64.wrap (251 + n) = 251 + n := by rw [IntKind.wrap_i64]; omega
          have hcn : ¬ c1 = zs.length := by have := HCX.out; omega
          have hcn2 : ¬ (c1 : Int) = (zs.length : Int) := by have := HCX.out; omega
          have HCN := Aside0.mk hcn
          try clear hz_
          try clear hy_
          try clear hd_
          try clear h3_
          try clear hn_
          try clear hy1_
          go_wp2_with fail
          refine (mapNum_any w0 _ g A l1.length c s.2 v s.1 (251 + n) _ 1 rfl (by decide) HW2.out HB2.out (by first | (have := HLEN.out; (try simp only [List.length_append, bigB_length]); omega) | (have := HLEN.out; have := HTL.out; have := HLX.out; (try simp only [List.length_append, bigB_length]); omega))).mono ?_
          rintro e3 w3 ⟨rfl, hb3, v3, hw3, hs3⟩
          have a3 := hs3.cell a2 HG.out HN2.out
          have b3 := hs3.cell b2 HG.out HN2.out
          have HN3 := Aside0.mk (BS.old_ne hs3 (q := w.heap.size) HZ2.out HN2.out)
          have HZ3 := Aside0.mk (show w.heap.size < w3.heap.size from Nat.lt_of_lt_of_le HZ2.out hs3.1.1)
          have HB3 := Aside0.mk hb3
          have HW3 := Aside0.mk hw3
          have HS3 := Aside0.mk (HS2.out.trans hs3)
          clear hb3 hw3 hs3 a2 b2
          go_wp2_with fail
          refine (mapNum_any w0 _ g A l1.length c s.2 v3 (s.1 ++ bigB (U64 (251 + n)) 1) d _ 2 rfl (by decide) HW3.out HB3.out (by first | (have := HLEN.out; (try simp only [List.length_append, bigB_length]); omega) | (have := HLEN.out; have := HTL.out; have := HLX.out; (try simp only [List.length_append, bigB_length]); omega))).mono ?_
          rintro e4 w4 ⟨rfl, hb4, v4, hw4, hs4⟩
          have a4 := hs4.cell a3 HG.out HN3.out
          have b4 := hs4.cell b3 HG.out HN3.out
          have HN4 := Aside0.mk (BS.old_ne hs4 (q := w.heap.size) HZ3.out HN3.out)
          have HZ4 := Aside0.mk (show w.heap.size < w4.heap.size from Nat.lt_of_lt_of_le HZ3.out hs4.1.1)
          have HB4 := Aside0.mk hb4
          have HW4 := Aside0.mk hw4
          have HS4 := Aside0.mk (HS3.out.trans hs4)
          clear hb4 hw4 hs4 a3 b3
          go_wp2_with fail
          refine (values_any2 w0 _ g A c l1 v4 ((s.1 ++ bigB (U64 (251 + n)) 1) ++ bigB (U64 d) 2) s.2 _ _ _ (xs.drop zs.length) List.length_drop HW4.out HB4.out HRP.out HC.out HLL.out H3.out (by have := Kd.C_drop (m := zs.length) HX.out (by have := HF.out; omega) HCX.out; rw [if_neg HCN.out] at this; exact this) (by rw [List.length_drop]; have := HCX.out; omega) (fun x hx => HTX.out x (List.mem_of_mem_drop hx)) (by have := HLEN.out; first | (have := HLX.out; have := HLY.out; simp only [List.length_append, bigB_length, List.length_drop]; omega) | (have := HTL.out; have := HLX.out; have := HLY.out; simp only [List.length_append, bigB_length]; omega))).mono ?_
          rintro e5 w5 ⟨rfl, v5, hw5, hb5, hs5⟩
          have a5 := hs5.cell a4 HG.out HN4.out
          have b5 := hs5.cell b4 HG.out HN4.out
          have HN5 := Aside0.mk (BS.old_ne hs5 (q := w.heap.size) HZ4.out HN4.out)
          have HZ5 := Aside0.mk (show w.heap.size < w5.heap.size from Nat.lt_of_lt_of_le HZ4.out hs5.1.1)
          have HB5 := Aside0.mk hb5
          have HW5 := Aside0.mk hw5
          have HS5 := Aside0.mk (HS4.out.trans hs5)
          clear hb5 hw5 hs5 a4 b4
          have HE : so = valsS l1 (xs.drop zs.length) (((s.1 ++ bigB (U64 (251 + n)) 1) ++ bigB (U64 d) 2), s.2) := by
            refine HS.out.trans ?_
            refine (if_neg (fun h => by first | exact absurd h.1 (by decide) | (have := HF.out; have := h.2; omega))).trans ?_
            refine (if_neg (fun h => by first | exact absurd h.1 (by decide) | (have := HF.out; have := h.2; omega))).trans ?_
            refine (if_neg (fun h => by first | exact absurd h.1 (by decide) | (have := HF.out; have := h.2; omega))).trans ?_
            refine (if_neg (fun h => by first | exact absurd h.1 (by decide) | (have := HF.out; have := h.2; omega))).trans ?_
            refine (if_neg (fun h => by first | exact absurd h.1 (by decide) | (have := HF.out; have := h.2; omega))).trans ?_
            exact if_pos ⟨(by first | rfl | trivial), by have := HF.out; omega⟩
          go_wp2
          go_end0
          rw [HE]
          exact ⟨rfl, v5, HW5.out, HB5.out, HS5.out⟩
        · have HF := Aside0.mk (show 0 < n ∧ n ≤ 3 ∧ ¬ ys.length = 0 from ⟨hn_, h3_, hy_⟩)
          have q_n0 : (n == 0) = false := beq_eq_false_iff_ne.2 (by omega)
          have q_nl : decide (n < 0) = false := decide_eq_false (by omega)
          have q_ng : decide (n > 0) = true := decide_eq_true (by omega)
          have q_m3 : decide (n ≤ 3) = true := decide_eq_true (by omega)
          have q_y0 : ((ys.length : Int) == 0) = false := beq_eq_false_iff_ne.2 (by omega)
          try clear hz_
          try clear hy_
          try clear hd_
          try clear h3_
          try clear hn_
          try clear hy1_
          go_wp2_with fail
          refine (mapNum_any w0 _ g A l1.length c s.2 v s.1 255 _ 1 rfl (by decide) HW2.out HB2.out (by first | (have := HLEN.out; (try simp only [List.length_append, bigB_length]); omega) | (have := HLEN.out; have := HTL.out; have := HLX.out; (try simp only [List.length_append, bigB_length]); omega))).mono ?_
          rintro e3 w3 ⟨rfl, hb3, v3, hw3, hs3⟩
          have a3 := hs3.cell a2 HG.out HN2.out
          have b3 := hs3.cell b2 HG.out HN2.out
          have HN3 := Aside0.mk (BS.old_ne hs3 (q := w.heap.size) HZ2.out HN2.out)
          have HZ3 := Aside0.mk (show w.heap.size < w3.heap.size from Nat.lt_of_lt_of_le HZ2.out hs3.1.1)
          have HB3 := Aside0.mk hb3
          have HW3 := Aside0.mk hw3
          have HS3 := Aside0.mk (HS2.out.trans hs3)
          clear hb3 hw3 hs3 a2 b2
          go_wp2_with fail
          refine (mapNum_any w0 _ g A l1.length c s.2 v3 (s.1 ++ bigB (U64 255) 1) d _ 2 rfl (by decide) HW3.out HB3.out (by first | (have := HLEN.out; (try simp only [List.length_append, bigB_length]); omega) | (have := HLEN.out; have := HTL.out; have := HLX.out; (try simp only [List.length_append, bigB_length]); omega))).mono ?_
          rintro e4 w4 ⟨rfl, hb4, v4, hw4, hs4⟩
          have a4 := hs4.cell a3 HG.out HN3.out
          have b4 := hs4.cell b3 HG.out HN3.out
          have HN4 := Aside0.mk (BS.old_ne hs4 (q := w.heap.size) HZ3.out HN3.out)
          have HZ4 := Aside0.mk (show w.heap.size < w4.heap.size from Nat.lt_of_lt_of_le HZ3.out hs4.1.1)
          have HB4 := Aside0.mk hb4
          have HW4 := Aside0.mk hw4
          have HS4 := Aside0.mk (HS3.out.trans hs4)
          clear hb4 hw4 hs4 a3 b3
          go_wp2_with fail
          refine (mapNum_any w0 _ g A l1.length c s.2 v4 ((s.1 ++ bigB (U64 255) 1) ++ bigB (U64 d) 2) (xs.length : Int) _ 2 rfl (by decide) HW4.out HB4.out (by first | (have := HLEN.out; (try simp only [List.length_append, bigB_length]); omega) | (have := HLEN.out; have := HTL.out; have := HLX.out; (try simp only [List.length_append, bigB_length]); omega))).mono ?_
          rintro e5 w5 ⟨rfl, hb5, v5, hw5, hs5⟩
          have a5 := hs5.cell a4 HG.out HN4.out
          have b5 := hs5.cell b4 HG.out HN4.out
          have HN5 := Aside0.mk (BS.old_ne hs5 (q := w.heap.size) HZ4.out HN4.out)
          have HZ5 := Aside0.mk (show w.heap.size < w5.heap.size from Nat.lt_of_lt_of_le HZ4.out hs5.1.1)
          have HB5 := Aside0.mk hb5
          have HW5 := Aside0.mk hw5
          have HS5 := Aside0.mk (HS4.out.trans hs5)
          clear hb5 hw5 hs5 a4 b4
          go_wp2_with fail
          refine (values_any2 w0 _ g A c l1 v5 (((s.1 ++ bigB (U64 255) 1) ++ bigB (U64 d) 2) ++ bigB (U64 (xs.length : Int)) 2) s.2 _ _ _ xs rfl HW5.out HB5.out HRP.out HC.out HLL.out H3.out HX.out HCX.out HTX.out (by have := HLEN.out; first | (have := HLX.out; have := HLY.out; simp only [List.length_append, bigB_length, List.length_drop]; omega) | (have := HTL.out; have := HLX.out; have := HLY.out; simp only [List.length_append, bigB_length]; omega))).mono ?_
          rintro e6 w6 ⟨rfl, v6, hw6, hb6, hs6⟩
          have a6 := hs6.cell a5 HG.out HN5.out
          have b6 := hs6.cell b5 HG.out HN5.out
          have HN6 := Aside0.mk (BS.old_ne hs6 (q := w.heap.size) HZ5.out HN5.out)
          have HZ6 := Aside0.mk (show w.heap.size < w6.heap.size from Nat.lt_of_lt_of_le HZ5.out hs6.1.1)
          have HB6 := Aside0.mk hb6
          have HW6 := Aside0.mk hw6
          have HS6 := Aside0.mk (HS5.out.trans hs6)
          clear hb6 hw6 hs6 a5 b5
          have HTL := Aside0.mk (one_len (l1 := l1) (xs := xs) (m := s.1.length + 5) rfl (s := ((((s.1 ++ bigB (U64 255) 1) ++ bigB (U64 d) 2) ++ bigB (U64 (xs.length : Int)) 2), s.2)) (by simp only [List.length_append, bigB_length]; omega))
          generalize ht : valsS l1 xs ((((s.1 ++ bigB (U64 255) 1) ++ bigB (U64 d) 2) ++ bigB (U64 (xs.length : Int)) 2), s.2) = t at *
          have HT := Aside0.mk ht
          clear ht
          go_wp2_with fail
          refine (mapNum_any w0 _ g A l1.length c t.2 v6 t.1 (ys.length : Int) _ 2 rfl (by decide) HW6.out HB6.out (by first | (have := HLEN.out; (try simp only [List.length_append, bigB_length]); omega) | (have := HLEN.out; have := HTL.out; have := HLX.out; (try simp only [List.length_append, bigB_length]); omega))).mono ?_
          rintro e7 w7 ⟨rfl, hb7, v7, hw7, hs7⟩
          have a7 := hs7.cell a6 HG.out HN6.out
          have b7 := hs7.cell b6 HG.out HN6.out
          have HN7 := Aside0.mk (BS.old_ne hs7 (q := w.heap.size) HZ6.out HN6.out)
          have HZ7 := Aside0.mk (show w.heap.size < w7.heap.size from Nat.lt_of_lt_of_le HZ6.out hs7.1.1)
          have HB7 := Aside0.mk hb7
          have HW7 := Aside0.mk hw7
          have HS7 := Aside0.mk (HS6.out.trans hs7)
          clear hb7 hw7 hs7 a6 b6
          go_wp2_with fail
          refine (values_any2 w0 _ g A c l1 v7 (t.1 ++ bigB (U64 (ys.length : Int)) 2) t.2 _ _ _ ys rfl HW7.out HB7.out HRP.out HC.out HLL.out H3.out HY.out HCY.out HTY.out (by have := HLEN.out; first | (have := HLX.out; have := HLY.out; simp only [List.length_append, bigB_length, List.length_drop]; omega) | (have := HTL.out; have := HLX.out; have := HLY.out; simp only [List.length_append, bigB_length]; omega))).mono ?_
          rintro e8 w8 ⟨rfl, v8, hw8, hb8, hs8⟩
          have a8 := hs8.cell a7 HG.out HN7.out
          have b8 := hs8.cell b7 HG.out HN7.out
          have HN8 := Aside0.mk (BS.old_ne hs8 (q := w.heap.size) HZ7.out HN7.out)
          have HZ8 := Aside0.mk (show w.heap.size < w8.heap.size from Nat.lt_of_lt_of_le HZ7.out hs8.1.1)
          have HB8 := Aside0.mk hb8
          have HW8 := Aside0.mk hw8
          have HS8 := Aside0.mk (HS7.out.trans hs8)
          clear hb8 hw8 hs8 a7 b7
          have HE : so = valsS l1 ys (t.1 ++ bigB (U64 (ys.length : Int)) 2, t.2) := by
            refine HS.out.trans ?_
            refine (if_neg (fun h => by first | exact absurd h.1 (by decide) | (have := HF.out; have := h.2; omega))).trans ?_
            refine (if_neg (fun h => by first | exact absurd h.1 (by decide) | (have := HF.out; have := h.2; omega))).trans ?_
            refine (if_neg (fun h => by first | exact absurd h.1 (by decide) | (have := HF.out; have := h.2; omega))).trans ?_
            refine (if_neg (fun h => by first | exact absurd h.1 (by decide) | (have := HF.out; have := h.2; omega))).trans ?_
            refine (if_neg (fun h => by first | exact absurd h.1 (by decide) | (have := HF.out; have := h.2; omega))).trans ?_
            refine (if_neg (fun h => by first | exact absurd h.1 (by decide) | (have := HF.out; have := h.2; omega))).trans ?_
            first | rfl | rw [HT.out]
          go_wp2
          go_end0
          rw [HE]
          exact ⟨rfl, v8, HW8.out, HB8.out, HS8.out⟩
      · have HF := Aside0.mk (show 0 < n ∧ ¬ n ≤ 3 from ⟨hn_, h3_⟩)
        have q_n0 : (n == 0) = false := beq_eq_false_iff_ne.2 (by omega)
        have q_nl : decide (n < 0) = false := decide_eq_false (by omega)
        have q_ng : decide (n > 0) = true := decide_eq_true (by omega)
        have q_m3 : decide (n ≤ 3) = false := decide_eq_false (by omega)
        try clear hz_
        try clear hy_
        try clear hd_
        try clear h3_
        try clear hn_
        try clear hy1_
        go_wp2_with fail
        refine (mapNum_any w0 _ g A l1.length c s.2 v s.1 255 _ 1 rfl (by decide) HW2.out HB2.out (by first | (have := HLEN.out; (try simp only [List.length_append, bigB_length]); omega) | (have := HLEN.out; have := HTL.out; have := HLX.out; (try simp only [List.length_append, bigB_length]); omega))).mono ?_
        rintro e3 w3 ⟨rfl, hb3, v3, hw3, hs3⟩
        have a3 := hs3.cell a2 HG.out HN2.out
        have b3 := hs3.cell b2 HG.out HN2.out
        have HN3 := Aside0.mk (BS.old_ne hs3 (q := w.heap.size) HZ2.out HN2.out)
        have HZ3 := Aside0.mk (show w.heap.size < w3.heap.size from Nat.lt_of_lt_of_le HZ2.out hs3.1.1)
        have HB3 := Aside0.mk hb3
        have HW3 := Aside0.mk hw3
        have HS3 := Aside0.mk (HS2.out.trans hs3)
        clear hb3 hw3 hs3 a2 b2
        go_wp2_with fail
        refine (mapNum_any w0 _ g A l1.length c s.2 v3 (s.1 ++ bigB (U64 255) 1) d _ 2 rfl (by decide) HW3.out HB3.out (by first | (have := HLEN.out; (try simp only [List.length_append, bigB_length]); omega) | (have := HLEN.out; have := HTL.out; have := HLX.out; (try simp only [List.length_append, bigB_length]); omega))).mono ?_
        rintro e4 w4 ⟨rfl, hb4, v4, hw4, hs4⟩
        have a4 := hs4.cell a3 HG.out HN3.out
        have b4 := hs4.cell b3 HG.out HN3.out
        have HN4 := Aside0.mk (BS.old_ne hs4 (q := w.heap.size) HZ3.out HN3.out)
        have HZ4 := Aside0.mk (show w.heap.size < w4.heap.size from Nat.lt_of_lt_of_le HZ3.out hs4.1.1)
        have HB4 := Aside0.mk hb4
        have HW4 := Aside0.mk hw4
        have HS4 := Aside0.mk (HS3.out.trans hs4)
        clear hb4 hw4 hs4 a3 b3
        go_wp2_with fail
        refine (mapNum_any w0 _ g A l1.length c s.2 v4 ((s.1 ++ bigB (U64 255) 1) ++ bigB (U64 d) 2) (xs.length : Int) _ 2 rfl (by decide) HW4.out HB4.out (by first | (have := HLEN.out; (try simp only [List.length_append, bigB_length]); omega) | (have := HLEN.out; have := HTL.out; have := HLX.out; (try simp only [List.length_append, bigB_length]); omega))).mono ?_
        rintro e5 w5 ⟨rfl, hb5, v5, hw5, hs5⟩
        have a5 := hs5.cell a4 HG.out HN4.out
        have b5 := hs5.cell b4 HG.out HN4.out
        have HN5 := Aside0.mk (BS.old_ne hs5 (q := w.heap.size) HZ4.out HN4.out)
        have HZ5 := Aside0.mk (show w.heap.size < w5.heap.size from Nat.lt_of_lt_of_le HZ4.out hs5.1.1)
        have HB5 := Aside0.mk hb5
        have HW5 := Aside0.mk hw5
        have HS5 := Aside0.mk (HS4.out.trans hs5)
        clear hb5 hw5 hs5 a4 b4
        go_wp2_with fail
        refine (values_any2 w0 _ g A c l1 v5 (((s.1 ++ bigB (U64 255) 1) ++ bigB (U64 d) 2) ++ bigB (U64 (xs.length : Int)) 2) s.2 _ _ _ xs rfl HW5.out HB5.out HRP.out HC.out HLL.out H3.out HX.out HCX.out HTX.out (by have := HLEN.out; first | (have := HLX.out; have := HLY.out; simp only [List.length_append, bigB_length, List.length_drop]; omega) | (have := HTL.out; have := HLX.out; have := HLY.out; simp only [List.length_append, bigB_length]; omega))).mono ?_
        rintro e6 w6 ⟨rfl, v6, hw6, hb6, hs6⟩
        have a6 := hs6.cell a5 HG.out HN5.out
        have b6 := hs6.cell b5 HG.out HN5.out
        have HN6 := Aside0.mk (BS.old_ne hs6 (q := w.heap.size) HZ5.out HN5.out)
        have HZ6 := Aside0.mk (show w.heap.size < w6.heap.size from Nat.lt_of_lt_of_le HZ5.out hs6.1.1)
        have HB6 := Aside0.mk hb6
        have HW6 := Aside0.mk hw6
        have HS6 := Aside0.mk (HS5.out.trans hs6)
        clear hb6 hw6 hs6 a5 b5
        have HTL := Aside0.mk (one_len (l1 := l1) (xs := xs) (m := s.1.length + 5) rfl (s := ((((s.1 ++ bigB (U64 255) 1) ++ bigB (U64 d) 2) ++ bigB (U64 (xs.length : Int)) 2), s.2)) (by simp only [List.length_append, bigB_length]; omega))
        generalize ht : valsS l1 xs ((((s.1 ++ bigB (U64 255) 1) ++ bigB (U64 d) 2) ++ bigB (U64 (xs.length : Int)) 2), s.2) = t at *
        have HT := Aside0.mk ht
        clear ht
        go_wp2_with fail
        refine (mapNum_any w0 _ g A l1.length c t.2 v6 t.1 (ys.length : Int) _ 2 rfl (by decide) HW6.out HB6.out (by first | (have := HLEN.out; (try simp only [List.length_append, bigB_length]); omega) | (have := HLEN.out; have := HTL.out; have := HLX.out; (try simp only [List.length_append, bigB_length]); omega))).mono ?_
        rintro e7 w7 ⟨rfl, hb7, v7, hw7, hs7⟩
        have a7 := hs7.cell a6 HG.out HN6.out
        have b7 := hs7.cell b6 HG.out HN6.out
        have HN7 := Aside0.mk (BS.old_ne hs7 (q := w.heap.size) HZ6.out HN6.out)
        have HZ7 := Aside0.mk (show w.heap.size < w7.heap.size from Nat.lt_of_lt_of_le HZ6.out hs7.1.1)
        have HB7 := Aside0.mk hb7
        have HW7 := Aside0.mk hw7
        have HS7 := Aside0.mk (HS6.out.trans hs7)
        clear hb7 hw7 hs7 a6 b6
        go_wp2_with fail
        refine (values_any2 w0 _ g A c l1 v7 (t.1 ++ bigB (U64 (ys.length : Int)) 2) t.2 _ _ _ ys rfl HW7.out HB7.out HRP.out HC.out HLL.out H3.out HY.out HCY.out HTY.out (by have := HLEN.out; first | (have := HLX.out; have := HLY.out; simp only [List.length_append, bigB_length, List.length_drop]; omega) | (have := HTL.out; have := HLX.out; have := HLY.out; simp only [List.length_append, bigB_length]; omega))).mono ?_
        rintro e8 w8 ⟨rfl, v8, hw8, hb8, hs8⟩
        have a8 := hs8.cell a7 HG.out HN7.out
        have b8 := hs8.cell b7 HG.out HN7.out
        have HN8 := Aside0.mk (BS.old_ne hs8 (q := w.heap.size) HZ7.out HN7.out)
        have HZ8 := Aside0.mk (show w.heap.size < w8.heap.size from Nat.lt_of_lt_of_le HZ7.out hs8.1.1)
        have HB8 := Aside0.mk hb8
        have HW8 := Aside0.mk hw8
        have HS8 := Aside0.mk (HS7.out.trans hs8)
        clear hb8 hw8 hs8 a7 b7
        have HE : so = valsS l1 ys (t.1 ++ bigB (U64 (ys.length : Int)) 2, t.2) := by
          refine HS.out.trans ?_
          refine (if_neg (fun h => by first | exact absurd h.1 (by decide) | (have := HF.out; have := h.2; omega))).trans ?_
          refine (if_neg (fun h => by first | exact absurd h.1 (by decide) | (have := HF.out; have := h.2; omega))).trans ?_
          refine (if_neg (fun h => by first | exact absurd h.1 (by decide) | (have := HF.out; have := h.2; omega))).trans ?_
          refine (if_neg (fun h => by first | exact absurd h.1 (by decide) | (have := HF.out; have := h.2; omega))).trans ?_
          refine (if_neg (fun h => by first | exact absurd h.1 (by decide) | (have := HF.out; have := h.2; omega))).trans ?_
          refine (if_neg (fun h => by first | exact absurd h.1 (by decide) | (have := HF.out; have := h.2; omega))).trans ?_
          first | rfl | rw [HT.out]
        go_wp2
        go_end0
        rw [HE]
        exact ⟨rfl, v8, HW8.out, HB8.out, HS8.out⟩
  · obtain rfl : m = xs.length := by omega
    have hlt2 : ¬ (zs.length : Int) < (xs.length : Int) := by omega
    clear hm
    go_enter Try.func60, Try.ntmps60
    go_wp2_with fail
    have a0 : (w.alloc (.cells #[.int .i64 fat, .slice A1 xs.length c1, .slice A2 ys.length c2] 80)).cell? ⟨w.heap.size, 1, none⟩ = some (.slice A1 xs.length c1) := by go_simp
    have b0 : (w.alloc (.cells #[.int .i64 fat, .slice A1 xs.length c1, .slice A2 ys.length c2] 80)).cell? ⟨w.heap.size, 2, none⟩ = some (.slice A2 ys.length c2) := by go_simp
    have hbel := below_alloc (Below.refl w.heap.size w) (.cells #[.int .i64 fat, .slice A1 xs.length c1, .slice A2 ys.length c2] 80)
    have hz0 : w.heap.size < (w.alloc (.cells #[.int .i64 fat, .slice A1 xs.length c1, .slice A2 ys.length c2] 80)).heap.size := by simp
    have HB0 := Aside0.mk (below_then HB.out HB.out.size hbel)
    have HW0 := Aside0.mk (HW.out.below hbel)
    have HS0 := Aside0.mk (BS.below (g := g) (v := v) hbel)
    clear hbel
    generalize w.alloc (.cells #[.int .i64 fat, .slice A1 xs.length c1, .slice A2 ys.length c2] 80) = w1 at *
    have HZ1 := Aside0.mk hz0
    clear hz0
    have lk : ∀ W, Below w0.heap.size w0 W → Calls Try.prog 109 #[.slice A1 xs.length c1, .slice A3 xs.length c3] W fun e w' => e = .returned (.bool b) ∧ Below W.heap.size W w' := fun W hW => by
      have k0 := like_any A1 c1 xs.length (xs.take xs.length) (by rw [List.length_take]; omega) A3 c3 xs.length (zs.take xs.length) (by rw [List.length_take]; omega) W (Kd.C_take (Kd.C_below HX.out hW) (by omega)) (Kd.C_take (Kd.C_below HZ.out hW) (by omega)) (by rw [List.length_take]; have := HCX.out; omega) (by rw [List.length_take]; have := HCZ.out; omega) (by rw [List.length_take]; have := HLX.out; omega)
      rw [HL.out] at k0
      exact k0
    have LK := Aside0.mk lk
    clear lk
    go_region_held3 (fun w' => w'.cell? ⟨w.heap.size, 1, none⟩ = some (.slice A1 xs.length c1)) (first | exact a0 | exact pw_cell_below (below_drew0 (by assumption)) a0) ((go_at_call 109; refine (LK.out _ (pw_below_drewN HB0.out _)).mono ?_; rintro e2 w2 ⟨rfl, hbx⟩))
    have hb2 := below_drew0 hbx
    have a2 := pw_cell_below hb2 a0
    have b2 := pw_cell_below hb2 b0
    have HB2 := Aside0.mk (below_then HB0.out HB0.out.size hb2)
    have HW2 := Aside0.mk (HW0.out.below hb2)
    have HS2 := Aside0.mk (HS0.out.trans (BS.below hb2))
    have HN2 := HVN
    have HZ2 := Aside0.mk (show w.heap.size < w2.heap.size from Nat.lt_of_lt_of_le HZ1.out hb2.size)
    clear hb2 hbx a0 b0
    try clear LK
    cases b
    · have HF := Aside0.mk (show True from trivial)
      go_wp2_with fail
      refine (mapNum_any w0 _ g A l1.length c s.2 v s.1 255 _ 1 rfl (by decide) HW2.out HB2.out (by first | (have := HLEN.out; (try simp only [List.length_append, bigB_length]); omega) | (have := HLEN.out; have := HTL.out; have := HLX.out; (try simp only [List.length_append, bigB_length]); omega))).mono ?_
      rintro e3 w3 ⟨rfl, hb3, v3, hw3, hs3⟩
      have a3 := hs3.cell a2 HG.out HN2.out
      have b3 := hs3.cell b2 HG.out HN2.out
      have HN3 := Aside0.mk (BS.old_ne hs3 (q := w.heap.size) HZ2.out HN2.out)
      have HZ3 := Aside0.mk (show w.heap.size < w3.heap.size from Nat.lt_of_lt_of_le HZ2.out hs3.1.1)
      have HB3 := Aside0.mk hb3
      have HW3 := Aside0.mk hw3
      have HS3 := Aside0.mk (HS2.out.trans hs3)
      clear hb3 hw3 hs3 a2 b2
      go_wp2_with fail
      refine (mapNum_any w0 _ g A l1.length c s.2 v3 (s.1 ++ bigB (U64 255) 1) d _ 2 rfl (by decide) HW3.out HB3.out (by first | (have := HLEN.out; (try simp only [List.length_append, bigB_length]); omega) | (have := HLEN.out; have := HTL.out; have := HLX.out; (try simp only [List.length_append, bigB_length]); omega))).mono ?_
      rintro e4 w4 ⟨rfl, hb4, v4, hw4, hs4⟩
      have a4 := hs4.cell a3 HG.out HN3.out
      have b4 := hs4.cell b3 HG.out HN3.out
      have HN4 := Aside0.mk (BS.old_ne hs4 (q := w.heap.size) HZ3.out HN3.out)
      have HZ4 := Aside0.mk (show w.heap.size < w4.heap.size from Nat.lt_of_lt_of_le HZ3.out hs4.1.1)
      have HB4 := Aside0.mk hb4
      have HW4 := Aside0.mk hw4
      have HS4 := Aside0.mk (HS3.out.trans hs4)
      clear hb4 hw4 hs4 a3 b3
      go_wp2_with fail
      refine (mapNum_any w0 _ g A l1.length c s.2 v4 ((s.1 ++ bigB (U64 255) 1) ++ bigB (U64 d) 2) (xs.length : Int) _ 2 rfl (by decide) HW4.out HB4.out (by first | (have := HLEN.out; (try simp only [List.length_append, bigB_length]); omega) | (have := HLEN.out; have := HTL.out; have := HLX.out; (try simp only [List.length_append, bigB_length]); omega))).mono ?_
      rintro e5 w5 ⟨rfl, hb5, v5, hw5, hs5⟩
      have a5 := hs5.cell a4 HG.out HN4.out
      have b5 := hs5.cell b4 HG.out HN4.out
      have HN5 := Aside0.mk (BS.old_ne hs5 (q := w.heap.size) HZ4.out HN4.out)
      have HZ5 := Aside0.mk (show w.heap.size < w5.heap.size from Nat.lt_of_lt_of_le HZ4.out hs5.1.1)
      have HB5 := Aside0.mk hb5
      have HW5 := Aside0.mk hw5
      have HS5 := Aside0.mk (HS4.out.trans hs5)
      clear hb5 hw5 hs5 a4 b4
      go_wp2_with fail
      refine (values_any2 w0 _ g A c l1 v5 (((s.1 ++ bigB (U64 255) 1) ++ bigB (U64 d) 2) ++ bigB (U64 (xs.length : Int)) 2) s.2 _ _ _ xs rfl HW5.out HB5.out HRP.out HC.out HLL.out H3.out HX.out HCX.out HTX.out (by have := HLEN.out; first | (have := HLX.out; have := HLY.out; simp only [List.length_append, bigB_length, List.length_drop]; omega) | (have := HTL.out; have := HLX.out; have := HLY.out; simp only [List.length_append, bigB_length]; omega))).mono ?_
      rintro e6 w6 ⟨rfl, v6, hw6, hb6, hs6⟩
      have a6 := hs6.cell a5 HG.out HN5.out
      have b6 := hs6.cell b5 HG.out HN5.out
      have HN6 := Aside0.mk (BS.old_ne hs6 (q := w.heap.size) HZ5.out HN5.out)
      have HZ6 := Aside0.mk (show w.heap.size < w6.heap.size from Nat.lt_of_lt_of_le HZ5.out hs6.1.1)
      have HB6 := Aside0.mk hb6
      have HW6 := Aside0.mk hw6
      have HS6 := Aside0.mk (HS5.out.trans hs6)
      clear hb6 hw6 hs6 a5 b5
      have HTL := Aside0.mk (one_len (l1 := l1) (xs := xs) (m := s.1.length + 5) rfl (s := ((((s.1 ++ bigB (U64 255) 1) ++ bigB (U64 d) 2) ++ bigB (U64 (xs.length : Int)) 2), s.2)) (by simp only [List.length_append, bigB_length]; omega))
      generalize ht : valsS l1 xs ((((s.1 ++ bigB (U64 255) 1) ++ bigB (U64 d) 2) ++ bigB (U64 (xs.length : Int)) 2), s.2) = t at *
      have HT := Aside0.mk ht
      clear ht
      go_wp2_with fail
      refine (mapNum_any w0 _ g A l1.length c t.2 v6 t.1 (ys.length : Int) _ 2 rfl (by decide) HW6.out HB6.out (by first | (have := HLEN.out; (try simp only [List.length_append, bigB_length]); omega) | (have := HLEN.out; have := HTL.out; have := HLX.out; (try simp only [List.length_append, bigB_length]); omega))).mono ?_
      rintro e7 w7 ⟨rfl, hb7, v7, hw7, hs7⟩
      have a7 := hs7.cell a6 HG.out HN6.out
      have b7 := hs7.cell b6 HG.out HN6.out
      have HN7 := Aside0.mk (BS.old_ne hs7 (q := w.heap.size) HZ6.out HN6.out)
      have HZ7 := Aside0.mk (show w.heap.size < w7.heap.size from Nat.lt_of_lt_of_le HZ6.out hs7.1.1)
      have HB7 := Aside0.mk hb7
      have HW7 := Aside0.mk hw7
      have HS7 := Aside0.mk (HS6.out.trans hs7)
      clear hb7 hw7 hs7 a6 b6
      go_wp2_with fail
      refine (values_any2 w0 _ g A c l1 v7 (t.1 ++ bigB (U64 (ys.length : Int)) 2) t.2 _ _ _ ys rfl HW7.out HB7.out HRP.out HC.out HLL.out H3.out HY.out HCY.out HTY.out (by have := HLEN.out; first | (have := HLX.out; have := HLY.out; simp only [List.length_append, bigB_length, List.length_drop]; omega) | (have := HTL.out; have := HLX.out; have := HLY.out; simp only [List.length_append, bigB_length]; omega))).mono ?_
      rintro e8 w8 ⟨rfl, v8, hw8, hb8, hs8⟩
      have a8 := hs8.cell a7 HG.out HN7.out
      have b8 := hs8.cell b7 HG.out HN7.out
      have HN8 := Aside0.mk (BS.old_ne hs8 (q := w.heap.size) HZ7.out HN7.out)
      have HZ8 := Aside0.mk (show w.heap.size < w8.heap.size from Nat.lt_of_lt_of_le HZ7.out hs8.1.1)
      have HB8 := Aside0.mk hb8
      have HW8 := Aside0.mk hw8
      have HS8 := Aside0.mk (HS7.out.trans hs8)
      clear hb8 hw8 hs8 a7 b7
      have HE : so = valsS l1 ys (t.1 ++ bigB (U64 (ys.length : Int)) 2, t.2) := by
        refine HS.out.trans ?_
        refine (if_neg (fun h => by first | exact absurd h.1 (by decide) | (have := HF.out; have := h.2; omega))).trans ?_
        refine (if_neg (fun h => by first | exact absurd h.1 (by decide) | (have := HF.out; have := h.2; omega))).trans ?_
        refine (if_neg (fun h => by first | exact absurd h.1 (by decide) | (have := HF.out; have := h.2; omega))).trans ?_
        refine (if_neg (fun h => by first | exact absurd h.1 (by decide) | (have := HF.out; have := h.2; omega))).trans ?_
        refine (if_neg (fun h => by first | exact absurd h.1 (by decide) | (have := HF.out; have := h.2; omega))).trans ?_
        refine (if_neg (fun h => by first | exact absurd h.1 (by decide) | (have := HF.out; have := h.2; omega))).trans ?_
        first | rfl | rw [HT.out]
      go_wp2
      go_end0
      rw [HE]
      exact ⟨rfl, v8, HW8.out, HB8.out, HS8.out⟩
    · by_cases hn_ : n = 0
      · by_cases hy_ : ys.length = 0
        · by_cases hd_ : d < 64
          · have HF := Aside0.mk (show n = 0 ∧ ys.length = 0 ∧ d < 64 from ⟨hn_, hy_, hd_⟩)
            have q_n0 : (n == 0) = true := beq_iff_eq.2 (by omega)
            have q_nl : decide (n < 0) = false := decide_eq_false (by omega)
            have q_ng : decide (n > 0) = false := decide_eq_false (by omega)
            have q_y0 : ((ys.length : Int) == 0) = true := beq_iff_eq.2 (by omega)
            have q_d : decide (d < 64) = true := decide_eq_true (by omega)
            try clear hz_
            try clear hy_
            try clear hd_
            try clear h3_
            try clear hn_
            try clear hy1_
            go_wp2_with fail
            refine (mapNum_any w0 _ g A l1.length c s.2 v s.1 d _ 1 rfl (by decide) HW2.out HB2.out (by first | (have := HLEN.out; (try simp only [List.length_append, bigB_length]); omega) | (have := HLEN.out; have := HTL.out; have := HLX.out; (try simp only [List.length_append, bigB_length]); omega))).mono ?_
            rintro e3 w3 ⟨rfl, hb3, v3, hw3, hs3⟩
            have a3 := hs3.cell a2 HG.out HN2.out
            have b3 := hs3.cell b2 HG.out HN2.out
            have HN3 := Aside0.mk (BS.old_ne hs3 (q := w.heap.size) HZ2.out HN2.out)
            have HZ3 := Aside0.mk (show w.heap.size < w3.heap.size from Nat.lt_of_lt_of_le HZ2.out hs3.1.1)
            have HB3 := Aside0.mk hb3
            have HW3 := Aside0.mk hw3
            have HS3 := Aside0.mk (HS2.out.trans hs3)
            clear hb3 hw3 hs3 a2 b2
            have HE : so = ((s.1 ++ bigB (U64 d) 1), s.2) := by
              refine HS.out.trans ?_
              exact if_pos ⟨(by first | rfl | trivial), by have := HF.out; omega⟩
            go_wp2
            go_end0
            rw [HE]
            exact ⟨rfl, v3, HW3.out, HB3.out, HS3.out⟩
          · have HF := Aside0.mk (show n = 0 ∧ ys.length = 0 ∧ ¬ d < 64 from ⟨hn_, hy_, hd_⟩)
            have q_n0 : (n == 0) = true := beq_iff_eq.2 (by omega)
            have q_nl : decide (n < 0) = false := decide_eq_false (by omega)
            have q_ng : decide (n > 0) = false := decide_eq_false (by omega)
            have q_y0 : ((ys.length : Int) == 0) = true := beq_iff_eq.2 (by omega)
            have q_d : decide (d < 64) = false := decide_eq_false (by omega)
            try clear hz_
            try clear hy_
            try clear hd_
            try clear h3_
            try clear hn_
            try clear hy1_
            go_wp2_with fail
            refine (mapNum_any w0 _ g A l1.length c s.2 v s.1 251 _ 1 rfl (by decide) HW2.out HB2.out (by first | (have := HLEN.out; (try simp only [List.length_append, bigB_length]); omega) | (have := HLEN.out; have := HTL.out; have := HLX.out; (try simp only [List.length_append, bigB_length]); omega))).mono ?_
            rintro e3 w3 ⟨rfl, hb3, v3, hw3, hs3⟩
            have a3 := hs3.cell a2 HG.out HN2.out
            have b3 := hs3.cell b2 HG.out HN2.out
            have HN3 := Aside0.mk (BS.old_ne hs3 (q := w.heap.size) HZ2.out HN2.out)
            have HZ3 := Aside0.mk (show w.heap.size < w3.heap.size from Nat.lt_of_lt_of_le HZ2.out hs3.1.1)
            have HB3 := Aside0.mk hb3
            have HW3 := Aside0.mk hw3
            have HS3 := Aside0.mk (HS2.out.trans hs3)
            clear hb3 hw3 hs3 a2 b2
            go_wp2_with fail
            refine (mapNum_any w0 _ g A l1.length c s.2 v3 (s.1 ++ bigB (U64 251) 1) d _ 2 rfl (by decide) HW3.out HB3.out (by first | (have := HLEN.out; (try simp only [List.length_append, bigB_length]); omega) | (have := HLEN.out; have := HTL.out; have := HLX.out; (try simp only [List.length_append, bigB_length]); omega))).mono ?_
            rintro e4 w4 ⟨rfl, hb4, v4, hw4, hs4⟩
            have a4 := hs4.cell a3 HG.out HN3.out
            have b4 := hs4.cell b3 HG.out HN3.out
            have HN4 := Aside0.mk (BS.old_ne hs4 (q := w.heap.size) HZ3.out HN3.out)
            have HZ4 := Aside0.mk (show w.heap.size < w4.heap.size from Nat.lt_of_lt_of_le HZ3.out hs4.1.1)
            have HB4 := Aside0.mk hb4
            have HW4 := Aside0.mk hw4
            have HS4 := Aside0.mk (HS3.out.trans hs4)
            clear hb4 hw4 hs4 a3 b3
            have HE : so = (((s.1 ++ bigB (U64 251) 1) ++ bigB (U64 d) 2), s.2) := by
              refine HS.out.trans ?_
              refine (if_neg (fun h => by first | exact absurd h.1 (by decide) | (have := HF.out; have := h.2; omega))).trans ?_
              exact if_pos ⟨(by first | rfl | trivial), by have := HF.out; omega⟩
            go_wp2
            go_end0
            rw [HE]
            exact ⟨rfl, v4, HW4.out, HB4.out, HS4.out⟩
        · by_cases hy1_ : ys.length = 1
          · by_cases hd_ : d < 64
            · have HF := Aside0.mk (show n = 0 ∧ ys.length = 1 ∧ d < 64 from ⟨hn_, hy1_, hd_⟩)
              have q_n0 : (n == 0) = true := beq_iff_eq.2 (by omega)
              have q_nl : decide (n < 0) = false := decide_eq_false (by omega)
              have q_ng : decide (n > 0) = false := decide_eq_false (by omega)
              have q_y0 : ((ys.length : Int) == 0) = false := beq_eq_false_iff_ne.2 (by omega)
              have q_y1 : ((ys.length : Int) == 1) = true := beq_iff_eq.2 (by omega)
              have q_d : decide (d < 64) = true := decide_eq_true (by omega)
              have hw6 : IntKind.i64.wrap (64 + d) = 64 + d := by rw [IntKind.wrap_i64]; omega
              try clear hz_
              try clear hy_
              try clear hd_
              try clear h3_
              try clear hn_
              try clear hy1_
              go_wp2_with fail
              refine (mapNum_any w0 _ g A l1.length c s.2 v s.1 (64 + d) _ 1 rfl (by decide) HW2.out HB2.out (by first | (have := HLEN.out; (try simp only [List.length_append, bigB_length]); omega) | (have := HLEN.out; have := HTL.out; have := HLX.out; (try simp only [List.length_append, bigB_length]); omega))).mono ?_
              rintro e3 w3 ⟨rfl, hb3, v3, hw3, hs3⟩
              have a3 := hs3.cell a2 HG.out HN2.out
              have b3 := hs3.cell b2 HG.out HN2.out
              have HN3 := Aside0.mk (BS.old_ne hs3 (q := w.heap.size) HZ2.out HN2.out)
              have HZ3 := Aside0.mk (show w.heap.size < w3.heap.size from Nat.lt_of_lt_of_le HZ2.out hs3.1.1)
              have HB3 := Aside0.mk hb3
              have HW3 := Aside0.mk hw3
              have HS3 := Aside0.mk (HS2.out.trans hs3)
              clear hb3 hw3 hs3 a2 b2
              go_wp2_with fail
              refine (values_any2 w0 _ g A c l1 v3 (s.1 ++ bigB (U64 (64 + d)) 1) s.2 _ _ _ ys rfl HW3.out HB3.out HRP.out HC.out HLL.out H3.out HY.out HCY.out HTY.out (by have := HLEN.out; first | (have := HLX.out; have := HLY.out; simp only [List.length_append, bigB_length, List.length_drop]; omega) | (have := HTL.out; have := HLX.out; have := HLY.out; simp only [List.length_append, bigB_length]; omega))).mono ?_
              rintro e4 w4 ⟨rfl, v4, hw4, hb4, hs4⟩
              have a4 := hs4.cell a3 HG.out HN3.out
              have b4 := hs4.cell b3 HG.out HN3.out
              have HN4 := Aside0.mk (BS.old_ne hs4 (q := w.heap.size) HZ3.out HN3.out)
              have HZ4 := Aside0.mk (show w.heap.size < w4.heap.size from Nat.lt_of_lt_of_le HZ3.out hs4.1.1)
              have HB4 := Aside0.mk hb4
              have HW4 := Aside0.mk hw4
              have HS4 := Aside0.mk (HS3.out.trans hs4)
              clear hb4 hw4 hs4 a3 b3
              have HE : so = valsS l1 ys ((s.1 ++ bigB (U64 (64 + d)) 1), s.2) := by
                refine HS.out.trans ?_
                refine (if_neg (fun h => by first | exact absurd h.1 (by decide) | (have := HF.out; have := h.2; omega))).trans ?_
                refine (if_neg (fun h => by first | exact absurd h.1 (by decide) | (have := HF.out; have := h.2; omega))).trans ?_
                exact if_pos ⟨(by first | rfl | trivial), by have := HF.out; omega⟩
              go_wp2
              go_end0
              rw [HE]
              exact ⟨rfl, v4, HW4.out, HB4.out, HS4.out⟩
            · have HF := Aside0.mk (show n = 0 ∧ ys.length = 1 ∧ ¬ d < 64 from ⟨hn_, hy1_, hd_⟩)
              have q_n0 : (n == 0) = true := beq_iff_eq.2 (by omega)
              have q_nl : decide (n < 0) = false := decide_eq_false (by omega)
              have q_ng : decide (n > 0) = false := decide_eq_false (by omega)
              have q_y0 : ((ys.length : Int) == 0) = false := beq_eq_false_iff_ne.2 (by omega)
              have q_y1 : ((ys.length : Int) == 1) = true := beq_iff_eq.2 (by omega)
              have q_d : decide (d < 64) = false := decide_eq_false (by omega)
              try clear hz_
              try clear hy_
              try clear hd_
              try clear h3_
              try clear hn_
              try clear hy1_
              go_wp2_with fail
              refine (mapNum_any w0 _ g A l1.length c s.2 v s.1 247 _ 1 rfl (by decide) HW2.out HB2.out (by first | (have := HLEN.out; (try simp only [List.length_append, bigB_length]); omega) | (have := HLEN.out; have := HTL.out; have := HLX.out; (try simp only [List.length_append, bigB_length]); omega))).mono ?_
              rintro e3 w3 ⟨rfl, hb3, v3, hw3, hs3⟩
              have a3 := hs3.cell a2 HG.out HN2.out
              have b3 := hs3.cell b2 HG.out HN2.out
              have HN3 := Aside0.mk (BS.old_ne hs3 (q := w.heap.size) HZ2.out HN2.out)
              have HZ3 := Aside0.mk (show w.heap.size < w3.heap.size from Nat.lt_of_lt_of_le HZ2.out hs3.1.1)
              have HB3 := Aside0.mk hb3
              have HW3 := Aside0.mk hw3
              have HS3 := Aside0.mk (HS2.out.trans hs3)
              clear hb3 hw3 hs3 a2 b2
              go_wp2_with fail
              refine (mapNum_any w0 _ g A l1.length c s.2 v3 (s.1 ++ bigB (U64 247) 1) d _ 2 rfl (by decide) HW3.out HB3.out (by first | (have := HLEN.out; (try simp only [List.length_append, bigB_length]); omega) | (have := HLEN.out; have := HTL.out; have := HLX.out; (try simp only [List.length_append, bigB_length]); omega))).mono ?_
              rintro e4 w4 ⟨rfl, hb4, v4, hw4, hs4⟩
              have a4 := hs4.cell a3 HG.out HN3.out
              have b4 := hs4.cell b3 HG.out HN3.out
              have HN4 := Aside0.mk (BS.old_ne hs4 (q := w.heap.size) HZ3.out HN3.out)
              have HZ4 := Aside0.mk (show w.heap.size < w4.heap.size from Nat.lt_of_lt_of_le HZ3.out hs4.1.1)
              have HB4 := Aside0.mk hb4
              have HW4 := Aside0.mk hw4
              have HS4 := Aside0.mk (HS3.out.trans hs4)
              clear hb4 hw4 hs4 a3 b3
              go_wp2_with fail
              refine (values_any2 w0 _ g A c l1 v4 ((s.1 ++ bigB (U64 247) 1) ++ bigB (U64 d) 2) s.2 _ _ _ ys rfl HW4.out HB4.out HRP.out HC.out HLL.out H3.out HY.out HCY.out HTY.out (by have := HLEN.out; first | (have := HLX.out; have := HLY.out; simp only [List.length_append, bigB_length, List.length_drop]; omega) | (have := HTL.out; have := HLX.out; have := HLY.out; simp only [List.length_append, bigB_length]; omega))).mono ?_
              rintro e5 w5 ⟨rfl, v5, hw5, hb5, hs5⟩
              have a5 := hs5.cell a4 HG.out HN4.out
              have b5 := hs5.cell b4 HG.out HN4.out
              have HN5 := Aside0.mk (BS.old_ne hs5 (q := w.heap.size) HZ4.out HN4.out)
              have HZ5 := Aside0.mk (show w.heap.size < w5.heap.size from Nat.lt_of_lt_of_le HZ4.out hs5.1.1)
              have HB5 := Aside0.mk hb5
              have HW5 := Aside0.mk hw5
              have HS5 := Aside0.mk (HS4.out.trans hs5)
              clear hb5 hw5 hs5 a4 b4
              have HE : so = valsS l1 ys (((s.1 ++ bigB (U64 247) 1) ++ bigB (U64 d) 2), s.2) := by
                refine HS.out.trans ?_
                refine (if_neg (fun h => by first | exact absurd h.1 (by decide) | (have := HF.out; have := h.2; omega))).trans ?_
                refine (if_neg (fun h => by first | exact absurd h.1 (by decide) | (have := HF.out; have := h.2; omega))).trans ?_
                refine (if_neg (fun h => by first | exact absurd h.1 (by decide) | (have := HF.out; have := h.2; omega))).trans ?_
                exact if_pos ⟨(by first | rfl | trivial), by have := HF.out; omega⟩
              go_wp2
              go_end0
              rw [HE]
              exact ⟨rfl, v5, HW5.out, HB5.out, HS5.out⟩
          · have HF := Aside0.mk (show n = 0 ∧ ¬ ys.length = 0 ∧ ¬ ys.length = 1 from ⟨hn_, hy_, hy1_⟩)
            have q_n0 : (n == 0) = true := beq_iff_eq.2 (by omega)
            have q_nl : decide (n < 0) = false := decide_eq_false (by omega)
            have q_ng : decide (n > 0) = false := decide_eq_false (by omega)
            have q_y0 : ((ys.length : Int) == 0) = false := beq_eq_false_iff_ne.2 (by omega)
            have q_y1 : ((ys.length : Int) == 1) = false := beq_eq_false_iff_ne.2 (by omega)
            try clear hz_
            try clear hy_
            try clear hd_
            try clear h3_
            try clear hn_
            try clear hy1_
            go_wp2_with fail
            refine (mapNum_any w0 _ g A l1.length c s.2 v s.1 255 _ 1 rfl (by decide) HW2.out HB2.out (by first | (have := HLEN.out; (try simp only [List.length_append, bigB_length]); omega) | (have := HLEN.out; have := HTL.out; have := HLX.out; (try simp only [List.length_append, bigB_length]); omega))).mono ?_
            rintro e3 w3 ⟨rfl, hb3, v3, hw3, hs3⟩
            have a3 := hs3.cell a2 HG.out HN2.out
            have b3 := hs3.cell b2 HG.out HN2.out
            have HN3 := Aside0.mk (BS.old_ne hs3 (q := w.heap.size) HZ2.out HN2.out)
            have HZ3 := Aside0.mk (show w.heap.size < w3.heap.size from Nat.lt_of_lt_of_le HZ2.out hs3.1.1)
            have HB3 := Aside0.mk hb3
            have HW3 := Aside0.mk hw3
            have HS3 := Aside0.mk (HS2.out.trans hs3)
            clear hb3 hw3 hs3 a2 b2
            go_wp2_with fail
            refine (mapNum_any w0 _ g A l1.length c s.2 v3 (s.1 ++ bigB (U64 255) 1) d _ 2 rfl (by decide) HW3.out HB3.out (by first | (have := HLEN.out; (try simp only [List.length_append, bigB_length]); omega) | (have := HLEN.out; have := HTL.out; have := HLX.out; (try simp only [List.length_append, bigB_length]); omega))).mono ?_
            rintro e4 w4 ⟨rfl, hb4, v4, hw4, hs4⟩
            have a4 := hs4.cell a3 HG.out HN3.out
            have b4 := hs4.cell b3 HG.out HN3.out
            have HN4 := Aside0.mk (BS.old_ne hs4 (q := w.heap.size) HZ3.out HN3.out)
            have HZ4 := Aside0.mk (show w.heap.size < w4.heap.size from Nat.lt_of_lt_of_le HZ3.out hs4.1.1)
            have HB4 := Aside0.mk hb4
            have HW4 := Aside0.mk hw4
            have HS4 := Aside0.mk (HS3.out.trans hs4)
            clear hb4 hw4 hs4 a3 b3
            go_wp2_with fail
            refine (mapNum_any w0 _ g A l1.length c s.2 v4 ((s.1 ++ bigB (U64 255) 1) ++ bigB (U64 d) 2) (xs.length : Int) _ 2 rfl (by decide) HW4.out HB4.out (by first | (have := HLEN.out; (try simp only [List.length_append, bigB_length]); omega) | (have := HLEN.out; have := HTL.out; have := HLX.out; (try simp only [List.length_append, bigB_length]); omega))).mono ?_
            rintro e5 w5 ⟨rfl, hb5, v5, hw5, hs5⟩
            have a5 := hs5.cell a4 HG.out HN4.out
            have b5 := hs5.cell b4 HG.out HN4.out
            have HN5 := Aside0.mk (BS.old_ne hs5 (q := w.heap.size) HZ4.out HN4.out)
            have HZ5 := Aside0.mk (show w.heap.size < w5.heap.size from Nat.lt_of_lt_of_le HZ4.out hs5.1.1)
            have HB5 := Aside0.mk hb5
            have HW5 := Aside0.mk hw5
            have HS5 := Aside0.mk (HS4.out.trans hs5)
            clear hb5 hw5 hs5 a4 b4
            go_wp2_with fail
            refine (values_any2 w0 _ g A c l1 v5 (((s.1 ++ bigB (U64 255) 1) ++ bigB (U64 d) 2) ++ bigB (U64 (xs.length : Int)) 2) s.2 _ _ _ xs rfl HW5.out HB5.out HRP.out HC.out HLL.out H3.out HX.out HCX.out HTX.out (by have := HLEN.out; first | (have := HLX.out; have := HLY.out; simp only [List.length_append, bigB_length, List.length_drop]; omega) | (have := HTL.out; have := HLX.out; have := HLY.out; simp only [List.length_append, bigB_length]; omega))).mono ?_
            rintro e6 w6 ⟨rfl, v6, hw6, hb6, hs6⟩
            have a6 := hs6.cell a5 HG.out HN5.out
            have b6 := hs6.cell b5 HG.out HN5.out
            have HN6 := Aside0.mk (BS.old_ne hs6 (q := w.heap.size) HZ5.out HN5.out)
            have HZ6 := Aside0.mk (show w.heap.size < w6.heap.size from Nat.lt_of_lt_of_le HZ5.out hs6.1.1)
            have HB6 := Aside0.mk hb6
            have HW6 := Aside0.mk hw6
            have HS6 := Aside0.mk (HS5.out.trans hs6)
            clear hb6 hw6 hs6 a5 b5
            have HTL := Aside0.mk (one_len (l1 := l1) (xs := xs) (m := s.1.length + 5) rfl (s := ((((s.1 ++ bigB (U64 255) 1) ++ bigB (U64 d) 2) ++ bigB (U64 (xs.length : Int)) 2), s.2)) (by simp only [List.length_append, bigB_length]; omega))
            generalize ht : valsS l1 xs ((((s.1 ++ bigB (U64 255) 1) ++ bigB (U64 d) 2) ++ bigB (U64 (xs.length : Int)) 2), s.2) = t at *
            have HT := Aside0.mk ht
            clear ht
            go_wp2_with fail
            refine (mapNum_any w0 _ g A l1.length c t.2 v6 t.1 (ys.length : Int) _ 2 rfl (by decide) HW6.out HB6.out (by first | (have := HLEN.out; (try simp only [List.length_append, bigB_length]); omega) | (have := HLEN.out; have := HTL.out; have := HLX.out; (try simp only [List.length_append, bigB_length]); omega))).mono ?_
            rintro e7 w7 ⟨rfl, hb7, v7, hw7, hs7⟩
            have a7 := hs7.cell a6 HG.out HN6.out
            have b7 := hs7.cell b6 HG.out HN6.out
            have HN7 := Aside0.mk (BS.old_ne hs7 (q := w.heap.size) HZ6.out HN6.out)
            have HZ7 := Aside0.mk (show w.heap.size < w7.heap.size from Nat.lt_of_lt_of_le HZ6.out hs7.1.1)
            have HB7 := Aside0.mk hb7
            have HW7 := Aside0.mk hw7
            have HS7 := Aside0.mk (HS6.out.trans hs7)
            clear hb7 hw7 hs7 a6 b6
            go_wp2_with fail
            refine (values_any2 w0 _ g A c l1 v7 (t.1 ++ bigB (U64 (ys.length : Int)) 2) t.2 _ _ _ ys rfl HW7.out HB7.out HRP.out HC.out HLL.out H3.out HY.out HCY.out HTY.out (by have := HLEN.out; first | (have := HLX.out; have := HLY.out; simp only [List.length_append, bigB_length, List.length_drop]; omega) | (have := HTL.out; have := HLX.out; have := HLY.out; simp only [List.length_append, bigB_length]; omega))).mono ?_
            rintro e8 w8 ⟨rfl, v8, hw8, hb8, hs8⟩
            have a8 := hs8.cell a7 HG.out HN7.out
            have b8 := hs8.cell b7 HG.out HN7.out
            have HN8 := Aside0.mk (BS.old_ne hs8 (q := w.heap.size) HZ7.out HN7.out)
            have HZ8 := Aside0.mk (show w.heap.size < w8.heap.size from Nat.lt_of_lt_of_le HZ7.out hs8.1.1)
            have HB8 := Aside0.mk hb8
            have HW8 := Aside0.mk hw8
            have HS8 := Aside0.mk (HS7.out.trans hs8)
            clear hb8 hw8 hs8 a7 b7
            have HE : so = valsS l1 ys (t.1 ++ bigB (U64 (ys.length : Int)) 2, t.2) := by
              refine HS.out.trans ?_
              refine (if_neg (fun h => by first | exact absurd h.1 (by decide) | (have := HF.out; have := h.2; omega))).trans ?_
              refine (if_neg (fun h => by first | exact absurd h.1 (by decide) | (have := HF.out; have := h.2; omega))).trans ?_
              refine (if_neg (fun h => by first | exact absurd h.1 (by decide) | (have := HF.out; have := h.2; omega))).trans ?_
              refine (if_neg (fun h => by first | exact absurd h.1 (by decide) | (have := HF.out; have := h.2; omega))).trans ?_
              refine (if_neg (fun h => by first | exact absurd h.1 (by decide) | (have := HF.out; have := h.2; omega))).trans ?_
              refine (if_neg (fun h => by first | exact absurd h.1 (by decide) | (have := HF.out; have := h.2; omega))).trans ?_
              first | rfl | rw [HT.out]
            go_wp2
            go_end0
            rw [HE]
            exact ⟨rfl, v8, HW8.out, HB8.out, HS8.out⟩
      · have hl_ : n < 0 := by have := HN.out; omega
        by_cases h3_ : n ≥ -3
        · by_cases hy_ : ys.length = 0
          · have HF := Aside0.mk (show n < 0 ∧ n ≥ -3 ∧ ys.length = 0 from ⟨(by have := HN.out; omega), h3_, hy_⟩)
            have q_n0 : (n == 0) = false := beq_eq_false_iff_ne.2 (by omega)
            have q_nl : decide (n < 0) = true := decide_eq_true (by omega)
            have q_ng : decide (n > 0) = false := decide_eq_false (by omega)
            have q_n3 : decide (n ≥ -3) = true := decide_eq_true (by omega)
            have q_y0 : ((ys.length : Int) == 0) = true := beq_iff_eq.2 (by omega)
            have hw3 : IntKind.i64.wrap (251 + n) = 251 + n := by rw [IntKind.wrap_i64]; omega
            try clear hz_
            try clear hy_
            try clear hd_
            try clear h3_
            try clear hn_
            try clear hy1_
            go_wp2_with fail
            refine (mapNum_any w0 _ g A l1.length c s.2 v s.1 (251 + n) _ 1 rfl (by decide) HW2.out HB2.out (by first | (have := HLEN.out; (try simp only [List.length_append, bigB_length]); omega) | (have := HLEN.out; have := HTL.out; have := HLX.out; (try simp only [List.length_append, bigB_length]); omega))).mono ?_
            rintro e3 w3 ⟨rfl, hb3, v3, hw3, hs3⟩
            have a3 := hs3.cell a2 HG.out HN2.out
            have b3 := hs3.cell b2 HG.out HN2.out
            have HN3 := Aside0.mk (BS.old_ne hs3 (q := w.heap.size) HZ2.out HN2.out)
            have HZ3 := Aside0.mk (show w.heap.size < w3.heap.size from Nat.lt_of_lt_of_le HZ2.out hs3.1.1)
            have HB3 := Aside0.mk hb3
            have HW3 := Aside0.mk hw3
            have HS3 := Aside0.mk (HS2.out.trans hs3)
            clear hb3 hw3 hs3 a2 b2
            go_wp2_with fail
            refine (mapNum_any w0 _ g A l1.length c s.2 v3 (s.1 ++ bigB (U64 (251 + n)) 1) d _ 2 rfl (by decide) HW3.out HB3.out (by first | (have := HLEN.out; (try simp only [List.length_append, bigB_length]); omega) | (have := HLEN.out; have := HTL.out; have := HLX.out; (try simp only [List.length_append, bigB_length]); omega))).mono ?_
            rintro e4 w4 ⟨rfl, hb4, v4, hw4, hs4⟩
            have a4 := hs4.cell a3 HG.out HN3.out
            have b4 := hs4.cell b3 HG.out HN3.out
            have HN4 := Aside0.mk (BS.old_ne hs4 (q := w.heap.size) HZ3.out HN3.out)
            have HZ4 := Aside0.mk (show w.heap.size < w4.heap.size from Nat.lt_of_lt_of_le HZ3.out hs4.1.1)
            have HB4 := Aside0.mk hb4
            have HW4 := Aside0.mk hw4
            have HS4 := Aside0.mk (HS3.out.trans hs4)
            clear hb4 hw4 hs4 a3 b3
            have HE : so = (((s.1 ++ bigB (U64 (251 + n)) 1) ++ bigB (U64 d) 2), s.2) := by
              refine HS.out.trans ?_
              refine (if_neg (fun h => by first | exact absurd h.1 (by decide) | (have := HF.out; have := h.2; omega))).trans ?_
              refine (if_neg (fun h => by first | exact absurd h.1 (by decide) | (have := HF.out; have := h.2; omega))).trans ?_
              refine (if_neg (fun h => by first | exact absurd h.1 (by decide) | (have := HF.out; have := h.2; omega))).trans ?_
              refine (if_neg (fun h => by first | exact absurd h.1 (by decide) | (have := HF.out; have := h.2; omega))).trans ?_
              exact if_pos ⟨(by first | rfl | trivial), by have := HF.out; omega⟩
            go_wp2
            go_end0
            rw [HE]
            exact ⟨rfl, v4, HW4.out, HB4.out, HS4.out⟩
          · have HF := Aside0.mk (show n < 0 ∧ n ≥ -3 ∧ ¬ ys.length = 0 from ⟨(by have := HN.out; omega), h3_, hy_⟩)
            have q_n0 : (n == 0) = false := beq_eq_false_iff_ne.2 (by omega)
            have q_nl : decide (n < 0) = true := decide_eq_true (by omega)
            have q_ng : decide (n > 0) = false := decide_eq_false (by omega)
            have q_n3 : decide (n ≥ -3) = true := decide_eq_true (by omega)
            have q_y0 : ((ys.length : Int) == 0) = false := beq_eq_false_iff_ne.2 (by omega)
            try clear hz_
            try clear hy_
            try clear hd_
            try clear h3_
            try clear hn_
            try clear hy1_
            go_wp2_with fail
            refine (mapNum_any w0 _ g A l1.length c s.2 v s.1 255 _ 1 rfl (by decide) HW2.out HB2.out (by first | (have := HLEN.out; (try simp only [List.length_append, bigB_length]); omega) | (have := HLEN.out; have := HTL.out; have := HLX.out; (try simp only [List.length_append, bigB_length]); omega))).mono ?_
            rintro e3 w3 ⟨rfl, hb3, v3, hw3, hs3⟩
            have a3 := hs3.cell a2 HG.out HN2.out
            have b3 := hs3.cell b2 HG.out HN2.out
            have HN3 := Aside0.mk (BS.old_ne hs3 (q := w.heap.size) HZ2.out HN2.out)
            have HZ3 := Aside0.mk (show w.heap.size < w3.heap.size from Nat.lt_of_lt_of_le HZ2.out hs3.1.1)
            have HB3 := Aside0.mk hb3
            have HW3 := Aside0.mk hw3
            have HS3 := Aside0.mk (HS2.out.trans hs3)
            clear hb3 hw3 hs3 a2 b2
            go_wp2_with fail
            refine (mapNum_any w0 _ g A l1.length c s.2 v3 (s.1 ++ bigB (U64 255) 1) d _ 2 rfl (by decide) HW3.out HB3.out (by first | (have := HLEN.out; (try simp only [List.length_append, bigB_length]); omega) | (have := HLEN.out; have := HTL.out; have := HLX.out; (try simp only [List.length_append, bigB_length]); omega))).mono ?_
            rintro e4 w4 ⟨rfl, hb4, v4, hw4, hs4⟩
            have a4 := hs4.cell a3 HG.out HN3.out
            have b4 := hs4.cell b3 HG.out HN3.out
            have HN4 := Aside0.mk (BS.old_ne hs4 (q := w.heap.size) HZ3.out HN3.out)
            have HZ4 := Aside0.mk (show w.heap.size < w4.heap.size from Nat.lt_of_lt_of_le HZ3.out hs4.1.1)
            have HB4 := Aside0.mk hb4
            have HW4 := Aside0.mk hw4
            have HS4 := Aside0.mk (HS3.out.trans hs4)
            clear hb4 hw4 hs4 a3 b3
            go_wp2_with fail
            refine (mapNum_any w0 _ g A l1.length c s.2 v4 ((s.1 ++ bigB (U64 255) 1) ++ bigB (U64 d) 2) (xs.length : Int) _ 2 rfl (by decide) HW4.out HB4.out (by first | (have := HLEN.out; (try simp only [List.length_append, bigB_length]); omega) | (have := HLEN.out; have := HTL.out; have := HLX.out; (try simp only [List.length_append, bigB_length]); omega))).mono ?_
            rintro e5 w5 ⟨rfl, hb5, v5, hw5, hs5⟩
            have a5 := hs5.cell a4 HG.out HN4.out
            have b5 := hs5.cell b4 HG.out HN4.out
            have HN5 := Aside0.mk (BS.old_ne hs5 (q := w.heap.size) HZ4.out HN4.out)
            have HZ5 := Aside0.mk (show w.heap.size < w5.heap.size from Nat.lt_of_lt_of_le HZ4.out hs5.1.1)
            have HB5 := Aside0.mk hb5
            have HW5 := Aside0.mk hw5
            have HS5 := Aside0.mk (HS4.out.trans hs5)
            clear hb5 hw5 hs5 a4 b4
            go_wp2_with fail
            refine (values_any2 w0 _ g A c l1 v5 (((s.1 ++ bigB (U64 255) 1) ++ bigB (U64 d) 2) ++ bigB (U64 (xs.length : Int)) 2) s.2 _ _ _ xs rfl HW5.out HB5.out HRP.out HC.out HLL.out H3.out HX.out HCX.out HTX.out (by have := HLEN.out; first | (have := HLX.out; have := HLY.out; simp only [List.length_append, bigB_length, List.length_drop]; omega) | (have := HTL.out; have := HLX.out; have := HLY.out; simp only [List.length_append, bigB_length]; omega))).mono ?_
            rintro e6 w6 ⟨rfl, v6, hw6, hb6, hs6⟩
            have a6 := hs6.cell a5 HG.out HN5.out
            have b6 := hs6.cell b5 HG.out HN5.out
            have HN6 := Aside0.mk (BS.old_ne hs6 (q := w.heap.size) HZ5.out HN5.out)
            have HZ6 := Aside0.mk (show w.heap.size < w6.heap.size from Nat.lt_of_lt_of_le HZ5.out hs6.1.1)
            have HB6 := Aside0.mk hb6
            have HW6 := Aside0.mk hw6
            have HS6 := Aside0.mk (HS5.out.trans hs6)
            clear hb6 hw6 hs6 a5 b5
            have HTL := Aside0.mk (one_len (l1 := l1) (xs := xs) (m := s.1.length + 5) rfl (s := ((((s.1 ++ bigB (U64 255) 1) ++ bigB (U64 d) 2) ++ bigB (U64 (xs.length : Int)) 2), s.2)) (by simp only [List.length_append, bigB_length]; omega))
            generalize ht : valsS l1 xs ((((s.1 ++ bigB (U64 255) 1) ++ bigB (U64 d) 2) ++ bigB (U64 (xs.length : Int)) 2), s.2) = t at *
            have HT := Aside0.mk ht
            clear ht
            go_wp2_with fail
            refine (mapNum_any w0 _ g A l1.length c t.2 v6 t.1 (ys.length : Int) _ 2 rfl (by decide) HW6.out HB6.out (by first | (have := HLEN.out; (try simp only [List.length_append, bigB_length]); omega) | (have := HLEN.out; have := HTL.out; have := HLX.out; (try simp only [List.length_append, bigB_length]); omega))).mono ?_
            rintro e7 w7 ⟨rfl, hb7, v7, hw7, hs7⟩
            have a7 := hs7.cell a6 HG.out HN6.out
            have b7 := hs7.cell b6 HG.out HN6.out
            have HN7 := Aside0.mk (BS.old_ne hs7 (q := w.heap.size) HZ6.out HN6.out)
            have HZ7 := Aside0.mk (show w.heap.size < w7.heap.size from Nat.lt_of_lt_of_le HZ6.out hs7.1.1)
            have HB7 := Aside0.mk hb7
            have HW7 := Aside0.mk hw7
            have HS7 := Aside0.mk (HS6.out.trans hs7)
            clear hb7 hw7 hs7 a6 b6
            go_wp2_with fail
            refine (values_any2 w0 _ g A c l1 v7 (t.1 ++ bigB (U64 (ys.length : Int)) 2) t.2 _ _ _ ys rfl HW7.out HB7.out HRP.out HC.out HLL.out H3.out HY.out HCY.out HTY.out (by have := HLEN.out; first | (have := HLX.out; have := HLY.out; simp only [List.length_append, bigB_length, List.length_drop]; omega) | (have := HTL.out; have := HLX.out; have := HLY.out; simp only [List.length_append, bigB_length]; omega))).mono ?_
            rintro e8 w8 ⟨rfl, v8, hw8, hb8, hs8⟩
            have a8 := hs8.cell a7 HG.out HN7.out
            have b8 := hs8.cell b7 HG.out HN7.out
            have HN8 := Aside0.mk (BS.old_ne hs8 (q := w.heap.size) HZ7.out HN7.out)
            have HZ8 := Aside0.mk (show w.heap.size < w8.heap.size from Nat.lt_of_lt_of_le HZ7.out hs8.1.1)
            have HB8 := Aside0.mk hb8
            have HW8 := Aside0.mk hw8
            have HS8 := Aside0.mk (HS7.out.trans hs8)
            clear hb8 hw8 hs8 a7 b7
            have HE : so = valsS l1 ys (t.1 ++ bigB (U64 (ys.length : Int)) 2, t.2) := by
              refine HS.out.trans ?_
              refine (if_neg (fun h => by first | exact absurd h.1 (by decide) | (have := HF.out; have := h.2; omega))).trans ?_
              refine (if_neg (fun h => by first | exact absurd h.1 (by decide) | (have := HF.out; have := h.2; omega))).trans ?_
              refine (if_neg (fun h => by first | exact absurd h.1 (by decide) | (have := HF.out; have := h.2; omega))).trans ?_
              refine (if_neg (fun h => by first | exact absurd h.1 (by decide) | (have := HF.out; have := h.2; omega))).trans ?_
              refine (if_neg (fun h => by first | exact absurd h.1 (by decide) | (have := HF.out; have := h.2; omega))).trans ?_
              refine (if_neg (fun h => by first | exact absurd h.1 (by decide) | (have := HF.out; have := h.2; omega))).trans ?_
              first | rfl | rw [HT.out]
            go_wp2
            go_end0
            rw [HE]
            exact ⟨rfl, v8, HW8.out, HB8.out, HS8.out⟩
        · have HF := Aside0.mk (show n < 0 ∧ ¬ n ≥ -3 from ⟨(by have := HN.out; omega), h3_⟩)
          have q_n0 : (n == 0) = false := beq_eq_false_iff_ne.2 (by omega)
          have q_nl : decide (n < 0) = true := decide_eq_true (by omega)
          have q_ng : decide (n > 0) = false := decide_eq_false (by omega)
          have q_n3 : decide (n ≥ -3) = false := decide_eq_false (by omega)
          try clear hz_
          try clear hy_
          try clear hd_
          try clear h3_
          try clear hn_
          try clear hy1_
          go_wp2_with fail
          refine (mapNum_any w0 _ g A l1.length c s.2 v s.1 255 _ 1 rfl (by decide) HW2.out HB2.out (by first | (have := HLEN.out; (try simp only [List.length_append, bigB_length]); omega) | (have := HLEN.out; have := HTL.out; have := HLX.out; (try simp only [List.length_append, bigB_length]); omega))).mono ?_
          rintro e3 w3 ⟨rfl, hb3, v3, hw3, hs3⟩
          have a3 := hs3.cell a2 HG.out HN2.out
          have b3 := hs3.cell b2 HG.out HN2.out
          have HN3 := Aside0.mk (BS.old_ne hs3 (q := w.heap.size) HZ2.out HN2.out)
          have HZ3 := Aside0.mk (show w.heap.size < w3.heap.size from Nat.lt_of_lt_of_le HZ2.out hs3.1.1)
          have HB3 := Aside0.mk hb3
          have HW3 := Aside0.mk hw3
          have HS3 := Aside0.mk (HS2.out.trans hs3)
          clear hb3 hw3 hs3 a2 b2
          go_wp2_with fail
          refine (mapNum_any w0 _ g A l1.length c s.2 v3 (s.1 ++ bigB (U64 255) 1) d _ 2 rfl (by decide) HW3.out HB3.out (by first | (have := HLEN.out; (try simp only [List.length_append, bigB_length]); omega) | (have := HLEN.out; have := HTL.out; have := HLX.out; (try simp only [List.length_append, bigB_length]); omega))).mono ?_
          rintro e4 w4 ⟨rfl, hb4, v4, hw4, hs4⟩
          have a4 := hs4.cell a3 HG.out HN3.out
          have b4 := hs4.cell b3 HG.out HN3.out
          have HN4 := Aside0.mk (BS.old_ne hs4 (q := w.heap.size) HZ3.out HN3.out)
          have HZ4 := Aside0.mk (show w.heap.size < w4.heap.size from Nat.lt_of_lt_of_le HZ3.out hs4.1.1)
          have HB4 := Aside0.mk hb4
          have HW4 := Aside0.mk hw4
          have HS4 := Aside0.mk (HS3.out.trans hs4)
          clear hb4 hw4 hs4 a3 b3
          go_wp2_with fail
          refine (mapNum_any w0 _ g A l1.length c s.2 v4 ((s.1 ++ bigB (U64 255) 1) ++ bigB (U64 d) 2) (xs.length : Int) _ 2 rfl (by decide) HW4.out HB4.out (by first | (have := HLEN.out; (try simp only [List.length_append, bigB_length]); omega) | (have := HLEN.out; have := HTL.out; have := HLX.out; (try simp only [List.length_append, bigB_length]); omega))).mono ?_
          rintro e5 w5 ⟨rfl, hb5, v5, hw5, hs5⟩
          have a5 := hs5.cell a4 HG.out HN4.out
          have b5 := hs5.cell b4 HG.out HN4.out
          have HN5 := Aside0.mk (BS.old_ne hs5 (q := w.heap.size) HZ4.out HN4.out)
          have HZ5 := Aside0.mk (show w.heap.size < w5.heap.size from Nat.lt_of_lt_of_le HZ4.out hs5.1.1)
          have HB5 := Aside0.mk hb5
          have HW5 := Aside0.mk hw5
          have HS5 := Aside0.mk (HS4.out.trans hs5)
          clear hb5 hw5 hs5 a4 b4
          go_wp2_with fail
          refine (values_any2 w0 _ g A c l1 v5 (((s.1 ++ bigB (U64 255) 1) ++ bigB (U64 d) 2) ++ bigB (U64 (xs.length : Int)) 2) s.2 _ _ _ xs rfl HW5.out HB5.out HRP.out HC.out HLL.out H3.out HX.out HCX.out HTX.out (by have := HLEN.out; first | (have := HLX.out; have := HLY.out; simp only [List.length_append, bigB_length, List.length_drop]; omega) | (have := HTL.out; have := HLX.out; have := HLY.out; simp only [List.length_append, bigB_length]; omega))).mono ?_
          rintro e6 w6 ⟨rfl, v6, hw6, hb6, hs6⟩
          have a6 := hs6.cell a5 HG.out HN5.out
          have b6 := hs6.cell b5 HG.out HN5.out
          have HN6 := Aside0.mk (BS.old_ne hs6 (q := w.heap.size) HZ5.out HN5.out)
          have HZ6 := Aside0.mk (show w.heap.size < w6.heap.size from Nat.lt_of_lt_of_le HZ5.out hs6.1.1)
          have HB6 := Aside0.mk hb6
          have HW6 := Aside0.mk hw6
          have HS6 := Aside0.mk (HS5.out.trans hs6)
          clear hb6 hw6 hs6 a5 b5
          have HTL := Aside0.mk (one_len (l1 := l1) (xs := xs) (m := s.1.length + 5) rfl (s := ((((s.1 ++ bigB (U64 255) 1) ++ bigB (U64 d) 2) ++ bigB (U64 (xs.length : Int)) 2), s.2)) (by simp only [List.length_append, bigB_length]; omega))
          generalize ht : valsS l1 xs ((((s.1 ++ bigB (U64 255) 1) ++ bigB (U64 d) 2) ++ bigB (U64 (xs.length : Int)) 2), s.2) = t at *
          have HT := Aside0.mk ht
          clear ht
          go_wp2_with fail
          refine (mapNum_any w0 _ g A l1.length c t.2 v6 t.1 (ys.length : Int) _ 2 rfl (by decide) HW6.out HB6.out (by first | (have := HLEN.out; (try simp only [List.length_append, bigB_length]); omega) | (have := HLEN.out; have := HTL.out; have := HLX.out; (try simp only [List.length_append, bigB_length]); omega))).mono ?_
          rintro e7 w7 ⟨rfl, hb7, v7, hw7, hs7⟩
          have a7 := hs7.cell a6 HG.out HN6.out
          have b7 := hs7.cell b6 HG.out HN6.out
          have HN7 := Aside0.mk (BS.old_ne hs7 (q := w.heap.size) HZ6.out HN6.out)
          have HZ7 := Aside0.mk (show w.heap.size < w7.heap.size from Nat.lt_of_lt_of_le HZ6.out hs7.1.1)
          have HB7 := Aside0.mk hb7
          have HW7 := Aside0.mk hw7
          have HS7 := Aside0.mk (HS6.out.trans hs7)
          clear hb7 hw7 hs7 a6 b6
          go_wp2_with fail
          refine (values_any2 w0 _ g A c l1 v7 (t.1 ++ bigB (U64 (ys.length : Int)) 2) t.2 _ _ _ ys rfl HW7.out HB7.out HRP.out HC.out HLL.out H3.out HY.out HCY.out HTY.out (by have := HLEN.out; first | (have := HLX.out; have := HLY.out; simp only [List.length_append, bigB_length, List.length_drop]; omega) | (have := HTL.out; have := HLX.out; have := HLY.out; simp only [List.length_append, bigB_length]; omega))).mono ?_
          rintro e8 w8 ⟨rfl, v8, hw8, hb8, hs8⟩
          have a8 := hs8.cell a7 HG.out HN7.out
          have b8 := hs8.cell b7 HG.out HN7.out
          have HN8 := Aside0.mk (BS.old_ne hs8 (q := w.heap.size) HZ7.out HN7.out)
          have HZ8 := Aside0.mk (show w.heap.size < w8.heap.size from Nat.lt_of_lt_of_le HZ7.out hs8.1.1)
          have HB8 := Aside0.mk hb8
          have HW8 := Aside0.mk hw8
          have HS8 := Aside0.mk (HS7.out.trans hs8)
          clear hb8 hw8 hs8 a7 b7
          have HE : so = valsS l1 ys (t.1 ++ bigB (U64 (ys.length : Int)) 2, t.2) := by
            refine HS.out.trans ?_
            refine (if_neg (fun h => by first | exact absurd h.1 (by decide) | (have := HF.out; have := h.2; omega))).trans ?_
            refine (if_neg (fun h => by first | exact absurd h.1 (by decide) | (have := HF.out; have := h.2; omega))).trans ?_
            refine (if_neg (fun h => by first | exact absurd h.1 (by decide) | (have := HF.out; have := h.2; omega))).trans ?_
            refine (if_neg (fun h => by first | exact absurd h.1 (by decide) | (have := HF.out; have := h.2; omega))).trans ?_
            refine (if_neg (fun h => by first | exact absurd h.1 (by decide) | (have := HF.out; have := h.2; omega))).trans ?_
            refine (if_neg (fun h => by first | exact absurd h.1 (by decide) | (have := HF.out; have := h.2; omega))).trans ?_
            first | rfl | rw [HT.out]
          go_wp2
          go_end0
          rw [HE]
          exact ⟨rfl, v8, HW8.out, HB8.out, HS8.out⟩
end Go.Proofs.Ytfnjbmpolggdeaa.MD.WW
end
section
namespace Go.Proofs.Ytfnjbmpolggdeaa.MD.WW
open Go.RowKit Go.Proofs.YtfnjbmpolggdeaaW.PrintWords Go.Proofs.YtfnjbmpolggdeaaW.PrintLast Go.Proofs.YtfnjbmpolggdeaaW.PrintMore
set_option linter.unusedVariables false
set_option linter.unusedSimpArgs false
theorem mrow_str {P : Program} {w : World} {base n : Nat} {e' src dst e : TypeId} {v : Value} {l : List Nat} (hs : P.underlying src = some (.slice e)) (he : P.underlying e = some (.int .u8)) (hd : P.underlying dst = some .string)
    (h : mrow w base e' v n (u8s l)) : (convert src dst v).run P w = .ok (.string (sb l)) w := by
  have hl : l.length = n := by have := h.1; simp [u8s] at this; exact this
  rcases h.2 with ⟨rfl, rfl⟩ | ⟨g, cap, cur, fr, rfl, _, hg, h1, _, _, ht, _⟩
  · obtain rfl : l = [] := List.eq_nil_of_length_eq_zero hl
    exact run_convert_bytes_nil w src e hs he 0 0 dst hd
  · rw [← strOfNums_nats]
    refine run_convert_bytes_arg w src e hs he g 0 n cap (l.map fun x : Nat => (x : Int)) (by simpa using hl) (fun i hi => ?_) dst hd
    have hc := cell_of_row w g i cur e' fr hg
    have hx : cur[i]? = some (.int .u8 ((l.map fun x : Nat => (x : Int)).getD i 0)) := by
      have h2 : (u8s l)[i]? = some (.int .u8 ((l.map fun x : Nat => (x : Int)).getD i 0)) := by simp [u8s, List.getElem?_eq_getElem (show i < l.length by omega), List.getD_eq_getElem?_getD]
      rw [← ht, List.getElem?_take_of_lt (by omega)] at h2
      simpa using h2
    have ha : (⟨g, 0, none⟩ : Addr).add i = ⟨g, 0 + i, none⟩ := by unfold Addr.add; split <;> simp_all
    rw [Nat.zero_add, hc]
    exact hx
def writeL (l1 : List S37) : List S80 → Nat → Int → List S54 → List Nat × Int → ByteArray × Int × Int
  | [], _, _, _, s => (sb s.1, 0, 0)
  | f :: fs, k, place, zs, s =>
    if f.f0 ≤ place ∨ f.f0 > 65535 ∨ (f.f1.length : Int) > 65535 ∨ (f.f2.length : Int) > 65535 then (⟨#[]⟩, 17, k)
    else if (oneS l1 f.f1 f.f2 zs (f.f0 - place - 1) s).2 = 0 then writeL l1 fs (k + 1) f.f0 f.f1 (oneS l1 f.f1 f.f2 zs (f.f0 - place - 1) s)
    else (⟨#[]⟩, (oneS l1 f.f1 f.f2 zs (f.f0 - place - 1) s).2, k)
def maps_Write.f (l0 : List S80) (l1 : List S37) (l2 : List S54) : Option (ByteArray × Int × Int) :=
  if l1.length ≤ 140737488355328 ∧ l2.length ≤ 140737488355328 ∧ (∀ x ∈ l1, 0 ≤ x.f3 ∧ x.f3 < 65536) ∧ (∀ f ∈ l0, (∀ x ∈ f.f1, 0 ≤ x.f0 ∧ x.f0 < 256) ∧ ∀ x ∈ f.f2, 0 ≤ x.f0 ∧ x.f0 < 256)
  then some (if (l0.length : Int) > 65535 then (⟨#[]⟩, 12, 0) else writeL l1 l0 0 (-1) l2 (bigB (U64 l0.length) 2, 0)) else none
theorem oneS_len (l1 : List S37) (xs ys zs : List S54) (d : Int) (s : List Nat × Int) : (oneS l1 xs ys zs d s).1.length ≤ s.1.length + 7 + 3 * xs.length + 3 * ys.length := by
  unfold oneS
  dsimp only
  have a := valsS_len l1
  repeat' split
  all_goals first
    | (simp only [List.length_append, bigB_length]; omega)
    | (refine Nat.le_trans (a _ _) ?_; simp only [List.length_append, bigB_length, List.length_drop]; omega)
    | (refine Nat.le_trans (a _ _) ?_; simp only [List.length_append, bigB_length]; have := a xs (((s.1 ++ bigB (U64 255) 1) ++ bigB (U64 d) 2) ++ bigB (U64 xs.length) 2, s.2); simp only [List.length_append, bigB_length] at this; omega)
theorem rdF_at {xs : List S80} {k : Nat} (h : k < xs.length) : rd_T80 xs (k : Int) = xs[k] := by
  unfold rd_T80
  rw [Int.toNat_natCast, List.getD_eq_getElem?_getD, List.getElem?_eq_getElem h]; rfl
set_option maxHeartbeats 8000000 in
set_option maxRecDepth 100000 in
theorem maps_Write.calls (A0 : Option Addr) (c0 : Nat) (l0 : List (S80)) (A1 : Option Addr) (c1 : Nat) (l1 : List (S37)) (A2 : Option Addr) (c2 : Nat) (l2 : List (S54)) (r1 : ByteArray) (r2 r3 : Int) (w : World) (hr0 : Kd.C k80 w A0 l0.length l0) (hc0 : l0.length ≤ c0) (hr1 : Kd.C k37 w A1 l1.length l1) (hc1 : l1.length ≤ c1) (hr2 : Kd.C k54 w A2 l2.length l2) (hc2 : l2.length ≤ c2) (h : maps_Write.f l0 l1 l2 = some (r1, r2, r3)) :
    Calls Try.prog 27 #[.slice A0 l0.length c0, .slice A1 l1.length c1, .slice A2 l2.length c2] w fun e w' => e = .returned (.tuple #[.string r1, .int .i64 r2, .int .i64 r3]) ∧ Below w.heap.size w w' := by
  unfold maps_Write.f at h
  by_cases hp : l1.length ≤ 140737488355328 ∧ l2.length ≤ 140737488355328 ∧ (∀ x ∈ l1, 0 ≤ x.f3 ∧ x.f3 < 65536) ∧ (∀ f ∈ l0, (∀ x ∈ f.f1, 0 ≤ x.f0 ∧ x.f0 < 256) ∧ ∀ x ∈ f.f2, 0 ≤ x.f0 ∧ x.f0 < 256)
  · rw [if_pos hp, Option.some.injEq] at h
    have H := Aside0.mk h
    have HP1 := Aside0.mk hp.1
    have HP2 := Aside0.mk hp.2.1
    have H3 := Aside0.mk hp.2.2.1
    have HT := Aside0.mk hp.2.2.2
    have HR0 := Aside0.mk hr0
    have HC0 := Aside0.mk hc0
    have HR1 := Aside0.mk hr1
    have HC1 := Aside0.mk hc1
    have HR2 := Aside0.mk hr2
    have HC2 := Aside0.mk hc2
    clear h hp hr0 hc0 hr1 hc1 hr2 hc2
    by_cases hl : (l0.length : Int) > 65535
    · have b0 : decide ((l0.length : Int) > 65535) = true := decide_eq_true hl
      have HL := Aside0.mk hl
      clear hl
      go_enter Try.func27, Try.ntmps27
      go_wp2
      go_ret3
      have h := H.out
      rw [if_pos HL.out] at h
      injection h with e1 e2
      injection e2 with e2 e3
      subst e1 e2 e3
      exact ⟨rfl, below_alloc (Below.refl _ _) _⟩
    · have b0 : decide ((l0.length : Int) > 65535) = false := decide_eq_false hl
      have HL := Aside0.mk hl
      have HS := Aside0.mk ((if_neg hl).symm.trans H.out)
      have hl2 : (l0.length : Int) ≤ 65535 := by omega
      have HL2 := Aside0.mk hl2
      have hvl : l0.length ≤ 140737488355328 := by omega
      clear hl hl2 H
      go_enter Try.func27, Try.ntmps27
      go_wp2_with fail
      have hbel := below_alloc (Below.refl w.heap.size w) (.cells #[.slice none 0 0, .slice A1 l1.length c1, .int .i64 0] 92)
      have hbw : BW w.heap.size (w.alloc (.cells #[.slice none 0 0, .slice A1 l1.length c1, .int .i64 0] 92)) w.heap.size 92 (mwC A1 l1.length c1 0) (.slice none 0 0) [] := ⟨Array.getElem?_push_size, Nat.le_refl _, mrow.nil _ _ _⟩
      refine (mapNum_any w _ w.heap.size A1 l1.length c1 0 (.slice none 0 0) [] (l0.length : Int) _ 2 rfl (by decide) hbw hbel (by simp only [List.length_nil]; omega)).mono ?_
      rintro e1 w1 ⟨rfl, hb1, v0, hw1, hs1⟩
      have HB1 := Aside0.mk hb1
      have HW1 := Aside0.mk hw1
      clear hb1 hw1 hs1 hbel hbw
      go_wp2_with fail
      go_loopw [10, 11, 27] (fun q10 q11 i wr => ∃ (k : Nat) (v1 : Value) (s : List Nat × Int) (place : Int) (A3 : Option Addr) (c3 : Nat) (zs : List S54), k ≤ l0.length ∧ i = .int .i64 k ∧ q11 = .int .i64 place ∧ q10 = .slice A3 zs.length c3 ∧ Aside0 (-1 ≤ place ∧ place ≤ 65535) ∧ Aside0 (BW w.heap.size wr w.heap.size 92 (mwC A1 l1.length c1 s.2) v1 s.1) ∧ Aside0 (Below w.heap.size w wr) ∧ Aside0 (Kd.C k54 w A3 zs.length zs ∧ zs.length ≤ c3 ∧ zs.length ≤ 140737488355328) ∧ Aside0 (s.1.length ≤ 2 + 400000 * k ∧ s.2 = 0) ∧ Aside0 (writeL l1 (l0.drop k) k place zs s = (r1, r2, r3))) (fun _ _ i _ => l0.length - (intOf i).toNat)
      case atStart => exact ⟨0, v0, (bigB (U64 l0.length) 2, 0), -1, A2, c2, l2, by omega, rfl, rfl, rfl, ⟨by omega⟩, ⟨HW1.out⟩, ⟨HB1.out⟩, ⟨HR2.out, HC2.out, HP2.out⟩, ⟨by simp [bigB_length], rfl⟩, ⟨HS.out⟩⟩
      case round =>
        obtain ⟨k, v1, s, place, A3, c3, zs, hk, rfl, rfl, rfl, HPL, HW, HB, HZ, HN, HR⟩ := hrel
        have hpl0 := HPL.out.1
        have hpl1 := HPL.out.2
        by_cases hlt : k < l0.length
        · have HR2 := Aside0.mk ((show writeL l1 (l0[k] :: l0.drop (k + 1)) k place zs s = (r1, r2, r3) from (List.drop_eq_getElem_cons hlt) ▸ HR.out))
          clear HR
          obtain ⟨ad0, A1_, c1_, A2_, c2_, e0, x0, x1, x2, hl1, hi1, hl2, hi2⟩ := at_T80 HR0.out (k : Int) (by omega) (by omega)
          subst e0
          rw [rdF_at hlt] at x0 x1 x2 hl1 hi1 hl2 hi2
          simp only [Int.toNat_natCast] at x0 x1 x2
          have y0 := pw_cell_below HB.out x0
          have y1 := pw_cell_below HB.out x1
          have y2 := pw_cell_below HB.out x2
          have HX := Aside0.mk (And.intro hi1 hl1)
          have HY := Aside0.mk (And.intro hi2 hl2)
          have HTK := Aside0.mk (HT.out _ (List.getElem_mem hlt))
          have HLT := Aside0.mk hlt
          clear x0 x1 x2 hi1 hl1 hi2 hl2
          generalize l0[k] = f at *
          have HS2 := Aside0.mk ((writeL.eq_2 ..).symm.trans HR2.out)
          have hbel := below_alloc (Below.refl wr.heap.size wr) (.cells #[.int .i64 f.f0, .slice A1_ f.f1.length c1_, .slice A2_ f.f2.length c2_] 80)
          have HBE := Aside0.mk (below_then HB.out HB.out.size hbel)
          have HBW := Aside0.mk (HW.out.below hbel)
          have HGN := Aside0.mk (And.intro (show wr.heap.size ≠ w.heap.size by have := HW.out.lt; omega) (show v1.ownBlock ≠ some wr.heap.size from fun e => by have := (HW.out.2.2.ge _ e).2; omega))
          clear hbel
          by_cases g0 : f.f0 ≤ place
          · have p0 : decide (f.f0 ≤ place) = true := decide_eq_true g0
            have HQ := Aside0.mk g0
            clear g0
            go_wp2
            go_ret3
            have HS3 := HS2.out.symm.trans (if_pos (.inl HQ.out))
            injection HS3 with e1 e2
            injection e2 with e2 e3
            subst e1 e2 e3
            exact ⟨rfl, HBE.out⟩
          · have p0 : decide (f.f0 ≤ place) = false := decide_eq_false g0
            by_cases g1 : f.f0 > 65535
            · have p1 : decide (f.f0 > 65535) = true := decide_eq_true g1
              have HQ := Aside0.mk g1
              clear g1
              go_wp2
              go_ret3
              have HS3 := HS2.out.symm.trans (if_pos (.inr (.inl HQ.out)))
              injection HS3 with e1 e2
              injection e2 with e2 e3
              subst e1 e2 e3
              exact ⟨rfl, HBE.out⟩
            · have p1 : decide (f.f0 > 65535) = false := decide_eq_false g1
              by_cases g2 : (f.f1.length : Int) > 65535
              · have p2 : decide ((f.f1.length : Int) > 65535) = true := decide_eq_true g2
                have HQ := Aside0.mk g2
                clear g2
                go_wp2
                go_ret3
                have HS3 := HS2.out.symm.trans (if_pos (.inr (.inr (.inl HQ.out))))
                injection HS3 with e1 e2
                injection e2 with e2 e3
                subst e1 e2 e3
                exact ⟨rfl, HBE.out⟩
              · have p2 : decide ((f.f1.length : Int) > 65535) = false := decide_eq_false g2
                by_cases g3 : (f.f2.length : Int) > 65535
                · have p3 : decide ((f.f2.length : Int) > 65535) = true := decide_eq_true g3
                  have HQ := Aside0.mk g3
                  clear g3
                  go_wp2
                  go_ret3
                  have HS3 := HS2.out.symm.trans (if_pos (.inr (.inr (.inr HQ.out))))
                  injection HS3 with e1 e2
                  injection e2 with e2 e3
                  subst e1 e2 e3
                  exact ⟨rfl, HBE.out⟩
                · have p3 : decide ((f.f2.length : Int) > 65535) = false := decide_eq_false g3
                  have HQ := Aside0.mk (show ¬(f.f0 ≤ place ∨ f.f0 > 65535 ∨ (f.f1.length : Int) > 65535 ∨ (f.f2.length : Int) > 65535) by omega)
                  have HF := Aside0.mk (show place < f.f0 ∧ f.f0 ≤ 65535 ∧ f.f1.length ≤ 65535 ∧ f.f2.length ≤ 65535 by omega)
                  have hf0 := HF.out.1
                  have hf1 := HF.out.2.1
                  have hwa : IntKind.i64.wrap (f.f0 - place) = f.f0 - place := by rw [IntKind.wrap_i64]; omega
                  have hwb : IntKind.i64.wrap (f.f0 - place - 1) = f.f0 - place - 1 := by rw [IntKind.wrap_i64]; omega
                  have HS3 := Aside0.mk ((if_neg HQ.out).symm.trans HS2.out)
                  clear g0 g1 g2 g3
                  go_wp2_with fail
                  refine (one_any w _ w.heap.size A1 c1 l1 v1 s f.f0 A1_ c1_ f.f1 A2_ c2_ f.f2 A3 c3 zs (f.f0 - place - 1) HBW.out HBE.out HR1.out HC1.out HP1.out H3.out HX.out.1 HX.out.2 HTK.out.1 HF.out.2.2.1 HY.out.1 HY.out.2 HTK.out.2 HF.out.2.2.2 HZ.out.1 HZ.out.2.1 HZ.out.2.2 (by omega) (by have := HN.out.1; have := HLT.out; have := HL2.out; omega)).mono ?_
                  rintro e2 w2 ⟨rfl, v2, hw2, hb2, hs2⟩
                  have k0 := hs2.cell (a := ⟨wr.heap.size, 0, none⟩) (u := .int .i64 f.f0) (by go_simp) HGN.out.1 HGN.out.2
                  have k1 := hs2.cell (a := ⟨wr.heap.size, 1, none⟩) (u := .slice A1_ f.f1.length c1_) (by go_simp) HGN.out.1 HGN.out.2
                  have HB2 := Aside0.mk hb2
                  have HW2 := Aside0.mk hw2
                  have HLEN := Aside0.mk (oneS_len l1 f.f1 f.f2 zs (f.f0 - place - 1) s)
                  clear hs2 hb2 hw2
                  have q0 : w2.cell? ⟨w.heap.size, 2, none⟩ = some (.int .i64 (oneS l1 f.f1 f.f2 zs (f.f0 - place - 1) s).2) := blk_cell HW2.out.1 2
                  generalize oneS l1 f.f1 f.f2 zs (f.f0 - place - 1) s = t at *
                  by_cases ht : t.2 = 0
                  · have bt : (t.2 == 0) = true := beq_iff_eq.2 ht
                    have bt2 : (t.2 != 0) = false := bne_eq_false_iff_eq.2 ht
                    have HE := Aside0.mk ht
                    have HS4 := Aside0.mk ((if_pos ht).symm.trans HS3.out)
                    clear ht
                    go_wp2
                    go_roundw
                    case rel => exact ⟨k + 1, v2, t, f.f0, A1_, c1_, f.f1, by have := HLT.out; omega, by go_num, rfl, rfl, ⟨by omega⟩, HW2, HB2, ⟨HX.out.1, HX.out.2, by have := HF.out.2.2.1; omega⟩, ⟨by have := HLEN.out; have := HN.out.1; have := HF.out; omega, HE.out⟩, HS4⟩
                    case measure => have := HLT.out; simp [intOf]; omega
                  · have bt : (t.2 == 0) = false := beq_eq_false_iff_ne.2 ht
                    have bt2 : (t.2 != 0) = true := bne_iff_ne.2 ht
                    have HS4 := Aside0.mk ((if_neg ht).symm.trans HS3.out)
                    clear ht
                    go_wp2_with fail
                    go_quiet (fail)
                    go_wp2
                    go_ret3
                    have h := HS4.out
                    injection h with e1 e2
                    injection e2 with e2 e3
                    subst e1 e2 e3
                    exact ⟨rfl, by (first | exact HB2.out | exact pw_below_drewN HB2.out _)⟩
        · obtain rfl : k = l0.length := by omega
          have HS2 := HR.out
          rw [List.drop_length] at HS2
          unfold writeL at HS2
          injection HS2 with e1 e2
          injection e2 with e2 e3
          subst e1 e2 e3
          have c0 : wr.cell? ⟨w.heap.size, 0, none⟩ = some v1 := blk_cell HW.out.1 0
          have hs := mrow_str (P := Try.prog) Try.underlying87 Try.underlying5 Try.underlying9 HW.out.2.2
          go_wp2
          go_ret3
          exact ⟨rfl, HB.out⟩
  · rw [if_neg hp] at h
    exact absurd h (by simp)
end Go.Proofs.Ytfnjbmpolggdeaa.MD.WW
end
section
namespace Go.Proofs.Ytfnjbmpolggdeaa.MD
open WW (eqV likeB oneS valsS valL valE firstC idxF cloB writeL failE rdV_at maps_Write.f)
open Go.RowKit Go.Lib Go.Proofs.YtfnjbmpolggdeaaW.PrintWords Go.Proofs.YtfnjbmpolggdeaaW.PrintLast Go.Proofs.YtfnjbmpolggdeaaW.PrintMore
set_option linter.unusedVariables false
set_option linter.unusedSimpArgs false
theorem eqV_iff {x y : S54} : eqV x y = true ↔ x = y := by
  constructor
  · intro h
    unfold eqV at h
    simp only [Bool.not_eq_true', Bool.or_eq_false_iff, Bool.not_eq_false', beq_iff_eq] at h
    obtain ⟨h0, h1, h2⟩ := h
    obtain ⟨x0, x1, x2⟩ := x
    obtain ⟨y0, y1, y2⟩ := y
    dsimp only at h0 h1 h2
    have e : x1 = y1 := by
      rw [ByteArray.toList_eq, ByteArray.toList_eq] at h1
      obtain ⟨⟨a⟩⟩ := x1
      obtain ⟨⟨b⟩⟩ := y1
      dsimp only at h1
      rw [h1]
    rw [h0, e, h2]
  · rintro rfl
    unfold eqV
    simp
theorem likeB_refl (a : List S54) : likeB a a = true := by
  unfold likeB
  rw [beq_self_eq_true, Bool.true_and, List.all_eq_true]
  exact fun i _ => eqV_iff.2 rfl
theorem likeB_eq {a b : List S54} (h : likeB a b = true) : a = b := by
  unfold likeB at h
  rw [Bool.and_eq_true, beq_iff_eq, List.all_eq_true] at h
  obtain ⟨h1, h2⟩ := h
  refine List.ext_getElem h1 fun i hi hj => ?_
  have h3 := eqV_iff.1 (h2 i (by rw [List.mem_range'_1]; omega))
  rw [rdV_at hi, rdV_at hj] at h3
  exact h3
def AtB (u : ByteArray) (q : Nat) (B : List Nat) : Prop := q + B.length ≤ u.size ∧ ∀ i, i < B.length → (bs u)[q + i]? = B[i]?
theorem AtB.left {u : ByteArray} {q : Nat} {B1 B2 : List Nat} (h : AtB u q (B1 ++ B2)) : AtB u q B1 := by
  obtain ⟨h1, h2⟩ := h
  rw [List.length_append] at h1 h2
  refine ⟨by omega, fun i hi => ?_⟩
  rw [h2 i (by omega), List.getElem?_append_left hi]
theorem AtB.right {u : ByteArray} {q : Nat} {B1 B2 : List Nat} (h : AtB u q (B1 ++ B2)) : AtB u (q + B1.length) B2 := by
  obtain ⟨h1, h2⟩ := h
  rw [List.length_append] at h1 h2
  refine ⟨by omega, fun i hi => ?_⟩
  rw [show q + B1.length + i = q + (B1.length + i) by omega, h2 _ (by omega), List.getElem?_append_right (by omega), Nat.add_sub_cancel_left]
theorem numB_bigB : ∀ (n x : Nat), x < 256 ^ n → numB (bigB x n) = x
  | 0, x, h => by simp at h; subst h; rfl
  | n + 1, x, h => by
    rw [Nat.pow_succ] at h
    show numB (bigB (x / 256) n ++ [x % 256]) = x
    rw [numB_snoc, numB_bigB n (x / 256) (by omega)]
    omega
theorem rd_num {u : ByteArray} {q n x : Nat} (h : AtB u q (bigB x n)) (hx : x < 256 ^ n) : numR u ((q : Int), 0, 0) n = ((x : Int), ((q + n : Nat) : Int), 0, 0) := by
  obtain ⟨h1, h2⟩ := h
  rw [bigB_length] at h1 h2
  unfold numR
  rw [if_neg (fun e => e rfl), if_neg (by show ¬ ((n : Int) > (u.size : Int) - (q : Int)); omega)]
  have e : ((bs u).drop (q : Int).toNat).take n = bigB x n := by
    rw [Int.toNat_natCast]
    refine List.ext_getElem? fun i => ?_
    rw [List.getElem?_take]
    split
    · next hi => rw [List.getElem?_drop, h2 i hi]
    · next hi => exact (List.getElem?_eq_none (by rw [bigB_length]; omega)).symm
  rw [e, numB_bigB n x hx]
  rfl
theorem U64_nn {x : Int} (h0 : 0 ≤ x) (h1 : x < 18446744073709551616) : U64 x = x.toNat := by
  unfold U64
  rw [Go.IntKind.wrap_u64]
  omega
theorem rd_one {u : ByteArray} {q : Nat} {x : Int} (h : AtB u q (bigB (U64 x) 1)) (h0 : 0 ≤ x) (h1 : x < 256) : numR u ((q : Int), 0, 0) 1 = (x, ((q + 1 : Nat) : Int), 0, 0) := by
  rw [U64_nn h0 (by omega)] at h
  rw [rd_num h (by show x.toNat < 256; omega), Int.toNat_of_nonneg h0]
theorem rd_two {u : ByteArray} {q : Nat} {x : Int} (h : AtB u q (bigB (U64 x) 2)) (h0 : 0 ≤ x) (h1 : x < 65536) : numR u ((q : Int), 0, 0) 2 = (x, ((q + 2 : Nat) : Int), 0, 0) := by
  rw [U64_nn h0 (by omega)] at h
  rw [rd_num h (by show x.toNat < 65536; omega), Int.toNat_of_nonneg h0]
theorem num_ok {s : ByteArray} {t : RdS} {n : Nat} (h : (numR s t n).2.2.1 = 0) : t.2.1 = 0 ∧ (numR s t n).2.1 = t.1 + n := by
  by_cases h3 : t.2.1 ≠ 0
  · exfalso
    unfold numR at h
    rw [if_pos h3] at h
    exact h3 h
  · by_cases h4 : (n : Int) > (s.size : Int) - t.1
    · exfalso
      unfold numR at h
      rw [if_neg h3, if_pos h4] at h
      exact absurd (show (1 : Int) = 0 from h) (by decide)
    · refine ⟨Classical.not_not.1 h3, ?_⟩
      unfold numR
      rw [if_neg h3, if_neg h4]
theorem fail_no {t : RdS} {e p : Int} (he : e ≠ 0) : (failR t e p).2.1 ≠ 0 := by
  unfold failR
  split
  · exact he
  · assumption
def Good (v : S54) : Prop := (v.f0 = 7 ∧ v.f2 = 0) ∨ (v.f0 = 8 ∧ v.f1 = ⟨#[]⟩ ∧ 0 ≤ v.f2 ∧ v.f2 < 65536) ∨ (0 ≤ v.f0 ∧ v.f0 < 7 ∧ v.f1 = ⟨#[]⟩ ∧ v.f2 = 0)
theorem Good.tag {v : S54} (h : Good v) : 0 ≤ v.f0 ∧ v.f0 < 256 := by
  rcases h with h | h | h <;> omega
theorem step_good {s : ByteArray} {p : List S37} {t : RdS} (h : (stepV s p t).2.2.1 = 0) : t.2.1 = 0 ∧ Good (stepV s p t).1 ∧ (stepV s p t).2.1 = t.1 + ((valL p (stepV s p t).1 []).length : Int) := by
  have hr := num1_lt s t
  unfold stepV at h ⊢
  by_cases h7 : (numR s t 1).1 = 7
  · rw [if_pos h7] at h ⊢
    by_cases hb : isB p (numR s (numR s t 1).2 2).1 7 = true
    · rw [if_pos hb] at h ⊢
      obtain ⟨a1, a2⟩ := num_ok h
      obtain ⟨b1, b2⟩ := num_ok a1
      refine ⟨b1, .inl ⟨rfl, rfl⟩, ?_⟩
      dsimp only
      rw [a2, b2]
      unfold valL
      rw [if_pos rfl, List.length_append, List.length_append, bigB_length, bigB_length]
      show t.1 + ((1 : Nat) : Int) + ((2 : Nat) : Int) = t.1 + ((0 + 1 + 2 : Nat) : Int)
      omega
    · rw [if_neg hb] at h
      exact absurd h (fail_no (by decide))
  · rw [if_neg h7] at h ⊢
    by_cases h8 : (numR s t 1).1 = 8
    · rw [if_pos h8] at h ⊢
      obtain ⟨a1, a2⟩ := num_ok h
      obtain ⟨b1, b2⟩ := num_ok a1
      have hr2 := num2_lt s (numR s t 1).2
      refine ⟨b1, .inr (.inl ⟨rfl, rfl, hr2.1, hr2.2⟩), ?_⟩
      dsimp only
      rw [a2, b2]
      unfold valL
      rw [if_neg (show ¬ ((8 : Int) = 7) by decide), if_pos rfl, List.length_append, List.length_append, bigB_length, bigB_length]
      show t.1 + ((1 : Nat) : Int) + ((2 : Nat) : Int) = t.1 + ((0 + 1 + 2 : Nat) : Int)
      omega
    · rw [if_neg h8] at h ⊢
      by_cases h9 : (numR s t 1).1 > 8
      · rw [if_pos h9] at h
        exact absurd h (fail_no (by decide))
      · rw [if_neg h9] at h ⊢
        obtain ⟨b1, b2⟩ := num_ok h
        refine ⟨b1, .inr (.inr ⟨hr.1, by show (numR s t 1).1 < 7; omega, rfl, rfl⟩), ?_⟩
        dsimp only
        rw [b2]
        unfold valL
        rw [if_neg h7, if_neg h8, List.length_append, bigB_length]
        rfl
theorem firstC_pos {p : List S37} {nm : ByteArray} (h : firstC p nm ≠ 0) : 0 < firstC p nm ∧ firstC p nm < (p.length : Int) ∧ isB p (firstC p nm) 7 = true ∧ nameV p (firstC p nm) = nm := by
  unfold firstC at h ⊢
  unfold idxF at h ⊢
  cases hf : (p.drop 1).findIdx? (cloB p nm) with
  | none => rw [hf] at h; exact absurd rfl h
  | some i =>
    obtain ⟨hi, hc, _⟩ := List.findIdx?_eq_some_iff_getElem.1 hf
    rw [List.length_drop] at hi
    rw [List.getElem_drop] at hc
    dsimp only
    have e : (1 : Int) + (i : Int) = ((1 + i : Nat) : Int) := by omega
    rw [e]
    have hl : 1 + i < p.length := by omega
    unfold cloB at hc
    rw [Bool.and_eq_true, Bool.and_eq_true, beq_iff_eq, beq_iff_eq] at hc
    obtain ⟨c1, c2, c3⟩ := hc
    have hb : isB p ((1 + i : Nat) : Int) 7 = true := by rw [isB_eq p (1 + i) 7 hl, decide_eq_true (by omega), c1]; rfl
    refine ⟨by omega, by omega, hb, ?_⟩
    unfold nameV
    rw [if_pos hb]
    have e2 : rd_T37 p ((1 + i : Nat) : Int) = p[1 + i] := by
      unfold rd_T37
      rw [List.getD_eq_getElem?_getD, Int.toNat_natCast, List.getElem?_eq_getElem hl]; rfl
    rw [e2]
    rw [ByteArray.toList_eq, ByteArray.toList_eq] at c3
    generalize strV p p[1 + i].f3 = x1 at c3
    obtain ⟨⟨a⟩⟩ := x1
    obtain ⟨⟨b⟩⟩ := nm
    dsimp only at c3
    rw [c3]
theorem val_back {u : ByteArray} {p : List S37} {v : S54} {q : Nat} (hv : Good v) (he : valE p v 0 = 0) (hp : p.length ≤ 65536) (h : AtB u q (valL p v [])) : stepV u p ((q : Int), 0, 0) = (v, ((q + (valL p v []).length : Nat) : Int), 0, 0) := by
  obtain ⟨x0, x1, x2⟩ := v
  unfold valL at h ⊢
  unfold valE at he
  dsimp only at h he ⊢
  rcases hv with ⟨h0, h2⟩ | ⟨h0, h1, h2, h3⟩ | ⟨h0, h1, h2, h3⟩
  · dsimp only at h0 h2
    subst h0 h2
    rw [if_pos rfl] at h he ⊢
    have hf : firstC p x1 ≠ 0 := by
      intro e
      rw [if_pos e] at he
      exact absurd he (by decide)
    obtain ⟨f1, f2, f3, f4⟩ := firstC_pos hf
    have r1 := rd_one (x := 7) (by simpa using h.left) (by decide) (by decide)
    have r2 := rd_two (h.right) (by omega) (by omega)
    rw [List.nil_append, bigB_length] at r2
    unfold stepV
    rw [r1, if_pos rfl]
    dsimp only
    rw [r2]
    dsimp only
    rw [if_pos f3, f4, List.nil_append, List.length_append, bigB_length, bigB_length]
  · dsimp only at h0 h1 h2 h3
    subst h0 h1
    rw [if_neg (by decide), if_pos rfl] at h ⊢
    have r1 := rd_one (x := 8) (by simpa using h.left) (by decide) (by decide)
    have r2 := rd_two (h.right) (by omega) (by omega)
    rw [List.nil_append, bigB_length] at r2
    unfold stepV
    rw [r1, if_neg (show ¬ ((8 : Int) = 7) by decide), if_pos rfl]
    dsimp only
    rw [r2]
    dsimp only
    rw [List.nil_append, List.length_append, bigB_length, bigB_length]
  · dsimp only at h0 h1 h2 h3
    subst h2 h3
    rw [if_neg (by omega), if_neg (by omega)] at h ⊢
    have r1 := rd_one (x := x0) (by simpa using h) (by omega) (by omega)
    unfold stepV
    rw [r1]
    dsimp only
    rw [if_neg (by omega), if_neg (by omega), if_neg (by omega), List.nil_append, bigB_length]
theorem rvalL_at (p : List S37) (v : S54) (l : List Nat) : valL p v l = l ++ valL p v [] := by
  unfold valL
  split
  · simp
  · split <;> simp
theorem rvalE_at (p : List S37) (v : S54) (er : Int) : valE p v er = if er = 0 then valE p v 0 else er := by
  by_cases h : er = 0
  · rw [if_pos h, h]
  · rw [if_neg h]
    have hf : ∀ x, failE er x = er := fun x => if_neg h
    unfold valE
    rw [hf, hf]
    split
    · split <;> rfl
    · split
      · split <;> rfl
      · split <;> rfl
def vB (p : List S37) (vs : List S54) : List Nat := (valsS p vs ([], 0)).1
def vE (p : List S37) (vs : List S54) : Int := (valsS p vs ([], 0)).2
theorem rvalsS_at (p : List S37) (vs : List S54) : ∀ (l : List Nat) (er : Int), valsS p vs (l, er) = (l ++ vB p vs, if er = 0 then vE p vs else er) := by
  induction vs with
  | nil => intro l er; unfold vB vE valsS; first | (simp; done) | (simp; intro h; exact h.symm)
  | cons v vs ih =>
    intro l er
    have e : ∀ a b, valsS p (v :: vs) (a, b) = valsS p vs (valL p v a, valE p v b) := fun a b => rfl
    unfold vB vE
    rw [e, e, ih, ih, rvalL_at p v l, rvalE_at p v er]
    by_cases h : er = 0
    · subst h; simp
    · simp [h]
theorem vB_cons (p : List S37) (v : S54) (vs : List S54) : vB p (v :: vs) = valL p v [] ++ vB p vs := by
  have e : valsS p (v :: vs) ([], 0) = valsS p vs (valL p v [], valE p v 0) := rfl
  show (valsS p (v :: vs) ([], 0)).1 = _
  rw [e, rvalsS_at]
theorem vE_cons (p : List S37) (v : S54) (vs : List S54) : vE p (v :: vs) = if valE p v 0 = 0 then vE p vs else valE p v 0 := by
  have e : valsS p (v :: vs) ([], 0) = valsS p vs (valL p v [], valE p v 0) := rfl
  show (valsS p (v :: vs) ([], 0)).2 = _
  rw [e, rvalsS_at]
theorem vB_append (p : List S37) (a b : List S54) : vB p (a ++ b) = vB p a ++ vB p b := by
  induction a with
  | nil => rfl
  | cons v a ih => rw [List.cons_append, vB_cons, vB_cons, ih, List.append_assoc]
theorem vB_len (p : List S37) (a : List S54) : a.length ≤ (vB p a).length := by
  induction a with
  | nil => exact Nat.zero_le _
  | cons v a ih =>
    rw [vB_cons, List.length_append, List.length_cons]
    have : 1 ≤ (valL p v []).length := by
      unfold valL
      split
      · simp [bigB_length]
      · split <;> simp [bigB_length]
    omega
theorem vE_good {p : List S37} : ∀ {vs : List S54}, (∀ v ∈ vs, Good v) → vE p vs = 0 ∨ vE p vs = 7
  | [], _ => .inl rfl
  | v :: vs, h => by
    rw [vE_cons]
    have h1 : valE p v 0 = 0 ∨ valE p v 0 = 7 := by
      unfold valE
      rcases h v (List.mem_cons_self ..) with ⟨h0, _⟩ | ⟨h0, _, h2, h3⟩ | ⟨h0, h1, _⟩
      · rw [if_pos h0]
        split
        · exact .inr rfl
        · exact .inl rfl
      · rw [if_neg (by omega), if_pos h0, if_neg (by omega)]; exact .inl rfl
      · rw [if_neg (by omega), if_neg (by omega), if_neg (by omega)]; exact .inl rfl
    split
    · exact vE_good (fun x hx => h x (List.mem_cons_of_mem _ hx))
    · exact h1
theorem vals_good {s : ByteArray} {p : List S37} : ∀ (n : Nat) (l : List S54) (t : RdS), (valD s p n l t).2.2.1 = 0 → t.2.1 = 0 ∧ ∃ vs, (valD s p n l t).1 = l ++ vs ∧ vs.length = n ∧ (∀ v ∈ vs, Good v) ∧ (valD s p n l t).2.1 = t.1 + ((vB p vs).length : Int)
  | 0, l, t, h => ⟨h, [], by simp [valD], rfl, fun v hv => absurd hv (by simp), by show t.1 = t.1 + ((0 : Nat) : Int); omega⟩
  | n + 1, l, t, h => by
    unfold valD at h ⊢
    by_cases h0 : t.2.1 ≠ 0
    · rw [if_pos h0] at h
      exact absurd h h0
    · rw [if_neg h0] at h ⊢
      obtain ⟨a1, vs, a2, a3, a4, a5⟩ := vals_good n _ _ h
      obtain ⟨b1, b2, b3⟩ := step_good a1
      refine ⟨b1, (stepV s p t).1 :: vs, by rw [a2, List.append_assoc]; rfl, by rw [List.length_cons, a3], fun v hv => ?_, ?_⟩
      · rcases List.mem_cons.1 hv with rfl | hv
        · exact b2
        · exact a4 v hv
      · rw [a5, b3, vB_cons, List.length_append]
        omega
theorem vals_back {u : ByteArray} {p : List S37} (hp : p.length ≤ 65536) : ∀ (vs l : List S54) (q : Nat), (∀ v ∈ vs, Good v) → vE p vs = 0 → AtB u q (vB p vs) → valD u p vs.length l ((q : Int), 0, 0) = (l ++ vs, ((q + (vB p vs).length : Nat) : Int), 0, 0)
  | [], l, q, _, _, _ => by simp [valD, vB, valsS]
  | v :: vs, l, q, hg, he, ha => by
    rw [vE_cons] at he
    rw [vB_cons] at ha ⊢
    have h0 : valE p v 0 = 0 := by
      by_cases e : valE p v 0 = 0
      · exact e
      · rw [if_neg e] at he; exact he
    rw [if_pos h0] at he
    have r1 := val_back (hg v (List.mem_cons_self ..)) h0 hp ha.left
    rw [List.length_cons]
    unfold valD
    rw [if_neg (fun e => e rfl), r1]
    dsimp only
    rw [vals_back hp vs (l ++ [v]) _ (fun x hx => hg x (List.mem_cons_of_mem _ hx)) he ha.right, List.append_assoc, List.length_append]
    simp only [List.singleton_append, Nat.add_assoc]
theorem ltA {a b : List Nat} (ha : ∀ x ∈ a, x < 256) (hb : ∀ x ∈ b, x < 256) : ∀ x ∈ a ++ b, x < 256 := fun x hx => (List.mem_append.1 hx).elim (ha x) (hb x)
theorem vB_lt (p : List S37) : ∀ (vs : List S54), ∀ x ∈ vB p vs, x < 256
  | [] => fun x hx => absurd hx (by simp [vB, valsS])
  | v :: vs => by
    rw [vB_cons]
    refine ltA ?_ (vB_lt p vs)
    unfold valL
    split
    · exact ltA (ltA (fun x hx => absurd hx (by simp)) (bigB_lt _ _)) (bigB_lt _ _)
    · split
      · exact ltA (ltA (fun x hx => absurd hx (by simp)) (bigB_lt _ _)) (bigB_lt _ _)
      · exact ltA (fun x hx => absurd hx (by simp)) (bigB_lt _ _)
def Wr (p : List S37) (xs ys zs : List S54) (d : Int) (B : List Nat) (e : Int) : Prop :=
  (∀ acc, oneS p xs ys zs d (acc, 0) = (acc ++ B, e)) ∧ (e = 0 ∨ e = 7) ∧ (∀ x ∈ B, x < 256) ∧ (e = 0 → ∀ u q, AtB u q B → oneM u p zs ((q : Int), 0, 0) = ⟨xs, ys, d, ((q + B.length : Nat) : Int), 0, 0⟩)
theorem wrA (p : List S37) (zs : List S54) {d : Int} (h0 : 0 ≤ d) (h1 : d < 64) : Wr p zs [] zs d (bigB (U64 d) 1) 0 := by
  refine ⟨fun acc => ?_, .inl rfl, bigB_lt _ _, fun _ u q ha => ?_⟩
  · unfold oneS
    dsimp only
    rw [if_pos ⟨likeB_refl _, by omega, rfl, h1⟩]
  · have r1 := rd_one ha h0 (by omega)
    unfold oneM
    rw [r1]
    dsimp only
    rw [if_pos h1, bigB_length]
theorem wrB (p : List S37) (zs : List S54) {d : Int} (h0 : 64 ≤ d) (h1 : d < 65536) : Wr p zs [] zs d (bigB (U64 251) 1 ++ bigB (U64 d) 2) 0 := by
  refine ⟨fun acc => ?_, .inl rfl, ltA (bigB_lt _ _) (bigB_lt _ _), fun _ u q ha => ?_⟩
  · unfold oneS
    dsimp only
    rw [if_neg (fun h => by have := h.2.2.2; omega), if_pos ⟨likeB_refl _, by omega, rfl⟩, List.append_assoc]
  · have r1 := rd_one (x := 251) ha.left (by decide) (by decide)
    have r2 := rd_two ha.right (by omega) h1
    rw [bigB_length] at r2
    unfold oneM
    rw [r1]
    dsimp only
    rw [r2]
    dsimp only
    rw [if_neg (by decide), if_neg (by decide), if_neg (by decide), if_neg (by decide), if_neg (by decide), if_pos (by decide)]
    simp [valD, bigB_length]
    omega
theorem wrC {p : List S37} (hp : p.length ≤ 65536) (zs : List S54) {y : S54} (hy : Good y) {d : Int} (h0 : 0 ≤ d) (h1 : d < 64) : Wr p zs [y] zs d (bigB (U64 (64 + d)) 1 ++ vB p [y]) (vE p [y]) := by
  have hg : ∀ v ∈ [y], Good v := fun v hv => by rw [List.mem_singleton.1 hv]; exact hy
  refine ⟨fun acc => ?_, vE_good hg, ltA (bigB_lt _ _) (vB_lt _ _), fun he u q ha => ?_⟩
  · unfold oneS
    dsimp only
    rw [if_neg (fun h => absurd h.2.2.1 (by simp)), if_neg (fun h => absurd h.2.2 (by simp)), if_pos ⟨likeB_refl _, by omega, rfl, h1⟩, rvalsS_at, if_pos rfl, List.append_assoc]
  · have r1 := rd_one ha.left (by omega) (by omega)
    have r2 := vals_back hp [y] [] _ hg he ha.right
    rw [bigB_length] at r2
    unfold oneM
    rw [r1]
    dsimp only
    rw [if_neg (by omega), if_pos (by omega)]
    rw [show [y].length = 1 from rfl] at r2
    rw [r2, List.length_append, bigB_length]
    simp only [List.nil_append, Nat.add_assoc]
    congr 1
    omega
theorem wrD {p : List S37} (hp : p.length ≤ 65536) (zs : List S54) {y : S54} (hy : Good y) {d : Int} (h0 : 64 ≤ d) (h1 : d < 65536) : Wr p zs [y] zs d (bigB (U64 247) 1 ++ (bigB (U64 d) 2 ++ vB p [y])) (vE p [y]) := by
  have hg : ∀ v ∈ [y], Good v := fun v hv => by rw [List.mem_singleton.1 hv]; exact hy
  refine ⟨fun acc => ?_, vE_good hg, ltA (bigB_lt _ _) (ltA (bigB_lt _ _) (vB_lt _ _)), fun he u q ha => ?_⟩
  · unfold oneS
    dsimp only
    rw [if_neg (fun h => absurd h.2.2.1 (by simp)), if_neg (fun h => absurd h.2.2 (by simp)), if_neg (fun h => by have := h.2.2.2; omega), if_pos ⟨likeB_refl _, by omega, rfl⟩, rvalsS_at, if_pos rfl, List.append_assoc, List.append_assoc]
  · have r1 := rd_one (x := 247) ha.left (by decide) (by decide)
    have r2 := rd_two ha.right.left (by omega) h1
    have r3 := vals_back hp [y] [] _ hg he ha.right.right
    rw [bigB_length] at r2 r3
    rw [bigB_length] at r3
    unfold oneM
    rw [r1]
    dsimp only
    rw [r2]
    dsimp only
    rw [if_neg (by decide), if_neg (by decide), if_neg (by decide), if_pos rfl]
    rw [show [y].length = 1 from rfl] at r3
    rw [r3, List.length_append, List.length_append, bigB_length, bigB_length]
    simp only [List.nil_append, Nat.add_assoc]
theorem wrE (p : List S37) (zs : List S54) {k : Nat} (hk : 1 ≤ k ∧ k ≤ 3) (hz : k ≤ zs.length) {d : Int} (h0 : 0 ≤ d) (h1 : d < 65536) : Wr p (zs.take (zs.length - k)) [] zs d (bigB (U64 (251 - (k : Int))) 1 ++ bigB (U64 d) 2) 0 := by
  have hl : (zs.take (zs.length - k)).length = zs.length - k := by rw [List.length_take]; omega
  refine ⟨fun acc => ?_, .inl rfl, ltA (bigB_lt _ _) (bigB_lt _ _), fun _ u q ha => ?_⟩
  · unfold oneS
    dsimp only
    rw [hl, show min (zs.length - k) zs.length = zs.length - k by omega, List.take_take, Nat.min_self]
    rw [if_neg (fun h => by have := h.2.1; omega), if_neg (fun h => by have := h.2.1; omega), if_neg (fun h => by have := h.2.1; omega), if_neg (fun h => by have := h.2.1; omega), if_pos ⟨likeB_refl _, by omega, by omega, rfl⟩, List.append_assoc]
    rw [show (251 : Int) + (((zs.length - k : Nat) : Int) - (zs.length : Int)) = 251 - (k : Int) by omega]
  · have r1 := rd_one ha.left (by omega) (by omega)
    have r2 := rd_two ha.right h0 h1
    rw [bigB_length] at r2
    unfold oneM
    rw [r1]
    dsimp only
    rw [r2]
    dsimp only
    rw [if_neg (by omega), if_neg (by omega), if_neg (by omega), if_neg (by omega), if_pos (by omega), if_neg (by omega), List.length_append, bigB_length, bigB_length]
    rw [show ((zs.length : Int) - (251 - (251 - (k : Int)))).toNat = zs.length - k by omega]
theorem wrF {p : List S37} (hp : p.length ≤ 65536) (zs vs : List S54) (hv : 1 ≤ vs.length ∧ vs.length ≤ 3) (hg : ∀ v ∈ vs, Good v) {d : Int} (h0 : 0 ≤ d) (h1 : d < 65536) : Wr p (zs ++ vs) [] zs d (bigB (U64 (251 + (vs.length : Int))) 1 ++ (bigB (U64 d) 2 ++ vB p vs)) (vE p vs) := by
  refine ⟨fun acc => ?_, vE_good hg, ltA (bigB_lt _ _) (ltA (bigB_lt _ _) (vB_lt _ _)), fun he u q ha => ?_⟩
  · unfold oneS
    dsimp only
    rw [List.length_append, show min (zs.length + vs.length) zs.length = zs.length by omega, List.take_left' rfl, List.drop_left' rfl, List.take_length]
    rw [if_neg (fun h => by have := h.2.1; omega), if_neg (fun h => by have := h.2.1; omega), if_neg (fun h => by have := h.2.1; omega), if_neg (fun h => by have := h.2.1; omega), if_neg (fun h => by have := h.2.1; omega), if_pos ⟨likeB_refl _, by omega, by omega, rfl⟩, rvalsS_at, if_pos rfl, List.append_assoc, List.append_assoc]
    rw [show (251 : Int) + (((zs.length + vs.length : Nat) : Int) - (zs.length : Int)) = 251 + (vs.length : Int) by omega]
  · have r1 := rd_one ha.left (by omega) (by omega)
    have r2 := rd_two ha.right.left h0 h1
    have r3 := vals_back hp vs [] _ hg he ha.right.right
    rw [bigB_length] at r2 r3
    rw [bigB_length] at r3
    unfold oneM
    rw [r1]
    dsimp only
    rw [r2]
    dsimp only
    rw [if_neg (by omega), if_neg (by omega), if_neg (by omega), if_neg (by omega), if_neg (by omega), if_pos (by omega)]
    rw [show ((251 : Int) + (vs.length : Int) - 251).toNat = vs.length by omega, r3, List.length_append, List.length_append, bigB_length, bigB_length]
    simp only [List.nil_append, Nat.add_assoc]
theorem wrG {p : List S37} (hp : p.length ≤ 65536) (xs ys zs : List S54) (hx : ∀ v ∈ xs, Good v) (hy : ∀ v ∈ ys, Good v) (lx : xs.length ≤ 65535) (ly : ys.length ≤ 65535) {d : Int} (h0 : 0 ≤ d) (h1 : d < 65536) : ∃ B e, Wr p xs ys zs d B e ∧ B.length ≤ 7 + (vB p xs).length + (vB p ys).length := by
  have hm : ∀ {a b : List S54}, likeB (a.take (min a.length b.length)) (b.take (min a.length b.length)) = true → a.take (min a.length b.length) = b.take (min a.length b.length) := fun h => likeB_eq h
  have hs : likeB (xs.take (min xs.length zs.length)) (zs.take (min xs.length zs.length)) = true → (xs.length : Int) - (zs.length : Int) = 0 → xs = zs := fun h hn => by
    have h2 := hm h
    rw [show min xs.length zs.length = xs.length by omega, List.take_length, List.take_of_length_le (by omega)] at h2
    exact h2
  by_cases c1 : likeB (xs.take (min xs.length zs.length)) (zs.take (min xs.length zs.length)) = true ∧ (xs.length : Int) - (zs.length : Int) = 0 ∧ ys.length = 0 ∧ d < 64
  · obtain rfl := hs c1.1 c1.2.1
    obtain rfl := List.eq_nil_of_length_eq_zero c1.2.2.1
    exact ⟨_, _, wrA p xs h0 c1.2.2.2, by rw [bigB_length]; omega⟩
  · by_cases c2 : likeB (xs.take (min xs.length zs.length)) (zs.take (min xs.length zs.length)) = true ∧ (xs.length : Int) - (zs.length : Int) = 0 ∧ ys.length = 0
    · have hd : 64 ≤ d := by
        apply Classical.byContradiction
        exact fun hn => c1 ⟨c2.1, c2.2.1, c2.2.2, by omega⟩
      obtain rfl := hs c2.1 c2.2.1
      obtain rfl := List.eq_nil_of_length_eq_zero c2.2.2
      exact ⟨_, _, wrB p xs hd h1, by rw [List.length_append, bigB_length, bigB_length]; omega⟩
    · by_cases c3 : likeB (xs.take (min xs.length zs.length)) (zs.take (min xs.length zs.length)) = true ∧ (xs.length : Int) - (zs.length : Int) = 0 ∧ ys.length = 1 ∧ d < 64
      · obtain rfl := hs c3.1 c3.2.1
        obtain ⟨y, rfl⟩ := List.length_eq_one_iff.1 c3.2.2.1
        exact ⟨_, _, wrC hp xs (hy y (List.mem_singleton.2 rfl)) h0 c3.2.2.2, by rw [List.length_append, bigB_length]; omega⟩
      · by_cases c4 : likeB (xs.take (min xs.length zs.length)) (zs.take (min xs.length zs.length)) = true ∧ (xs.length : Int) - (zs.length : Int) = 0 ∧ ys.length = 1
        · have hd : 64 ≤ d := by
            apply Classical.byContradiction
            exact fun hn => c3 ⟨c4.1, c4.2.1, c4.2.2, by omega⟩
          obtain rfl := hs c4.1 c4.2.1
          obtain ⟨y, rfl⟩ := List.length_eq_one_iff.1 c4.2.2
          exact ⟨_, _, wrD hp xs (hy y (List.mem_singleton.2 rfl)) hd h1, by rw [List.length_append, List.length_append, bigB_length, bigB_length]; omega⟩
        · by_cases c5 : likeB (xs.take (min xs.length zs.length)) (zs.take (min xs.length zs.length)) = true ∧ (xs.length : Int) - (zs.length : Int) < 0 ∧ (xs.length : Int) - (zs.length : Int) ≥ -3 ∧ ys.length = 0
          · have h2 := hm c5.1
            have e1 : xs = zs.take (zs.length - (zs.length - xs.length)) := by
              rw [show min xs.length zs.length = xs.length by omega, List.take_length] at h2
              rw [show zs.length - (zs.length - xs.length) = xs.length by omega]
              exact h2
            obtain rfl := List.eq_nil_of_length_eq_zero c5.2.2.2
            have hw := wrE p zs (k := zs.length - xs.length) (by omega) (by omega) h0 h1
            rw [← e1] at hw
            exact ⟨_, _, hw, by rw [List.length_append, bigB_length, bigB_length]; omega⟩
          · by_cases c6 : likeB (xs.take (min xs.length zs.length)) (zs.take (min xs.length zs.length)) = true ∧ (xs.length : Int) - (zs.length : Int) > 0 ∧ (xs.length : Int) - (zs.length : Int) ≤ 3 ∧ ys.length = 0
            · have h2 := hm c6.1
              rw [show min xs.length zs.length = zs.length by omega, List.take_length] at h2
              obtain ⟨vs, hvs⟩ : ∃ vs, vs = xs.drop zs.length := ⟨_, rfl⟩
              have e1 : xs = zs ++ vs := by
                have h3 := List.take_append_drop zs.length xs
                rw [h2, ← hvs] at h3
                exact h3.symm
              have hl : vs.length = xs.length - zs.length := by rw [hvs, List.length_drop]
              obtain rfl := List.eq_nil_of_length_eq_zero c6.2.2.2
              have hb : vB p xs = vB p zs ++ vB p vs := by rw [e1, vB_append]
              have hw := wrF hp zs vs (by omega) (fun v hv => hx v (by rw [e1]; exact List.mem_append_right _ hv)) h0 h1
              rw [← e1] at hw
              exact ⟨_, _, hw, by rw [hb]; simp only [List.length_append, bigB_length]; omega⟩
            · refine ⟨bigB (U64 255) 1 ++ (bigB (U64 d) 2 ++ (bigB (U64 (xs.length : Int)) 2 ++ (vB p xs ++ (bigB (U64 (ys.length : Int)) 2 ++ vB p ys)))), if vE p xs = 0 then vE p ys else vE p xs, ⟨fun acc => ?_, ?_, ltA (bigB_lt _ _) (ltA (bigB_lt _ _) (ltA (bigB_lt _ _) (ltA (vB_lt _ _) (ltA (bigB_lt _ _) (vB_lt _ _))))), fun he u q ha => ?_⟩, ?_⟩
              · unfold oneS
                dsimp only
                rw [if_neg c1, if_neg c2, if_neg c3, if_neg c4, if_neg c5, if_neg c6, rvalsS_at, rvalsS_at]
                simp only [↓reduceIte, List.append_assoc]
              · split
                · exact vE_good hy
                · exact vE_good hx
              · have ex : vE p xs = 0 := by
                  by_cases e : vE p xs = 0
                  · exact e
                  · rw [if_neg e] at he; exact he
                rw [if_pos ex] at he
                have r1 := rd_one (x := 255) ha.left (by decide) (by decide)
                have a2 := ha.right
                rw [bigB_length] at a2
                have r2 := rd_two a2.left h0 h1
                have a3 := a2.right
                rw [bigB_length] at a3
                have r3 := rd_two a3.left (by omega) (by omega)
                have a4 := a3.right
                rw [bigB_length] at a4
                have r4 := vals_back hp xs [] _ hx ex a4.left
                have a5 := a4.right
                have r5 := rd_two a5.left (by omega) (by omega)
                have a6 := a5.right
                rw [bigB_length] at a6
                have r6 := vals_back hp ys [] _ hy he a6
                unfold oneM
                rw [r1]
                dsimp only
                rw [r2]
                dsimp only
                rw [r3]
                dsimp only
                rw [Int.toNat_natCast, r4]
                dsimp only
                rw [r5]
                dsimp only
                rw [Int.toNat_natCast, r6]
                rw [if_neg (by decide), if_neg (by decide), if_neg (by decide), if_neg (by decide), if_neg (by decide), if_neg (by decide)]
                simp only [List.nil_append, List.length_append, bigB_length, Nat.add_assoc]
              · simp only [List.length_append, bigB_length]
                omega
theorem one_ok {s : ByteArray} {p : List S37} (hp : p.length ≤ 65536) {zs : List S54} {t : RdS} (ht : OKR s t) (h : (oneM s p zs t).t.2.1 = 0) :
    t.2.1 = 0 ∧ 0 ≤ (oneM s p zs t).d ∧ (oneM s p zs t).d < 65536 ∧ t.1 + 1 ≤ (oneM s p zs t).t.1 ∧ ((oneM s p zs t).l1.length : Int) ≤ zs.length + ((oneM s p zs t).t.1 - t.1) ∧ ((oneM s p zs t).l2.length : Int) ≤ (oneM s p zs t).t.1 - t.1 ∧ (∀ v, v ∈ (oneM s p zs t).l1 → v ∈ zs ∨ Good v) ∧ (∀ v, v ∈ (oneM s p zs t).l2 → Good v) ∧
    ∃ B e, Wr p (oneM s p zs t).l1 (oneM s p zs t).l2 zs (oneM s p zs t).d B e ∧ (B.length : Int) ≤ (oneM s p zs t).t.1 - t.1 := by
  have hr := num1_lt s t
  have hr2 := num2_lt s (numR s t 1).2
  have hs := ht.2.2
  unfold oneM at h ⊢
  by_cases h1 : (numR s t 1).1 < 64
  · rw [if_pos h1] at h ⊢
    dsimp only at h ⊢
    obtain ⟨a1, a2⟩ := num_ok h
    rw [a2]
    exact ⟨a1, hr.1, by omega, by omega, by omega, by show ((0 : Nat) : Int) ≤ _; omega, fun v hv => .inl hv, fun v hv => absurd hv (by simp), _, _, wrA p zs hr.1 h1, by rw [bigB_length]; omega⟩
  rw [if_neg h1] at h ⊢
  by_cases h2 : (numR s t 1).1 < 128
  · rw [if_pos h2] at h ⊢
    dsimp only at h ⊢
    obtain ⟨a1, vs, a2, a3, a4, a5⟩ := vals_good _ _ _ h
    obtain ⟨b1, b2⟩ := num_ok a1
    rw [a2, List.nil_append, a5, b2]
    obtain ⟨y, rfl⟩ := List.length_eq_one_iff.1 a3
    have hv := vB_len p [y]
    exact ⟨b1, by omega, by omega, by omega, by omega, by omega, fun v hv => .inl hv, a4, _, _, wrC hp zs (a4 y (List.mem_singleton.2 rfl)) (by omega) (by omega), by rw [List.length_append, bigB_length]; omega⟩
  rw [if_neg h2] at h ⊢
  by_cases h3 : (numR s t 1).1 < 247
  · rw [if_pos h3] at h
    exact absurd h (fail_no (by decide))
  rw [if_neg h3] at h ⊢
  by_cases h4 : (numR s t 1).1 = 247
  · rw [if_pos h4] at h ⊢
    dsimp only at h ⊢
    obtain ⟨a1, vs, a2, a3, a4, a5⟩ := vals_good _ _ _ h
    obtain ⟨b1, b2⟩ := num_ok a1
    obtain ⟨c1, c2⟩ := num_ok b1
    rw [a2, List.nil_append, a5, b2, c2]
    obtain ⟨y, rfl⟩ := List.length_eq_one_iff.1 a3
    have hv := vB_len p [y]
    refine ⟨c1, hr2.1, hr2.2, by omega, by omega, by omega, fun v hv => .inl hv, a4, ?_⟩
    by_cases hd : (numR s (numR s t 1).2 2).1 < 64
    · exact ⟨_, _, wrC hp zs (a4 y (List.mem_singleton.2 rfl)) hr2.1 hd, by rw [List.length_append, bigB_length]; omega⟩
    · exact ⟨_, _, wrD hp zs (a4 y (List.mem_singleton.2 rfl)) (by omega) hr2.2, by simp only [List.length_append, bigB_length]; omega⟩
  rw [if_neg h4] at h ⊢
  by_cases h5 : (numR s t 1).1 < 251
  · rw [if_pos h5] at h ⊢
    by_cases hn : (zs.length : Int) - (251 - (numR s t 1).1) < 0
    · rw [if_pos hn] at h
      exact absurd h (fail_no (by decide))
    · rw [if_neg hn] at h ⊢
      dsimp only at h ⊢
      obtain ⟨b1, b2⟩ := num_ok h
      obtain ⟨c1, c2⟩ := num_ok b1
      rw [b2, c2]
      obtain ⟨k, hk⟩ : ∃ k : Nat, 251 - (numR s t 1).1 = (k : Int) := ⟨(251 - (numR s t 1).1).toNat, by omega⟩
      rw [hk] at hn ⊢
      have hz : k ≤ zs.length := by omega
      rw [show ((zs.length : Int) - (k : Int)).toNat = zs.length - k by omega]
      exact ⟨c1, hr2.1, hr2.2, by omega, by rw [List.length_take]; omega, by show ((0 : Nat) : Int) ≤ _; omega, fun v hv => .inl (List.mem_of_mem_take hv), fun v hv => absurd hv (by simp), _, _, wrE p zs (k := k) (by omega) hz hr2.1 hr2.2, by rw [List.length_append, bigB_length, bigB_length]; omega⟩
  rw [if_neg h5] at h ⊢
  by_cases h6 : (numR s t 1).1 < 255
  · rw [if_pos h6] at h ⊢
    dsimp only at h ⊢
    obtain ⟨a1, vs, a2, a3, a4, a5⟩ := vals_good _ _ _ h
    obtain ⟨b1, b2⟩ := num_ok a1
    obtain ⟨c1, c2⟩ := num_ok b1
    rw [a2, List.nil_append, a5, b2, c2]
    have hv := vB_len p vs
    refine ⟨c1, hr2.1, hr2.2, by omega, by rw [List.length_append]; omega, by show ((0 : Nat) : Int) ≤ _; omega, fun v hv => (List.mem_append.1 hv).imp id (a4 v), fun v hv => absurd hv (by simp), ?_⟩
    by_cases hz : vs.length = 0
    · obtain rfl := List.eq_nil_of_length_eq_zero hz
      rw [List.append_nil]
      by_cases hd : (numR s (numR s t 1).2 2).1 < 64
      · exact ⟨_, _, wrA p zs hr2.1 hd, by rw [bigB_length]; omega⟩
      · exact ⟨_, _, wrB p zs (by omega) hr2.2, by rw [List.length_append, bigB_length, bigB_length]; omega⟩
    · exact ⟨_, _, wrF hp zs vs (by omega) a4 hr2.1 hr2.2, by simp only [List.length_append, bigB_length]; omega⟩
  rw [if_neg h6] at h ⊢
  dsimp only at h ⊢
  obtain ⟨a1, ys, a2, a3, a4, a5⟩ := vals_good _ _ _ h
  obtain ⟨b1, b2⟩ := num_ok a1
  obtain ⟨c1, xs, c2, c3, c4, c5⟩ := vals_good _ _ _ b1
  obtain ⟨d1, d2⟩ := num_ok c1
  obtain ⟨e1, e2⟩ := num_ok d1
  obtain ⟨f1, f2⟩ := num_ok e1
  rw [a2, List.nil_append, a5, b2, c2, List.nil_append, c5, d2, e2, f2]
  have hx := vB_len p xs
  have hy := vB_len p ys
  have hlx : xs.length ≤ 65535 := by
    have := num2_lt s (numR s (numR s t 1).2 2).2
    omega
  have hly : ys.length ≤ 65535 := by
    have := num2_lt s (valD s p (numR s (numR s (numR s t 1).2 2).2 2).1.toNat [] (numR s (numR s (numR s t 1).2 2).2 2).2).2
    omega
  obtain ⟨B, e, hw, hB⟩ := wrG hp xs ys zs c4 a4 hlx hly hr2.1 hr2.2
  exact ⟨f1, hr2.1, hr2.2, by omega, by omega, by omega, fun v hv => .inr (c4 v hv), a4, B, e, hw, by omega⟩
theorem frames_ok {s : ByteArray} {p : List S37} (hp : p.length ≤ 65536) : ∀ (n : Nat) (L : List S80) (zs : List S54) (pl : Int) (t : RdS), OKR s t → -1 ≤ pl → (zs.length : Int) + (s.size : Int) - t.1 ≤ 65535 → s.size ≤ 65535 → (frmD s p n L zs pl t).2.2.1 = 0 →
    t.2.1 = 0 ∧ ∃ fs, (frmD s p n L zs pl t).1 = L ++ fs ∧ fs.length = n ∧ t.1 + n ≤ (frmD s p n L zs pl t).2.1 ∧ (frmD s p n L zs pl t).2.1 ≤ (s.size : Int) ∧
      (∀ f ∈ fs, (∀ v ∈ f.f1, v ∈ zs ∨ Good v) ∧ (∀ v ∈ f.f2, Good v) ∧ f.f1.length ≤ 65535 ∧ f.f2.length ≤ 65535) ∧
      ((∀ f ∈ fs, f.f0 ≤ 65535) → ∃ B e, (∀ k acc, ∃ k', writeL p fs k pl zs (acc, 0) = (if e = 0 then (sb (acc ++ B), 0, 0) else (⟨#[]⟩, e, k'))) ∧ (e = 0 ∨ e = 7) ∧ (∀ x ∈ B, x < 256) ∧ (B.length : Int) ≤ (frmD s p n L zs pl t).2.1 - t.1 ∧ (e = 0 → ∀ u q M, AtB u q B → frmD u p n M zs pl ((q : Int), 0, 0) = (M ++ fs, ((q + B.length : Nat) : Int), 0, 0)))
  | 0, L, zs, pl, t, ht, hpl, hz, hs, h => ⟨h, [], by simp [frmD], rfl, by show t.1 + ((0 : Nat) : Int) ≤ t.1; omega, ht.2.1, fun f hf => absurd hf (by simp), fun _ => ⟨[], 0, fun k acc => ⟨k, by rw [if_pos rfl]; simp [writeL]⟩, .inl rfl, fun x hx => absurd hx (by simp), by show ((0 : Nat) : Int) ≤ t.1 - t.1; omega, fun _ u q M _ => by simp [frmD]⟩⟩
  | n + 1, L, zs, pl, t, ht, hpl, hz, hs, h => by
    by_cases h0 : t.2.1 ≠ 0
    · rw [frm_stuck h0] at h
      exact absurd h h0
    have h0 := Classical.not_not.1 h0
    rw [frm_step h0] at h ⊢
    by_cases hz1 : (oneM s p zs t).t.2.1 = 0
    · obtain ⟨y0, y1, y2, y3, y4, y5, y6, y7, B, e, ⟨w1, w2, w3, w4⟩, w5⟩ := one_ok hp ht hz1
      have hO := OKR.one (p := p) (l := zs) ht
      have hO1 := hO.2.1
      have hO0 := ht.1
      obtain ⟨_, fs, f1, f2, f3, f4, f5, f6⟩ := frames_ok hp n (L ++ [⟨pl + ((oneM s p zs t).d + 1), (oneM s p zs t).l1, (oneM s p zs t).l2⟩]) (oneM s p zs t).l1 (pl + ((oneM s p zs t).d + 1)) (oneM s p zs t).t hO (by omega) (by omega) hs h
      generalize frmD s p n (L ++ [⟨pl + ((oneM s p zs t).d + 1), (oneM s p zs t).l1, (oneM s p zs t).l2⟩]) (oneM s p zs t).l1 (pl + ((oneM s p zs t).d + 1)) (oneM s p zs t).t = X at *
      generalize oneM s p zs t = r at *
      have lx1 : r.l1.length ≤ 65535 := by omega
      have lx2 : r.l2.length ≤ 65535 := by omega
      refine ⟨h0, ⟨pl + (r.d + 1), r.l1, r.l2⟩ :: fs, by rw [f1, List.append_assoc]; rfl, by rw [List.length_cons, f2], by omega, f4, fun f hf => ?_, fun hf => ?_⟩
      · rcases List.mem_cons.1 hf with rfl | hf
        · exact ⟨y6, y7, lx1, lx2⟩
        · obtain ⟨g1, g2, g3⟩ := f5 f hf
          exact ⟨fun v hv => (g1 v hv).elim (fun h => y6 v h) .inr, g2, g3⟩
      · obtain ⟨B2, e2, g1, g2, g3, g4, g5⟩ := f6 (fun f hf' => hf f (List.mem_cons_of_mem _ hf'))
        have hx : pl + (r.d + 1) ≤ 65535 := hf _ (List.mem_cons_self ..)
        have hW : ∀ k acc, writeL p (⟨pl + (r.d + 1), r.l1, r.l2⟩ :: fs) k pl zs (acc, 0) = if e = 0 then writeL p fs (k + 1) (pl + (r.d + 1)) r.l1 (acc ++ B, e) else (⟨#[]⟩, e, (k : Int)) := fun k acc => by
          show (if _ then _ else _) = _
          dsimp only
          rw [if_neg (by omega), show pl + (r.d + 1) - pl - 1 = r.d by omega, w1 acc]
        by_cases he : e = 0
        · subst he
          refine ⟨B ++ B2, e2, fun k acc => ?_, g2, ltA w3 g3, by rw [List.length_append]; omega, fun hz2 u q M ha => ?_⟩
          · obtain ⟨k', hk'⟩ := g1 (k + 1) (acc ++ B)
            refine ⟨k', ?_⟩
            rw [hW, if_pos rfl, hk', List.append_assoc]
          · rw [frm_step rfl, w4 rfl u q ha.left]
            dsimp only
            rw [g5 hz2 u _ _ ha.right, List.append_assoc, List.length_append]
            simp only [List.singleton_append, Nat.add_assoc]
        · refine ⟨[], e, fun k acc => ⟨(k : Int), ?_⟩, w2, fun x hx => absurd hx (by simp), by show ((0 : Nat) : Int) ≤ _; omega, fun hz2 => absurd hz2 he⟩
          rw [hW, if_neg he, if_neg he]
    · rw [frm_stuck hz1] at h
      exact absurd h hz1
theorem readD_ok {s : ByteArray} {p : List S37} {first : List S54} {L : List S80} {q0 : Int} (h : readD s p first = (L, 0, q0)) :
    (frmD s p (numR s (0, 0, 0) 2).1.toNat [] first (-1) (numR s (0, 0, 0) 2).2).1 = L ∧ (frmD s p (numR s (0, 0, 0) 2).1.toNat [] first (-1) (numR s (0, 0, 0) 2).2).2.2.1 = 0 := by
  unfold readD finR at h
  generalize frmD s p (numR s (0, 0, 0) 2).1.toNat [] first (-1) (numR s (0, 0, 0) 2).2 = X at *
  split at h
  · split at h
    · next h1 =>
      injection h with _ h
      injection h with h _
      exact absurd h h1
    · next h1 => exact absurd (fail_no (by decide)) h1
  · split at h
    · next h1 =>
      injection h with _ h
      injection h with h _
      exact absurd h h1
    · next h1 =>
      injection h with h _
      exact ⟨h, Classical.not_not.1 h1⟩
theorem rounds_read {s : ByteArray} {p : List S37} {first : List S54} {L : List S80} {q0 : Int} (hp : p.length ≤ 4096) (hs : s.size ≤ 4096) (hf : first.length ≤ 4096) (ht : ∀ x ∈ first, 0 ≤ x.f0 ∧ x.f0 < 256) (hpp : ∀ c ∈ p, 0 ≤ c.f3 ∧ c.f3 < 65536)
    (h : readD s p first = (L, 0, q0)) (hL : ∀ f ∈ L, f.f0 ≤ 65535) : ∃ t e k, maps_Write.f L p first = some (t, e, k) ∧ (e = 0 ∨ e = 7) ∧ (e = 0 → t.size ≤ s.size ∧ readD t p first = (L, 0, 0)) := by
  obtain ⟨h1, h2⟩ := readD_ok h
  have hO : OKR s ((0, 0, 0) : RdS) := ⟨Int.le_refl _, Int.natCast_nonneg _, by omega⟩
  have hr := num2_lt s (0, 0, 0)
  have hON := hO.num 2
  have hpos := hON.1
  obtain ⟨a1, fs, a2, a3, a4, a5, a6, a7⟩ := frames_ok (by omega) (numR s (0, 0, 0) 2).1.toNat [] first (-1) (numR s (0, 0, 0) 2).2 hON (Int.le_refl _) (by omega) (by omega) h2
  obtain ⟨_, b2⟩ := num_ok a1
  rw [h1, List.nil_append] at a2
  subst a2
  obtain ⟨B, e, w1, w2, w3, w4, w5⟩ := a7 hL
  obtain ⟨k', hk'⟩ := w1 0 (bigB (U64 (L.length : Int)) 2)
  generalize (frmD s p (numR s (0, 0, 0) 2).1.toNat [] first (-1) (numR s (0, 0, 0) 2).2).2 = X at *
  have hn : L.length ≤ 65535 := by omega
  have hb2 : (numR s (0, 0, 0) 2).2.1 = 2 := b2
  have hwf : maps_Write.f L p first = some (if e = 0 then (sb (bigB (U64 (L.length : Int)) 2 ++ B), 0, 0) else (⟨#[]⟩, e, k')) := by
    unfold maps_Write.f
    rw [if_pos ⟨by omega, by omega, hpp, fun f hf => ⟨fun v hv => ((a6 f hf).1 v hv).elim (ht v) Good.tag, fun v hv => ((a6 f hf).2.1 v hv).tag⟩⟩, if_neg (by omega), hk']
  by_cases he : e = 0
  · subst he
    rw [if_pos rfl] at hwf
    refine ⟨_, _, _, hwf, .inl rfl, fun _ => ⟨?_, ?_⟩⟩
    · rw [sb_size, List.length_append, bigB_length]
      omega
    · have hbs := bs_sb (ltA (bigB_lt 2 (U64 (L.length : Int))) w3)
      have hat : AtB (sb (bigB (U64 (L.length : Int)) 2 ++ B)) 0 (bigB (U64 (L.length : Int)) 2 ++ B) := ⟨by rw [sb_size]; omega, fun i hi => by rw [hbs, Nat.zero_add]⟩
      have r1 := rd_two hat.left (by omega) (by omega)
      have r2 := w5 rfl _ _ [] hat.right
      rw [bigB_length] at r2
      rw [show (numR s (0, 0, 0) 2).1.toNat = L.length from a3.symm] at r2
      unfold readD
      rw [show ((0, 0, 0) : RdS) = (((0 : Nat) : Int), 0, 0) from rfl, r1]
      dsimp only
      rw [Int.toNat_natCast, r2]
      unfold finR
      dsimp only
      rw [if_neg (by rw [sb_size, List.length_append, bigB_length]; omega), if_neg (fun h => h rfl), List.nil_append]
  · rw [if_neg he] at hwf
    exact ⟨_, _, _, hwf, w2, fun h => absurd h he⟩
end Go.Proofs.Ytfnjbmpolggdeaa.MD
end
section
namespace Go.Proofs.Ytfnjbmpolggdeaa.MD
open Go.RowKit Go.Lib Go.Proofs.YtfnjbmpolggdeaaW.PrintWords Go.Proofs.YtfnjbmpolggdeaaW.PrintLast Go.Proofs.YtfnjbmpolggdeaaW.PrintMore
set_option linter.unusedVariables false
set_option linter.unusedSimpArgs false
def s015 : ByteArray := ⟨#[0, 1, 5]⟩
set_option maxRecDepth 100000 in
theorem read_015 : readD s015 [] [] = ([⟨5, [], []⟩], 0, 0) := by kernel_rfl
theorem read_one (w : World) : Calls Try.prog 34 #[.string ⟨#[0, 1, 5]⟩, .slice none 0 0, .slice none 0 0] w fun e' w' => ∃ g c, e' = .returned (.tuple #[.slice (some ⟨g, 0, none⟩) 1 c, .int .i64 0, .int .i64 0]) ∧ w'.cell? ⟨g, 0, none⟩ = some (.int .i64 5) ∧ Below w.heap.size w w' := by
  refine (read_any s015 none 0 [] none 0 [] w _ _ _ read_015 (by decide) (by decide) (fun _ _ _ _ => Kd.C_nil _ _) (Nat.le_refl _) (fun _ _ _ _ => Kd.C_nil _ _) (Nat.le_refl _) (fun c hc => absurd hc (by simp))).mono ?_
  rintro e w' ⟨V, rfl, hS, hb⟩
  obtain ⟨g, cap, hv, _⟩ := Kd.S_form hS (by decide)
  subst hv
  obtain ⟨ad, B1, d1, B2, d2, e0, x0, _⟩ := at_T80 (Kd.S_reads' (kF_S hS)).2.2 0 (by decide) (by decide)
  injection e0 with e0
  subst e0
  refine ⟨g, cap, rfl, ?_, hb⟩
  rw [add_plain] at x0
  exact x0
theorem readD_err {s : ByteArray} {p : List S37} {first : List S54} {L : List S80} {e q : Int} (h : readD s p first = (L, e, q)) (he : e ≠ 0) : L = [] := by
  unfold readD finR at h
  generalize frmD s p (numR s (0, 0, 0) 2).1.toNat [] first (-1) (numR s (0, 0, 0) 2).2 = X at *
  split at h
  · split at h
    · injection h with h _; exact h.symm
    · injection h with _ h; injection h with h _; exact absurd h.symm he
  · split at h
    · injection h with h _; exact h.symm
    · injection h with _ h; injection h with h _; exact absurd h.symm he
set_option maxHeartbeats 16000000 in
set_option maxRecDepth 100000 in
theorem mapRounds_any (a0 : ByteArray) (A1 : Option Addr) (c1 : Nat) (p : List S37) (A2 : Option Addr) (c2 : Nat) (first : List S54) (w : World) (hb0 : a0.size ≤ 140737488351232) (hb1 : p.length ≤ 140737488351232) (hb2 : first.length ≤ 140737488351232)
    (hr1 : Kd.C k37 w A1 p.length p) (hc1 : p.length ≤ c1) (hr2 : Kd.C k54 w A2 first.length first) (hc2 : first.length ≤ c2) (hp : ∀ c ∈ p, okC39 c) (ht : ∀ x ∈ first, 0 ≤ x.f0 ∧ x.f0 < 256) :
    Calls Try.prog 15 #[.string a0, .slice A1 p.length c1, .slice A2 first.length c2] w fun e w' => e = .returned (.bool true) ∧ Below w.heap.size w w' := by
  have e1 : wrap64 ((a0.size : Int) + (p.length : Int)) = (a0.size : Int) + (p.length : Int) := by rw [← i64_w, IntKind.wrap_i64]; omega
  have e2 : wrap64 ((a0.size : Int) + (p.length : Int) + (first.length : Int)) = (a0.size : Int) + (p.length : Int) + (first.length : Int) := by rw [← i64_w, IntKind.wrap_i64]; omega
  by_cases h : (a0.size : Int) + (p.length : Int) + (first.length : Int) > 4096
  · have q0 : decide ((a0.size : Int) + (p.length : Int) + (first.length : Int) > 4096) = true := decide_eq_true h
    have q1 : decide (4096 < (a0.size : Int) + (p.length : Int) + (first.length : Int)) = true := decide_eq_true h
    clear h
    go_enter Try.func15, Try.ntmps15
    go_wp2
    go_ret
    exact ⟨rfl, Below.refl _ _⟩
  · have q0 : decide ((a0.size : Int) + (p.length : Int) + (first.length : Int) > 4096) = false := decide_eq_false h
    have q1 : decide (4096 < (a0.size : Int) + (p.length : Int) + (first.length : Int)) = false := decide_eq_false h
    have HS := Aside0.mk (show a0.size ≤ 4096 ∧ p.length ≤ 4096 ∧ first.length ≤ 4096 by omega)
    obtain ⟨⟨L, e, q⟩, hD⟩ : ∃ q, readD a0 p first = q := ⟨_, rfl⟩
    have HD := Aside0.mk hD
    have HSM := Aside0.mk (readD_small (by have := HS.out; omega) hD)
    have HP := Aside0.mk hp
    have HTG := Aside0.mk ht
    have HR1 : Aside0 (∀ W, Below w.heap.size w W → ∀ W_ g, W.heap.size ≤ g → KeepBut W W_ g none → Kd.C k37 W_ A1 p.length p) := ⟨fun W hb W_ g hg hk => Kd.C_foot_came k37_heap hr1 hb (Nat.le_trans hb.size hg) W_ hk⟩
    have HR2 : Aside0 (∀ W, Below w.heap.size w W → ∀ W_ g, W.heap.size ≤ g → KeepBut W W_ g none → Kd.C k54 W_ A2 first.length first) := ⟨fun W hb W_ g hg hk => Kd.C_foot_came k54_heap hr2 hb (Nat.le_trans hb.size hg) W_ hk⟩
    have HQ1 : Aside0 (∀ W, Below w.heap.size w W → Kd.C k37 W A1 p.length p) := ⟨fun W hb => Kd.C_below hr1 hb⟩
    have HQ2 : Aside0 (∀ W, Below w.heap.size w W → Kd.C k54 W A2 first.length first) := ⟨fun W hb => Kd.C_below hr2 hb⟩
    have HC1 := Aside0.mk hc1
    have HC2 := Aside0.mk hc2
    clear h hD hp ht hr1 hr2 hc1 hc2 hb0 hb1 hb2
    go_enter Try.func15, Try.ntmps15
    go_upto_region 6 with (first | (go_at_call 34; refine (read_one _).mono ?_; rintro e3 w3 ⟨g3, c3, rfl, x3, hb3⟩; have HB3 := Aside0.mk hb3; clear hb3) | go_in)
    clear x3 q0 q1 e1 e2
    go_upto_region 7 with (first | (go_at_call 34; refine (read_any a0 A1 c1 p A2 c2 first _ L e q HD.out (by have := HS.out; omega) (by have := HS.out; omega) (HR1.out _ HB3.out) HC1.out (HR2.out _ HB3.out) HC2.out HP.out).mono ?_; rintro e6 w6 ⟨V6, rfl, hS6, hb6⟩; obtain ⟨A6, c6, q6⟩ := Kd.S_slice hS6; subst q6; have HS6 := Aside0.mk hS6; have HB6 := Aside0.mk (below_then HB3.out HB3.out.size hb6); clear hS6 hb6) | go_in)
    by_cases he : e = 0
    · subst he
      have HF : Aside0 (Kd.C k80 w6 A6 L.length L ∧ L.length ≤ c6) := ⟨(Kd.S_reads' (kF_S HS6.out)).2.2, (Kd.S_reads' (kF_S HS6.out)).2.1⟩
      go_upto_region 10 with (fail)
      go_loopw [61] (fun i wr => ∃ (k : Nat), k ≤ L.length ∧ i = .int .i64 (k : Int) ∧ Aside0 (Below w6.heap.size w6 wr) ∧ Aside0 (∀ f ∈ L.take k, f.f0 ≤ 65535)) (fun i _ => L.length - (intOf i).toNat)
      case atStart => exact ⟨0, Nat.zero_le _, rfl, ⟨Below.refl _ _⟩, ⟨fun f hf => absurd hf (by simp)⟩⟩
      case round =>
        obtain ⟨k, hk, rfl, HB, HA⟩ := hrel
        by_cases hlt : k < L.length
        · have bk : decide ((k : Int) < (L.length : Int)) = true := decide_eq_true (by omega)
          have bkn : decide (k < L.length) = true := decide_eq_true hlt
          obtain ⟨ad, B1, d1, B2, d2, e0, x0, x1, x2, _⟩ := at_T80 HF.out.1 (k : Int) (by omega) (by omega)
          subst e0
          rw [rdFr_at hlt] at x0 x1 x2
          simp only [Int.toNat_natCast] at x0 x1 x2
          replace x0 := pw_cell_below HB.out x0
          replace x1 := pw_cell_below HB.out x1
          replace x2 := pw_cell_below HB.out x2
          have HLT := Aside0.mk hlt
          have HTK : Aside0 (L.take (k + 1) = L.take k ++ [L[k]]) := ⟨List.take_succ_eq_append_getElem hlt⟩
          generalize L[k] = f at *
          have hbl := below_alloc (Below.refl wr.heap.size wr) (.cells #[.int .i64 f.f0, .slice B1 f.f1.length d1, .slice B2 f.f2.length d2] 80)
          have HBL := Aside0.mk (below_then HB.out HB.out.size hbl)
          have HX : Aside0 ((wr.alloc (.cells #[.int .i64 f.f0, .slice B1 f.f1.length d1, .slice B2 f.f2.length d2] 80)).heap[wr.heap.size]? = some (.cells #[.int .i64 f.f0, .slice B1 f.f1.length d1, .slice B2 f.f2.length d2] 80 (0, 0))) := ⟨Array.getElem?_push_size⟩
          have wk : wrap64 ((k : Int) + 1) = ((k + 1 : Nat) : Int) := by rw [← i64_w, IntKind.wrap_i64]; have := HSM.out.1; omega
          have WN := Aside0.mk (congrArg (Value.int IntKind.i64) wk)
          have WI := Aside0.mk wk
          clear hk hbl wk HB
          go_upto_region 12 with (fail)
          generalize World.alloc wr _ = W1 at *
          have y0 : W1.cell? ⟨wr.heap.size, 0, none⟩ = some (.int .i64 f.f0) := blk_cell HX.out 0
          clear x0 x1 x2 hlt
          generalize wr.heap.size = bx at *
          by_cases hf : f.f0 > 65535
          · have b5 : decide (f.f0 > 65535) = true := decide_eq_true hf
            have b6 : decide (65535 < f.f0) = true := decide_eq_true hf
            clear hf
            go_wp2_with fail
            go_ret
            exact ⟨rfl, below_then HB6.out HB6.out.size HBL.out⟩
          · have b5 : decide (f.f0 > 65535) = false := decide_eq_false hf
            have b6 : decide (65535 < f.f0) = false := decide_eq_false hf
            have HFF := Aside0.mk hf
            clear hf
            go_wp2_with fail
            go_roundw
            case rel => exact ⟨k + 1, HLT.out, by first | exact WN.out | exact WI.out, HBL, ⟨by
              rw [HTK.out]
              intro x hx
              rcases List.mem_append.1 hx with hx | hx
              · exact HA.out x hx
              · rw [List.mem_singleton.1 hx]; have := HFF.out; omega⟩⟩
            case measure => exact ms_valA HLT.out WN.out
        · obtain rfl : k = L.length := by omega
          have bk : decide ((L.length : Int) < (L.length : Int)) = false := decide_eq_false (by omega)
          have bkn : decide (L.length < L.length) = false := decide_eq_false (by omega)
          obtain ⟨t, e2, k2, hw, h7, hz⟩ := rounds_read HS.out.2.1 HS.out.1 HS.out.2.2 HTG.out (fun c hc => (HP.out c hc).1) HD.out (by have h := HA.out; rw [List.take_length] at h; exact h)
          have HW := Aside0.mk hw
          have H7 := Aside0.mk h7
          have HZ := Aside0.mk hz
          have HBW := Aside0.mk (below_then HB6.out HB6.out.size HB.out)
          have HFW := Aside0.mk (And.intro (Kd.C_below HF.out.1 HB.out) HF.out.2)
          clear hlt hk hw h7 hz HA HF
          go_upto_region 16 with (first | (go_at_call 27; refine (WW.maps_Write.calls A6 c6 L A1 c1 p A2 c2 first t e2 k2 _ HFW.out.1 HFW.out.2 (HQ1.out _ HBW.out) HC1.out (HQ2.out _ HBW.out) HC2.out HW.out).mono ?_; rintro e15 w15 ⟨rfl, hb15⟩; have HB15 := Aside0.mk (below_then HBW.out HBW.out.size hb15); have HF15 := Aside0.mk (And.intro (Kd.C_below HFW.out.1 hb15) HFW.out.2); clear hb15) | go_in)
          by_cases he2 : e2 = 0
          · subst he2
            have HZ2 := Aside0.mk (HZ.out rfl)
            have b9 : decide ((t.size : Int) ≤ (a0.size : Int)) = true := decide_eq_true (by have := HZ2.out.1; omega)
            have b9n : decide (t.size ≤ a0.size) = true := decide_eq_true HZ2.out.1
            go_wp2_with (first
              | (go_at_call 34; refine (read_any t A1 c1 p A2 c2 first _ L 0 0 HZ2.out.2 (by have := HS.out; have := HZ2.out.1; omega) (by have := HS.out; omega) (HR1.out _ HB15.out) HC1.out (HR2.out _ HB15.out) HC2.out HP.out).mono ?_; rintro e18 w18 ⟨V18, rfl, hS18, hb18⟩; obtain ⟨A18, c18, q18⟩ := Kd.S_slice hS18; subst q18; have HS18 := Aside0.mk (And.intro (Kd.C_below HF15.out.1 hb18) hS18); have HB18 := Aside0.mk (below_then HB15.out HB15.out.size hb18); clear hS18 hb18)
              | (go_at_call 29; refine (jvmcorelaw3_sameFrames.calls 1000000 A6 c6 L A18 c18 L true _ HS18.out.1 HF15.out.2 (Kd.S_reads' (kF_S HS18.out.2)).2.2 (Kd.S_reads' (kF_S HS18.out.2)).2.1 (sf_refl L HSM.out.1 HSM.out.2)).mono ?_; rintro e19 w19 ⟨rfl, hb19⟩; have HB19 := Aside0.mk (below_then HB18.out HB18.out.size hb19); clear hb19)
              | go_in)
            go_ret
            exact ⟨rfl, HB19.out⟩
          · have z0 : (e2 != 0) = true := bne_iff_ne.2 he2
            have HE7 : Aside0 (e2 = 7) := ⟨H7.out.resolve_left he2⟩
            have z7 : (e2 == 7) = true := beq_iff_eq.2 HE7.out
            clear he2
            go_wp2_with fail
            go_ret
            exact ⟨rfl, HB15.out⟩
    · have z0 : (e != 0) = true := bne_iff_ne.2 he
      have HL0 := Aside0.mk (readD_err HD.out he)
      obtain ⟨n, hn⟩ : ∃ n, L.length = n := ⟨_, rfl⟩
      have HN0 : Aside0 (n = 0) := ⟨by rw [← hn, HL0.out]; rfl⟩
      rw [hn]
      have z1 : ((n : Int) == 0) = true := beq_iff_eq.2 (by have := HN0.out; omega)
      clear he hn
      go_wp2_with fail
      go_ret
      exact ⟨rfl, HB6.out⟩
end Go.Proofs.Ytfnjbmpolggdeaa.MD
end
section
namespace Go.Proofs.Ytfnjbmpolggdeaa.mapRounds
open Go.ChangeShapes Go.WideShapes Go.ChangeAt Go.RowKit Go.Proofs.YtfnjbmpolggdeaaW.PrintWords
open Go.ChangeMaps (open_string shut_string)
open Go.Proofs.Ytfnjbmpolggdeaa.MD
set_option linter.unusedVariables false
theorem own : ownKnob Try.prog.godebug = none := by kernel_rfl
theorem laidOut : laidOutB Try.prog = true := by kernel_rfl
def R : Nat := 140737488351232
instance iC : Inhabited S37 := ⟨z37⟩
instance iV : Inhabited S54 := ⟨z54⟩
set_option maxRecDepth 100000 in
theorem opensC : Opens Try.prog R k37 37 okC39 := by
  refine Opens.imp (opens_struct Try.underlying37 (by kernel_rfl) (l := [(5, 0), (9, 1), (35, 2), (29, 3), (29, 4)]) (by kernel_rfl)
    (opensF_iso (fun p : Int × ByteArray × Int × Int × Int => (⟨p.1, p.2.1, p.2.2.1, p.2.2.2.1, p.2.2.2.2⟩ : S37)) (fun _ => rfl)
      (opensF_pair (by kernel_rfl) (opens_int Try.underlying5) (opensF_pair (by kernel_rfl) (opens_string Try.underlying9) (opensF_pair (by kernel_rfl) (opens_int Try.underlying35) (opensF_pair (by kernel_rfl) (opens_int Try.underlying29) (opensF_one (by kernel_rfl) (opens_int Try.underlying29)))))))) ?_
  rintro x ⟨h0, h1, h2, h3, h4⟩
  have g3 : (Lit.int IntKind.u16 x.f3).wf = true := h3
  have g4 : (Lit.int IntKind.u16 x.f4).wf = true := h4
  simp [Lit.wf, IntKind.min, IntKind.max, IntKind.bits, IntKind.signed] at g3 g4
  exact ⟨⟨by omega, by omega⟩, ⟨by omega, by omega⟩⟩
set_option maxRecDepth 100000 in
theorem opensV : Opens Try.prog R k54 54 (fun x => 0 ≤ x.f0 ∧ x.f0 < 256) := by
  refine Opens.imp (opens_struct Try.underlying54 (by kernel_rfl) (l := [(5, 0), (9, 1), (3, 2)]) (by kernel_rfl)
    (opensF_iso (fun p : Int × ByteArray × Int => (⟨p.1, p.2.1, p.2.2⟩ : S54)) (fun _ => rfl)
      (opensF_pair (by kernel_rfl) (opens_int Try.underlying5) (opensF_pair (by kernel_rfl) (opens_string Try.underlying9) (opensF_one (by kernel_rfl) (opens_int Try.underlying3)))))) ?_
  rintro x ⟨h0, h1, h2⟩
  have g0 : (Lit.int IntKind.u8 x.f0).wf = true := h0
  simp [Lit.wf, IntKind.min, IntKind.max, IntKind.bits, IntKind.signed] at g0
  exact ⟨by omega, by omega⟩
theorem bV : Try.prog.bytesOf 54 = 32 := by kernel_rfl
theorem bC : Try.prog.bytesOf 37 = 40 := by kernel_rfl
set_option maxRecDepth 100000 in
theorem lifted (os : Os) (started : os.Started) (H : Type) (enc : TypeId × Value → H) :
    ReturnsInHanded {} Try.checked os 15 .any (Rows.mapRoundsSpec.pre6 enc Try.prog Try.f15 Rows.mapRoundsRow.domain false) (Rows.mapRoundsSpec.post enc Try.prog Try.f15 false true false false) := by
  refine returnsInHanded_of_change_sized (C := Try.checked) own started (by kernel_rfl) Try.func15
    (ChangeSpec.witness6 (enc := enc) (C := Try.checked) false ⟨#[], #[.string ByteArray.empty, .slice none 0 0, .slice none 0 0], []⟩ 8 (by kernel_rfl) (by kernel_rfl) (by kernel_rfl) (by kernel_rfl)) ?_
  intro W base args ds gs before hval0 hW hcnd hsz0 _
  have hsz : (DataW.weightsEach Try.prog (Try.f15.params.toList ++ Rows.mapRoundsSpec.plain.varTypes Try.prog) (ds ++ gs)).all (· ≤ reachBytes) = true := hsz0
  have hval : ∀ (j : Nat) t v, Try.f15.params[j]? = some t → args[j]? = some v → Value.okWide Try.prog W .any base t v := hval0
  have hW' := hW
  obtain ⟨p, q, hA0, hV, rfl, hfz, hnd⟩ := hW
  have hA : DataW.TrodAll enc Try.prog W 0 (fun _ => true) true Try.f15.params.toList args.toList ds p := hA0
  rw [Try.params15] at hA hval hsz
  obtain ⟨v0, vs0, d0, ds0, p0, q0, hargs, rfl, rfl, h0, r0⟩ := trodAll_cons hA
  obtain ⟨v1, vs1, d1, ds1, p1, q1, rfl, rfl, rfl, h1, r1⟩ := trodAll_cons r0
  obtain ⟨v2, vs2, d2, ds2, p2, q2, rfl, rfl, rfl, h2, r2⟩ := trodAll_cons r1
  obtain ⟨rfl, rfl, rfl⟩ := trodAll_nil r2
  obtain rfl : args = #[v0, v1, v2] := by cases args; simp_all
  obtain ⟨rfl, rfl⟩ := trodVars_none hV
  have hr : reachBytes = R := by decide
  obtain ⟨a0, rfl, rfl, rfl, y0⟩ := open_string Try.underlying9 (hval 0 9 v0 rfl rfl) h0
  have w0 : a0.size ≤ 140737488351232 := by
    have z := sized_string hsz (j := 0) (t := 9) rfl rfl
    rw [Array.length_toList] at z
    exact z
  rw [List.all_eq_true] at hsz
  have hbs : ∀ m, m ∈ DataW.weightsEach Try.prog [9, 34, 44] [_, d1, d2] → m ≤ R := fun m hm => by
    have := of_decide_eq_true (hsz m hm)
    rw [hr] at this
    exact this
  have b1 : ∀ m ∈ d1.weights Try.prog 34, m ≤ R := fun m hm => hbs m (mem_weightsEach (i := 1) rfl rfl hm)
  have b2 : ∀ m ∈ d2.weights Try.prog 44, m ≤ R := fun m hm => hbs m (mem_weightsEach (i := 2) rfl rfl hm)
  obtain ⟨a1, len1, cap1, rfl⟩ := okWide_slice Try.underlying34 (hval 1 34 v1 rfl rfl)
  obtain ⟨a2, len2, cap2, rfl⟩ := okWide_slice Try.underlying44 (hval 2 44 v2 rfl rfl)
  have k1 := h1
  have k2 := h2
  have lt1 : ∀ x ∈ p1, x.block < W.heap.size := by obtain ⟨m, hm⟩ := k1; exact DataW.trod_lt m _ _ _ hm
  have lt2 : ∀ x ∈ p2, x.block < W.heap.size := by obtain ⟨m, hm⟩ := k2; exact DataW.trod_lt m _ _ _ hm
  obtain ⟨fuel1, hf1⟩ := h1
  obtain ⟨fuel2, hf2⟩ := h2
  obtain ⟨l1, ⟨hl1, ho1⟩, A1, c1, e1, hc1, hr1⟩ := opens_slice (R := R) Try.underlying34 (by kernel_rfl) (of_decide_eq_true (by kernel_rfl)) opensC H _ (bounded_weights Try.prog H R) enc W 0 _ true fuel1 _ _ hf1 b1
  obtain ⟨l2, ⟨hl2, ho2⟩, A2, c2, e2, hc2, hr2⟩ := opens_slice (R := R) Try.underlying44 (by kernel_rfl) (of_decide_eq_true (by kernel_rfl)) opensV H _ (bounded_weights Try.prog H R) enc W 0 _ true fuel2 _ _ hf2 b2
  simp [Value.cells] at e1 e2
  obtain ⟨rfl, rfl, rfl⟩ := e1
  obtain ⟨rfl, rfl, rfl⟩ := e2
  rw [bC] at hl1
  rw [bV] at hl2
  unfold R at hl1 hl2
  clear hA0 hval0
  refine (mapRounds_any a0 _ _ l1 _ _ l2 W w0 (by omega) (by omega) hr1 hc1 hr2 hc2 ho1 ho2).mono fun e W' ⟨he, bel⟩ => ?_
  subst he
  exact ⟨_, rfl, _, _, _, [], _, [], hW', trodAll_mk1 (shut_bool Try.underlying4 _), (trodAll_cons_mk (shut_string Try.underlying9 y0) (trodAll_cons_mk (Below.trod laidOut (by kernel_rfl) (of_decide_eq_true (by kernel_rfl)) k1 bel lt1) (trodAll_cons_mk (Below.trod laidOut (by kernel_rfl) (of_decide_eq_true (by kernel_rfl)) k2 bel lt2) trodAll_mk0))), rfl, bel.frame _, fun h => by cases h⟩
theorem over : Rows.mapRoundsRow.holds Try.pinned (OpenSpec.ofChange Rows.mapRoundsSpec) :=
  OpenClaim.holds_of_wide 15 Try.f15 rfl rfl rfl rfl rfl rfl rfl ⟨rfl, rfl, rfl, rfl, rfl⟩ rfl rfl rfl rfl rfl (by kernel_rfl) Try.func15 (by kernel_rfl)
    (of_decide_eq_true (by kernel_rfl)) (by unfold Func.isWrapper; first | (rw [if_pos (by decide +kernel)]; kernel_rfl) | (rw [if_neg (by decide +kernel)]; exact ⟨rfl, rfl⟩))
    (fun os started H enc _ => lifted os started H enc)
end Go.Proofs.Ytfnjbmpolggdeaa.mapRounds
namespace Go.Proofs.Ytfnjbmpolggdeaa
theorem mapRounds_holds : Rows.MapRoundsSaid := mapRounds.over
end Go.Proofs.Ytfnjbmpolggdeaa
end
#print axioms Go.Proofs.Ytfnjbmpolggdeaa.mapRounds_holds
