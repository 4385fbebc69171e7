/-
  maps.writer.values: types of values as bytes.
-/
import Derived.Test.YtfnjbmpolggdeaaMRGMIdx
namespace Go.Proofs.Ytfnjbmpolggdeaa.MR
open Go.RowKit Go.Proofs.YtfnjbmpolggdeaaW.PrintWords Go.Proofs.YtfnjbmpolggdeaaW.PrintLast Go.Proofs.YtfnjbmpolggdeaaW.PrintMore
attribute [local go_sem] max2_int min2_int max_two min_two max_three min_three max_four min_four
set_option linter.unusedVariables false
set_option linter.unusedSimpArgs false
theorem min1_len {n : Nat} (h : 1 ≤ n) : (if (n : Int) < 1 then (n : Int) else 1) = 1 := if_neg (by omega)
attribute [local go_sem] min1_len
/-- where a pool has a class of a name first; 0: nowhere. -/
def firstC (l1 : List S37) (nm : ByteArray) : Int := 1 + idxF (cloB l1 nm) (l1.drop 1)
def valE (l1 : List S37) (v : S54) (er : Int) : Int :=
  if v.f0 = 7 then (if firstC l1 v.f1 = 0 then failE er 7 else er) else if v.f0 = 8 then (if v.f2 < 0 ∨ v.f2 > 65535 then failE er 17 else er) else if v.f0 > 8 then failE er 17 else er
def valL (l1 : List S37) (v : S54) (bs : List Nat) : List Nat :=
  if v.f0 = 7 then (bs ++ bigB (U64 v.f0) 1) ++ bigB (U64 (firstC l1 v.f1)) 2 else if v.f0 = 8 then (bs ++ bigB (U64 v.f0) 1) ++ bigB (U64 v.f2) 2 else bs ++ bigB (U64 v.f0) 1
def valsS (l1 : List S37) (vs : List S54) (s : List Nat × Int) : List Nat × Int := vs.foldl (fun s v => (valL l1 v s.1, valE l1 v s.2)) s
theorem valL_len (l1 : List S37) (v : S54) (bs : List Nat) : (valL l1 v bs).length ≤ bs.length + 3 := by
  unfold valL
  split
  · simp [bigB_length]
  · split <;> simp [bigB_length]
theorem valsS_snoc (l1 : List S37) (vs : List S54) (k : Nat) (hk : k < vs.length) (s : List Nat × Int) : valsS l1 (vs.take (k + 1)) s = (valL l1 vs[k] (valsS l1 (vs.take k) s).1, valE l1 vs[k] (valsS l1 (vs.take k) s).2) := by
  unfold valsS
  rw [List.take_succ_eq_append_getElem hk, List.foldl_append]; rfl
theorem rdV_at {L : List S54} {k : Nat} (h : k < L.length) : rd_T54 L (k : Int) = L[k] := by
  unfold rd_T54
  rw [List.getD_eq_getElem?_getD, Int.toNat_natCast, List.getElem?_eq_getElem h]; rfl
/-- what holds of the writer after some values. -/
structure VRel (w0 w1 wr : World) (g : Nat) (v v' : Value) (A : Option Addr) (n c : Nat) (s : List Nat × Int) : Prop where
  bw : BW w0.heap.size wr g 92 (mwC A n c s.2) v' s.1
  be : Below w0.heap.size w0 wr
  st : BS w1 g v wr v'
def ValsPost (w0 w : World) (g : Nat) (v : Value) (A : Option Addr) (n c : Nat) (s : List Nat × Int) (e : Ending) (w' : World) : Prop :=
  e = .returned (.tuple #[]) ∧ ∃ v', VRel w0 w w' g v v' A n c s
theorem BS.old_ne {w wr : World} {g q : Nat} {v v' : Value} (h : BS w g v wr v') (hq : q < w.heap.size) (hv : v.ownBlock ≠ some q) : v'.ownBlock ≠ some q := by
  rcases h.2 with e | ⟨b, e, hb⟩
  · rw [e]; exact hv
  · rw [e]; intro he; injection he with he; omega

/-- 'p[min(1, len(p)):]', of a pool that is not empty. -/
theorem cutC (A : Option Addr) (c : Nat) (l1 : List S37) (hc : l1.length ≤ c) (hn : 1 ≤ l1.length) : ∃ A' : Option Addr,
    (∀ W : World, (Instr.slice 34 (.slice A l1.length c) (some (.int .i64 1)) none none).run Try.prog W = .ok (.slice A' (l1.drop 1).length (c - 1)) W) ∧
    ∀ W : World, Kd.C k37 W A l1.length l1 → Kd.C k37 W A' (l1.drop 1).length (l1.drop 1) := by
  obtain ⟨i, hi, hz0, hz1, hz2⟩ := info_parts info37
  have hlen : l1.length - 1 = (l1.drop 1).length := by rw [List.length_drop]
  refine ⟨if c = 1 then A else A.map (·.add (1 * 5)), fun W => ?_, fun W h => ?_⟩
  · have := cut_from 34 37 .i64 Try.underlying34 hi 5 hz1 A l1.length c 1 (by omega) (by omega) W
    rw [show (1 : Int).toNat = 1 from rfl, hlen] at this
    exact this
  · exact Kd.C_drop (k := k37) h (m := 1) hn hc
theorem cutN (A : Option Addr) (c : Nat) : ∃ A' : Option Addr,
    (∀ W : World, (Instr.slice 34 (.slice A 0 c) (some (.int .i64 0)) none none).run Try.prog W = .ok (.slice A' 0 c) W) := by
  obtain ⟨i, hi, hz0, hz1, hz2⟩ := info_parts info37
  exact ⟨_, fun W => cut_from 34 37 .i64 Try.underlying34 hi 5 hz1 A 0 c 0 (by omega) (by omega) W⟩
theorem C_none (A : Option Addr) (W : World) : Kd.C k37 W A 0 ([] : List S37) := ⟨rfl, by omega, fun h => absurd h (Nat.lt_irrefl 0)⟩
theorem VRel.mk' {w0 w1 wr : World} {g : Nat} {v v' : Value} {A : Option Addr} {n c : Nat} {s : List Nat × Int} {l : List Nat} {e : Int} (hs : s = (l, e)) (bw : BW w0.heap.size wr g 92 (mwC A n c e) v' l) (be : Below w0.heap.size w0 wr) (st : BS w1 g v wr v') : VRel w0 w1 wr g v v' A n c s := by
  subst hs; exact ⟨bw, be, st⟩
theorem vals_len {l1 : List S37} {e : S54} {t s1 : List Nat × Int} {z : Int} {m k : Nat} (h : t = (valL l1 e s1.1, z)) (hl : s1.1.length ≤ m + 3 * k) : t.1.length ≤ m + 3 * (k + 1) := by
  subst h
  have := valL_len l1 e s1.1
  show (valL l1 e s1.1).length ≤ _
  omega

theorem idx_any2 (A0 : Option Addr) (c0 n : Nat) {L : List S37} (hnl : L.length = n) (A : Option Addr) (c1 : Nat) (l1 : List S37) (nm : ByteArray) (wb g vb : Nat) (w : World) (hL : Kd.C k37 w A0 L.length L) (hc0 : L.length ≤ c0) (hl : L.length ≤ 4611686018427387904)
    (hr : Kd.C k37 w A l1.length l1) (hc : l1.length ≤ c1) (h3 : ∀ c ∈ L, 0 ≤ c.f3 ∧ c.f3 < 65536)
    (hwb : w.cell? ⟨wb, 0, none⟩ = some (.pointer (some ⟨g, 0, none⟩))) (hp : w.cell? ⟨g, 1, none⟩ = some (.slice A l1.length c1)) (hn : w.cell? ⟨vb, 1, none⟩ = some (.string nm)) :
    Calls Try.prog 137 #[.slice A0 n c0, .func (.func 138) #[] #[.pointer (some ⟨wb, 0, none⟩), .pointer (some ⟨vb, 0, none⟩)]] w fun e w' => e = .returned (.int .i64 (idxF (cloB l1 nm) L)) ∧ Below w.heap.size w w' := by
  subst hnl
  exact idx_any A0 c0 L A c1 l1 nm wb g vb w hL hc0 hl hr hc h3 hwb hp hn

set_option maxHeartbeats 8000000 in
set_option maxRecDepth 100000 in
theorem values_ne (w0 w : World) (g : Nat) (A : Option Addr) (c : Nat) (l1 : List S37) (hn1 : 1 ≤ l1.length) (v : Value) (s : List Nat × Int) (A3 : Option Addr) (c3 : Nat) (vs : List S54)
    (hW : BW w0.heap.size w g 92 (mwC A l1.length c s.2) v s.1) (hB : Below w0.heap.size w0 w) (hr : Kd.C k37 w0 A l1.length l1) (hc : l1.length ≤ c) (hll : l1.length ≤ 140737488355328) (h3 : ∀ x ∈ l1, 0 ≤ x.f3 ∧ x.f3 < 65536)
    (hv : Kd.C k54 w0 A3 vs.length vs) (hc3 : vs.length ≤ c3) (ht : ∀ x ∈ vs, 0 ≤ x.f0 ∧ x.f0 < 256) (hlen : s.1.length + 3 * vs.length + 8 ≤ 140737488355328) :
    Calls Try.prog 110 #[.pointer (some ⟨g, 0, none⟩), .slice A3 vs.length c3] w (ValsPost w0 w g v A l1.length c (valsS l1 vs s)) := by
  have hvl : vs.length ≤ 140737488355328 := by omega
  have HW := Aside0.mk hW
  have HB := Aside0.mk hB
  have HRP := Aside0.mk hr
  have HC := Aside0.mk hc
  have HLL := Aside0.mk hll
  have H3 := Aside0.mk h3
  have HV := Aside0.mk hv
  have HC3 := Aside0.mk hc3
  have HT := Aside0.mk ht
  have HLEN := Aside0.mk hlen
  have HN1 := Aside0.mk hn1
  have HGW := Aside0.mk hW.lt
  have HVN := Aside0.mk (show v.ownBlock ≠ some w.heap.size from fun e => by have := (hW.2.2.ge _ e).2; omega)
  clear hW hB hr hc hll h3 hv hc3 ht hlen hn1
  go_enter Try.func110, Try.ntmps110
  go_wp2_with fail
  go_loopw [9] (fun i wr => ∃ (k : Nat) (v1 : Value), k ≤ vs.length ∧ i = .int .i64 k ∧ Aside0 (VRel w0 (w.alloc (.cells #[.pointer (some ⟨g, 0, none⟩)] 90)) wr g v v1 A l1.length c (valsS l1 (vs.take k) s)) ∧ Aside0 ((valsS l1 (vs.take k) s).1.length ≤ s.1.length + 3 * k) ∧ wr.cell? ⟨w.heap.size, 0, none⟩ = some (.pointer (some ⟨g, 0, none⟩))) (fun i _ => vs.length - (intOf i).toNat)
  case atStart => exact ⟨0, v, by omega, rfl, ⟨⟨HW.out.below (below_alloc (Below.refl _ _) _), below_then HB.out HB.out.size (below_alloc (Below.refl _ _) _), BS.refl _ _ _⟩⟩, ⟨by simp [valsS]⟩, by go_simp⟩
  case round =>
    obtain ⟨k, v1, hk, rfl, HR, HLN, hbox⟩ := hrel
    by_cases hlt : k < vs.length
    · have HSN := Aside0.mk (valsS_snoc l1 vs k hlt s)
      generalize valsS l1 (vs.take k) s = s1 at *
      obtain ⟨ad0, e0, x0, x1, x2⟩ := at_T54 HV.out (k : Int) (by omega) (by omega)
      subst e0
      rw [rdV_at hlt] at x0 x1 x2
      simp only [Int.toNat_natCast] at x0 x1 x2
      have y0 := pw_cell_below HR.out.be x0
      have y1 := pw_cell_below HR.out.be x1
      have y2 := pw_cell_below HR.out.be x2
      have HTK := Aside0.mk (HT.out _ (List.getElem_mem hlt))
      have hw0 : w.heap.size < wr.heap.size := by have h_ := HR.out.st.1.1; simp at h_; omega
      have HG := Aside0.mk (And.intro (show wr.heap.size ≠ g by have := HR.out.bw.lt; omega) (show v1.ownBlock ≠ some wr.heap.size from fun e => by have := (HR.out.bw.2.2.ge _ e).2; omega))
      have HG0 := Aside0.mk (And.intro (show w.heap.size ≠ g by have := HGW.out; omega) (BS.old_ne HR.out.st (q := w.heap.size) (by simp) HVN.out))
      have HWR := Aside0.mk hw0
      have HLT := Aside0.mk hlt
      clear x0 x1 x2 hw0
      have HS1 : Aside0 (s1.1.length + 3 + 8 ≤ 140737488355328) := ⟨by have := HLN.out; have := HLEN.out; omega⟩
      generalize vs[k] = e at *
      have hbel := below_alloc (Below.refl wr.heap.size wr) (.cells #[.int .u8 e.f0, .string e.f1, .int .i64 e.f2] 54)
      have hbox2 := pw_cell_below hbel hbox
      have HBEL := Aside0.mk hbel
      have HBE := Aside0.mk (below_then HR.out.be HR.out.be.size hbel)
      have HBW := Aside0.mk (HR.out.bw.below hbel)
      clear hbel hbox
      have h0 := HTK.out.1
      have h1 := HTK.out.2
      by_cases c7 : e.f0 = 7
      · have b7 : (e.f0 == 7) = true := beq_iff_eq.2 c7
        have HN7 := Aside0.mk c7
        clear c7
        by_cases hc1 : c = 1
        · subst hc1
          go_wp2_with fail
          refine (mapNum_any w0 _ g A l1.length 1 s1.2 v1 s1.1 _ _ 1 rfl (by decide) HBW.out HBE.out (by have := HS1.out; omega)).mono ?_
          rintro e2 w2 ⟨rfl, hb2, v2, hw2, hs2⟩
          have k0 := hs2.cell hbox2 HG0.out.1 HG0.out.2
          have k1 := hs2.cell (a := ⟨wr.heap.size, 0, none⟩) (u := .int .u8 e.f0) (by go_simp) HG.out.1 HG.out.2
          have k2 := hs2.cell (a := ⟨wr.heap.size, 1, none⟩) (u := .string e.f1) (by go_simp) HG.out.1 HG.out.2
          have k3 := hs2.cell (a := ⟨wr.heap.size, 2, none⟩) (u := .int .i64 e.f2) (by go_simp) HG.out.1 HG.out.2
          have HB2 := Aside0.mk hb2
          have HW2 := Aside0.mk hw2
          have HN2 := Aside0.mk (And.intro (BS.old_ne hs2 (q := w.heap.size) (by have := HWR.out; simp; omega) HG0.out.2) (BS.old_ne hs2 (q := wr.heap.size) (by simp) HG.out.2))
          have HS2 := Aside0.mk (HR.out.st.trans ((BS.below HBEL.out).trans hs2))
          have HL2 : Aside0 ((s1.1 ++ bigB (U64 e.f0) 1).length + 2 + 8 ≤ 140737488355328) := ⟨by rw [List.length_append, bigB_length]; have := HS1.out; omega⟩
          clear hb2 hw2 hs2 hbox2
          have hA' : ∀ W : World, Kd.C k37 W A l1.length l1 → Kd.C k37 W (A) (l1.drop 1).length (l1.drop 1) := fun W h => by
            have := Kd.C_drop (k := k37) h (m := 1) HN1.out HC.out
            simpa using this
          obtain ⟨ix, hix, hi1, hi2⟩ : ∃ ix, idxF (cloB l1 e.f1) (l1.drop 1) = ix ∧ -1 ≤ ix ∧ ix < 140737488355328 := ⟨_, rfl, (idxF_range _ _).1, by have := (idxF_range (cloB l1 e.f1) (l1.drop 1)).2; have := HLL.out; simp at *; omega⟩
          have HIX := Aside0.mk hix
          have HA' := Aside0.mk hA'
          have p1 : w2.cell? ⟨g, 1, none⟩ = some (.slice A l1.length 1) := blk_cell HW2.out.1 1
          have hm5 : (1 : Int) ≤ (l1.length : Int) := by have := HN1.out; omega
          have hm6 : ¬ ((l1.length : Int) < 1) := by have := HN1.out; omega
          have hm7 : 1 ≤ l1.length := by have := HN1.out; omega
          have hm8 : (l1.length : Int) ≤ (1 : Int) := by have := HC.out; omega
          have hwr : IntKind.i64.wrap (1 + ix) = 1 + ix := by rw [IntKind.wrap_i64]; omega
          clear hix hA'
          by_cases hz : ix = -1
          · have HE : Aside0 (valE l1 e s1.2 = failE s1.2 7) := ⟨by unfold valE; rw [if_pos HN7.out, if_pos (by unfold firstC; rw [HIX.out]; omega)]⟩
            have HL : Aside0 (valL l1 e s1.1 = (s1.1 ++ bigB (U64 e.f0) 1) ++ bigB (U64 (1 + ix)) 2) := ⟨by unfold valL; rw [if_pos HN7.out]; unfold firstC; rw [HIX.out]⟩
            have bz : ((1 + ix : Int) == 0) = true := beq_iff_eq.2 (by omega)
            have HZ := Aside0.mk hz
            clear hz
            go_wp2_with fail
            go_region_held3 (fun w' => w'.cell? ⟨w.heap.size, 0, none⟩ = some (.pointer (some ⟨g, 0, none⟩)) ∧ w'.cell? ⟨g, 1, none⟩ = some (.slice A l1.length 1)) (first | exact ⟨k0, p1⟩ | exact ⟨pw_cell_below (below_drew0 (by assumption)) k0, pw_cell_below (below_drew0 (by assumption)) p1⟩) ((go_at_call 137; refine (idx_any2 _ _ _ (L := l1.drop 1) List.length_drop A 1 l1 e.f1 w.heap.size g wr.heap.size _ (HA'.out _ (Kd.C_below HRP.out (pw_below_drewN HB2.out 1))) (by have := HC.out; simp; omega) (by have := HLL.out; simp; omega) (Kd.C_below HRP.out (pw_below_drewN HB2.out 1)) HC.out (fun x hx => H3.out x (List.mem_of_mem_drop hx)) k0 p1 k2).mono ?_; rintro e3 w3 ⟨rfl, hbx⟩; rw [HIX.out]))
            all_goals (
              have hb3 := below_drew0 hbx
              have q0 := pw_cell_below hb3 k0
              have HB3 := Aside0.mk (below_then HB2.out HB2.out.size hb3)
              have HW3 := Aside0.mk (HW2.out.below hb3)
              have HS3 := Aside0.mk (HS2.out.trans (BS.below hb3))
              clear hb3 hbx p1 k1 k2 k3 k0
              go_wp2_with fail
              refine (mapFail_any w0 _ g A l1.length 1 s1.2 v2 (s1.1 ++ bigB (U64 e.f0) 1) 7 HW3.out HB3.out).mono ?_
              rintro e4 w4 ⟨rfl, hb4, hw4, hs4⟩
              have m40 := hs4.cell q0 HG0.out.1 HN2.out.1
              have HB4 := Aside0.mk hb4
              have HW4 := Aside0.mk hw4
              have HS4 := Aside0.mk (HS3.out.trans hs4)
              clear hb4 hw4 hs4
              go_wp2_with fail
              refine (mapNum_any w0 _ g A l1.length 1 (failE s1.2 7) v2 (s1.1 ++ bigB (U64 e.f0) 1) (1 + ix) _ 2 rfl (by decide) HW4.out HB4.out (by have := HL2.out; omega)).mono ?_
              rintro e5 w5 ⟨rfl, hb5, v5, hw5, hs5⟩
              have n50 := hs5.cell m40 HG0.out.1 HN2.out.1
              have HB5 := Aside0.mk hb5
              have HW5 := Aside0.mk hw5
              have HS5 := Aside0.mk (HS4.out.trans hs5)
              clear hb5 hw5 hs5
              go_wp2
              go_roundw
              case rel => exact ⟨k + 1, v5, by have := HLT.out; omega, by go_num, ⟨VRel.mk' (HSN.out.trans (by rw [HL.out, HE.out])) HW5.out HB5.out HS5.out⟩, ⟨vals_len HSN.out HLN.out⟩, n50⟩
              case measure => have := HLT.out; simp [intOf]; omega)
          · have HE : Aside0 (valE l1 e s1.2 = s1.2) := ⟨by unfold valE; rw [if_pos HN7.out, if_neg (by unfold firstC; rw [HIX.out]; omega)]⟩
            have HL : Aside0 (valL l1 e s1.1 = (s1.1 ++ bigB (U64 e.f0) 1) ++ bigB (U64 (1 + ix)) 2) := ⟨by unfold valL; rw [if_pos HN7.out]; unfold firstC; rw [HIX.out]⟩
            have bz : ((1 + ix : Int) == 0) = false := beq_eq_false_iff_ne.2 (by omega)
            clear hz
            go_wp2_with fail
            go_region_held3 (fun w' => w'.cell? ⟨w.heap.size, 0, none⟩ = some (.pointer (some ⟨g, 0, none⟩)) ∧ w'.cell? ⟨g, 1, none⟩ = some (.slice A l1.length 1)) (first | exact ⟨k0, p1⟩ | exact ⟨pw_cell_below (below_drew0 (by assumption)) k0, pw_cell_below (below_drew0 (by assumption)) p1⟩) ((go_at_call 137; refine (idx_any2 _ _ _ (L := l1.drop 1) List.length_drop A 1 l1 e.f1 w.heap.size g wr.heap.size _ (HA'.out _ (Kd.C_below HRP.out (pw_below_drewN HB2.out 1))) (by have := HC.out; simp; omega) (by have := HLL.out; simp; omega) (Kd.C_below HRP.out (pw_below_drewN HB2.out 1)) HC.out (fun x hx => H3.out x (List.mem_of_mem_drop hx)) k0 p1 k2).mono ?_; rintro e3 w3 ⟨rfl, hbx⟩; rw [HIX.out]))
            all_goals (
              have hb3 := below_drew0 hbx
              have q0 := pw_cell_below hb3 k0
              have HB3 := Aside0.mk (below_then HB2.out HB2.out.size hb3)
              have HW3 := Aside0.mk (HW2.out.below hb3)
              have HS3 := Aside0.mk (HS2.out.trans (BS.below hb3))
              clear hb3 hbx p1 k1 k2 k3 k0
              go_wp2_with fail
              refine (mapNum_any w0 _ g A l1.length 1 s1.2 v2 (s1.1 ++ bigB (U64 e.f0) 1) (1 + ix) _ 2 rfl (by decide) HW3.out HB3.out (by have := HL2.out; omega)).mono ?_
              rintro e4 w4 ⟨rfl, hb4, v4, hw4, hs4⟩
              have n40 := hs4.cell q0 HG0.out.1 HN2.out.1
              have HB4 := Aside0.mk hb4
              have HW4 := Aside0.mk hw4
              have HS4 := Aside0.mk (HS3.out.trans hs4)
              clear hb4 hw4 hs4
              go_wp2
              go_roundw
              case rel => exact ⟨k + 1, v4, by have := HLT.out; omega, by go_num, ⟨VRel.mk' (HSN.out.trans (by rw [HL.out, HE.out])) HW4.out HB4.out HS4.out⟩, ⟨vals_len HSN.out HLN.out⟩, n40⟩
              case measure => have := HLT.out; simp [intOf]; omega)
        · have HC1 := Aside0.mk hc1
          go_wp2_with fail
          refine (mapNum_any w0 _ g A l1.length c s1.2 v1 s1.1 _ _ 1 rfl (by decide) HBW.out HBE.out (by have := HS1.out; omega)).mono ?_
          rintro e2 w2 ⟨rfl, hb2, v2, hw2, hs2⟩
          have k0 := hs2.cell hbox2 HG0.out.1 HG0.out.2
          have k1 := hs2.cell (a := ⟨wr.heap.size, 0, none⟩) (u := .int .u8 e.f0) (by go_simp) HG.out.1 HG.out.2
          have k2 := hs2.cell (a := ⟨wr.heap.size, 1, none⟩) (u := .string e.f1) (by go_simp) HG.out.1 HG.out.2
          have k3 := hs2.cell (a := ⟨wr.heap.size, 2, none⟩) (u := .int .i64 e.f2) (by go_simp) HG.out.1 HG.out.2
          have HB2 := Aside0.mk hb2
          have HW2 := Aside0.mk hw2
          have HN2 := Aside0.mk (And.intro (BS.old_ne hs2 (q := w.heap.size) (by have := HWR.out; simp; omega) HG0.out.2) (BS.old_ne hs2 (q := wr.heap.size) (by simp) HG.out.2))
          have HS2 := Aside0.mk (HR.out.st.trans ((BS.below HBEL.out).trans hs2))
          have HL2 : Aside0 ((s1.1 ++ bigB (U64 e.f0) 1).length + 2 + 8 ≤ 140737488355328) := ⟨by rw [List.length_append, bigB_length]; have := HS1.out; omega⟩
          clear hb2 hw2 hs2 hbox2
          have hA' : ∀ W : World, Kd.C k37 W A l1.length l1 → Kd.C k37 W (A.map (·.add (1 * 5))) (l1.drop 1).length (l1.drop 1) := fun W h => by
            have := Kd.C_drop (k := k37) h (m := 1) HN1.out HC.out
            rw [if_neg HC1.out] at this; exact this
          obtain ⟨ix, hix, hi1, hi2⟩ : ∃ ix, idxF (cloB l1 e.f1) (l1.drop 1) = ix ∧ -1 ≤ ix ∧ ix < 140737488355328 := ⟨_, rfl, (idxF_range _ _).1, by have := (idxF_range (cloB l1 e.f1) (l1.drop 1)).2; have := HLL.out; simp at *; omega⟩
          have HIX := Aside0.mk hix
          have HA' := Aside0.mk hA'
          have p1 : w2.cell? ⟨g, 1, none⟩ = some (.slice A l1.length c) := blk_cell HW2.out.1 1
          have hm5 : (1 : Int) ≤ (l1.length : Int) := by have := HN1.out; omega
          have hm6 : ¬ ((l1.length : Int) < 1) := by have := HN1.out; omega
          have hm7 : 1 ≤ l1.length := by have := HN1.out; omega
          have hm8 : (l1.length : Int) ≤ (c : Int) := by have := HC.out; omega
          have hwr : IntKind.i64.wrap (1 + ix) = 1 + ix := by rw [IntKind.wrap_i64]; omega
          clear hix hA'
          by_cases hz : ix = -1
          · have HE : Aside0 (valE l1 e s1.2 = failE s1.2 7) := ⟨by unfold valE; rw [if_pos HN7.out, if_pos (by unfold firstC; rw [HIX.out]; omega)]⟩
            have HL : Aside0 (valL l1 e s1.1 = (s1.1 ++ bigB (U64 e.f0) 1) ++ bigB (U64 (1 + ix)) 2) := ⟨by unfold valL; rw [if_pos HN7.out]; unfold firstC; rw [HIX.out]⟩
            have bz : ((1 + ix : Int) == 0) = true := beq_iff_eq.2 (by omega)
            have HZ := Aside0.mk hz
            clear hz
            go_wp2_with fail
            go_region_held3 (fun w' => w'.cell? ⟨w.heap.size, 0, none⟩ = some (.pointer (some ⟨g, 0, none⟩)) ∧ w'.cell? ⟨g, 1, none⟩ = some (.slice A l1.length c)) (first | exact ⟨k0, p1⟩ | exact ⟨pw_cell_below (below_drew0 (by assumption)) k0, pw_cell_below (below_drew0 (by assumption)) p1⟩) ((go_at_call 137; refine (idx_any2 _ _ _ (L := l1.drop 1) List.length_drop A c l1 e.f1 w.heap.size g wr.heap.size _ (HA'.out _ (Kd.C_below HRP.out (pw_below_drewN HB2.out 1))) (by have := HC.out; simp; omega) (by have := HLL.out; simp; omega) (Kd.C_below HRP.out (pw_below_drewN HB2.out 1)) HC.out (fun x hx => H3.out x (List.mem_of_mem_drop hx)) k0 p1 k2).mono ?_; rintro e3 w3 ⟨rfl, hbx⟩; rw [HIX.out]))
            all_goals (
              have hb3 := below_drew0 hbx
              have q0 := pw_cell_below hb3 k0
              have HB3 := Aside0.mk (below_then HB2.out HB2.out.size hb3)
              have HW3 := Aside0.mk (HW2.out.below hb3)
              have HS3 := Aside0.mk (HS2.out.trans (BS.below hb3))
              clear hb3 hbx p1 k1 k2 k3 k0
              go_wp2_with fail
              refine (mapFail_any w0 _ g A l1.length c s1.2 v2 (s1.1 ++ bigB (U64 e.f0) 1) 7 HW3.out HB3.out).mono ?_
              rintro e4 w4 ⟨rfl, hb4, hw4, hs4⟩
              have m40 := hs4.cell q0 HG0.out.1 HN2.out.1
              have HB4 := Aside0.mk hb4
              have HW4 := Aside0.mk hw4
              have HS4 := Aside0.mk (HS3.out.trans hs4)
              clear hb4 hw4 hs4
              go_wp2_with fail
              refine (mapNum_any w0 _ g A l1.length c (failE s1.2 7) v2 (s1.1 ++ bigB (U64 e.f0) 1) (1 + ix) _ 2 rfl (by decide) HW4.out HB4.out (by have := HL2.out; omega)).mono ?_
              rintro e5 w5 ⟨rfl, hb5, v5, hw5, hs5⟩
              have n50 := hs5.cell m40 HG0.out.1 HN2.out.1
              have HB5 := Aside0.mk hb5
              have HW5 := Aside0.mk hw5
              have HS5 := Aside0.mk (HS4.out.trans hs5)
              clear hb5 hw5 hs5
              go_wp2
              go_roundw
              case rel => exact ⟨k + 1, v5, by have := HLT.out; omega, by go_num, ⟨VRel.mk' (HSN.out.trans (by rw [HL.out, HE.out])) HW5.out HB5.out HS5.out⟩, ⟨vals_len HSN.out HLN.out⟩, n50⟩
              case measure => have := HLT.out; simp [intOf]; omega)
          · have HE : Aside0 (valE l1 e s1.2 = s1.2) := ⟨by unfold valE; rw [if_pos HN7.out, if_neg (by unfold firstC; rw [HIX.out]; omega)]⟩
            have HL : Aside0 (valL l1 e s1.1 = (s1.1 ++ bigB (U64 e.f0) 1) ++ bigB (U64 (1 + ix)) 2) := ⟨by unfold valL; rw [if_pos HN7.out]; unfold firstC; rw [HIX.out]⟩
            have bz : ((1 + ix : Int) == 0) = false := beq_eq_false_iff_ne.2 (by omega)
            clear hz
            go_wp2_with fail
            go_region_held3 (fun w' => w'.cell? ⟨w.heap.size, 0, none⟩ = some (.pointer (some ⟨g, 0, none⟩)) ∧ w'.cell? ⟨g, 1, none⟩ = some (.slice A l1.length c)) (first | exact ⟨k0, p1⟩ | exact ⟨pw_cell_below (below_drew0 (by assumption)) k0, pw_cell_below (below_drew0 (by assumption)) p1⟩) ((go_at_call 137; refine (idx_any2 _ _ _ (L := l1.drop 1) List.length_drop A c l1 e.f1 w.heap.size g wr.heap.size _ (HA'.out _ (Kd.C_below HRP.out (pw_below_drewN HB2.out 1))) (by have := HC.out; simp; omega) (by have := HLL.out; simp; omega) (Kd.C_below HRP.out (pw_below_drewN HB2.out 1)) HC.out (fun x hx => H3.out x (List.mem_of_mem_drop hx)) k0 p1 k2).mono ?_; rintro e3 w3 ⟨rfl, hbx⟩; rw [HIX.out]))
            all_goals (
              have hb3 := below_drew0 hbx
              have q0 := pw_cell_below hb3 k0
              have HB3 := Aside0.mk (below_then HB2.out HB2.out.size hb3)
              have HW3 := Aside0.mk (HW2.out.below hb3)
              have HS3 := Aside0.mk (HS2.out.trans (BS.below hb3))
              clear hb3 hbx p1 k1 k2 k3 k0
              go_wp2_with fail
              refine (mapNum_any w0 _ g A l1.length c s1.2 v2 (s1.1 ++ bigB (U64 e.f0) 1) (1 + ix) _ 2 rfl (by decide) HW3.out HB3.out (by have := HL2.out; omega)).mono ?_
              rintro e4 w4 ⟨rfl, hb4, v4, hw4, hs4⟩
              have n40 := hs4.cell q0 HG0.out.1 HN2.out.1
              have HB4 := Aside0.mk hb4
              have HW4 := Aside0.mk hw4
              have HS4 := Aside0.mk (HS3.out.trans hs4)
              clear hb4 hw4 hs4
              go_wp2
              go_roundw
              case rel => exact ⟨k + 1, v4, by have := HLT.out; omega, by go_num, ⟨VRel.mk' (HSN.out.trans (by rw [HL.out, HE.out])) HW4.out HB4.out HS4.out⟩, ⟨vals_len HSN.out HLN.out⟩, n40⟩
              case measure => have := HLT.out; simp [intOf]; omega)
      · have b7 : (e.f0 == 7) = false := beq_eq_false_iff_ne.2 c7
        have HN7 := Aside0.mk c7
        clear c7
        by_cases c8 : e.f0 = 8
        · have b8 : (e.f0 == 8) = true := beq_iff_eq.2 c8
          have HN8 := Aside0.mk c8
          clear c8
          by_cases ca : e.f2 < 0
          · have HE : Aside0 (valE l1 e s1.2 = failE s1.2 17) := ⟨by unfold valE; rw [if_neg HN7.out, if_pos HN8.out, if_pos (.inl ca)]⟩
            have HL : Aside0 (valL l1 e s1.1 = (s1.1 ++ bigB (U64 e.f0) 1) ++ bigB (U64 e.f2) 2) := ⟨by unfold valL; rw [if_neg HN7.out, if_pos HN8.out]⟩
            have ba : decide (e.f2 < 0) = true := decide_eq_true ca
            clear ca
            go_wp2_with fail
            refine (mapNum_any w0 _ g A l1.length c s1.2 v1 s1.1 _ _ 1 rfl (by decide) HBW.out HBE.out (by have := HS1.out; omega)).mono ?_
            rintro e2 w2 ⟨rfl, hb2, v2, hw2, hs2⟩
            have k0 := hs2.cell hbox2 HG0.out.1 HG0.out.2
            have k1 := hs2.cell (a := ⟨wr.heap.size, 0, none⟩) (u := .int .u8 e.f0) (by go_simp) HG.out.1 HG.out.2
            have k2 := hs2.cell (a := ⟨wr.heap.size, 1, none⟩) (u := .string e.f1) (by go_simp) HG.out.1 HG.out.2
            have k3 := hs2.cell (a := ⟨wr.heap.size, 2, none⟩) (u := .int .i64 e.f2) (by go_simp) HG.out.1 HG.out.2
            have HB2 := Aside0.mk hb2
            have HW2 := Aside0.mk hw2
            have HN2 := Aside0.mk (And.intro (BS.old_ne hs2 (q := w.heap.size) (by have := HWR.out; simp; omega) HG0.out.2) (BS.old_ne hs2 (q := wr.heap.size) (by simp) HG.out.2))
            have HS2 := Aside0.mk (HR.out.st.trans ((BS.below HBEL.out).trans hs2))
            have HL2 : Aside0 ((s1.1 ++ bigB (U64 e.f0) 1).length + 2 + 8 ≤ 140737488355328) := ⟨by rw [List.length_append, bigB_length]; have := HS1.out; omega⟩
            clear hb2 hw2 hs2 hbox2
            go_wp2_with fail
            refine (mapFail_any w0 _ g A l1.length c s1.2 v2 (s1.1 ++ bigB (U64 e.f0) 1) 17 HW2.out HB2.out).mono ?_
            rintro e3 w3 ⟨rfl, hb3, hw3, hs3⟩
            have m30 := hs3.cell k0 HG0.out.1 HN2.out.1
            have m33 := hs3.cell k3 HG.out.1 HN2.out.2
            have HB3 := Aside0.mk hb3
            have HW3 := Aside0.mk hw3
            have HS3 := Aside0.mk (HS2.out.trans hs3)
            clear hb3 hw3 hs3
            go_wp2_with fail
            refine (mapNum_any w0 _ g A l1.length c (failE s1.2 17) v2 (s1.1 ++ bigB (U64 e.f0) 1) e.f2 _ 2 rfl (by decide) HW3.out HB3.out (by have := HL2.out; omega)).mono ?_
            rintro e4 w4 ⟨rfl, hb4, v4, hw4, hs4⟩
            have n40 := hs4.cell m30 HG0.out.1 HN2.out.1
            have HB4 := Aside0.mk hb4
            have HW4 := Aside0.mk hw4
            have HS4 := Aside0.mk (HS3.out.trans hs4)
            clear hb4 hw4 hs4
            go_wp2
            go_roundw
            case rel => exact ⟨k + 1, v4, by have := HLT.out; omega, by go_num, ⟨VRel.mk' (HSN.out.trans (by rw [HL.out, HE.out])) HW4.out HB4.out HS4.out⟩, ⟨vals_len HSN.out HLN.out⟩, n40⟩
            case measure => have := HLT.out; simp [intOf]; omega
          · by_cases cb : e.f2 > 65535
            · have HE : Aside0 (valE l1 e s1.2 = failE s1.2 17) := ⟨by unfold valE; rw [if_neg HN7.out, if_pos HN8.out, if_pos (.inr cb)]⟩
              have HL : Aside0 (valL l1 e s1.1 = (s1.1 ++ bigB (U64 e.f0) 1) ++ bigB (U64 e.f2) 2) := ⟨by unfold valL; rw [if_neg HN7.out, if_pos HN8.out]⟩
              have ba : decide (e.f2 < 0) = false := decide_eq_false ca
              have bb : decide (e.f2 > 65535) = true := decide_eq_true cb
              clear ca cb
              go_wp2_with fail
              refine (mapNum_any w0 _ g A l1.length c s1.2 v1 s1.1 _ _ 1 rfl (by decide) HBW.out HBE.out (by have := HS1.out; omega)).mono ?_
              rintro e2 w2 ⟨rfl, hb2, v2, hw2, hs2⟩
              have k0 := hs2.cell hbox2 HG0.out.1 HG0.out.2
              have k1 := hs2.cell (a := ⟨wr.heap.size, 0, none⟩) (u := .int .u8 e.f0) (by go_simp) HG.out.1 HG.out.2
              have k2 := hs2.cell (a := ⟨wr.heap.size, 1, none⟩) (u := .string e.f1) (by go_simp) HG.out.1 HG.out.2
              have k3 := hs2.cell (a := ⟨wr.heap.size, 2, none⟩) (u := .int .i64 e.f2) (by go_simp) HG.out.1 HG.out.2
              have HB2 := Aside0.mk hb2
              have HW2 := Aside0.mk hw2
              have HN2 := Aside0.mk (And.intro (BS.old_ne hs2 (q := w.heap.size) (by have := HWR.out; simp; omega) HG0.out.2) (BS.old_ne hs2 (q := wr.heap.size) (by simp) HG.out.2))
              have HS2 := Aside0.mk (HR.out.st.trans ((BS.below HBEL.out).trans hs2))
              have HL2 : Aside0 ((s1.1 ++ bigB (U64 e.f0) 1).length + 2 + 8 ≤ 140737488355328) := ⟨by rw [List.length_append, bigB_length]; have := HS1.out; omega⟩
              clear hb2 hw2 hs2 hbox2
              go_wp2_with fail
              refine (mapFail_any w0 _ g A l1.length c s1.2 v2 (s1.1 ++ bigB (U64 e.f0) 1) 17 HW2.out HB2.out).mono ?_
              rintro e3 w3 ⟨rfl, hb3, hw3, hs3⟩
              have m30 := hs3.cell k0 HG0.out.1 HN2.out.1
              have m33 := hs3.cell k3 HG.out.1 HN2.out.2
              have HB3 := Aside0.mk hb3
              have HW3 := Aside0.mk hw3
              have HS3 := Aside0.mk (HS2.out.trans hs3)
              clear hb3 hw3 hs3
              go_wp2_with fail
              refine (mapNum_any w0 _ g A l1.length c (failE s1.2 17) v2 (s1.1 ++ bigB (U64 e.f0) 1) e.f2 _ 2 rfl (by decide) HW3.out HB3.out (by have := HL2.out; omega)).mono ?_
              rintro e4 w4 ⟨rfl, hb4, v4, hw4, hs4⟩
              have n40 := hs4.cell m30 HG0.out.1 HN2.out.1
              have HB4 := Aside0.mk hb4
              have HW4 := Aside0.mk hw4
              have HS4 := Aside0.mk (HS3.out.trans hs4)
              clear hb4 hw4 hs4
              go_wp2
              go_roundw
              case rel => exact ⟨k + 1, v4, by have := HLT.out; omega, by go_num, ⟨VRel.mk' (HSN.out.trans (by rw [HL.out, HE.out])) HW4.out HB4.out HS4.out⟩, ⟨vals_len HSN.out HLN.out⟩, n40⟩
              case measure => have := HLT.out; simp [intOf]; omega
            · have HE : Aside0 (valE l1 e s1.2 = s1.2) := ⟨by unfold valE; rw [if_neg HN7.out, if_pos HN8.out, if_neg (fun h => h.elim ca cb)]⟩
              have HL : Aside0 (valL l1 e s1.1 = (s1.1 ++ bigB (U64 e.f0) 1) ++ bigB (U64 e.f2) 2) := ⟨by unfold valL; rw [if_neg HN7.out, if_pos HN8.out]⟩
              have ba : decide (e.f2 < 0) = false := decide_eq_false ca
              have bb : decide (e.f2 > 65535) = false := decide_eq_false cb
              clear ca cb
              go_wp2_with fail
              refine (mapNum_any w0 _ g A l1.length c s1.2 v1 s1.1 _ _ 1 rfl (by decide) HBW.out HBE.out (by have := HS1.out; omega)).mono ?_
              rintro e2 w2 ⟨rfl, hb2, v2, hw2, hs2⟩
              have k0 := hs2.cell hbox2 HG0.out.1 HG0.out.2
              have k1 := hs2.cell (a := ⟨wr.heap.size, 0, none⟩) (u := .int .u8 e.f0) (by go_simp) HG.out.1 HG.out.2
              have k2 := hs2.cell (a := ⟨wr.heap.size, 1, none⟩) (u := .string e.f1) (by go_simp) HG.out.1 HG.out.2
              have k3 := hs2.cell (a := ⟨wr.heap.size, 2, none⟩) (u := .int .i64 e.f2) (by go_simp) HG.out.1 HG.out.2
              have HB2 := Aside0.mk hb2
              have HW2 := Aside0.mk hw2
              have HN2 := Aside0.mk (And.intro (BS.old_ne hs2 (q := w.heap.size) (by have := HWR.out; simp; omega) HG0.out.2) (BS.old_ne hs2 (q := wr.heap.size) (by simp) HG.out.2))
              have HS2 := Aside0.mk (HR.out.st.trans ((BS.below HBEL.out).trans hs2))
              have HL2 : Aside0 ((s1.1 ++ bigB (U64 e.f0) 1).length + 2 + 8 ≤ 140737488355328) := ⟨by rw [List.length_append, bigB_length]; have := HS1.out; omega⟩
              clear hb2 hw2 hs2 hbox2
              go_wp2_with fail
              refine (mapNum_any w0 _ g A l1.length c s1.2 v2 (s1.1 ++ bigB (U64 e.f0) 1) e.f2 _ 2 rfl (by decide) HW2.out HB2.out (by have := HL2.out; omega)).mono ?_
              rintro e3 w3 ⟨rfl, hb3, v3, hw3, hs3⟩
              have n30 := hs3.cell k0 HG0.out.1 HN2.out.1
              have HB3 := Aside0.mk hb3
              have HW3 := Aside0.mk hw3
              have HS3 := Aside0.mk (HS2.out.trans hs3)
              clear hb3 hw3 hs3
              go_wp2
              go_roundw
              case rel => exact ⟨k + 1, v3, by have := HLT.out; omega, by go_num, ⟨VRel.mk' (HSN.out.trans (by rw [HL.out, HE.out])) HW3.out HB3.out HS3.out⟩, ⟨vals_len HSN.out HLN.out⟩, n30⟩
              case measure => have := HLT.out; simp [intOf]; omega
        · have b8 : (e.f0 == 8) = false := beq_eq_false_iff_ne.2 c8
          have HN8 := Aside0.mk c8
          clear c8
          by_cases c9 : e.f0 > 8
          · have HE : Aside0 (valE l1 e s1.2 = failE s1.2 17) := ⟨by unfold valE; rw [if_neg HN7.out, if_neg HN8.out, if_pos c9]⟩
            have HL : Aside0 (valL l1 e s1.1 = (s1.1 ++ bigB (U64 e.f0) 1)) := ⟨by unfold valL; rw [if_neg HN7.out, if_neg HN8.out]⟩
            have b9 : decide (e.f0 > 8) = true := decide_eq_true c9
            clear c9
            go_wp2_with fail
            refine (mapNum_any w0 _ g A l1.length c s1.2 v1 s1.1 _ _ 1 rfl (by decide) HBW.out HBE.out (by have := HS1.out; omega)).mono ?_
            rintro e2 w2 ⟨rfl, hb2, v2, hw2, hs2⟩
            have k0 := hs2.cell hbox2 HG0.out.1 HG0.out.2
            have k1 := hs2.cell (a := ⟨wr.heap.size, 0, none⟩) (u := .int .u8 e.f0) (by go_simp) HG.out.1 HG.out.2
            have k2 := hs2.cell (a := ⟨wr.heap.size, 1, none⟩) (u := .string e.f1) (by go_simp) HG.out.1 HG.out.2
            have k3 := hs2.cell (a := ⟨wr.heap.size, 2, none⟩) (u := .int .i64 e.f2) (by go_simp) HG.out.1 HG.out.2
            have HB2 := Aside0.mk hb2
            have HW2 := Aside0.mk hw2
            have HN2 := Aside0.mk (And.intro (BS.old_ne hs2 (q := w.heap.size) (by have := HWR.out; simp; omega) HG0.out.2) (BS.old_ne hs2 (q := wr.heap.size) (by simp) HG.out.2))
            have HS2 := Aside0.mk (HR.out.st.trans ((BS.below HBEL.out).trans hs2))
            have HL2 : Aside0 ((s1.1 ++ bigB (U64 e.f0) 1).length + 2 + 8 ≤ 140737488355328) := ⟨by rw [List.length_append, bigB_length]; have := HS1.out; omega⟩
            clear hb2 hw2 hs2 hbox2
            go_wp2_with fail
            refine (mapFail_any w0 _ g A l1.length c s1.2 v2 (s1.1 ++ bigB (U64 e.f0) 1) 17 HW2.out HB2.out).mono ?_
            rintro e3 w3 ⟨rfl, hb3, hw3, hs3⟩
            have m30 := hs3.cell k0 HG0.out.1 HN2.out.1
            have m33 := hs3.cell k3 HG.out.1 HN2.out.2
            have HB3 := Aside0.mk hb3
            have HW3 := Aside0.mk hw3
            have HS3 := Aside0.mk (HS2.out.trans hs3)
            clear hb3 hw3 hs3
            go_wp2
            go_roundw
            case rel => exact ⟨k + 1, v2, by have := HLT.out; omega, by go_num, ⟨VRel.mk' (HSN.out.trans (by rw [HL.out, HE.out])) HW3.out HB3.out HS3.out⟩, ⟨vals_len HSN.out HLN.out⟩, m30⟩
            case measure => have := HLT.out; simp [intOf]; omega
          · have HE : Aside0 (valE l1 e s1.2 = s1.2) := ⟨by unfold valE; rw [if_neg HN7.out, if_neg HN8.out, if_neg c9]⟩
            have HL : Aside0 (valL l1 e s1.1 = (s1.1 ++ bigB (U64 e.f0) 1)) := ⟨by unfold valL; rw [if_neg HN7.out, if_neg HN8.out]⟩
            have b9 : decide (e.f0 > 8) = false := decide_eq_false c9
            clear c9
            go_wp2_with fail
            refine (mapNum_any w0 _ g A l1.length c s1.2 v1 s1.1 _ _ 1 rfl (by decide) HBW.out HBE.out (by have := HS1.out; omega)).mono ?_
            rintro e2 w2 ⟨rfl, hb2, v2, hw2, hs2⟩
            have k0 := hs2.cell hbox2 HG0.out.1 HG0.out.2
            have k1 := hs2.cell (a := ⟨wr.heap.size, 0, none⟩) (u := .int .u8 e.f0) (by go_simp) HG.out.1 HG.out.2
            have k2 := hs2.cell (a := ⟨wr.heap.size, 1, none⟩) (u := .string e.f1) (by go_simp) HG.out.1 HG.out.2
            have k3 := hs2.cell (a := ⟨wr.heap.size, 2, none⟩) (u := .int .i64 e.f2) (by go_simp) HG.out.1 HG.out.2
            have HB2 := Aside0.mk hb2
            have HW2 := Aside0.mk hw2
            have HN2 := Aside0.mk (And.intro (BS.old_ne hs2 (q := w.heap.size) (by have := HWR.out; simp; omega) HG0.out.2) (BS.old_ne hs2 (q := wr.heap.size) (by simp) HG.out.2))
            have HS2 := Aside0.mk (HR.out.st.trans ((BS.below HBEL.out).trans hs2))
            have HL2 : Aside0 ((s1.1 ++ bigB (U64 e.f0) 1).length + 2 + 8 ≤ 140737488355328) := ⟨by rw [List.length_append, bigB_length]; have := HS1.out; omega⟩
            clear hb2 hw2 hs2 hbox2
            go_wp2
            go_roundw
            case rel => exact ⟨k + 1, v2, by have := HLT.out; omega, by go_num, ⟨VRel.mk' (HSN.out.trans (by rw [HL.out, HE.out])) HW2.out HB2.out HS2.out⟩, ⟨vals_len HSN.out HLN.out⟩, k0⟩
            case measure => have := HLT.out; simp [intOf]; omega
    · obtain rfl : k = vs.length := by omega
      rw [List.take_length] at HR
      go_wp2
      go_end0
      exact ⟨rfl, v1, HR.out.bw, HR.out.be, (BS.below (below_alloc (Below.refl _ _) _)).trans HR.out.st⟩

set_option maxHeartbeats 8000000 in
set_option maxRecDepth 100000 in
theorem values_nil (w0 w : World) (g : Nat) (A : Option Addr) (c : Nat) (v : Value) (s : List Nat × Int) (A3 : Option Addr) (c3 : Nat) (vs : List S54)
    (hW : BW w0.heap.size w g 92 (mwC A 0 c s.2) v s.1) (hB : Below w0.heap.size w0 w) (hr : Kd.C k37 w0 A 0 ([] : List S37)) (hc : 0 ≤ c) (hll : 0 ≤ 140737488355328) (h3 : ∀ x ∈ ([] : List S37), 0 ≤ x.f3 ∧ x.f3 < 65536)
    (hv : Kd.C k54 w0 A3 vs.length vs) (hc3 : vs.length ≤ c3) (ht : ∀ x ∈ vs, 0 ≤ x.f0 ∧ x.f0 < 256) (hlen : s.1.length + 3 * vs.length + 8 ≤ 140737488355328) :
    Calls Try.prog 110 #[.pointer (some ⟨g, 0, none⟩), .slice A3 vs.length c3] w (ValsPost w0 w g v A 0 c (valsS ([] : List S37) vs s)) := by
  have hvl : vs.length ≤ 140737488355328 := by omega
  have HW := Aside0.mk hW
  have HB := Aside0.mk hB
  have HRP := Aside0.mk hr
  have HC := Aside0.mk hc
  have HLL := Aside0.mk hll
  have H3 := Aside0.mk h3
  have HV := Aside0.mk hv
  have HC3 := Aside0.mk hc3
  have HT := Aside0.mk ht
  have HLEN := Aside0.mk hlen
  have HGW := Aside0.mk hW.lt
  have HVN := Aside0.mk (show v.ownBlock ≠ some w.heap.size from fun e => by have := (hW.2.2.ge _ e).2; omega)
  clear hW hB hr hc hll h3 hv hc3 ht hlen
  go_enter Try.func110, Try.ntmps110
  go_wp2_with fail
  go_loopw [9] (fun i wr => ∃ (k : Nat) (v1 : Value), k ≤ vs.length ∧ i = .int .i64 k ∧ Aside0 (VRel w0 (w.alloc (.cells #[.pointer (some ⟨g, 0, none⟩)] 90)) wr g v v1 A 0 c (valsS ([] : List S37) (vs.take k) s)) ∧ Aside0 ((valsS ([] : List S37) (vs.take k) s).1.length ≤ s.1.length + 3 * k) ∧ wr.cell? ⟨w.heap.size, 0, none⟩ = some (.pointer (some ⟨g, 0, none⟩))) (fun i _ => vs.length - (intOf i).toNat)
  case atStart => exact ⟨0, v, by omega, rfl, ⟨⟨HW.out.below (below_alloc (Below.refl _ _) _), below_then HB.out HB.out.size (below_alloc (Below.refl _ _) _), BS.refl _ _ _⟩⟩, ⟨by simp [valsS]⟩, by go_simp⟩
  case round =>
    obtain ⟨k, v1, hk, rfl, HR, HLN, hbox⟩ := hrel
    by_cases hlt : k < vs.length
    · have HSN := Aside0.mk (valsS_snoc ([] : List S37) vs k hlt s)
      generalize valsS ([] : List S37) (vs.take k) s = s1 at *
      obtain ⟨ad0, e0, x0, x1, x2⟩ := at_T54 HV.out (k : Int) (by omega) (by omega)
      subst e0
      rw [rdV_at hlt] at x0 x1 x2
      simp only [Int.toNat_natCast] at x0 x1 x2
      have y0 := pw_cell_below HR.out.be x0
      have y1 := pw_cell_below HR.out.be x1
      have y2 := pw_cell_below HR.out.be x2
      have HTK := Aside0.mk (HT.out _ (List.getElem_mem hlt))
      have hw0 : w.heap.size < wr.heap.size := by have h_ := HR.out.st.1.1; simp at h_; omega
      have HG := Aside0.mk (And.intro (show wr.heap.size ≠ g by have := HR.out.bw.lt; omega) (show v1.ownBlock ≠ some wr.heap.size from fun e => by have := (HR.out.bw.2.2.ge _ e).2; omega))
      have HG0 := Aside0.mk (And.intro (show w.heap.size ≠ g by have := HGW.out; omega) (BS.old_ne HR.out.st (q := w.heap.size) (by simp) HVN.out))
      have HWR := Aside0.mk hw0
      have HLT := Aside0.mk hlt
      clear x0 x1 x2 hw0
      have HS1 : Aside0 (s1.1.length + 3 + 8 ≤ 140737488355328) := ⟨by have := HLN.out; have := HLEN.out; omega⟩
      generalize vs[k] = e at *
      have hbel := below_alloc (Below.refl wr.heap.size wr) (.cells #[.int .u8 e.f0, .string e.f1, .int .i64 e.f2] 54)
      have hbox2 := pw_cell_below hbel hbox
      have HBEL := Aside0.mk hbel
      have HBE := Aside0.mk (below_then HR.out.be HR.out.be.size hbel)
      have HBW := Aside0.mk (HR.out.bw.below hbel)
      clear hbel hbox
      have h0 := HTK.out.1
      have h1 := HTK.out.2
      by_cases c7 : e.f0 = 7
      · have b7 : (e.f0 == 7) = true := beq_iff_eq.2 c7
        have HN7 := Aside0.mk c7
        clear c7
        by_cases hc1 : c = 0
        · subst hc1
          go_wp2_with fail
          refine (mapNum_any w0 _ g A 0 0 s1.2 v1 s1.1 _ _ 1 rfl (by decide) HBW.out HBE.out (by have := HS1.out; omega)).mono ?_
          rintro e2 w2 ⟨rfl, hb2, v2, hw2, hs2⟩
          have k0 := hs2.cell hbox2 HG0.out.1 HG0.out.2
          have k1 := hs2.cell (a := ⟨wr.heap.size, 0, none⟩) (u := .int .u8 e.f0) (by go_simp) HG.out.1 HG.out.2
          have k2 := hs2.cell (a := ⟨wr.heap.size, 1, none⟩) (u := .string e.f1) (by go_simp) HG.out.1 HG.out.2
          have k3 := hs2.cell (a := ⟨wr.heap.size, 2, none⟩) (u := .int .i64 e.f2) (by go_simp) HG.out.1 HG.out.2
          have HB2 := Aside0.mk hb2
          have HW2 := Aside0.mk hw2
          have HN2 := Aside0.mk (And.intro (BS.old_ne hs2 (q := w.heap.size) (by have := HWR.out; simp; omega) HG0.out.2) (BS.old_ne hs2 (q := wr.heap.size) (by simp) HG.out.2))
          have HS2 := Aside0.mk (HR.out.st.trans ((BS.below HBEL.out).trans hs2))
          have HL2 : Aside0 ((s1.1 ++ bigB (U64 e.f0) 1).length + 2 + 8 ≤ 140737488355328) := ⟨by rw [List.length_append, bigB_length]; have := HS1.out; omega⟩
          clear hb2 hw2 hs2 hbox2
          obtain ⟨ix, hix, hi1, hi2⟩ : ∃ ix, idxF (cloB ([] : List S37) e.f1) ([] : List S37) = ix ∧ -1 ≤ ix ∧ ix < 140737488355328 := ⟨_, rfl, (idxF_range _ _).1, by have := (idxF_range (cloB ([] : List S37) e.f1) ([] : List S37)).2; simp at *; omega⟩
          have HIX := Aside0.mk (show idxF (cloB ([] : List S37) e.f1) (List.drop 1 []) = ix from hix)
          have p1 : w2.cell? ⟨g, 1, none⟩ = some (.slice A 0 0) := blk_cell HW2.out.1 1
          have hwr : IntKind.i64.wrap (1 + ix) = 1 + ix := by rw [IntKind.wrap_i64]; omega
          clear hix
          by_cases hz : ix = -1
          · have HE : Aside0 (valE ([] : List S37) e s1.2 = failE s1.2 7) := ⟨by unfold valE; rw [if_pos HN7.out, if_pos (by unfold firstC; rw [HIX.out]; omega)]⟩
            have HL : Aside0 (valL ([] : List S37) e s1.1 = (s1.1 ++ bigB (U64 e.f0) 1) ++ bigB (U64 (1 + ix)) 2) := ⟨by unfold valL; rw [if_pos HN7.out]; unfold firstC; rw [HIX.out]⟩
            have bz : ((1 + ix : Int) == 0) = true := beq_iff_eq.2 (by omega)
            have HZ := Aside0.mk hz
            clear hz
            go_wp2_with fail
            go_region_held3 (fun w' => w'.cell? ⟨w.heap.size, 0, none⟩ = some (.pointer (some ⟨g, 0, none⟩)) ∧ w'.cell? ⟨g, 1, none⟩ = some (.slice A 0 0)) (first | exact ⟨k0, p1⟩ | exact ⟨pw_cell_below (below_drew0 (by assumption)) k0, pw_cell_below (below_drew0 (by assumption)) p1⟩) ((go_at_call 137; refine (idx_any2 _ _ _ (L := ([] : List S37)) rfl A 0 ([] : List S37) e.f1 w.heap.size g wr.heap.size _ (C_none _ _) (Nat.zero_le _) (Nat.zero_le _) (Kd.C_below HRP.out (pw_below_drewN HB2.out 1)) HC.out (fun x hx => nomatch hx) k0 p1 k2).mono ?_; rintro e3 w3 ⟨rfl, hbx⟩; rw [show idxF (cloB ([] : List S37) e.f1) [] = ix from HIX.out]))
            all_goals (
              have hb3 := below_drew0 hbx
              have q0 := pw_cell_below hb3 k0
              have HB3 := Aside0.mk (below_then HB2.out HB2.out.size hb3)
              have HW3 := Aside0.mk (HW2.out.below hb3)
              have HS3 := Aside0.mk (HS2.out.trans (BS.below hb3))
              clear hb3 hbx p1 k1 k2 k3 k0
              go_wp2_with fail
              refine (mapFail_any w0 _ g A 0 0 s1.2 v2 (s1.1 ++ bigB (U64 e.f0) 1) 7 HW3.out HB3.out).mono ?_
              rintro e4 w4 ⟨rfl, hb4, hw4, hs4⟩
              have m40 := hs4.cell q0 HG0.out.1 HN2.out.1
              have HB4 := Aside0.mk hb4
              have HW4 := Aside0.mk hw4
              have HS4 := Aside0.mk (HS3.out.trans hs4)
              clear hb4 hw4 hs4
              go_wp2_with fail
              refine (mapNum_any w0 _ g A 0 0 (failE s1.2 7) v2 (s1.1 ++ bigB (U64 e.f0) 1) (1 + ix) _ 2 rfl (by decide) HW4.out HB4.out (by have := HL2.out; omega)).mono ?_
              rintro e5 w5 ⟨rfl, hb5, v5, hw5, hs5⟩
              have n50 := hs5.cell m40 HG0.out.1 HN2.out.1
              have HB5 := Aside0.mk hb5
              have HW5 := Aside0.mk hw5
              have HS5 := Aside0.mk (HS4.out.trans hs5)
              clear hb5 hw5 hs5
              go_wp2
              go_roundw
              case rel => exact ⟨k + 1, v5, by have := HLT.out; omega, by go_num, ⟨VRel.mk' (HSN.out.trans (by rw [HL.out, HE.out])) HW5.out HB5.out HS5.out⟩, ⟨vals_len HSN.out HLN.out⟩, n50⟩
              case measure => have := HLT.out; simp [intOf]; omega)
          · have HE : Aside0 (valE ([] : List S37) e s1.2 = s1.2) := ⟨by unfold valE; rw [if_pos HN7.out, if_neg (by unfold firstC; rw [HIX.out]; omega)]⟩
            have HL : Aside0 (valL ([] : List S37) e s1.1 = (s1.1 ++ bigB (U64 e.f0) 1) ++ bigB (U64 (1 + ix)) 2) := ⟨by unfold valL; rw [if_pos HN7.out]; unfold firstC; rw [HIX.out]⟩
            have bz : ((1 + ix : Int) == 0) = false := beq_eq_false_iff_ne.2 (by omega)
            clear hz
            go_wp2_with fail
            go_region_held3 (fun w' => w'.cell? ⟨w.heap.size, 0, none⟩ = some (.pointer (some ⟨g, 0, none⟩)) ∧ w'.cell? ⟨g, 1, none⟩ = some (.slice A 0 0)) (first | exact ⟨k0, p1⟩ | exact ⟨pw_cell_below (below_drew0 (by assumption)) k0, pw_cell_below (below_drew0 (by assumption)) p1⟩) ((go_at_call 137; refine (idx_any2 _ _ _ (L := ([] : List S37)) rfl A 0 ([] : List S37) e.f1 w.heap.size g wr.heap.size _ (C_none _ _) (Nat.zero_le _) (Nat.zero_le _) (Kd.C_below HRP.out (pw_below_drewN HB2.out 1)) HC.out (fun x hx => nomatch hx) k0 p1 k2).mono ?_; rintro e3 w3 ⟨rfl, hbx⟩; rw [show idxF (cloB ([] : List S37) e.f1) [] = ix from HIX.out]))
            all_goals (
              have hb3 := below_drew0 hbx
              have q0 := pw_cell_below hb3 k0
              have HB3 := Aside0.mk (below_then HB2.out HB2.out.size hb3)
              have HW3 := Aside0.mk (HW2.out.below hb3)
              have HS3 := Aside0.mk (HS2.out.trans (BS.below hb3))
              clear hb3 hbx p1 k1 k2 k3 k0
              go_wp2_with fail
              refine (mapNum_any w0 _ g A 0 0 s1.2 v2 (s1.1 ++ bigB (U64 e.f0) 1) (1 + ix) _ 2 rfl (by decide) HW3.out HB3.out (by have := HL2.out; omega)).mono ?_
              rintro e4 w4 ⟨rfl, hb4, v4, hw4, hs4⟩
              have n40 := hs4.cell q0 HG0.out.1 HN2.out.1
              have HB4 := Aside0.mk hb4
              have HW4 := Aside0.mk hw4
              have HS4 := Aside0.mk (HS3.out.trans hs4)
              clear hb4 hw4 hs4
              go_wp2
              go_roundw
              case rel => exact ⟨k + 1, v4, by have := HLT.out; omega, by go_num, ⟨VRel.mk' (HSN.out.trans (by rw [HL.out, HE.out])) HW4.out HB4.out HS4.out⟩, ⟨vals_len HSN.out HLN.out⟩, n40⟩
              case measure => have := HLT.out; simp [intOf]; omega)
        · have HC1 := Aside0.mk hc1
          go_wp2_with fail
          refine (mapNum_any w0 _ g A 0 c s1.2 v1 s1.1 _ _ 1 rfl (by decide) HBW.out HBE.out (by have := HS1.out; omega)).mono ?_
          rintro e2 w2 ⟨rfl, hb2, v2, hw2, hs2⟩
          have k0 := hs2.cell hbox2 HG0.out.1 HG0.out.2
          have k1 := hs2.cell (a := ⟨wr.heap.size, 0, none⟩) (u := .int .u8 e.f0) (by go_simp) HG.out.1 HG.out.2
          have k2 := hs2.cell (a := ⟨wr.heap.size, 1, none⟩) (u := .string e.f1) (by go_simp) HG.out.1 HG.out.2
          have k3 := hs2.cell (a := ⟨wr.heap.size, 2, none⟩) (u := .int .i64 e.f2) (by go_simp) HG.out.1 HG.out.2
          have HB2 := Aside0.mk hb2
          have HW2 := Aside0.mk hw2
          have HN2 := Aside0.mk (And.intro (BS.old_ne hs2 (q := w.heap.size) (by have := HWR.out; simp; omega) HG0.out.2) (BS.old_ne hs2 (q := wr.heap.size) (by simp) HG.out.2))
          have HS2 := Aside0.mk (HR.out.st.trans ((BS.below HBEL.out).trans hs2))
          have HL2 : Aside0 ((s1.1 ++ bigB (U64 e.f0) 1).length + 2 + 8 ≤ 140737488355328) := ⟨by rw [List.length_append, bigB_length]; have := HS1.out; omega⟩
          clear hb2 hw2 hs2 hbox2
          obtain ⟨ix, hix, hi1, hi2⟩ : ∃ ix, idxF (cloB ([] : List S37) e.f1) ([] : List S37) = ix ∧ -1 ≤ ix ∧ ix < 140737488355328 := ⟨_, rfl, (idxF_range _ _).1, by have := (idxF_range (cloB ([] : List S37) e.f1) ([] : List S37)).2; simp at *; omega⟩
          have HIX := Aside0.mk (show idxF (cloB ([] : List S37) e.f1) (List.drop 1 []) = ix from hix)
          have p1 : w2.cell? ⟨g, 1, none⟩ = some (.slice A 0 c) := blk_cell HW2.out.1 1
          have hwr : IntKind.i64.wrap (1 + ix) = 1 + ix := by rw [IntKind.wrap_i64]; omega
          clear hix
          by_cases hz : ix = -1
          · have HE : Aside0 (valE ([] : List S37) e s1.2 = failE s1.2 7) := ⟨by unfold valE; rw [if_pos HN7.out, if_pos (by unfold firstC; rw [HIX.out]; omega)]⟩
            have HL : Aside0 (valL ([] : List S37) e s1.1 = (s1.1 ++ bigB (U64 e.f0) 1) ++ bigB (U64 (1 + ix)) 2) := ⟨by unfold valL; rw [if_pos HN7.out]; unfold firstC; rw [HIX.out]⟩
            have bz : ((1 + ix : Int) == 0) = true := beq_iff_eq.2 (by omega)
            have HZ := Aside0.mk hz
            clear hz
            go_wp2_with fail
            go_region_held3 (fun w' => w'.cell? ⟨w.heap.size, 0, none⟩ = some (.pointer (some ⟨g, 0, none⟩)) ∧ w'.cell? ⟨g, 1, none⟩ = some (.slice A 0 c)) (first | exact ⟨k0, p1⟩ | exact ⟨pw_cell_below (below_drew0 (by assumption)) k0, pw_cell_below (below_drew0 (by assumption)) p1⟩) ((go_at_call 137; refine (idx_any2 _ _ _ (L := ([] : List S37)) rfl A c ([] : List S37) e.f1 w.heap.size g wr.heap.size _ (C_none _ _) (Nat.zero_le _) (Nat.zero_le _) (Kd.C_below HRP.out (pw_below_drewN HB2.out 1)) HC.out (fun x hx => nomatch hx) k0 p1 k2).mono ?_; rintro e3 w3 ⟨rfl, hbx⟩; rw [show idxF (cloB ([] : List S37) e.f1) [] = ix from HIX.out]))
            all_goals (
              have hb3 := below_drew0 hbx
              have q0 := pw_cell_below hb3 k0
              have HB3 := Aside0.mk (below_then HB2.out HB2.out.size hb3)
              have HW3 := Aside0.mk (HW2.out.below hb3)
              have HS3 := Aside0.mk (HS2.out.trans (BS.below hb3))
              clear hb3 hbx p1 k1 k2 k3 k0
              go_wp2_with fail
              refine (mapFail_any w0 _ g A 0 c s1.2 v2 (s1.1 ++ bigB (U64 e.f0) 1) 7 HW3.out HB3.out).mono ?_
              rintro e4 w4 ⟨rfl, hb4, hw4, hs4⟩
              have m40 := hs4.cell q0 HG0.out.1 HN2.out.1
              have HB4 := Aside0.mk hb4
              have HW4 := Aside0.mk hw4
              have HS4 := Aside0.mk (HS3.out.trans hs4)
              clear hb4 hw4 hs4
              go_wp2_with fail
              refine (mapNum_any w0 _ g A 0 c (failE s1.2 7) v2 (s1.1 ++ bigB (U64 e.f0) 1) (1 + ix) _ 2 rfl (by decide) HW4.out HB4.out (by have := HL2.out; omega)).mono ?_
              rintro e5 w5 ⟨rfl, hb5, v5, hw5, hs5⟩
              have n50 := hs5.cell m40 HG0.out.1 HN2.out.1
              have HB5 := Aside0.mk hb5
              have HW5 := Aside0.mk hw5
              have HS5 := Aside0.mk (HS4.out.trans hs5)
              clear hb5 hw5 hs5
              go_wp2
              go_roundw
              case rel => exact ⟨k + 1, v5, by have := HLT.out; omega, by go_num, ⟨VRel.mk' (HSN.out.trans (by rw [HL.out, HE.out])) HW5.out HB5.out HS5.out⟩, ⟨vals_len HSN.out HLN.out⟩, n50⟩
              case measure => have := HLT.out; simp [intOf]; omega)
          · have HE : Aside0 (valE ([] : List S37) e s1.2 = s1.2) := ⟨by unfold valE; rw [if_pos HN7.out, if_neg (by unfold firstC; rw [HIX.out]; omega)]⟩
            have HL : Aside0 (valL ([] : List S37) e s1.1 = (s1.1 ++ bigB (U64 e.f0) 1) ++ bigB (U64 (1 + ix)) 2) := ⟨by unfold valL; rw [if_pos HN7.out]; unfold firstC; rw [HIX.out]⟩
            have bz : ((1 + ix : Int) == 0) = false := beq_eq_false_iff_ne.2 (by omega)
            clear hz
            go_wp2_with fail
            go_region_held3 (fun w' => w'.cell? ⟨w.heap.size, 0, none⟩ = some (.pointer (some ⟨g, 0, none⟩)) ∧ w'.cell? ⟨g, 1, none⟩ = some (.slice A 0 c)) (first | exact ⟨k0, p1⟩ | exact ⟨pw_cell_below (below_drew0 (by assumption)) k0, pw_cell_below (below_drew0 (by assumption)) p1⟩) ((go_at_call 137; refine (idx_any2 _ _ _ (L := ([] : List S37)) rfl A c ([] : List S37) e.f1 w.heap.size g wr.heap.size _ (C_none _ _) (Nat.zero_le _) (Nat.zero_le _) (Kd.C_below HRP.out (pw_below_drewN HB2.out 1)) HC.out (fun x hx => nomatch hx) k0 p1 k2).mono ?_; rintro e3 w3 ⟨rfl, hbx⟩; rw [show idxF (cloB ([] : List S37) e.f1) [] = ix from HIX.out]))
            all_goals (
              have hb3 := below_drew0 hbx
              have q0 := pw_cell_below hb3 k0
              have HB3 := Aside0.mk (below_then HB2.out HB2.out.size hb3)
              have HW3 := Aside0.mk (HW2.out.below hb3)
              have HS3 := Aside0.mk (HS2.out.trans (BS.below hb3))
              clear hb3 hbx p1 k1 k2 k3 k0
              go_wp2_with fail
              refine (mapNum_any w0 _ g A 0 c s1.2 v2 (s1.1 ++ bigB (U64 e.f0) 1) (1 + ix) _ 2 rfl (by decide) HW3.out HB3.out (by have := HL2.out; omega)).mono ?_
              rintro e4 w4 ⟨rfl, hb4, v4, hw4, hs4⟩
              have n40 := hs4.cell q0 HG0.out.1 HN2.out.1
              have HB4 := Aside0.mk hb4
              have HW4 := Aside0.mk hw4
              have HS4 := Aside0.mk (HS3.out.trans hs4)
              clear hb4 hw4 hs4
              go_wp2
              go_roundw
              case rel => exact ⟨k + 1, v4, by have := HLT.out; omega, by go_num, ⟨VRel.mk' (HSN.out.trans (by rw [HL.out, HE.out])) HW4.out HB4.out HS4.out⟩, ⟨vals_len HSN.out HLN.out⟩, n40⟩
              case measure => have := HLT.out; simp [intOf]; omega)
      · have b7 : (e.f0 == 7) = false := beq_eq_false_iff_ne.2 c7
        have HN7 := Aside0.mk c7
        clear c7
        by_cases c8 : e.f0 = 8
        · have b8 : (e.f0 == 8) = true := beq_iff_eq.2 c8
          have HN8 := Aside0.mk c8
          clear c8
          by_cases ca : e.f2 < 0
          · have HE : Aside0 (valE ([] : List S37) e s1.2 = failE s1.2 17) := ⟨by unfold valE; rw [if_neg HN7.out, if_pos HN8.out, if_pos (.inl ca)]⟩
            have HL : Aside0 (valL ([] : List S37) e s1.1 = (s1.1 ++ bigB (U64 e.f0) 1) ++ bigB (U64 e.f2) 2) := ⟨by unfold valL; rw [if_neg HN7.out, if_pos HN8.out]⟩
            have ba : decide (e.f2 < 0) = true := decide_eq_true ca
            clear ca
            go_wp2_with fail
            refine (mapNum_any w0 _ g A 0 c s1.2 v1 s1.1 _ _ 1 rfl (by decide) HBW.out HBE.out (by have := HS1.out; omega)).mono ?_
            rintro e2 w2 ⟨rfl, hb2, v2, hw2, hs2⟩
            have k0 := hs2.cell hbox2 HG0.out.1 HG0.out.2
            have k1 := hs2.cell (a := ⟨wr.heap.size, 0, none⟩) (u := .int .u8 e.f0) (by go_simp) HG.out.1 HG.out.2
            have k2 := hs2.cell (a := ⟨wr.heap.size, 1, none⟩) (u := .string e.f1) (by go_simp) HG.out.1 HG.out.2
            have k3 := hs2.cell (a := ⟨wr.heap.size, 2, none⟩) (u := .int .i64 e.f2) (by go_simp) HG.out.1 HG.out.2
            have HB2 := Aside0.mk hb2
            have HW2 := Aside0.mk hw2
            have HN2 := Aside0.mk (And.intro (BS.old_ne hs2 (q := w.heap.size) (by have := HWR.out; simp; omega) HG0.out.2) (BS.old_ne hs2 (q := wr.heap.size) (by simp) HG.out.2))
            have HS2 := Aside0.mk (HR.out.st.trans ((BS.below HBEL.out).trans hs2))
            have HL2 : Aside0 ((s1.1 ++ bigB (U64 e.f0) 1).length + 2 + 8 ≤ 140737488355328) := ⟨by rw [List.length_append, bigB_length]; have := HS1.out; omega⟩
            clear hb2 hw2 hs2 hbox2
            go_wp2_with fail
            refine (mapFail_any w0 _ g A 0 c s1.2 v2 (s1.1 ++ bigB (U64 e.f0) 1) 17 HW2.out HB2.out).mono ?_
            rintro e3 w3 ⟨rfl, hb3, hw3, hs3⟩
            have m30 := hs3.cell k0 HG0.out.1 HN2.out.1
            have m33 := hs3.cell k3 HG.out.1 HN2.out.2
            have HB3 := Aside0.mk hb3
            have HW3 := Aside0.mk hw3
            have HS3 := Aside0.mk (HS2.out.trans hs3)
            clear hb3 hw3 hs3
            go_wp2_with fail
            refine (mapNum_any w0 _ g A 0 c (failE s1.2 17) v2 (s1.1 ++ bigB (U64 e.f0) 1) e.f2 _ 2 rfl (by decide) HW3.out HB3.out (by have := HL2.out; omega)).mono ?_
            rintro e4 w4 ⟨rfl, hb4, v4, hw4, hs4⟩
            have n40 := hs4.cell m30 HG0.out.1 HN2.out.1
            have HB4 := Aside0.mk hb4
            have HW4 := Aside0.mk hw4
            have HS4 := Aside0.mk (HS3.out.trans hs4)
            clear hb4 hw4 hs4
            go_wp2
            go_roundw
            case rel => exact ⟨k + 1, v4, by have := HLT.out; omega, by go_num, ⟨VRel.mk' (HSN.out.trans (by rw [HL.out, HE.out])) HW4.out HB4.out HS4.out⟩, ⟨vals_len HSN.out HLN.out⟩, n40⟩
            case measure => have := HLT.out; simp [intOf]; omega
          · by_cases cb : e.f2 > 65535
            · have HE : Aside0 (valE ([] : List S37) e s1.2 = failE s1.2 17) := ⟨by unfold valE; rw [if_neg HN7.out, if_pos HN8.out, if_pos (.inr cb)]⟩
              have HL : Aside0 (valL ([] : List S37) e s1.1 = (s1.1 ++ bigB (U64 e.f0) 1) ++ bigB (U64 e.f2) 2) := ⟨by unfold valL; rw [if_neg HN7.out, if_pos HN8.out]⟩
              have ba : decide (e.f2 < 0) = false := decide_eq_false ca
              have bb : decide (e.f2 > 65535) = true := decide_eq_true cb
              clear ca cb
              go_wp2_with fail
              refine (mapNum_any w0 _ g A 0 c s1.2 v1 s1.1 _ _ 1 rfl (by decide) HBW.out HBE.out (by have := HS1.out; omega)).mono ?_
              rintro e2 w2 ⟨rfl, hb2, v2, hw2, hs2⟩
              have k0 := hs2.cell hbox2 HG0.out.1 HG0.out.2
              have k1 := hs2.cell (a := ⟨wr.heap.size, 0, none⟩) (u := .int .u8 e.f0) (by go_simp) HG.out.1 HG.out.2
              have k2 := hs2.cell (a := ⟨wr.heap.size, 1, none⟩) (u := .string e.f1) (by go_simp) HG.out.1 HG.out.2
              have k3 := hs2.cell (a := ⟨wr.heap.size, 2, none⟩) (u := .int .i64 e.f2) (by go_simp) HG.out.1 HG.out.2
              have HB2 := Aside0.mk hb2
              have HW2 := Aside0.mk hw2
              have HN2 := Aside0.mk (And.intro (BS.old_ne hs2 (q := w.heap.size) (by have := HWR.out; simp; omega) HG0.out.2) (BS.old_ne hs2 (q := wr.heap.size) (by simp) HG.out.2))
              have HS2 := Aside0.mk (HR.out.st.trans ((BS.below HBEL.out).trans hs2))
              have HL2 : Aside0 ((s1.1 ++ bigB (U64 e.f0) 1).length + 2 + 8 ≤ 140737488355328) := ⟨by rw [List.length_append, bigB_length]; have := HS1.out; omega⟩
              clear hb2 hw2 hs2 hbox2
              go_wp2_with fail
              refine (mapFail_any w0 _ g A 0 c s1.2 v2 (s1.1 ++ bigB (U64 e.f0) 1) 17 HW2.out HB2.out).mono ?_
              rintro e3 w3 ⟨rfl, hb3, hw3, hs3⟩
              have m30 := hs3.cell k0 HG0.out.1 HN2.out.1
              have m33 := hs3.cell k3 HG.out.1 HN2.out.2
              have HB3 := Aside0.mk hb3
              have HW3 := Aside0.mk hw3
              have HS3 := Aside0.mk (HS2.out.trans hs3)
              clear hb3 hw3 hs3
              go_wp2_with fail
              refine (mapNum_any w0 _ g A 0 c (failE s1.2 17) v2 (s1.1 ++ bigB (U64 e.f0) 1) e.f2 _ 2 rfl (by decide) HW3.out HB3.out (by have := HL2.out; omega)).mono ?_
              rintro e4 w4 ⟨rfl, hb4, v4, hw4, hs4⟩
              have n40 := hs4.cell m30 HG0.out.1 HN2.out.1
              have HB4 := Aside0.mk hb4
              have HW4 := Aside0.mk hw4
              have HS4 := Aside0.mk (HS3.out.trans hs4)
              clear hb4 hw4 hs4
              go_wp2
              go_roundw
              case rel => exact ⟨k + 1, v4, by have := HLT.out; omega, by go_num, ⟨VRel.mk' (HSN.out.trans (by rw [HL.out, HE.out])) HW4.out HB4.out HS4.out⟩, ⟨vals_len HSN.out HLN.out⟩, n40⟩
              case measure => have := HLT.out; simp [intOf]; omega
            · have HE : Aside0 (valE ([] : List S37) e s1.2 = s1.2) := ⟨by unfold valE; rw [if_neg HN7.out, if_pos HN8.out, if_neg (fun h => h.elim ca cb)]⟩
              have HL : Aside0 (valL ([] : List S37) e s1.1 = (s1.1 ++ bigB (U64 e.f0) 1) ++ bigB (U64 e.f2) 2) := ⟨by unfold valL; rw [if_neg HN7.out, if_pos HN8.out]⟩
              have ba : decide (e.f2 < 0) = false := decide_eq_false ca
              have bb : decide (e.f2 > 65535) = false := decide_eq_false cb
              clear ca cb
              go_wp2_with fail
              refine (mapNum_any w0 _ g A 0 c s1.2 v1 s1.1 _ _ 1 rfl (by decide) HBW.out HBE.out (by have := HS1.out; omega)).mono ?_
              rintro e2 w2 ⟨rfl, hb2, v2, hw2, hs2⟩
              have k0 := hs2.cell hbox2 HG0.out.1 HG0.out.2
              have k1 := hs2.cell (a := ⟨wr.heap.size, 0, none⟩) (u := .int .u8 e.f0) (by go_simp) HG.out.1 HG.out.2
              have k2 := hs2.cell (a := ⟨wr.heap.size, 1, none⟩) (u := .string e.f1) (by go_simp) HG.out.1 HG.out.2
              have k3 := hs2.cell (a := ⟨wr.heap.size, 2, none⟩) (u := .int .i64 e.f2) (by go_simp) HG.out.1 HG.out.2
              have HB2 := Aside0.mk hb2
              have HW2 := Aside0.mk hw2
              have HN2 := Aside0.mk (And.intro (BS.old_ne hs2 (q := w.heap.size) (by have := HWR.out; simp; omega) HG0.out.2) (BS.old_ne hs2 (q := wr.heap.size) (by simp) HG.out.2))
              have HS2 := Aside0.mk (HR.out.st.trans ((BS.below HBEL.out).trans hs2))
              have HL2 : Aside0 ((s1.1 ++ bigB (U64 e.f0) 1).length + 2 + 8 ≤ 140737488355328) := ⟨by rw [List.length_append, bigB_length]; have := HS1.out; omega⟩
              clear hb2 hw2 hs2 hbox2
              go_wp2_with fail
              refine (mapNum_any w0 _ g A 0 c s1.2 v2 (s1.1 ++ bigB (U64 e.f0) 1) e.f2 _ 2 rfl (by decide) HW2.out HB2.out (by have := HL2.out; omega)).mono ?_
              rintro e3 w3 ⟨rfl, hb3, v3, hw3, hs3⟩
              have n30 := hs3.cell k0 HG0.out.1 HN2.out.1
              have HB3 := Aside0.mk hb3
              have HW3 := Aside0.mk hw3
              have HS3 := Aside0.mk (HS2.out.trans hs3)
              clear hb3 hw3 hs3
              go_wp2
              go_roundw
              case rel => exact ⟨k + 1, v3, by have := HLT.out; omega, by go_num, ⟨VRel.mk' (HSN.out.trans (by rw [HL.out, HE.out])) HW3.out HB3.out HS3.out⟩, ⟨vals_len HSN.out HLN.out⟩, n30⟩
              case measure => have := HLT.out; simp [intOf]; omega
        · have b8 : (e.f0 == 8) = false := beq_eq_false_iff_ne.2 c8
          have HN8 := Aside0.mk c8
          clear c8
          by_cases c9 : e.f0 > 8
          · have HE : Aside0 (valE ([] : List S37) e s1.2 = failE s1.2 17) := ⟨by unfold valE; rw [if_neg HN7.out, if_neg HN8.out, if_pos c9]⟩
            have HL : Aside0 (valL ([] : List S37) e s1.1 = (s1.1 ++ bigB (U64 e.f0) 1)) := ⟨by unfold valL; rw [if_neg HN7.out, if_neg HN8.out]⟩
            have b9 : decide (e.f0 > 8) = true := decide_eq_true c9
            clear c9
            go_wp2_with fail
            refine (mapNum_any w0 _ g A 0 c s1.2 v1 s1.1 _ _ 1 rfl (by decide) HBW.out HBE.out (by have := HS1.out; omega)).mono ?_
            rintro e2 w2 ⟨rfl, hb2, v2, hw2, hs2⟩
            have k0 := hs2.cell hbox2 HG0.out.1 HG0.out.2
            have k1 := hs2.cell (a := ⟨wr.heap.size, 0, none⟩) (u := .int .u8 e.f0) (by go_simp) HG.out.1 HG.out.2
            have k2 := hs2.cell (a := ⟨wr.heap.size, 1, none⟩) (u := .string e.f1) (by go_simp) HG.out.1 HG.out.2
            have k3 := hs2.cell (a := ⟨wr.heap.size, 2, none⟩) (u := .int .i64 e.f2) (by go_simp) HG.out.1 HG.out.2
            have HB2 := Aside0.mk hb2
            have HW2 := Aside0.mk hw2
            have HN2 := Aside0.mk (And.intro (BS.old_ne hs2 (q := w.heap.size) (by have := HWR.out; simp; omega) HG0.out.2) (BS.old_ne hs2 (q := wr.heap.size) (by simp) HG.out.2))
            have HS2 := Aside0.mk (HR.out.st.trans ((BS.below HBEL.out).trans hs2))
            have HL2 : Aside0 ((s1.1 ++ bigB (U64 e.f0) 1).length + 2 + 8 ≤ 140737488355328) := ⟨by rw [List.length_append, bigB_length]; have := HS1.out; omega⟩
            clear hb2 hw2 hs2 hbox2
            go_wp2_with fail
            refine (mapFail_any w0 _ g A 0 c s1.2 v2 (s1.1 ++ bigB (U64 e.f0) 1) 17 HW2.out HB2.out).mono ?_
            rintro e3 w3 ⟨rfl, hb3, hw3, hs3⟩
            have m30 := hs3.cell k0 HG0.out.1 HN2.out.1
            have m33 := hs3.cell k3 HG.out.1 HN2.out.2
            have HB3 := Aside0.mk hb3
            have HW3 := Aside0.mk hw3
            have HS3 := Aside0.mk (HS2.out.trans hs3)
            clear hb3 hw3 hs3
            go_wp2
            go_roundw
            case rel => exact ⟨k + 1, v2, by have := HLT.out; omega, by go_num, ⟨VRel.mk' (HSN.out.trans (by rw [HL.out, HE.out])) HW3.out HB3.out HS3.out⟩, ⟨vals_len HSN.out HLN.out⟩, m30⟩
            case measure => have := HLT.out; simp [intOf]; omega
          · have HE : Aside0 (valE ([] : List S37) e s1.2 = s1.2) := ⟨by unfold valE; rw [if_neg HN7.out, if_neg HN8.out, if_neg c9]⟩
            have HL : Aside0 (valL ([] : List S37) e s1.1 = (s1.1 ++ bigB (U64 e.f0) 1)) := ⟨by unfold valL; rw [if_neg HN7.out, if_neg HN8.out]⟩
            have b9 : decide (e.f0 > 8) = false := decide_eq_false c9
            clear c9
            go_wp2_with fail
            refine (mapNum_any w0 _ g A 0 c s1.2 v1 s1.1 _ _ 1 rfl (by decide) HBW.out HBE.out (by have := HS1.out; omega)).mono ?_
            rintro e2 w2 ⟨rfl, hb2, v2, hw2, hs2⟩
            have k0 := hs2.cell hbox2 HG0.out.1 HG0.out.2
            have k1 := hs2.cell (a := ⟨wr.heap.size, 0, none⟩) (u := .int .u8 e.f0) (by go_simp) HG.out.1 HG.out.2
            have k2 := hs2.cell (a := ⟨wr.heap.size, 1, none⟩) (u := .string e.f1) (by go_simp) HG.out.1 HG.out.2
            have k3 := hs2.cell (a := ⟨wr.heap.size, 2, none⟩) (u := .int .i64 e.f2) (by go_simp) HG.out.1 HG.out.2
            have HB2 := Aside0.mk hb2
            have HW2 := Aside0.mk hw2
            have HN2 := Aside0.mk (And.intro (BS.old_ne hs2 (q := w.heap.size) (by have := HWR.out; simp; omega) HG0.out.2) (BS.old_ne hs2 (q := wr.heap.size) (by simp) HG.out.2))
            have HS2 := Aside0.mk (HR.out.st.trans ((BS.below HBEL.out).trans hs2))
            have HL2 : Aside0 ((s1.1 ++ bigB (U64 e.f0) 1).length + 2 + 8 ≤ 140737488355328) := ⟨by rw [List.length_append, bigB_length]; have := HS1.out; omega⟩
            clear hb2 hw2 hs2 hbox2
            go_wp2
            go_roundw
            case rel => exact ⟨k + 1, v2, by have := HLT.out; omega, by go_num, ⟨VRel.mk' (HSN.out.trans (by rw [HL.out, HE.out])) HW2.out HB2.out HS2.out⟩, ⟨vals_len HSN.out HLN.out⟩, k0⟩
            case measure => have := HLT.out; simp [intOf]; omega
    · obtain rfl : k = vs.length := by omega
      rw [List.take_length] at HR
      go_wp2
      go_end0
      exact ⟨rfl, v1, HR.out.bw, HR.out.be, (BS.below (below_alloc (Below.refl _ _) _)).trans HR.out.st⟩

theorem values_any (w0 w : World) (g : Nat) (A : Option Addr) (c : Nat) (l1 : List S37) (v : Value) (s : List Nat × Int) (A3 : Option Addr) (c3 : Nat) (vs : List S54)
    (hW : BW w0.heap.size w g 92 (mwC A l1.length c s.2) v s.1) (hB : Below w0.heap.size w0 w) (hr : Kd.C k37 w0 A l1.length l1) (hc : l1.length ≤ c) (hll : l1.length ≤ 140737488355328) (h3 : ∀ x ∈ l1, 0 ≤ x.f3 ∧ x.f3 < 65536)
    (hv : Kd.C k54 w0 A3 vs.length vs) (hc3 : vs.length ≤ c3) (ht : ∀ x ∈ vs, 0 ≤ x.f0 ∧ x.f0 < 256) (hlen : s.1.length + 3 * vs.length + 8 ≤ 140737488355328) :
    Calls Try.prog 110 #[.pointer (some ⟨g, 0, none⟩), .slice A3 vs.length c3] w (ValsPost w0 w g v A l1.length c (valsS l1 vs s)) := by
  cases l1 with
  | nil => exact values_nil w0 w g A c v s A3 c3 vs hW hB hr hc hll h3 hv hc3 ht hlen
  | cons x l => exact values_ne w0 w g A c (x :: l) (by simp) v s A3 c3 vs hW hB hr hc hll h3 hv hc3 ht hlen
end Go.Proofs.Ytfnjbmpolggdeaa.MR
