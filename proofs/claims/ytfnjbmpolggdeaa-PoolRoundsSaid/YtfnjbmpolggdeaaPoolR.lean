/-
  pool.Reader.Pool, pool.Read: what they compute.
-/
import Derived.Test.YtfnjbmpolggdeaaOne
import Derived.Test.YtfnjbmpolggdeaaLawPoolW
namespace Go.Proofs.Ytfnjbmpolggdeaa
open Go.RowKit Go.Lib
set_option linter.unusedVariables false
set_option linter.unusedSimpArgs false

theorem results_tmp4 {fn : Func} {t u v x : Tmp} (h : fn.results = #[.tmp t, .tmp u, .tmp v, .tmp x]) (tmps : Array Value) (P : Program) (w : World) :
    (results fn tmps).run P w = .ok (.tuple #[tmps.getD t undef, tmps.getD u undef, tmps.getD v undef, tmps.getD x undef]) w := by
  simp [results, h]
def lenOf : Value → Nat | .slice _ n _ => n | _ => 0
def poolL (n : Nat) (l : List K) (x : S) : List K × S :=
  if h : l.length < n ∧ x.err = 0 then
    if big2 (oneS x).1 then poolL n (l ++ [(oneS x).1] ++ [K0]) (if n < l.length + 2 then failS (oneS x).2 12 x.pos else (oneS x).2)
    else poolL n (l ++ [(oneS x).1]) (oneS x).2
  else (l, x)
termination_by n - l.length
decreasing_by all_goals (simp only [List.length_append, List.length_cons, List.length_nil]; omega)
def poolS (x : S) : List K × S := poolL (numS x 2).1 [K0] (if (numS x 2).1 = 0 then failS (numS x 2).2 12 x.pos else (numS x 2).2)
def readS (s : ByteArray) : List K × Nat × Nat × Nat :=
  if (poolS ⟨s, 0, 0, 0⟩).2.err = 0 then ((poolS ⟨s, 0, 0, 0⟩).1, (poolS ⟨s, 0, 0, 0⟩).2.pos, 0, 0) else ([], 0, (poolS ⟨s, 0, 0, 0⟩).2.err, (poolS ⟨s, 0, 0, 0⟩).2.errs)

theorem oneS_ok {x : S} (hx : x.ok) : (oneS x).2.ok ∧ (oneS x).2.s = x.s ∧ (oneS x).1.tag < 256 := by
  obtain ⟨a1, a2, a3, a4⟩ := numS_ok hx 1 (by decide)
  have hp := hx.1
  unfold oneS
  simp only []
  have f : ∀ {y : S} (hy : y.ok) (hs : y.s = x.s) (e p : Nat), e ≤ 255 → p ≤ x.s.size → (failS y e p).ok ∧ (failS y e p).s = x.s := fun hy hs e p he hp => ⟨failS_ok hy he (by rw [hs]; exact hp), by unfold failS; split <;> exact hs⟩
  split
  · obtain ⟨b1, b2, b3, b4⟩ := numS_ok a1 2 (by decide)
    obtain ⟨c1, c2, c3⟩ := takeS_ok b1 (numS (numS x 1).2 2).1
    have hs := (c3.trans b4).trans a4
    refine ⟨?_, ?_, by simp⟩ <;> split
    · exact c1
    · exact (f c1 hs 6 x.pos (by decide) hp).1
    · exact hs
    · exact (f c1 hs 6 x.pos (by decide) hp).2
  · split
    · obtain ⟨b1, b2, b3, b4⟩ := numS_ok a1 4 (by decide); exact ⟨b1, b4.trans a4, a2⟩
    · split
      · obtain ⟨b1, b2, b3, b4⟩ := numS_ok a1 4 (by decide); obtain ⟨c1, c2, c3, c4⟩ := numS_ok b1 4 (by decide); exact ⟨c1, (c4.trans b4).trans a4, a2⟩
      · split
        · obtain ⟨b1, b2, b3, b4⟩ := numS_ok a1 2 (by decide); exact ⟨b1, b4.trans a4, a2⟩
        · split
          · obtain ⟨b1, b2, b3, b4⟩ := numS_ok a1 2 (by decide); obtain ⟨c1, c2, c3, c4⟩ := numS_ok b1 2 (by decide); exact ⟨c1, (c4.trans b4).trans a4, a2⟩
          · obtain ⟨g1, g2⟩ := f a1 a4 5 x.pos (by decide) hp; exact ⟨g1, g2, a2⟩

theorem kcs_snoc (l : List K) (c : K) : kcs (l ++ [c]) = kcs l ++ kc c := by simp [kcs]
theorem keep_row {q B : Nat} {w w' : World} {v : Value} {e n xs} (hk : w.ownsRow B e 5 v n xs) (hB : B ≤ w.heap.size) (hg : w.grownBy w' v.ownBlock) : Keep q B w w' :=
  ⟨hg.os, hg.tape, hg.output, hg.size, fun k h1 _ => hg.block k (by omega) (fun h => by have := own_ge hk k h.symm; omega)⟩
theorem own_up {q B : Nat} {w w' : World} {v : Value} {e n xs} (hk : w.ownsRow B e 5 v n xs) (hu : Up q w w') (hq : q < B) : w'.ownsRow B e 5 v n xs :=
  hk.kept hu (by cases h : v.ownBlock with | none => simp | some g => have := own_ge hk g h; simp; omega)
theorem own_lt {w : World} {B e n s : Nat} {v : Value} {xs} (h : w.ownsRow B e s v n xs) (g : Nat) (hg : v.ownBlock = some g) : g < w.heap.size := by
  rcases h.2 with ⟨rfl, _⟩ | ⟨g', cap, cur, rfl, _, hh, _⟩
  · simp [Value.ownBlock] at hg
  · simp [Value.ownBlock] at hg; subst hg; exact (Array.getElem?_eq_some_iff.1 hh).1
theorem RS.row {q B : Nat} {x : S} {w w' : World} {v : Value} {e n xs} (h : RS q x w) (hk : w.ownsRow B e 5 v n xs) (hq : q < B) (hg : w.grownBy w' v.ownBlock) : RS q x w' := by
  unfold RS; rw [hg.block q h.lt (fun e => by have := own_ge hk q e.symm; omega)]; exact h

set_option maxHeartbeats 4000000 in
set_option maxRecDepth 100000 in
theorem Pool_any (q : Nat) (x : S) (hx : x.ok) (w : World) (h : RS q x w) :
    Calls Try.prog 64 #[.pointer (some ⟨q, 0, none⟩)] w fun r w' => ∃ v, r = .returned v ∧ w'.ownsRow w.heap.size 37 5 v (poolS x).1.length (kcs (poolS x).1) ∧ RS q (poolS x).2 w' ∧ (poolS x).2.ok ∧ Up q w w' := by
  generalize hB : w.heap.size = B
  have hqB : q < B := by rw [← hB]; exact h.lt
  obtain ⟨o1, o2, o3, o4⟩ := numS_ok hx 2 (by decide)
  obtain ⟨c0, c1, c2, c3⟩ := h.c
  have hdef := Lib.hid (show poolS x = poolL (numS x 2).1 [K0] (if (numS x 2).1 = 0 then failS (numS x 2).2 12 x.pos else (numS x 2).2) from rfl)
  have hp0 := hx.1
  go_enter Try.func64, Try.ntmps64
  go_wp2_with fail
  refine (Num_any q x hx w h 2 _ (by omega) (by decide)).mono ?_
  rintro e w1 ⟨rfl, h1, hu1⟩
  clear c0 c1 c2 c3
  have k1 := Keep.up (base := B) hu1 (by omega)
  have hx1 : (if (numS x 2).1 = 0 then failS (numS x 2).2 12 x.pos else (numS x 2).2).ok := by split; exact failS_ok o1 (by decide) (by rw [o4]; exact hp0); exact o1
  generalize hN : (numS x 2).1 = n at *
  have HN := Lib.hid hN
  clear hN o3
  go_upto_if 15 with (fail)
  go_cut [4] (fun v4 wc => v4 = .int .i64 (n : Nat) ∧ RS q (if n = 0 then failS (numS x 2).2 12 x.pos else (numS x 2).2) wc ∧ Keep q B w wc)
  case first =>
    by_cases hn0 : n = 0
    · subst hn0
      go_wp2_with fail
      refine (Fail_any q (numS x 2).2 w1 h1 12 x.pos _ _ (by omega) (by omega)).mono ?_
      rintro e w2 ⟨rfl, h2, hu2⟩
      go_wp2_with fail
      go_meet
      exact ⟨rfl, by simpa using h2, k1.trans (Keep.up hu2 (by have := k1.2.2.2.1; omega))⟩
    · have e0 : ((n : Int) == 0) = false := by rw [beq_eq_false_iff_ne]; omega
      go_wp2_with fail
      go_meet
      exact ⟨rfl, by rw [if_neg hn0]; exact h1, k1⟩
  case rest =>
    obtain ⟨rfl, h2, k2⟩ := hcut
    generalize hX2 : (if n = 0 then failS (numS x 2).2 12 x.pos else (numS x 2).2) = x2 at *
    have HX2 := Lib.hid hX2
    clear hX2 h1 k1 o1
    have hn65 : n < 65536 := o2
    have hBc : B ≤ wc.heap.size := by have := k2.2.2.2.1; omega
    have h3 : RS q x2 (wc.alloc (.cells #[.int .u8 0, .string ⟨#[]⟩, .int .u64 0, .int .u16 0, .int .u16 0] 37)) := h2.alloc _
    have k3 : Keep q B w (wc.alloc (.cells #[.int .u8 0, .string ⟨#[]⟩, .int .u64 0, .int .u16 0, .int .u16 0] 37)) := k2.trans (Keep.below ((Below.refl B wc).alloc hBc _))
    have r3 : (wc.alloc (.cells #[.int .u8 0, .string ⟨#[]⟩, .int .u64 0, .int .u16 0, .int .u16 0] 37)).ownsRow B 37 5 (.slice (some ⟨wc.heap.size, 0, none⟩) 1 1) 1 (kcs [K0]) := by
      refine ⟨rfl, .inr ⟨wc.heap.size, 1, _, rfl, hBc, heap_alloc_new wc _, ?_⟩⟩
      simp [kcs, kc, K0, maxLen, Value.oneCell']
    clear h2 k2
    go_upto_region 6 with (fail)
    generalize (wc.alloc (.cells #[.int .u8 0, .string ⟨#[]⟩, .int .u64 0, .int .u16 0, .int .u16 0] 37)) = w3 at *
    have hx2 : x2.ok := hx1
    have hstart : Hid (poolS x = poolL n [K0] x2) := by unfold Hid; rw [hdef.out]; first | done | rw [HX2.out]
    clear hdef hx1
    go_loopw [5] (fun v wr => ∃ (l : List K) (y : S), lenOf v = l.length ∧ wr.ownsRow B 37 5 v l.length (kcs l) ∧ RS q y wr ∧ y.ok ∧ Keep q B w wr ∧ l.length ≤ n + 1 ∧ Hid (poolS x = poolL n l y)) (fun v _ => n - lenOf v)
    case atStart => exact ⟨[K0], x2, rfl, r3, h3, hx2, k3, by simp, hstart⟩
    case round =>
      clear hstart r3 h3 k3
      obtain ⟨l, y, hlv, hown, hRS, hok, hK, hlen, hW⟩ := hrel
      obtain ⟨a, cp, rfl, _⟩ := Rd.own hown
      have hBr : B ≤ wr.heap.size := by have := hK.2.2.2.1; omega
      by_cases hlt : l.length < n
      · go_wp2_with fail
        refine (Bad_any q y hok wr hRS).mono ?_
        rintro e w4 ⟨rfl, hb4⟩
        have h4 := hRS.up hb4
        have r4 := own_up hown (Up.of_below (q := q) hb4) hqB
        have k4 := hK.trans (Keep.up (Up.of_below hb4) hBr)
        have hB4 : B ≤ w4.heap.size := by have := k4.2.2.2.1; omega
        clear hRS hown hK
        by_cases hbad : y.err = 0
        · have hb : (y.err != 0) = false := by simpa using hbad
          rw [hb]
          obtain ⟨c0, c1, c2, c3⟩ := h4.c
          go_wp2_with fail
          refine (one_any q y hok w4 h4).mono ?_
          rintro e w5 ⟨rfl, h5, hu5⟩
          clear c0 c1 c2 c3
          obtain ⟨z1, z2, z3⟩ := oneS_ok hok
          have r5 := own_up r4 hu5 hqB
          have k5 := k4.trans (Keep.up hu5 hB4)
          have hB5 : B ≤ w5.heap.size := by have := k5.2.2.2.1; omega
          have hpos := hok.1
          have hstep := Lib.hid (show poolL n l y = _ from by rw [poolL, dif_pos ⟨hlt, hbad⟩])
          generalize oneS y = r at *
          obtain ⟨⟨tag, text, bits, ca, cb⟩, z⟩ := r
          simp only [] at z1 z2 z3 h5 hstep
          have ck6 := CK.new ⟨tag, text, bits, ca, cb⟩ w5 37
          have h6 := h5.alloc (.cells (kc ⟨tag, text, bits, ca, cb⟩).toArray 37)
          have r6 := own_up r5 (Up.of_below (q := q) ((Below.refl _ w5).alloc (Nat.le_refl _) (.cells (kc ⟨tag, text, bits, ca, cb⟩).toArray 37))) hqB
          have k6 := k5.trans (Keep.below (q := q) ((Below.refl B w5).alloc hB5 (.cells (kc ⟨tag, text, bits, ca, cb⟩).toArray 37)))
          have hgc : ∀ g, (Value.slice a l.length cp).ownBlock = some g → g < w5.heap.size := fun g hg => own_lt r5 g hg
          simp only [kc] at ck6 h6 r6 k6
          simp only [kc]
          go_upto_region 9 with (fail)
          generalize (w5.alloc (.cells [Value.int .u8 (tag : Int), Value.string text, Value.int .u64 (bits : Int), Value.int .u16 (ca : Int), Value.int .u16 (cb : Int)].toArray 37)) = w6 at *
          generalize w5.heap.size = p at *
          have hpw : p < w6.heap.size := by have := ck6.1; exact World.block_lt_of_cell? w6 ⟨p, 0, none⟩ this
          have hB6 : B ≤ w6.heap.size := by have := k6.2.2.2.1; omega
          obtain ⟨g0, g1, g2, g3, g4⟩ := id ck6
          simp only [] at g0 g1 g2 g3 g4
          go_upto_region 10 with (at_builtin; refine app_elem rfl _ _ 34 rfl 37 _ 5 40 Try.underlying34 Try.infoC rfl (by decide) 0 B (Below.refl 0 w6) r6 rfl [Value.int .u8 (tag : Int), Value.string text, Value.int .u64 (bits : Int), Value.int .u16 (ca : Int), Value.int .u16 (cb : Int)] rfl (by simp [Value.oneCell']) _ rfl (by omega) (by omega) (by omega) (by omega) ?_ rfl; intro v7 w7 r7 _ hg7; have ck7 : CK ⟨tag, text, bits, ca, cb⟩ p w7 := ck6.grown hg7 (fun hh => by have := hgc p hh; omega); obtain ⟨a7, cp7, rfl, _⟩ := Rd.own r7)
          have h7 := RS.row h6 r6 hqB hg7
          have k7 := k6.trans (keep_row (q := q) r6 hB6 hg7)
          have hB7 : B ≤ w7.heap.size := by have := k7.2.2.2.1; omega
          have hpw7 : p < w7.heap.size := World.block_lt_of_cell? w7 ⟨p, 0, none⟩ ck7.1
          obtain ⟨g0, g1, g2, g3, g4⟩ := id ck7
          simp only [] at g0 g1 g2 g3 g4
          have hl1 : (l ++ [(⟨tag, text, bits, ca, cb⟩ : K)]).length = l.length + 1 := by simp
          have e7 : kcs l ++ [Value.int .u8 (tag : Int), Value.string text, Value.int .u64 (bits : Int), Value.int .u16 (ca : Int), Value.int .u16 (cb : Int)] = kcs (l ++ [(⟨tag, text, bits, ca, cb⟩ : K)]) := (kcs_snoc l ⟨tag, text, bits, ca, cb⟩).symm
          rw [e7] at r7
          clear e7 h6 r6 k6 h5 r5 k5 h4 r4 k4 ck6
          by_cases h56 : tag = 5 ∨ tag = 6
          · have hst2 : poolL n l y = poolL n (l ++ [(⟨tag, text, bits, ca, cb⟩ : K)] ++ [K0]) (if n < l.length + 2 then failS z 12 y.pos else z) := by
              rw [hstep.out, if_pos (by unfold big2; rcases h56 with hh | hh <;> simp [hh])]
            have HS2 := Lib.hid hst2
            clear hst2 hstep
            have e7 : kcs (l ++ [(⟨tag, text, bits, ca, cb⟩ : K)]) ++ [Value.int .u8 0, Value.string ⟨#[]⟩, Value.int .u64 0, Value.int .u16 0, Value.int .u16 0] = kcs (l ++ [(⟨tag, text, bits, ca, cb⟩ : K)] ++ [K0]) := (kcs_snoc (l ++ [(⟨tag, text, bits, ca, cb⟩ : K)]) K0).symm
            have hl2 : (l ++ [(⟨tag, text, bits, ca, cb⟩ : K)] ++ [K0]).length = l.length + 2 := by simp
            have zc := Lib.hid (show z.ok ∧ y.pos ≤ z.s.size from ⟨z1, by rw [z2]; exact hpos⟩)
            generalize l ++ [(⟨tag, text, bits, ca, cb⟩ : K)] = l1 at *
            generalize kcs l1 = cells1 at *
            have ways : (((tag : Int) == 5) = true) ∨ ((((tag : Int) == 5) = false) ∧ (((tag : Int) == 6) = true)) := by
              by_cases h5 : tag = 5
              · exact .inl (by rw [beq_iff_eq]; omega)
              · exact .inr ⟨by rw [beq_eq_false_iff_ne]; omega, by rw [beq_iff_eq]; omega⟩
            clear h56
            rcases ways with e5 | ⟨e5, e6⟩
            all_goals
              go_upto_region 12 with (at_builtin; refine app_elem rfl _ _ 34 rfl 37 _ 5 40 Try.underlying34 Try.infoC rfl (by decide) 0 B (Below.refl 0 w7) r7 rfl [Value.int .u8 0, Value.string ⟨#[]⟩, Value.int .u64 0, Value.int .u16 0, Value.int .u16 0] rfl (by simp [Value.oneCell']) _ rfl (by omega) (by omega) (by omega) (by omega) ?_ rfl; intro v8 w8 r8 _ hg8; obtain ⟨a8, cp8, rfl, _⟩ := Rd.own r8)
              have h8 := RS.row h7 r7 hqB hg8
              have k8 := k7.trans (keep_row (q := q) r7 hB7 hg8)
              rw [e7] at r8
              by_cases hov : n < l.length + 2
              · have x1 : (n : Int) < (l.length : Int) + 1 + 1 := by omega
                go_wp2_with fail
                refine (Fail_any q z w8 h8 12 y.pos _ _ (by omega) (by omega)).mono ?_
                rintro e w9 ⟨rfl, h9, hu9⟩
                have r9 := own_up r8 hu9 hqB
                have k9 := k8.trans (Keep.up hu9 (by have := k8.2.2.2.1; omega))
                go_wp2
                go_roundw
                case rel => exact ⟨l1 ++ [K0], failS z 12 y.pos, by rw [hl2]; rfl, by rw [hl2]; exact r9, h9, failS_ok zc.out.1 (by decide) zc.out.2, k9, by omega, by unfold Hid; rw [hW.out, HS2.out, if_pos hov]⟩
                case measure => simp [lenOf]; omega
              · have x1 : (l.length : Int) + 1 + 1 ≤ (n : Int) := by omega
                go_wp2
                go_roundw
                case rel => exact ⟨l1 ++ [K0], z, by rw [hl2]; rfl, by rw [hl2]; exact r8, h8, zc.out.1, k8, by omega, by unfold Hid; rw [hW.out, HS2.out, if_neg hov]⟩
                case measure => simp [lenOf]; omega
          · have hst2 : poolL n l y = poolL n (l ++ [(⟨tag, text, bits, ca, cb⟩ : K)]) z := by
              rw [hstep.out, if_neg (by unfold big2; simp; omega)]
            have HS2 := Lib.hid hst2
            clear hst2 hstep
            have e5 : ((tag : Int) == 5) = false := by rw [beq_eq_false_iff_ne]; omega
            have e6 : ((tag : Int) == 6) = false := by rw [beq_eq_false_iff_ne]; omega
            go_wp2
            go_roundw
            case rel => exact ⟨l ++ [⟨tag, text, bits, ca, cb⟩], z, by rw [hl1]; rfl, by rw [hl1]; exact r7, h7, z1, k7, by omega, by unfold Hid; rw [hW.out, HS2.out]⟩
            case measure => simp [lenOf]; omega
        · have hb : (y.err != 0) = true := by simpa using hbad
          have hW2 := Lib.hid (show poolS x = (l, y) by rw [hW.out, poolL, dif_neg (by intro hh; exact hbad hh.2)])
          rw [hb]
          go_wp2
          go_ret
          exact ⟨_, rfl, by rw [hW2.out]; exact r4, by rw [hW2.out]; exact h4, by rw [hW2.out]; exact hok, Keep.fin hB k4⟩
      · have hW2 := Lib.hid (show poolS x = (l, y) by rw [hW.out, poolL, dif_neg (by intro hh; exact hlt hh.1)])
        go_wp2
        go_ret
        exact ⟨_, rfl, by rw [hW2.out]; exact hown, by rw [hW2.out]; exact hRS, by rw [hW2.out]; exact hok, Keep.fin hB hK⟩

set_option maxHeartbeats 1000000 in
set_option maxRecDepth 100000 in
theorem NewReader_any (s : ByteArray) (w : World) :
    Calls Try.prog 63 #[.string s] w fun r w' => r = .returned (.pointer (some ⟨w.heap.size, 0, none⟩)) ∧ RS w.heap.size ⟨s, 0, 0, 0⟩ w' ∧ Below w.heap.size w w' := by
  have h : RS w.heap.size ⟨s, 0, 0, 0⟩ (w.alloc (.cells (sc ⟨s, 0, 0, 0⟩) 167)) := heap_alloc_new w _
  go_enter Try.func63, Try.ntmps63
  go_wp2
  go_ret
  exact ⟨rfl, h, (Below.refl _ w).alloc (Nat.le_refl _) _⟩

set_option maxHeartbeats 2000000 in
set_option maxRecDepth 100000 in
theorem Read_any (s : ByteArray) (hs : s.size ≤ 1099511627776) (w : World) :
    Calls Try.prog 32 #[.string s] w fun r w' => ∃ v, r = .returned (.tuple #[v, .int .i64 ((readS s).2.1 : Nat), .int .i64 ((readS s).2.2.1 : Nat), .int .i64 ((readS s).2.2.2 : Nat)]) ∧ w'.ownsRow w.heap.size 37 5 v (readS s).1.length (kcs (readS s).1) ∧ Below w.heap.size w w' := by
  have hok0 : (⟨s, 0, 0, 0⟩ : S).ok := ⟨Nat.zero_le _, hs, Nat.zero_le _, Nat.zero_le _⟩
  have hdef := Lib.hid (show readS s = if (poolS ⟨s, 0, 0, 0⟩).2.err = 0 then ((poolS ⟨s, 0, 0, 0⟩).1, (poolS ⟨s, 0, 0, 0⟩).2.pos, 0, 0) else ([], 0, (poolS ⟨s, 0, 0, 0⟩).2.err, (poolS ⟨s, 0, 0, 0⟩).2.errs) from rfl)
  go_enter Try.func32, Try.ntmps32
  go_wp2_with fail
  refine (NewReader_any s w).mono ?_
  rintro e w1 ⟨rfl, h1, hb1⟩
  go_wp2_with fail
  refine (Pool_any w.heap.size ⟨s, 0, 0, 0⟩ hok0 w1 h1).mono ?_
  rintro e w2 ⟨v, rfl, r2, h2, o2, hu2⟩
  have hb2 : Below w.heap.size w w2 := hb1.trans ⟨hu2.os, hu2.tape, hu2.output, hu2.size, fun k hk => hu2.block k (by have := hb1.size; omega) (by simp; omega)⟩
  have r2' := own_mono r2 hb1.size
  clear r2 hu2 hb1 h1
  generalize poolS ⟨s, 0, 0, 0⟩ = r at *
  obtain ⟨l, y⟩ := r
  simp only [] at r2' h2 o2 hdef
  go_wp2_with fail
  refine (Err_any w.heap.size y w2 h2).mono ?_
  rintro e w3 ⟨rfl, hb3⟩
  have h3 := h2.up hb3
  have r3 := own_below r2' hb3
  have hb3' := hb2.trans (hb3.mono hb2.size)
  by_cases he : y.err = 0
  · have e0 : ((y.err : Int) == 0) = true := by rw [beq_iff_eq]; omega
    have HR := Lib.hid (show readS s = (l, y.pos, 0, 0) by rw [hdef.out, if_pos he])
    clear he hdef
    go_wp2_with fail
    refine (At_any w.heap.size y w3 h3).mono ?_
    rintro e w4 ⟨rfl, hb4⟩
    have r4 := own_below r3 hb4
    go_wp2
    refine bodyPost_ret (results_tmp4 rfl _ _ _) rfl ?_
    exact ⟨v, by rw [HR.out]; rfl, by rw [HR.out]; exact r4, hb3'.trans (hb4.mono hb3'.size)⟩
  · have e0 : ((y.err : Int) == 0) = false := by rw [beq_eq_false_iff_ne]; omega
    have HR := Lib.hid (show readS s = ([], 0, y.err, y.errs) by rw [hdef.out, if_neg he])
    clear he hdef
    go_wp2
    refine bodyPost_ret (results_tmp4 rfl _ _ _) rfl ?_
    exact ⟨_, by rw [HR.out]; rfl, by rw [HR.out]; exact World.ownsRow_nil _ _ _ _, hb3'⟩
end Go.Proofs.Ytfnjbmpolggdeaa
