/-
  jvmcoreref1.Read: what it computes.
-/
import Derived.Test.YtfnjbmpolggdeaaRefRead
import Derived.Test.YtfnjbmpolggdeaaRefPoolW
namespace Go.Proofs.Ytfnjbmpolggdeaa
open Go.RowKit Go.Lib
set_option linter.unusedVariables false
set_option linter.unusedSimpArgs false

theorem num_sub {s : ByteArray} {p m a b : Nat} (hb : b ≤ m) (hm : p + m ≤ s.size) : bs ((s.extract p (p + m)).extract a b) = bs (s.extract (p + a) (p + b)) := by
  rw [bs_extract, bs_extract, bs_extract, List.drop_take, List.take_take, List.drop_drop]
  congr 1
  omega
theorem numE_lt {s : ByteArray} {p n : Nat} : numE s p n < 256 ^ n := by
  unfold numE
  have := numB_lt (bs (s.extract p (p + n))) (bs_lt _)
  rw [bs_length, ByteArray.size_extract] at this
  exact Nat.lt_of_lt_of_le this (Nat.pow_le_pow_right (by decide) (by omega))

theorem own_set {w : World} {B e n : Nat} {v : Value} {xs : List Value} (h : w.ownsRow B e 5 v n xs) (p i : Nat) (u : Value) (hg : ∀ g, v.ownBlock = some g → g < p) : (w.setCell ⟨p, i, none⟩ u).ownsRow B e 5 v n xs :=
  h.kept (Up.set w p i u) (by cases hv : v.ownBlock with | none => exact .inl rfl | some g => exact .inr (by have := hg g hv; simp; omega))

set_option maxHeartbeats 8000000 in
set_option maxRecDepth 100000 in
theorem RefRead_any (s : ByteArray) (hs : s.size ≤ 1099511627776) (w : World) :
    Calls Try.prog 33 #[.string s] w fun r w' => ∃ v, r = .returned (.tuple #[v, .int .i64 ((readS s).2.1 : Nat), .int .i64 ((readS s).2.2.1 : Nat), .int .i64 ((readS s).2.2.2 : Nat)]) ∧ w'.ownsRow w.heap.size 37 5 v (readS s).1.length (kcs (readS s).1) ∧ Below w.heap.size w w' := by
  by_cases h2 : s.size < 2
  · have hR : readS s = ([], 0, 1, s.size) := by
      rw [readS_out]; unfold poolS
      simp only [numS_few (show s.size - 0 < 2 by omega)]
      rw [if_pos trivial, failS_bad (by simp), poolL_bad (by simp)]
      simp [outS]
    have HR := Lib.hid hR
    have a1 : (s.size : Int) < 2 := by omega
    clear hR
    go_enter Try.func33, Try.ntmps33
    go_wp2
    refine bodyPost_ret (results_tmp4 rfl _ _ _) rfl ?_
    exact ⟨_, by rw [HR.out]; rfl, by rw [HR.out]; exact World.ownsRow_nil _ _ _ _, Below.refl _ _⟩
  have a1 : (2 : Int) ≤ s.size := by omega
  have a2 : 2 ≤ s.size := by omega
  have hnum : numB (bs (s.extract 0 2)) = numE s 0 2 := by unfold numE; rfl
  have hlt := numE_lt (s := s) (p := 0) (n := 2)
  have hdef : readS s = outS (poolL (numE s 0 2) [K0] (if numE s 0 2 = 0 then ⟨s, 2, 12, 0⟩ else ⟨s, 2, 0, 0⟩)) := by
    rw [readS_out]; unfold poolS
    simp only [numS_many (show ¬ s.size - 0 < 2 by omega)]
    rfl
  have hE2 : (s.extract 0 2).size ≤ 8 := by simp only [ByteArray.size_extract]; omega
  go_enter Try.func33, Try.ntmps33
  go_wp2_with fail
  refine (RefNum_any (s.extract 0 2) hE2 _).mono ?_
  rintro e w1 ⟨rfl, hb1⟩
  rw [hnum]
  generalize numE s 0 2 = n at *
  have hn65 : n < 65536 := hlt
  have HD := Lib.hid hdef
  clear hdef hlt hnum hE2
  by_cases hn0 : n = 0
  · subst hn0
    have hR : readS s = ([], 0, 12, 0) := by rw [HD.out, if_pos rfl, poolL_bad (by simp)]; simp [outS]
    have HR := Lib.hid hR
    clear hR
    go_wp2
    refine bodyPost_ret (results_tmp4 rfl _ _ _) rfl ?_
    exact ⟨_, by rw [HR.out]; rfl, by rw [HR.out]; exact World.ownsRow_nil _ _ _ _, hb1⟩
  have e0 : ((n : Int) == 0) = false := by rw [beq_eq_false_iff_ne]; omega
  have hn1 : (n : Int) < 65536 := by omega
  have hst : Hid (readS s = outS (poolL n [K0] ⟨s, 2, 0, 0⟩)) := by unfold Hid; rw [HD.out, if_neg hn0]
  have hn1' : 1 ≤ n := by omega
  clear HD hn0
  have HN := Lib.hid (show n < 65536 ∧ 1 ≤ n from ⟨hn65, hn1'⟩)
  have hB1 := hb1.size
  have r3 : (w1.alloc (.cells #[.int .u8 0, .string ⟨#[]⟩, .int .u64 0, .int .u16 0, .int .u16 0] 37)).ownsRow w.heap.size 37 5 (.slice (some ⟨w1.heap.size, 0, none⟩) 1 1) 1 (kcs [K0]) := by
    refine ⟨rfl, .inr ⟨w1.heap.size, 1, _, rfl, hB1, heap_alloc_new w1 _, ?_⟩⟩
    simp [kcs, kc, K0, maxLen, Value.oneCell']
  have b3 : Below w.heap.size w (w1.alloc (.cells #[.int .u8 0, .string ⟨#[]⟩, .int .u64 0, .int .u16 0, .int .u16 0] 37)) := hb1.alloc hB1 _
  go_wp2_with fail
  generalize (w1.alloc (.cells #[.int .u8 0, .string ⟨#[]⟩, .int .u64 0, .int .u16 0, .int .u16 0] 37)) = w3 at *
  have h1l : [K0].length ≤ n := by simp; omega
  clear hn65 hn1 e0 hn1'
  go_loopw [7, 8] (fun v p wr => ∃ (l : List K) (k : Nat), lenOf v = l.length ∧ wr.ownsRow w.heap.size 37 5 v l.length (kcs l) ∧ p = .int .i64 (k : Nat) ∧ k ≤ s.size ∧ Below w.heap.size w wr ∧ l.length ≤ n ∧ Hid (readS s = outS (poolL n l ⟨s, k, 0, 0⟩))) (fun v _ _ => n - lenOf v)
  case atStart => exact ⟨[K0], 2, rfl, r3, rfl, a2, b3, h1l, hst⟩
  case round =>
    clear hst r3 b3 hb1 hB1 h1l
    obtain ⟨l, k, hlv, hown, rfl, hk, hbel, hlen, hW⟩ := hrel
    obtain ⟨a, cp, rfl, _⟩ := Rd.own hown
    have hBr := hbel.size
    by_cases hlt : l.length < n
    · have HWL := Lib.hid hlt
      by_cases hend : s.size ≤ k
      · have x1 : (s.size : Int) ≤ k := by omega
        have HR := Lib.hid (show readS s = ([], 0, 1, s.size) by rw [hW.out, poolL_err hlt hk (e := 1) (a := s.size) (by unfold oneR; rw [if_pos hend])])
        go_wp2
        refine bodyPost_ret (results_tmp4 rfl _ _ _) rfl ?_
        exact ⟨_, by rw [HR.out]; rfl, by rw [HR.out]; exact World.ownsRow_nil _ _ _ _, hbel⟩
      have x1 : (k : Int) < s.size := by omega
      have htl := bAt_lt s k
      have HEnd := Lib.hid hend
      have hkk : k < s.size := by omega
      have HT := Lib.hid (bAt_eq hkk)
      have hgc : ∀ g, (Value.slice a l.length cp).ownBlock = some g → g < wr.heap.size := fun g hg => own_lt hown g hg
      have HGC := Lib.hid hgc
      have HOWN := Lib.hid hown
      have HBEL := Lib.hid hbel
      clear hend hgc hown hbel
      go_wp2_with fail
      rw [HT.out]
      generalize hB : bAt s k = tag at *
      have HB := Lib.hid hB
      clear hB HT hkk
      have hgc := HGC.out
      have d4 : CS wr.heap.size ⟨tag, ⟨#[]⟩, 0, 0, 0⟩ (wr.alloc (.cells #[.int .u8 (tag : Nat), .string ⟨#[]⟩, .int .u64 0, .int .u16 0, .int .u16 0] 37)) := CS.new _ wr
      have r4 := own_below HOWN.out ((Below.refl _ wr).alloc (Nat.le_refl _) (.cells #[.int .u8 (tag : Nat), .string ⟨#[]⟩, .int .u64 0, .int .u16 0, .int .u16 0] 37))
      have b4 := HBEL.out.alloc hBr (.cells #[.int .u8 (tag : Nat), .string ⟨#[]⟩, .int .u64 0, .int .u16 0, .int .u16 0] 37)
      clear HOWN HBEL HGC
      generalize (wr.alloc (.cells #[.int .u8 (tag : Nat), .string ⟨#[]⟩, .int .u64 0, .int .u16 0, .int .u16 0] 37)) = w4 at *
      generalize wr.heap.size = p at *
      refine (sizes_any tag _ rfl _).mono ?_
      rintro e w5 ⟨rfl, hb5⟩
      have d5 := d4.kept hb5
      have r5 := own_below r4 hb5
      have b5 := b4.trans (hb5.mono b4.size)
      obtain ⟨g0, g1, g2, g3, g4⟩ := id d5.c
      simp only [] at g0 g1 g2 g3 g4
      clear d4 r4 b4 hb5

      by_cases hsz : sizeN tag = 0
      · have hI : sizesI tag = -1 := by revert hsz; unfold sizeN sizesI; split <;> (try split) <;> (try split) <;> simp
        have HR := Lib.hid (show readS s = ([], 0, 5, k) by rw [hW.out, poolL_err hlt hk (e := 5) (a := k) (by unfold oneR; rw [if_neg HEnd.out]; simp only [HB.out]; rw [if_pos hsz])])
        rw [hI]
        clear hI hsz
        go_wp2
        refine bodyPost_ret (results_tmp4 rfl _ _ _) rfl ?_
        exact ⟨_, by rw [HR.out]; rfl, by rw [HR.out]; exact World.ownsRow_nil _ _ _ _, b5⟩
      have hI : sizesI tag = (sizeN tag : Nat) := by revert hsz; unfold sizeN sizesI; split <;> (try split) <;> (try split) <;> simp
      have hS8' : sizeN tag ≤ 8 := by unfold sizeN; split <;> (try split) <;> (try split) <;> omega
      rw [hI]
      clear hI
      have HSZ := Lib.hid hsz
      clear hsz
      generalize hSN : sizeN tag = sz at *
      have HSN := Lib.hid hSN
      clear hSN
      have hsz0 : (0 : Int) ≤ (sz : Nat) := by omega
      by_cases hfew : s.size < k + 1 + sz
      · have x2 : (s.size : Int) < (k : Int) + 1 + sz := by omega
        have HR := Lib.hid (show readS s = ([], 0, 1, s.size) by rw [hW.out, poolL_err hlt hk (e := 1) (a := s.size) (by unfold oneR; rw [if_neg HEnd.out]; simp only [HB.out, HSN.out]; rw [if_neg HSZ.out, if_pos hfew])])
        clear hfew
        go_wp2
        refine bodyPost_ret (results_tmp4 rfl _ _ _) rfl ?_
        exact ⟨_, by rw [HR.out]; rfl, by rw [HR.out]; exact World.ownsRow_nil _ _ _ _, b5⟩
      have x2 : (k : Int) + 1 + sz ≤ s.size := by omega
      have x3 : k + 1 + sz ≤ s.size := by omega
      have HFEW := Lib.hid hfew
      clear hfew
      go_upto_block 2 with (fail)
      go_cut [8] (fun v8 wc => ∃ (c : K) (q : Nat), v8 = .int .i64 (q : Nat) ∧ q ≤ s.size ∧ CS p c wc ∧ c.tag < 256 ∧ wc.ownsRow w.heap.size 37 5 (.slice a l.length cp) l.length (kcs l) ∧ Below w.heap.size w wc ∧ Hid (oneR s k = .ok (c, q)))
      case first =>
        have HONE := Lib.hid (show ∀ r, (if tag = 1 then
    if s.size < k + 3 + numE s (k + 1) 2 then .error (1, s.size)
    else if (units (bs (s.extract (k + 3) (k + 3 + numE s (k + 1) 2)))).isSome then .ok (⟨1, s.extract (k + 3) (k + 3 + numE s (k + 1) 2), 0, 0, 0⟩, k + 3 + numE s (k + 1) 2)
    else .error (6, k)
  else if tag = 3 ∨ tag = 4 ∨ tag = 5 ∨ tag = 6 then .ok (⟨tag, ⟨#[]⟩, numE s (k + 1) (sizeN tag), 0, 0⟩, k + 1 + sizeN tag)
  else if tag = 7 ∨ tag = 8 then .ok (⟨tag, ⟨#[]⟩, 0, numE s (k + 1) 2, 0⟩, k + 3)
  else .ok (⟨tag, ⟨#[]⟩, 0, numE s (k + 1) 2, numE s (k + 3) 2⟩, k + 5)) = r → oneR s k = r from fun r hr => by
            rw [← hr]; unfold oneR; rw [if_neg HEnd.out]; simp only [HB.out, HSN.out]; rw [if_neg HSZ.out, if_neg HFEW.out])
        have hE2 := numE_lt (s := s) (p := k + 1) (n := 2)
        clear htl
        by_cases t1 : tag = 1
        · subst t1
          obtain rfl : sz = 2 := by rw [← HSN.out]; rfl
          have hz : (s.extract (k + 1) (k + 1 + 2)).size ≤ 8 := by simp only [ByteArray.size_extract]; omega
          clear x2 x3
          go_wp2_with fail
          refine (RefNum_any (s.extract (k + 1) (k + 1 + 2)) hz _).mono ?_
          rintro e w6 ⟨rfl, hb6⟩
          have d6 := d5.kept hb6
          have r6 := own_below r5 hb6
          have b6 := b5.trans (hb6.mono b5.size)
          obtain ⟨g0, g1, g2, g3, g4⟩ := id d6.c
          simp only [] at g0 g1 g2 g3 g4
          have fz := d6.f 1
          rw [show numB (bs (s.extract (k + 1) (k + 1 + 2))) = numE s (k + 1) 2 from rfl]
          clear d5 r5 b5 hb6 hz
          generalize numE s (k + 1) 2 = m at *
          have hm : m < 65536 := hE2
          clear hE2
          by_cases hfew : s.size < k + 3 + m
          · have x2 : (s.size : Int) < (k : Int) + 1 + 2 + m := by omega
            have HR := Lib.hid (show readS s = ([], 0, 1, s.size) by rw [hW.out, poolL_err hlt hk (e := 1) (a := s.size) (HONE.out _ (by rw [if_pos trivial, if_pos hfew]))])
            clear hfew
            go_wp2
            refine bodyPost_ret (results_tmp4 rfl _ _ _) rfl ?_
            exact ⟨_, by rw [HR.out]; rfl, by rw [HR.out]; exact World.ownsRow_nil _ _ _ _, b6⟩
          have x2 : (k : Int) + 1 + 2 + m ≤ s.size := by omega
          have x3 : k + 1 + 2 + m ≤ s.size := by omega
          have HF2 := Lib.hid hfew
          clear hfew
          have d7 : CS p ⟨1, s.extract (k + 1 + 2) (k + 1 + 2 + m), 0, 0, 0⟩ (w6.setCell ⟨p, 1, none⟩ (.string (s.extract (k + 1 + 2) (k + 1 + 2 + m)))) := d6.set 1 _ rfl
          have r7 := own_set r6 p 1 (.string (s.extract (k + 1 + 2) (k + 1 + 2 + m))) hgc
          have b7 := b6.setCell (p := ⟨p, 1, none⟩) hBr (.string (s.extract (k + 1 + 2) (k + 1 + 2 + m)))
          have hez : (s.extract (k + 1 + 2) (k + 1 + 2 + m)).size ≤ 140737488355327 / 8 := by simp only [ByteArray.size_extract]; omega
          have HEZ := Lib.hid hez
          clear hez
          go_wp2_with fail
          refine (RefUnits_any (s.extract (k + 1 + 2) (k + 1 + 2 + m)) _ HEZ.out).mono ?_
          rintro e w8 ⟨v8, b8, rfl, hb8, _, hbe8⟩
          have d8 := d7.kept hbe8
          have r8 := own_below r7 hbe8
          have b8' := b7.trans (hbe8.mono b7.size)
          have HB8 := Lib.hid hb8
          clear hb8 d7 r7 b7 d6 r6 b6 hbe8
          cases b8 with
          | false =>
            have HR := Lib.hid (show readS s = ([], 0, 6, k) by
              rw [hW.out, poolL_err hlt hk (e := 6) (a := k) (HONE.out _ (by rw [if_pos trivial, if_neg HF2.out, if_neg (by have := HB8.out; rw [show k + 1 + 2 = k + 3 by omega] at this; rw [← this]; decide)]))])
            go_wp2
            refine bodyPost_ret (results_tmp4 rfl _ _ _) rfl ?_
            exact ⟨_, by rw [HR.out]; rfl, by rw [HR.out]; exact World.ownsRow_nil _ _ _ _, b8'⟩
          | true =>
            have HO := Lib.hid (show oneR s k = .ok (⟨1, s.extract (k + 1 + 2) (k + 1 + 2 + m), 0, 0, 0⟩, k + 1 + 2 + m) from HONE.out _ (by
              rw [show k + 1 + 2 = k + 3 by omega, if_pos trivial, if_neg HF2.out, if_pos (by have := HB8.out; rw [show k + 1 + 2 = k + 3 by omega] at this; exact this.symm)]))
            go_wp2_with fail
            go_meet
            exact ⟨_, k + 1 + 2 + m, by go_num, x3, d8, by simp, r8, b8', HO⟩
        · by_cases t36 : tag = 3 ∨ tag = 4 ∨ tag = 5 ∨ tag = 6
          · have hz : (s.extract (k + 1) (k + 1 + sz)).size ≤ 8 := by simp only [ByteArray.size_extract]; omega
            have HO := Lib.hid (show oneR s k = .ok (⟨tag, ⟨#[]⟩, numE s (k + 1) sz, 0, 0⟩, k + 1 + sz) from HONE.out _ (by rw [if_neg t1, if_pos t36, HSN.out]))
            have hE8 : numE s (k + 1) sz < 18446744073709551616 := Nat.lt_of_lt_of_le numE_lt (Nat.pow_le_pow_right (by decide) hS8' : 256 ^ sz ≤ 256 ^ 8)
            clear HONE t1 hE2
            have hzero := Lib.hid hE8
            clear hE8
            rcases t36 with rfl | rfl | rfl | rfl
            all_goals
              go_wp2_with fail
              refine (RefNum_any (s.extract (k + 1) (k + 1 + sz)) hz _).mono ?_
              rintro e w6 ⟨rfl, hb6⟩
              have d6 := d5.kept hb6
              have r6 := own_below r5 hb6
              have b6 := b5.trans (hb6.mono b5.size)
              obtain ⟨g0, g1, g2, g3, g4⟩ := id d6.c
              simp only [] at g0 g1 g2 g3 g4
              have fz := d6.f 2
              rw [show numB (bs (s.extract (k + 1) (k + 1 + sz))) = numE s (k + 1) sz from rfl]
              clear d5 r5 b5 hb6 hz
              generalize numE s (k + 1) sz = m at *
              have d7 := d6.set (d := ⟨_, ⟨#[]⟩, m, 0, 0⟩) 2 (.int .u64 (m : Nat)) rfl
              have r7 := own_set r6 p 2 (.int .u64 (m : Nat)) hgc
              have b7 := b6.setCell (p := ⟨p, 2, none⟩) hBr (.int .u64 (m : Nat))
              go_wp2_with fail
              go_meet
              exact ⟨_, k + 1 + sz, by go_num, x3, d7, by simp, r7, b7, HO⟩
          · by_cases t78 : tag = 7 ∨ tag = 8
            · obtain rfl : sz = 2 := by rw [← HSN.out]; rcases t78 with rfl | rfl <;> rfl
              have hz : (s.extract (k + 1) (k + 1 + 2)).size ≤ 8 := by simp only [ByteArray.size_extract]; omega
              have HO := Lib.hid (show oneR s k = .ok (⟨tag, ⟨#[]⟩, 0, numE s (k + 1) 2, 0⟩, k + 1 + 2) from HONE.out _ (by rw [if_neg t1, if_neg t36, if_pos t78]))
              clear HONE t1 t36
              rcases t78 with rfl | rfl
              all_goals
                go_wp2_with fail
                refine (RefNum_any (s.extract (k + 1) (k + 1 + 2)) hz _).mono ?_
                rintro e w6 ⟨rfl, hb6⟩
                have d6 := d5.kept hb6
                have r6 := own_below r5 hb6
                have b6 := b5.trans (hb6.mono b5.size)
                obtain ⟨g0, g1, g2, g3, g4⟩ := id d6.c
                simp only [] at g0 g1 g2 g3 g4
                have fz := d6.f 3
                rw [show numB (bs (s.extract (k + 1) (k + 1 + 2))) = numE s (k + 1) 2 from rfl]
                clear d5 r5 b5 hb6 hz
                generalize numE s (k + 1) 2 = m at *
                have hm : (m : Int) < 65536 := by have : m < 65536 := hE2; omega
                clear hE2
                have d7 := d6.set (d := ⟨_, ⟨#[]⟩, 0, m, 0⟩) 3 (.int .u16 (m : Nat)) rfl
                have r7 := own_set r6 p 3 (.int .u16 (m : Nat)) hgc
                have b7 := b6.setCell (p := ⟨p, 3, none⟩) hBr (.int .u16 (m : Nat))
                go_wp2_with fail
                go_meet
                exact ⟨_, k + 1 + 2, by go_num, x3, d7, by simp, r7, b7, HO⟩
            · have h912 : 9 ≤ tag ∧ tag ≤ 12 := by have := HSZ.out; have h2 := HSN.out; unfold sizeN at h2; split at h2 <;> (try split at h2) <;> (try split at h2) <;> omega
              obtain rfl : sz = 4 := by rw [← HSN.out]; unfold sizeN; rw [if_neg (by omega), if_pos (by omega)]
              have hbz : (s.extract (k + 1) (k + 1 + 4)).size = 4 := by simp only [ByteArray.size_extract]; omega
              have hn1 : numB (bs ((s.extract (k + 1) (k + 1 + 4)).extract 0 2)) = numE s (k + 1) 2 := by rw [num_sub (by omega) x3]; rfl
              have hn2 : numB (bs ((s.extract (k + 1) (k + 1 + 4)).extract 2 (s.extract (k + 1) (k + 1 + 4)).size)) = numE s (k + 3) 2 := by rw [hbz, num_sub (by omega) x3]; rfl
              have hE3 := numE_lt (s := s) (p := k + 3) (n := 2)
              have HO := Lib.hid (show oneR s k = .ok (⟨tag, ⟨#[]⟩, 0, numE s (k + 1) 2, numE s (k + 3) 2⟩, k + 1 + 4) from HONE.out _ (by rw [if_neg t1, if_neg t36, if_neg t78]))
              clear HONE
              generalize s.extract (k + 1) (k + 1 + 4) = bb at *
              have hb2 : (2 : Int) ≤ bb.size := by omega
              have hb2' : 2 ≤ bb.size := by omega
              have hz1 : (bb.extract 0 2).size ≤ 8 := by simp only [ByteArray.size_extract]; omega
              have hz2 : (bb.extract 2 bb.size).size ≤ 8 := by simp only [ByteArray.size_extract]; omega
              generalize numE s (k + 1) 2 = m1 at *
              generalize numE s (k + 3) 2 = m2 at *
              have hm1 : (m1 : Int) < 65536 := by have : m1 < 65536 := hE2; omega
              have hm2 : (m2 : Int) < 65536 := by have : m2 < 65536 := hE3; omega
              have HN1 := Lib.hid hn1
              have HN2 := Lib.hid hn2
              have htt := Lib.hid (show tag < 256 by omega)
              have e1 : ((tag : Int) == 1) = false := by rw [beq_eq_false_iff_ne]; omega
              have e3 : ((tag : Int) == 3) = false := by rw [beq_eq_false_iff_ne]; omega
              have e4 : ((tag : Int) == 4) = false := by rw [beq_eq_false_iff_ne]; omega
              have e5 : ((tag : Int) == 5) = false := by rw [beq_eq_false_iff_ne]; omega
              have e6 : ((tag : Int) == 6) = false := by rw [beq_eq_false_iff_ne]; omega
              have e7 : ((tag : Int) == 7) = false := by rw [beq_eq_false_iff_ne]; omega
              have e8 : ((tag : Int) == 8) = false := by rw [beq_eq_false_iff_ne]; omega
              clear hn1 hn2 hbz hE2 hE3 t1 t36 t78 h912
              go_wp2_with fail
              refine (RefNum_any (bb.extract 0 2) hz1 _).mono ?_
              rintro e w6 ⟨rfl, hb6⟩
              rw [HN1.out]
              have d6 := d5.kept hb6
              have r6 := own_below r5 hb6
              have b6 := b5.trans (hb6.mono b5.size)
              obtain ⟨g0, g1, g2, g3, g4⟩ := id d6.c
              simp only [] at g0 g1 g2 g3 g4
              have fz := d6.f 3
              clear d5 r5 b5 hb6 hz1
              have d7 := d6.set (d := ⟨tag, ⟨#[]⟩, 0, m1, 0⟩) 3 (.int .u16 (m1 : Nat)) rfl
              have r7 := own_set r6 p 3 (.int .u16 (m1 : Nat)) hgc
              have b7 := b6.setCell (p := ⟨p, 3, none⟩) hBr (.int .u16 (m1 : Nat))
              go_wp2_with fail
              refine (RefNum_any (bb.extract 2 bb.size) hz2 _).mono ?_
              rintro e w8 ⟨rfl, hb8⟩
              rw [HN2.out]
              have d8 := d7.kept hb8
              have r8 := own_below r7 hb8
              have b8 := b7.trans (hb8.mono b7.size)
              obtain ⟨g0, g1, g2, g3, g4⟩ := id d8.c
              simp only [] at g0 g1 g2 g3 g4
              have fz := d8.f 4
              clear d6 r6 b6 d7 r7 b7 hb8 hz2
              have d9 := d8.set (d := ⟨tag, ⟨#[]⟩, 0, m1, m2⟩) 4 (.int .u16 (m2 : Nat)) rfl
              have r9 := own_set r8 p 4 (.int .u16 (m2 : Nat)) hgc
              have b9 := b8.setCell (p := ⟨p, 4, none⟩) hBr (.int .u16 (m2 : Nat))
              go_wp2_with fail
              go_meet
              exact ⟨_, k + 1 + 4, by go_num, x3, d9, htt.out, r9, b9, HO⟩
      case rest =>
        obtain ⟨c, q, rfl, hq, dC, hct, rC, bC, HO⟩ := hcut
        clear d5 r5 b5
        have hBc : w.heap.size ≤ wc.heap.size := bC.size
        obtain ⟨t, text, bits, ca, cb⟩ := c
        obtain ⟨g0, g1, g2, g3, g4⟩ := id dC.c
        simp only [] at g0 g1 g2 g3 g4 hct
        go_upto_region 42 with (at_builtin; refine app_elem rfl _ _ 34 rfl 37 _ 5 40 Try.underlying34 Try.infoC rfl (by decide) 0 w.heap.size (Below.refl 0 wc) rC rfl [Value.int .u8 (t : Int), Value.string text, Value.int .u64 (bits : Int), Value.int .u16 (ca : Int), Value.int .u16 (cb : Int)] rfl (by simp [Value.oneCell']) _ rfl (by have := HN.out; have := HWL.out; omega) (by have := HN.out; have := HWL.out; omega) (by omega) (by omega) ?_ rfl; intro v7 w7 r7 _ hg7; have ck7 : CK ⟨t, text, bits, ca, cb⟩ p w7 := dC.c.grown hg7 (fun hh => by have := hgc p hh; omega); obtain ⟨a7, cp7, rfl, _⟩ := Rd.own r7)
        have k7 : Below w.heap.size w w7 := bC.grown hg7 hBc (fun g hg => own_ge rC g hg)
        obtain ⟨g0, g1, g2, g3, g4⟩ := id ck7
        simp only [] at g0 g1 g2 g3 g4
        have hB7 := k7.size
        have hl1 : (l ++ [(⟨t, text, bits, ca, cb⟩ : K)]).length = l.length + 1 := by simp
        have e7 : kcs l ++ [Value.int .u8 (t : Int), Value.string text, Value.int .u64 (bits : Int), Value.int .u16 (ca : Int), Value.int .u16 (cb : Int)] = kcs (l ++ [(⟨t, text, bits, ca, cb⟩ : K)]) := (kcs_snoc l ⟨t, text, bits, ca, cb⟩).symm
        rw [e7] at r7
        clear e7 rC bC dC
        by_cases h56 : t = 5 ∨ t = 6
        · have hb2 : big2 (⟨t, text, bits, ca, cb⟩ : K) = true := by unfold big2; rcases h56 with hh | hh <;> simp [hh]
          have HB2 := Lib.hid hb2
          clear hb2
          have e7 : kcs (l ++ [(⟨t, text, bits, ca, cb⟩ : K)]) ++ [Value.int .u8 0, Value.string ⟨#[]⟩, Value.int .u64 0, Value.int .u16 0, Value.int .u16 0] = kcs (l ++ [(⟨t, text, bits, ca, cb⟩ : K)] ++ [K0]) := (kcs_snoc (l ++ [(⟨t, text, bits, ca, cb⟩ : K)]) K0).symm
          have hl2 : (l ++ [(⟨t, text, bits, ca, cb⟩ : K)] ++ [K0]).length = l.length + 2 := by simp
          have ways : (((t : Int) == 5) = true) ∨ ((((t : Int) == 5) = false) ∧ (((t : Int) == 6) = true)) := by
            by_cases h5 : t = 5
            · exact .inl (by rw [beq_iff_eq]; omega)
            · exact .inr ⟨by rw [beq_eq_false_iff_ne]; omega, by rw [beq_iff_eq]; omega⟩
          have HOV := Lib.hid (show n < l.length + 2 → readS s = ([], 0, 12, k) from fun hov => by rw [hW.out, poolL_over HWL.out hov hk HO.out HB2.out])
          have HTW := Lib.hid (show l.length + 2 ≤ n → readS s = outS (poolL n (l ++ [(⟨t, text, bits, ca, cb⟩ : K)] ++ [K0]) ⟨s, q, 0, 0⟩) from fun hov => by rw [hW.out, poolL_two hov hk HO.out HB2.out])
          clear hW HO h56 hct
          generalize l ++ [(⟨t, text, bits, ca, cb⟩ : K)] = l1 at *
          generalize kcs l1 = cells1 at *
          rcases ways with e5 | ⟨e5, e6⟩
          all_goals
            go_upto_region 44 with (at_builtin; refine app_elem rfl _ _ 34 rfl 37 _ 5 40 Try.underlying34 Try.infoC rfl (by decide) 0 w.heap.size (Below.refl 0 w7) r7 rfl [Value.int .u8 0, Value.string ⟨#[]⟩, Value.int .u64 0, Value.int .u16 0, Value.int .u16 0] rfl (by simp [Value.oneCell']) _ rfl (by have := HN.out; have := HWL.out; omega) (by have := HN.out; have := HWL.out; omega) (by omega) (by omega) ?_ rfl; intro v8 w8 r8 _ hg8; obtain ⟨a8, cp8, rfl, _⟩ := Rd.own r8)
            have k8 : Below w.heap.size w w8 := k7.grown hg8 hB7 (fun g hg => own_ge r7 g hg)
            rw [e7] at r8
            by_cases hov : n < l.length + 2
            · have x1 : (n : Int) < (l.length : Int) + 1 + 1 := by omega
              have HR := Lib.hid (HOV.out hov)
              clear hov
              go_wp2
              refine bodyPost_ret (results_tmp4 rfl _ _ _) rfl ?_
              exact ⟨_, by rw [HR.out]; rfl, by rw [HR.out]; exact World.ownsRow_nil _ _ _ _, k8⟩
            · have x1 : (l.length : Int) + 1 + 1 ≤ (n : Int) := by omega
              have hle : l.length + 2 ≤ n := by omega
              have HR := Lib.hid (HTW.out hle)
              go_wp2
              go_roundw
              case rel => exact ⟨l1 ++ [K0], q, by rw [hl2]; rfl, by rw [hl2]; exact r8, rfl, hq, k8, by omega, HR⟩
              case measure => simp [lenOf]; omega
        · have hb2 : big2 (⟨t, text, bits, ca, cb⟩ : K) = false := by unfold big2; simp; omega
          have HR := Lib.hid (show readS s = outS (poolL n (l ++ [(⟨t, text, bits, ca, cb⟩ : K)]) ⟨s, q, 0, 0⟩) by rw [hW.out, poolL_ok HWL.out hk HO.out hb2])
          have e5 : ((t : Int) == 5) = false := by rw [beq_eq_false_iff_ne]; omega
          have e6 : ((t : Int) == 6) = false := by rw [beq_eq_false_iff_ne]; omega
          clear hb2 hW HO
          go_wp2
          go_roundw
          case rel => exact ⟨l ++ [⟨t, text, bits, ca, cb⟩], q, by rw [hl1]; rfl, by rw [hl1]; exact r7, rfl, hq, k7, by omega, HR⟩
          case measure => simp [lenOf]; omega

    · have HR := Lib.hid (show readS s = (l, k, 0, 0) by rw [hW.out, poolL_end hlt])
      go_wp2
      refine bodyPost_ret (results_tmp4 rfl _ _ _) rfl ?_
      exact ⟨_, by rw [HR.out]; rfl, by rw [HR.out]; exact hown, hbel⟩
end Go.Proofs.Ytfnjbmpolggdeaa
