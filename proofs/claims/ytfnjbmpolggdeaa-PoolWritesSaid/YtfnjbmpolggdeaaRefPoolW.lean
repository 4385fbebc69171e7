/-
  jvmcoreref1.sizes, Write: what they compute.
-/
import Derived.Test.YtfnjbmpolggdeaaPoolW
import Derived.Test.YtfnjbmpolggdeaaTexts
import Derived.Deep.RegionWith
namespace Go.Proofs.Ytfnjbmpolggdeaa
open Go.RowKit Go.Lib
set_option linter.unusedVariables false
set_option linter.unusedSimpArgs false

def sizesI (t : Nat) : Int := if t = 1 ∨ t = 7 ∨ t = 8 then 2 else if t = 3 ∨ t = 4 ∨ (9 ≤ t ∧ t ≤ 12) then 4 else if t = 5 ∨ t = 6 then 8 else -1
set_option maxHeartbeats 4000000 in
set_option maxRecDepth 100000 in
theorem sizes_any (t : Nat) (i : Int) (hi : i = t) (w : World) :
    Calls Try.prog 58 #[.int .u8 i] w fun e w' => e = .returned (.int .i64 (sizesI t)) ∧ Below w.heap.size w w' := by
  subst hi
  rcases (by omega : t = 1 ∨ t = 3 ∨ t = 4 ∨ t = 5 ∨ t = 6 ∨ t = 7 ∨ t = 8 ∨ t = 9 ∨ t = 10 ∨ t = 11 ∨ t = 12 ∨ (t ≠ 1 ∧ t ≠ 3 ∧ t ≠ 4 ∧ t ≠ 5 ∧ t ≠ 6 ∧ t ≠ 7 ∧ t ≠ 8 ∧ t ≠ 9 ∧ t ≠ 10 ∧ t ≠ 11 ∧ t ≠ 12)) with rfl | rfl | rfl | rfl | rfl | rfl | rfl | rfl | rfl | rfl | rfl | h
  iterate 11 (· (go_enter Try.func58, Try.ntmps58; go_wp2; go_ret; exact ⟨rfl, Below.refl _ _⟩))
  · have hs : sizesI t = -1 := by unfold sizesI; rw [if_neg (by omega), if_neg (by omega), if_neg (by omega)]
    rw [hs]
    have e1 : ((t : Int) == 1) = false := by rw [beq_eq_false_iff_ne]; omega
    have e3 : ((t : Int) == 3) = false := by rw [beq_eq_false_iff_ne]; omega
    have e4 : ((t : Int) == 4) = false := by rw [beq_eq_false_iff_ne]; omega
    have e5 : ((t : Int) == 5) = false := by rw [beq_eq_false_iff_ne]; omega
    have e6 : ((t : Int) == 6) = false := by rw [beq_eq_false_iff_ne]; omega
    have e7 : ((t : Int) == 7) = false := by rw [beq_eq_false_iff_ne]; omega
    have e8 : ((t : Int) == 8) = false := by rw [beq_eq_false_iff_ne]; omega
    have e9 : ((t : Int) == 9) = false := by rw [beq_eq_false_iff_ne]; omega
    have e10 : ((t : Int) == 10) = false := by rw [beq_eq_false_iff_ne]; omega
    have e11 : ((t : Int) == 11) = false := by rw [beq_eq_false_iff_ne]; omega
    have e12 : ((t : Int) == 12) = false := by rw [beq_eq_false_iff_ne]; omega
    go_enter Try.func58, Try.ntmps58
    go_wp2
    go_ret
    exact ⟨rfl, Below.refl _ _⟩

theorem bigAB {a b : Nat} (hb : b < 65536) : bigB (a * 65536 + b) 4 = bigB a 2 ++ bigB b 2 := by
  simp [bigB]; omega
def emAt (l : List K) (k : Nat) : Bool := if k = 0 then true else match l[k - 1]? with | some c => big2 c | none => false
theorem emAt_succ {l : List K} {k : Nat} (h : k < l.length) : emAt l (k + 1) = big2 l[k] := by
  unfold emAt; rw [if_neg (by omega), Nat.add_sub_cancel, List.getElem?_eq_getElem h]
theorem sb_app3 (a b : List Nat) (c : ByteArray) : sb a ++ (sb b ++ c) = sb (a ++ (b ++ bs c)) := by
  rw [show c = sb (bs c) from (sb_bs c).symm, sb_append, sb_append, bs_sb (bs_lt c)]

set_option maxHeartbeats 4000000 in
set_option maxRecDepth 100000 in
theorem RefWrite_any (l : List K) (hl : ∀ c ∈ l, c.ok) (v : Value) (w : World) (B : Nat) (hr : Rd B w v l.length (kcs l)) (hB : B ≤ w.heap.size) (hn : l.length ≤ 9223372036854775807) :
    Calls Try.prog 23 #[v] w fun e w' => e = .returned (.tuple #[.string (poolR l).1, .int .i64 ((poolR l).2.1 : Nat), .int .i64 ((poolR l).2.2 : Nat)]) ∧ Below w.heap.size w w' := by
  obtain ⟨a, c, rfl, hr'⟩ := id hr
  have hlit := lit_str1 (P := Try.prog) Try.underlying87 Try.underlying5 Try.underlying9
  by_cases hbad : l.length = 0 ∨ 65535 < l.length
  · have hR : poolR l = (⟨#[]⟩, 12, 0) := by unfold poolR; rw [if_pos hbad]
    rw [hR]
    rcases hbad with h | h
    · have a1 : (l.length : Int) < 1 := by omega
      go_enter Try.func23, Try.ntmps23
      go_wp2
      go_ret3
      exact ⟨rfl, Below.refl _ _⟩
    · have a1 : (65535 : Int) < l.length := by omega
      go_enter Try.func23, Try.ntmps23
      go_wp2
      go_ret3
      exact ⟨rfl, Below.refl _ _⟩
  · have a1 : (1 : Int) ≤ l.length := by omega
    have a2 : (l.length : Int) ≤ 65535 := by omega
    have Hbad := Lib.hid hbad
    clear hbad
    go_enter Try.func23, Try.ntmps23
    go_wp2_with fail
    refine (RefBig_any l.length 2 _ rfl _ rfl _ (by omega) (by omega)).mono ?_
    rintro e w1 ⟨rfl, hb1⟩
    have hs1 := hb1.size
    clear hr'
    go_wp2_with fail
    go_loopw [5, 28] (fun s i wr => ∃ (k : Nat) (acc : List Nat), k ≤ l.length ∧ i = .int .i64 k ∧ s = .string (sb acc) ∧ acc.length ≤ 2 + 65540 * k ∧ Below w.heap.size w wr ∧
      Hid (poolW l 0 true = (poolW (l.drop k) k (emAt l k)).map ((acc.drop 2) ++ ·)) ∧ Hid (acc.take 2 = bigB l.length 2)) (fun _ i _ => l.length - (intOf i).toNat)
    case atStart => exact ⟨0, bigB l.length 2, by omega, rfl, rfl, by rw [bigB_length]; omega, hb1, by
      unfold Hid; rw [List.drop_of_length_le (by rw [bigB_length]; exact Nat.le_refl _), List.drop_zero]; rw [show emAt l 0 = true from rfl]; cases poolW l 0 true <;> rfl, by unfold Hid; exact List.take_of_length_le (by rw [bigB_length]; exact Nat.le_refl _)⟩
    case round =>
      obtain ⟨k, acc, hk, rfl, rfl, hacc, hbel, hW, hT⟩ := hrel
      have hws := hbel.size
      have hsz : (sb acc).size ≤ 4295200000 := by rw [sb_size]; omega
      by_cases hlt : k < l.length
      · have hrw := hr.below (hbel.mono hB) (Nat.le_refl _)
        obtain ⟨_, _, he, hr2⟩ := hrw
        simp only [Value.slice.injEq] at he
        obtain ⟨rfl, _, rfl⟩ := he
        rcases hr2 with hr2 | ⟨b, o, rfl, hbB, hcell⟩
        · have : (kcs l)[k * 5 + 0]? = _ := kcs_get hlt 0 (by decide)
          rw [hr2] at this; simp [kc] at this
        have c0 : wr.cell? ⟨b, o + k * 5, none⟩ = some (.int .u8 (l[k].tag : Nat)) := hcell (k * 5 + 0) _ (kcs_get hlt 0 (by decide))
        have c1 : wr.cell? ⟨b, o + k * 5 + 1, none⟩ = some (.string l[k].text) := hcell (k * 5 + 1) _ (kcs_get hlt 1 (by decide))
        have c2 : wr.cell? ⟨b, o + k * 5 + 2, none⟩ = some (.int .u64 (l[k].bits : Nat)) := hcell (k * 5 + 2) _ (kcs_get hlt 2 (by decide))
        have c3 : wr.cell? ⟨b, o + k * 5 + 3, none⟩ = some (.int .u16 (l[k].a : Nat)) := hcell (k * 5 + 3) _ (kcs_get hlt 3 (by decide))
        have c4 : wr.cell? ⟨b, o + k * 5 + 4, none⟩ = some (.int .u16 (l[k].b : Nat)) := hcell (k * 5 + 4) _ (kcs_get hlt 4 (by decide))
        have hck := CK.new l[k] wr 37
        have hcok := hl l[k] (List.getElem_mem _)
        have hdrop : l.drop k = l[k] :: l.drop (k + 1) := List.drop_eq_getElem_cons hlt
        have hem : emAt l (k + 1) = big2 l[k] := emAt_succ hlt
        have hbel1 := hbel.alloc hws (.cells (kc l[k]).toArray 37)
        have hacc2 : 2 ≤ acc.length := by have := congrArg List.length hT.out; rw [bigB_length, List.length_take] at this; omega
        have hprev : ∀ m, k = m + 1 → ∃ t : Nat, wr.cell? ⟨b, o + m * 5, none⟩ = some (.int .u8 (t : Nat)) ∧ emAt l k = (t == 5 || t == 6) := fun m hm => by
          have hml : m < l.length := by omega
          refine ⟨l[m].tag, hcell (m * 5 + 0) _ (kcs_get hml 0 (by decide)), ?_⟩
          rw [hm, emAt_succ hml]; rfl
        clear hcell
        have hgr := World.grownBy_alloc wr (.cells (kc l[k]).toArray 37) none
        go_upto_region 7 with (fail)
        simp only [kc] at hck hbel1 hgr
        generalize (wr.alloc (.cells [Value.int .u8 (l[k].tag : Int), Value.string l[k].text, Value.int .u64 (l[k].bits : Int), Value.int .u16 (l[k].a : Int), Value.int .u16 (l[k].b : Int)].toArray 37)) = w3 at *
        have hs1 := hbel1.size
        go_cut [8] (fun v8 wc => ∃ bh : Bool, v8 = .bool bh ∧ (k = 0 → bh = false) ∧ Hid (emAt l k = (decide (k = 0) || bh)) ∧ wc = w3)
        case first =>
          rcases k with _ | m
          · go_wp2
            go_meet
            exact ⟨false, rfl, fun _ => rfl, rfl, rfl⟩
          · obtain ⟨t, hc, hemk⟩ := hprev m rfl
            have hc3 := hgr.cell hc (fun e => by simp at e)
            have p1 : (0 : Int) < (m + 1 : Nat) := by omega
            have p2 : ((m + 1 : Nat) : Int) - 1 = (m : Nat) := by omega
            clear hc hprev
            rcases (by omega : t = 5 ∨ t = 6 ∨ (t ≠ 5 ∧ t ≠ 6)) with rfl | rfl | h
            · go_wp2
              go_meet
              exact ⟨true, rfl, fun h => by omega, by unfold Hid; rw [hemk]; rfl, rfl⟩
            · go_wp2
              go_meet
              exact ⟨true, rfl, fun h => by omega, by unfold Hid; rw [hemk]; rfl, rfl⟩
            · have q5 : ((t : Int) == 5) = false := by rw [beq_eq_false_iff_ne]; omega
              have q6 : ((t : Int) == 6) = false := by rw [beq_eq_false_iff_ne]; omega
              go_wp2
              go_meet
              exact ⟨false, rfl, fun _ => rfl, by unfold Hid; rw [hemk]; simp [h.1, h.2], rfl⟩
        case rest =>
          obtain ⟨bh, rfl, hb0, hE, rfl⟩ := hcut
          clear c0 c1 c2 c3 c4 hbel hprev hgr
          have HD := Lib.hid hdrop
          clear hdrop
          generalize l[k] = cc at *
          obtain ⟨tag, text, bits, ca, cb⟩ := cc
          obtain ⟨ok1, ok2, ok3, ok4, ok5⟩ := hcok
          simp only [] at ok1 ok2 ok3 ok4 ok5
          generalize wr.heap.size = q at *
          obtain ⟨d0, d1, d2, d3, d4⟩ := id hck
          simp only [] at d0 d1 d2 d3 d4
          clear hr hbB
          have HEM := Lib.hid hem
          clear hem
          by_cases hz : tag = 0 ∧ emAt l k = true
          · obtain ⟨rfl, hek⟩ := hz
            have hW2 : Hid (poolW l 0 true = (poolW (l.drop (k + 1)) (k + 1) (emAt l (k + 1))).map ((acc.drop 2) ++ ·)) := by unfold Hid; rw [hW.out, HD.out, hek, pw_zero rfl, HEM.out]; rfl
            have hE2 := hE.out
            rw [hek] at hE2
            clear hE hek hW HD HEM
            by_cases hk0 : k = 0
            · obtain rfl := hk0
              clear hE2
              go_wp2
              go_roundw
              case rel => exact ⟨1, acc, by omega, by go_num, rfl, by omega, hbel1, hW2, hT⟩
              case measure => simp [intOf]; omega
            · have x0 : ((k : Int) == 0) = false := by rw [beq_eq_false_iff_ne]; omega
              obtain rfl : bh = true := by simpa [hk0] using hE2.symm
              clear hE2 hb0
              go_wp2
              go_roundw
              case rel => exact ⟨k + 1, acc, by omega, by go_num, rfl, by omega, hbel1, hW2, hT⟩
              case measure => simp [intOf]; omega
          · have hstop : emAt l k = true ∨ tag = 0 → poolR l = (⟨#[]⟩, 5, k) := fun h => by
              unfold poolR; rw [if_neg Hbad.out, hW.out, HD.out, pw_bad (by intro e; have e2 : decide (tag = 0) = emAt l k := e; by_cases ht : tag = 0 <;> cases hek : emAt l k <;> simp_all)]; rfl
            have HST := Lib.hid hstop
            clear hstop
            have hck1 := hck
            clear hck
            by_cases ht0 : tag = 0
            · subst ht0
              have hk0 : k ≠ 0 := fun h => hz ⟨rfl, by rw [hE.out]; simp [h]⟩
              obtain rfl : bh = false := by cases bh with | false => rfl | true => exact absurd ⟨rfl, by rw [hE.out]; simp⟩ hz
              have HSR := Lib.hid (HST.out (.inr rfl))
              have x0 : ((k : Int) == 0) = false := by rw [beq_eq_false_iff_ne]; omega
              clear hz hb0
              go_wp2_with fail
              refine (sizes_any 0 _ rfl _).mono ?_
              rintro e w4 ⟨rfl, hb4⟩
              have hbel4 := hbel1.trans (hb4.mono hs1)
              have hs4 := hbel4.size
              have hck4 := hck1.below hb4
              obtain ⟨d0, d1, d2, d3, d4⟩ := id hck4
              try simp only [] at d0 d1 d2 d3 d4
              rw [show sizesI 0 = -1 from rfl]
              go_wp2
              go_ret3
              exact ⟨by rw [HSR.out]; rfl, hbel4⟩
            · clear hz
              have e0 : ((tag : Int) == 0) = false := by rw [beq_eq_false_iff_ne]; omega
              have HZ := Lib.hid ht0
              go_wp2_with fail
              refine (sizes_any tag _ rfl _).mono ?_
              rintro e w4 ⟨rfl, hb4⟩
              have hbel4 := hbel1.trans (hb4.mono hs1)
              have hs4 := hbel4.size
              have hck4 := hck1.below hb4
              obtain ⟨d0, d1, d2, d3, d4⟩ := id hck4
              try simp only [] at d0 d1 d2 d3 d4
              by_cases hek : emAt l k = true
              · have HSR := Lib.hid (HST.out (.inl hek))
                generalize sizesI tag = sz at *
                by_cases hk0 : k = 0
                · subst hk0
                  clear hE hek
                  go_wp2
                  go_ret3
                  exact ⟨by rw [HSR.out]; rfl, hbel4⟩
                · have x0 : ((k : Int) == 0) = false := by rw [beq_eq_false_iff_ne]; omega
                  obtain rfl : bh = true := by have := hE.out; simpa [hk0, hek] using this.symm
                  clear hE hek hb0
                  go_wp2
                  go_ret3
                  exact ⟨by rw [HSR.out]; rfl, hbel4⟩
              · obtain rfl : bh = false := by cases bh with | false => rfl | true => exact absurd (by rw [hE.out]; simp) hek
                have hk0 : k ≠ 0 := fun h => hek (by rw [hE.out]; simp [h])
                have x0 : ((k : Int) == 0) = false := by rw [beq_eq_false_iff_ne]; omega
                have hW2 : Hid (poolW l 0 true = (poolW (l.drop k) k false).map ((acc.drop 2) ++ ·)) := by unfold Hid; rw [hW.out, show emAt l k = false by simpa using hek]
                have HEK := Lib.hid hek
                clear hE hek hb0 hW hk0 ht0
                by_cases ht : tag = 1
                · subst ht
                  rw [show sizesI 1 = 2 from rfl]
                  have hs1n : strOfNums [(1 : Int)] = sb [1] := strOfNums_nats [1]
                  go_wp2_with fail
                  refine (RefUnits_any text _ (by omega)).mono ?_
                  rintro e w5 ⟨vu, bu, rfl, rfl, hownu, hb5⟩
                  clear hownu
                  have hbel5 := hbel4.trans (hb5.mono hs4)
                  have hs5 := hbel5.size
                  have hck5 := hck4.below hb5
                  obtain ⟨d0, d1, d2, d3, d4⟩ := id hck5
                  try simp only [] at d0 d1 d2 d3 d4
                  by_cases hu : (units (bs text)).isSome = true
                  · rw [hu]
                    have hu2 : units (bs text) ≠ none := by intro h; simp [h] at hu
                    by_cases hlen : 65535 < text.size
                    · have x1 : (65535 : Int) < text.size := by omega
                      go_wp2
                      go_ret3
                      exact ⟨by rw [show poolR l = (⟨#[]⟩, 12, k) by unfold poolR; rw [if_neg Hbad.out, hW2.out, HD.out, pw_err HZ.out (by simp [kerr, hu2, hlen]), show kerr ⟨1, text, bits, ca, cb⟩ = 12 by simp [kerr, hu2, hlen]]; rfl]; rfl, hbel5⟩
                    · have x1 : (text.size : Int) ≤ 65535 := by omega
                      have hk0 : kerr ⟨1, text, bits, ca, cb⟩ = 0 := by simp [kerr, hu2, hlen]
                      have HK0 := Lib.hid hk0
                      clear hk0 hu hlen hu2
                      go_upto_region 23 with (fail)
                      have hzl6 : (sb (bigB text.size 2)).size ≤ 2 := by rw [sb_size, bigB_length]; exact Nat.le_refl _
                      have hno : (sb (bigB text.size 2)).size + text.size ≤ 9223372036854775807 := by omega
                      have hno2 : ¬ 9223372036854775807 < (sb (bigB text.size 2)).size + text.size := by omega
                      have hwr : IntKind.u64.wrap (text.size : Int) = text.size := by rw [IntKind.wrap_u64]; omega
                      go_region_held3 (fun w' => w'.cell? ⟨q, 1, none⟩ = some (.string text)) (first | exact d1 | exact dn) ((go_at_call 57; refine (RefBig_any text.size 2 _ (by first | exact hwr | omega) _ (by omega) _ (by omega) (by omega)).mono ?_; rintro e w6 ⟨rfl, hb6⟩; have hb6' : Below w5.heap.size w5 w6 := ⟨hb6.os, hb6.tape, hb6.output, hb6.size, hb6.block⟩; have dn := (hck5.below hb6').2.1))
                      have hbel6 := hbel5.trans (hb6'.mono hs5)
                      have hs6 := hbel6.size
                      have hck6 := hck5.below hb6'
                      obtain ⟨d0, d1, d2, d3, d4⟩ := id hck6
                      try simp only [] at d0 d1 d2 d3 d4
                      have happ : sb acc ++ (sb [1] ++ (sb (bigB text.size 2) ++ text)) = sb (acc ++ (1 :: (bigB text.size 2 ++ bs text))) := by
                        first | (simp only [sb_append]; rfl) | (rw [sb_app3 [1], sb_append]; rfl)
                      have hs1z : (sb [1]).size ≤ 1 := by rw [sb_size]; exact Nat.le_refl _
                      have hq1 : ((sb (bigB text.size 2) ++ text)).size ≤ 65600 := by simp only [ByteArray.size_append, sb_size, bigB_length]; omega
                      have hq2 : (sb [1] ++ (sb (bigB text.size 2) ++ text)).size ≤ 65601 := by simp only [ByteArray.size_append, sb_size, bigB_length, List.length_cons, List.length_nil]; omega
                      go_wp2
                      go_roundw
                      case rel => exact ⟨k + 1, acc ++ (1 :: (bigB text.size 2 ++ bs text)), by omega, by go_num, by first | rfl | rw [happ], by simp [bigB_length, bs_length]; omega, hbel6.alloc hs6 _, by
                        unfold Hid; rw [hW2.out, HD.out, pw_ok HZ.out HK0.out, HEM.out, show big2 ⟨1, text, bits, ca, cb⟩ = false from rfl, List.drop_append_of_le_length hacc2]; cases poolW (l.drop (k + 1)) (k + 1) false <;> simp [kbytes, Except.map, bigAB ok5], by unfold Hid; rw [List.take_append_of_le_length hacc2]; exact hT.out⟩
                      case measure => simp [intOf]; omega
                  · have hu' : (units (bs text)).isSome = false := by simpa using hu
                    rw [hu']
                    go_wp2
                    have hk6 : kerr ⟨1, text, bits, ca, cb⟩ = 6 := by unfold kerr; rw [if_pos rfl, if_pos]; simpa using hu'
                    go_ret3
                    exact ⟨by rw [show poolR l = (⟨#[]⟩, 6, k) by unfold poolR; rw [if_neg Hbad.out, hW2.out, HD.out, pw_err HZ.out (by rw [hk6]; decide), hk6]; rfl]; rfl, hbel5⟩
                · by_cases ht : tag = 3
                  · subst ht
                    rw [show sizesI 3 = 4 from rfl]
                    have hs1n : strOfNums [(3 : Int)] = sb [3] := strOfNums_nats [3]
                    by_cases hbig : 4294967296 ≤ bits
                    · have x1 : (4294967296 : Int) ≤ bits := by omega
                      have hk12 : kerr ⟨3, text, bits, ca, cb⟩ = 12 := by simp [kerr, hbig]
                      go_wp2
                      go_ret3
                      exact ⟨by rw [show poolR l = (⟨#[]⟩, 12, k) by unfold poolR; rw [if_neg Hbad.out, hW2.out, HD.out, pw_err HZ.out (by rw [hk12]; decide), hk12]; rfl]; rfl, hbel4⟩
                    · have x1 : (decide ((4294967296 : Int) ≤ (bits : Int))) = false := by rw [decide_eq_false_iff_not]; omega
                      have hk0 : kerr ⟨3, text, bits, ca, cb⟩ = 0 := by simp [kerr]; omega
                      clear hbig
                      have HK0 := Lib.hid hk0
                      clear hk0
                      go_wp2_with fail
                      refine (RefBig_any (bits) 4 _ rfl _ rfl _ (by omega) (by omega)).mono ?_
                      rintro e w5 ⟨rfl, hb5⟩
                      have hbel5 := hbel4.trans (hb5.mono hs4)
                      have hs5 := hbel5.size
                      have hck5 := hck4.below hb5
                      obtain ⟨d0, d1, d2, d3, d4⟩ := id hck5
                      try simp only [] at d0 d1 d2 d3 d4
                      have hz5 : (sb (bigB (bits) 4)).size = 4 := by rw [sb_size, bigB_length]
                      have hzl5 : (sb (bigB (bits) 4)).size ≤ 4 := by omega
                      clear hz5
                      have happ : sb acc ++ (sb [3] ++ sb (bigB bits 4)) = sb (acc ++ (3 :: bigB bits 4)) := by
                        first | (simp only [sb_append]; rfl) | (rw [sb_app3 [3], sb_append]; rfl)
                      have hs1z : (sb [3]).size ≤ 1 := by rw [sb_size]; exact Nat.le_refl _
                      have hq1 : (sb (bigB bits 4)).size ≤ 65600 := by simp only [ByteArray.size_append, sb_size, bigB_length]; omega
                      have hq2 : (sb [3] ++ sb (bigB bits 4)).size ≤ 65601 := by simp only [ByteArray.size_append, sb_size, bigB_length, List.length_cons, List.length_nil]; omega
                      go_wp2
                      go_roundw
                      case rel => exact ⟨k + 1, acc ++ (3 :: bigB bits 4), by omega, by go_num, by first | rfl | rw [happ], by simp [bigB_length, bs_length]; omega, hbel5.alloc hs5 _, by
                        unfold Hid; rw [hW2.out, HD.out, pw_ok HZ.out HK0.out, HEM.out, show big2 ⟨3, text, bits, ca, cb⟩ = false from rfl, List.drop_append_of_le_length hacc2]; cases poolW (l.drop (k + 1)) (k + 1) false <;> simp [kbytes, Except.map, bigAB ok5], by unfold Hid; rw [List.take_append_of_le_length hacc2]; exact hT.out⟩
                      case measure => simp [intOf]; omega
                  · by_cases ht : tag = 4
                    · subst ht
                      rw [show sizesI 4 = 4 from rfl]
                      have hs1n : strOfNums [(4 : Int)] = sb [4] := strOfNums_nats [4]
                      by_cases hbig : 4294967296 ≤ bits
                      · have x1 : (4294967296 : Int) ≤ bits := by omega
                        have hk12 : kerr ⟨4, text, bits, ca, cb⟩ = 12 := by simp [kerr, hbig]
                        go_wp2
                        go_ret3
                        exact ⟨by rw [show poolR l = (⟨#[]⟩, 12, k) by unfold poolR; rw [if_neg Hbad.out, hW2.out, HD.out, pw_err HZ.out (by rw [hk12]; decide), hk12]; rfl]; rfl, hbel4⟩
                      · have x1 : (decide ((4294967296 : Int) ≤ (bits : Int))) = false := by rw [decide_eq_false_iff_not]; omega
                        have hk0 : kerr ⟨4, text, bits, ca, cb⟩ = 0 := by simp [kerr]; omega
                        clear hbig
                        have HK0 := Lib.hid hk0
                        clear hk0
                        go_wp2_with fail
                        refine (RefBig_any (bits) 4 _ rfl _ rfl _ (by omega) (by omega)).mono ?_
                        rintro e w5 ⟨rfl, hb5⟩
                        have hbel5 := hbel4.trans (hb5.mono hs4)
                        have hs5 := hbel5.size
                        have hck5 := hck4.below hb5
                        obtain ⟨d0, d1, d2, d3, d4⟩ := id hck5
                        try simp only [] at d0 d1 d2 d3 d4
                        have hz5 : (sb (bigB (bits) 4)).size = 4 := by rw [sb_size, bigB_length]
                        have hzl5 : (sb (bigB (bits) 4)).size ≤ 4 := by omega
                        clear hz5
                        have happ : sb acc ++ (sb [4] ++ sb (bigB bits 4)) = sb (acc ++ (4 :: bigB bits 4)) := by
                          first | (simp only [sb_append]; rfl) | (rw [sb_app3 [4], sb_append]; rfl)
                        have hs1z : (sb [4]).size ≤ 1 := by rw [sb_size]; exact Nat.le_refl _
                        have hq1 : (sb (bigB bits 4)).size ≤ 65600 := by simp only [ByteArray.size_append, sb_size, bigB_length]; omega
                        have hq2 : (sb [4] ++ sb (bigB bits 4)).size ≤ 65601 := by simp only [ByteArray.size_append, sb_size, bigB_length, List.length_cons, List.length_nil]; omega
                        go_wp2
                        go_roundw
                        case rel => exact ⟨k + 1, acc ++ (4 :: bigB bits 4), by omega, by go_num, by first | rfl | rw [happ], by simp [bigB_length, bs_length]; omega, hbel5.alloc hs5 _, by
                          unfold Hid; rw [hW2.out, HD.out, pw_ok HZ.out HK0.out, HEM.out, show big2 ⟨4, text, bits, ca, cb⟩ = false from rfl, List.drop_append_of_le_length hacc2]; cases poolW (l.drop (k + 1)) (k + 1) false <;> simp [kbytes, Except.map, bigAB ok5], by unfold Hid; rw [List.take_append_of_le_length hacc2]; exact hT.out⟩
                        case measure => simp [intOf]; omega
                    · by_cases ht : tag = 5
                      · subst ht
                        rw [show sizesI 5 = 8 from rfl]
                        have hs1n : strOfNums [(5 : Int)] = sb [5] := strOfNums_nats [5]
                        have hk0 : kerr ⟨5, text, bits, ca, cb⟩ = 0 := by simp [kerr]
                        have HK0 := Lib.hid hk0
                        clear hk0
                        go_wp2_with fail
                        refine (RefBig_any (bits) 8 _ rfl _ rfl _ (by omega) (by omega)).mono ?_
                        rintro e w5 ⟨rfl, hb5⟩
                        have hbel5 := hbel4.trans (hb5.mono hs4)
                        have hs5 := hbel5.size
                        have hck5 := hck4.below hb5
                        obtain ⟨d0, d1, d2, d3, d4⟩ := id hck5
                        try simp only [] at d0 d1 d2 d3 d4
                        have hz5 : (sb (bigB (bits) 8)).size = 8 := by rw [sb_size, bigB_length]
                        have hzl5 : (sb (bigB (bits) 8)).size ≤ 8 := by omega
                        clear hz5
                        have happ : sb acc ++ (sb [5] ++ sb (bigB bits 8)) = sb (acc ++ (5 :: bigB bits 8)) := by
                          first | (simp only [sb_append]; rfl) | (rw [sb_app3 [5], sb_append]; rfl)
                        have hs1z : (sb [5]).size ≤ 1 := by rw [sb_size]; exact Nat.le_refl _
                        have hq1 : (sb (bigB bits 8)).size ≤ 65600 := by simp only [ByteArray.size_append, sb_size, bigB_length]; omega
                        have hq2 : (sb [5] ++ sb (bigB bits 8)).size ≤ 65601 := by simp only [ByteArray.size_append, sb_size, bigB_length, List.length_cons, List.length_nil]; omega
                        go_wp2
                        go_roundw
                        case rel => exact ⟨k + 1, acc ++ (5 :: bigB bits 8), by omega, by go_num, by first | rfl | rw [happ], by simp [bigB_length, bs_length]; omega, hbel5.alloc hs5 _, by
                          unfold Hid; rw [hW2.out, HD.out, pw_ok HZ.out HK0.out, HEM.out, show big2 ⟨5, text, bits, ca, cb⟩ = true from rfl, List.drop_append_of_le_length hacc2]; cases poolW (l.drop (k + 1)) (k + 1) true <;> simp [kbytes, Except.map, bigAB ok5], by unfold Hid; rw [List.take_append_of_le_length hacc2]; exact hT.out⟩
                        case measure => simp [intOf]; omega
                      · by_cases ht : tag = 6
                        · subst ht
                          rw [show sizesI 6 = 8 from rfl]
                          have hs1n : strOfNums [(6 : Int)] = sb [6] := strOfNums_nats [6]
                          have hk0 : kerr ⟨6, text, bits, ca, cb⟩ = 0 := by simp [kerr]
                          have HK0 := Lib.hid hk0
                          clear hk0
                          go_wp2_with fail
                          refine (RefBig_any (bits) 8 _ rfl _ rfl _ (by omega) (by omega)).mono ?_
                          rintro e w5 ⟨rfl, hb5⟩
                          have hbel5 := hbel4.trans (hb5.mono hs4)
                          have hs5 := hbel5.size
                          have hck5 := hck4.below hb5
                          obtain ⟨d0, d1, d2, d3, d4⟩ := id hck5
                          try simp only [] at d0 d1 d2 d3 d4
                          have hz5 : (sb (bigB (bits) 8)).size = 8 := by rw [sb_size, bigB_length]
                          have hzl5 : (sb (bigB (bits) 8)).size ≤ 8 := by omega
                          clear hz5
                          have happ : sb acc ++ (sb [6] ++ sb (bigB bits 8)) = sb (acc ++ (6 :: bigB bits 8)) := by
                            first | (simp only [sb_append]; rfl) | (rw [sb_app3 [6], sb_append]; rfl)
                          have hs1z : (sb [6]).size ≤ 1 := by rw [sb_size]; exact Nat.le_refl _
                          have hq1 : (sb (bigB bits 8)).size ≤ 65600 := by simp only [ByteArray.size_append, sb_size, bigB_length]; omega
                          have hq2 : (sb [6] ++ sb (bigB bits 8)).size ≤ 65601 := by simp only [ByteArray.size_append, sb_size, bigB_length, List.length_cons, List.length_nil]; omega
                          go_wp2
                          go_roundw
                          case rel => exact ⟨k + 1, acc ++ (6 :: bigB bits 8), by omega, by go_num, by first | rfl | rw [happ], by simp [bigB_length, bs_length]; omega, hbel5.alloc hs5 _, by
                            unfold Hid; rw [hW2.out, HD.out, pw_ok HZ.out HK0.out, HEM.out, show big2 ⟨6, text, bits, ca, cb⟩ = true from rfl, List.drop_append_of_le_length hacc2]; cases poolW (l.drop (k + 1)) (k + 1) true <;> simp [kbytes, Except.map, bigAB ok5], by unfold Hid; rw [List.take_append_of_le_length hacc2]; exact hT.out⟩
                          case measure => simp [intOf]; omega
                        · by_cases ht : tag = 7
                          · subst ht
                            rw [show sizesI 7 = 2 from rfl]
                            have hs1n : strOfNums [(7 : Int)] = sb [7] := strOfNums_nats [7]
                            have hk0 : kerr ⟨7, text, bits, ca, cb⟩ = 0 := by simp [kerr]
                            have HK0 := Lib.hid hk0
                            clear hk0
                            go_wp2_with fail
                            refine (RefBig_any (ca) 2 _ rfl _ rfl _ (by omega) (by omega)).mono ?_
                            rintro e w5 ⟨rfl, hb5⟩
                            have hbel5 := hbel4.trans (hb5.mono hs4)
                            have hs5 := hbel5.size
                            have hck5 := hck4.below hb5
                            obtain ⟨d0, d1, d2, d3, d4⟩ := id hck5
                            try simp only [] at d0 d1 d2 d3 d4
                            have hz5 : (sb (bigB (ca) 2)).size = 2 := by rw [sb_size, bigB_length]
                            have hzl5 : (sb (bigB (ca) 2)).size ≤ 2 := by omega
                            clear hz5
                            have happ : sb acc ++ (sb [7] ++ sb (bigB ca 2)) = sb (acc ++ (7 :: bigB ca 2)) := by
                              first | (simp only [sb_append]; rfl) | (rw [sb_app3 [7], sb_append]; rfl)
                            have hs1z : (sb [7]).size ≤ 1 := by rw [sb_size]; exact Nat.le_refl _
                            have hq1 : (sb (bigB ca 2)).size ≤ 65600 := by simp only [ByteArray.size_append, sb_size, bigB_length]; omega
                            have hq2 : (sb [7] ++ sb (bigB ca 2)).size ≤ 65601 := by simp only [ByteArray.size_append, sb_size, bigB_length, List.length_cons, List.length_nil]; omega
                            go_wp2
                            go_roundw
                            case rel => exact ⟨k + 1, acc ++ (7 :: bigB ca 2), by omega, by go_num, by first | rfl | rw [happ], by simp [bigB_length, bs_length]; omega, hbel5.alloc hs5 _, by
                              unfold Hid; rw [hW2.out, HD.out, pw_ok HZ.out HK0.out, HEM.out, show big2 ⟨7, text, bits, ca, cb⟩ = false from rfl, List.drop_append_of_le_length hacc2]; cases poolW (l.drop (k + 1)) (k + 1) false <;> simp [kbytes, Except.map, bigAB ok5], by unfold Hid; rw [List.take_append_of_le_length hacc2]; exact hT.out⟩
                            case measure => simp [intOf]; omega
                          · by_cases ht : tag = 8
                            · subst ht
                              rw [show sizesI 8 = 2 from rfl]
                              have hs1n : strOfNums [(8 : Int)] = sb [8] := strOfNums_nats [8]
                              have hk0 : kerr ⟨8, text, bits, ca, cb⟩ = 0 := by simp [kerr]
                              have HK0 := Lib.hid hk0
                              clear hk0
                              go_wp2_with fail
                              refine (RefBig_any (ca) 2 _ rfl _ rfl _ (by omega) (by omega)).mono ?_
                              rintro e w5 ⟨rfl, hb5⟩
                              have hbel5 := hbel4.trans (hb5.mono hs4)
                              have hs5 := hbel5.size
                              have hck5 := hck4.below hb5
                              obtain ⟨d0, d1, d2, d3, d4⟩ := id hck5
                              try simp only [] at d0 d1 d2 d3 d4
                              have hz5 : (sb (bigB (ca) 2)).size = 2 := by rw [sb_size, bigB_length]
                              have hzl5 : (sb (bigB (ca) 2)).size ≤ 2 := by omega
                              clear hz5
                              have happ : sb acc ++ (sb [8] ++ sb (bigB ca 2)) = sb (acc ++ (8 :: bigB ca 2)) := by
                                first | (simp only [sb_append]; rfl) | (rw [sb_app3 [8], sb_append]; rfl)
                              have hs1z : (sb [8]).size ≤ 1 := by rw [sb_size]; exact Nat.le_refl _
                              have hq1 : (sb (bigB ca 2)).size ≤ 65600 := by simp only [ByteArray.size_append, sb_size, bigB_length]; omega
                              have hq2 : (sb [8] ++ sb (bigB ca 2)).size ≤ 65601 := by simp only [ByteArray.size_append, sb_size, bigB_length, List.length_cons, List.length_nil]; omega
                              go_wp2
                              go_roundw
                              case rel => exact ⟨k + 1, acc ++ (8 :: bigB ca 2), by omega, by go_num, by first | rfl | rw [happ], by simp [bigB_length, bs_length]; omega, hbel5.alloc hs5 _, by
                                unfold Hid; rw [hW2.out, HD.out, pw_ok HZ.out HK0.out, HEM.out, show big2 ⟨8, text, bits, ca, cb⟩ = false from rfl, List.drop_append_of_le_length hacc2]; cases poolW (l.drop (k + 1)) (k + 1) false <;> simp [kbytes, Except.map, bigAB ok5], by unfold Hid; rw [List.take_append_of_le_length hacc2]; exact hT.out⟩
                              case measure => simp [intOf]; omega
                            · by_cases ht : tag = 9
                              · subst ht
                                rw [show sizesI 9 = 4 from rfl]
                                have hs1n : strOfNums [(9 : Int)] = sb [9] := strOfNums_nats [9]
                                have hk0 : kerr ⟨9, text, bits, ca, cb⟩ = 0 := by simp [kerr]
                                have HK0 := Lib.hid hk0
                                clear hk0
                                go_wp2_with fail
                                refine (RefBig_any (ca) 2 _ rfl _ rfl _ (by omega) (by omega)).mono ?_
                                rintro e w5 ⟨rfl, hb5⟩
                                have hbel5 := hbel4.trans (hb5.mono hs4)
                                have hs5 := hbel5.size
                                have hck5 := hck4.below hb5
                                obtain ⟨d0, d1, d2, d3, d4⟩ := id hck5
                                try simp only [] at d0 d1 d2 d3 d4
                                have hz5 : (sb (bigB (ca) 2)).size = 2 := by rw [sb_size, bigB_length]
                                have hzl5 : (sb (bigB (ca) 2)).size ≤ 2 := by omega
                                clear hz5
                                go_wp2_with fail
                                refine (RefBig_any (cb) 2 _ rfl _ rfl _ (by omega) (by omega)).mono ?_
                                rintro e w6 ⟨rfl, hb6⟩
                                have hbel6 := hbel5.trans (hb6.mono hs5)
                                have hs6 := hbel6.size
                                have hck6 := hck5.below hb6
                                obtain ⟨d0, d1, d2, d3, d4⟩ := id hck6
                                try simp only [] at d0 d1 d2 d3 d4
                                have hz6 : (sb (bigB (cb) 2)).size = 2 := by rw [sb_size, bigB_length]
                                have hzl6 : (sb (bigB (cb) 2)).size ≤ 2 := by omega
                                clear hz6
                                have happ : sb acc ++ (sb [9] ++ (sb (bigB ca 2) ++ sb (bigB cb 2))) = sb (acc ++ (9 :: (bigB ca 2 ++ bigB cb 2))) := by
                                  first | (simp only [sb_append]; rfl) | (rw [sb_app3 [9], sb_append]; rfl)
                                have hs1z : (sb [9]).size ≤ 1 := by rw [sb_size]; exact Nat.le_refl _
                                have hq1 : ((sb (bigB ca 2) ++ sb (bigB cb 2))).size ≤ 65600 := by simp only [ByteArray.size_append, sb_size, bigB_length]; omega
                                have hq2 : (sb [9] ++ (sb (bigB ca 2) ++ sb (bigB cb 2))).size ≤ 65601 := by simp only [ByteArray.size_append, sb_size, bigB_length, List.length_cons, List.length_nil]; omega
                                go_wp2
                                go_roundw
                                case rel => exact ⟨k + 1, acc ++ (9 :: (bigB ca 2 ++ bigB cb 2)), by omega, by go_num, by first | rfl | rw [happ], by simp [bigB_length, bs_length]; omega, hbel6.alloc hs6 _, by
                                  unfold Hid; rw [hW2.out, HD.out, pw_ok HZ.out HK0.out, HEM.out, show big2 ⟨9, text, bits, ca, cb⟩ = false from rfl, List.drop_append_of_le_length hacc2]; cases poolW (l.drop (k + 1)) (k + 1) false <;> simp [kbytes, Except.map, bigAB ok5], by unfold Hid; rw [List.take_append_of_le_length hacc2]; exact hT.out⟩
                                case measure => simp [intOf]; omega
                              · by_cases ht : tag = 10
                                · subst ht
                                  rw [show sizesI 10 = 4 from rfl]
                                  have hs1n : strOfNums [(10 : Int)] = sb [10] := strOfNums_nats [10]
                                  have hk0 : kerr ⟨10, text, bits, ca, cb⟩ = 0 := by simp [kerr]
                                  have HK0 := Lib.hid hk0
                                  clear hk0
                                  go_wp2_with fail
                                  refine (RefBig_any (ca) 2 _ rfl _ rfl _ (by omega) (by omega)).mono ?_
                                  rintro e w5 ⟨rfl, hb5⟩
                                  have hbel5 := hbel4.trans (hb5.mono hs4)
                                  have hs5 := hbel5.size
                                  have hck5 := hck4.below hb5
                                  obtain ⟨d0, d1, d2, d3, d4⟩ := id hck5
                                  try simp only [] at d0 d1 d2 d3 d4
                                  have hz5 : (sb (bigB (ca) 2)).size = 2 := by rw [sb_size, bigB_length]
                                  have hzl5 : (sb (bigB (ca) 2)).size ≤ 2 := by omega
                                  clear hz5
                                  go_wp2_with fail
                                  refine (RefBig_any (cb) 2 _ rfl _ rfl _ (by omega) (by omega)).mono ?_
                                  rintro e w6 ⟨rfl, hb6⟩
                                  have hbel6 := hbel5.trans (hb6.mono hs5)
                                  have hs6 := hbel6.size
                                  have hck6 := hck5.below hb6
                                  obtain ⟨d0, d1, d2, d3, d4⟩ := id hck6
                                  try simp only [] at d0 d1 d2 d3 d4
                                  have hz6 : (sb (bigB (cb) 2)).size = 2 := by rw [sb_size, bigB_length]
                                  have hzl6 : (sb (bigB (cb) 2)).size ≤ 2 := by omega
                                  clear hz6
                                  have happ : sb acc ++ (sb [10] ++ (sb (bigB ca 2) ++ sb (bigB cb 2))) = sb (acc ++ (10 :: (bigB ca 2 ++ bigB cb 2))) := by
                                    first | (simp only [sb_append]; rfl) | (rw [sb_app3 [10], sb_append]; rfl)
                                  have hs1z : (sb [10]).size ≤ 1 := by rw [sb_size]; exact Nat.le_refl _
                                  have hq1 : ((sb (bigB ca 2) ++ sb (bigB cb 2))).size ≤ 65600 := by simp only [ByteArray.size_append, sb_size, bigB_length]; omega
                                  have hq2 : (sb [10] ++ (sb (bigB ca 2) ++ sb (bigB cb 2))).size ≤ 65601 := by simp only [ByteArray.size_append, sb_size, bigB_length, List.length_cons, List.length_nil]; omega
                                  go_wp2
                                  go_roundw
                                  case rel => exact ⟨k + 1, acc ++ (10 :: (bigB ca 2 ++ bigB cb 2)), by omega, by go_num, by first | rfl | rw [happ], by simp [bigB_length, bs_length]; omega, hbel6.alloc hs6 _, by
                                    unfold Hid; rw [hW2.out, HD.out, pw_ok HZ.out HK0.out, HEM.out, show big2 ⟨10, text, bits, ca, cb⟩ = false from rfl, List.drop_append_of_le_length hacc2]; cases poolW (l.drop (k + 1)) (k + 1) false <;> simp [kbytes, Except.map, bigAB ok5], by unfold Hid; rw [List.take_append_of_le_length hacc2]; exact hT.out⟩
                                  case measure => simp [intOf]; omega
                                · by_cases ht : tag = 11
                                  · subst ht
                                    rw [show sizesI 11 = 4 from rfl]
                                    have hs1n : strOfNums [(11 : Int)] = sb [11] := strOfNums_nats [11]
                                    have hk0 : kerr ⟨11, text, bits, ca, cb⟩ = 0 := by simp [kerr]
                                    have HK0 := Lib.hid hk0
                                    clear hk0
                                    go_wp2_with fail
                                    refine (RefBig_any (ca) 2 _ rfl _ rfl _ (by omega) (by omega)).mono ?_
                                    rintro e w5 ⟨rfl, hb5⟩
                                    have hbel5 := hbel4.trans (hb5.mono hs4)
                                    have hs5 := hbel5.size
                                    have hck5 := hck4.below hb5
                                    obtain ⟨d0, d1, d2, d3, d4⟩ := id hck5
                                    try simp only [] at d0 d1 d2 d3 d4
                                    have hz5 : (sb (bigB (ca) 2)).size = 2 := by rw [sb_size, bigB_length]
                                    have hzl5 : (sb (bigB (ca) 2)).size ≤ 2 := by omega
                                    clear hz5
                                    go_wp2_with fail
                                    refine (RefBig_any (cb) 2 _ rfl _ rfl _ (by omega) (by omega)).mono ?_
                                    rintro e w6 ⟨rfl, hb6⟩
                                    have hbel6 := hbel5.trans (hb6.mono hs5)
                                    have hs6 := hbel6.size
                                    have hck6 := hck5.below hb6
                                    obtain ⟨d0, d1, d2, d3, d4⟩ := id hck6
                                    try simp only [] at d0 d1 d2 d3 d4
                                    have hz6 : (sb (bigB (cb) 2)).size = 2 := by rw [sb_size, bigB_length]
                                    have hzl6 : (sb (bigB (cb) 2)).size ≤ 2 := by omega
                                    clear hz6
                                    have happ : sb acc ++ (sb [11] ++ (sb (bigB ca 2) ++ sb (bigB cb 2))) = sb (acc ++ (11 :: (bigB ca 2 ++ bigB cb 2))) := by
                                      first | (simp only [sb_append]; rfl) | (rw [sb_app3 [11], sb_append]; rfl)
                                    have hs1z : (sb [11]).size ≤ 1 := by rw [sb_size]; exact Nat.le_refl _
                                    have hq1 : ((sb (bigB ca 2) ++ sb (bigB cb 2))).size ≤ 65600 := by simp only [ByteArray.size_append, sb_size, bigB_length]; omega
                                    have hq2 : (sb [11] ++ (sb (bigB ca 2) ++ sb (bigB cb 2))).size ≤ 65601 := by simp only [ByteArray.size_append, sb_size, bigB_length, List.length_cons, List.length_nil]; omega
                                    go_wp2
                                    go_roundw
                                    case rel => exact ⟨k + 1, acc ++ (11 :: (bigB ca 2 ++ bigB cb 2)), by omega, by go_num, by first | rfl | rw [happ], by simp [bigB_length, bs_length]; omega, hbel6.alloc hs6 _, by
                                      unfold Hid; rw [hW2.out, HD.out, pw_ok HZ.out HK0.out, HEM.out, show big2 ⟨11, text, bits, ca, cb⟩ = false from rfl, List.drop_append_of_le_length hacc2]; cases poolW (l.drop (k + 1)) (k + 1) false <;> simp [kbytes, Except.map, bigAB ok5], by unfold Hid; rw [List.take_append_of_le_length hacc2]; exact hT.out⟩
                                    case measure => simp [intOf]; omega
                                  · by_cases ht : tag = 12
                                    · subst ht
                                      rw [show sizesI 12 = 4 from rfl]
                                      have hs1n : strOfNums [(12 : Int)] = sb [12] := strOfNums_nats [12]
                                      have hk0 : kerr ⟨12, text, bits, ca, cb⟩ = 0 := by simp [kerr]
                                      have HK0 := Lib.hid hk0
                                      clear hk0
                                      go_wp2_with fail
                                      refine (RefBig_any (ca) 2 _ rfl _ rfl _ (by omega) (by omega)).mono ?_
                                      rintro e w5 ⟨rfl, hb5⟩
                                      have hbel5 := hbel4.trans (hb5.mono hs4)
                                      have hs5 := hbel5.size
                                      have hck5 := hck4.below hb5
                                      obtain ⟨d0, d1, d2, d3, d4⟩ := id hck5
                                      try simp only [] at d0 d1 d2 d3 d4
                                      have hz5 : (sb (bigB (ca) 2)).size = 2 := by rw [sb_size, bigB_length]
                                      have hzl5 : (sb (bigB (ca) 2)).size ≤ 2 := by omega
                                      clear hz5
                                      go_wp2_with fail
                                      refine (RefBig_any (cb) 2 _ rfl _ rfl _ (by omega) (by omega)).mono ?_
                                      rintro e w6 ⟨rfl, hb6⟩
                                      have hbel6 := hbel5.trans (hb6.mono hs5)
                                      have hs6 := hbel6.size
                                      have hck6 := hck5.below hb6
                                      obtain ⟨d0, d1, d2, d3, d4⟩ := id hck6
                                      try simp only [] at d0 d1 d2 d3 d4
                                      have hz6 : (sb (bigB (cb) 2)).size = 2 := by rw [sb_size, bigB_length]
                                      have hzl6 : (sb (bigB (cb) 2)).size ≤ 2 := by omega
                                      clear hz6
                                      have happ : sb acc ++ (sb [12] ++ (sb (bigB ca 2) ++ sb (bigB cb 2))) = sb (acc ++ (12 :: (bigB ca 2 ++ bigB cb 2))) := by
                                        first | (simp only [sb_append]; rfl) | (rw [sb_app3 [12], sb_append]; rfl)
                                      have hs1z : (sb [12]).size ≤ 1 := by rw [sb_size]; exact Nat.le_refl _
                                      have hq1 : ((sb (bigB ca 2) ++ sb (bigB cb 2))).size ≤ 65600 := by simp only [ByteArray.size_append, sb_size, bigB_length]; omega
                                      have hq2 : (sb [12] ++ (sb (bigB ca 2) ++ sb (bigB cb 2))).size ≤ 65601 := by simp only [ByteArray.size_append, sb_size, bigB_length, List.length_cons, List.length_nil]; omega
                                      go_wp2
                                      go_roundw
                                      case rel => exact ⟨k + 1, acc ++ (12 :: (bigB ca 2 ++ bigB cb 2)), by omega, by go_num, by first | rfl | rw [happ], by simp [bigB_length, bs_length]; omega, hbel6.alloc hs6 _, by
                                        unfold Hid; rw [hW2.out, HD.out, pw_ok HZ.out HK0.out, HEM.out, show big2 ⟨12, text, bits, ca, cb⟩ = false from rfl, List.drop_append_of_le_length hacc2]; cases poolW (l.drop (k + 1)) (k + 1) false <;> simp [kbytes, Except.map, bigAB ok5], by unfold Hid; rw [List.take_append_of_le_length hacc2]; exact hT.out⟩
                                      case measure => simp [intOf]; omega
                                    · have hk5 : kerr ⟨tag, text, bits, ca, cb⟩ = 5 := by unfold kerr; dsimp only; rw [if_neg (by omega), if_neg (by omega), if_neg (by have := HZ.out; omega)]
                                      have hsz5 : sizesI tag = -1 := by unfold sizesI; rw [if_neg (by omega), if_neg (by omega), if_neg (by omega)]
                                      rw [hsz5]
                                      go_wp2
                                      go_ret3
                                      exact ⟨by rw [show poolR l = (⟨#[]⟩, 5, k) by unfold poolR; rw [if_neg Hbad.out, hW2.out, HD.out, pw_err HZ.out (by rw [hk5]; decide), hk5]; rfl]; rfl, hbel4⟩
      · obtain rfl : k = l.length := by omega
        have hdl : l.drop l.length = [] := List.drop_length
        have hpos : 0 < l.length := by omega
        obtain ⟨m, hm⟩ : ∃ m, l.length = m + 1 := ⟨l.length - 1, by omega⟩
        have hml : m < l.length := by omega
        have hem : emAt l l.length = big2 l[m] := by rw [hm]; exact emAt_succ hml
        have hrw := hr.below (hbel.mono hB) (Nat.le_refl _)
        obtain ⟨_, _, he, hr2⟩ := hrw
        simp only [Value.slice.injEq] at he
        obtain ⟨rfl, _, rfl⟩ := he
        rcases hr2 with hr2 | ⟨b, o, rfl, hbB, hcell⟩
        · have : (kcs l)[m * 5 + 0]? = _ := kcs_get hml 0 (by decide)
          rw [hr2] at this; simp [kc] at this
        have c0 : wr.cell? ⟨b, o + m * 5, none⟩ = some (.int .u8 (l[m].tag : Nat)) := hcell (m * 5 + 0) _ (kcs_get hml 0 (by decide))
        clear hcell hr hbB
        have hE1 : l[m].tag = 5 ∨ l[m].tag = 6 → poolR l = (⟨#[]⟩, 5, l.length) := fun h => by
          unfold poolR; rw [if_neg Hbad.out, hW.out, hdl, hem, show big2 l[m] = true by unfold big2; rcases h with h | h <;> simp [h]]; rfl
        have hE0 : l[m].tag ≠ 5 → l[m].tag ≠ 6 → poolR l = (sb acc, 0, 0) := fun h h' => by
          unfold poolR; rw [if_neg Hbad.out, hW.out, hdl, hem, show big2 l[m] = false by unfold big2; simp [h, h']]; simp [poolW, Except.map, ← hT.out, List.take_append_drop]
        have H1 := Lib.hid hE1
        have H0 := Lib.hid hE0
        clear hE1 hE0 hdl hem
        have p1 : (l.length : Int) - 1 = (m : Nat) := by omega
        have p2 : (m : Int) < l.length := by omega
        generalize l[m].tag = tg at *
        rcases (by omega : tg = 5 ∨ tg = 6 ∨ (tg ≠ 5 ∧ tg ≠ 6)) with rfl | rfl | h
        · have HSR := Lib.hid (H1.out (by simp))
          clear hm
          go_wp2
          go_ret3
          exact ⟨by rw [HSR.out]; rfl, hbel⟩
        · have HSR := Lib.hid (H1.out (by simp))
          clear hm
          go_wp2
          go_ret3
          exact ⟨by rw [HSR.out]; rfl, hbel⟩
        · have HSR := Lib.hid (H0.out h.1 h.2)
          have q5 : ((tg : Int) == 5) = false := by rw [beq_eq_false_iff_ne]; omega
          have q6 : ((tg : Int) == 6) = false := by rw [beq_eq_false_iff_ne]; omega
          clear h hm
          go_wp2
          go_ret3
          exact ⟨by rw [HSR.out]; rfl, hbel⟩
end Go.Proofs.Ytfnjbmpolggdeaa
