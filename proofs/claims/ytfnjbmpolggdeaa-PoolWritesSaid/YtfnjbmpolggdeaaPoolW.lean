/-
  pool.Write: a pool as bytes, or the first constant that may not stand there.
-/
import Derived.Test.YtfnjbmpolggdeaaBig
import Derived.Test.YtfnjbmpolggdeaaLawUnits
namespace Go.Proofs.Ytfnjbmpolggdeaa
open Go.RowKit Go.Lib
set_option linter.unusedVariables false
set_option linter.unusedSimpArgs false

theorem bs_sbig (x n : Nat) : bs (sb (bigB x n)) = bigB x n := bs_sb (bigB_lt n x)
theorem orAB {a b : Nat} (ha : a < 65536) (hb : b < 65536) : bits BinOp.or IntKind.u64 ((a : Int) * 65536) (b : Int) = ((a * 65536 + b : Nat) : Int) := by
  have := u64_or_nat (a * 65536) b (by omega) (by omega)
  rw [nat_join 16 (a * 65536) b (by omega) (by omega)] at this
  simpa using this
/-- a constant of a pool. -/
structure K where
  tag : Nat
  text : ByteArray
  bits : Nat
  a : Nat
  b : Nat
def K.ok (c : K) : Prop := c.tag < 256 ∧ c.text.size ≤ 1099511627776 ∧ c.bits < 18446744073709551616 ∧ c.a < 65536 ∧ c.b < 65536
def kc (c : K) : List Value := [.int .u8 (c.tag : Nat), .string c.text, .int .u64 (c.bits : Nat), .int .u16 (c.a : Nat), .int .u16 (c.b : Nat)]
def kcs (l : List K) : List Value := l.flatMap kc
theorem kcs_get {l : List K} {k : Nat} (h : k < l.length) (j : Nat) (hj : j < 5) : (kcs l)[k * 5 + j]? = (kc l[k])[j]? := by
  induction l generalizing k with
  | nil => simp at h
  | cons c l ih =>
    cases k with
    | zero => simp only [kcs, List.flatMap_cons, Nat.zero_mul, Nat.zero_add, List.getElem_cons_zero]; rw [List.getElem?_append_left (by simp [kc]; omega)]
    | succ k =>
      simp only [kcs, List.flatMap_cons, List.getElem_cons_succ]
      rw [List.getElem?_append_right (by simp [kc]; omega)]
      have := ih (k := k) (by simpa using h)
      rw [← this]; congr 1; simp [kc]; omega

/-- what is wrong with a constant of a tag, and its bytes. -/
def kerr (c : K) : Nat :=
  if c.tag = 1 then (if (units (bs c.text)).isNone then 6 else if 65535 < c.text.size then 12 else 0)
  else if c.tag = 3 ∨ c.tag = 4 then (if 4294967296 ≤ c.bits then 12 else 0)
  else if 5 ≤ c.tag ∧ c.tag ≤ 12 then 0 else 5
def kbytes (c : K) : List Nat :=
  c.tag :: (if c.tag = 1 then bigB c.text.size 2 ++ bs c.text
  else if c.tag = 3 ∨ c.tag = 4 then bigB c.bits 4
  else if c.tag = 5 ∨ c.tag = 6 then bigB c.bits 8
  else if c.tag = 7 ∨ c.tag = 8 then bigB c.a 2
  else bigB (c.a * 65536 + c.b) 4)
def big2 (c : K) : Bool := c.tag == 5 || c.tag == 6
/-- the rest of a pool as bytes, from constant k on; 'empty': a constant of no tag must come; or what is wrong, and where. -/
def poolW : List K → Nat → Bool → Except (Nat × Nat) (List Nat)
  | [], k, empty => if empty then .error (5, k) else .ok []
  | c :: r, k, empty =>
    if decide (c.tag = 0) != empty then .error (5, k)
    else if c.tag = 0 then poolW r (k + 1) false
    else if kerr c ≠ 0 then .error (kerr c, k)
    else (poolW r (k + 1) (big2 c)).map (kbytes c ++ ·)

def poolR (l : List K) : ByteArray × Nat × Nat :=
  if l.length = 0 ∨ 65535 < l.length then (⟨#[]⟩, 12, 0)
  else match poolW l 0 true with
    | .ok t => (sb (bigB l.length 2 ++ t), 0, 0)
    | .error (e, k) => (⟨#[]⟩, e, k)

theorem pw_bad {c : K} {r : List K} {k : Nat} {emp : Bool} (h : decide (c.tag = 0) ≠ emp) : poolW (c :: r) k emp = .error (5, k) := by
  unfold poolW; rw [if_pos (by simpa using h)]
theorem pw_zero {c : K} {r : List K} {k : Nat} (h : c.tag = 0) : poolW (c :: r) k true = poolW r (k + 1) false := by
  rw [poolW, if_neg (by simp [h]), if_pos h]
theorem pw_err {c : K} {r : List K} {k : Nat} (h : c.tag ≠ 0) (he : kerr c ≠ 0) : poolW (c :: r) k false = .error (kerr c, k) := by
  rw [poolW, if_neg (by simp [h]), if_neg h, if_pos he]
theorem pw_ok {c : K} {r : List K} {k : Nat} (h : c.tag ≠ 0) (he : kerr c = 0) : poolW (c :: r) k false = (poolW r (k + 1) (big2 c)).map (kbytes c ++ ·) := by
  rw [poolW, if_neg (by simp [h]), if_neg h, if_neg (by simp [he])]
theorem mrow.cast {w : World} {base e n n'} {v : Value} {xs xs' : List Value} (h : mrow w base e v n xs) (hn : n = n') (hx : xs = xs') : mrow w base e v n' xs' := by subst hn hx; exact h
/-- the cells of a constant in a variable of its own. -/
def CK (c : K) (q : Nat) (w : World) : Prop := w.cell? ⟨q, 0, none⟩ = some (.int .u8 (c.tag : Nat)) ∧ w.cell? ⟨q, 1, none⟩ = some (.string c.text) ∧ w.cell? ⟨q, 2, none⟩ = some (.int .u64 (c.bits : Nat)) ∧ w.cell? ⟨q, 3, none⟩ = some (.int .u16 (c.a : Nat)) ∧ w.cell? ⟨q, 4, none⟩ = some (.int .u16 (c.b : Nat))
theorem CK.grown {c : K} {q : Nat} {w w' : World} {row : Option Nat} (h : CK c q w) (hg : w.grownBy w' row) (hne : row ≠ some q) : CK c q w' :=
  ⟨hg.cell h.1 (fun e => hne e.symm), hg.cell h.2.1 (fun e => hne e.symm), hg.cell h.2.2.1 (fun e => hne e.symm), hg.cell h.2.2.2.1 (fun e => hne e.symm), hg.cell h.2.2.2.2 (fun e => hne e.symm)⟩
theorem CK.below {c : K} {q : Nat} {w w' : World} (h : CK c q w) (hb : Below w.heap.size w w') : CK c q w' := h.grown (grown_below hb none) (by simp)
theorem CK.new (c : K) (w : World) (e : TypeId) : CK c w.heap.size (w.alloc (.cells (kc c).toArray e)) := by
  refine ⟨?_, ?_, ?_, ?_, ?_⟩ <;> simp [kc, World.cell?_alloc_at]

set_option maxHeartbeats 4000000 in
set_option maxRecDepth 100000 in
theorem Write_any (l : List K) (hl : ∀ c ∈ l, c.ok) (v : Value) (w : World) (B : Nat) (hr : Rd B w v l.length (kcs l)) (hB : B ≤ w.heap.size) (hn : l.length ≤ 9223372036854775807) :
    Calls Try.prog 22 #[v] w fun e w' => e = .returned (.tuple #[.string (poolR l).1, .int .i64 ((poolR l).2.1 : Nat), .int .i64 ((poolR l).2.2 : Nat)]) ∧ Below w.heap.size w w' := by
  obtain ⟨a, c, rfl, hr'⟩ := id hr
  by_cases hbad : l.length = 0 ∨ 65535 < l.length
  · have hR : poolR l = (⟨#[]⟩, 12, 0) := by unfold poolR; rw [if_pos hbad]
    rw [hR]
    rcases hbad with h | h
    · have a1 : (l.length : Int) ≤ 0 := by omega
      go_enter Try.func22, Try.ntmps22
      go_wp2
      go_ret3
      exact ⟨rfl, Below.refl _ _⟩
    · have a1 : (65535 : Int) < l.length := by omega
      have e0 : ((l.length : Int) == 0) = false := by rw [beq_eq_false_iff_ne]; omega
      go_enter Try.func22, Try.ntmps22
      go_wp2
      go_ret3
      exact ⟨rfl, Below.refl _ _⟩
  · have a1 : (0 : Int) < l.length := by omega
    have a2 : (l.length : Int) ≤ 65535 := by omega
    have e0 : ((l.length : Int) == 0) = false := by rw [beq_eq_false_iff_ne]; omega
    have Hbad := Lib.hid hbad
    clear hbad
    go_enter Try.func22, Try.ntmps22
    go_wp2_with fail
    refine (Big_any l.length 2 _ rfl _ rfl _ (by omega) (by omega)).mono ?_
    rintro e w1 ⟨rfl, hb1⟩
    have hs1 := hb1.size
    have hsz : (sb (bigB l.length 2)).size = 2 := by rw [sb_size, bigB_length]
    have HSZ := Lib.hid hsz
    go_wp2_with (with_reducible refine conv_bytes rfl 9 87 _ rfl 5 Try.underlying9 Try.underlying87 Try.underlying5 w.heap.size hb1 (sb (bigB l.length 2)) rfl (by omega) hs1 ?_; intro v2 w2 hown2 hbel2 hb2)
    have hs2 := hb2.size
    rw [bs_sb (bigB_lt 2 l.length), hsz] at hown2
    have hown2' := hown2.mono hs1
    clear hown2 hsz
    clear hr'
    go_wp2_with fail
    go_loopw [5, 6, 26] (fun v em i wr => ∃ (k : Nat) (acc : List Nat) (emp : Bool), k ≤ l.length ∧ i = .int .i64 k ∧ em = .bool emp ∧ acc.length ≤ 2 + 65540 * k ∧ mrow wr w.heap.size 5 v acc.length (u8s acc) ∧ Below w.heap.size w wr ∧
      Hid (poolW l 0 true = (poolW (l.drop k) k emp).map ((acc.drop 2) ++ ·)) ∧ Hid (acc.take 2 = bigB l.length 2)) (fun _ _ i _ => l.length - (intOf i).toNat)
    case atStart => exact ⟨0, bigB l.length 2, true, by omega, rfl, rfl, by rw [bigB_length]; omega, by rw [bigB_length]; exact hown2', hbel2, by
      unfold Hid; rw [List.drop_of_length_le (by rw [bigB_length]; exact Nat.le_refl _), List.drop_zero]; cases poolW l 0 true <;> rfl, by unfold Hid; exact List.take_of_length_le (by rw [bigB_length]; exact Nat.le_refl _)⟩
    case round =>
      obtain ⟨k, acc, emp, hk, rfl, rfl, hacc, hown, hbel, hW, hT⟩ := hrel
      have hws := hbel.size
      by_cases hlt : k < l.length
      · have hrw := hr.below (hbel.mono hB) (Nat.le_refl _)
        obtain ⟨_, _, he, hr2⟩ := hrw
        simp only [Value.slice.injEq] at he
        obtain ⟨rfl, _, rfl⟩ := he
        rcases hr2 with hr2 | ⟨b, o, rfl, hbB, hcell⟩
        · have : (kcs l)[k * 5 + 0]? = _ := kcs_get hlt 0 (by decide)
          rw [hr2] at this; simp [kc] at this
        have c0 : wr.cell? ⟨b, o + k * 5, none⟩ = some (.int .u8 (l[k].tag : Nat)) := hcell (k * 5 + 0) _ (kcs_get hlt 0 (by decide))
        have c1 : wr.cell? ⟨b, o + k * 5 + 1, none⟩ = some (.string l[k].text) := hcell (k * 5 + 1) _ (kcs_get hlt 1 (by decide))
        have c2 : wr.cell? ⟨b, o + k * 5 + 2, none⟩ = some (.int .u64 (l[k].bits : Nat)) := hcell (k * 5 + 2) _ (kcs_get hlt 2 (by decide))
        have c3 : wr.cell? ⟨b, o + k * 5 + 3, none⟩ = some (.int .u16 (l[k].a : Nat)) := hcell (k * 5 + 3) _ (kcs_get hlt 3 (by decide))
        have c4 : wr.cell? ⟨b, o + k * 5 + 4, none⟩ = some (.int .u16 (l[k].b : Nat)) := hcell (k * 5 + 4) _ (kcs_get hlt 4 (by decide))
        clear hcell
        have hck := CK.new l[k] wr 37
        have hcok := hl l[k] (List.getElem_mem _)
        have hdrop : l.drop k = l[k] :: l.drop (k + 1) := List.drop_eq_getElem_cons hlt
        have hown1 := hown.kept (row := none) (World.grownBy_alloc wr (.cells (kc l[k]).toArray 37) none) (by cases u5.ownBlock <;> simp)
        have hbel1 := hbel.alloc hws (.cells (kc l[k]).toArray 37)
        have hq1 : u5.ownBlock ≠ some wr.heap.size := fun h => by have := (hown.ge _ h).2; omega
        have hq2 : wr.heap.size < (wr.alloc (.cells (kc l[k]).toArray 37)).heap.size := by simp
        have hacc2 : 2 ≤ acc.length := by have := congrArg List.length hT.out; rw [bigB_length, List.length_take] at this; omega
        go_upto_region 8 with (fail)
        simp only [kc] at hck hown1 hbel1 hq2
        generalize (wr.alloc (.cells [Value.int .u8 (l[k].tag : Int), Value.string l[k].text, Value.int .u64 (l[k].bits : Int), Value.int .u16 (l[k].a : Int), Value.int .u16 (l[k].b : Int)].toArray 37)) = w3 at *
        -- ROUND
        clear c0 c1 c2 c3 c4 hown hbel
        have HD := Lib.hid hdrop
        clear hdrop
        generalize l[k] = cc at *
        obtain ⟨tag, text, bits, ca, cb⟩ := cc
        obtain ⟨ok1, ok2, ok3, ok4, ok5⟩ := hcok
        simp only [] at ok1 ok2 ok3 ok4 ok5
        generalize wr.heap.size = q at *
        have hck1 := hck
        have hs1 := hbel1.size
        have hql1 := hq2
        clear hck hq2
        obtain ⟨d0, d1, d2, d3, d4⟩ := id hck1
        try simp only [] at d0 d1 d2 d3 d4
        clear hr hbB
        by_cases hbad : decide (tag = 0) = emp
        · by_cases hz : tag = 0
          · subst hz
            obtain rfl : emp = true := by simpa using hbad.symm
            clear hbad
            go_wp2
            go_roundw
            case rel => exact ⟨k + 1, acc, false, by omega, by go_num, rfl, by omega, hown1, hbel1, by unfold Hid; rw [hW.out, HD.out, pw_zero rfl], hT⟩
            case measure => simp [intOf]; omega
          · obtain rfl : emp = false := by simpa [hz] using hbad.symm
            clear hbad
            have HZ := Lib.hid hz
            by_cases ht : tag = 1
            · subst ht
              clear hz
              go_wp2_with fail
              refine (Units_any text _ (by omega)).mono ?_
              rintro e w4 ⟨vu, bu, rfl, rfl, hownu, hb4⟩
              clear hownu
              have hown4 := hown1.below hb4
              have hbel4 := hbel1.trans (hb4.mono hs1)
              have hs4 := hbel4.size
              have hck4 := hck1.below hb4
              have hq4 := hq1
              have hql4 := Nat.lt_of_lt_of_le hql1 hb4.size
              obtain ⟨d0, d1, d2, d3, d4⟩ := id hck4
              try simp only [] at d0 d1 d2 d3 d4
              by_cases hu : (units (bs text)).isSome = true
              · rw [hu]
                have hu2 : units (bs text) ≠ none := by intro h; simp [h] at hu
                by_cases hlen : 65535 < text.size
                · have x1 : (65535 : Int) < text.size := by omega
                  go_wp2
                  go_ret3
                  exact ⟨by rw [show poolR l = (⟨#[]⟩, 12, k) by unfold poolR; rw [if_neg Hbad.out, hW.out, HD.out, pw_err HZ.out (by simp [kerr, hu2, hlen]), show kerr ⟨1, text, bits, ca, cb⟩ = 12 by simp [kerr, hu2, hlen]]; rfl]; rfl, hbel4⟩
                · have x1 : (text.size : Int) ≤ 65535 := by omega
                  have hk0 : kerr ⟨1, text, bits, ca, cb⟩ = 0 := by simp [kerr, hu2, hlen]
                  have HK0 := Lib.hid hk0
                  clear hk0 hu hlen hu2
                  go_wp2_with (at_builtin; refine app_m rfl _ _ 87 rfl 5 (.int .u8 0) 1 Try.underlying87 Try.infoB rfl w.heap.size w.heap.size hbel4 hown4 rfl 1 [.int .u8 1] rfl (by simp [Value.oneCell']) _ rfl (by omega) (by omega) hs4 (Nat.le_refl _) ?_ rfl; intro v5 w5 hown5 hbel5 hg5 hsep5; have hs5 := hbel5.size; have hck5 := hck4.grown hg5 hq4; have hq5 := hsep5 _ hql4 hq4; have hql5 := Nat.lt_of_lt_of_le hql4 hg5.size; obtain ⟨d0, d1, d2, d3, d4⟩ := id hck5)
                  try simp only [] at d0 d1 d2 d3 d4
                  refine (Big_any (text.size) 2 _ rfl _ rfl _ (by omega) (by omega)).mono ?_
                  rintro e w6 ⟨rfl, hb6⟩
                  have hown6 := hown5.below hb6
                  have hbel6 := hbel5.trans (hb6.mono hs5)
                  have hs6 := hbel6.size
                  have hck6 := hck5.below hb6
                  have hq6 := hq5
                  have hql6 := Nat.lt_of_lt_of_le hql5 hb6.size
                  obtain ⟨d0, d1, d2, d3, d4⟩ := id hck6
                  have hz6 : (sb (bigB (text.size) 2)).size = 2 := by rw [sb_size, bigB_length]
                  have hzl6 : (sb (bigB (text.size) 2)).size ≤ 2 := by omega
                  have HZ6 := Lib.hid hz6
                  clear hz6
                  try simp only [] at d0 d1 d2 d3 d4
                  have tok1 : True := trivial
                  go_wp2_with (first | (have tok := tok1; at_builtin; refine app_ms rfl _ _ 87 9 rfl 5 Try.underlying87 Try.underlying9 Try.infoB w.heap.size w.heap.size hbel6 hown6 rfl (sb (bigB text.size 2)) rfl (by omega) hs6 (Nat.le_refl _) ?_; intro v7 w7 hown7 hbel7 hg7 hsep7; have hs7 := hbel7.size; have hck7 := hck6.grown hg7 hq6; have hq7 := hsep7 _ hql6 hq6; have hql7 := Nat.lt_of_lt_of_le hql6 hg7.size; obtain ⟨d0, d1, d2, d3, d4⟩ := id hck7; clear tok1; try simp only [] at d0 d1 d2 d3 d4) | (at_builtin; refine app_ms rfl _ _ 87 9 rfl 5 Try.underlying87 Try.underlying9 Try.infoB w.heap.size w.heap.size hbel7 hown7 rfl text rfl (by omega) hs7 (Nat.le_refl _) ?_; intro v8 w8 hown8 hbel8 hg8 hsep8; have hs8 := hbel8.size; have hck8 := hck7.grown hg8 hq7; have hq8 := hsep8 _ hql7 hq7; have hql8 := Nat.lt_of_lt_of_le hql7 hg8.size; obtain ⟨d0, d1, d2, d3, d4⟩ := id hck8))
                  go_wp2
                  go_roundw
                  case rel => exact ⟨k + 1, acc ++ (1 :: (bigB text.size 2 ++ bs text)), false, by omega, by go_num, rfl, by simp [bigB_length, bs_length]; omega, hown8.cast (by simp [bigB_length, sb_size, bs_length]; try omega) (by simp only [u8s_append, bs_sbig]; simp [u8s]), hbel8, by
                    unfold Hid; rw [hW.out, HD.out, pw_ok HZ.out HK0.out, show big2 ⟨1, text, bits, ca, cb⟩ = false from rfl, List.drop_append_of_le_length hacc2]; cases poolW (l.drop (k + 1)) (k + 1) false <;> simp [kbytes, Except.map], by unfold Hid; rw [List.take_append_of_le_length hacc2]; exact hT.out⟩
                  case measure => simp [intOf]; omega
              · have hu' : (units (bs text)).isSome = false := by simpa using hu
                rw [hu']
                go_wp2
                have hk6 : kerr ⟨1, text, bits, ca, cb⟩ = 6 := by unfold kerr; rw [if_pos rfl, if_pos]; simpa using hu'
                go_ret3
                exact ⟨by rw [show poolR l = (⟨#[]⟩, 6, k) by unfold poolR; rw [if_neg Hbad.out, hW.out, HD.out, pw_err HZ.out (by rw [hk6]; decide), hk6]; rfl]; rfl, hbel4⟩
            · by_cases ht : tag = 3
              · subst ht
                clear hz
                by_cases hbig : 4294967296 ≤ bits
                · have x1 : ((bits >>> 32 : Nat) == 0) = false := by rw [Nat.shiftRight_eq_div_pow, beq_eq_false_iff_ne]; omega
                  have hk12 : kerr ⟨3, text, bits, ca, cb⟩ = 12 := by simp [kerr, hbig]
                  go_wp2
                  go_ret3
                  exact ⟨by rw [show poolR l = (⟨#[]⟩, 12, k) by unfold poolR; rw [if_neg Hbad.out, hW.out, HD.out, pw_err HZ.out (by rw [hk12]; decide), hk12]; rfl]; rfl, hbel1⟩
                · have x1 : ((bits >>> 32 : Nat) == 0) = true := by rw [Nat.shiftRight_eq_div_pow, beq_iff_eq]; omega
                  have hk0 : kerr ⟨3, text, bits, ca, cb⟩ = 0 := by simp [kerr]; omega
                  clear hbig
                  have HK0 := Lib.hid hk0
                  clear hk0
                  go_wp2_with (at_builtin; refine app_m rfl _ _ 87 rfl 5 (.int .u8 0) 1 Try.underlying87 Try.infoB rfl w.heap.size w.heap.size hbel1 hown1 rfl 1 [.int .u8 3] rfl (by simp [Value.oneCell']) _ rfl (by omega) (by omega) hs1 (Nat.le_refl _) ?_ rfl; intro v5 w5 hown5 hbel5 hg5 hsep5; have hs5 := hbel5.size; have hck5 := hck1.grown hg5 hq1; have hq5 := hsep5 _ hql1 hq1; have hql5 := Nat.lt_of_lt_of_le hql1 hg5.size; obtain ⟨d0, d1, d2, d3, d4⟩ := id hck5)
                  try simp only [] at d0 d1 d2 d3 d4
                  refine (Big_any (bits) 4 _ rfl _ rfl _ (by omega) (by omega)).mono ?_
                  rintro e w6 ⟨rfl, hb6⟩
                  have hown6 := hown5.below hb6
                  have hbel6 := hbel5.trans (hb6.mono hs5)
                  have hs6 := hbel6.size
                  have hck6 := hck5.below hb6
                  have hq6 := hq5
                  have hql6 := Nat.lt_of_lt_of_le hql5 hb6.size
                  obtain ⟨d0, d1, d2, d3, d4⟩ := id hck6
                  have hz6 : (sb (bigB (bits) 4)).size = 4 := by rw [sb_size, bigB_length]
                  have hzl6 : (sb (bigB (bits) 4)).size ≤ 4 := by omega
                  have HZ6 := Lib.hid hz6
                  clear hz6
                  try simp only [] at d0 d1 d2 d3 d4
                  go_wp2_with (at_builtin; refine app_ms rfl _ _ 87 9 rfl 5 Try.underlying87 Try.underlying9 Try.infoB w.heap.size w.heap.size hbel6 hown6 rfl (sb (bigB (bits) 4)) rfl (by omega) hs6 (Nat.le_refl _) ?_; intro v7 w7 hown7 hbel7 hg7 hsep7; have hs7 := hbel7.size; have hck7 := hck6.grown hg7 hq6; have hq7 := hsep7 _ hql6 hq6; have hql7 := Nat.lt_of_lt_of_le hql6 hg7.size; obtain ⟨d0, d1, d2, d3, d4⟩ := id hck7)
                  try simp only [] at d0 d1 d2 d3 d4
                  go_wp2
                  go_roundw
                  case rel => exact ⟨k + 1, acc ++ (3 :: bigB (bits) 4), false, by omega, by go_num, rfl, by simp [bigB_length, bs_length]; omega, hown7.cast (by simp [bigB_length, sb_size, bs_length]; try omega) (by simp only [u8s_append, bs_sbig]; simp [u8s]), hbel7, by
                    unfold Hid; rw [hW.out, HD.out, pw_ok HZ.out HK0.out, show big2 ⟨3, text, bits, ca, cb⟩ = false from rfl, List.drop_append_of_le_length hacc2]; cases poolW (l.drop (k + 1)) (k + 1) false <;> simp [kbytes, Except.map], by unfold Hid; rw [List.take_append_of_le_length hacc2]; exact hT.out⟩
                  case measure => simp [intOf]; omega
              · by_cases ht : tag = 4
                · subst ht
                  clear hz
                  by_cases hbig : 4294967296 ≤ bits
                  · have x1 : ((bits >>> 32 : Nat) == 0) = false := by rw [Nat.shiftRight_eq_div_pow, beq_eq_false_iff_ne]; omega
                    have hk12 : kerr ⟨4, text, bits, ca, cb⟩ = 12 := by simp [kerr, hbig]
                    go_wp2
                    go_ret3
                    exact ⟨by rw [show poolR l = (⟨#[]⟩, 12, k) by unfold poolR; rw [if_neg Hbad.out, hW.out, HD.out, pw_err HZ.out (by rw [hk12]; decide), hk12]; rfl]; rfl, hbel1⟩
                  · have x1 : ((bits >>> 32 : Nat) == 0) = true := by rw [Nat.shiftRight_eq_div_pow, beq_iff_eq]; omega
                    have hk0 : kerr ⟨4, text, bits, ca, cb⟩ = 0 := by simp [kerr]; omega
                    clear hbig
                    have HK0 := Lib.hid hk0
                    clear hk0
                    go_wp2_with (at_builtin; refine app_m rfl _ _ 87 rfl 5 (.int .u8 0) 1 Try.underlying87 Try.infoB rfl w.heap.size w.heap.size hbel1 hown1 rfl 1 [.int .u8 4] rfl (by simp [Value.oneCell']) _ rfl (by omega) (by omega) hs1 (Nat.le_refl _) ?_ rfl; intro v5 w5 hown5 hbel5 hg5 hsep5; have hs5 := hbel5.size; have hck5 := hck1.grown hg5 hq1; have hq5 := hsep5 _ hql1 hq1; have hql5 := Nat.lt_of_lt_of_le hql1 hg5.size; obtain ⟨d0, d1, d2, d3, d4⟩ := id hck5)
                    try simp only [] at d0 d1 d2 d3 d4
                    refine (Big_any (bits) 4 _ rfl _ rfl _ (by omega) (by omega)).mono ?_
                    rintro e w6 ⟨rfl, hb6⟩
                    have hown6 := hown5.below hb6
                    have hbel6 := hbel5.trans (hb6.mono hs5)
                    have hs6 := hbel6.size
                    have hck6 := hck5.below hb6
                    have hq6 := hq5
                    have hql6 := Nat.lt_of_lt_of_le hql5 hb6.size
                    obtain ⟨d0, d1, d2, d3, d4⟩ := id hck6
                    have hz6 : (sb (bigB (bits) 4)).size = 4 := by rw [sb_size, bigB_length]
                    have hzl6 : (sb (bigB (bits) 4)).size ≤ 4 := by omega
                    have HZ6 := Lib.hid hz6
                    clear hz6
                    try simp only [] at d0 d1 d2 d3 d4
                    go_wp2_with (at_builtin; refine app_ms rfl _ _ 87 9 rfl 5 Try.underlying87 Try.underlying9 Try.infoB w.heap.size w.heap.size hbel6 hown6 rfl (sb (bigB (bits) 4)) rfl (by omega) hs6 (Nat.le_refl _) ?_; intro v7 w7 hown7 hbel7 hg7 hsep7; have hs7 := hbel7.size; have hck7 := hck6.grown hg7 hq6; have hq7 := hsep7 _ hql6 hq6; have hql7 := Nat.lt_of_lt_of_le hql6 hg7.size; obtain ⟨d0, d1, d2, d3, d4⟩ := id hck7)
                    try simp only [] at d0 d1 d2 d3 d4
                    go_wp2
                    go_roundw
                    case rel => exact ⟨k + 1, acc ++ (4 :: bigB (bits) 4), false, by omega, by go_num, rfl, by simp [bigB_length, bs_length]; omega, hown7.cast (by simp [bigB_length, sb_size, bs_length]; try omega) (by simp only [u8s_append, bs_sbig]; simp [u8s]), hbel7, by
                      unfold Hid; rw [hW.out, HD.out, pw_ok HZ.out HK0.out, show big2 ⟨4, text, bits, ca, cb⟩ = false from rfl, List.drop_append_of_le_length hacc2]; cases poolW (l.drop (k + 1)) (k + 1) false <;> simp [kbytes, Except.map], by unfold Hid; rw [List.take_append_of_le_length hacc2]; exact hT.out⟩
                    case measure => simp [intOf]; omega
                · by_cases ht : tag = 5
                  · subst ht
                    clear hz
                    have hk0 : kerr ⟨5, text, bits, ca, cb⟩ = 0 := by simp [kerr]
                    have HK0 := Lib.hid hk0
                    clear hk0
                    go_wp2_with (at_builtin; refine app_m rfl _ _ 87 rfl 5 (.int .u8 0) 1 Try.underlying87 Try.infoB rfl w.heap.size w.heap.size hbel1 hown1 rfl 1 [.int .u8 5] rfl (by simp [Value.oneCell']) _ rfl (by omega) (by omega) hs1 (Nat.le_refl _) ?_ rfl; intro v5 w5 hown5 hbel5 hg5 hsep5; have hs5 := hbel5.size; have hck5 := hck1.grown hg5 hq1; have hq5 := hsep5 _ hql1 hq1; have hql5 := Nat.lt_of_lt_of_le hql1 hg5.size; obtain ⟨d0, d1, d2, d3, d4⟩ := id hck5)
                    try simp only [] at d0 d1 d2 d3 d4
                    refine (Big_any (bits) 8 _ rfl _ rfl _ (by omega) (by omega)).mono ?_
                    rintro e w6 ⟨rfl, hb6⟩
                    have hown6 := hown5.below hb6
                    have hbel6 := hbel5.trans (hb6.mono hs5)
                    have hs6 := hbel6.size
                    have hck6 := hck5.below hb6
                    have hq6 := hq5
                    have hql6 := Nat.lt_of_lt_of_le hql5 hb6.size
                    obtain ⟨d0, d1, d2, d3, d4⟩ := id hck6
                    have hz6 : (sb (bigB (bits) 8)).size = 8 := by rw [sb_size, bigB_length]
                    have hzl6 : (sb (bigB (bits) 8)).size ≤ 8 := by omega
                    have HZ6 := Lib.hid hz6
                    clear hz6
                    try simp only [] at d0 d1 d2 d3 d4
                    go_wp2_with (at_builtin; refine app_ms rfl _ _ 87 9 rfl 5 Try.underlying87 Try.underlying9 Try.infoB w.heap.size w.heap.size hbel6 hown6 rfl (sb (bigB (bits) 8)) rfl (by omega) hs6 (Nat.le_refl _) ?_; intro v7 w7 hown7 hbel7 hg7 hsep7; have hs7 := hbel7.size; have hck7 := hck6.grown hg7 hq6; have hq7 := hsep7 _ hql6 hq6; have hql7 := Nat.lt_of_lt_of_le hql6 hg7.size; obtain ⟨d0, d1, d2, d3, d4⟩ := id hck7)
                    try simp only [] at d0 d1 d2 d3 d4
                    go_wp2
                    go_roundw
                    case rel => exact ⟨k + 1, acc ++ (5 :: bigB (bits) 8), true, by omega, by go_num, rfl, by simp [bigB_length, bs_length]; omega, hown7.cast (by simp [bigB_length, sb_size, bs_length]; try omega) (by simp only [u8s_append, bs_sbig]; simp [u8s]), hbel7, by
                      unfold Hid; rw [hW.out, HD.out, pw_ok HZ.out HK0.out, show big2 ⟨5, text, bits, ca, cb⟩ = true from rfl, List.drop_append_of_le_length hacc2]; cases poolW (l.drop (k + 1)) (k + 1) true <;> simp [kbytes, Except.map], by unfold Hid; rw [List.take_append_of_le_length hacc2]; exact hT.out⟩
                    case measure => simp [intOf]; omega
                  · by_cases ht : tag = 6
                    · subst ht
                      clear hz
                      have hk0 : kerr ⟨6, text, bits, ca, cb⟩ = 0 := by simp [kerr]
                      have HK0 := Lib.hid hk0
                      clear hk0
                      go_wp2_with (at_builtin; refine app_m rfl _ _ 87 rfl 5 (.int .u8 0) 1 Try.underlying87 Try.infoB rfl w.heap.size w.heap.size hbel1 hown1 rfl 1 [.int .u8 6] rfl (by simp [Value.oneCell']) _ rfl (by omega) (by omega) hs1 (Nat.le_refl _) ?_ rfl; intro v5 w5 hown5 hbel5 hg5 hsep5; have hs5 := hbel5.size; have hck5 := hck1.grown hg5 hq1; have hq5 := hsep5 _ hql1 hq1; have hql5 := Nat.lt_of_lt_of_le hql1 hg5.size; obtain ⟨d0, d1, d2, d3, d4⟩ := id hck5)
                      try simp only [] at d0 d1 d2 d3 d4
                      refine (Big_any (bits) 8 _ rfl _ rfl _ (by omega) (by omega)).mono ?_
                      rintro e w6 ⟨rfl, hb6⟩
                      have hown6 := hown5.below hb6
                      have hbel6 := hbel5.trans (hb6.mono hs5)
                      have hs6 := hbel6.size
                      have hck6 := hck5.below hb6
                      have hq6 := hq5
                      have hql6 := Nat.lt_of_lt_of_le hql5 hb6.size
                      obtain ⟨d0, d1, d2, d3, d4⟩ := id hck6
                      have hz6 : (sb (bigB (bits) 8)).size = 8 := by rw [sb_size, bigB_length]
                      have hzl6 : (sb (bigB (bits) 8)).size ≤ 8 := by omega
                      have HZ6 := Lib.hid hz6
                      clear hz6
                      try simp only [] at d0 d1 d2 d3 d4
                      go_wp2_with (at_builtin; refine app_ms rfl _ _ 87 9 rfl 5 Try.underlying87 Try.underlying9 Try.infoB w.heap.size w.heap.size hbel6 hown6 rfl (sb (bigB (bits) 8)) rfl (by omega) hs6 (Nat.le_refl _) ?_; intro v7 w7 hown7 hbel7 hg7 hsep7; have hs7 := hbel7.size; have hck7 := hck6.grown hg7 hq6; have hq7 := hsep7 _ hql6 hq6; have hql7 := Nat.lt_of_lt_of_le hql6 hg7.size; obtain ⟨d0, d1, d2, d3, d4⟩ := id hck7)
                      try simp only [] at d0 d1 d2 d3 d4
                      go_wp2
                      go_roundw
                      case rel => exact ⟨k + 1, acc ++ (6 :: bigB (bits) 8), true, by omega, by go_num, rfl, by simp [bigB_length, bs_length]; omega, hown7.cast (by simp [bigB_length, sb_size, bs_length]; try omega) (by simp only [u8s_append, bs_sbig]; simp [u8s]), hbel7, by
                        unfold Hid; rw [hW.out, HD.out, pw_ok HZ.out HK0.out, show big2 ⟨6, text, bits, ca, cb⟩ = true from rfl, List.drop_append_of_le_length hacc2]; cases poolW (l.drop (k + 1)) (k + 1) true <;> simp [kbytes, Except.map], by unfold Hid; rw [List.take_append_of_le_length hacc2]; exact hT.out⟩
                      case measure => simp [intOf]; omega
                    · by_cases ht : tag = 7
                      · subst ht
                        clear hz
                        have hk0 : kerr ⟨7, text, bits, ca, cb⟩ = 0 := by simp [kerr]
                        have HK0 := Lib.hid hk0
                        clear hk0
                        go_wp2_with (at_builtin; refine app_m rfl _ _ 87 rfl 5 (.int .u8 0) 1 Try.underlying87 Try.infoB rfl w.heap.size w.heap.size hbel1 hown1 rfl 1 [.int .u8 7] rfl (by simp [Value.oneCell']) _ rfl (by omega) (by omega) hs1 (Nat.le_refl _) ?_ rfl; intro v5 w5 hown5 hbel5 hg5 hsep5; have hs5 := hbel5.size; have hck5 := hck1.grown hg5 hq1; have hq5 := hsep5 _ hql1 hq1; have hql5 := Nat.lt_of_lt_of_le hql1 hg5.size; obtain ⟨d0, d1, d2, d3, d4⟩ := id hck5)
                        try simp only [] at d0 d1 d2 d3 d4
                        refine (Big_any (ca) 2 _ rfl _ rfl _ (by omega) (by omega)).mono ?_
                        rintro e w6 ⟨rfl, hb6⟩
                        have hown6 := hown5.below hb6
                        have hbel6 := hbel5.trans (hb6.mono hs5)
                        have hs6 := hbel6.size
                        have hck6 := hck5.below hb6
                        have hq6 := hq5
                        have hql6 := Nat.lt_of_lt_of_le hql5 hb6.size
                        obtain ⟨d0, d1, d2, d3, d4⟩ := id hck6
                        have hz6 : (sb (bigB (ca) 2)).size = 2 := by rw [sb_size, bigB_length]
                        have hzl6 : (sb (bigB (ca) 2)).size ≤ 2 := by omega
                        have HZ6 := Lib.hid hz6
                        clear hz6
                        try simp only [] at d0 d1 d2 d3 d4
                        go_wp2_with (at_builtin; refine app_ms rfl _ _ 87 9 rfl 5 Try.underlying87 Try.underlying9 Try.infoB w.heap.size w.heap.size hbel6 hown6 rfl (sb (bigB (ca) 2)) rfl (by omega) hs6 (Nat.le_refl _) ?_; intro v7 w7 hown7 hbel7 hg7 hsep7; have hs7 := hbel7.size; have hck7 := hck6.grown hg7 hq6; have hq7 := hsep7 _ hql6 hq6; have hql7 := Nat.lt_of_lt_of_le hql6 hg7.size; obtain ⟨d0, d1, d2, d3, d4⟩ := id hck7)
                        try simp only [] at d0 d1 d2 d3 d4
                        go_wp2
                        go_roundw
                        case rel => exact ⟨k + 1, acc ++ (7 :: bigB (ca) 2), false, by omega, by go_num, rfl, by simp [bigB_length, bs_length]; omega, hown7.cast (by simp [bigB_length, sb_size, bs_length]; try omega) (by simp only [u8s_append, bs_sbig]; simp [u8s]), hbel7, by
                          unfold Hid; rw [hW.out, HD.out, pw_ok HZ.out HK0.out, show big2 ⟨7, text, bits, ca, cb⟩ = false from rfl, List.drop_append_of_le_length hacc2]; cases poolW (l.drop (k + 1)) (k + 1) false <;> simp [kbytes, Except.map], by unfold Hid; rw [List.take_append_of_le_length hacc2]; exact hT.out⟩
                        case measure => simp [intOf]; omega
                      · by_cases ht : tag = 8
                        · subst ht
                          clear hz
                          have hk0 : kerr ⟨8, text, bits, ca, cb⟩ = 0 := by simp [kerr]
                          have HK0 := Lib.hid hk0
                          clear hk0
                          go_wp2_with (at_builtin; refine app_m rfl _ _ 87 rfl 5 (.int .u8 0) 1 Try.underlying87 Try.infoB rfl w.heap.size w.heap.size hbel1 hown1 rfl 1 [.int .u8 8] rfl (by simp [Value.oneCell']) _ rfl (by omega) (by omega) hs1 (Nat.le_refl _) ?_ rfl; intro v5 w5 hown5 hbel5 hg5 hsep5; have hs5 := hbel5.size; have hck5 := hck1.grown hg5 hq1; have hq5 := hsep5 _ hql1 hq1; have hql5 := Nat.lt_of_lt_of_le hql1 hg5.size; obtain ⟨d0, d1, d2, d3, d4⟩ := id hck5)
                          try simp only [] at d0 d1 d2 d3 d4
                          refine (Big_any (ca) 2 _ rfl _ rfl _ (by omega) (by omega)).mono ?_
                          rintro e w6 ⟨rfl, hb6⟩
                          have hown6 := hown5.below hb6
                          have hbel6 := hbel5.trans (hb6.mono hs5)
                          have hs6 := hbel6.size
                          have hck6 := hck5.below hb6
                          have hq6 := hq5
                          have hql6 := Nat.lt_of_lt_of_le hql5 hb6.size
                          obtain ⟨d0, d1, d2, d3, d4⟩ := id hck6
                          have hz6 : (sb (bigB (ca) 2)).size = 2 := by rw [sb_size, bigB_length]
                          have hzl6 : (sb (bigB (ca) 2)).size ≤ 2 := by omega
                          have HZ6 := Lib.hid hz6
                          clear hz6
                          try simp only [] at d0 d1 d2 d3 d4
                          go_wp2_with (at_builtin; refine app_ms rfl _ _ 87 9 rfl 5 Try.underlying87 Try.underlying9 Try.infoB w.heap.size w.heap.size hbel6 hown6 rfl (sb (bigB (ca) 2)) rfl (by omega) hs6 (Nat.le_refl _) ?_; intro v7 w7 hown7 hbel7 hg7 hsep7; have hs7 := hbel7.size; have hck7 := hck6.grown hg7 hq6; have hq7 := hsep7 _ hql6 hq6; have hql7 := Nat.lt_of_lt_of_le hql6 hg7.size; obtain ⟨d0, d1, d2, d3, d4⟩ := id hck7)
                          try simp only [] at d0 d1 d2 d3 d4
                          go_wp2
                          go_roundw
                          case rel => exact ⟨k + 1, acc ++ (8 :: bigB (ca) 2), false, by omega, by go_num, rfl, by simp [bigB_length, bs_length]; omega, hown7.cast (by simp [bigB_length, sb_size, bs_length]; try omega) (by simp only [u8s_append, bs_sbig]; simp [u8s]), hbel7, by
                            unfold Hid; rw [hW.out, HD.out, pw_ok HZ.out HK0.out, show big2 ⟨8, text, bits, ca, cb⟩ = false from rfl, List.drop_append_of_le_length hacc2]; cases poolW (l.drop (k + 1)) (k + 1) false <;> simp [kbytes, Except.map], by unfold Hid; rw [List.take_append_of_le_length hacc2]; exact hT.out⟩
                          case measure => simp [intOf]; omega
                        · by_cases ht : tag = 9
                          · subst ht
                            clear hz
                            have hk0 : kerr ⟨9, text, bits, ca, cb⟩ = 0 := by simp [kerr]
                            have HK0 := Lib.hid hk0
                            clear hk0
                            go_wp2_with (at_builtin; refine app_m rfl _ _ 87 rfl 5 (.int .u8 0) 1 Try.underlying87 Try.infoB rfl w.heap.size w.heap.size hbel1 hown1 rfl 1 [.int .u8 9] rfl (by simp [Value.oneCell']) _ rfl (by omega) (by omega) hs1 (Nat.le_refl _) ?_ rfl; intro v5 w5 hown5 hbel5 hg5 hsep5; have hs5 := hbel5.size; have hck5 := hck1.grown hg5 hq1; have hq5 := hsep5 _ hql1 hq1; have hql5 := Nat.lt_of_lt_of_le hql1 hg5.size; obtain ⟨d0, d1, d2, d3, d4⟩ := id hck5)
                            try simp only [] at d0 d1 d2 d3 d4
                            rw [orAB ok4 ok5]
                            refine (Big_any (ca * 65536 + cb) 4 _ rfl _ rfl _ (by omega) (by omega)).mono ?_
                            rintro e w6 ⟨rfl, hb6⟩
                            have hown6 := hown5.below hb6
                            have hbel6 := hbel5.trans (hb6.mono hs5)
                            have hs6 := hbel6.size
                            have hck6 := hck5.below hb6
                            have hq6 := hq5
                            have hql6 := Nat.lt_of_lt_of_le hql5 hb6.size
                            obtain ⟨d0, d1, d2, d3, d4⟩ := id hck6
                            have hz6 : (sb (bigB (ca * 65536 + cb) 4)).size = 4 := by rw [sb_size, bigB_length]
                            have hzl6 : (sb (bigB (ca * 65536 + cb) 4)).size ≤ 4 := by omega
                            have HZ6 := Lib.hid hz6
                            clear hz6
                            try simp only [] at d0 d1 d2 d3 d4
                            go_wp2_with (at_builtin; refine app_ms rfl _ _ 87 9 rfl 5 Try.underlying87 Try.underlying9 Try.infoB w.heap.size w.heap.size hbel6 hown6 rfl (sb (bigB (ca * 65536 + cb) 4)) rfl (by omega) hs6 (Nat.le_refl _) ?_; intro v7 w7 hown7 hbel7 hg7 hsep7; have hs7 := hbel7.size; have hck7 := hck6.grown hg7 hq6; have hq7 := hsep7 _ hql6 hq6; have hql7 := Nat.lt_of_lt_of_le hql6 hg7.size; obtain ⟨d0, d1, d2, d3, d4⟩ := id hck7)
                            try simp only [] at d0 d1 d2 d3 d4
                            go_wp2
                            go_roundw
                            case rel => exact ⟨k + 1, acc ++ (9 :: bigB (ca * 65536 + cb) 4), false, by omega, by go_num, rfl, by simp [bigB_length, bs_length]; omega, hown7.cast (by simp [bigB_length, sb_size, bs_length]; try omega) (by simp only [u8s_append, bs_sbig]; simp [u8s]), hbel7, by
                              unfold Hid; rw [hW.out, HD.out, pw_ok HZ.out HK0.out, show big2 ⟨9, text, bits, ca, cb⟩ = false from rfl, List.drop_append_of_le_length hacc2]; cases poolW (l.drop (k + 1)) (k + 1) false <;> simp [kbytes, Except.map], by unfold Hid; rw [List.take_append_of_le_length hacc2]; exact hT.out⟩
                            case measure => simp [intOf]; omega
                          · by_cases ht : tag = 10
                            · subst ht
                              clear hz
                              have hk0 : kerr ⟨10, text, bits, ca, cb⟩ = 0 := by simp [kerr]
                              have HK0 := Lib.hid hk0
                              clear hk0
                              go_wp2_with (at_builtin; refine app_m rfl _ _ 87 rfl 5 (.int .u8 0) 1 Try.underlying87 Try.infoB rfl w.heap.size w.heap.size hbel1 hown1 rfl 1 [.int .u8 10] rfl (by simp [Value.oneCell']) _ rfl (by omega) (by omega) hs1 (Nat.le_refl _) ?_ rfl; intro v5 w5 hown5 hbel5 hg5 hsep5; have hs5 := hbel5.size; have hck5 := hck1.grown hg5 hq1; have hq5 := hsep5 _ hql1 hq1; have hql5 := Nat.lt_of_lt_of_le hql1 hg5.size; obtain ⟨d0, d1, d2, d3, d4⟩ := id hck5)
                              try simp only [] at d0 d1 d2 d3 d4
                              rw [orAB ok4 ok5]
                              refine (Big_any (ca * 65536 + cb) 4 _ rfl _ rfl _ (by omega) (by omega)).mono ?_
                              rintro e w6 ⟨rfl, hb6⟩
                              have hown6 := hown5.below hb6
                              have hbel6 := hbel5.trans (hb6.mono hs5)
                              have hs6 := hbel6.size
                              have hck6 := hck5.below hb6
                              have hq6 := hq5
                              have hql6 := Nat.lt_of_lt_of_le hql5 hb6.size
                              obtain ⟨d0, d1, d2, d3, d4⟩ := id hck6
                              have hz6 : (sb (bigB (ca * 65536 + cb) 4)).size = 4 := by rw [sb_size, bigB_length]
                              have hzl6 : (sb (bigB (ca * 65536 + cb) 4)).size ≤ 4 := by omega
                              have HZ6 := Lib.hid hz6
                              clear hz6
                              try simp only [] at d0 d1 d2 d3 d4
                              go_wp2_with (at_builtin; refine app_ms rfl _ _ 87 9 rfl 5 Try.underlying87 Try.underlying9 Try.infoB w.heap.size w.heap.size hbel6 hown6 rfl (sb (bigB (ca * 65536 + cb) 4)) rfl (by omega) hs6 (Nat.le_refl _) ?_; intro v7 w7 hown7 hbel7 hg7 hsep7; have hs7 := hbel7.size; have hck7 := hck6.grown hg7 hq6; have hq7 := hsep7 _ hql6 hq6; have hql7 := Nat.lt_of_lt_of_le hql6 hg7.size; obtain ⟨d0, d1, d2, d3, d4⟩ := id hck7)
                              try simp only [] at d0 d1 d2 d3 d4
                              go_wp2
                              go_roundw
                              case rel => exact ⟨k + 1, acc ++ (10 :: bigB (ca * 65536 + cb) 4), false, by omega, by go_num, rfl, by simp [bigB_length, bs_length]; omega, hown7.cast (by simp [bigB_length, sb_size, bs_length]; try omega) (by simp only [u8s_append, bs_sbig]; simp [u8s]), hbel7, by
                                unfold Hid; rw [hW.out, HD.out, pw_ok HZ.out HK0.out, show big2 ⟨10, text, bits, ca, cb⟩ = false from rfl, List.drop_append_of_le_length hacc2]; cases poolW (l.drop (k + 1)) (k + 1) false <;> simp [kbytes, Except.map], by unfold Hid; rw [List.take_append_of_le_length hacc2]; exact hT.out⟩
                              case measure => simp [intOf]; omega
                            · by_cases ht : tag = 11
                              · subst ht
                                clear hz
                                have hk0 : kerr ⟨11, text, bits, ca, cb⟩ = 0 := by simp [kerr]
                                have HK0 := Lib.hid hk0
                                clear hk0
                                go_wp2_with (at_builtin; refine app_m rfl _ _ 87 rfl 5 (.int .u8 0) 1 Try.underlying87 Try.infoB rfl w.heap.size w.heap.size hbel1 hown1 rfl 1 [.int .u8 11] rfl (by simp [Value.oneCell']) _ rfl (by omega) (by omega) hs1 (Nat.le_refl _) ?_ rfl; intro v5 w5 hown5 hbel5 hg5 hsep5; have hs5 := hbel5.size; have hck5 := hck1.grown hg5 hq1; have hq5 := hsep5 _ hql1 hq1; have hql5 := Nat.lt_of_lt_of_le hql1 hg5.size; obtain ⟨d0, d1, d2, d3, d4⟩ := id hck5)
                                try simp only [] at d0 d1 d2 d3 d4
                                rw [orAB ok4 ok5]
                                refine (Big_any (ca * 65536 + cb) 4 _ rfl _ rfl _ (by omega) (by omega)).mono ?_
                                rintro e w6 ⟨rfl, hb6⟩
                                have hown6 := hown5.below hb6
                                have hbel6 := hbel5.trans (hb6.mono hs5)
                                have hs6 := hbel6.size
                                have hck6 := hck5.below hb6
                                have hq6 := hq5
                                have hql6 := Nat.lt_of_lt_of_le hql5 hb6.size
                                obtain ⟨d0, d1, d2, d3, d4⟩ := id hck6
                                have hz6 : (sb (bigB (ca * 65536 + cb) 4)).size = 4 := by rw [sb_size, bigB_length]
                                have hzl6 : (sb (bigB (ca * 65536 + cb) 4)).size ≤ 4 := by omega
                                have HZ6 := Lib.hid hz6
                                clear hz6
                                try simp only [] at d0 d1 d2 d3 d4
                                go_wp2_with (at_builtin; refine app_ms rfl _ _ 87 9 rfl 5 Try.underlying87 Try.underlying9 Try.infoB w.heap.size w.heap.size hbel6 hown6 rfl (sb (bigB (ca * 65536 + cb) 4)) rfl (by omega) hs6 (Nat.le_refl _) ?_; intro v7 w7 hown7 hbel7 hg7 hsep7; have hs7 := hbel7.size; have hck7 := hck6.grown hg7 hq6; have hq7 := hsep7 _ hql6 hq6; have hql7 := Nat.lt_of_lt_of_le hql6 hg7.size; obtain ⟨d0, d1, d2, d3, d4⟩ := id hck7)
                                try simp only [] at d0 d1 d2 d3 d4
                                go_wp2
                                go_roundw
                                case rel => exact ⟨k + 1, acc ++ (11 :: bigB (ca * 65536 + cb) 4), false, by omega, by go_num, rfl, by simp [bigB_length, bs_length]; omega, hown7.cast (by simp [bigB_length, sb_size, bs_length]; try omega) (by simp only [u8s_append, bs_sbig]; simp [u8s]), hbel7, by
                                  unfold Hid; rw [hW.out, HD.out, pw_ok HZ.out HK0.out, show big2 ⟨11, text, bits, ca, cb⟩ = false from rfl, List.drop_append_of_le_length hacc2]; cases poolW (l.drop (k + 1)) (k + 1) false <;> simp [kbytes, Except.map], by unfold Hid; rw [List.take_append_of_le_length hacc2]; exact hT.out⟩
                                case measure => simp [intOf]; omega
                              · by_cases ht : tag = 12
                                · subst ht
                                  clear hz
                                  have hk0 : kerr ⟨12, text, bits, ca, cb⟩ = 0 := by simp [kerr]
                                  have HK0 := Lib.hid hk0
                                  clear hk0
                                  go_wp2_with (at_builtin; refine app_m rfl _ _ 87 rfl 5 (.int .u8 0) 1 Try.underlying87 Try.infoB rfl w.heap.size w.heap.size hbel1 hown1 rfl 1 [.int .u8 12] rfl (by simp [Value.oneCell']) _ rfl (by omega) (by omega) hs1 (Nat.le_refl _) ?_ rfl; intro v5 w5 hown5 hbel5 hg5 hsep5; have hs5 := hbel5.size; have hck5 := hck1.grown hg5 hq1; have hq5 := hsep5 _ hql1 hq1; have hql5 := Nat.lt_of_lt_of_le hql1 hg5.size; obtain ⟨d0, d1, d2, d3, d4⟩ := id hck5)
                                  try simp only [] at d0 d1 d2 d3 d4
                                  rw [orAB ok4 ok5]
                                  refine (Big_any (ca * 65536 + cb) 4 _ rfl _ rfl _ (by omega) (by omega)).mono ?_
                                  rintro e w6 ⟨rfl, hb6⟩
                                  have hown6 := hown5.below hb6
                                  have hbel6 := hbel5.trans (hb6.mono hs5)
                                  have hs6 := hbel6.size
                                  have hck6 := hck5.below hb6
                                  have hq6 := hq5
                                  have hql6 := Nat.lt_of_lt_of_le hql5 hb6.size
                                  obtain ⟨d0, d1, d2, d3, d4⟩ := id hck6
                                  have hz6 : (sb (bigB (ca * 65536 + cb) 4)).size = 4 := by rw [sb_size, bigB_length]
                                  have hzl6 : (sb (bigB (ca * 65536 + cb) 4)).size ≤ 4 := by omega
                                  have HZ6 := Lib.hid hz6
                                  clear hz6
                                  try simp only [] at d0 d1 d2 d3 d4
                                  go_wp2_with (at_builtin; refine app_ms rfl _ _ 87 9 rfl 5 Try.underlying87 Try.underlying9 Try.infoB w.heap.size w.heap.size hbel6 hown6 rfl (sb (bigB (ca * 65536 + cb) 4)) rfl (by omega) hs6 (Nat.le_refl _) ?_; intro v7 w7 hown7 hbel7 hg7 hsep7; have hs7 := hbel7.size; have hck7 := hck6.grown hg7 hq6; have hq7 := hsep7 _ hql6 hq6; have hql7 := Nat.lt_of_lt_of_le hql6 hg7.size; obtain ⟨d0, d1, d2, d3, d4⟩ := id hck7)
                                  try simp only [] at d0 d1 d2 d3 d4
                                  go_wp2
                                  go_roundw
                                  case rel => exact ⟨k + 1, acc ++ (12 :: bigB (ca * 65536 + cb) 4), false, by omega, by go_num, rfl, by simp [bigB_length, bs_length]; omega, hown7.cast (by simp [bigB_length, sb_size, bs_length]; try omega) (by simp only [u8s_append, bs_sbig]; simp [u8s]), hbel7, by
                                    unfold Hid; rw [hW.out, HD.out, pw_ok HZ.out HK0.out, show big2 ⟨12, text, bits, ca, cb⟩ = false from rfl, List.drop_append_of_le_length hacc2]; cases poolW (l.drop (k + 1)) (k + 1) false <;> simp [kbytes, Except.map], by unfold Hid; rw [List.take_append_of_le_length hacc2]; exact hT.out⟩
                                  case measure => simp [intOf]; omega
                                · have x : kerr ⟨tag, text, bits, ca, cb⟩ = 5 ∨ False := by left; unfold kerr; dsimp only; rw [if_neg (by omega), if_neg (by omega), if_neg (by omega)]
                                  have hk5 := x.resolve_right id
                                  clear x
                                  have e0 : ((tag : Int) == 0) = false := by rw [beq_eq_false_iff_ne]; omega
                                  have e1 : ((tag : Int) == 1) = false := by rw [beq_eq_false_iff_ne]; omega
                                  have e3 : ((tag : Int) == 3) = false := by rw [beq_eq_false_iff_ne]; omega
                                  have e4 : ((tag : Int) == 4) = false := by rw [beq_eq_false_iff_ne]; omega
                                  have e5 : ((tag : Int) == 5) = false := by rw [beq_eq_false_iff_ne]; omega
                                  have e6 : ((tag : Int) == 6) = false := by rw [beq_eq_false_iff_ne]; omega
                                  have e7 : ((tag : Int) == 7) = false := by rw [beq_eq_false_iff_ne]; omega
                                  have e8 : ((tag : Int) == 8) = false := by rw [beq_eq_false_iff_ne]; omega
                                  have e9 : ((tag : Int) == 9) = false := by rw [beq_eq_false_iff_ne]; omega
                                  have e10 : ((tag : Int) == 10) = false := by rw [beq_eq_false_iff_ne]; omega
                                  have e11 : ((tag : Int) == 11) = false := by rw [beq_eq_false_iff_ne]; omega
                                  have e12 : ((tag : Int) == 12) = false := by rw [beq_eq_false_iff_ne]; omega
                                  go_wp2
                                  go_ret3
                                  exact ⟨by rw [show poolR l = (⟨#[]⟩, 5, k) by unfold poolR; rw [if_neg Hbad.out, hW.out, HD.out, pw_err HZ.out (by rw [hk5]; decide), hk5]; rfl]; rfl, hbel1⟩
        · have hpw := pw_bad (c := ⟨tag, text, bits, ca, cb⟩) (r := l.drop (k + 1)) (k := k) hbad
          have hRR : poolR l = (⟨#[]⟩, 5, k) := by unfold poolR; rw [if_neg Hbad.out, hW.out, HD.out, hpw]; rfl
          have HRR := Lib.hid hRR
          clear hRR hpw
          cases emp with
          | true =>
            have e0 : ((tag : Int) == 0) = false := by rw [beq_eq_false_iff_ne]; simpa using hbad
            go_wp2
            go_ret3
            exact ⟨by rw [HRR.out]; rfl, hbel1⟩
          | false =>
            obtain rfl : tag = 0 := by simpa using hbad
            go_wp2
            go_ret3
            exact ⟨by rw [HRR.out]; rfl, hbel1⟩
      · obtain rfl : k = l.length := by omega
        have hdl : l.drop l.length = [] := List.drop_length
        cases emp with
        | true =>
          have hRR : poolR l = (⟨#[]⟩, 5, l.length) := by unfold poolR; rw [if_neg Hbad.out, hW.out, hdl]; rfl
          have HRR := Lib.hid hRR
          clear hRR hdl hr
          go_wp2
          go_ret3
          exact ⟨by rw [HRR.out]; rfl, hbel⟩
        | false =>
          have hRR : poolR l = (sb acc, 0, 0) := by
            unfold poolR; rw [if_neg Hbad.out, hW.out, hdl]
            simp [poolW, Except.map, ← hT.out, List.take_append_drop]
          have HRR := Lib.hid hRR
          clear hRR hdl hr
          have hcv := rd_str (P := Try.prog) (src := 87) (dst := 9) (e := 5) rfl rfl rfl hown.rd rfl
          go_wp2
          go_ret3
          exact ⟨by rw [HRR.out]; rfl, hbel⟩
end Go.Proofs.Ytfnjbmpolggdeaa
