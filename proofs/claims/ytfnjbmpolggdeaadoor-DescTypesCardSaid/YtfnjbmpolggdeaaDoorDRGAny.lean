/-
  strings.IndexAny at any text, for ASCII signs (two or more), as the print's contract.
-/
import Derived.Test.YtfnjbmpolggdeaaDoorDRx0
import Derived.Test.YtfnjbmpolggdeaaDoorShelf
import Derived.Lib.Hide
import Derived.Lib.OthersKept
import Derived.Laws.RangeAny
import Derived.WalkMore
import Derived.IntWalk
import Derived.Deep.QuietTactic
import Derived.BigQuiet
import Derived.Deep.DeepCutAuto
namespace Go.Proofs.YtfnjbmpolggdeaaDoor.DR
open Go.RowKit Go.Proofs.YtfnjbmpolggdeaaDoorW.PrintWords
set_option linter.unusedVariables false
set_option linter.unusedSimpArgs false

/-! ### bytes of a rune -/
theorem get_at' (s : ByteArray) (i : Nat) (h : i < s.size) : s.get! i = s[i]'h := by
  simp [ByteArray.get!, getElem!_pos, h]
  rfl
theorem decode_valid (s : ByteArray) (pos : Nat) : (Utf8.decode s pos).1 ≤ 1114111 ∧ Lib.validRune ((Utf8.decode s pos).1 : Int) = true := by
  have hb : ∀ k, (s.get! (pos + k)).toNat < 256 := fun k => (s.get! (pos + k)).toNat_lt
  have h0 := hb 0; have h1 := hb 1; have h2 := hb 2; have h3 := hb 3
  simp only [Utf8.decode, Lib.validRune, decide_eq_true_eq]
  repeat' split
  all_goals simp_all [Utf8.runeError, Utf8.valid]
  all_goals omega
/-- all bytes of a rune that begins with a high byte are high. -/
theorem decode_span (s : ByteArray) (pos : Nat) (h : pos < s.size) (ha : 128 ≤ (s[pos]'h).toNat) : ∀ k, k < (Utf8.decode s pos).2 → ∃ hk : pos + k < s.size, 128 ≤ (s[pos + k]'hk).toNat := by
  have cont : ∀ k, (decide (pos + k < s.size) && (s.get! (pos + k)).toNat / 64 == 2) = true → ∃ hk : pos + k < s.size, 128 ≤ (s[pos + k]'hk).toNat := by
    intro k hc
    rw [Bool.and_eq_true, decide_eq_true_eq, beq_iff_eq] at hc
    refine ⟨hc.1, ?_⟩
    have := hc.2
    rw [get_at' s _ hc.1] at this
    omega
  have z : ∃ hk : pos + 0 < s.size, 128 ≤ (s[pos + 0]'hk).toNat := ⟨h, ha⟩
  intro k hk
  rcases Nat.eq_zero_or_pos k with rfl | hkp
  · exact z
  clear z ha
  revert hk
  simp only [Utf8.decode]
  repeat' split
  all_goals intro hk
  all_goals (first | (exfalso; omega) | skip)
  all_goals
    rcases (by omega : k = 1 ∨ k = 2 ∨ k = 3) with rfl | rfl | rfl
    all_goals (first | (exfalso; omega) | (refine cont _ ?_; clear cont; simp_all; done) | (refine cont _ ?_; clear cont; simp_all; omega))
theorem encode_cases (c : Nat) (hc : 128 ≤ c) (x : ByteArray) (h : x = (if c < 128 then (⟨#[UInt8.ofNat c]⟩ : ByteArray) else if c < 2048 then ⟨#[UInt8.ofNat (192 + c / 64), UInt8.ofNat (128 + c % 64)]⟩ else if c < 65536 then ⟨#[UInt8.ofNat (224 + c / 4096), UInt8.ofNat (128 + c / 64 % 64), UInt8.ofNat (128 + c % 64)]⟩ else ⟨#[UInt8.ofNat (240 + c / 262144), UInt8.ofNat (128 + c / 4096 % 64), UInt8.ofNat (128 + c / 64 % 64), UInt8.ofNat (128 + c % 64)]⟩)) :
    ∃ n, x.size = n + 1 ∧ n < 4 ∧ 1 ≤ n ∧ ∃ hn : n < x.size, 128 ≤ (x[n]'hn).toNat := by
  have e : 128 ≤ (UInt8.ofNat (128 + c % 64)).toNat := by
    have : (UInt8.ofNat (128 + c % 64)).toNat = (128 + c % 64) % 256 := by simp
    rw [this]; omega
  rw [if_neg (by omega)] at h
  generalize UInt8.ofNat (128 + c % 64) = z at *
  split at h
  · subst h; exact ⟨1, rfl, by decide, by decide, by simp [ByteArray.size], e⟩
  · split at h
    · subst h; exact ⟨2, rfl, by decide, by decide, by simp [ByteArray.size], e⟩
    · subst h; exact ⟨3, rfl, by decide, by decide, by simp [ByteArray.size], e⟩
theorem encode_chosen (r c : Nat) (h : (if Utf8.valid (r : Int) = true then ((r : Int)).toNat else Utf8.runeError) = c) : Utf8.encode (r : Int) = (if c < 128 then (⟨#[UInt8.ofNat c]⟩ : ByteArray) else if c < 2048 then ⟨#[UInt8.ofNat (192 + c / 64), UInt8.ofNat (128 + c % 64)]⟩ else if c < 65536 then ⟨#[UInt8.ofNat (224 + c / 4096), UInt8.ofNat (128 + c / 64 % 64), UInt8.ofNat (128 + c % 64)]⟩ else ⟨#[UInt8.ofNat (240 + c / 262144), UInt8.ofNat (128 + c / 4096 % 64), UInt8.ofNat (128 + c / 64 % 64), UInt8.ofNat (128 + c % 64)]⟩) := by
  unfold Utf8.encode
  simp only [h]
theorem rune_ge (r : Nat) (h : 128 ≤ r) (e : Nat) (he : 128 ≤ e) (b : Bool) : 128 ≤ (if b = true then ((r : Int)).toNat else e) := by
  split
  · simpa using h
  · exact he
theorem encode_last (r : Nat) (h : 128 ≤ r) (x : ByteArray) (hx : Utf8.encode (r : Int) = x) : ∃ n, x.size = n + 1 ∧ n < 4 ∧ 1 ≤ n ∧ ∃ hn : n < x.size, 128 ≤ (x[n]'hn).toNat :=
  encode_cases _ (rune_ge r h Utf8.runeError (by unfold Utf8.runeError; omega) (Utf8.valid (r : Int))) x (hx.symm.trans (encode_chosen r _ rfl))
theorem indexByte_neg {l : List UInt8} {c : UInt8} (h : ∀ b ∈ l, b ≠ c) : Lib.indexByte l c = -1 := by
  induction l with
  | nil => rfl
  | cons b l ih =>
    have hb := h b (by simp)
    unfold Lib.indexByte
    rw [if_neg (by simpa using hb), ih (fun x hx => h x (by simp [hx]))]
    rfl
def asciiB (s : ByteArray) : Prop := ∀ b ∈ s.data.toList, b.toNat < 128
instance (s : ByteArray) : Decidable (asciiB s) := by unfold asciiB; infer_instance
theorem asciiB.get {s : ByteArray} (h : asciiB s) (i : Nat) (hi : i < s.size) : (s[i]'hi).toNat < 128 := by
  refine h _ ?_
  have := Lib.data_getElem? s i hi
  exact List.mem_of_getElem? this

theorem below_drewN0 {B : Nat} {a w : World} (h : Below B a w) (n : Nat) : Below B a (w.drewN n) := ⟨h.os, h.tape, h.output, h.size, h.block⟩
set_option maxHeartbeats 4000000 in
set_option maxRecDepth 100000 in
theorem IndexRune_error (chars : ByteArray) (w : World) (hc : asciiB chars) (hz : chars.size ≤ 1000) :
    Calls Tryd.prog 52 #[.string chars, .int .i32 65533] w fun e w' => e = .returned (.int .i64 (-1)) ∧ Below w.heap.size w w' := by
  have HC := Lib.hid hc
  clear hc
  go_enter Tryd.func52, Tryd.ntmps52
  go_wp2
  go_loopg [5, 6] chars.size (fun g _ _ wx => ∃ i : Nat, i + g = chars.size ∧ wx = w.iter chars i)
  case atStart => exact ⟨0, by omega, rfl⟩
  case round =>
    obtain ⟨i, hig, rfl⟩ := hrel
    cases gk with
    | zero =>
      obtain rfl : i = chars.size := by omega
      have hnx := run_next_end (P := Tryd.prog) w chars chars.size
      go_wp2
      go_ret
      exact ⟨rfl, (Below.refl _ w).alloc (Nat.le_refl _) _⟩
    | succ g =>
      have hi : i < chars.size := by omega
      have hx128 := HC.out.get i hi
      have hnx := fun ty => run_next_ascii (P := Tryd.prog) w chars i ty hi hx128
      generalize chars[i]'hi = x at *
      have e1 : ((x.toNat : Int) == 65533) = false := by rw [beq_eq_false_iff_ne]; omega
      go_wp2
      go_roundg g
      case measure => omega
      case rel => exact ⟨i + 1, by omega, rfl⟩

set_option maxHeartbeats 4000000 in
set_option maxRecDepth 100000 in
theorem IndexRune_int (chars : ByteArray) (i : Int) (w : World) (hc : asciiB chars) (hz : chars.size ≤ 1000) (e2 : (128 : Int) ≤ i) (hv : Lib.validRune i = true) (h : i ≠ 65533)
    (rs : ByteArray) (hcv : ∀ w, (convert 21 9 (.int .i32 i)).run Tryd.prog w = .ok (.string rs) w) (n : Nat) (hn4 : (n : Int) < 4) (hn1 : (rs.size : Int) = (n : Int) + 1) (hnl : n < rs.size) (hlast : 128 ≤ (rs[n]'hnl).toNat) :
    Calls Tryd.prog 52 #[.string chars, .int .i32 i] w fun e w' => e = .returned (.int .i64 (-1)) ∧ Below w.heap.size w w' := by
  have HV := Lib.hid hv
  have HC := Lib.hid hc
  have e1 : (i == 65533) = false := by rw [beq_eq_false_iff_ne]; exact h
  have e3 : (0 : Int) ≤ i := by omega
  clear hv hc h
  go_enter Tryd.func52, Tryd.ntmps52
  go_wp2_with fail
  refine (Tryd.utf8_ValidRune i _).mono ?_
  rintro e w' ⟨rfl, rfl⟩
  rw [HV.out]
  go_wp2_with fail
  go_step3
  go_wp2_with fail
  go_loopw [9] (fun v wr => v = .int .i64 (n : Int) ∧ wr = w') (fun _ _ => 0)
  case atStart => exact ⟨rfl, rfl⟩
  case round =>
    obtain ⟨rfl, rfl⟩ := hrel
    by_cases hlt : n < chars.size
    · have x1 : (n : Int) < chars.size := by omega
      have x2 : (n : Int) < rs.size := by omega
      have hx := HC.out.get n hlt
      have hne : ((((chars[n]'hlt).toNat : Nat) : Int) != (((rs[n]'hnl).toNat : Nat) : Int)) = true := by
        rw [bne_iff_ne]; intro he; omega
      have hneg : Lib.indexByte (chars.extract (n + 1) chars.size).data.toList ((((rs[n]'hnl).toNat : Nat) : Int)).toNat.toUInt8 = -1 := by
        refine indexByte_neg (fun b hb => ?_)
        rw [Lib.extract_to_end] at hb
        have h1 := HC.out b (List.mem_of_mem_drop hb)
        rintro rfl
        simp at h1
        omega
      have HNEG := Lib.hid hneg
      clear hneg hn1
      go_wp2_with fail
      go_step3
      go_wp2_with fail
      go_quiet (fail)
      have hb2 := below_drewN0 (Below.refl wr.heap.size wr) nq
      generalize wr.drewN nq = w2 at *
      have hwr : IntKind.i64.wrap ((n : Int) + 1) = (n : Int) + 1 := IntWalk.i64_in _ (by omega)
      have hp0 : (0 : Int) ≤ (n : Int) + 1 := by omega
      have hp1 : (n : Int) + 1 ≤ (chars.size : Int) := by omega
      have hp2 : ((n : Int) + 1).toNat = n + 1 := by omega
      go_wp2_with fail
      go_quiet ((go_at_call 37; exact Calls.quiet_of_same (Tryd.strings_IndexByte _ _ _)))
      rw [HNEG.out]
      go_wp2
      repeat (show Exit.noGoto _ Exit.ret _ _; rw [Exit.noGoto_ret])
      show bodyPost _ _ _ Exit.ret _ _
      go_ret
      exact ⟨rfl, below_drewN0 hb2 _⟩
    · have x1 : (chars.size : Int) ≤ n := by omega
      go_wp2
      rw [Exit.noGoto_ret]
      go_ret
      exact ⟨rfl, Below.refl _ _⟩
theorem IndexRune_high (chars : ByteArray) (r : Nat) (w : World) (hc : asciiB chars) (hz : chars.size ≤ 1000) (hr : 128 ≤ r) (hv : Lib.validRune (r : Int) = true) :
    Calls Tryd.prog 52 #[.string chars, .int .i32 (r : Int)] w fun e w' => e = .returned (.int .i64 (-1)) ∧ Below w.heap.size w w' := by
  by_cases h : r = 65533
  · subst h; exact IndexRune_error chars w hc hz
  have hcv : ∀ w, (convert 21 9 (.int .i32 (r : Int))).run Tryd.prog w = .ok (.string (Utf8.encode (r : Int))) w := fun w => run_convert_int_string w 21 9 .i32 (r : Int) (by rw [Tryd.underlying21]; rfl) Tryd.underlying9
  have key := encode_last r hr
  generalize Utf8.encode (r : Int) = rs at *
  obtain ⟨n, hn1, hn4, hn0, hnl, hlast⟩ := key rs rfl
  exact IndexRune_int chars (r : Int) w hc hz (by omega) hv (by omega) rs hcv n (by omega) (by omega) hnl hlast

theorem NoAny.add {s chars : List UInt8} {i n : Nat} (h : Lib.NoAny s chars i) (hn : ∀ k, k < n → ∀ b, s[i + k]? = some b → chars.contains b = false) : Lib.NoAny s chars (i + n) := by
  intro j b hj hb
  by_cases hji : j < i
  · exact h j b hji hb
  · have := hn (j - i) (by omega) b (by rw [show i + (j - i) = j by omega]; exact hb)
    exact this

set_option maxHeartbeats 8000000 in
set_option maxRecDepth 100000 in
theorem IndexAny_short (s chars : ByteArray) (w : World) (h2 : 2 ≤ chars.size) (h8 : s.size ≤ 8) (hc : asciiB chars) (hz : chars.size ≤ 1000) :
    Calls Tryd.prog 34 #[.string s, .string chars] w fun e w' => e = .returned (.int .i64 (Lib.indexAny s.data.toList chars.data.toList)) ∧ Below w.heap.size w w' := by
  have hemp : chars.toList.isEmpty = false := by
    rw [Lib.toList_data]
    cases h : chars.data.toList with
    | nil => have := Lib.size_eq chars; rw [h, List.length_nil] at this; omega
    | cons _ _ => rfl
  have hn1 : ((chars.size : Int) == 1) = false := beq_eq_false_iff_ne.2 (by omega)
  have h8z : decide ((8 : Int) < (s.size : Int)) = false := decide_eq_false (by omega)
  have HC := Lib.hid hc
  clear hc
  go_enter Tryd.func34, Tryd.ntmps34
  go_wp2_with fail
  refine (Tryd.strings_shouldUseASCIISet _ _).mono ?_
  rintro e w' ⟨rfl, hw⟩
  rw [hw, h8z]
  clear hw
  go_wp2_with fail
  go_loopg [9, 10] s.size (fun g _ _ wx => ∃ i : Nat, i ≤ s.size ∧ s.size - i = g ∧ Aside0 (wx.heap[w.heap.size]? = some (.stringIter s i)) ∧ Aside0 (Below w.heap.size w wx) ∧ Aside0 (w.heap.size + 1 ≤ wx.heap.size) ∧ Aside0 (Lib.NoAny s.data.toList chars.data.toList i))
  case atStart => exact ⟨0, by omega, by omega, ⟨World.iter_heap w s 0⟩, ⟨(Below.refl _ w).alloc (Nat.le_refl _) _⟩, ⟨by simp [World.iter]⟩, ⟨Lib.NoAny.zero _ _⟩⟩
  case round =>
    obtain ⟨i, hi, hig, HIT, HB, HS, HN⟩ := hrel
    by_cases hlt : i < s.size
    · have hnx := fun ty => Lib.run_next_any_at (P := Tryd.prog) wr w.heap.size s i ty HIT.out hlt
      have hit2 := Aside0.mk (Lib.iterAt_heap wr w.heap.size s i (i + (Utf8.decode s i).2) HIT.out)
      have hb2 := Aside0.mk (Lib.below_iterAt HB.out (Nat.le_refl _) s (i + (Utf8.decode s i).2))
      have hs2 := Aside0.mk (show w.heap.size + 1 ≤ (wr.iterAt w.heap.size s (i + (Utf8.decode s i).2)).heap.size by rw [Lib.iterAt_size]; exact HS.out)
      have hxl : s.data.toList[i]? = some (s[i]'hlt) := Lib.data_getElem? s i hlt
      by_cases hx : (s[i]'hlt).toNat < 128
      · have hd := decode_ascii s i hlt hx
        rw [hd] at hnx hit2 hb2 hs2
        have Hx := Aside0.mk hxl
        clear hd hxl
        generalize s[i]'hlt = x at *
        simp only [] at hnx hit2 hb2 hs2
        have hcon := Lib.contains_iff_indexByte chars.data.toList x
        have hback : ((x.toNat : Int)).toNat.toUInt8 = x := by simp
        generalize wr.iterAt w.heap.size s (i + 1) = w2 at *
        cases hin : chars.data.toList.contains x
        · rw [hin] at hcon
          have hneg : ¬ ((0 : Int) ≤ Lib.indexByte chars.data.toList x) := of_decide_eq_false hcon.symm
          have HNN := Aside0.mk (HN.out.succ Hx.out hin)
          clear hcon hin
          go_wp2_with (go_at_call 52; refine (Tryd.strings_IndexRune_ascii _ _ _ (by omega) (by omega)).mono ?_; rintro e w' ⟨rfl, hw⟩; rw [hw, hback])
          go_roundg (s.size - (i + 1))
          case measure => omega
          case rel => exact ⟨i + 1, by omega, rfl, hit2, hb2, hs2, HNN⟩
        · rw [hin] at hcon
          have hge : (0 : Int) ≤ Lib.indexByte chars.data.toList x := of_decide_eq_true hcon.symm
          have HH := Aside0.mk (Lib.indexAny_hit HN.out Hx.out hin)
          clear hcon hin
          go_wp2_with (go_at_call 52; refine (Tryd.strings_IndexRune_ascii _ _ _ (by omega) (by omega)).mono ?_; rintro e w' ⟨rfl, hw⟩; rw [hw, hback])
          go_ret
          exact ⟨by rw [HH.out]; rfl, hb2.out⟩
      · have hx' : 128 ≤ (s[i]'hlt).toNat := by omega
        obtain ⟨hr, hw1⟩ := decode_high s i hlt hx'
        obtain ⟨hle, hv⟩ := decode_valid s i
        have hsp := decode_span s i hlt hx'
        have HNN := Aside0.mk (show Lib.NoAny s.data.toList chars.data.toList (i + (Utf8.decode s i).2) from NoAny.add HN.out (fun k hk b hb => by
          obtain ⟨hks, hkb⟩ := hsp k hk
          rw [Lib.data_getElem? s _ hks] at hb
          obtain rfl := Option.some.inj hb
          rw [Bool.eq_false_iff]
          intro hcc
          have := HC.out _ (List.contains_iff_mem.1 hcc)
          omega))
        have hend : i + (Utf8.decode s i).2 ≤ s.size := by
          obtain ⟨hks, _⟩ := hsp ((Utf8.decode s i).2 - 1) (by omega)
          omega
        clear hsp hxl hx hx' hle
        generalize (Utf8.decode s i).1 = r at *
        generalize (Utf8.decode s i).2 = n at *
        generalize wr.iterAt w.heap.size s (i + n) = w2 at *
        have HV := Lib.hid hv
        clear hv
        go_wp2_with fail
        refine (IndexRune_high chars r w2 HC.out hz hr HV.out).mono ?_
        rintro e w3 ⟨rfl, hb3⟩
        have hit3 := Aside0.mk (show w3.heap[w.heap.size]? = some (.stringIter s (i + n)) by rw [hb3.block _ (by have := hs2.out; omega)]; exact hit2.out)
        have hb3' := Aside0.mk (hb2.out.trans (hb3.mono hb2.out.size))
        have hs3 := Aside0.mk (Nat.le_trans hs2.out hb3.size)
        clear hb3
        go_wp2_with fail
        go_roundg (s.size - (i + n))
        case measure => omega
        case rel => exact ⟨i + n, hend, rfl, hit3, hb3', hs3, HNN⟩
    · have hnx := fun ty => Lib.run_next_end_at (P := Tryd.prog) wr w.heap.size s i ty HIT.out hlt
      have HH := Aside0.mk (Lib.indexAny_none (s := s.data.toList) (chars := chars.data.toList) (by rw [← Lib.size_eq, show s.size = i by omega]; exact HN.out))
      go_wp2
      go_ret
      exact ⟨by rw [HH.out]; rfl, HB.out⟩

/-! ### the contract -/
def strings_IndexAny.f (a0 : ByteArray) (a1 : ByteArray) : Option (Int) :=
  if a0.size < 4294967281 ∧ 2 ≤ a1.size ∧ a1.size ≤ 1000 ∧ asciiB a1 then some (Lib.indexAny a0.data.toList a1.data.toList) else none
theorem strings_IndexAny.calls (a0 : ByteArray) (a1 : ByteArray) (r : Int) (w : World) (h : strings_IndexAny.f a0 a1 = some r) :
    Calls Tryd.prog 34 #[.string a0, .string a1] w fun e w' => e = .returned (.int .i64 r) ∧ Below w.heap.size w w' := by
  unfold strings_IndexAny.f at h
  split at h
  · rename_i hh
    obtain ⟨h1, h2, h3, h4⟩ := hh
    obtain rfl := Option.some.inj h
    by_cases h8 : a0.size ≤ 8
    · exact IndexAny_short a0 a1 w h2 h8 h4 h3
    · refine (Tryd.strings_IndexAny_long (fun w => by kernel_rfl) a0 a1 w h2 (by omega) h1 (by omega) (fun j b hb => h4 b (List.mem_of_getElem? hb))).mono ?_
      rintro e w' ⟨rfl, rfl⟩
      exact ⟨rfl, ((Below.refl _ w).alloc (Nat.le_refl _) _).alloc (by simp) _⟩
  · cases h
end Go.Proofs.YtfnjbmpolggdeaaDoor.DR
