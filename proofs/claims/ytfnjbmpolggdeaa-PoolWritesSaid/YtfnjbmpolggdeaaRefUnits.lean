/-
  jvmcoreref1.unit, Units, Text: what they compute.
-/
import Derived.Test.YtfnjbmpolggdeaaProg
import Derived.Test.YtfnjbmpolggdeaaBase
import Derived.Test.YtfnjbmpolggdeaaUnits
import Derived.Deep.RegionHeld3
import Derived.Deep.QuietTactic
import Derived.BigQuiet
import Derived.Deep.DeepCutAuto
import Derived.Deep.CutBlock
import Derived.Lib.Strings
import Derived.Lib.ConvBytes
namespace Go.Proofs.Ytfnjbmpolggdeaa
open Go.RowKit
set_option linter.unusedVariables false
set_option linter.unusedSimpArgs false

/-- a unit as bytes. -/
def unitB (u : Nat) : List Nat :=
  if 0 < u ∧ u < 128 then [u] else if u < 2048 then [192 + u / 64, 128 + u % 64] else [224 + u / 4096, 128 + u / 64 % 64, 128 + u % 64]

set_option maxHeartbeats 400000 in
set_option maxRecDepth 100000 in
theorem unit_any (i : Int) (u : Nat) (hi : i = u) (w : World) (hu : u < 65536) :
    Calls Try.prog 55 #[.int .i64 i] w fun e w' => e = .returned (.string (sb (unitB u))) ∧ Below w.heap.size w w' := by
  subst hi
  have h1 := lit_str1 (P := Try.prog) Try.underlying87 Try.underlying5 Try.underlying9
  have h2 := lit_str2 (P := Try.prog) Try.underlying87 Try.underlying5 Try.underlying9
  have h3 := lit_str3 (P := Try.prog) Try.underlying87 Try.underlying5 Try.underlying9
  go_enter Try.func55, Try.ntmps55
  go_wp2
  all_goals go_ret
  all_goals refine ⟨ret_s ?_, (Below.refl _ _).alloc (Nat.le_refl _) _⟩
  all_goals unfold unitB
  · rw [if_pos (by omega)]; exact strOfNums_nats [u]
  · rw [if_neg (by omega), if_pos (by omega)]; exact strOfNums_nats [192 + u / 64, 128 + u % 64]
  · rw [if_neg (by omega), if_neg (by omega)]; exact strOfNums_nats [224 + u / 4096, 128 + u / 64 % 64, 128 + u % 64]
  · rw [if_neg (by omega), if_pos (by omega)]; exact strOfNums_nats [192 + u / 64, 128 + u % 64]

theorem Try.info3 : (Try.prog.info? 3).map (fun i => (i.zero, i.size, i.bytes)) = some (some (.int .i64 0), 1, 8) := by kernel_rfl
def i64s (l : List Nat) : List Value := l.map fun x : Nat => Value.int .i64 (x : Int)
theorem toList_bs (a b : ByteArray) : (a.toList == b.toList) = decide (bs a = bs b) := by
  rw [ByteArray.toList_eq, ByteArray.toList_eq, Bool.eq_iff_iff, beq_iff_eq, decide_eq_true_iff]
  constructor
  · intro h; simp [bs, h]
  · intro h; rw [bs_inj h]
theorem bs_extract (s : ByteArray) (a b : Nat) : bs (s.extract a b) = ((bs s).drop a).take (b - a) := by
  unfold bs; rw [Lib.extract_data]; simp
/-- what the document's reader takes next: a unit and a length. -/
def stepU (l : List Nat) : Nat × Nat :=
  match l with
  | c :: x :: y :: _ => if 224 ≤ c then (c % 16 * 4096 + x % 64 * 64 + y % 64, 3) else if 192 ≤ c then (c % 32 * 64 + x % 64, 2) else (c, 1)
  | c :: x :: [] => if 192 ≤ c then (c % 32 * 64 + x % 64, 2) else (c, 1)
  | c :: [] => (c, 1)
  | [] => (0, 1)
theorem unitB_lt {u : Nat} (hu : u < 65536) : ∀ x ∈ unitB u, x < 256 := by
  intro x hx; unfold unitB at hx; split at hx
  · simp at hx; omega
  · split at hx <;> simp at hx <;> omega

theorem unitB_1 {u c : Nat} : unitB u = [c] ↔ (0 < u ∧ u < 128 ∧ c = u) := by
  unfold unitB; split
  · simp; omega
  · split <;> simp <;> omega
theorem unitB_2 {u c x : Nat} : unitB u = [c, x] ↔ (¬ (0 < u ∧ u < 128) ∧ u < 2048 ∧ c = 192 + u / 64 ∧ x = 128 + u % 64) := by
  unfold unitB; split
  · simp; omega
  · split <;> simp <;> omega
theorem unitB_3 {u c x y : Nat} : unitB u = [c, x, y] ↔ (2048 ≤ u ∧ c = 224 + u / 4096 ∧ x = 128 + u / 64 % 64 ∧ y = 128 + u % 64) := by
  unfold unitB; split
  · simp; omega
  · split
    · simp; omega
    · simp; omega

theorem units_step {l : List Nat} (hl : l ≠ []) (h256 : ∀ x ∈ l, x < 256) :
    units l = if unitB (stepU l).1 = l.take (stepU l).2 then (units (l.drop (stepU l).2)).map ((stepU l).1 :: ·) else none := by
  match l, hl with
  | [c], _ =>
    have hc := h256 c (by simp)
    show units [c] = if unitB c = [c] then (units []).map (c :: ·) else none
    by_cases hA : 0 < c ∧ c < 128
    · rw [units_A hA, if_pos (unitB_1.2 ⟨hA.1, hA.2, rfl⟩)]
    · rw [if_neg (fun h => hA ⟨(unitB_1.1 h).1, (unitB_1.1 h).2.1⟩)]
      by_cases hB : c / 32 = 6
      · exact units_B1 hA hB
      · by_cases hC : c / 16 = 14
        · exact units_C1 hA hB hC (by simp)
        · exact units_D hA hB hC
  | [c, x], _ =>
    have hc := h256 c (by simp)
    have hx := h256 x (by simp)
    by_cases h : 192 ≤ c
    · have e : stepU [c, x] = (c % 32 * 64 + x % 64, 2) := by simp [stepU, h]
      rw [e]; show _ = if unitB (c % 32 * 64 + x % 64) = [c, x] then (units []).map ((c % 32 * 64 + x % 64) :: ·) else none
      have hA : ¬ (0 < c ∧ c < 128) := by omega
      by_cases hB : c / 32 = 6
      · rw [units_B hA hB]
        by_cases v : x / 64 = 2 ∧ (128 ≤ c % 32 * 64 + x % 64 ∨ c % 32 * 64 + x % 64 = 0)
        · rw [if_pos v, if_pos (unitB_2.2 (by omega))]
        · rw [if_neg v, if_neg (fun h => by have := unitB_2.1 h; omega)]
      · rw [if_neg (fun h => by have := unitB_2.1 h; omega)]
        by_cases hC : c / 16 = 14
        · exact units_C1 hA hB hC (by simp)
        · exact units_D hA hB hC
    · have e : stepU [c, x] = (c, 1) := by simp [stepU, h]
      rw [e]; show _ = if unitB c = [c] then (units [x]).map (c :: ·) else none
      by_cases hA : 0 < c ∧ c < 128
      · rw [units_A hA, if_pos (unitB_1.2 ⟨hA.1, hA.2, rfl⟩)]
      · rw [if_neg (fun h => hA ⟨(unitB_1.1 h).1, (unitB_1.1 h).2.1⟩)]
        exact units_D hA (by omega) (by omega)
  | c :: x :: y :: r, _ =>
    have hc := h256 c (by simp)
    have hx := h256 x (by simp)
    have hy := h256 y (by simp)
    by_cases h3 : 224 ≤ c
    · have e : stepU (c :: x :: y :: r) = (c % 16 * 4096 + x % 64 * 64 + y % 64, 3) := by simp [stepU, h3]
      rw [e]; show _ = if unitB (c % 16 * 4096 + x % 64 * 64 + y % 64) = [c, x, y] then (units r).map ((c % 16 * 4096 + x % 64 * 64 + y % 64) :: ·) else none
      have hA : ¬ (0 < c ∧ c < 128) := by omega
      have hB : ¬ c / 32 = 6 := by omega
      by_cases hC : c / 16 = 14
      · rw [units_C hA hB hC]
        by_cases v : x / 64 = 2 ∧ y / 64 = 2 ∧ 2048 ≤ c % 16 * 4096 + x % 64 * 64 + y % 64
        · rw [if_pos v, if_pos (unitB_3.2 (by omega))]
        · rw [if_neg v, if_neg (fun h => by have := unitB_3.1 h; omega)]
      · rw [if_neg (fun h => by have := unitB_3.1 h; omega)]
        exact units_D hA hB hC
    · by_cases h : 192 ≤ c
      · have e : stepU (c :: x :: y :: r) = (c % 32 * 64 + x % 64, 2) := by simp [stepU, h3, h]
        rw [e]; show _ = if unitB (c % 32 * 64 + x % 64) = [c, x] then (units (y :: r)).map ((c % 32 * 64 + x % 64) :: ·) else none
        have hA : ¬ (0 < c ∧ c < 128) := by omega
        have hB : c / 32 = 6 := by omega
        rw [units_B hA hB]
        by_cases v : x / 64 = 2 ∧ (128 ≤ c % 32 * 64 + x % 64 ∨ c % 32 * 64 + x % 64 = 0)
        · rw [if_pos v, if_pos (unitB_2.2 (by omega))]
        · rw [if_neg v, if_neg (fun h => by have := unitB_2.1 h; omega)]
      · have e : stepU (c :: x :: y :: r) = (c, 1) := by simp [stepU, h3, h]
        rw [e]; show _ = if unitB c = [c] then (units (x :: y :: r)).map (c :: ·) else none
        by_cases hA : 0 < c ∧ c < 128
        · rw [units_A hA, if_pos (unitB_1.2 ⟨hA.1, hA.2, rfl⟩)]
        · rw [if_neg (fun h => hA ⟨(unitB_1.1 h).1, (unitB_1.1 h).2.1⟩)]
          exact units_D hA (by omega) (by omega)

set_option maxHeartbeats 1000000 in
set_option maxRecDepth 100000 in
theorem RefUnits_any (s : ByteArray) (w : World) (hs : s.size ≤ 140737488355327 / 8) :
    Calls Try.prog 19 #[.string s] w fun e w' => ∃ v b, e = .returned (.tuple #[v, .bool b]) ∧ b = (units (bs s)).isSome ∧
      w'.ownsRow w.heap.size 3 1 v ((units (bs s)).getD []).length (i64s ((units (bs s)).getD [])) ∧ Below w.heap.size w w' := by
  go_enter Try.func19, Try.ntmps19
  go_wp2
  go_loopw [0, 4] (fun v0 v wr => ∃ (t : ByteArray) (acc : List Nat), v0 = .string t ∧ acc.length + t.size ≤ s.size ∧ wr.ownsRow w.heap.size 3 1 v acc.length (i64s acc) ∧ Below w.heap.size w wr ∧
      Hid (units (bs s) = (units (bs t)).map (acc ++ ·))) (fun v0 _ _ => match v0 with | .string t => t.size | _ => 0)
  case atStart => exact ⟨s, [], rfl, by simp, World.ownsRow_nil _ _ _ _, Below.refl _ _, by simp [Hid]⟩
  case round =>
    obtain ⟨t, acc, rfl, hacc, hown, hbel, hU⟩ := hrel
    have hws := hbel.size
    by_cases hlt : 0 < t.size
    · have h0 : t.toList.isEmpty = false := by
        rw [ByteArray.toList_eq, List.isEmpty_eq_false_iff]
        intro h; have := bs_length t; simp [bs, h] at this; omega
      have hb0 : ∀ h : 0 < t.size, t[0].toNat = bAt t 0 := fun h => bAt_eq h
      have hb1 : ∀ h : 1 < t.size, t[1].toNat = bAt t 1 := fun h => bAt_eq h
      have hb2 : ∀ h : 2 < t.size, t[2].toNat = bAt t 2 := fun h => bAt_eq h
      have hl0 := bAt_lt t 0
      have hl1 := bAt_lt t 1
      have hl2 := bAt_lt t 2
      go_upto_region 6 with (fail)
      go_cut [19] (fun v19 wc => v19 = .bool (decide (224 ≤ bAt t 0 ∧ 3 ≤ t.size)) ∧ wr = wc)
      case first =>
        go_wp2
        all_goals go_meet
        all_goals refine ⟨?_, rfl⟩
        all_goals first | (congr 1; rw [decide_eq_decide]; omega) | (congr 1; symm; rw [decide_eq_false_iff_not]; omega)
      case rest =>
        obtain ⟨rfl, rfl⟩ := hcut
        go_upto_if 19 with (fail)
        go_cut [5, 6] (fun v5 v6 wc => ∃ u n : Nat, v5 = .int .i64 u ∧ v6 = .int .i64 n ∧ Hid (stepU (bs t) = (u, n)) ∧ u < 65536 ∧ 1 ≤ n ∧ n ≤ t.size ∧ wc.ownsRow w.heap.size 3 1 u4 acc.length (i64s acc) ∧ Below w.heap.size w wc)
        case first =>
          by_cases h3 : 224 ≤ bAt t 0 ∧ 3 ≤ t.size
          · have d3 := decide_eq_true h3
            have a2 : (3 : Int) ≤ t.size := by omega
            have a3 : (224 : Int) ≤ bAt t 0 := by omega
            have hst : Hid (stepU (bs t) = (bAt t 0 % 16 * 4096 + bAt t 1 % 64 * 64 + bAt t 2 % 64, 3)) := by
              unfold Hid; rw [show bs t = bAt t 0 :: bAt t 1 :: bAt t 2 :: (bs t).drop 3 by
                rw [← bs_drop (i := 2) (by omega), ← bs_drop (i := 1) (by omega), ← bs_drop (i := 0) (by omega)]; rfl]
              simp [stepU]; omega
            clear h3
            go_wp2_with fail
            go_quiet (fail)
            go_wp2
            go_meet
            case rel => exact ⟨bAt t 0 % 16 * 4096 + bAt t 1 % 64 * 64 + bAt t 2 % 64, 3, by simp, rfl, hst, by omega, by omega, by omega, hown, below_drewN hbel _⟩
          · have d3 := decide_eq_false h3
            by_cases h2 : 192 ≤ bAt t 0 ∧ 2 ≤ t.size
            · have a2 : (2 : Int) ≤ t.size := by omega
              have a3 : (192 : Int) ≤ bAt t 0 := by omega
              have hst : Hid (stepU (bs t) = (bAt t 0 % 32 * 64 + bAt t 1 % 64, 2)) := by
                unfold Hid; rw [show bs t = bAt t 0 :: bAt t 1 :: (bs t).drop 2 by
                  rw [← bs_drop (i := 1) (by omega), ← bs_drop (i := 0) (by omega)]; rfl]
                rcases Nat.lt_or_ge 2 t.size with h | h
                · rw [bs_drop h]; simp [stepU, show ¬ 224 ≤ bAt t 0 by omega]; omega
                · rw [bs_drop_nil h]; simp [stepU]; omega
              have H3 := Lib.hid h3
              clear h2 h3
              go_wp2
              go_meet
              case rel => exact ⟨bAt t 0 % 32 * 64 + bAt t 1 % 64, 2, by simp, rfl, hst, by omega, by omega, by omega, hown, hbel⟩
            · have hst : Hid (stepU (bs t) = (bAt t 0, 1)) := by
                unfold Hid; rw [show bs t = bAt t 0 :: (bs t).drop 1 by
                  rw [← bs_drop (i := 0) (by omega)]; rfl]
                rcases Nat.lt_or_ge 1 t.size with h | h
                · rw [bs_drop h]
                  rcases Nat.lt_or_ge 2 t.size with h' | h'
                  · rw [bs_drop h']; simp [stepU, show ¬ 224 ≤ bAt t 0 by omega, show ¬ 192 ≤ bAt t 0 by omega]
                  · rw [bs_drop_nil h']; simp [stepU, show ¬ 192 ≤ bAt t 0 by omega]
                · rw [bs_drop_nil h]; simp [stepU]
              have H3 := Lib.hid h3
              clear h3
              by_cases a3 : (192 : Int) ≤ bAt t 0
              · have a4 : (t.size : Int) < 2 := by omega
                clear h2
                go_wp2
                go_meet
                case rel => exact ⟨bAt t 0, 1, by simp, rfl, hst, by omega, by omega, by omega, hown, hbel⟩
              · clear h2
                go_wp2
                go_meet
                case rel => exact ⟨bAt t 0, 1, by simp, rfl, hst, by omega, by omega, by omega, hown, hbel⟩
        case rest =>
          obtain ⟨u, n, rfl, rfl, hst, hu, hn1, hn2, hown2, hbel2⟩ := hcut
          have hws2 := hbel2.size
          have hne : bs t ≠ [] := fun h => by have := bs_length t; rw [h] at this; simp at this; omega
          have hstep := units_step hne (bs_lt t)
          rw [hst.out] at hstep
          simp only [] at hstep
          have hcmp : ((sb (unitB u)).toList == (t.extract 0 n).toList) = decide (unitB u = (bs t).take n) := by
            rw [toList_bs, bs_sb (unitB_lt hu), bs_extract]; simp
          have hdrop : bs (t.extract n t.size) = (bs t).drop n := by
            rw [bs_extract]; exact List.take_of_length_le (by have := bs_length t; simp; omega)
          have hsz : (t.extract n t.size).size = t.size - n := by rw [← bs_length, hdrop]; simp [bs_length]
          have HS := Lib.hid hsz
          have HD := Lib.hid hdrop
          clear hdrop hsz
          have hbel3 := fun (w1 : World) (h : Below wc.heap.size wc w1) => hbel2.trans (h.mono hws2)
          by_cases he : unitB u = (bs t).take n
          · rw [if_pos he] at hstep
            rw [decide_eq_true he] at hcmp
            have Hstep := Lib.hid hstep
            clear he hstep
            go_wp2_with fail
            go_region_held3 (fun w' => True) (trivial) ((go_at_call 55; refine (unit_any _ u (by omega) _ hu).mono ?_; rintro e w1 ⟨rfl, hb1⟩))
            have hb2 : Below wc.heap.size wc w1 := ⟨hb1.os, hb1.tape, hb1.output, hb1.size, hb1.block⟩
            have hown3 : w1.ownsRow w.heap.size 3 1 u4 acc.length (i64s acc) := hown2.kept (row := none) ⟨hb2.os, hb2.tape, hb2.output, hb2.size, fun k hk _ => hb2.block k hk⟩ (by cases u4.ownBlock <;> simp)
            have hbel4 := hbel3 _ hb2
            have hws4 := hbel4.size
            go_wp2_with (at_builtin; refine app_elem rfl _ _ 22 rfl 3 (.int .i64 0) 1 8 Try.underlying22 Try.info3 rfl (by decide) w.heap.size w.heap.size hbel4 hown3 rfl [.int .i64 u] rfl (by simp [Value.oneCell']) _ rfl (by omega) (by omega) (by omega) (by omega) ?_ rfl; intro v' w2 hown4 hbel5 _)
            go_wp2
            go_roundw
            case rel => exact ⟨t.extract n t.size, acc ++ [u], rfl, by rw [HS.out]; simp; omega, by simpa [i64s] using hown4, hbel5, by
              unfold Hid at hU ⊢; rw [hU, Hstep.out, HD.out]; cases units ((bs t).drop n) <;> simp⟩
            case measure => show (t.extract n t.size).size < t.size; rw [HS.out]; omega
          · rw [if_neg he] at hstep
            rw [decide_eq_false he] at hcmp
            have Hstep := Lib.hid hstep
            clear he hstep
            go_wp2_with fail
            go_region_held3 (fun w' => True) (trivial) ((go_at_call 55; refine (unit_any _ u (by omega) _ hu).mono ?_; rintro e w1 ⟨rfl, hb1⟩))
            have hb2 : Below wc.heap.size wc w1 := ⟨hb1.os, hb1.tape, hb1.output, hb1.size, hb1.block⟩
            go_wp2
            go_ret2
            have hU2 : units (bs s) = none := by unfold Hid at hU; rw [hU, Hstep.out]; rfl
            exact ⟨_, _, rfl, by rw [hU2]; rfl, by rw [hU2]; exact World.ownsRow_nil _ _ _ _, hbel3 _ hb2⟩
    · have h0 : t.toList = [] := by
        rw [ByteArray.toList_eq]; have := bs_length t; unfold bs at this; rw [List.length_map] at this
        exact List.eq_nil_of_length_eq_zero (by omega)
      go_wp2
      go_ret2
      have hU2 : units (bs s) = some acc := by
        unfold Hid at hU; rw [hU]; have : bs t = [] := by unfold bs; rw [← ByteArray.toList_eq, h0]; rfl
        rw [this]; simp [units]
      exact ⟨_, _, rfl, by rw [hU2]; rfl, by rw [hU2]; exact hown, hbel⟩
end Go.Proofs.Ytfnjbmpolggdeaa
