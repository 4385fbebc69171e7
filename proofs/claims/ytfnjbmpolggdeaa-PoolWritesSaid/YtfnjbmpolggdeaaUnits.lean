/-
  pool.Units (with the function in it) and pool.Text: what they compute.
-/
import Derived.Test.YtfnjbmpolggdeaaProg
import Derived.Test.YtfnjbmpolggdeaaBase
namespace Go.Proofs.Ytfnjbmpolggdeaa
open Go.RowKit
set_option linter.unusedVariables false
set_option linter.unusedSimpArgs false

/-- more: the byte at i, if it goes on. -/
def moreF (s : ByteArray) (i : Nat) : Nat × Bool := if bAt s i / 64 = 2 then (bAt s i % 64, true) else (0, false)

set_option maxHeartbeats 400000 in
theorem more_any (s : ByteArray) (i : Int) (n : Nat) (b : Nat × Bool) (hb2 : moreF s n = b) (a : Addr) (w : World) (hs : s.size ≤ 140737488355328) (hn : i = n) (hc : w.cell? a = some (.string s)) :
    Calls Try.prog 54 #[.int .i64 i, .pointer (some a)] w fun e w' => e = .returned (.tuple #[.int .u16 (b.1 : Int), .bool b.2]) ∧ w = w' := by
  subst hn hb2
  have hb : ∀ h : n < s.size, s[n].toNat = bAt s n := fun h => bAt_eq h
  have hl := bAt_lt s n
  have hz : ¬ n < s.size → bAt s n = 0 := fun h => bAt_out (by omega)
  go_enter Try.func54, Try.ntmps54
  go_wp2
  all_goals go_ret2
  · rename_i h1 h2
    rw [bits_c0 hl] at h2
    have : ¬ bAt s n / 64 = 2 := by rcases h2 with h2 | h2; omega; simpa using h2
    exact ⟨ret_ib (by simp [moreF, this]) (by simp [moreF, this]), rfl⟩
  · rename_i h1 h2
    rw [bits_c0 hl] at h2
    have h3 : bAt s n / 64 = 2 := by simpa using h2.2
    exact ⟨ret_ib (by simp [moreF, h3]) (by simp [moreF, h3]), rfl⟩
  · rename_i h1
    have := hz (by omega)
    exact ⟨ret_ib (by simp [moreF, this]) (by simp [moreF, this]), rfl⟩

/-- the units of bytes. -/
def units : List Nat → Option (List Nat)
  | [] => some []
  | c :: r =>
    if 0 < c ∧ c < 128 then (units r).map (c :: ·)
    else if c / 32 = 6 then
      match r with
      | x :: r2 => if x / 64 = 2 ∧ (128 ≤ c % 32 * 64 + x % 64 ∨ c % 32 * 64 + x % 64 = 0) then (units r2).map ((c % 32 * 64 + x % 64) :: ·) else none
      | [] => none
    else if c / 16 = 14 then
      match r with
      | x :: y :: r3 => if x / 64 = 2 ∧ y / 64 = 2 ∧ 2048 ≤ c % 16 * 4096 + x % 64 * 64 + y % 64 then (units r3).map ((c % 16 * 4096 + x % 64 * 64 + y % 64) :: ·) else none
      | _ => none
    else none

theorem units_A {c : Nat} {r : List Nat} (h : 0 < c ∧ c < 128) : units (c :: r) = (units r).map (c :: ·) := by
  rw [units.eq_def]; simp only []; rw [if_pos h]
theorem units_B {c x : Nat} {r : List Nat} (hA : ¬ (0 < c ∧ c < 128)) (h : c / 32 = 6) : units (c :: x :: r) = if x / 64 = 2 ∧ (128 ≤ c % 32 * 64 + x % 64 ∨ c % 32 * 64 + x % 64 = 0) then (units r).map ((c % 32 * 64 + x % 64) :: ·) else none := by
  rw [units.eq_def]; simp only []; rw [if_neg hA, if_pos h]
theorem units_B1 {c : Nat} (hA : ¬ (0 < c ∧ c < 128)) (h : c / 32 = 6) : units [c] = none := by
  rw [units.eq_def]; simp only []; rw [if_neg hA, if_pos h]
theorem units_C {c x y : Nat} {r : List Nat} (hA : ¬ (0 < c ∧ c < 128)) (hB : ¬ c / 32 = 6) (h : c / 16 = 14) : units (c :: x :: y :: r) = if x / 64 = 2 ∧ y / 64 = 2 ∧ 2048 ≤ c % 16 * 4096 + x % 64 * 64 + y % 64 then (units r).map ((c % 16 * 4096 + x % 64 * 64 + y % 64) :: ·) else none := by
  rw [units.eq_def]; simp only []; rw [if_neg hA, if_neg hB, if_pos h]
theorem units_C1 {c : Nat} {l : List Nat} (hA : ¬ (0 < c ∧ c < 128)) (hB : ¬ c / 32 = 6) (h : c / 16 = 14) (hl : l.length < 2) : units (c :: l) = none := by
  rw [units.eq_def]; simp only []; rw [if_neg hA, if_neg hB, if_pos h]
  match l, hl with
  | [], _ => rfl
  | [_], _ => rfl
theorem units_D {c : Nat} {l : List Nat} (hA : ¬ (0 < c ∧ c < 128)) (hB : ¬ c / 32 = 6) (hC : ¬ c / 16 = 14) : units (c :: l) = none := by
  rw [units.eq_def]; simp only []; rw [if_neg hA, if_neg hB, if_neg hC]

theorem Try.info16 : (Try.prog.info? 29).map (fun i => (i.zero, i.size, i.bytes)) = some (some (.int .u16 0), 1, 2) := by kernel_rfl
def u16s (l : List Nat) : List Value := l.map fun x : Nat => Value.int .u16 (x : Int)

set_option maxHeartbeats 1000000 in
set_option maxRecDepth 100000 in
theorem Units_any (s : ByteArray) (w : World) (hs : s.size ≤ 140737488355327 / 2) :
    Calls Try.prog 18 #[.string s] w fun e w' => ∃ v b, e = .returned (.tuple #[v, .bool b]) ∧ b = (units (bs s)).isSome ∧
      w'.ownsRow w.heap.size 29 1 v ((units (bs s)).getD []).length (u16s ((units (bs s)).getD [])) ∧ Below w.heap.size w w' := by
  have hmf : ∀ (fn : Fn) (first cap : Array Value) (w : World), (Instr.makeFunc fn first cap).run Try.prog w = .ok (.func fn first cap) w := fun _ _ _ _ => rfl
  go_enter Try.func18, Try.ntmps18
  go_wp2
  go_loopw [4, 6] (fun v i wr => ∃ (k : Nat) (acc : List Nat), k ≤ s.size ∧ i = .int .i64 k ∧ acc.length ≤ k ∧ wr.ownsRow (w.heap.size + 1) 29 1 v acc.length (u16s acc) ∧ Below (w.heap.size + 1) (w.alloc (.cells #[.string s] 9)) wr ∧
      Hid (units (bs s) = (units ((bs s).drop k)).map (acc ++ ·))) (fun _ i _ => s.size - (intOf i).toNat)
  case atStart => exact ⟨0, [], by omega, rfl, by simp, World.ownsRow_nil _ _ _ _, Below.refl _ _, by simp [Hid]⟩
  case round =>
    obtain ⟨k, acc, hk, rfl, hacc, hown, hbel, hU⟩ := hrel
    have hc : wr.cell? ⟨w.heap.size, 0, none⟩ = some (.string s) := by
      rw [hbel.cell (by simp)]; simp
    have hws : w.heap.size + 1 ≤ wr.heap.size := by have := hbel.size; simp at this; omega
    have hend : ∀ wx, Below (w.heap.size + 1) (w.alloc (.cells #[.string s] 9)) wx → Below w.heap.size w wx := fun wx h => ((Below.refl _ _).alloc (Nat.le_refl _) _).trans (h.mono (by omega))
    by_cases hlt : k < s.size
    · have hb : ∀ h : k < s.size, s[k].toNat = bAt s k := fun h => bAt_eq h
      have hl := bAt_lt s k
      have hd := Lib.hid (bs_drop hlt)
      by_cases hA : 0 < bAt s k ∧ bAt s k < 128
      · have a1 : (0 : Int) < bAt s k := by omega
        have a2 : (bAt s k : Int) < 128 := by omega
        go_wp2_with (at_builtin; refine app_elem rfl _ _ 24 rfl 29 (.int .u16 0) 1 2 Try.underlying24 Try.info16 rfl (by decide) (w.heap.size + 1) (w.heap.size + 1) hbel hown rfl [.int .u16 (bAt s k)] rfl (by simp [Value.oneCell']) _ rfl (by omega) (by omega) (by omega) (by omega) ?_ rfl; intro v' w1 hown1 hbel1 _)
        go_wp2
        go_roundw
        case rel => exact ⟨k + 1, acc ++ [bAt s k], by omega, by go_num, by simp; omega, by simpa [u16s] using hown1, hbel1, by
          have := hd.out; unfold Hid at *; rw [hU, this, units_A hA]; cases units ((bs s).drop (k + 1)) <;> simp⟩
        case measure => simp [intOf]; omega
      · have nA := Lib.hid hA
        clear hA
        have e1 := bits_e0 hl
        have e2 := bits_f0 hl
        by_cases hB : bAt s k / 32 = 6
        · have hB' := Lib.hid hB
          rw [decide_eq_true hB] at e1
          have b1 : (192 : Int) ≤ bAt s k := by omega
          clear hB e2
          by_cases hx : bAt s (k + 1) / 64 = 2
          · have hm : moreF s (k + 1) = (bAt s (k + 1) % 64, true) := by unfold moreF; rw [if_pos hx]
            obtain ⟨u, hu⟩ : ∃ u, u = bAt s k % 32 * 64 + bAt s (k + 1) % 64 := ⟨_, rfl⟩
            have hor : bits BinOp.or IntKind.u16 ((bAt s k : Int) % 32 * 64) ((bAt s (k + 1) : Int) % 64) = (u : Int) := by
              rw [hu, ← or_u16 (i := 6) (by omega) (by omega) (by omega) (by omega)]; simp
            have hk1 : k + 1 < s.size := by
              rcases Nat.lt_or_ge (k + 1) s.size with h | h
              · exact h
              · rw [bAt_out h] at hx; simp at hx
            have hun : Hid (units ((bs s).drop k) = if 128 ≤ u ∨ u = 0 then (units ((bs s).drop (k + 2))).map (u :: ·) else none) := by
              unfold Hid; rw [hd.out, bs_drop hk1, units_B nA.out hB'.out, ← hu]; simp [hx]
            have Hu := Lib.hid hu
            clear hu hx
            by_cases v : 128 ≤ u ∨ u = 0
            · have hU1 : Hid (units (bs s) = (units ((bs s).drop (k + 2))).map ((acc ++ [u]) ++ ·)) := by
                unfold Hid at hun hU; unfold Hid; rw [hU, hun, if_pos v]; cases units ((bs s).drop (k + 2)) <;> simp
              rcases v with v | v
              · have v1 : (128 : Int) ≤ u := by omega
                go_wp2_with (first | (go_at_call 54; refine (more_any s _ (k + 1) _ hm _ _ (by omega) (by omega) hc).mono ?_; rintro e w' ⟨rfl, rfl⟩) | (at_builtin; refine app_elem rfl _ _ 24 rfl 29 (.int .u16 0) 1 2 Try.underlying24 Try.info16 rfl (by decide) (w.heap.size + 1) (w.heap.size + 1) hbel hown rfl [.int .u16 (u : Nat)] rfl (by simp [Value.oneCell']) _ rfl (by omega) (by omega) (by omega) (by omega) ?_ rfl; intro v' w1 hown1 hbel1 _))
                go_wp2
                go_roundw
                case rel => exact ⟨k + 2, acc ++ [u], by omega, by go_num, by simp; omega, by simpa [u16s] using hown1, hbel1, hU1⟩
                case measure => simp [intOf]; omega
              · subst v
                go_wp2_with (first | (go_at_call 54; refine (more_any s _ (k + 1) _ hm _ _ (by omega) (by omega) hc).mono ?_; rintro e w' ⟨rfl, rfl⟩) | (at_builtin; refine app_elem rfl _ _ 24 rfl 29 (.int .u16 0) 1 2 Try.underlying24 Try.info16 rfl (by decide) (w.heap.size + 1) (w.heap.size + 1) hbel hown rfl [.int .u16 (0 : Nat)] rfl (by simp [Value.oneCell']) _ rfl (by omega) (by omega) (by omega) (by omega) ?_ rfl; intro v' w1 hown1 hbel1 _))
                go_wp2
                go_roundw
                case rel => exact ⟨k + 2, acc ++ [0], by omega, by go_num, by simp; omega, by simpa [u16s] using hown1, hbel1, hU1⟩
                case measure => simp [intOf]; omega
            · have v1 : (u : Int) < 128 := by omega
              have v2 : (0 : Int) < u := by omega
              have hU1 : units (bs s) = none := by unfold Hid at hun hU; rw [hU, hun, if_neg v]; rfl
              have HU1 := Lib.hid hU1
              clear hU1 v
              go_wp2_with (go_at_call 54; refine (more_any s _ (k + 1) _ hm _ _ (by omega) (by omega) hc).mono ?_; rintro e w' ⟨rfl, rfl⟩)
              go_ret2
              exact ⟨_, _, rfl, by rw [HU1.out]; rfl, by rw [HU1.out]; exact World.ownsRow_nil _ _ _ _, hend _ hbel⟩
          · have hm : moreF s (k + 1) = (0, false) := by unfold moreF; rw [if_neg hx]
            have hU1 : units (bs s) = none := by
              unfold Hid at hU; rw [hU, hd.out]
              rcases Nat.lt_or_ge (k + 1) s.size with h | h
              · rw [bs_drop h, units_B nA.out hB'.out]; simp [hx]
              · rw [bs_drop_nil h, units_B1 nA.out hB'.out]; rfl
            have HU1 := Lib.hid hU1
            clear hU1 hx
            go_wp2_with (go_at_call 54; refine (more_any s _ (k + 1) _ hm _ _ (by omega) (by omega) hc).mono ?_; rintro e w' ⟨rfl, rfl⟩)
            go_ret2
            exact ⟨_, _, rfl, by rw [HU1.out]; rfl, by rw [HU1.out]; exact World.ownsRow_nil _ _ _ _, hend _ hbel⟩
        · have nB := Lib.hid hB
          rw [decide_eq_false hB] at e1
          by_cases hC : bAt s k / 16 = 14
          · have hC' := Lib.hid hC
            rw [decide_eq_true hC] at e2
            have b1 : (224 : Int) ≤ bAt s k := by omega
            clear hB hC
            obtain ⟨u, hu⟩ : ∃ u, u = bAt s k % 16 * 4096 + bAt s (k + 1) % 64 * 64 + bAt s (k + 2) % 64 := ⟨_, rfl⟩
            by_cases v : bAt s (k + 1) / 64 = 2 ∧ bAt s (k + 2) / 64 = 2 ∧ 2048 ≤ u
            · obtain ⟨hx, hy, hv⟩ := v
              have hm1 : moreF s (k + 1) = (bAt s (k + 1) % 64, true) := by unfold moreF; rw [if_pos hx]
              have hm2 : moreF s (k + 2) = (bAt s (k + 2) % 64, true) := by unfold moreF; rw [if_pos hy]
              have or1 : bits BinOp.or IntKind.u16 ((bAt s k : Int) % 16 * 4096) ((bAt s (k + 1) : Int) % 64 * 64) = ((bAt s k % 16 * 4096 + bAt s (k + 1) % 64 * 64 : Nat) : Int) := by
                rw [← or_u16 (i := 12) (by omega) (by omega) (by omega) (by omega)]; simp
              obtain ⟨p, hp⟩ : ∃ p, p = bAt s k % 16 * 4096 + bAt s (k + 1) % 64 * 64 := ⟨_, rfl⟩
              have or2 : bits BinOp.or IntKind.u16 (p : Int) ((bAt s (k + 2) : Int) % 64) = (u : Int) := by
                rw [hu, ← hp, ← or_u16 (i := 6) (by omega) (by omega) (by omega) (by omega)]; simp
              rw [← hp] at or1
              have hk1 : k + 2 < s.size := by
                rcases Nat.lt_or_ge (k + 2) s.size with h | h
                · exact h
                · rw [bAt_out h] at hy; simp at hy
              have hU1 : Hid (units (bs s) = (units ((bs s).drop (k + 3))).map ((acc ++ [u]) ++ ·)) := by
                unfold Hid at hU; unfold Hid
                rw [hU, hd.out, bs_drop (show k + 1 < s.size by omega), bs_drop (show k + 1 + 1 < s.size by omega), units_C nA.out nB.out hC'.out, if_pos ⟨hx, hy, by rw [← hu]; exact hv⟩, ← hu]
                cases units ((bs s).drop (k + 3)) <;> simp
              have v1 : (2048 : Int) ≤ u := by omega
              clear hu hp hx hy hv
              go_wp2_with fail
              refine (more_any s _ (k + 1) _ hm1 _ _ (by omega) (by omega) hc).mono ?_
              rintro e w' ⟨rfl, rfl⟩
              go_wp2_with fail
              refine (more_any s _ (k + 2) _ hm2 _ _ (by omega) (by omega) hc).mono ?_
              rintro e w' ⟨rfl, rfl⟩
              go_wp2_with (at_builtin; refine app_elem rfl _ _ 24 rfl 29 (.int .u16 0) 1 2 Try.underlying24 Try.info16 rfl (by decide) (w.heap.size + 1) (w.heap.size + 1) hbel hown rfl [.int .u16 (u : Nat)] rfl (by simp [Value.oneCell']) _ rfl (by omega) (by omega) (by omega) (by omega) ?_ rfl; intro v' w1 hown1 hbel1 _)
              go_wp2
              go_roundw
              case rel => exact ⟨k + 3, acc ++ [u], by omega, by go_num, by simp; omega, by simpa [u16s] using hown1, hbel1, hU1⟩
              case measure => simp [intOf]; omega
            · have hU1 : units (bs s) = none := by
                unfold Hid at hU; rw [hU, hd.out]
                rcases Nat.lt_or_ge (k + 2) s.size with h | h
                · rw [bs_drop (show k + 1 < s.size by omega), bs_drop (show k + 1 + 1 < s.size by omega), units_C nA.out nB.out hC'.out, if_neg (by rw [← hu]; exact v)]; rfl
                · rw [units_C1 nA.out nB.out hC'.out (by have := bs_length s; simp; omega)]; rfl
              have HU1 := Lib.hid hU1
              clear hU1
              by_cases hx : bAt s (k + 1) / 64 = 2
              · have hm1 : moreF s (k + 1) = (bAt s (k + 1) % 64, true) := by unfold moreF; rw [if_pos hx]
                by_cases hy : bAt s (k + 2) / 64 = 2
                · have hm2 : moreF s (k + 2) = (bAt s (k + 2) % 64, true) := by unfold moreF; rw [if_pos hy]
                  have or1 : bits BinOp.or IntKind.u16 ((bAt s k : Int) % 16 * 4096) ((bAt s (k + 1) : Int) % 64 * 64) = ((bAt s k % 16 * 4096 + bAt s (k + 1) % 64 * 64 : Nat) : Int) := by
                    rw [← or_u16 (i := 12) (by omega) (by omega) (by omega) (by omega)]; simp
                  obtain ⟨p, hp⟩ : ∃ p, p = bAt s k % 16 * 4096 + bAt s (k + 1) % 64 * 64 := ⟨_, rfl⟩
                  have or2 : bits BinOp.or IntKind.u16 (p : Int) ((bAt s (k + 2) : Int) % 64) = (u : Int) := by
                    rw [hu, ← hp, ← or_u16 (i := 6) (by omega) (by omega) (by omega) (by omega)]; simp
                  rw [← hp] at or1
                  have v1 : (u : Int) < 2048 := by have := fun h => v ⟨hx, hy, h⟩; omega
                  clear hu hp hx hy v
                  go_wp2_with fail
                  refine (more_any s _ (k + 1) _ hm1 _ _ (by omega) (by omega) hc).mono ?_
                  rintro e w' ⟨rfl, rfl⟩
                  go_wp2_with fail
                  refine (more_any s _ (k + 2) _ hm2 _ _ (by omega) (by omega) hc).mono ?_
                  rintro e w' ⟨rfl, rfl⟩
                  go_wp2
                  go_ret2
                  exact ⟨_, _, rfl, by rw [HU1.out]; rfl, by rw [HU1.out]; exact World.ownsRow_nil _ _ _ _, hend _ hbel⟩
                · have hm2 : moreF s (k + 2) = (0, false) := by unfold moreF; rw [if_neg hy]
                  clear hu hx hy v
                  go_wp2_with fail
                  refine (more_any s _ (k + 1) _ hm1 _ _ (by omega) (by omega) hc).mono ?_
                  rintro e w' ⟨rfl, rfl⟩
                  go_wp2_with fail
                  refine (more_any s _ (k + 2) _ hm2 _ _ (by omega) (by omega) hc).mono ?_
                  rintro e w' ⟨rfl, rfl⟩
                  go_wp2
                  go_ret2
                  exact ⟨_, _, rfl, by rw [HU1.out]; rfl, by rw [HU1.out]; exact World.ownsRow_nil _ _ _ _, hend _ hbel⟩
              · have hm1 : moreF s (k + 1) = (0, false) := by unfold moreF; rw [if_neg hx]
                obtain ⟨q, hm2⟩ : ∃ q, moreF s (k + 2) = q := ⟨_, rfl⟩
                clear hu hx v
                go_wp2_with fail
                refine (more_any s _ (k + 1) _ hm1 _ _ (by omega) (by omega) hc).mono ?_
                rintro e w' ⟨rfl, rfl⟩
                go_wp2_with fail
                refine (more_any s _ (k + 2) _ hm2 _ _ (by omega) (by omega) hc).mono ?_
                rintro e w' ⟨rfl, rfl⟩
                go_wp2
                go_ret2
                exact ⟨_, _, rfl, by rw [HU1.out]; rfl, by rw [HU1.out]; exact World.ownsRow_nil _ _ _ _, hend _ hbel⟩
          · have nC := Lib.hid hC
            rw [decide_eq_false hC] at e2
            have hU1 : units (bs s) = none := by unfold Hid at hU; rw [hU, hd.out, units_D nA.out nB.out nC.out]; rfl
            have HU1 := Lib.hid hU1
            clear hU1 hB hC
            have nA1 := nA.out
            by_cases h0 : bAt s k = 0
            · have b1 : (bAt s k : Int) ≤ 0 := by omega
              clear h0 nA1
              go_wp2
              go_ret2
              exact ⟨_, _, rfl, by rw [HU1.out]; rfl, by rw [HU1.out]; exact World.ownsRow_nil _ _ _ _, hend _ hbel⟩
            · have b1 : (128 : Int) ≤ bAt s k := by omega
              clear h0 nA1
              go_wp2
              go_ret2
              exact ⟨_, _, rfl, by rw [HU1.out]; rfl, by rw [HU1.out]; exact World.ownsRow_nil _ _ _ _, hend _ hbel⟩
    · go_wp2
      go_ret2
      have hn : (bs s).drop k = [] := bs_drop_nil (by omega)
      have hU2 : units (bs s) = some acc := by unfold Hid at hU; rw [hU, hn]; simp [units]
      exact ⟨_, _, rfl, by rw [hU2]; rfl, by rw [hU2]; exact own_mono hown (by omega), hend _ hbel⟩
end Go.Proofs.Ytfnjbmpolggdeaa
