/-
  Texts that the proof in the last of these files needs: CodeReads of jvmcorelaw2: whatever the bytes are, code.Decode makes of them what the reference makes, to the first error and where, and all rows of what it makes lie apart; nothing is assumed.
-/
import Derived.Test.YtfnjbmpolggdeaaProg
import Derived.Below
import Derived.Deep.Draws
import Derived.Deep.AppendLies
import Derived.Maps.AppendAt
import Derived.OwnWalk
import Derived.Laws.BytesArg
import Derived.Laws.MakeOwn
import Derived.Laws.OwnMore
import Derived.Deep.OwnRows
import Derived.Tactics
import Derived.Lib.ConvBytes
import Derived.Laws.Slices
import Derived.WalkKit
import Derived.KernelRfl
import Derived.RowKit3
import Derived.Deep.LoopGhost
import Derived.Deep.QuietTactic
import Derived.BigQuiet
import Derived.WideLaws
import Derived.Deep.DeepCutAuto
import Derived.Deep.CutBlock
import Derived.Deep.RegionHeld3
import Derived.Laws.Rows
import Derived.Lib.AppendStr
import Derived.ArgAppend
import Derived.Laws.IdiomCopy
import Derived.OrdersHeld
import Derived.Laws.BitsLemmas
import Derived.RowKit
import Derived.WalkSpells
import Derived.WalkLawsBesides
import Derived.Laws.BitsAllLaws
import Derived.Laws.BytesString
import Derived.Lib.Hide
import Derived.Test.YtfnjbmpolggdeaaQD0
section
namespace Go.Proofs.Ytfnjbmpolggdeaa.CD
open Go.RowKit Go.Proofs.YtfnjbmpolggdeaaW.PrintWords Go.Proofs.YtfnjbmpolggdeaaW.PrintLast Go.Proofs.YtfnjbmpolggdeaaW.PrintMore
attribute [local go_sem] max2_int min2_int max_two min_two max_three min_three max_four min_four   -- for this text's walks alone
set_option linter.unusedVariables false
set_option linter.unusedSimpArgs false
theorem info5 : (Try.prog.info? 5).map (fun i => (i.zero, i.size, i.bytes)) = some (some (.int .u8 0), 1, 1) := by kernel_rfl
structure S82 where
  f0 : Int
  f1 : Int
  f2 : Bool
  f3 : Int
  f4 : Int
  f5 : Int
  f6 : (List Int)
  f7 : (List Int)
def z82 : S82 := ⟨(0 : Int), (0 : Int), false, (0 : Int), (0 : Int), (0 : Int), ([] : List Int), ([] : List Int)⟩
def k82 : Kd S82 := Kd.iso (Kd.pair (Kd.int .i64) (Kd.pair (Kd.int .u8) (Kd.pair Kd.bool (Kd.pair (Kd.int .i64) (Kd.pair (Kd.int .i64) (Kd.pair (Kd.int .i64) (Kd.pair (Kd.slice 3 (Kd.int .i64)) (Kd.slice 3 (Kd.int .i64))))))))) (fun x : S82 => (x.f0, x.f1, x.f2, x.f3, x.f4, x.f5, x.f6, x.f7))
theorem k82_open {w : World} {x : S82} {cs : List Value} (h : k82.K w x cs) : ∃ A6 c6 A7 c7, cs = [.int .i64 x.f0, .int .u8 x.f1, .bool x.f2, .int .i64 x.f3, .int .i64 x.f4, .int .i64 x.f5, .slice A6 x.f6.length c6, .slice A7 x.f7.length c7] ∧ x.f6.length ≤ c6 ∧ (Kd.int .i64).C w A6 x.f6.length x.f6 ∧ x.f7.length ≤ c7 ∧ (Kd.int .i64).C w A7 x.f7.length x.f7 := by
  obtain ⟨_, _, rfl, rfl, ⟨_, _, rfl, rfl, ⟨_, _, rfl, rfl, ⟨_, _, rfl, rfl, ⟨_, _, rfl, rfl, ⟨_, _, rfl, rfl, ⟨_, _, rfl, ⟨A6, c6, rfl, l6, g6⟩, ⟨A7, c7, rfl, l7, g7⟩⟩⟩⟩⟩⟩⟩⟩ := h
  exact ⟨A6, c6, A7, c7, rfl, l6, g6, l7, g7⟩
theorem k82_openM {w : World} {base : Nat} {ok : Nat → Prop} {x : S82} {cs : List Value} (h : k82.M w base ok x cs) : ∃ v6 v7, cs = [.int .i64 x.f0, .int .u8 x.f1, .bool x.f2, .int .i64 x.f3, .int .i64 x.f4, .int .i64 x.f5, v6, v7] ∧ (Kd.int .i64).R 3 w base ok v6 x.f6 ∧ (Kd.int .i64).R 3 w base ok v7 x.f7 := by
  obtain ⟨_, _, rfl, rfl, ⟨_, _, rfl, rfl, ⟨_, _, rfl, rfl, ⟨_, _, rfl, rfl, ⟨_, _, rfl, rfl, ⟨_, _, rfl, rfl, ⟨_, _, rfl, ⟨v6, rfl, g6⟩, ⟨v7, rfl, g7⟩⟩⟩⟩⟩⟩⟩⟩ := h
  exact ⟨v6, v7, rfl, g6, g7⟩
theorem k82_mkM (w : World) (base : Nat) (ok : Nat → Prop) (x : S82) {v6 : Value} (g6 : (Kd.int .i64).R 3 w base ok v6 x.f6) {v7 : Value} (g7 : (Kd.int .i64).R 3 w base ok v7 x.f7) : k82.M w base ok x [.int .i64 x.f0, .int .u8 x.f1, .bool x.f2, .int .i64 x.f3, .int .i64 x.f4, .int .i64 x.f5, v6, v7] := ⟨[.int .i64 x.f0], [.int .u8 x.f1, .bool x.f2, .int .i64 x.f3, .int .i64 x.f4, .int .i64 x.f5, v6, v7], rfl, rfl, ⟨[.int .u8 x.f1], [.bool x.f2, .int .i64 x.f3, .int .i64 x.f4, .int .i64 x.f5, v6, v7], rfl, rfl, ⟨[.bool x.f2], [.int .i64 x.f3, .int .i64 x.f4, .int .i64 x.f5, v6, v7], rfl, rfl, ⟨[.int .i64 x.f3], [.int .i64 x.f4, .int .i64 x.f5, v6, v7], rfl, rfl, ⟨[.int .i64 x.f4], [.int .i64 x.f5, v6, v7], rfl, rfl, ⟨[.int .i64 x.f5], [v6, v7], rfl, rfl, ⟨[v6], [v7], rfl, ⟨v6, rfl, g6⟩, ⟨v7, rfl, g7⟩⟩⟩⟩⟩⟩⟩⟩
def rd_T82 (xs : List S82) (i : Int) : S82 := xs.getD i.toNat z82
theorem at_T82 {w : World} {A : Option Addr} {n : Nat} {xs : List S82} (h : Kd.C k82 w A n xs) (i : Int) (h0 : 0 ≤ i) (h1 : i < n) : ∃ ad A6 c6 A7 c7, A = some ad ∧ w.cell? (ad.add (i.toNat * 8)) = some (.int .i64 (rd_T82 xs i).f0) ∧ w.cell? ⟨(ad.add (i.toNat * 8)).block, (ad.add (i.toNat * 8)).off + 1, none⟩ = some (.int .u8 (rd_T82 xs i).f1) ∧ w.cell? ⟨(ad.add (i.toNat * 8)).block, (ad.add (i.toNat * 8)).off + 2, none⟩ = some (.bool (rd_T82 xs i).f2) ∧ w.cell? ⟨(ad.add (i.toNat * 8)).block, (ad.add (i.toNat * 8)).off + 3, none⟩ = some (.int .i64 (rd_T82 xs i).f3) ∧ w.cell? ⟨(ad.add (i.toNat * 8)).block, (ad.add (i.toNat * 8)).off + 4, none⟩ = some (.int .i64 (rd_T82 xs i).f4) ∧ w.cell? ⟨(ad.add (i.toNat * 8)).block, (ad.add (i.toNat * 8)).off + 5, none⟩ = some (.int .i64 (rd_T82 xs i).f5) ∧ w.cell? ⟨(ad.add (i.toNat * 8)).block, (ad.add (i.toNat * 8)).off + 6, none⟩ = some (.slice A6 (rd_T82 xs i).f6.length c6) ∧ w.cell? ⟨(ad.add (i.toNat * 8)).block, (ad.add (i.toNat * 8)).off + 7, none⟩ = some (.slice A7 (rd_T82 xs i).f7.length c7) ∧ (rd_T82 xs i).f6.length ≤ c6 ∧ (Kd.int .i64).C w A6 (rd_T82 xs i).f6.length (rd_T82 xs i).f6 ∧ (rd_T82 xs i).f7.length ≤ c7 ∧ (Kd.int .i64).C w A7 (rd_T82 xs i).f7.length (rd_T82 xs i).f7 := by
  obtain ⟨ad, c, e, _, hK, hc0⟩ := Kd.C_get h z82 i h0 h1
  have hc : ∀ j u, c[j]? = some u → w.cell? (ad.add (i.toNat * 8 + j)) = some u := hc0
  obtain ⟨A6, c6, A7, c7, rfl, l6, g6, l7, g7⟩ := k82_open hK
  exact ⟨ad, A6, c6, A7, c7, e, hc 0 _ rfl, by rw [← add_field _ _ 1 (by omega)]; exact hc 1 _ rfl, by rw [← add_field _ _ 2 (by omega)]; exact hc 2 _ rfl, by rw [← add_field _ _ 3 (by omega)]; exact hc 3 _ rfl, by rw [← add_field _ _ 4 (by omega)]; exact hc 4 _ rfl, by rw [← add_field _ _ 5 (by omega)]; exact hc 5 _ rfl, by rw [← add_field _ _ 6 (by omega)]; exact hc 6 _ rfl, by rw [← add_field _ _ 7 (by omega)]; exact hc 7 _ rfl, l6, g6, l7, g7⟩
end Go.Proofs.Ytfnjbmpolggdeaa.CD
end
section
namespace Go.Proofs.Ytfnjbmpolggdeaa.CD
open Go.RowKit Go.Proofs.YtfnjbmpolggdeaaW.PrintWords Go.Proofs.YtfnjbmpolggdeaaW.PrintLast Go.Proofs.YtfnjbmpolggdeaaW.PrintMore
attribute [local go_sem] max2_int min2_int max_two min_two max_three min_three max_four min_four   -- for this text's walks alone
set_option linter.unusedVariables false
set_option linter.unusedSimpArgs false
def code_sign.f (a0 : Int) (a1 : Int) : Option (Int) := if 0 ≤ (wrap64 ((wrap64 (8 * a1)) - 1)) then (if a0 ≥ (shl .i64 1 (wrap64 ((wrap64 (8 * a1)) - 1))) then (some (wrap64 (a0 - (wrap64 (2 * (shl .i64 1 (wrap64 ((wrap64 (8 * a1)) - 1)))))))) else (some a0)) else (none)
set_option maxHeartbeats 8000000 in
set_option maxRecDepth 100000 in
theorem code_sign.calls (a0 : Int) (a1 : Int) (r : Int) (w : World) (h : code_sign.f a0 a1 = some r) :
    Calls Try.prog 141 #[.int .i64 a0, .int .i64 a1] w fun e w' => e = .returned (.int .i64 r) ∧ Drawn0 w w' := by
  have H : (if 0 ≤ (wrap64 ((wrap64 (8 * a1)) - 1)) then (if a0 ≥ (shl .i64 1 (wrap64 ((wrap64 (8 * a1)) - 1))) then (some (wrap64 (a0 - (wrap64 (2 * (shl .i64 1 (wrap64 ((wrap64 (8 * a1)) - 1)))))))) else (some a0)) else (none)) = some r := h
  clear h
  obtain ⟨ji3, hji3⟩ : ∃ j_ : Int, (wrap64 ((wrap64 (8 * a1)) - 1)) = j_ := ⟨_, rfl⟩
  replace H : (if 0 ≤ (ji3) then (if a0 ≥ (shl .i64 1 (ji3)) then (some (wrap64 (a0 - (wrap64 (2 * (shl .i64 1 (ji3))))))) else (some a0)) else (none)) = some r := by first | (rw [hji3] at H; exact H) | (simp only [hji3] at H ⊢; exact H)
  have hji3w : (IntKind.i64.wrap ((wrap64 (8 * a1)) - 1)) = ji3 := (i64_w _).trans hji3
  by_cases c4 : 0 ≤ (ji3)
  · rw [if_pos c4] at H
    have c4b0 := eq_true c4
    have c4b1 : decide (0 ≤ (ji3)) = true := decide_eq_true c4
    clear c4
    obtain ⟨ji5, hji5⟩ : ∃ j_ : Int, (shl .i64 1 (ji3)) = j_ := ⟨_, rfl⟩
    replace H : (if a0 ≥ (ji5) then (some (wrap64 (a0 - (wrap64 (2 * (ji5)))))) else (some a0)) = some r := by first | (rw [hji5] at H; exact H) | (simp only [hji5] at H ⊢; exact H)
    have hji5_ : (IntKind.i64.wrap (1 * 2 ^ min (ji3).toNat 64)) = ji5 := hji5
    have hji5z : (ji3) ≤ 64 → (IntKind.i64.wrap (1 * 2 ^ (ji3).toNat)) = ji5 := shl_small hji5
    have hji5u : (IntKind.i64.wrap (2 ^ min (ji3).toNat 64)) = ji5 := by have h_ := hji5_; rw [Int.one_mul] at h_; exact h_
    have hji5v : (ji3) ≤ 64 → (IntKind.i64.wrap (2 ^ (ji3).toNat)) = ji5 := fun hle_ => by have h_ := hji5z hle_; rw [Int.one_mul] at h_; exact h_
    have hji5y : (wrap64 (1 * 2 ^ min (ji3).toNat 64)) = ji5 := (i64_w _).symm.trans hji5_
    have hji5x : (ji3) ≤ 64 → (wrap64 (1 * 2 ^ (ji3).toNat)) = ji5 := fun h_ => (i64_w _).symm.trans (hji5z h_)
    by_cases c6 : a0 ≥ (ji5)
    · rw [if_pos c6] at H
      have c6b0 : decide ((ji5) ≤ a0) = true := decide_eq_true c6
      clear c6
      obtain rfl := Option.some.inj H
      go_enter Try.func141, Try.ntmps141
      go_wp2
      go_ret
      exact ⟨by first | rfl | (simp; done) | (simp only [← hji3, ← hji5] <;> (first | rfl | simp)) | (simp [*]; done), by repeat (first | exact Drawn0.refl _ | apply Drawn0.step)⟩
    · rw [if_neg c6] at H
      have c6b0 : decide ((ji5) ≤ a0) = false := decide_eq_false c6
      clear c6
      obtain rfl := Option.some.inj H
      go_enter Try.func141, Try.ntmps141
      go_wp2
      go_ret
      exact ⟨by first | rfl | (simp; done) | (simp only [← hji3, ← hji5] <;> (first | rfl | simp)) | (simp [*]; done), by repeat (first | exact Drawn0.refl _ | apply Drawn0.step)⟩
  · rw [if_neg c4] at H
    exact absurd H (by simp)
end Go.Proofs.Ytfnjbmpolggdeaa.CD
end
section
namespace Go.Proofs.Ytfnjbmpolggdeaa.CD
open Go.RowKit Go.Proofs.YtfnjbmpolggdeaaW.PrintWords Go.Proofs.YtfnjbmpolggdeaaW.PrintLast Go.Proofs.YtfnjbmpolggdeaaW.PrintMore
attribute [local go_sem] max2_int min2_int max_two min_two max_three min_three max_four min_four   -- for this text's walks alone
set_option linter.unusedVariables false
set_option linter.unusedSimpArgs false
def IsS167 (w0 W : World) (g : Nat) (f0 : ByteArray) (f1 : Int) (f2 : Int) (f3 : Int) : Prop := W.heap[g]? = some (.cells #[.string f0, .int .i64 f1, .int .i64 f2, .int .i64 f3] 167 (0, 0)) ∧ w0.heap.size ≤ g
theorem IsS167.grown {w0 W : World} {g : Nat} {f0 : ByteArray} {f1 : Int} {f2 : Int} {f3 : Int} {W1 : World} {row : Option Nat} (h : IsS167 w0 W g f0 f1 f2 f3) (hw : W.grownBy W1 row) (hne : some g ≠ row) : IsS167 w0 W1 g f0 f1 f2 f3 := by
  obtain ⟨hb, hg⟩ := h
  exact ⟨blk_grown hb hw hne, hg⟩
theorem IsS167.kept {w0 W : World} {g : Nat} {f0 : ByteArray} {f1 : Int} {f2 : Int} {f3 : Int} {W1 : World} {S : Nat → Prop} (h : IsS167 w0 W g f0 f1 f2 f3) (hk : Kept W W1 S) (hne : ¬ S g) : IsS167 w0 W1 g f0 f1 f2 f3 := by
  obtain ⟨hb, hg⟩ := h
  exact ⟨blk_kept hb hk hne, hg⟩
theorem IsS167.below {w0 W : World} {g : Nat} {f0 : ByteArray} {f1 : Int} {f2 : Int} {f3 : Int} {W1 : World} (h : IsS167 w0 W g f0 f1 f2 f3) (hw : Below W.heap.size W W1) : IsS167 w0 W1 g f0 f1 f2 f3 := h.grown (grown_of_below hw none) (by simp)
theorem IsS167.alloc {w0 W : World} {g : Nat} {f0 : ByteArray} {f1 : Int} {f2 : Int} {f3 : Int} (h : IsS167 w0 W g f0 f1 f2 f3) (o : Obj) : IsS167 w0 (W.alloc o) g f0 f1 f2 f3 := h.below (below_alloc (Below.refl _ _) o)
theorem IsS167.drewN {w0 W : World} {g : Nat} {f0 : ByteArray} {f1 : Int} {f2 : Int} {f3 : Int} (h : IsS167 w0 W g f0 f1 f2 f3) (m : Nat) : IsS167 w0 (W.drewN m) g f0 f1 f2 f3 := h
theorem IsS167.drew {w0 W : World} {g : Nat} {f0 : ByteArray} {f1 : Int} {f2 : Int} {f3 : Int} (h : IsS167 w0 W g f0 f1 f2 f3) : IsS167 w0 W.drew g f0 f1 f2 f3 := h
theorem IsS167.at_ {w0 W : World} {g : Nat} {f0 : ByteArray} {f1 : Int} {f2 : Int} {f3 : Int} {w' : World} {m : Nat} (hq : W.drewN m = w') (h : IsS167 w0 W g f0 f1 f2 f3) : IsS167 w0 w' g f0 f1 f2 f3 := by subst hq; exact IsS167.drewN h m
theorem IsS167.ge {w0 W : World} {g : Nat} {f0 : ByteArray} {f1 : Int} {f2 : Int} {f3 : Int} (h : IsS167 w0 W g f0 f1 f2 f3) : w0.heap.size ≤ g := by
  obtain ⟨hb, hg⟩ := h
  exact hg
theorem IsS167.ne_blk {w0 W : World} {g : Nat} {f0 : ByteArray} {f1 : Int} {f2 : Int} {f3 : Int} {a : Nat} {cs : Array Value} {t : TypeId} {fr : Nat × Nat} (h : IsS167 w0 W g f0 f1 f2 f3) (hb2 : W.heap[a]? = some (.cells cs t fr)) (ht : t ≠ 167) : g ≠ a := by
  obtain ⟨hb, hg⟩ := h
  rintro rfl
  rw [hb] at hb2
  injection hb2 with hb2
  injection hb2 with _ ht2
  exact ht ht2.symm
theorem IsS167.far {w0 W : World} {g : Nat} {f0 : ByteArray} {f1 : Int} {f2 : Int} {f3 : Int} {p : Addr} (h : IsS167 w0 W g f0 f1 f2 f3) (hne : g ≠ p.block) (u : Value) : IsS167 w0 (W.setCell p u) g f0 f1 f2 f3 := by
  obtain ⟨hb, hg⟩ := h
  exact ⟨blk_far hb hne u, hg⟩
theorem cellS167_0 {W : World} {g : Nat} {f0 : ByteArray} {f1 : Int} {f2 : Int} {f3 : Int} (h : W.heap[g]? = some (.cells #[.string f0, .int .i64 f1, .int .i64 f2, .int .i64 f3] 167 (0, 0))) : W.cell? ⟨g, 0, none⟩ = some (.string f0) := (blk_cell h 0).trans rfl
theorem cellS167_1 {W : World} {g : Nat} {f0 : ByteArray} {f1 : Int} {f2 : Int} {f3 : Int} (h : W.heap[g]? = some (.cells #[.string f0, .int .i64 f1, .int .i64 f2, .int .i64 f3] 167 (0, 0))) : W.cell? ⟨g, 1, none⟩ = some (.int .i64 f1) := (blk_cell h 1).trans rfl
theorem IsS167.set_1 {w0 W : World} {g : Nat} {f0 : ByteArray} {f1 : Int} {f2 : Int} {f3 : Int} (h : IsS167 w0 W g f0 f1 f2 f3) (x : Int) : IsS167 w0 (W.setCell ⟨g, 1, none⟩ (.int .i64 x)) g f0 x f2 f3 := by
  obtain ⟨hb, hg⟩ := h
  exact ⟨by simpa using blk_set hb 1 (.int .i64 x), hg⟩
theorem cellS167_2 {W : World} {g : Nat} {f0 : ByteArray} {f1 : Int} {f2 : Int} {f3 : Int} (h : W.heap[g]? = some (.cells #[.string f0, .int .i64 f1, .int .i64 f2, .int .i64 f3] 167 (0, 0))) : W.cell? ⟨g, 2, none⟩ = some (.int .i64 f2) := (blk_cell h 2).trans rfl
theorem IsS167.set_2 {w0 W : World} {g : Nat} {f0 : ByteArray} {f1 : Int} {f2 : Int} {f3 : Int} (h : IsS167 w0 W g f0 f1 f2 f3) (x : Int) : IsS167 w0 (W.setCell ⟨g, 2, none⟩ (.int .i64 x)) g f0 f1 x f3 := by
  obtain ⟨hb, hg⟩ := h
  exact ⟨by simpa using blk_set hb 2 (.int .i64 x), hg⟩
theorem cellS167_3 {W : World} {g : Nat} {f0 : ByteArray} {f1 : Int} {f2 : Int} {f3 : Int} (h : W.heap[g]? = some (.cells #[.string f0, .int .i64 f1, .int .i64 f2, .int .i64 f3] 167 (0, 0))) : W.cell? ⟨g, 3, none⟩ = some (.int .i64 f3) := (blk_cell h 3).trans rfl
theorem IsS167.set_3 {w0 W : World} {g : Nat} {f0 : ByteArray} {f1 : Int} {f2 : Int} {f3 : Int} (h : IsS167 w0 W g f0 f1 f2 f3) (x : Int) : IsS167 w0 (W.setCell ⟨g, 3, none⟩ (.int .i64 x)) g f0 f1 f2 x := by
  obtain ⟨hb, hg⟩ := h
  exact ⟨by simpa using blk_set hb 3 (.int .i64 x), hg⟩
theorem IsS167.new (w0 W : World) (f0 : ByteArray) (f1 : Int) (f2 : Int) (f3 : Int) (hB : Below w0.heap.size w0 W) : IsS167 w0 (W.alloc (.cells #[.string f0, .int .i64 f1, .int .i64 f2, .int .i64 f3] 167)) W.heap.size f0 f1 f2 f3 := ⟨by simpa using heap_alloc_new W _, hB.size⟩
def pool_Reader_Bad.f (s0_0 : ByteArray) (s0_1 : Int) (s0_2 : Int) (s0_3 : Int) : Option (Bool × ByteArray × Int × Int × Int) := some ((s0_2 != 0), s0_0, s0_1, s0_2, s0_3)
set_option maxHeartbeats 8000000 in
set_option maxRecDepth 100000 in
theorem pool_Reader_Bad.calls (g : Nat) (s0_0 : ByteArray) (s0_1 : Int) (s0_2 : Int) (s0_3 : Int) (r1 : Bool) (r2 : ByteArray) (r3 : Int) (r4 : Int) (r5 : Int) (w0 w : World) (hI : IsS167 w0 w g s0_0 s0_1 s0_2 s0_3) (hB : Below w0.heap.size w0 w) (h : pool_Reader_Bad.f s0_0 s0_1 s0_2 s0_3 = some (r1, r2, r3, r4, r5)) :
    Calls Try.prog 70 #[.pointer (some ⟨g, 0, none⟩)] w fun e w' => e = .returned (.bool r1) ∧ IsS167 w0 w' g r2 r3 r4 r5 ∧ Below w0.heap.size w0 w' ∧ KeepBut w w' g none := by
  have HI0 := Aside0.mk hI
  have HK := Aside0.mk (KeepBut.refl w g none)
  have HL := Aside0.mk hB.size
  clear hI
  have HW0 := Aside0.mk hB.size
  have HB := Aside0.mk hB
  clear hB
  have H : (some ((s0_2 != 0), s0_0, s0_1, s0_2, s0_3)) = some (r1, r2, r3, r4, r5) := h
  clear h
  simp only [Option.some.injEq, Prod.mk.injEq] at H
  obtain ⟨rfl, rfl, rfl, rfl, rfl⟩ := H
  obtain ⟨HGz2, hgz2⟩ := HI0.out
  have hcz2_0 := cellS167_0 HGz2
  have hcz2_1 := cellS167_1 HGz2
  have hcz2_2 := cellS167_2 HGz2
  have hcz2_3 := cellS167_3 HGz2
  have hfz2_0 := blk_frozen HGz2 0
  have hfz2_1 := blk_frozen HGz2 1
  have hfz2_2 := blk_frozen HGz2 2
  have hfz2_3 := blk_frozen HGz2 3
  clear HGz2 hgz2
  go_enter Try.func70, Try.ntmps70
  go_wp2
  go_ret
  exact ⟨by first | rfl | (simp [errW_none, errW_some] <;> rfl) | (simp [*, errW_none, errW_some] <;> rfl), by repeat (first | (with_reducible first | exact HI0.out | apply IsS167.alloc | apply IsS167.drewN | apply IsS167.drew | apply IsS167.set_0 | apply IsS167.set_1 | apply IsS167.set_2 | apply IsS167.set_3) | exact HI0.out), by repeat (first | (with_reducible first | exact HB.out | apply below_alloc | apply pw_below_drewN | apply below_drew1 | refine below_set ?_ (IsS167.ge HI0.out)) | exact HB.out), by repeat (first | (with_reducible first | exact HK.out | apply KeepBut.set_ | apply keep_drewN | apply keep_drew | apply keep_alloc) | exact HK.out)⟩
end Go.Proofs.Ytfnjbmpolggdeaa.CD
end
section
namespace Go.Proofs.Ytfnjbmpolggdeaa.CD
open Go.RowKit Go.Proofs.YtfnjbmpolggdeaaW.PrintWords Go.Proofs.YtfnjbmpolggdeaaW.PrintLast Go.Proofs.YtfnjbmpolggdeaaW.PrintMore
attribute [local go_sem] max2_int min2_int max_two min_two max_three min_three max_four min_four   -- for this text's walks alone
set_option linter.unusedVariables false
set_option linter.unusedSimpArgs false
def pool_Reader_At.f (s0_0 : ByteArray) (s0_1 : Int) (s0_2 : Int) (s0_3 : Int) : Option (Int × ByteArray × Int × Int × Int) := some (s0_1, s0_0, s0_1, s0_2, s0_3)
set_option maxHeartbeats 8000000 in
set_option maxRecDepth 100000 in
theorem pool_Reader_At.calls (g : Nat) (s0_0 : ByteArray) (s0_1 : Int) (s0_2 : Int) (s0_3 : Int) (r1 : Int) (r2 : ByteArray) (r3 : Int) (r4 : Int) (r5 : Int) (w0 w : World) (hI : IsS167 w0 w g s0_0 s0_1 s0_2 s0_3) (hB : Below w0.heap.size w0 w) (h : pool_Reader_At.f s0_0 s0_1 s0_2 s0_3 = some (r1, r2, r3, r4, r5)) :
    Calls Try.prog 66 #[.pointer (some ⟨g, 0, none⟩)] w fun e w' => e = .returned (.int .i64 r1) ∧ IsS167 w0 w' g r2 r3 r4 r5 ∧ Below w0.heap.size w0 w' ∧ KeepBut w w' g none := by
  have HI0 := Aside0.mk hI
  have HK := Aside0.mk (KeepBut.refl w g none)
  have HL := Aside0.mk hB.size
  clear hI
  have HW0 := Aside0.mk hB.size
  have HB := Aside0.mk hB
  clear hB
  have H : (some (s0_1, s0_0, s0_1, s0_2, s0_3)) = some (r1, r2, r3, r4, r5) := h
  clear h
  simp only [Option.some.injEq, Prod.mk.injEq] at H
  obtain ⟨rfl, rfl, rfl, rfl, rfl⟩ := H
  obtain ⟨HGz2, hgz2⟩ := HI0.out
  have hcz2_0 := cellS167_0 HGz2
  have hcz2_1 := cellS167_1 HGz2
  have hcz2_2 := cellS167_2 HGz2
  have hcz2_3 := cellS167_3 HGz2
  have hfz2_0 := blk_frozen HGz2 0
  have hfz2_1 := blk_frozen HGz2 1
  have hfz2_2 := blk_frozen HGz2 2
  have hfz2_3 := blk_frozen HGz2 3
  clear HGz2 hgz2
  go_enter Try.func66, Try.ntmps66
  go_wp2
  go_ret
  exact ⟨by first | rfl | (simp [errW_none, errW_some] <;> rfl) | (simp [*, errW_none, errW_some] <;> rfl), by repeat (first | (with_reducible first | exact HI0.out | apply IsS167.alloc | apply IsS167.drewN | apply IsS167.drew | apply IsS167.set_0 | apply IsS167.set_1 | apply IsS167.set_2 | apply IsS167.set_3) | exact HI0.out), by repeat (first | (with_reducible first | exact HB.out | apply below_alloc | apply pw_below_drewN | apply below_drew1 | refine below_set ?_ (IsS167.ge HI0.out)) | exact HB.out), by repeat (first | (with_reducible first | exact HK.out | apply KeepBut.set_ | apply keep_drewN | apply keep_drew | apply keep_alloc) | exact HK.out)⟩
end Go.Proofs.Ytfnjbmpolggdeaa.CD
end
section
namespace Go.Proofs.Ytfnjbmpolggdeaa.CD
open Go.RowKit Go.Proofs.YtfnjbmpolggdeaaW.PrintWords Go.Proofs.YtfnjbmpolggdeaaW.PrintLast Go.Proofs.YtfnjbmpolggdeaaW.PrintMore
attribute [local go_sem] max2_int min2_int max_two min_two max_three min_three max_four min_four   -- for this text's walks alone
set_option linter.unusedVariables false
set_option linter.unusedSimpArgs false
def pool_Reader_Left.f (s0_0 : ByteArray) (s0_1 : Int) (s0_2 : Int) (s0_3 : Int) : Option (Int × ByteArray × Int × Int × Int) := some (wrap64 ((s0_0.size : Int) - s0_1), s0_0, s0_1, s0_2, s0_3)
set_option maxHeartbeats 8000000 in
set_option maxRecDepth 100000 in
theorem pool_Reader_Left.calls (g : Nat) (s0_0 : ByteArray) (s0_1 : Int) (s0_2 : Int) (s0_3 : Int) (r1 : Int) (r2 : ByteArray) (r3 : Int) (r4 : Int) (r5 : Int) (w0 w : World) (hI : IsS167 w0 w g s0_0 s0_1 s0_2 s0_3) (hB : Below w0.heap.size w0 w) (h : pool_Reader_Left.f s0_0 s0_1 s0_2 s0_3 = some (r1, r2, r3, r4, r5)) :
    Calls Try.prog 72 #[.pointer (some ⟨g, 0, none⟩)] w fun e w' => e = .returned (.int .i64 r1) ∧ IsS167 w0 w' g r2 r3 r4 r5 ∧ Below w0.heap.size w0 w' ∧ KeepBut w w' g none := by
  have HI0 := Aside0.mk hI
  have HK := Aside0.mk (KeepBut.refl w g none)
  have HL := Aside0.mk hB.size
  clear hI
  have HW0 := Aside0.mk hB.size
  have HB := Aside0.mk hB
  clear hB
  have H : (some (wrap64 ((s0_0.size : Int) - s0_1), s0_0, s0_1, s0_2, s0_3)) = some (r1, r2, r3, r4, r5) := h
  clear h
  simp only [Option.some.injEq, Prod.mk.injEq] at H
  obtain ⟨rfl, rfl, rfl, rfl, rfl⟩ := H
  obtain ⟨HGz2, hgz2⟩ := HI0.out
  have hcz2_0 := cellS167_0 HGz2
  have hcz2_1 := cellS167_1 HGz2
  have hcz2_2 := cellS167_2 HGz2
  have hcz2_3 := cellS167_3 HGz2
  have hfz2_0 := blk_frozen HGz2 0
  have hfz2_1 := blk_frozen HGz2 1
  have hfz2_2 := blk_frozen HGz2 2
  have hfz2_3 := blk_frozen HGz2 3
  clear HGz2 hgz2
  go_enter Try.func72, Try.ntmps72
  go_wp2
  repeat (go_quiet (fail); try go_wp2)
  go_ret
  exact ⟨by first | rfl | (simp [errW_none, errW_some] <;> rfl) | (simp [*, errW_none, errW_some] <;> rfl), by repeat (first | (with_reducible first | exact HI0.out | apply IsS167.alloc | apply IsS167.drewN | apply IsS167.drew | apply IsS167.set_0 | apply IsS167.set_1 | apply IsS167.set_2 | apply IsS167.set_3) | exact HI0.out), by repeat (first | (with_reducible first | exact HB.out | apply below_alloc | apply pw_below_drewN | apply below_drew1 | refine below_set ?_ (IsS167.ge HI0.out)) | exact HB.out), by repeat (first | (with_reducible first | exact HK.out | apply KeepBut.set_ | apply keep_drewN | apply keep_drew | apply keep_alloc) | exact HK.out)⟩
end Go.Proofs.Ytfnjbmpolggdeaa.CD
end
section
namespace Go.Proofs.Ytfnjbmpolggdeaa.CD
open Go.RowKit Go.Proofs.YtfnjbmpolggdeaaW.PrintWords Go.Proofs.YtfnjbmpolggdeaaW.PrintLast Go.Proofs.YtfnjbmpolggdeaaW.PrintMore
attribute [local go_sem] max2_int min2_int max_two min_two max_three min_three max_four min_four   -- for this text's walks alone
set_option linter.unusedVariables false
set_option linter.unusedSimpArgs false
def pool_Reader_Fail.f (s0_0 : ByteArray) (s0_1 : Int) (s0_2 : Int) (s0_3 : Int) (a1 : Int) (a2 : Int) : Option (ByteArray × Int × Int × Int) := if s0_2 = 0 then (some (s0_0, s0_1, a1, a2)) else (some (s0_0, s0_1, s0_2, s0_3))
set_option maxHeartbeats 8000000 in
set_option maxRecDepth 100000 in
theorem pool_Reader_Fail.calls (g : Nat) (s0_0 : ByteArray) (s0_1 : Int) (s0_2 : Int) (s0_3 : Int) (a1 : Int) (a2 : Int) (r1 : ByteArray) (r2 : Int) (r3 : Int) (r4 : Int) (w0 w : World) (hI : IsS167 w0 w g s0_0 s0_1 s0_2 s0_3) (hB : Below w0.heap.size w0 w) (h : pool_Reader_Fail.f s0_0 s0_1 s0_2 s0_3 a1 a2 = some (r1, r2, r3, r4)) :
    Calls Try.prog 73 #[.pointer (some ⟨g, 0, none⟩), .int .i64 a1, .int .i64 a2] w fun e w' => e = .returned (.tuple #[]) ∧ IsS167 w0 w' g r1 r2 r3 r4 ∧ Below w0.heap.size w0 w' ∧ KeepBut w w' g none := by
  have HI0 := Aside0.mk hI
  have HK := Aside0.mk (KeepBut.refl w g none)
  have HL := Aside0.mk hB.size
  clear hI
  have HW0 := Aside0.mk hB.size
  have HB := Aside0.mk hB
  clear hB
  have H : (if s0_2 = 0 then (some (s0_0, s0_1, a1, a2)) else (some (s0_0, s0_1, s0_2, s0_3))) = some (r1, r2, r3, r4) := h
  clear h
  by_cases c4 : s0_2 = 0
  · rw [if_pos c4] at H
    have c4b0 : (s0_2 == 0) = true := beq_iff_eq.mpr c4
    have c4b1 : (s0_2 != 0) = false := bne_eq_false_iff_eq.mpr c4
    clear c4
    simp only [Option.some.injEq, Prod.mk.injEq] at H
    obtain ⟨rfl, rfl, rfl, rfl⟩ := H
    obtain ⟨HGz5, hgz5⟩ := HI0.out
    have hcz5_0 := cellS167_0 HGz5
    have hcz5_1 := cellS167_1 HGz5
    have hcz5_2 := cellS167_2 HGz5
    have hcz5_3 := cellS167_3 HGz5
    have hfz5_0 := blk_frozen HGz5 0
    have hfz5_1 := blk_frozen HGz5 1
    have hfz5_2 := blk_frozen HGz5 2
    have hfz5_3 := blk_frozen HGz5 3
    clear HGz5 hgz5
    go_enter Try.func73, Try.ntmps73
    go_wp2
    first | go_end0 | ((try simp only [Exit.inBlock, Exit.then]); refine bodyPost_ret (results_none rfl _ _ _) rfl ?_)
    exact ⟨by first | rfl | (simp [errW_none, errW_some] <;> rfl) | (simp [*, errW_none, errW_some] <;> rfl), by repeat (first | (with_reducible first | exact HI0.out | apply IsS167.alloc | apply IsS167.drewN | apply IsS167.drew | apply IsS167.set_0 | apply IsS167.set_1 | apply IsS167.set_2 | apply IsS167.set_3) | exact HI0.out), by repeat (first | (with_reducible first | exact HB.out | apply below_alloc | apply pw_below_drewN | apply below_drew1 | refine below_set ?_ (IsS167.ge HI0.out)) | exact HB.out), by repeat (first | (with_reducible first | exact HK.out | apply KeepBut.set_ | apply keep_drewN | apply keep_drew | apply keep_alloc) | exact HK.out)⟩
  · rw [if_neg c4] at H
    have c4b0 : (s0_2 == 0) = false := beq_eq_false_iff_ne.mpr c4
    have c4b1 : (s0_2 != 0) = true := bne_iff_ne.mpr c4
    simp only [Option.some.injEq, Prod.mk.injEq] at H
    obtain ⟨rfl, rfl, rfl, rfl⟩ := H
    obtain ⟨HGz6, hgz6⟩ := HI0.out
    have hcz6_0 := cellS167_0 HGz6
    have hcz6_1 := cellS167_1 HGz6
    have hcz6_2 := cellS167_2 HGz6
    have hcz6_3 := cellS167_3 HGz6
    have hfz6_0 := blk_frozen HGz6 0
    have hfz6_1 := blk_frozen HGz6 1
    have hfz6_2 := blk_frozen HGz6 2
    have hfz6_3 := blk_frozen HGz6 3
    clear HGz6 hgz6
    go_enter Try.func73, Try.ntmps73
    go_wp2
    first | go_end0 | ((try simp only [Exit.inBlock, Exit.then]); refine bodyPost_ret (results_none rfl _ _ _) rfl ?_)
    exact ⟨by first | rfl | (simp [errW_none, errW_some] <;> rfl) | (simp [*, errW_none, errW_some] <;> rfl), by repeat (first | (with_reducible first | exact HI0.out | apply IsS167.alloc | apply IsS167.drewN | apply IsS167.drew | apply IsS167.set_0 | apply IsS167.set_1 | apply IsS167.set_2 | apply IsS167.set_3) | exact HI0.out), by repeat (first | (with_reducible first | exact HB.out | apply below_alloc | apply pw_below_drewN | apply below_drew1 | refine below_set ?_ (IsS167.ge HI0.out)) | exact HB.out), by repeat (first | (with_reducible first | exact HK.out | apply KeepBut.set_ | apply keep_drewN | apply keep_drew | apply keep_alloc) | exact HK.out)⟩
end Go.Proofs.Ytfnjbmpolggdeaa.CD
end
section
namespace Go.Proofs.Ytfnjbmpolggdeaa.CD
open Go.RowKit Go.Proofs.YtfnjbmpolggdeaaW.PrintWords Go.Proofs.YtfnjbmpolggdeaaW.PrintLast Go.Proofs.YtfnjbmpolggdeaaW.PrintMore
attribute [local go_sem] max2_int min2_int max_two min_two max_three min_three max_four min_four   -- for this text's walks alone
set_option linter.unusedVariables false
set_option linter.unusedSimpArgs false
def pool_Reader_Err.f (s0_0 : ByteArray) (s0_1 : Int) (s0_2 : Int) (s0_3 : Int) : Option (Int × Int × ByteArray × Int × Int × Int) := some (s0_2, s0_3, s0_0, s0_1, s0_2, s0_3)
set_option maxHeartbeats 8000000 in
set_option maxRecDepth 100000 in
theorem pool_Reader_Err.calls (g : Nat) (s0_0 : ByteArray) (s0_1 : Int) (s0_2 : Int) (s0_3 : Int) (r1 : Int) (r2 : Int) (r3 : ByteArray) (r4 : Int) (r5 : Int) (r6 : Int) (w0 w : World) (hI : IsS167 w0 w g s0_0 s0_1 s0_2 s0_3) (hB : Below w0.heap.size w0 w) (h : pool_Reader_Err.f s0_0 s0_1 s0_2 s0_3 = some (r1, r2, r3, r4, r5, r6)) :
    Calls Try.prog 65 #[.pointer (some ⟨g, 0, none⟩)] w fun e w' => e = .returned (.tuple #[.int .i64 r1, .int .i64 r2]) ∧ IsS167 w0 w' g r3 r4 r5 r6 ∧ Below w0.heap.size w0 w' ∧ KeepBut w w' g none := by
  have HI0 := Aside0.mk hI
  have HK := Aside0.mk (KeepBut.refl w g none)
  have HL := Aside0.mk hB.size
  clear hI
  have HW0 := Aside0.mk hB.size
  have HB := Aside0.mk hB
  clear hB
  have H : (some (s0_2, s0_3, s0_0, s0_1, s0_2, s0_3)) = some (r1, r2, r3, r4, r5, r6) := h
  clear h
  simp only [Option.some.injEq, Prod.mk.injEq] at H
  obtain ⟨rfl, rfl, rfl, rfl, rfl, rfl⟩ := H
  obtain ⟨HGz2, hgz2⟩ := HI0.out
  have hcz2_0 := cellS167_0 HGz2
  have hcz2_1 := cellS167_1 HGz2
  have hcz2_2 := cellS167_2 HGz2
  have hcz2_3 := cellS167_3 HGz2
  have hfz2_0 := blk_frozen HGz2 0
  have hfz2_1 := blk_frozen HGz2 1
  have hfz2_2 := blk_frozen HGz2 2
  have hfz2_3 := blk_frozen HGz2 3
  clear HGz2 hgz2
  go_enter Try.func65, Try.ntmps65
  go_wp2
  repeat (go_quiet (fail); try go_wp2)
  go_ret2
  exact ⟨by first | rfl | (simp [errW_none, errW_some] <;> rfl) | (simp [*, errW_none, errW_some] <;> rfl), by repeat (first | (with_reducible first | exact HI0.out | apply IsS167.alloc | apply IsS167.drewN | apply IsS167.drew | apply IsS167.set_0 | apply IsS167.set_1 | apply IsS167.set_2 | apply IsS167.set_3) | exact HI0.out), by repeat (first | (with_reducible first | exact HB.out | apply below_alloc | apply pw_below_drewN | apply below_drew1 | refine below_set ?_ (IsS167.ge HI0.out)) | exact HB.out), by repeat (first | (with_reducible first | exact HK.out | apply KeepBut.set_ | apply keep_drewN | apply keep_drew | apply keep_alloc) | exact HK.out)⟩
def pool_NewReader.f (a0 : ByteArray) : Option (ByteArray × Int × Int × Int) := some (a0, 0, 0, 0)
set_option maxHeartbeats 8000000 in
set_option maxRecDepth 100000 in
theorem pool_NewReader.calls (a0 : ByteArray) (r1 : ByteArray) (r2 : Int) (r3 : Int) (r4 : Int) (w0 w : World) (hB : Below w0.heap.size w0 w) (h : pool_NewReader.f a0 = some (r1, r2, r3, r4)) :
    Calls Try.prog 63 #[.string a0] w fun e w' => ∃ g_ : Nat, e = .returned (.pointer (some ⟨g_, 0, none⟩)) ∧ IsS167 w0 w' g_ r1 r2 r3 r4 ∧ Below w0.heap.size w0 w' ∧ Below w.heap.size w w' := by
  have hu167 := Try.underlying167
  have HBW := Aside0.mk (Below.refl w.heap.size w)
  have HW0 := Aside0.mk hB.size
  have HB := Aside0.mk hB
  clear hB
  have H : (some (a0, 0, 0, 0)) = some (r1, r2, r3, r4) := h
  clear h
  simp only [Option.some.injEq, Prod.mk.injEq] at H
  obtain ⟨rfl, rfl, rfl, rfl⟩ := H
  go_enter Try.func63, Try.ntmps63
  go_wp2_with (first | ((with_reducible refine gate_dst (N := 5) rfl ?_); refine box_event ?hg (N := 5) ?hd (cs := #[.string a0, .int .i64 0, .int .i64 0, .int .i64 0]) (t := 167) ?hr ?_; (case hd => rfl); (case hg => rfl); (case hr => first | (go_simp; done) | (go_simp; rfl)); intro gb119 hg w2 hbox hb; have n0_ := Aside0.mk (below_step HBW.out hb); have n1_ := Aside0.mk (below_step (by repeat (first | (with_reducible first | exact HB.out | apply below_alloc | apply pw_below_drewN | apply below_drew1) | exact HB.out)) hb); have n2_ := Aside0.mk (hbox); have n3_ := Aside0.mk ((by rw [hg]; exact (below_size (by repeat (first | (with_reducible first | exact HBW.out | apply below_alloc | apply pw_below_drewN | apply below_drew1) | exact HBW.out))) : w.heap.size ≤ gb119)); have n4_ := Aside0.mk ((Nat.le_trans HW0.out (by rw [hg]; exact (below_size (by repeat (first | (with_reducible first | exact HBW.out | apply below_alloc | apply pw_below_drewN | apply below_drew1) | exact HBW.out))) : w.heap.size ≤ gb119) : w0.heap.size ≤ gb119)); clear HBW; clear HB; have HBW := n0_; have HB := n1_; have BK119 := n2_; have GW119 := n3_; have GE119 := n4_; clear n0_ n1_ n2_ n3_ n4_; clear hb hbox hg))
  go_ret
  exact ⟨_, rfl, (show IsS167 w0 _ gb119 a0 0 0 0 from ⟨by (with_reducible repeat (first | refine blk_drewN ?_ _ | refine blk_drew ?_ | refine blk_alloc ?_ _)); exact BK119.out, GE119.out⟩), by repeat (first | (with_reducible first | exact HB.out | apply below_alloc | apply pw_below_drewN | apply below_drew1 | refine below_set ?_ GE119.out) | exact HB.out), by repeat (first | (with_reducible first | exact HBW.out | apply below_alloc | apply pw_below_drewN | apply below_drew1 | refine below_set ?_ GW119.out) | exact HBW.out)⟩
end Go.Proofs.Ytfnjbmpolggdeaa.CD
end
section
namespace Go.Proofs.Ytfnjbmpolggdeaa.CD
open Go.RowKit Go.Proofs.YtfnjbmpolggdeaaW.PrintWords Go.Proofs.YtfnjbmpolggdeaaW.PrintLast Go.Proofs.YtfnjbmpolggdeaaW.PrintMore
attribute [local go_sem] max2_int min2_int max_two min_two max_three min_three max_four min_four   -- for this text's walks alone
set_option linter.unusedVariables false
set_option linter.unusedSimpArgs false
def pool_Reader_Take.f (s0_0 : ByteArray) (s0_1 : Int) (s0_2 : Int) (s0_3 : Int) (a1 : Int) : Option (ByteArray × ByteArray × Int × Int × Int) := (pool_Reader_Bad.f s0_0 s0_1 s0_2 s0_3).bind fun bt101 => (if bt101.1 = true then (some ((⟨#[]⟩ : ByteArray), bt101.2.1, bt101.2.2.1, bt101.2.2.2.1, bt101.2.2.2.2)) else (if a1 < 0 then ((pool_Reader_Fail.f bt101.2.1 bt101.2.2.1 bt101.2.2.2.1 bt101.2.2.2.2 1 (bt101.2.1.size : Int)).bind fun bt106 => (some ((⟨#[]⟩ : ByteArray), bt106.1, bt106.2.1, bt106.2.2.1, bt106.2.2.2))) else ((pool_Reader_Left.f bt101.2.1 bt101.2.2.1 bt101.2.2.2.1 bt101.2.2.2.2).bind fun bt110 => (if a1 > bt110.1 then ((pool_Reader_Fail.f bt110.2.1 bt110.2.2.1 bt110.2.2.2.1 bt110.2.2.2.2 1 (bt110.2.1.size : Int)).bind fun bt115 => (some ((⟨#[]⟩ : ByteArray), bt115.1, bt115.2.1, bt115.2.2.1, bt115.2.2.2))) else (if 0 ≤ bt110.2.2.1 then (if bt110.2.2.1 ≤ (wrap64 (bt110.2.2.1 + a1)) then (if (wrap64 (bt110.2.2.1 + a1)) ≤ (bt110.2.1.size : Int) then (some (bt110.2.1.extract (bt110.2.2.1 : Int).toNat ((wrap64 (bt110.2.2.1 + a1)) : Int).toNat, bt110.2.1, wrap64 (bt110.2.2.1 + a1), bt110.2.2.2.1, bt110.2.2.2.2)) else (none)) else (none)) else (none))))))
set_option maxHeartbeats 8000000 in
set_option maxRecDepth 100000 in
theorem pool_Reader_Take.calls (g : Nat) (s0_0 : ByteArray) (s0_1 : Int) (s0_2 : Int) (s0_3 : Int) (a1 : Int) (r1 : ByteArray) (r2 : ByteArray) (r3 : Int) (r4 : Int) (r5 : Int) (w0 w : World) (hI : IsS167 w0 w g s0_0 s0_1 s0_2 s0_3) (hB : Below w0.heap.size w0 w) (h : pool_Reader_Take.f s0_0 s0_1 s0_2 s0_3 a1 = some (r1, r2, r3, r4, r5)) :
    Calls Try.prog 113 #[.pointer (some ⟨g, 0, none⟩), .int .i64 a1] w fun e w' => e = .returned (.string r1) ∧ IsS167 w0 w' g r2 r3 r4 r5 ∧ Below w0.heap.size w0 w' ∧ KeepBut w w' g none := by
  have HI0 := Aside0.mk hI
  have HK := Aside0.mk (KeepBut.refl w g none)
  have HL := Aside0.mk hB.size
  clear hI
  have HW0 := Aside0.mk hB.size
  have HB := Aside0.mk hB
  clear hB
  have H : ((pool_Reader_Bad.f s0_0 s0_1 s0_2 s0_3).bind fun bt101 => (if bt101.1 = true then (some ((⟨#[]⟩ : ByteArray), bt101.2.1, bt101.2.2.1, bt101.2.2.2.1, bt101.2.2.2.2)) else (if a1 < 0 then ((pool_Reader_Fail.f bt101.2.1 bt101.2.2.1 bt101.2.2.2.1 bt101.2.2.2.2 1 (bt101.2.1.size : Int)).bind fun bt106 => (some ((⟨#[]⟩ : ByteArray), bt106.1, bt106.2.1, bt106.2.2.1, bt106.2.2.2))) else ((pool_Reader_Left.f bt101.2.1 bt101.2.2.1 bt101.2.2.2.1 bt101.2.2.2.2).bind fun bt110 => (if a1 > bt110.1 then ((pool_Reader_Fail.f bt110.2.1 bt110.2.2.1 bt110.2.2.2.1 bt110.2.2.2.2 1 (bt110.2.1.size : Int)).bind fun bt115 => (some ((⟨#[]⟩ : ByteArray), bt115.1, bt115.2.1, bt115.2.2.1, bt115.2.2.2))) else (if 0 ≤ bt110.2.2.1 then (if bt110.2.2.1 ≤ (wrap64 (bt110.2.2.1 + a1)) then (if (wrap64 (bt110.2.2.1 + a1)) ≤ (bt110.2.1.size : Int) then (some (bt110.2.1.extract (bt110.2.2.1 : Int).toNat ((wrap64 (bt110.2.2.1 + a1)) : Int).toNat, bt110.2.1, wrap64 (bt110.2.2.1 + a1), bt110.2.2.2.1, bt110.2.2.2.2)) else (none)) else (none)) else (none))))))) = some (r1, r2, r3, r4, r5) := h
  clear h
  replace H := Option.bind_eq_some_iff.mp H
  obtain ⟨⟨t101, t102, t103, t104, t105⟩, A30, H⟩ := H
  replace H : (if t101 = true then (some ((⟨#[]⟩ : ByteArray), t102, t103, t104, t105)) else (if a1 < 0 then ((pool_Reader_Fail.f t102 t103 t104 t105 1 (t102.size : Int)).bind fun bt106 => (some ((⟨#[]⟩ : ByteArray), bt106.1, bt106.2.1, bt106.2.2.1, bt106.2.2.2))) else ((pool_Reader_Left.f t102 t103 t104 t105).bind fun bt110 => (if a1 > bt110.1 then ((pool_Reader_Fail.f bt110.2.1 bt110.2.2.1 bt110.2.2.2.1 bt110.2.2.2.2 1 (bt110.2.1.size : Int)).bind fun bt115 => (some ((⟨#[]⟩ : ByteArray), bt115.1, bt115.2.1, bt115.2.2.1, bt115.2.2.2))) else (if 0 ≤ bt110.2.2.1 then (if bt110.2.2.1 ≤ (wrap64 (bt110.2.2.1 + a1)) then (if (wrap64 (bt110.2.2.1 + a1)) ≤ (bt110.2.1.size : Int) then (some (bt110.2.1.extract (bt110.2.2.1 : Int).toNat ((wrap64 (bt110.2.2.1 + a1)) : Int).toNat, bt110.2.1, wrap64 (bt110.2.2.1 + a1), bt110.2.2.2.1, bt110.2.2.2.2)) else (none)) else (none)) else (none)))))) = some (r1, r2, r3, r4, r5) := H
  have A3 := Aside0.mk A30
  clear A30
  by_cases c4 : t101 = true
  · subst c4
    have H1 : (some ((⟨#[]⟩ : ByteArray), t102, t103, t104, t105)) = some (r1, r2, r3, r4, r5) := by rw [if_pos rfl] at H; exact H
    clear H
    have H := H1
    clear H1
    simp only [Option.some.injEq, Prod.mk.injEq] at H
    obtain ⟨rfl, rfl, rfl, rfl, rfl⟩ := H
    go_enter Try.func113, Try.ntmps113
    go_wp2_with (first | (go_at_call 70; (with_reducible refine (pool_Reader_Bad.calls g s0_0 s0_1 s0_2 s0_3 true t102 t103 t104 t105 w0 _ ?side1 ?side2 A3.out).mono ?_); (case side1 => repeat (first | (with_reducible first | exact HI0.out | apply IsS167.alloc | apply IsS167.drewN | apply IsS167.drew | apply IsS167.set_0 | apply IsS167.set_1 | apply IsS167.set_2 | apply IsS167.set_3) | exact HI0.out)); (case side2 => repeat (first | (with_reducible first | exact HB.out | apply below_alloc | apply pw_below_drewN | apply below_drew1 | refine below_set ?_ (IsS167.ge HI0.out)) | exact HB.out)); rintro e w5 ⟨rfl, hi, hb, hk⟩; have n0_ := Aside0.mk (KeepBut.trans (by repeat (first | (with_reducible first | exact HK.out | apply KeepBut.set_ | apply keep_drewN | apply keep_drew | apply keep_alloc) | exact HK.out)) hk (.inl rfl)); have n1_ := Aside0.mk (hb); have n2_ := Aside0.mk (hi); clear HK; clear HB; clear HI0; have HK := n0_; have HB := n1_; have HI0 := n2_; clear n0_ n1_ n2_; (try clear hb); (try clear hb2); (try clear hk); (try clear hi)))
    repeat (go_quiet (first | (go_at_call 70; (with_reducible refine (pool_Reader_Bad.calls g s0_0 s0_1 s0_2 s0_3 true t102 t103 t104 t105 w0 _ ?side1 ?side2 A3.out).mono ?_); (case side1 => repeat (first | (with_reducible first | exact HI0.out | apply IsS167.alloc | apply IsS167.drewN | apply IsS167.drew | apply IsS167.set_0 | apply IsS167.set_1 | apply IsS167.set_2 | apply IsS167.set_3) | exact HI0.out)); (case side2 => repeat (first | (with_reducible first | exact HB.out | apply below_alloc | apply pw_below_drewN | apply below_drew1 | refine below_set ?_ (IsS167.ge HI0.out)) | exact HB.out)); rintro e w5 ⟨rfl, hi, hb, hk⟩; have n0_ := Aside0.mk (KeepBut.trans (by repeat (first | (with_reducible first | exact HK.out | apply KeepBut.set_ | apply keep_drewN | apply keep_drew | apply keep_alloc) | exact HK.out)) hk (.inl rfl)); have n1_ := Aside0.mk (hb); have n2_ := Aside0.mk (hi); clear HK; clear HB; clear HI0; have HK := n0_; have HB := n1_; have HI0 := n2_; clear n0_ n1_ n2_; (try clear hb); (try clear hb2); (try clear hk); (try clear hi))); try go_wp2_with (first | (go_at_call 70; (with_reducible refine (pool_Reader_Bad.calls g s0_0 s0_1 s0_2 s0_3 true t102 t103 t104 t105 w0 _ ?side1 ?side2 A3.out).mono ?_); (case side1 => repeat (first | (with_reducible first | exact HI0.out | apply IsS167.alloc | apply IsS167.drewN | apply IsS167.drew | apply IsS167.set_0 | apply IsS167.set_1 | apply IsS167.set_2 | apply IsS167.set_3) | exact HI0.out)); (case side2 => repeat (first | (with_reducible first | exact HB.out | apply below_alloc | apply pw_below_drewN | apply below_drew1 | refine below_set ?_ (IsS167.ge HI0.out)) | exact HB.out)); rintro e w5 ⟨rfl, hi, hb, hk⟩; have n0_ := Aside0.mk (KeepBut.trans (by repeat (first | (with_reducible first | exact HK.out | apply KeepBut.set_ | apply keep_drewN | apply keep_drew | apply keep_alloc) | exact HK.out)) hk (.inl rfl)); have n1_ := Aside0.mk (hb); have n2_ := Aside0.mk (hi); clear HK; clear HB; clear HI0; have HK := n0_; have HB := n1_; have HI0 := n2_; clear n0_ n1_ n2_; (try clear hb); (try clear hb2); (try clear hk); (try clear hi))))
    go_ret
    exact ⟨by first | rfl | (simp [errW_none, errW_some] <;> rfl) | (simp [*, errW_none, errW_some] <;> rfl), by repeat (first | (with_reducible first | exact HI0.out | apply IsS167.alloc | apply IsS167.drewN | apply IsS167.drew | apply IsS167.set_0 | apply IsS167.set_1 | apply IsS167.set_2 | apply IsS167.set_3) | exact HI0.out), by repeat (first | (with_reducible first | exact HB.out | apply below_alloc | apply pw_below_drewN | apply below_drew1 | refine below_set ?_ (IsS167.ge HI0.out)) | exact HB.out), by repeat (first | (with_reducible first | exact HK.out | apply KeepBut.set_ | apply keep_drewN | apply keep_drew | apply keep_alloc) | exact HK.out)⟩
  · replace c4 := Bool.eq_false_iff.mpr c4
    subst c4
    have H1 : (if a1 < 0 then ((pool_Reader_Fail.f t102 t103 t104 t105 1 (t102.size : Int)).bind fun bt106 => (some ((⟨#[]⟩ : ByteArray), bt106.1, bt106.2.1, bt106.2.2.1, bt106.2.2.2))) else ((pool_Reader_Left.f t102 t103 t104 t105).bind fun bt110 => (if a1 > bt110.1 then ((pool_Reader_Fail.f bt110.2.1 bt110.2.2.1 bt110.2.2.2.1 bt110.2.2.2.2 1 (bt110.2.1.size : Int)).bind fun bt115 => (some ((⟨#[]⟩ : ByteArray), bt115.1, bt115.2.1, bt115.2.2.1, bt115.2.2.2))) else (if 0 ≤ bt110.2.2.1 then (if bt110.2.2.1 ≤ (wrap64 (bt110.2.2.1 + a1)) then (if (wrap64 (bt110.2.2.1 + a1)) ≤ (bt110.2.1.size : Int) then (some (bt110.2.1.extract (bt110.2.2.1 : Int).toNat ((wrap64 (bt110.2.2.1 + a1)) : Int).toNat, bt110.2.1, wrap64 (bt110.2.2.1 + a1), bt110.2.2.2.1, bt110.2.2.2.2)) else (none)) else (none)) else (none))))) = some (r1, r2, r3, r4, r5) := by rw [if_neg (show ¬ (false = true) by decide)] at H; exact H
    clear H
    have H := H1
    clear H1
    by_cases c6 : a1 < 0
    · rw [if_pos c6] at H
      have c6b0 : decide (a1 < 0) = true := decide_eq_true c6
      clear c6
      replace H := Option.bind_eq_some_iff.mp H
      obtain ⟨⟨t106, t107, t108, t109⟩, A70, H⟩ := H
      replace H : (some ((⟨#[]⟩ : ByteArray), t106, t107, t108, t109)) = some (r1, r2, r3, r4, r5) := H
      have A7 := Aside0.mk A70
      clear A70
      simp only [Option.some.injEq, Prod.mk.injEq] at H
      obtain ⟨rfl, rfl, rfl, rfl, rfl⟩ := H
      go_enter Try.func113, Try.ntmps113
      go_wp2_with (first | (go_at_call 70; (with_reducible refine (pool_Reader_Bad.calls g s0_0 s0_1 s0_2 s0_3 false t102 t103 t104 t105 w0 _ ?side1 ?side2 A3.out).mono ?_); (case side1 => repeat (first | (with_reducible first | exact HI0.out | apply IsS167.alloc | apply IsS167.drewN | apply IsS167.drew | apply IsS167.set_0 | apply IsS167.set_1 | apply IsS167.set_2 | apply IsS167.set_3) | exact HI0.out)); (case side2 => repeat (first | (with_reducible first | exact HB.out | apply below_alloc | apply pw_below_drewN | apply below_drew1 | refine below_set ?_ (IsS167.ge HI0.out)) | exact HB.out)); rintro e w8 ⟨rfl, hi, hb, hk⟩; have n0_ := Aside0.mk (KeepBut.trans (by repeat (first | (with_reducible first | exact HK.out | apply KeepBut.set_ | apply keep_drewN | apply keep_drew | apply keep_alloc) | exact HK.out)) hk (.inl rfl)); have n1_ := Aside0.mk (hb); have n2_ := Aside0.mk (hi); clear HK; clear HB; clear HI0; have HK := n0_; have HB := n1_; have HI0 := n2_; clear n0_ n1_ n2_; (try clear hb); (try clear hb2); (try clear hk); (try clear hi); obtain ⟨HGz9, hgz9⟩ := HI0.out; have hcz9_0 := cellS167_0 HGz9; have hcz9_1 := cellS167_1 HGz9; have hcz9_2 := cellS167_2 HGz9; have hcz9_3 := cellS167_3 HGz9; have hfz9_0 := blk_frozen HGz9 0; have hfz9_1 := blk_frozen HGz9 1; have hfz9_2 := blk_frozen HGz9 2; have hfz9_3 := blk_frozen HGz9 3; clear HGz9 hgz9) | (go_at_call 73; (with_reducible refine (pool_Reader_Fail.calls g t102 t103 t104 t105 1 (t102.size : Int) t106 t107 t108 t109 w0 _ ?side1 ?side2 A7.out).mono ?_); (case side1 => repeat (first | (with_reducible first | exact HI0.out | apply IsS167.alloc | apply IsS167.drewN | apply IsS167.drew | apply IsS167.set_0 | apply IsS167.set_1 | apply IsS167.set_2 | apply IsS167.set_3) | exact HI0.out)); (case side2 => repeat (first | (with_reducible first | exact HB.out | apply below_alloc | apply pw_below_drewN | apply below_drew1 | refine below_set ?_ (IsS167.ge HI0.out)) | exact HB.out)); rintro e w10 ⟨rfl, hi, hb, hk⟩; have n0_ := Aside0.mk (KeepBut.trans (by repeat (first | (with_reducible first | exact HK.out | apply KeepBut.set_ | apply keep_drewN | apply keep_drew | apply keep_alloc) | exact HK.out)) hk (.inl rfl)); have n1_ := Aside0.mk (hb); have n2_ := Aside0.mk (hi); clear HK; clear HB; clear HI0; have HK := n0_; have HB := n1_; have HI0 := n2_; clear n0_ n1_ n2_; (try clear hb); (try clear hb2); (try clear hk); (try clear hi)))
      repeat (go_quiet (first | (go_at_call 70; (with_reducible refine (pool_Reader_Bad.calls g s0_0 s0_1 s0_2 s0_3 false t102 t103 t104 t105 w0 _ ?side1 ?side2 A3.out).mono ?_); (case side1 => repeat (first | (with_reducible first | exact HI0.out | apply IsS167.alloc | apply IsS167.drewN | apply IsS167.drew | apply IsS167.set_0 | apply IsS167.set_1 | apply IsS167.set_2 | apply IsS167.set_3) | exact HI0.out)); (case side2 => repeat (first | (with_reducible first | exact HB.out | apply below_alloc | apply pw_below_drewN | apply below_drew1 | refine below_set ?_ (IsS167.ge HI0.out)) | exact HB.out)); rintro e w8 ⟨rfl, hi, hb, hk⟩; have n0_ := Aside0.mk (KeepBut.trans (by repeat (first | (with_reducible first | exact HK.out | apply KeepBut.set_ | apply keep_drewN | apply keep_drew | apply keep_alloc) | exact HK.out)) hk (.inl rfl)); have n1_ := Aside0.mk (hb); have n2_ := Aside0.mk (hi); clear HK; clear HB; clear HI0; have HK := n0_; have HB := n1_; have HI0 := n2_; clear n0_ n1_ n2_; (try clear hb); (try clear hb2); (try clear hk); (try clear hi); obtain ⟨HGz9, hgz9⟩ := HI0.out; have hcz9_0 := cellS167_0 HGz9; have hcz9_1 := cellS167_1 HGz9; have hcz9_2 := cellS167_2 HGz9; have hcz9_3 := cellS167_3 HGz9; have hfz9_0 := blk_frozen HGz9 0; have hfz9_1 := blk_frozen HGz9 1; have hfz9_2 := blk_frozen HGz9 2; have hfz9_3 := blk_frozen HGz9 3; clear HGz9 hgz9) | (go_at_call 73; (with_reducible refine (pool_Reader_Fail.calls g t102 t103 t104 t105 1 (t102.size : Int) t106 t107 t108 t109 w0 _ ?side1 ?side2 A7.out).mono ?_); (case side1 => repeat (first | (with_reducible first | exact HI0.out | apply IsS167.alloc | apply IsS167.drewN | apply IsS167.drew | apply IsS167.set_0 | apply IsS167.set_1 | apply IsS167.set_2 | apply IsS167.set_3) | exact HI0.out)); (case side2 => repeat (first | (with_reducible first | exact HB.out | apply below_alloc | apply pw_below_drewN | apply below_drew1 | refine below_set ?_ (IsS167.ge HI0.out)) | exact HB.out)); rintro e w10 ⟨rfl, hi, hb, hk⟩; have n0_ := Aside0.mk (KeepBut.trans (by repeat (first | (with_reducible first | exact HK.out | apply KeepBut.set_ | apply keep_drewN | apply keep_drew | apply keep_alloc) | exact HK.out)) hk (.inl rfl)); have n1_ := Aside0.mk (hb); have n2_ := Aside0.mk (hi); clear HK; clear HB; clear HI0; have HK := n0_; have HB := n1_; have HI0 := n2_; clear n0_ n1_ n2_; (try clear hb); (try clear hb2); (try clear hk); (try clear hi))); try go_wp2_with (first | (go_at_call 70; (with_reducible refine (pool_Reader_Bad.calls g s0_0 s0_1 s0_2 s0_3 false t102 t103 t104 t105 w0 _ ?side1 ?side2 A3.out).mono ?_); (case side1 => repeat (first | (with_reducible first | exact HI0.out | apply IsS167.alloc | apply IsS167.drewN | apply IsS167.drew | apply IsS167.set_0 | apply IsS167.set_1 | apply IsS167.set_2 | apply IsS167.set_3) | exact HI0.out)); (case side2 => repeat (first | (with_reducible first | exact HB.out | apply below_alloc | apply pw_below_drewN | apply below_drew1 | refine below_set ?_ (IsS167.ge HI0.out)) | exact HB.out)); rintro e w8 ⟨rfl, hi, hb, hk⟩; have n0_ := Aside0.mk (KeepBut.trans (by repeat (first | (with_reducible first | exact HK.out | apply KeepBut.set_ | apply keep_drewN | apply keep_drew | apply keep_alloc) | exact HK.out)) hk (.inl rfl)); have n1_ := Aside0.mk (hb); have n2_ := Aside0.mk (hi); clear HK; clear HB; clear HI0; have HK := n0_; have HB := n1_; have HI0 := n2_; clear n0_ n1_ n2_; (try clear hb); (try clear hb2); (try clear hk); (try clear hi); obtain ⟨HGz9, hgz9⟩ := HI0.out; have hcz9_0 := cellS167_0 HGz9; have hcz9_1 := cellS167_1 HGz9; have hcz9_2 := cellS167_2 HGz9; have hcz9_3 := cellS167_3 HGz9; have hfz9_0 := blk_frozen HGz9 0; have hfz9_1 := blk_frozen HGz9 1; have hfz9_2 := blk_frozen HGz9 2; have hfz9_3 := blk_frozen HGz9 3; clear HGz9 hgz9) | (go_at_call 73; (with_reducible refine (pool_Reader_Fail.calls g t102 t103 t104 t105 1 (t102.size : Int) t106 t107 t108 t109 w0 _ ?side1 ?side2 A7.out).mono ?_); (case side1 => repeat (first | (with_reducible first | exact HI0.out | apply IsS167.alloc | apply IsS167.drewN | apply IsS167.drew | apply IsS167.set_0 | apply IsS167.set_1 | apply IsS167.set_2 | apply IsS167.set_3) | exact HI0.out)); (case side2 => repeat (first | (with_reducible first | exact HB.out | apply below_alloc | apply pw_below_drewN | apply below_drew1 | refine below_set ?_ (IsS167.ge HI0.out)) | exact HB.out)); rintro e w10 ⟨rfl, hi, hb, hk⟩; have n0_ := Aside0.mk (KeepBut.trans (by repeat (first | (with_reducible first | exact HK.out | apply KeepBut.set_ | apply keep_drewN | apply keep_drew | apply keep_alloc) | exact HK.out)) hk (.inl rfl)); have n1_ := Aside0.mk (hb); have n2_ := Aside0.mk (hi); clear HK; clear HB; clear HI0; have HK := n0_; have HB := n1_; have HI0 := n2_; clear n0_ n1_ n2_; (try clear hb); (try clear hb2); (try clear hk); (try clear hi))))
      go_ret
      exact ⟨by first | rfl | (simp [errW_none, errW_some] <;> rfl) | (simp [*, errW_none, errW_some] <;> rfl), by repeat (first | (with_reducible first | exact HI0.out | apply IsS167.alloc | apply IsS167.drewN | apply IsS167.drew | apply IsS167.set_0 | apply IsS167.set_1 | apply IsS167.set_2 | apply IsS167.set_3) | exact HI0.out), by repeat (first | (with_reducible first | exact HB.out | apply below_alloc | apply pw_below_drewN | apply below_drew1 | refine below_set ?_ (IsS167.ge HI0.out)) | exact HB.out), by repeat (first | (with_reducible first | exact HK.out | apply KeepBut.set_ | apply keep_drewN | apply keep_drew | apply keep_alloc) | exact HK.out)⟩
    · rw [if_neg c6] at H
      have c6b0 : decide (a1 < 0) = false := decide_eq_false c6
      clear c6
      replace H := Option.bind_eq_some_iff.mp H
      obtain ⟨⟨t110, t111, t112, t113, t114⟩, A110, H⟩ := H
      replace H : (if a1 > t110 then ((pool_Reader_Fail.f t111 t112 t113 t114 1 (t111.size : Int)).bind fun bt115 => (some ((⟨#[]⟩ : ByteArray), bt115.1, bt115.2.1, bt115.2.2.1, bt115.2.2.2))) else (if 0 ≤ t112 then (if t112 ≤ (wrap64 (t112 + a1)) then (if (wrap64 (t112 + a1)) ≤ (t111.size : Int) then (some (t111.extract (t112 : Int).toNat ((wrap64 (t112 + a1)) : Int).toNat, t111, wrap64 (t112 + a1), t113, t114)) else (none)) else (none)) else (none))) = some (r1, r2, r3, r4, r5) := H
      have A11 := Aside0.mk A110
      clear A110
      by_cases c12 : a1 > t110
      · rw [if_pos c12] at H
        have c12b0 : decide (t110 < a1) = true := decide_eq_true c12
        clear c12
        replace H := Option.bind_eq_some_iff.mp H
        obtain ⟨⟨t115, t116, t117, t118⟩, A130, H⟩ := H
        replace H : (some ((⟨#[]⟩ : ByteArray), t115, t116, t117, t118)) = some (r1, r2, r3, r4, r5) := H
        have A13 := Aside0.mk A130
        clear A130
        simp only [Option.some.injEq, Prod.mk.injEq] at H
        obtain ⟨rfl, rfl, rfl, rfl, rfl⟩ := H
        go_enter Try.func113, Try.ntmps113
        go_wp2_with (first | (go_at_call 70; (with_reducible refine (pool_Reader_Bad.calls g s0_0 s0_1 s0_2 s0_3 false t102 t103 t104 t105 w0 _ ?side1 ?side2 A3.out).mono ?_); (case side1 => repeat (first | (with_reducible first | exact HI0.out | apply IsS167.alloc | apply IsS167.drewN | apply IsS167.drew | apply IsS167.set_0 | apply IsS167.set_1 | apply IsS167.set_2 | apply IsS167.set_3) | exact HI0.out)); (case side2 => repeat (first | (with_reducible first | exact HB.out | apply below_alloc | apply pw_below_drewN | apply below_drew1 | refine below_set ?_ (IsS167.ge HI0.out)) | exact HB.out)); rintro e w14 ⟨rfl, hi, hb, hk⟩; have n0_ := Aside0.mk (KeepBut.trans (by repeat (first | (with_reducible first | exact HK.out | apply KeepBut.set_ | apply keep_drewN | apply keep_drew | apply keep_alloc) | exact HK.out)) hk (.inl rfl)); have n1_ := Aside0.mk (hb); have n2_ := Aside0.mk (hi); clear HK; clear HB; clear HI0; have HK := n0_; have HB := n1_; have HI0 := n2_; clear n0_ n1_ n2_; (try clear hb); (try clear hb2); (try clear hk); (try clear hi)) | (go_at_call 72; (with_reducible refine (pool_Reader_Left.calls g t102 t103 t104 t105 t110 t111 t112 t113 t114 w0 _ ?side1 ?side2 A11.out).mono ?_); (case side1 => repeat (first | (with_reducible first | exact HI0.out | apply IsS167.alloc | apply IsS167.drewN | apply IsS167.drew | apply IsS167.set_0 | apply IsS167.set_1 | apply IsS167.set_2 | apply IsS167.set_3) | exact HI0.out)); (case side2 => repeat (first | (with_reducible first | exact HB.out | apply below_alloc | apply pw_below_drewN | apply below_drew1 | refine below_set ?_ (IsS167.ge HI0.out)) | exact HB.out)); rintro e w15 ⟨rfl, hi, hb, hk⟩; have n0_ := Aside0.mk (KeepBut.trans (by repeat (first | (with_reducible first | exact HK.out | apply KeepBut.set_ | apply keep_drewN | apply keep_drew | apply keep_alloc) | exact HK.out)) hk (.inl rfl)); have n1_ := Aside0.mk (hb); have n2_ := Aside0.mk (hi); clear HK; clear HB; clear HI0; have HK := n0_; have HB := n1_; have HI0 := n2_; clear n0_ n1_ n2_; (try clear hb); (try clear hb2); (try clear hk); (try clear hi); obtain ⟨HGz16, hgz16⟩ := HI0.out; have hcz16_0 := cellS167_0 HGz16; have hcz16_1 := cellS167_1 HGz16; have hcz16_2 := cellS167_2 HGz16; have hcz16_3 := cellS167_3 HGz16; have hfz16_0 := blk_frozen HGz16 0; have hfz16_1 := blk_frozen HGz16 1; have hfz16_2 := blk_frozen HGz16 2; have hfz16_3 := blk_frozen HGz16 3; clear HGz16 hgz16) | (go_at_call 73; (with_reducible refine (pool_Reader_Fail.calls g t111 t112 t113 t114 1 (t111.size : Int) t115 t116 t117 t118 w0 _ ?side1 ?side2 A13.out).mono ?_); (case side1 => repeat (first | (with_reducible first | exact HI0.out | apply IsS167.alloc | apply IsS167.drewN | apply IsS167.drew | apply IsS167.set_0 | apply IsS167.set_1 | apply IsS167.set_2 | apply IsS167.set_3) | exact HI0.out)); (case side2 => repeat (first | (with_reducible first | exact HB.out | apply below_alloc | apply pw_below_drewN | apply below_drew1 | refine below_set ?_ (IsS167.ge HI0.out)) | exact HB.out)); rintro e w17 ⟨rfl, hi, hb, hk⟩; have n0_ := Aside0.mk (KeepBut.trans (by repeat (first | (with_reducible first | exact HK.out | apply KeepBut.set_ | apply keep_drewN | apply keep_drew | apply keep_alloc) | exact HK.out)) hk (.inl rfl)); have n1_ := Aside0.mk (hb); have n2_ := Aside0.mk (hi); clear HK; clear HB; clear HI0; have HK := n0_; have HB := n1_; have HI0 := n2_; clear n0_ n1_ n2_; (try clear hb); (try clear hb2); (try clear hk); (try clear hi)))
        repeat (go_quiet (first | (go_at_call 70; (with_reducible refine (pool_Reader_Bad.calls g s0_0 s0_1 s0_2 s0_3 false t102 t103 t104 t105 w0 _ ?side1 ?side2 A3.out).mono ?_); (case side1 => repeat (first | (with_reducible first | exact HI0.out | apply IsS167.alloc | apply IsS167.drewN | apply IsS167.drew | apply IsS167.set_0 | apply IsS167.set_1 | apply IsS167.set_2 | apply IsS167.set_3) | exact HI0.out)); (case side2 => repeat (first | (with_reducible first | exact HB.out | apply below_alloc | apply pw_below_drewN | apply below_drew1 | refine below_set ?_ (IsS167.ge HI0.out)) | exact HB.out)); rintro e w14 ⟨rfl, hi, hb, hk⟩; have n0_ := Aside0.mk (KeepBut.trans (by repeat (first | (with_reducible first | exact HK.out | apply KeepBut.set_ | apply keep_drewN | apply keep_drew | apply keep_alloc) | exact HK.out)) hk (.inl rfl)); have n1_ := Aside0.mk (hb); have n2_ := Aside0.mk (hi); clear HK; clear HB; clear HI0; have HK := n0_; have HB := n1_; have HI0 := n2_; clear n0_ n1_ n2_; (try clear hb); (try clear hb2); (try clear hk); (try clear hi)) | (go_at_call 72; (with_reducible refine (pool_Reader_Left.calls g t102 t103 t104 t105 t110 t111 t112 t113 t114 w0 _ ?side1 ?side2 A11.out).mono ?_); (case side1 => repeat (first | (with_reducible first | exact HI0.out | apply IsS167.alloc | apply IsS167.drewN | apply IsS167.drew | apply IsS167.set_0 | apply IsS167.set_1 | apply IsS167.set_2 | apply IsS167.set_3) | exact HI0.out)); (case side2 => repeat (first | (with_reducible first | exact HB.out | apply below_alloc | apply pw_below_drewN | apply below_drew1 | refine below_set ?_ (IsS167.ge HI0.out)) | exact HB.out)); rintro e w15 ⟨rfl, hi, hb, hk⟩; have n0_ := Aside0.mk (KeepBut.trans (by repeat (first | (with_reducible first | exact HK.out | apply KeepBut.set_ | apply keep_drewN | apply keep_drew | apply keep_alloc) | exact HK.out)) hk (.inl rfl)); have n1_ := Aside0.mk (hb); have n2_ := Aside0.mk (hi); clear HK; clear HB; clear HI0; have HK := n0_; have HB := n1_; have HI0 := n2_; clear n0_ n1_ n2_; (try clear hb); (try clear hb2); (try clear hk); (try clear hi); obtain ⟨HGz16, hgz16⟩ := HI0.out; have hcz16_0 := cellS167_0 HGz16; have hcz16_1 := cellS167_1 HGz16; have hcz16_2 := cellS167_2 HGz16; have hcz16_3 := cellS167_3 HGz16; have hfz16_0 := blk_frozen HGz16 0; have hfz16_1 := blk_frozen HGz16 1; have hfz16_2 := blk_frozen HGz16 2; have hfz16_3 := blk_frozen HGz16 3; clear HGz16 hgz16) | (go_at_call 73; (with_reducible refine (pool_Reader_Fail.calls g t111 t112 t113 t114 1 (t111.size : Int) t115 t116 t117 t118 w0 _ ?side1 ?side2 A13.out).mono ?_); (case side1 => repeat (first | (with_reducible first | exact HI0.out | apply IsS167.alloc | apply IsS167.drewN | apply IsS167.drew | apply IsS167.set_0 | apply IsS167.set_1 | apply IsS167.set_2 | apply IsS167.set_3) | exact HI0.out)); (case side2 => repeat (first | (with_reducible first | exact HB.out | apply below_alloc | apply pw_below_drewN | apply below_drew1 | refine below_set ?_ (IsS167.ge HI0.out)) | exact HB.out)); rintro e w17 ⟨rfl, hi, hb, hk⟩; have n0_ := Aside0.mk (KeepBut.trans (by repeat (first | (with_reducible first | exact HK.out | apply KeepBut.set_ | apply keep_drewN | apply keep_drew | apply keep_alloc) | exact HK.out)) hk (.inl rfl)); have n1_ := Aside0.mk (hb); have n2_ := Aside0.mk (hi); clear HK; clear HB; clear HI0; have HK := n0_; have HB := n1_; have HI0 := n2_; clear n0_ n1_ n2_; (try clear hb); (try clear hb2); (try clear hk); (try clear hi))); try go_wp2_with (first | (go_at_call 70; (with_reducible refine (pool_Reader_Bad.calls g s0_0 s0_1 s0_2 s0_3 false t102 t103 t104 t105 w0 _ ?side1 ?side2 A3.out).mono ?_); (case side1 => repeat (first | (with_reducible first | exact HI0.out | apply IsS167.alloc | apply IsS167.drewN | apply IsS167.drew | apply IsS167.set_0 | apply IsS167.set_1 | apply IsS167.set_2 | apply IsS167.set_3) | exact HI0.out)); (case side2 => repeat (first | (with_reducible first | exact HB.out | apply below_alloc | apply pw_below_drewN | apply below_drew1 | refine below_set ?_ (IsS167.ge HI0.out)) | exact HB.out)); rintro e w14 ⟨rfl, hi, hb, hk⟩; have n0_ := Aside0.mk (KeepBut.trans (by repeat (first | (with_reducible first | exact HK.out | apply KeepBut.set_ | apply keep_drewN | apply keep_drew | apply keep_alloc) | exact HK.out)) hk (.inl rfl)); have n1_ := Aside0.mk (hb); have n2_ := Aside0.mk (hi); clear HK; clear HB; clear HI0; have HK := n0_; have HB := n1_; have HI0 := n2_; clear n0_ n1_ n2_; (try clear hb); (try clear hb2); (try clear hk); (try clear hi)) | (go_at_call 72; (with_reducible refine (pool_Reader_Left.calls g t102 t103 t104 t105 t110 t111 t112 t113 t114 w0 _ ?side1 ?side2 A11.out).mono ?_); (case side1 => repeat (first | (with_reducible first | exact HI0.out | apply IsS167.alloc | apply IsS167.drewN | apply IsS167.drew | apply IsS167.set_0 | apply IsS167.set_1 | apply IsS167.set_2 | apply IsS167.set_3) | exact HI0.out)); (case side2 => repeat (first | (with_reducible first | exact HB.out | apply below_alloc | apply pw_below_drewN | apply below_drew1 | refine below_set ?_ (IsS167.ge HI0.out)) | exact HB.out)); rintro e w15 ⟨rfl, hi, hb, hk⟩; have n0_ := Aside0.mk (KeepBut.trans (by repeat (first | (with_reducible first | exact HK.out | apply KeepBut.set_ | apply keep_drewN | apply keep_drew | apply keep_alloc) | exact HK.out)) hk (.inl rfl)); have n1_ := Aside0.mk (hb); have n2_ := Aside0.mk (hi); clear HK; clear HB; clear HI0; have HK := n0_; have HB := n1_; have HI0 := n2_; clear n0_ n1_ n2_; (try clear hb); (try clear hb2); (try clear hk); (try clear hi); obtain ⟨HGz16, hgz16⟩ := HI0.out; have hcz16_0 := cellS167_0 HGz16; have hcz16_1 := cellS167_1 HGz16; have hcz16_2 := cellS167_2 HGz16; have hcz16_3 := cellS167_3 HGz16; have hfz16_0 := blk_frozen HGz16 0; have hfz16_1 := blk_frozen HGz16 1; have hfz16_2 := blk_frozen HGz16 2; have hfz16_3 := blk_frozen HGz16 3; clear HGz16 hgz16) | (go_at_call 73; (with_reducible refine (pool_Reader_Fail.calls g t111 t112 t113 t114 1 (t111.size : Int) t115 t116 t117 t118 w0 _ ?side1 ?side2 A13.out).mono ?_); (case side1 => repeat (first | (with_reducible first | exact HI0.out | apply IsS167.alloc | apply IsS167.drewN | apply IsS167.drew | apply IsS167.set_0 | apply IsS167.set_1 | apply IsS167.set_2 | apply IsS167.set_3) | exact HI0.out)); (case side2 => repeat (first | (with_reducible first | exact HB.out | apply below_alloc | apply pw_below_drewN | apply below_drew1 | refine below_set ?_ (IsS167.ge HI0.out)) | exact HB.out)); rintro e w17 ⟨rfl, hi, hb, hk⟩; have n0_ := Aside0.mk (KeepBut.trans (by repeat (first | (with_reducible first | exact HK.out | apply KeepBut.set_ | apply keep_drewN | apply keep_drew | apply keep_alloc) | exact HK.out)) hk (.inl rfl)); have n1_ := Aside0.mk (hb); have n2_ := Aside0.mk (hi); clear HK; clear HB; clear HI0; have HK := n0_; have HB := n1_; have HI0 := n2_; clear n0_ n1_ n2_; (try clear hb); (try clear hb2); (try clear hk); (try clear hi))))
        go_ret
        exact ⟨by first | rfl | (simp [errW_none, errW_some] <;> rfl) | (simp [*, errW_none, errW_some] <;> rfl), by repeat (first | (with_reducible first | exact HI0.out | apply IsS167.alloc | apply IsS167.drewN | apply IsS167.drew | apply IsS167.set_0 | apply IsS167.set_1 | apply IsS167.set_2 | apply IsS167.set_3) | exact HI0.out), by repeat (first | (with_reducible first | exact HB.out | apply below_alloc | apply pw_below_drewN | apply below_drew1 | refine below_set ?_ (IsS167.ge HI0.out)) | exact HB.out), by repeat (first | (with_reducible first | exact HK.out | apply KeepBut.set_ | apply keep_drewN | apply keep_drew | apply keep_alloc) | exact HK.out)⟩
      · rw [if_neg c12] at H
        have c12b0 : decide (t110 < a1) = false := decide_eq_false c12
        clear c12
        by_cases c18 : 0 ≤ t112
        · rw [if_pos c18] at H
          have c18b0 := eq_true c18
          have c18b1 : decide (0 ≤ t112) = true := decide_eq_true c18
          clear c18
          by_cases c19 : t112 ≤ (wrap64 (t112 + a1))
          · rw [if_pos c19] at H
            have c19b0 := eq_true c19
            have c19b1 : decide (t112 ≤ (wrap64 (t112 + a1))) = true := decide_eq_true c19
            by_cases c20 : (wrap64 (t112 + a1)) ≤ (t111.size : Int)
            · rw [if_pos c20] at H
              have c20b0 := eq_true c20
              have c20b1 : decide ((wrap64 (t112 + a1)) ≤ (t111.size : Int)) = true := decide_eq_true c20
              simp only [Option.some.injEq, Prod.mk.injEq] at H
              obtain ⟨rfl, rfl, rfl, rfl, rfl⟩ := H
              go_enter Try.func113, Try.ntmps113
              go_wp2_with (first | (go_at_call 70; (with_reducible refine (pool_Reader_Bad.calls g s0_0 s0_1 s0_2 s0_3 false t102 t103 t104 t105 w0 _ ?side1 ?side2 A3.out).mono ?_); (case side1 => repeat (first | (with_reducible first | exact HI0.out | apply IsS167.alloc | apply IsS167.drewN | apply IsS167.drew | apply IsS167.set_0 | apply IsS167.set_1 | apply IsS167.set_2 | apply IsS167.set_3) | exact HI0.out)); (case side2 => repeat (first | (with_reducible first | exact HB.out | apply below_alloc | apply pw_below_drewN | apply below_drew1 | refine below_set ?_ (IsS167.ge HI0.out)) | exact HB.out)); rintro e w21 ⟨rfl, hi, hb, hk⟩; have n0_ := Aside0.mk (KeepBut.trans (by repeat (first | (with_reducible first | exact HK.out | apply KeepBut.set_ | apply keep_drewN | apply keep_drew | apply keep_alloc) | exact HK.out)) hk (.inl rfl)); have n1_ := Aside0.mk (hb); have n2_ := Aside0.mk (hi); clear HK; clear HB; clear HI0; have HK := n0_; have HB := n1_; have HI0 := n2_; clear n0_ n1_ n2_; (try clear hb); (try clear hb2); (try clear hk); (try clear hi)) | (go_at_call 72; (with_reducible refine (pool_Reader_Left.calls g t102 t103 t104 t105 t110 t111 t112 t113 t114 w0 _ ?side1 ?side2 A11.out).mono ?_); (case side1 => repeat (first | (with_reducible first | exact HI0.out | apply IsS167.alloc | apply IsS167.drewN | apply IsS167.drew | apply IsS167.set_0 | apply IsS167.set_1 | apply IsS167.set_2 | apply IsS167.set_3) | exact HI0.out)); (case side2 => repeat (first | (with_reducible first | exact HB.out | apply below_alloc | apply pw_below_drewN | apply below_drew1 | refine below_set ?_ (IsS167.ge HI0.out)) | exact HB.out)); rintro e w22 ⟨rfl, hi, hb, hk⟩; have n0_ := Aside0.mk (KeepBut.trans (by repeat (first | (with_reducible first | exact HK.out | apply KeepBut.set_ | apply keep_drewN | apply keep_drew | apply keep_alloc) | exact HK.out)) hk (.inl rfl)); have n1_ := Aside0.mk (hb); have n2_ := Aside0.mk (hi); clear HK; clear HB; clear HI0; have HK := n0_; have HB := n1_; have HI0 := n2_; clear n0_ n1_ n2_; (try clear hb); (try clear hb2); (try clear hk); (try clear hi); obtain ⟨HGz23, hgz23⟩ := HI0.out; have hcz23_0 := cellS167_0 HGz23; have hcz23_1 := cellS167_1 HGz23; have hcz23_2 := cellS167_2 HGz23; have hcz23_3 := cellS167_3 HGz23; have hfz23_0 := blk_frozen HGz23 0; have hfz23_1 := blk_frozen HGz23 1; have hfz23_2 := blk_frozen HGz23 2; have hfz23_3 := blk_frozen HGz23 3; clear HGz23 hgz23))
              repeat (go_quiet (first | (go_at_call 70; (with_reducible refine (pool_Reader_Bad.calls g s0_0 s0_1 s0_2 s0_3 false t102 t103 t104 t105 w0 _ ?side1 ?side2 A3.out).mono ?_); (case side1 => repeat (first | (with_reducible first | exact HI0.out | apply IsS167.alloc | apply IsS167.drewN | apply IsS167.drew | apply IsS167.set_0 | apply IsS167.set_1 | apply IsS167.set_2 | apply IsS167.set_3) | exact HI0.out)); (case side2 => repeat (first | (with_reducible first | exact HB.out | apply below_alloc | apply pw_below_drewN | apply below_drew1 | refine below_set ?_ (IsS167.ge HI0.out)) | exact HB.out)); rintro e w21 ⟨rfl, hi, hb, hk⟩; have n0_ := Aside0.mk (KeepBut.trans (by repeat (first | (with_reducible first | exact HK.out | apply KeepBut.set_ | apply keep_drewN | apply keep_drew | apply keep_alloc) | exact HK.out)) hk (.inl rfl)); have n1_ := Aside0.mk (hb); have n2_ := Aside0.mk (hi); clear HK; clear HB; clear HI0; have HK := n0_; have HB := n1_; have HI0 := n2_; clear n0_ n1_ n2_; (try clear hb); (try clear hb2); (try clear hk); (try clear hi)) | (go_at_call 72; (with_reducible refine (pool_Reader_Left.calls g t102 t103 t104 t105 t110 t111 t112 t113 t114 w0 _ ?side1 ?side2 A11.out).mono ?_); (case side1 => repeat (first | (with_reducible first | exact HI0.out | apply IsS167.alloc | apply IsS167.drewN | apply IsS167.drew | apply IsS167.set_0 | apply IsS167.set_1 | apply IsS167.set_2 | apply IsS167.set_3) | exact HI0.out)); (case side2 => repeat (first | (with_reducible first | exact HB.out | apply below_alloc | apply pw_below_drewN | apply below_drew1 | refine below_set ?_ (IsS167.ge HI0.out)) | exact HB.out)); rintro e w22 ⟨rfl, hi, hb, hk⟩; have n0_ := Aside0.mk (KeepBut.trans (by repeat (first | (with_reducible first | exact HK.out | apply KeepBut.set_ | apply keep_drewN | apply keep_drew | apply keep_alloc) | exact HK.out)) hk (.inl rfl)); have n1_ := Aside0.mk (hb); have n2_ := Aside0.mk (hi); clear HK; clear HB; clear HI0; have HK := n0_; have HB := n1_; have HI0 := n2_; clear n0_ n1_ n2_; (try clear hb); (try clear hb2); (try clear hk); (try clear hi); obtain ⟨HGz23, hgz23⟩ := HI0.out; have hcz23_0 := cellS167_0 HGz23; have hcz23_1 := cellS167_1 HGz23; have hcz23_2 := cellS167_2 HGz23; have hcz23_3 := cellS167_3 HGz23; have hfz23_0 := blk_frozen HGz23 0; have hfz23_1 := blk_frozen HGz23 1; have hfz23_2 := blk_frozen HGz23 2; have hfz23_3 := blk_frozen HGz23 3; clear HGz23 hgz23)); try go_wp2_with (first | (go_at_call 70; (with_reducible refine (pool_Reader_Bad.calls g s0_0 s0_1 s0_2 s0_3 false t102 t103 t104 t105 w0 _ ?side1 ?side2 A3.out).mono ?_); (case side1 => repeat (first | (with_reducible first | exact HI0.out | apply IsS167.alloc | apply IsS167.drewN | apply IsS167.drew | apply IsS167.set_0 | apply IsS167.set_1 | apply IsS167.set_2 | apply IsS167.set_3) | exact HI0.out)); (case side2 => repeat (first | (with_reducible first | exact HB.out | apply below_alloc | apply pw_below_drewN | apply below_drew1 | refine below_set ?_ (IsS167.ge HI0.out)) | exact HB.out)); rintro e w21 ⟨rfl, hi, hb, hk⟩; have n0_ := Aside0.mk (KeepBut.trans (by repeat (first | (with_reducible first | exact HK.out | apply KeepBut.set_ | apply keep_drewN | apply keep_drew | apply keep_alloc) | exact HK.out)) hk (.inl rfl)); have n1_ := Aside0.mk (hb); have n2_ := Aside0.mk (hi); clear HK; clear HB; clear HI0; have HK := n0_; have HB := n1_; have HI0 := n2_; clear n0_ n1_ n2_; (try clear hb); (try clear hb2); (try clear hk); (try clear hi)) | (go_at_call 72; (with_reducible refine (pool_Reader_Left.calls g t102 t103 t104 t105 t110 t111 t112 t113 t114 w0 _ ?side1 ?side2 A11.out).mono ?_); (case side1 => repeat (first | (with_reducible first | exact HI0.out | apply IsS167.alloc | apply IsS167.drewN | apply IsS167.drew | apply IsS167.set_0 | apply IsS167.set_1 | apply IsS167.set_2 | apply IsS167.set_3) | exact HI0.out)); (case side2 => repeat (first | (with_reducible first | exact HB.out | apply below_alloc | apply pw_below_drewN | apply below_drew1 | refine below_set ?_ (IsS167.ge HI0.out)) | exact HB.out)); rintro e w22 ⟨rfl, hi, hb, hk⟩; have n0_ := Aside0.mk (KeepBut.trans (by repeat (first | (with_reducible first | exact HK.out | apply KeepBut.set_ | apply keep_drewN | apply keep_drew | apply keep_alloc) | exact HK.out)) hk (.inl rfl)); have n1_ := Aside0.mk (hb); have n2_ := Aside0.mk (hi); clear HK; clear HB; clear HI0; have HK := n0_; have HB := n1_; have HI0 := n2_; clear n0_ n1_ n2_; (try clear hb); (try clear hb2); (try clear hk); (try clear hi); obtain ⟨HGz23, hgz23⟩ := HI0.out; have hcz23_0 := cellS167_0 HGz23; have hcz23_1 := cellS167_1 HGz23; have hcz23_2 := cellS167_2 HGz23; have hcz23_3 := cellS167_3 HGz23; have hfz23_0 := blk_frozen HGz23 0; have hfz23_1 := blk_frozen HGz23 1; have hfz23_2 := blk_frozen HGz23 2; have hfz23_3 := blk_frozen HGz23 3; clear HGz23 hgz23)))
              go_ret
              exact ⟨by first | rfl | (simp [errW_none, errW_some] <;> rfl) | (simp [*, errW_none, errW_some] <;> rfl), by repeat (first | (with_reducible first | exact HI0.out | apply IsS167.alloc | apply IsS167.drewN | apply IsS167.drew | apply IsS167.set_0 | apply IsS167.set_1 | apply IsS167.set_2 | apply IsS167.set_3) | exact HI0.out), by repeat (first | (with_reducible first | exact HB.out | apply below_alloc | apply pw_below_drewN | apply below_drew1 | refine below_set ?_ (IsS167.ge HI0.out)) | exact HB.out), by repeat (first | (with_reducible first | exact HK.out | apply KeepBut.set_ | apply keep_drewN | apply keep_drew | apply keep_alloc) | exact HK.out)⟩
            · rw [if_neg c20] at H
              exact absurd H (by simp)
          · rw [if_neg c19] at H
            exact absurd H (by simp)
        · rw [if_neg c18] at H
          exact absurd H (by simp)
end Go.Proofs.Ytfnjbmpolggdeaa.CD
end
section
namespace Go.Proofs.Ytfnjbmpolggdeaa
open Go.RowKit
set_option linter.unusedVariables false
set_option linter.unusedSimpArgs false
def bs (s : ByteArray) : List Nat := s.data.toList.map UInt8.toNat
theorem bs_length (s : ByteArray) : (bs s).length = s.size := by simp [bs]
theorem bs_lt (s : ByteArray) : ∀ x ∈ bs s, x < 256 := by
  intro x hx; simp only [bs, List.mem_map] at hx; obtain ⟨c, _, rfl⟩ := hx; exact c.toNat_lt
def u8s (l : List Nat) : List Value := l.map fun x : Nat => Value.int .u8 (x : Int)
theorem u8s_length (a : List Nat) : (u8s a).length = a.length := by simp [u8s]
end Go.Proofs.Ytfnjbmpolggdeaa
end
section
namespace Go.Proofs.Ytfnjbmpolggdeaa
open Go.RowKit
set_option linter.unusedVariables false
set_option linter.unusedSimpArgs false
def Rd (B : Nat) (w : World) (v : Value) (n : Nat) (xs : List Value) : Prop :=
  ∃ a c, v = .slice a n c ∧ (xs = [] ∨ ∃ b o, a = some ⟨b, o, none⟩ ∧ b < B ∧ ∀ j u, xs[j]? = some u → w.cell? ⟨b, o + j, none⟩ = some u)
theorem Rd.below {B B' : Nat} {w w' : World} {v n xs} (h : Rd B w v n xs) (hb : Below B' w w') (hB : B ≤ B') : Rd B w' v n xs := by
  obtain ⟨a, c, hv, h⟩ := h
  refine ⟨a, c, hv, ?_⟩
  rcases h with h | ⟨b, o, ha, hlt, hc⟩
  · exact .inl h
  · exact .inr ⟨b, o, ha, hlt, fun j u hj => by rw [hb.cell (by simpa using by omega)]; exact hc j u hj⟩
theorem Rd.mono {B B' : Nat} {w : World} {v n xs} (h : Rd B w v n xs) (hB : B ≤ B') : Rd B' w v n xs := by
  obtain ⟨a, c, hv, h⟩ := h
  refine ⟨a, c, hv, ?_⟩
  rcases h with h | ⟨b, o, ha, hlt, hc⟩
  · exact .inl h
  · exact .inr ⟨b, o, ha, by omega, hc⟩
theorem Rd.own {w : World} {base e size n} {v : Value} {xs : List Value} (h : w.ownsRow base e size v n xs) : Rd w.heap.size w v n xs := by
  rcases h.2 with ⟨rfl, rfl⟩ | ⟨g, cap, cur, rfl, hb, hg, _⟩
  · exact ⟨none, 0, rfl, .inl (List.eq_nil_of_length_eq_zero (by have := h.1; omega))⟩
  · refine ⟨_, cap, rfl, .inr ⟨g, 0, rfl, (Array.getElem?_eq_some_iff.1 hg).1, fun j u hj => ?_⟩⟩
    have := h.cells (g := g) rfl j u hj
    have ha : (⟨g, 0, none⟩ : Addr).add j = ⟨g, 0 + j, none⟩ := by unfold Addr.add; split <;> simp_all
    rwa [ha] at this
theorem Rd.nil {B : Nat} {w : World} : Rd B w (.slice none 0 0) 0 [] := ⟨none, 0, rfl, .inl rfl⟩
theorem grown_below {w w' : World} (hb : Below w.heap.size w w') (row : Option Nat) : w.grownBy w' row := ⟨hb.os, hb.tape, hb.output, hb.size, fun k hk _ => hb.block k hk⟩
end Go.Proofs.Ytfnjbmpolggdeaa
end
section
namespace Go.Proofs.Ytfnjbmpolggdeaa
open Go.RowKit Go.Lib
set_option linter.unusedVariables false
set_option linter.unusedSimpArgs false
def mrow (w : World) (base : Nat) (e : TypeId) (v : Value) (n : Nat) (xs : List Value) : Prop :=
  xs.length = n ∧ ((v = .slice none 0 0 ∧ n = 0) ∨
    ∃ g cap cur fr, v = .slice (some ⟨g, 0, none⟩) n cap ∧ base ≤ g ∧ w.heap[g]? = some (.cells cur e fr) ∧ n ≤ cap ∧ cap ≤ maxLen ∧ cur.size = cap ∧ cur.toList.take n = xs ∧ (fr.2 ≤ fr.1 ∨ cap ≤ fr.1))
theorem mrow.nil (w : World) (base : Nat) (e : TypeId) : mrow w base e (.slice none 0 0) 0 [] := ⟨rfl, .inl ⟨rfl, rfl⟩⟩
theorem mrow.mono {w : World} {base base' e n} {v : Value} {xs : List Value} (h : mrow w base e v n xs) (hb : base' ≤ base) : mrow w base' e v n xs := by
  refine ⟨h.1, ?_⟩
  rcases h.2 with h2 | ⟨g, cap, cur, fr, hv, hbg, r⟩
  · exact .inl h2
  · exact .inr ⟨g, cap, cur, fr, hv, Nat.le_trans hb hbg, r⟩
theorem mrow.kept {w w' : World} {row : Option Nat} {base e n} {v : Value} {xs : List Value} (h : mrow w base e v n xs) (hg : w.grownBy w' row) (hne : v.ownBlock = none ∨ v.ownBlock ≠ row) : mrow w' base e v n xs := by
  refine ⟨h.1, ?_⟩
  rcases h.2 with hn | ⟨g, cap, cur, fr, rfl, hb, hgg, rest⟩
  · exact .inl hn
  · refine .inr ⟨g, cap, cur, fr, rfl, hb, ?_, rest⟩
    rw [hg.block g (Array.getElem?_eq_some_iff.1 hgg).1 (by simpa [Value.ownBlock] using hne)]
    exact hgg
theorem mrow.below {w w' : World} {base e n} {v : Value} {xs : List Value} (h : mrow w base e v n xs) (hb : Below w.heap.size w w') : mrow w' base e v n xs :=
  h.kept (grown_below hb none) (by cases v.ownBlock <;> simp)
theorem mrow.rd {w : World} {base e n} {v : Value} {xs : List Value} (h : mrow w base e v n xs) : Rd w.heap.size w v n xs := by
  rcases h.2 with ⟨rfl, rfl⟩ | ⟨g, cap, cur, fr, rfl, hb, hg, _, _, _, ht, _⟩
  · exact ⟨none, 0, rfl, .inl (List.eq_nil_of_length_eq_zero h.1)⟩
  · refine ⟨_, cap, rfl, .inr ⟨g, 0, rfl, (Array.getElem?_eq_some_iff.1 hg).1, fun j u hj => ?_⟩⟩
    rw [← ht, List.getElem?_take] at hj
    split at hj
    · rw [Nat.zero_add, cell_of_row w g j cur e fr hg]; simpa using hj
    · cases hj
end Go.Proofs.Ytfnjbmpolggdeaa
end
section
namespace Go.Proofs.Ytfnjbmpolggdeaa
open Go.RowKit Go.Lib
set_option linter.unusedVariables false
set_option linter.unusedSimpArgs false
def bigB (x : Nat) : Nat → List Nat
  | 0 => []
  | n + 1 => bigB (x / 256) n ++ [x % 256]
theorem strCells_bs (s : ByteArray) : strCells s = u8s (bs s) := by
  unfold strCells u8s bs; rw [List.map_map]; rfl
section
variable {P : Program} {w w0 : World}
theorem conv_bytes {ops : Array Oper} {rest : List Oper} {o : Oper} {a : Act} {Q : Exit → Act → World → Prop} (hgd : o.guard = none) (src dst : TypeId) (x : Operand)
    (ho : o.op = .convert src dst x) (e : TypeId) (hs : P.underlying src = some .string) (hd : P.underlying dst = some (.slice e)) (he : P.underlying e = some (.int .u8))
    (B : Nat) (hbel : Below B w0 w) (str : ByteArray) (hx : a.eval x = .string str) (hn : str.size ≤ 140737488355328) (hB : B ≤ w.heap.size)
    (h : ∀ v' w', mrow w' w.heap.size e v' str.size (u8s (bs str)) → Below B w0 w' → Below w.heap.size w w' → wpList P ops Q rest (a.put o.dst v') w') : wpList P ops Q (o :: rest) a w := by
  have hr := Lib.run_convert_string_bytes (P := P) w src dst e str (u := .string) hs hd he
  have hge := grownCap_ge w str.size 0 e
  have hcm : grownCap w str.size 0 e ≤ maxLen := grownCap_le_maxLen w str.size 0 e (by unfold maxLen; omega)
  have hcs : (Lib.bytesCells w e str).size = grownCap w str.size 0 e := by
    have : str.data.size = str.size := rfl
    simp [Lib.bytesCells, this]; omega
  have hrow : mrow (Lib.bytesWorld w e str) w.heap.size e (.slice (some ⟨w.heap.size, 0, none⟩) str.size (grownCap w str.size 0 e)) str.size (u8s (bs str)) := by
    refine ⟨by rw [u8s_length, bs_length], .inr ⟨w.heap.size, _, _, _, rfl, Nat.le_refl _, Lib.bytesWorld_at_new w e str, hge, hcm, hcs, ?_, .inr (by rw [hcs]; exact Nat.le_refl _)⟩⟩
    rw [← strCells_bs]
    have hl : (strCells str).length = str.size := strCells_length str
    have : (Lib.bytesCells w e str).toList = strCells str ++ List.replicate (grownCap w str.size 0 e - str.size) (.int .u8 0) := by
      simp [Lib.bytesCells, strCells]
    rw [this, ← hl]; exact List.take_left
  have hb : Below w.heap.size w (Lib.bytesWorld w e str) :=
    ⟨by simp [Lib.bytesWorld, World.freeze]; rfl, by simp [Lib.bytesWorld, World.freeze], by simp [Lib.bytesWorld, World.freeze]; rfl, by rw [Lib.bytesWorld_size]; omega, fun k hk => Lib.bytesWorld_at_old w e str k hk⟩
  refine wpList_plain hgd fun K hK => ?_
  unfold Oper.wp execOp
  simp only [ho, hx, Sem.run_bind, hr, Result.andThen_ok, Sem.run_pure]
  exact hK _ _ (h _ _ hrow (hbel.trans (hb.mono hB)) hb)
end
end Go.Proofs.Ytfnjbmpolggdeaa
end
section
namespace Go.Proofs.Ytfnjbmpolggdeaa.CD
open Go.RowKit Go.Proofs.YtfnjbmpolggdeaaW.PrintWords Go.Lib
set_option linter.unusedVariables false
set_option linter.unusedSimpArgs false
def numB (l : List Nat) : Nat := l.foldl (fun x b => x * 256 + b) 0
theorem numB_snoc (l : List Nat) (b : Nat) : numB (l ++ [b]) = numB l * 256 + b := by simp [numB]
theorem foldl_lt (l : List Nat) (h : ∀ b ∈ l, b < 256) : ∀ x m, x < m → l.foldl (fun x b => x * 256 + b) x < m * 256 ^ l.length := by
  induction l with
  | nil => intro x m hx; simpa using hx
  | cons b l ih =>
    intro x m hx
    have hb := h b (by simp)
    have := ih (fun y hy => h y (by simp [hy])) (x * 256 + b) (m * 256) (by omega)
    rw [List.foldl_cons, List.length_cons, Nat.pow_succ, Nat.mul_comm (256 ^ l.length) 256, ← Nat.mul_assoc]
    exact this
theorem numB_lt (l : List Nat) (h : ∀ b ∈ l, b < 256) : numB l < 256 ^ l.length := by
  have := foldl_lt l h 0 1 (by omega); simpa [numB] using this
theorem i64_or_nat (a b : Nat) (ha : a < 9223372036854775808) (hb : b < 9223372036854775808) : bits .or .i64 (a : Int) (b : Int) = ((a ||| b : Nat) : Int) := by
  have hx : a ||| b < 2 ^ 63 := Nat.or_lt_two_pow (by omega) (by omega)
  show IntKind.i64.wrap ((BitVec.ofInt 64 (a : Int) ||| BitVec.ofInt 64 (b : Int)).toNat : Int) = _
  rw [BitVec.toNat_or, ofInt_u64 a (by omega), ofInt_u64 b (by omega)]
  simp only [IntKind.wrap, IntKind.bits, IntKind.signed]
  simp
  omega
theorem or_i64 (a b : Nat) (ha : a < 4294967296) (hb : b < 256) : bits BinOp.or IntKind.i64 ((a : Int) * 256) (b : Int) = ((a * 256 + b : Nat) : Int) := by
  have := i64_or_nat (a * 256) b (by omega) (by omega)
  rw [nat_join 8 (a * 256) b (by omega) (by omega)] at this
  simpa using this
def pool_Reader_Num.f (s0_0 : ByteArray) (s0_1 : Int) (s0_2 : Int) (s0_3 : Int) (a1 : Int) : Option (Int × ByteArray × Int × Int × Int) :=
  (pool_Reader_Take.f s0_0 s0_1 s0_2 s0_3 a1).bind fun t => if t.1.size ≤ 4 then some ((numB (bs t.1) : Nat), t.2.1, t.2.2.1, t.2.2.2.1, t.2.2.2.2) else none
set_option maxHeartbeats 2000000 in
set_option maxRecDepth 100000 in
theorem pool_Reader_Num.calls (g : Nat) (s0_0 : ByteArray) (s0_1 : Int) (s0_2 : Int) (s0_3 : Int) (a1 : Int) (r1 : Int) (r2 : ByteArray) (r3 : Int) (r4 : Int) (r5 : Int) (w0 w : World) (hI : IsS167 w0 w g s0_0 s0_1 s0_2 s0_3) (hB : Below w0.heap.size w0 w) (h : pool_Reader_Num.f s0_0 s0_1 s0_2 s0_3 a1 = some (r1, r2, r3, r4, r5)) :
    Calls Try.prog 68 #[.pointer (some ⟨g, 0, none⟩), .int .i64 a1] w fun e w' => e = .returned (.int .i64 r1) ∧ IsS167 w0 w' g r2 r3 r4 r5 ∧ Below w0.heap.size w0 w' ∧ KeepBut w w' g none := by
  unfold pool_Reader_Num.f at h
  cases hT : pool_Reader_Take.f s0_0 s0_1 s0_2 s0_3 a1 with
  | none => rw [hT] at h; cases h
  | some t =>
  obtain ⟨t, x1, x2, x3, x4⟩ := t
  rw [hT] at h
  simp only [Option.bind_some] at h
  split at h
  · rename_i htz
    injection h with h; injection h with h1 h; injection h with h2 h; injection h with h3 h; injection h with h4 h5
    subst h1 h2 h3 h4 h5
    have HT := Lib.hid hT
    clear hT
    go_enter Try.func68, Try.ntmps68
    go_wp2_with fail
    refine (pool_Reader_Take.calls g s0_0 s0_1 s0_2 s0_3 a1 t x1 x2 x3 x4 w0 w hI hB HT.out).mono ?_
    rintro e w1 ⟨rfl, h1, hB1, hk1⟩
    go_wp2_with ((with_reducible refine conv_bytes rfl 9 87 _ rfl 5 Try.underlying9 Try.underlying87 Try.underlying5 w1.heap.size (Below.refl w1.heap.size w1) t rfl (by omega) (Nat.le_refl _) ?_); intro v2 w2 hown2 hbel2 hb2; obtain ⟨a, c, rfl, hrd2⟩ := hown2.rd)
    have h2 := h1.below hb2
    have hB2 := below_then hB1 (hB1.size) hb2
    have hk2 := KeepBut.trans hk1 (KeepBut.of_below hb2 g none) (.inl rfl)
    clear hown2 hbel2 h1 hk1 hI hB hB1 hb2
    go_loopw [5, 13] (fun v i wr => ∃ (k : Nat), k ≤ t.size ∧ i = .int .i64 k ∧ v = .int .i64 (numB ((bs t).take k) : Nat) ∧ wr = w2) (fun _ i _ => t.size - (intOf i).toNat)
    case atStart => exact ⟨0, by omega, rfl, rfl, rfl⟩
    case round =>
      obtain ⟨k, hk, rfl, rfl, rfl⟩ := hrel
      by_cases hlt : k < t.size
      · rcases hrd2 with hr2 | ⟨b, o, rfl, hbB, hcell⟩
        · have : (u8s (bs t)).length = 0 := by rw [hr2]; rfl
          rw [u8s_length, bs_length] at this; omega
        have hkl : k < (bs t).length := by rw [bs_length]; exact hlt
        have hc : wr.cell? ⟨b, o + k, none⟩ = some (.int .u8 ((bs t)[k] : Nat)) := hcell k _ (by simp [u8s, hkl])
        have hsn : numB ((bs t).take (k + 1)) = numB ((bs t).take k) * 256 + (bs t)[k] := by rw [List.take_succ_eq_append_getElem hkl, numB_snoc]
        have hlt2 : numB ((bs t).take k) < 4294967296 := by
          have h3 := numB_lt ((bs t).take k) (fun b hb => bs_lt t b (List.mem_of_mem_take hb))
          exact Nat.lt_of_lt_of_le h3 (Nat.pow_le_pow_right (by decide) (by rw [List.length_take]; omega) : 256 ^ ((bs t).take k).length ≤ 256 ^ 4)
        have hb := bs_lt t (bs t)[k] (List.getElem_mem _)
        have HSN := Lib.hid hsn
        clear hcell hsn
        generalize (bs t)[k] = bb at *
        generalize numB ((bs t).take k) = acc at *
        have hor := or_i64 acc bb hlt2 hb
        go_wp2
        go_roundw
        case rel => exact ⟨k + 1, by omega, by go_num, by rw [HSN.out]; simp, trivial⟩
        case measure => simp [intOf]; omega
      · obtain rfl : k = t.size := by omega
        have htk : (bs t).take t.size = bs t := List.take_of_length_le (by rw [bs_length]; exact Nat.le_refl _)
        rw [htk]
        clear htk
        go_wp2
        go_ret
        exact ⟨rfl, h2, hB2, hk2⟩
  · cases h
end Go.Proofs.Ytfnjbmpolggdeaa.CD
end
section
namespace Go.Proofs.Ytfnjbmpolggdeaa.CD
open Go.RowKit Go.Lib Go.Proofs.YtfnjbmpolggdeaaW.PrintWords Go.Proofs.YtfnjbmpolggdeaaW.PrintLast Go.Proofs.YtfnjbmpolggdeaaW.PrintMore
set_option linter.unusedVariables false
set_option linter.unusedSimpArgs false
theorem infoInt : (Try.prog.info? 3).map (fun i => (i.zero, i.size, i.bytes)) = some (some (.int .i64 0), 1, 8) := by kernel_rfl
theorem infoIns : (Try.prog.info? 82).map (fun i => (i.zero, i.size, i.bytes)) = some (some (.agg #[(.int .i64 0), (.int .u8 0), (.bool false), (.int .i64 0), (.int .i64 0), (.int .i64 0), (.slice none 0 0), (.slice none 0 0)]), 8, 88) := by kernel_rfl
abbrev RdS := Int × Int × Int
def OKR (s : ByteArray) (t : RdS) : Prop := 0 ≤ t.1 ∧ t.1 ≤ (s.size : Int) ∧ s.size ≤ 65535
def failR (t : RdS) (e p : Int) : RdS := if t.2.1 = 0 then (t.1, e, p) else t
def numR (s : ByteArray) (t : RdS) (n : Nat) : Int × RdS :=
  if t.2.1 ≠ 0 then (0, t) else if (n : Int) > (s.size : Int) - t.1 then (0, (t.1, 1, (s.size : Int))) else (((numB (((bs s).drop t.1.toNat).take n) : Nat) : Int), (t.1 + n, t.2.1, t.2.2))
def signV (x : Int) (n : Nat) : Int := if x ≥ (2 ^ (8 * n - 1) : Nat) then x - 2 * (2 ^ (8 * n - 1) : Nat) else x
def sgnR (s : ByteArray) (t : RdS) (n : Nat) : Int × RdS := (signV (numR s t n).1 n, (numR s t n).2)
theorem OKR.num {s : ByteArray} {t : RdS} (h : OKR s t) (n : Nat) : OKR s (numR s t n).2 := by
  obtain ⟨h0, h1, h2⟩ := h
  unfold numR
  split
  · exact ⟨h0, h1, h2⟩
  · split
    · exact ⟨h0, h1, h2⟩
    · refine ⟨?_, ?_, h2⟩
      · show 0 ≤ t.1 + (n : Int); omega
      · show t.1 + (n : Int) ≤ _; omega
theorem OKR.fail {s : ByteArray} {t : RdS} (h : OKR s t) (e p : Int) : OKR s (failR t e p) := by
  unfold failR
  split
  · exact h
  · exact h
theorem num_range (s : ByteArray) (t : RdS) (n : Nat) (hn : n ≤ 4) : 0 ≤ (numR s t n).1 ∧ (numR s t n).1 < ((256 ^ n : Nat) : Int) := by
  have hp : (0 : Int) < ((256 ^ n : Nat) : Int) := Int.ofNat_lt.2 (Nat.pow_pos (by decide))
  unfold numR
  split
  · exact ⟨Int.le_refl _, hp⟩
  · split
    · exact ⟨Int.le_refl _, hp⟩
    · refine ⟨Int.natCast_nonneg _, ?_⟩
      have h1 := numB_lt (((bs s).drop t.1.toNat).take n) (fun b hb => bs_lt s b (List.mem_of_mem_drop (List.mem_of_mem_take hb)))
      have h2 : 256 ^ (((bs s).drop t.1.toNat).take n).length ≤ 256 ^ n := Nat.pow_le_pow_right (by decide) (by rw [List.length_take]; omega)
      have h3 := Nat.lt_of_lt_of_le h1 h2
      exact Int.ofNat_lt.2 h3
theorem bs_ext (s : ByteArray) (a b : Nat) : bs (s.extract a b) = ((bs s).drop a).take (b - a) := by
  unfold bs
  rw [ByteArray.data_extract]
  simp [List.map_drop, List.map_take, Array.toList_extract, List.extract_eq_take_drop]
def RI (w0 W : World) (g : Nat) (s : ByteArray) (t : RdS) : Prop := IsS167 w0 W g s t.1 t.2.1 t.2.2 ∧ Below w0.heap.size w0 W
theorem RI.below {w0 W W1 : World} {g : Nat} {s : ByteArray} {t : RdS} (h : RI w0 W g s t) (hb : Below W.heap.size W W1) : RI w0 W1 g s t := ⟨h.1.below hb, below_then h.2 h.2.size hb⟩
def RPost (w0 w : World) (g : Nat) (s : ByteArray) (t : RdS) (v : Value) (e : Ending) (w' : World) : Prop := e = .returned v ∧ RI w0 w' g s t ∧ KeepBut w w' g none
theorem take_eq {s : ByteArray} {t : RdS} (h : OKR s t) (n : Nat) (hn : n ≤ 4) : pool_Reader_Num.f s t.1 t.2.1 t.2.2 (n : Int) = some ((numR s t n).1, s, (numR s t n).2.1, (numR s t n).2.2.1, (numR s t n).2.2.2) := by
  obtain ⟨h0, h1, h2⟩ := h
  obtain ⟨at_, er, es⟩ := t
  dsimp only at h0 h1
  have hz : (⟨#[]⟩ : ByteArray).size ≤ 4 := by decide
  have hnb : numB (bs (⟨#[]⟩ : ByteArray)) = 0 := by decide
  unfold pool_Reader_Num.f pool_Reader_Take.f pool_Reader_Bad.f pool_Reader_Left.f pool_Reader_Fail.f numR
  dsimp only
  simp only [Option.bind_some]
  by_cases he : er = 0
  · subst he
    have e1 : ((0 : Int) != 0) = false := by decide
    have e2 : wrap64 ((s.size : Int) - at_) = (s.size : Int) - at_ := by rw [← i64_w, IntKind.wrap_i64]; omega
    rw [if_neg (by rw [e1]; decide), if_neg (by omega), e2, if_neg (show ¬ ((0 : Int) ≠ 0) from fun h => h rfl)]
    by_cases hc : (n : Int) > (s.size : Int) - at_
    · rw [if_pos hc, if_pos hc, if_pos rfl, Option.bind_some, Option.bind_some, if_pos hz, hnb]; rfl
    · rw [if_neg hc, if_neg hc]
      have e3 : wrap64 (at_ + (n : Int)) = at_ + (n : Int) := by rw [← i64_w, IntKind.wrap_i64]; omega
      have e4 : (at_ + (n : Int)).toNat - at_.toNat = n := by omega
      have e5 : (s.extract at_.toNat (at_ + (n : Int)).toNat).size ≤ 4 := by rw [← bs_length, bs_ext, List.length_take]; omega
      rw [e3, if_pos h0, if_pos (by omega), if_pos (by omega), Option.bind_some, if_pos e5, bs_ext, e4]
  · have e1 : (er != 0) = true := bne_iff_ne.2 he
    rw [if_pos e1, if_pos he, Option.bind_some, if_pos hz, hnb]; rfl
end Go.Proofs.Ytfnjbmpolggdeaa.CD
end
section
namespace Go.Proofs.Ytfnjbmpolggdeaa.CD
open Go.RowKit Go.Lib Go.Proofs.YtfnjbmpolggdeaaW.PrintWords Go.Proofs.YtfnjbmpolggdeaaW.PrintLast Go.Proofs.YtfnjbmpolggdeaaW.PrintMore
set_option linter.unusedVariables false
set_option linter.unusedSimpArgs false
theorem num_any (w0 w : World) (g : Nat) (s : ByteArray) (t : RdS) (n : Nat) (j : Int) (hj : j = n) (hn : n ≤ 4) (ht : OKR s t) (hI : RI w0 w g s t) :
    Calls Try.prog 68 #[.pointer (some ⟨g, 0, none⟩), .int .i64 j] w (RPost w0 w g s (numR s t n).2 (.int .i64 (numR s t n).1)) := by
  subst hj
  refine (pool_Reader_Num.calls g s t.1 t.2.1 t.2.2 n _ _ _ _ _ w0 w hI.1 hI.2 (take_eq ht n hn)).mono ?_
  rintro e w' ⟨h1, h2, h3, h4⟩
  exact ⟨h1, ⟨h2, h3⟩, h4⟩
theorem at_any (w0 w : World) (g : Nat) (s : ByteArray) (t : RdS) (hI : RI w0 w g s t) :
    Calls Try.prog 66 #[.pointer (some ⟨g, 0, none⟩)] w (RPost w0 w g s t (.int .i64 t.1)) := by
  refine (pool_Reader_At.calls g s t.1 t.2.1 t.2.2 _ _ _ _ _ w0 w hI.1 hI.2 rfl).mono ?_
  rintro e w' ⟨h1, h2, h3, h4⟩
  exact ⟨h1, ⟨h2, h3⟩, h4⟩
theorem bad_any (w0 w : World) (g : Nat) (s : ByteArray) (t : RdS) (hI : RI w0 w g s t) :
    Calls Try.prog 70 #[.pointer (some ⟨g, 0, none⟩)] w (RPost w0 w g s t (.bool (t.2.1 != 0))) := by
  refine (pool_Reader_Bad.calls g s t.1 t.2.1 t.2.2 _ _ _ _ _ w0 w hI.1 hI.2 rfl).mono ?_
  rintro e w' ⟨h1, h2, h3, h4⟩
  exact ⟨h1, ⟨h2, h3⟩, h4⟩
theorem left_any (w0 w : World) (g : Nat) (s : ByteArray) (t : RdS) (ht : OKR s t) (hI : RI w0 w g s t) :
    Calls Try.prog 72 #[.pointer (some ⟨g, 0, none⟩)] w (RPost w0 w g s t (.int .i64 ((s.size : Int) - t.1))) := by
  refine (pool_Reader_Left.calls g s t.1 t.2.1 t.2.2 _ _ _ _ _ w0 w hI.1 hI.2 rfl).mono ?_
  rintro e w' ⟨h1, h2, h3, h4⟩
  refine ⟨h1.trans ?_, ⟨h2, h3⟩, h4⟩
  rw [show wrap64 ((s.size : Int) - t.1) = (s.size : Int) - t.1 by rw [← i64_w, IntKind.wrap_i64]; have := ht.1; have := ht.2.1; have := ht.2.2; omega]
theorem fail_any (w0 w : World) (g : Nat) (s : ByteArray) (t : RdS) (e p : Int) (hI : RI w0 w g s t) :
    Calls Try.prog 73 #[.pointer (some ⟨g, 0, none⟩), .int .i64 e, .int .i64 p] w (RPost w0 w g s (failR t e p) (.tuple #[])) := by
  have hf : pool_Reader_Fail.f s t.1 t.2.1 t.2.2 e p = some (s, (failR t e p).1, (failR t e p).2.1, (failR t e p).2.2) := by
    unfold pool_Reader_Fail.f failR
    split <;> rfl
  refine (pool_Reader_Fail.calls g s t.1 t.2.1 t.2.2 e p _ _ _ _ w0 w hI.1 hI.2 hf).mono ?_
  rintro e w' ⟨h1, h2, h3, h4⟩
  exact ⟨h1, ⟨h2, h3⟩, h4⟩
theorem err_any (w0 w : World) (g : Nat) (s : ByteArray) (t : RdS) (hI : RI w0 w g s t) :
    Calls Try.prog 65 #[.pointer (some ⟨g, 0, none⟩)] w (RPost w0 w g s t (.tuple #[.int .i64 t.2.1, .int .i64 t.2.2])) := by
  refine (pool_Reader_Err.calls g s t.1 t.2.1 t.2.2 _ _ _ _ _ _ w0 w hI.1 hI.2 rfl).mono ?_
  rintro e w' ⟨h1, h2, h3, h4⟩
  exact ⟨h1, ⟨h2, h3⟩, h4⟩
theorem sign_eq (x : Int) (n : Nat) (hn : n = 1 ∨ n = 2 ∨ n = 4) (h0 : 0 ≤ x) (h1 : x < ((256 ^ n : Nat) : Int)) : code_sign.f x (n : Int) = some (signV x n) := by
  unfold code_sign.f signV
  rcases hn with rfl | rfl | rfl
  · have e1 : wrap64 (wrap64 (8 * ((1 : Nat) : Int)) - 1) = 7 := by decide +kernel
    have e4 : ((2 ^ (8 * 1 - 1) : Nat) : Int) = 128 := by decide
    have e2 : shl .i64 1 7 = 128 := by decide +kernel
    have e3 : wrap64 (2 * 128) = 256 := by decide +kernel
    rw [e1, e2, e3, e4, if_pos (by decide)]
    have h2 : x < 256 := h1
    by_cases hc : x ≥ 128
    · rw [if_pos hc, if_pos hc, show wrap64 (x - 256) = x - 256 by rw [← i64_w, IntKind.wrap_i64]; omega]; rfl
    · rw [if_neg hc, if_neg hc]
  · have e1 : wrap64 (wrap64 (8 * ((2 : Nat) : Int)) - 1) = 15 := by decide +kernel
    have e4 : ((2 ^ (8 * 2 - 1) : Nat) : Int) = 32768 := by decide
    have e2 : shl .i64 1 15 = 32768 := by decide +kernel
    have e3 : wrap64 (2 * 32768) = 65536 := by decide +kernel
    rw [e1, e2, e3, e4, if_pos (by decide)]
    have h2 : x < 65536 := h1
    by_cases hc : x ≥ 32768
    · rw [if_pos hc, if_pos hc, show wrap64 (x - 65536) = x - 65536 by rw [← i64_w, IntKind.wrap_i64]; omega]; rfl
    · rw [if_neg hc, if_neg hc]
  · have e1 : wrap64 (wrap64 (8 * ((4 : Nat) : Int)) - 1) = 31 := by decide +kernel
    have e4 : ((2 ^ (8 * 4 - 1) : Nat) : Int) = 2147483648 := by decide
    have e2 : shl .i64 1 31 = 2147483648 := by decide +kernel
    have e3 : wrap64 (2 * 2147483648) = 4294967296 := by decide +kernel
    rw [e1, e2, e3, e4, if_pos (by decide)]
    have h2 : x < 4294967296 := h1
    by_cases hc : x ≥ 2147483648
    · rw [if_pos hc, if_pos hc, show wrap64 (x - 4294967296) = x - 4294967296 by rw [← i64_w, IntKind.wrap_i64]; omega]; rfl
    · rw [if_neg hc, if_neg hc]
theorem keep_tr {w w1 w2 : World} {g : Nat} (h : KeepBut w w1 g none) (k : KeepBut w1 w2 g none) : KeepBut w w2 g none :=
  ⟨Nat.le_trans h.1 k.1, fun i hi hg hr => (k.2 i (Nat.lt_of_lt_of_le hi h.1) hg hr).trans (h.2 i hi hg hr)⟩
set_option maxHeartbeats 4000000 in
set_option maxRecDepth 100000 in
theorem signed_d (w0 w : World) (g : Nat) (s : ByteArray) (t : RdS) (n : Nat) (j : Int) (hj : j = n) (hn : n = 1 ∨ n = 2 ∨ n = 4) (ht : OKR s t) (hI : RI w0 w g s t) :
    Calls Try.prog 124 #[.agg #[.pointer (some ⟨g, 0, none⟩)], .int .i64 j] w (RPost w0 w g s (sgnR s t n).2 (.int .i64 (sgnR s t n).1)) := by
  subst hj
  have hb0 := below_alloc (Below.refl w.heap.size w) (.cells #[.pointer (some ⟨g, 0, none⟩)] 144)
  have HI := Aside0.mk (hI.below hb0)
  have HK := Aside0.mk (KeepBut.of_below hb0 g none)
  have HT := Aside0.mk ht
  have HN := Aside0.mk hn
  clear hb0 hI ht hn
  go_enter Try.func124, Try.ntmps124
  go_wp2_with (first | (go_at_call 68; refine (num_any w0 _ g s t n _ rfl (by rcases HN.out with h | h | h <;> omega) HT.out HI.out).mono ?_; rintro e1 w1 ⟨rfl, hI1, hk1⟩) | (go_at_call 141; refine (code_sign.calls (numR s t n).1 (n : Int) _ _ (sign_eq _ n HN.out (num_range s t n (by rcases HN.out with h | h | h <;> omega)).1 (num_range s t n (by rcases HN.out with h | h | h <;> omega)).2)).mono ?_; rintro e2 w2 ⟨rfl, hd2⟩) | go_in)
  go_ret
  exact ⟨rfl, hI1.below hd2.below, keep_tr (keep_tr HK.out hk1) (KeepBut.of_below hd2.below g none)⟩
end Go.Proofs.Ytfnjbmpolggdeaa.CD
end
section
namespace Go.Proofs.Ytfnjbmpolggdeaa.CD
open Go.RowKit Go.Lib Go.Proofs.YtfnjbmpolggdeaaW.PrintWords Go.Proofs.YtfnjbmpolggdeaaW.PrintLast Go.Proofs.YtfnjbmpolggdeaaW.PrintMore
set_option linter.unusedVariables false
set_option linter.unusedSimpArgs false
abbrev RW (W : World) (B : Nat) (v : Value) (xs : List Int) : Prop := (Kd.int .i64).R 3 W B (fun _ => True) v xs
def insC (x : S82) (v6 v7 : Value) : Array Value := #[.int .i64 x.f0, .int .u8 x.f1, .bool x.f2, .int .i64 x.f3, .int .i64 x.f4, .int .i64 x.f5, v6, v7]
theorem RW.step {W W1 : World} {B : Nat} {v : Value} {xs : List Int} (h : RW W B v xs) (hs : ∀ k, v.ownBlock = some k → W1.heap[k]? = W.heap[k]?) : RW W1 B v xs :=
  Kd.R_of_own (enc := Value.int .i64) (h1 := fun _ => rfl) (own_move (Kd.own_of_R (enc := Value.int .i64) (h1 := fun _ => rfl) h) hs) (fun _ _ => trivial)
theorem RW.ne {W : World} {B : Nat} {v : Value} {xs : List Int} (h : RW W B v xs) {g t : Nat} {cells : Array Value} {fr : Nat × Nat} (hb : W.heap[g]? = some (.cells cells t fr)) (ht : t ≠ 3) : v.ownBlock ≠ some g := by
  intro e
  obtain ⟨c2, hc⟩ := Kd.R_typed h g e
  rw [hc] at hb
  injection hb with e1
  injection e1 with _ e2
  exact ht e2.symm
theorem RW.nil (W : World) (B : Nat) : RW W B (.slice none 0 0) [] := Kd.R_nil _ _ _ _ _
structure CS (w0 wc W : World) (g : Nat) (s : ByteArray) (t : RdS) (bx : Nat) (x : S82) (v6 v7 : Value) : Prop where
  ri : RI w0 W g s t
  dec : W.heap[wc.heap.size]? = some (.cells #[.pointer (some ⟨g, 0, none⟩)] 144 (0, 0))
  ins : W.heap[bx]? = some (.cells (insC x v6 v7) 82 (0, 0))
  new : w0.heap.size ≤ bx
  r6 : RW W wc.heap.size v6 x.f6
  r7 : RW W wc.heap.size v7 x.f7
  ap : ∀ k, v6.ownBlock = some k → v7.ownBlock ≠ some k
  kept : wc.heap.size ≤ W.heap.size ∧ ∀ i, i < wc.heap.size → i ≠ g → i ≠ bx → W.heap[i]? = wc.heap[i]?
namespace CS
variable {w0 wc W W1 : World} {g bx : Nat} {s : ByteArray} {t t1 : RdS} {x : S82} {v6 v7 v1 : Value}
theorem gne (h : CS w0 wc W g s t bx x v6 v7) : bx ≠ g := fun e => h.ri.1.ne_blk h.ins (by decide) e.symm
theorem xne (h : CS w0 wc W g s t bx x v6 v7) : bx ≠ wc.heap.size := fun e => by
  have h1 := h.ins
  rw [e, h.dec] at h1
  injection h1 with h2
  injection h2 with _ h3
  exact absurd h3 (by decide)
theorem dne (h : CS w0 wc W g s t bx x v6 v7) : wc.heap.size ≠ g := fun e => h.ri.1.ne_blk h.dec (by decide) e.symm
theorem rd (h : CS w0 wc W g s t bx x v6 v7) (hI : RI w0 W1 g s t1) (hk : KeepBut W W1 g none) : CS w0 wc W1 g s t1 bx x v6 v7 where
  ri := hI
  dec := (hk.2 _ (blk_lt h.dec) h.dne (by simp)).trans h.dec
  ins := (hk.2 _ (blk_lt h.ins) h.gne (by simp)).trans h.ins
  new := h.new
  r6 := h.r6.step (fun k e => hk.2 k (Kd.R_lt h.r6 k e) (fun he => h.r6.ne h.ri.1.1 (by decide) (he ▸ e)) (by simp))
  r7 := h.r7.step (fun k e => hk.2 k (Kd.R_lt h.r7 k e) (fun he => h.r7.ne h.ri.1.1 (by decide) (he ▸ e)) (by simp))
  ap := h.ap
  kept := ⟨Nat.le_trans h.kept.1 hk.1, fun i hi hg hb => (hk.2 i (Nat.lt_of_lt_of_le hi h.kept.1) hg (by simp)).trans (h.kept.2 i hi hg hb)⟩
theorem below (h : CS w0 wc W g s t bx x v6 v7) (hb : Below W.heap.size W W1) : CS w0 wc W1 g s t bx x v6 v7 := h.rd (h.ri.below hb) (KeepBut.of_below hb g none)
theorem drew (h : CS w0 wc W g s t bx x v6 v7) : CS w0 wc W.drew g s t bx x v6 v7 := h.below (below_drew (Below.refl _ _))
theorem set (h : CS w0 wc W g s t bx x v6 v7) (j : Nat) (u : Value) (x1 : S82) (hx : (insC x v6 v7).setIfInBounds j u = insC x1 v6 v7) (h6 : x1.f6 = x.f6) (h7 : x1.f7 = x.f7) : CS w0 wc (W.setCell ⟨bx, j, none⟩ u) g s t bx x1 v6 v7 where
  ri := ⟨h.ri.1.far (fun e => h.gne e.symm) u, h.ri.2.setCell (p := ⟨bx, j, none⟩) h.new u⟩
  dec := (Below.heap_setCell W ⟨bx, j, none⟩ u _ (fun e => h.xne e.symm)).trans h.dec
  ins := by rw [← hx]; exact blk_set h.ins j u
  new := h.new
  r6 := by rw [h6]; exact h.r6.step (fun k e => Below.heap_setCell W ⟨bx, j, none⟩ u k (fun he => h.r6.ne h.ins (by decide) (by rw [← show k = bx from he]; exact e)))
  r7 := by rw [h7]; exact h.r7.step (fun k e => Below.heap_setCell W ⟨bx, j, none⟩ u k (fun he => h.r7.ne h.ins (by decide) (by rw [← show k = bx from he]; exact e)))
  ap := h.ap
  kept := by
    refine ⟨Nat.le_trans h.kept.1 (KeepBut.set_ (KeepBut.refl W bx none) j u).1, fun i hi hg hb => ?_⟩
    exact (Below.heap_setCell W ⟨bx, j, none⟩ u i (fun e => hb e)).trans (h.kept.2 i hi hg hb)
theorem put7 (h : CS w0 wc W g s t bx x v6 v7) (hB : Below wc.heap.size wc wc) {xs : List Int} (hg : W.grownBy W1 v7.ownBlock) (hr : RW W1 wc.heap.size v1 xs) (hat : v1.ownBlock = v7.ownBlock ∨ ∃ b, v1.ownBlock = some b ∧ W.heap.size ≤ b) (hw : w0.heap.size ≤ wc.heap.size) :
    CS w0 wc (W1.setCell ⟨bx, 7, none⟩ v1) g s t bx ⟨x.f0, x.f1, x.f2, x.f3, x.f4, x.f5, x.f6, xs⟩ v6 v1 := by
  have hge : ∀ k, v7.ownBlock = some k → wc.heap.size ≤ k := Kd.R_base h.r7
  have h1 : CS w0 wc W1 g s t bx ⟨x.f0, x.f1, x.f2, x.f3, x.f4, x.f5, x.f6, xs⟩ v6 v1 → True := fun _ => trivial
  have n1 : v7.ownBlock ≠ some bx := h.r7.ne h.ins (by decide)
  have n2 : v7.ownBlock ≠ some g := h.r7.ne h.ri.1.1 (by decide)
  have n3 : v7.ownBlock ≠ some wc.heap.size := h.r7.ne h.dec (by decide)
  have i1 : W1.heap[bx]? = some (.cells (insC x v6 v7) 82 (0, 0)) := (hg.block _ (blk_lt h.ins) (fun e => n1 e.symm)).trans h.ins
  have d1 : W1.heap[wc.heap.size]? = some (.cells #[.pointer (some ⟨g, 0, none⟩)] 144 (0, 0)) := (hg.block _ (blk_lt h.dec) (fun e => n3 e.symm)).trans h.dec
  have q6 : RW W1 wc.heap.size v6 x.f6 := h.r6.step (fun k e => hg.block k (Kd.R_lt h.r6 k e) (fun he => h.ap k e he.symm))
  have B1 : Below w0.heap.size w0 W1 := pw_below_grown h.ri.2 _ h.ri.2.size hg (fun k hk => Nat.le_trans hw (hge k hk))
  have I1 : IsS167 w0 W1 g s t.1 t.2.1 t.2.2 := h.ri.1.grown hg (fun e => n2 e.symm)
  exact {
    ri := ⟨I1.far (fun e => h.gne e.symm) _, B1.setCell (p := ⟨bx, 7, none⟩) h.new _⟩
    dec := (Below.heap_setCell W1 ⟨bx, 7, none⟩ v1 _ (fun e => h.xne e.symm)).trans d1
    ins := (blk_set i1 7 v1).trans rfl
    new := h.new
    r6 := q6.step (fun k e => Below.heap_setCell W1 ⟨bx, 7, none⟩ v1 k (fun he => q6.ne i1 (by decide) (by rw [← show k = bx from he]; exact e)))
    r7 := hr.step (fun k e => Below.heap_setCell W1 ⟨bx, 7, none⟩ v1 k (fun he => hr.ne i1 (by decide) (by rw [← show k = bx from he]; exact e)))
    ap := fun k e e2 => by
      rcases hat with hat | ⟨b, hb, hle⟩
      · exact h.ap k e (hat ▸ e2)
      · rw [hb] at e2; injection e2 with e2; have := Kd.R_lt h.r6 k e; omega
    kept := by
      refine ⟨Nat.le_trans (Nat.le_trans h.kept.1 hg.size) (KeepBut.set_ (KeepBut.refl W1 bx none) _ v1).1, fun i hi hg2 hb => ?_⟩
      refine (Below.heap_setCell W1 ⟨bx, 7, none⟩ v1 i (fun e => hb e)).trans ((hg.block i (Nat.lt_of_lt_of_le hi h.kept.1) (fun e => by have := hge i e.symm; omega)).trans (h.kept.2 i hi hg2 hb)) }
theorem put6 (h : CS w0 wc W g s t bx x v6 v7) {xs : List Int} (hg : W.grownBy W1 v6.ownBlock) (hr : RW W1 wc.heap.size v1 xs) (hat : v1.ownBlock = v6.ownBlock ∨ ∃ b, v1.ownBlock = some b ∧ W.heap.size ≤ b) (hw : w0.heap.size ≤ wc.heap.size) :
    CS w0 wc (W1.setCell ⟨bx, 6, none⟩ v1) g s t bx ⟨x.f0, x.f1, x.f2, x.f3, x.f4, x.f5, xs, x.f7⟩ v1 v7 := by
  have hge : ∀ k, v6.ownBlock = some k → wc.heap.size ≤ k := Kd.R_base h.r6
  have n1 : v6.ownBlock ≠ some bx := h.r6.ne h.ins (by decide)
  have n2 : v6.ownBlock ≠ some g := h.r6.ne h.ri.1.1 (by decide)
  have n3 : v6.ownBlock ≠ some wc.heap.size := h.r6.ne h.dec (by decide)
  have i1 : W1.heap[bx]? = some (.cells (insC x v6 v7) 82 (0, 0)) := (hg.block _ (blk_lt h.ins) (fun e => n1 e.symm)).trans h.ins
  have d1 : W1.heap[wc.heap.size]? = some (.cells #[.pointer (some ⟨g, 0, none⟩)] 144 (0, 0)) := (hg.block _ (blk_lt h.dec) (fun e => n3 e.symm)).trans h.dec
  have q7 : RW W1 wc.heap.size v7 x.f7 := h.r7.step (fun k e => hg.block k (Kd.R_lt h.r7 k e) (fun he => h.ap k he.symm e))
  have B1 : Below w0.heap.size w0 W1 := pw_below_grown h.ri.2 _ h.ri.2.size hg (fun k hk => Nat.le_trans hw (hge k hk))
  have I1 : IsS167 w0 W1 g s t.1 t.2.1 t.2.2 := h.ri.1.grown hg (fun e => n2 e.symm)
  exact {
    ri := ⟨I1.far (fun e => h.gne e.symm) _, B1.setCell (p := ⟨bx, 6, none⟩) h.new _⟩
    dec := (Below.heap_setCell W1 ⟨bx, 6, none⟩ v1 _ (fun e => h.xne e.symm)).trans d1
    ins := (blk_set i1 6 v1).trans rfl
    new := h.new
    r6 := hr.step (fun k e => Below.heap_setCell W1 ⟨bx, 6, none⟩ v1 k (fun he => hr.ne i1 (by decide) (by rw [← show k = bx from he]; exact e)))
    r7 := q7.step (fun k e => Below.heap_setCell W1 ⟨bx, 6, none⟩ v1 k (fun he => q7.ne i1 (by decide) (by rw [← show k = bx from he]; exact e)))
    ap := fun k e e2 => by
      rcases hat with hat | ⟨b, hb, hle⟩
      · exact h.ap k (hat ▸ e) e2
      · rw [hb] at e; injection e with e; have := Kd.R_lt h.r7 k e2; omega
    kept := by
      refine ⟨Nat.le_trans (Nat.le_trans h.kept.1 hg.size) (KeepBut.set_ (KeepBut.refl W1 bx none) _ v1).1, fun i hi hg2 hb => ?_⟩
      refine (Below.heap_setCell W1 ⟨bx, 6, none⟩ v1 i (fun e => hb e)).trans ((hg.block i (Nat.lt_of_lt_of_le hi h.kept.1) (fun e => by have := hge i e.symm; omega)).trans (h.kept.2 i hi hg2 hb)) }
end CS
theorem CS.cells {w0 wc W : World} {g bx : Nat} {s : ByteArray} {t : RdS} {x : S82} {v6 v7 : Value} (h : CS w0 wc W g s t bx x v6 v7) :
    W.cell? ⟨wc.heap.size, 0, none⟩ = some (.pointer (some ⟨g, 0, none⟩)) ∧ W.cell? ⟨bx, 0, none⟩ = some (.int .i64 x.f0) ∧ W.cell? ⟨bx, 5, none⟩ = some (.int .i64 x.f5) ∧ W.cell? ⟨bx, 6, none⟩ = some v6 ∧ W.cell? ⟨bx, 7, none⟩ = some v7 ∧ (∀ j, W.frozen? ⟨bx, j, none⟩ = false) :=
  ⟨blk_cell h.dec 0, blk_cell h.ins 0, blk_cell h.ins 5, blk_cell h.ins 6, blk_cell h.ins 7, fun j => blk_frozen h.ins j⟩
def padR (s : ByteArray) (x0 : Int) : Nat → RdS → RdS
  | 0, t => t
  | k + 1, t => if t.1 % 4 ≠ 0 ∧ t.2.1 = 0 then padR s x0 k (if (numR s t 1).1 ≠ 0 then failR (numR s t 1).2 15 x0 else (numR s t 1).2) else t
def rowsD (s : ByteArray) (f : Int) : Nat → Nat → S82 → RdS → S82 × RdS
  | 0, _, x, t => (x, t)
  | r + 1, k, x, t => if t.2.1 ≠ 0 then (x, t) else
      if f = 11 then
        rowsD s f r (k + 1) ⟨x.f0, x.f1, x.f2, x.f3, x.f4, x.f5, x.f6 ++ [(sgnR s t 4).1], x.f7 ++ [wrap64 (x.f0 + (sgnR s (if 0 < k ∧ (sgnR s t 4).1 ≤ rd x.f6 ((k : Int) - 1) then failR (sgnR s t 4).2 15 x.f0 else (sgnR s t 4).2) 4).1)]⟩
          (sgnR s (if 0 < k ∧ (sgnR s t 4).1 ≤ rd x.f6 ((k : Int) - 1) then failR (sgnR s t 4).2 15 x.f0 else (sgnR s t 4).2) 4).2
      else rowsD s f r (k + 1) ⟨x.f0, x.f1, x.f2, x.f3, x.f4, x.f5, x.f6, x.f7 ++ [wrap64 (x.f0 + (sgnR s t 4).1)]⟩ (sgnR s t 4).2
def headD (s : ByteArray) (x : S82) (t : RdS) : S82 × RdS :=
  (⟨x.f0, x.f1, x.f2, x.f3, x.f4, x.f5, x.f6, [wrap64 (x.f0 + (sgnR s (padR s x.f0 4 t) 4).1)]⟩, (sgnR s (padR s x.f0 4 t) 4).2)
def choD10 (s : ByteArray) (x : S82) (a b : Int) (t : RdS) : S82 × RdS :=
  if b < a then (⟨x.f0, x.f1, x.f2, x.f3, x.f4, a, x.f6, x.f7⟩, failR t 15 x.f0) else rowsD s 10 (b - a + 1).toNat 0 ⟨x.f0, x.f1, x.f2, x.f3, x.f4, a, x.f6, x.f7⟩ t
def choD11 (s : ByteArray) (x : S82) (a : Int) (t : RdS) : S82 × RdS :=
  if a < 0 then (x, failR t 15 x.f0) else rowsD s 11 a.toNat 0 x t
def choD (s : ByteArray) (x : S82) (f : Int) (t : RdS) : S82 × RdS :=
  if f = 10 then choD10 s (headD s x t).1 (sgnR s (headD s x t).2 4).1 (sgnR s (sgnR s (headD s x t).2 4).2 4).1 (sgnR s (sgnR s (headD s x t).2 4).2 4).2
  else choD11 s (headD s x t).1 (sgnR s (headD s x t).2 4).1 (sgnR s (headD s x t).2 4).2
end Go.Proofs.Ytfnjbmpolggdeaa.CD
end
section
namespace Go.Proofs.Ytfnjbmpolggdeaa.CD
open Go.RowKit Go.Lib Go.Proofs.YtfnjbmpolggdeaaW.PrintWords Go.Proofs.YtfnjbmpolggdeaaW.PrintLast Go.Proofs.YtfnjbmpolggdeaaW.PrintMore
set_option linter.unusedVariables false
set_option linter.unusedSimpArgs false
def padW (g : Nat) (W : World) : Nat := match W.cell? ⟨g, 1, none⟩, W.cell? ⟨g, 2, none⟩ with
  | some (.int _ a), some (.int _ e) => if e = 0 then ((4 - a % 4) % 4).toNat else 0
  | _, _ => 0
theorem RI.pad {w0 W : World} {g : Nat} {s : ByteArray} {t : RdS} (h : RI w0 W g s t) : padW g W = if t.2.1 = 0 then ((4 - t.1 % 4) % 4).toNat else 0 := by
  have c1 : W.cell? ⟨g, 1, none⟩ = some (.int .i64 t.1) := blk_cell h.1.1 1
  have c2 : W.cell? ⟨g, 2, none⟩ = some (.int .i64 t.2.1) := blk_cell h.1.1 2
  unfold padW
  rw [c1, c2]
theorem RW.lit (W : World) (B : Nat) (x : Int) (hB : B ≤ W.heap.size) : RW (W.alloc (.cells #[.int .i64 x] 3)) B (.slice (some ⟨W.heap.size, 0, none⟩) 1 1) [x] :=
  Kd.R_of_own (enc := Value.int .i64) (h1 := fun _ => rfl) ⟨rfl, .inr ⟨W.heap.size, 1, #[.int .i64 x], rfl, hB, heap_alloc_new W _, Nat.le_refl _, by decide, rfl, rfl⟩⟩ (fun _ _ => trivial)
theorem CS.grown7 {w0 wc W W1 : World} {g bx : Nat} {s : ByteArray} {t : RdS} {x : S82} {v6 v7 : Value} (h : CS w0 wc W g s t bx x v6 v7) (hg : W.grownBy W1 v7.ownBlock) : W1.cell? ⟨bx, 7, none⟩ = some v7 ∧ W1.frozen? ⟨bx, 7, none⟩ = false := by
  have i1 : W1.heap[bx]? = some (.cells (insC x v6 v7) 82 (0, 0)) := (hg.block _ (blk_lt h.ins) (fun e => h.r7.ne h.ins (by decide) e.symm)).trans h.ins
  exact ⟨blk_cell i1 7, blk_frozen i1 7⟩
theorem CS.grown6 {w0 wc W W1 : World} {g bx : Nat} {s : ByteArray} {t : RdS} {x : S82} {v6 v7 : Value} (h : CS w0 wc W g s t bx x v6 v7) (hg : W.grownBy W1 v6.ownBlock) : W1.cell? ⟨bx, 6, none⟩ = some v6 ∧ W1.frozen? ⟨bx, 6, none⟩ = false := by
  have i1 : W1.heap[bx]? = some (.cells (insC x v6 v7) 82 (0, 0)) := (hg.block _ (blk_lt h.ins) (fun e => h.r6.ne h.ins (by decide) e.symm)).trans h.ins
  exact ⟨blk_cell i1 6, blk_frozen i1 6⟩
theorem CS.start {w0 w : World} {g bx : Nat} {s : ByteArray} {t : RdS} {x : S82} (hI : RI w0 w g s t) (hx : w.heap[bx]? = some (.cells (insC x (.slice none 0 0) (.slice none 0 0)) 82 (0, 0))) (h6 : x.f6 = []) (h7 : x.f7 = []) (hn : w0.heap.size ≤ bx) :
    CS w0 w (w.alloc (.cells #[.pointer (some ⟨g, 0, none⟩)] 144)) g s t bx x (.slice none 0 0) (.slice none 0 0) := by
  have hb := below_alloc (Below.refl w.heap.size w) (.cells #[.pointer (some ⟨g, 0, none⟩)] 144)
  exact {
    ri := hI.below hb
    dec := Array.getElem?_push_size
    ins := (hb.block _ (blk_lt hx)).trans hx
    new := hn
    r6 := by rw [h6]; exact RW.nil _ _
    r7 := by rw [h7]; exact RW.nil _ _
    ap := fun k e => by simp [Value.ownBlock] at e
    kept := ⟨hb.size, fun i hi _ _ => hb.block i hi⟩ }
theorem ms_valD {k N : Nat} {v : Value} (h : k < N) (hv : v = .int .i64 ((k + 1 : Nat) : Int)) : N - (intOf v).toNat < N - (intOf (.int .i64 (k : Int))).toNat := by
  subst hv
  show N - (((k + 1 : Nat) : Int)).toNat < N - ((k : Int)).toNat
  rw [Int.toNat_natCast, Int.toNat_natCast]; omega
def ChoPost (w0 w : World) (g : Nat) (s : ByteArray) (bx : Nat) (p : S82 × RdS) (e : Ending) (w' : World) : Prop := e = .returned (.tuple #[]) ∧ ∃ v6 v7, CS w0 w w' g s p.2 bx p.1 v6 v7
theorem sgn_range (s : ByteArray) (t : RdS) : -2147483648 ≤ (sgnR s t 4).1 ∧ (sgnR s t 4).1 < 2147483648 := by
  have h := num_range s t 4 (by decide)
  have h2 : (numR s t 4).1 < 4294967296 := h.2
  have e4 : ((2 ^ (8 * 4 - 1) : Nat) : Int) = 2147483648 := by decide
  unfold sgnR signV
  rw [e4]
  split
  · constructor <;> (dsimp only; omega)
  · constructor <;> (dsimp only; omega)
theorem OKR.sgn {s : ByteArray} {t : RdS} (h : OKR s t) (n : Nat) : OKR s (sgnR s t n).2 := h.num n
theorem pad_done {s : ByteArray} {x0 : Int} {k : Nat} {t : RdS} (h : ¬ (t.1 % 4 ≠ 0 ∧ t.2.1 = 0)) : padR s x0 k t = t := by
  cases k with
  | zero => rfl
  | succ k => rw [padR, if_neg h]
theorem pad_more {s : ByteArray} {x0 : Int} {k : Nat} {t : RdS} (h : t.1 % 4 ≠ 0 ∧ t.2.1 = 0) (hk : (4 - t.1 % 4) % 4 ≤ (k : Int)) : ∃ j, k = j + 1 ∧ padR s x0 k t = padR s x0 j (if (numR s t 1).1 ≠ 0 then failR (numR s t 1).2 15 x0 else (numR s t 1).2) := by
  cases k with
  | zero => exfalso; have := h.1; omega
  | succ k => exact ⟨k, rfl, by rw [padR, if_pos h]⟩
theorem num1_err {s : ByteArray} {t : RdS} (h : t.2.1 = 0) : (numR s t 1).2.2.1 = 0 → (numR s t 1).2.1 = t.1 + 1 := by
  unfold numR
  rw [if_neg (fun e => e h)]
  split
  · intro e; cases e
  · intro _; rfl
theorem fail_err {t : RdS} {e p : Int} (he : e ≠ 0) : (failR t e p).2.1 = 0 → False := by
  unfold failR
  split
  · exact fun h => he h
  · exact fun h => ‹¬ _› h
end Go.Proofs.Ytfnjbmpolggdeaa.CD
end
section
namespace Go.Proofs.Ytfnjbmpolggdeaa.CD
open Go.RowKit Go.Lib Go.Proofs.YtfnjbmpolggdeaaW.PrintWords Go.Proofs.YtfnjbmpolggdeaaW.PrintLast Go.Proofs.YtfnjbmpolggdeaaW.PrintMore
set_option linter.unusedVariables false
set_option linter.unusedSimpArgs false
set_option maxHeartbeats 8000000 in
set_option maxRecDepth 100000 in
theorem cho_d10 (w0 w : World) (g : Nat) (s : ByteArray) (t : RdS) (bx : Nat) (x : S82) (ht : OKR s t) (hI : RI w0 w g s t) (hx : w.heap[bx]? = some (.cells (insC x (.slice none 0 0) (.slice none 0 0)) 82 (0, 0))) (h6 : x.f6 = []) (h7 : x.f7 = []) (hnew : w0.heap.size ≤ bx) :
    Calls Try.prog 142 #[.agg #[.pointer (some ⟨g, 0, none⟩)], .pointer (some ⟨bx, 0, none⟩), .int .i64 10] w (ChoPost w0 w g s bx (choD s x 10 t)) := by
  have H0 := Aside0.mk (CS.start hI hx h6 h7 hnew)
  have HO0 := Aside0.mk ht
  have HNW := Aside0.mk hnew
  have HWW := Aside0.mk hI.2.size
  have H67 := Aside0.mk (And.intro h6 h7)
  clear hI hx ht hnew h6 h7
  go_enter Try.func142, Try.ntmps142
  go_wp2_with fail
  go_loopw [20] (fun _ wr => ∃ (k : Nat) (t1 : RdS), Aside0 (CS w0 w wr g s t1 bx x (.slice none 0 0) (.slice none 0 0)) ∧ Aside0 (OKR s t1 ∧ (t1.2.1 = 0 → (4 - t1.1 % 4) % 4 ≤ (k : Int))) ∧ Aside0 (padR s x.f0 4 t = padR s x.f0 k t1)) (fun _ wr => padW g wr)
  case atStart => exact ⟨4, t, H0, ⟨HO0.out, fun _ => by omega⟩, ⟨rfl⟩⟩
  case round =>
    clear H0
    obtain ⟨k, t1, HS, HOK, HP⟩ := hrel
    have H1 := HS
    have HO1 := Aside0.mk HOK.out.1
    obtain ⟨d0_1, d1_1, d2_1, d3_1, d4_1, d5_1⟩ := H1.out.cells
    have HPW := Aside0.mk H1.out.ri.pad
    obtain ⟨a, er, es⟩ := t1
    obtain ⟨n, hn⟩ := Int.eq_ofNat_of_zero_le HO1.out.1
    dsimp only at hn
    subst hn
    have hr : Int.tmod (n : Int) 4 = ((n % 4 : Nat) : Int) := (Int.ofNat_tmod n 4).symm
    go_upto_region 1 with (fail)
    go_cut [20] from 10 to 19 (fun vv wc => vv = .bool (decide ((n : Int) % 4 ≠ 0 ∧ er = 0)) ∧ Aside0 (CS w0 w wc g s ((n : Int), er, es) bx x (.slice none 0 0) (.slice none 0 0)))
    case first =>
      as_aux_lemma =>
      by_cases c4 : n % 4 = 0
      · have b0 : (((n % 4 : Nat) : Int) != 0) = false := by rw [bne_eq_false_iff_eq]; omega
        have b1 : ((n : Int) % 4 != 0) = false := by rw [bne_eq_false_iff_eq]; omega
        go_wp2_with (first | (go_at_call 66; refine (at_any w0 _ g s _ H1.out.ri).mono ?_; rintro e2 w2 ⟨rfl, hI2, hk2⟩; have H2 := Aside0.mk (H1.out.rd hI2 hk2); obtain ⟨d0_2, d1_2, d2_2, d3_2, d4_2, d5_2⟩ := H2.out.cells; clear hI2 hk2) | go_in)
        go_meet
        case rel => exact ⟨by rw [decide_eq_false (by omega)], ⟨H2.out⟩⟩
      · have b0 : (((n % 4 : Nat) : Int) != 0) = true := by rw [bne_iff_ne]; omega
        have b1 : ((n : Int) % 4 != 0) = true := by rw [bne_iff_ne]; omega
        by_cases ce : er = 0
        · have b2 : (er != 0) = false := bne_eq_false_iff_eq.2 ce
          go_wp2_with (first | (go_at_call 66; refine (at_any w0 _ g s _ H1.out.ri).mono ?_; rintro e2 w2 ⟨rfl, hI2, hk2⟩; have H2 := Aside0.mk (H1.out.rd hI2 hk2); obtain ⟨d0_2, d1_2, d2_2, d3_2, d4_2, d5_2⟩ := H2.out.cells; clear hI2 hk2) | (go_at_call 70; refine (bad_any w0 _ g s _ H2.out.ri).mono ?_; rintro e3 w3 ⟨rfl, hI3, hk3⟩; have H3 := Aside0.mk (H2.out.rd hI3 hk3); obtain ⟨d0_3, d1_3, d2_3, d3_3, d4_3, d5_3⟩ := H3.out.cells; clear hI3 hk3) | go_in)
          go_meet
          case rel => exact ⟨by rw [decide_eq_true (by omega)], ⟨H3.out⟩⟩
        · have b2 : (er != 0) = true := bne_iff_ne.2 ce
          go_wp2_with (first | (go_at_call 66; refine (at_any w0 _ g s _ H1.out.ri).mono ?_; rintro e2 w2 ⟨rfl, hI2, hk2⟩; have H2 := Aside0.mk (H1.out.rd hI2 hk2); obtain ⟨d0_2, d1_2, d2_2, d3_2, d4_2, d5_2⟩ := H2.out.cells; clear hI2 hk2) | (go_at_call 70; refine (bad_any w0 _ g s _ H2.out.ri).mono ?_; rintro e3 w3 ⟨rfl, hI3, hk3⟩; have H3 := Aside0.mk (H2.out.rd hI3 hk3); obtain ⟨d0_3, d1_3, d2_3, d3_3, d4_3, d5_3⟩ := H3.out.cells; clear hI3 hk3) | go_in)
          go_meet
          case rel => exact ⟨by rw [decide_eq_false (by omega)], ⟨H3.out⟩⟩
    case rest =>
      obtain ⟨rfl, HC⟩ := hcut
      clear d0_1 d1_1 d2_1 d3_1 d4_1 d5_1
      clear HS H1 hr
      have H4 := HC
      have HO4 := HO1
      obtain ⟨d0_4, d1_4, d2_4, d3_4, d4_4, d5_4⟩ := H4.out.cells
      by_cases hc : (n : Int) % 4 ≠ 0 ∧ er = 0
      · rw [decide_eq_true hc]
        obtain ⟨j, hj, hpad⟩ := pad_more (s := s) (x0 := x.f0) (k := k) (t := ((n : Int), er, es)) hc (HOK.out.2 hc.2)
        have HPP := Aside0.mk (HP.out.trans hpad)
        have HJ := Aside0.mk hj
        have HCC := Aside0.mk hc
        clear hpad hj hc
        as_aux_lemma =>
        by_cases hv : (numR s ((n : Int), er, es) 1).1 = 0
        · have b3 : ((numR s ((n : Int), er, es) 1).1 != 0) = false := bne_eq_false_iff_eq.2 hv
          have HV := Aside0.mk hv
          clear hv
          go_wp2_with (first | (go_at_call 68; refine (num_any w0 _ g s _ 1 1 rfl (by decide) HO4.out H4.out.ri).mono ?_; rintro e5 w5 ⟨rfl, hI5, hk5⟩; have H5 := Aside0.mk (H4.out.rd hI5 hk5); obtain ⟨d0_5, d1_5, d2_5, d3_5, d4_5, d5_5⟩ := H5.out.cells; clear hI5 hk5) | go_in)
          go_roundw
          case rel =>
            refine ⟨j, (numR s ((n : Int), er, es) 1).2, ⟨H5.out⟩, ⟨HO4.out.num 1, fun he => ?_⟩, ⟨by rw [HPP.out, if_neg (fun h => h HV.out)]⟩⟩
            have h1 := num1_err (s := s) HCC.out.2 he
            have h2 := HOK.out.2 HCC.out.2
            have h3 := HCC.out.1
            have h4 := HJ.out
            rw [h1]
            dsimp only at h2 ⊢
            omega
          case measure =>
            rw [H5.out.ri.pad, HPW.out, if_pos HCC.out.2]
            have h3 := HCC.out.1
            split
            · have h1 := num1_err (s := s) HCC.out.2 ‹_›
              rw [h1]
              (try dsimp only)
              omega
            · (try dsimp only)
              omega
        · have b3 : ((numR s ((n : Int), er, es) 1).1 != 0) = true := bne_iff_ne.2 hv
          have HV := Aside0.mk hv
          clear hv
          go_upto_region 3 with (first | (go_at_call 68; refine (num_any w0 _ g s _ 1 1 rfl (by decide) HO4.out H4.out.ri).mono ?_; rintro e5 w5 ⟨rfl, hI5, hk5⟩; have H5 := Aside0.mk (H4.out.rd hI5 hk5); obtain ⟨d0_5, d1_5, d2_5, d3_5, d4_5, d5_5⟩ := H5.out.cells; clear hI5 hk5) | go_in)
          go_region_held3 (fun w' => w'.cell? ⟨w.heap.size, 0, none⟩ = some (.pointer (some ⟨g, 0, none⟩)) ∧ w'.cell? ⟨bx, 0, none⟩ = some (.int .i64 x.f0)) (first | exact ⟨d0_5, d1_5⟩ | exact ⟨q1, q2⟩) ((go_at_call 73; first | (refine (fail_any w0 _ g s ((numR s ((n : Int), er, es) 1).2) 15 (x.f0) (H5.out.ri.below (by first | exact drewB _ | exact below_drew (Below.refl _ _)))).mono ?_; rintro e6 w6 ⟨rfl, hI6, hk6⟩; have q1 := (H5.out.drew.rd hI6 hk6).cells.1; have q2 := (H5.out.drew.rd hI6 hk6).cells.2.1)))
          all_goals
            have H6 := Aside0.mk (H5.out.drew.rd hI6 hk6)
            clear hI6 hk6
            try clear q1 q2
            go_wp2
            go_roundw
            case rel =>
              refine ⟨j, _, ⟨H6.out⟩, ⟨(HO4.out.num 1).fail _ _, fun he => (fail_err (by decide) he).elim⟩, ⟨by rw [HPP.out, if_pos HV.out]⟩⟩
            case measure =>
              rw [H6.out.ri.pad, HPW.out, if_pos HCC.out.2, if_neg (fun he => fail_err (by decide) he)]
              have h3 := HCC.out.1
              (try dsimp only)
              omega
      · rw [decide_eq_false hc]
        have HPE := Aside0.mk (HP.out.trans (pad_done hc))
        clear hc HPW
        as_aux_lemma =>
        generalize htp : ((n : Int), er, es) = tp at *
        clear htp
        go_wp2_with fail
        have HD := Aside0.mk H4.out.drew
        clear d0_4 d1_4 d2_4 d3_4 d4_4 d5_4
        refine start_ (n := 12) (S := fun w' => w'.cell? ⟨bx, 0, none⟩ = some (.int .i64 x.f0) ∧ w'.cell? ⟨w.heap.size, 0, none⟩ = some (.pointer (some ⟨g, 0, none⟩))) (ds := [11]) #[false, false, false, false, false, false, false, false, false, false, false, false] (by kernel_rfl) rfl rfl ⟨(HD.out).cells.2.1, (HD.out).cells.1⟩ (fun hHeld => ?_)
        refine pure_ (i := 0) (N := some 32) (v := ?_) (a' := ?_) #[true, false, false, false, false, false, false, false, false, false, false, false] rfl rfl (by kernel_rfl) (fun _ _ _ h => h) (Or.inl ⟨by rfl, ?_⟩) ?_ ?_
        rotate_left
        · intro w'
          go_simp
          with_reducible rfl
        rotate_left
        · simp only [Act.put, List.setIfInBounds_toArray, List.set_cons_zero, List.set_cons_succ, i64_w, i32_w]
          rfl
        refine pure_ (i := 1) (N := some 33) (v := ?_) (a' := ?_) #[true, true, false, false, false, false, false, false, false, false, false, false] rfl rfl (by kernel_rfl) (fun _ _ _ h => h) (Or.inl ⟨by rfl, ?_⟩) ?_ ?_
        rotate_left
        · intro w'
          go_simp
          with_reducible rfl
        rotate_left
        · simp only [Act.put, List.setIfInBounds_toArray, List.set_cons_zero, List.set_cons_succ, i64_w, i32_w]
          rfl
        refine pure_ (i := 2) (N := some 34) (v := ?_) (a' := ?_) #[true, true, true, false, false, false, false, false, false, false, false, false] rfl rfl (by kernel_rfl) (fun _ _ _ h => h) (Or.inl ⟨by rfl, ?_⟩) ?_ ?_
        rotate_left
        · intro w'
          go_simp
          with_reducible rfl
        rotate_left
        · simp only [Act.put, List.setIfInBounds_toArray, List.set_cons_zero, List.set_cons_succ, i64_w, i32_w]
          rfl
        refine pure_ (i := 3) (N := some 35) (v := ?_) (a' := ?_) #[true, true, true, true, false, false, false, false, false, false, false, false] rfl rfl (by kernel_rfl) (fun _ _ _ h => h) (Or.inl ⟨by rfl, ?_⟩) ?_ ?_
        rotate_left
        · intro w'
          go_simp
          with_reducible rfl
        rotate_left
        · simp only [Act.put, List.setIfInBounds_toArray, List.set_cons_zero, List.set_cons_succ, i64_w, i32_w]
          rfl
        refine take_ (i := 4) (N := some 36) (v := ?_) (a' := ?_) #[true, true, true, true, true, false, false, false, false, false, false, false] rfl rfl (by kernel_rfl) (fun _ _ _ h => h) (Or.inl ⟨by rfl, ?_⟩) hHeld ?_ ?_
        rotate_left
        · rintro w' ⟨s0, s1⟩
          go_simp
          with_reducible rfl
        rotate_left
        · simp only [Act.put, List.setIfInBounds_toArray, List.set_cons_zero, List.set_cons_succ, i64_w, i32_w]
          rfl
        refine take_ (i := 5) (N := some 37) (v := ?_) (a' := ?_) #[true, true, true, true, true, true, false, false, false, false, false, false] rfl rfl (by kernel_rfl) (fun _ _ _ h => h) (Or.inl ⟨by rfl, ?_⟩) hHeld ?_ ?_
        rotate_left
        · rintro w' ⟨s0, s1⟩
          go_simp
          with_reducible rfl
        rotate_left
        · simp only [Act.put, List.setIfInBounds_toArray, List.set_cons_zero, List.set_cons_succ, i64_w, i32_w]
          rfl
        refine one_ (i := 6) (N := some 38) #[true, true, true, true, true, true, true, false, false, false, false, false] rfl rfl (by kernel_rfl) (by decide) (fun K hK => ?_)
        refine goes_ Try.func124 (by kernel_rfl) rfl #[.agg #[.pointer (some ⟨g, 0, none⟩)], .int .i64 4] (by rfl) rfl rfl (by simp only [List.map_toArray, List.map_cons, List.map_nil]; rfl) ?_
        with_reducible refine (signed_d w0 _ g s (tp) 4 4 rfl (.inr (.inr rfl)) HO4.out HD.out.ri).mono ?_
        rintro e6 w6 ⟨rfl, hI6, hk6⟩
        refine ⟨_, rfl, ?_⟩
        have HQ := Aside0.mk (HD.out.rd hI6 hk6)
        clear hI6 hk6
        refine hK.out _ _ ⟨(HQ.out).cells.2.1, (HQ.out).cells.1⟩ (fun hHeld => ?_)
        clear hK K
        refine norm_ (a' := ?_) ?_ ?_
        rotate_left
        · show Act.put _ (some 38) _ = _
          simp only [Act.put, List.setIfInBounds_toArray, List.set_cons_zero, List.set_cons_succ, i64_w, i32_w]
          rfl
        refine pure_ (i := 7) (N := some 39) (v := ?_) (a' := ?_) #[true, true, true, true, true, true, true, true, false, false, false, false] rfl rfl (by kernel_rfl) (fun _ _ _ h => h) (Or.inl ⟨by rfl, ?_⟩) ?_ ?_
        rotate_left
        · intro w'
          go_simp
          with_reducible rfl
        rotate_left
        · simp only [Act.put, List.setIfInBounds_toArray, List.set_cons_zero, List.set_cons_succ, i64_w, i32_w]
          rfl
        refine one_ (i := 8) (N := some 40) #[true, true, true, true, true, true, true, true, true, false, false, false] rfl rfl (by kernel_rfl) (by decide) (fun K hK => ?_)
        refine value_ (w1 := ?_) (v := ?_) (by rfl) rfl ?_ ?_
        rotate_left 2
        · go_simp
          constructor
          · rfl
          · rfl
        refine hK.out _ _ ⟨(pw_cell_below (below_alloc (Below.refl _ _) _) (HQ.out).cells.2.1), (pw_cell_below (below_alloc (Below.refl _ _) _) (HQ.out).cells.1)⟩ (fun hHeld => ?_)
        clear hK K
        refine norm_ (a' := ?_) ?_ ?_
        rotate_left
        · show Act.put _ (some 40) _ = _
          simp only [Act.put, List.setIfInBounds_toArray, List.set_cons_zero, List.set_cons_succ, i64_w, i32_w]
          rfl
        refine pure_ (i := 9) (N := some 41) (v := ?_) (a' := ?_) #[true, true, true, true, true, true, true, true, true, true, false, false] rfl rfl (by kernel_rfl) (fun _ _ _ h => h) (Or.inl ⟨by rfl, ?_⟩) ?_ ?_
        rotate_left
        · intro w'
          go_simp
          with_reducible rfl
        rotate_left
        · simp only [Act.put, List.setIfInBounds_toArray, List.set_cons_zero, List.set_cons_succ, i64_w, i32_w]
          rfl
        refine pure_ (i := 10) (N := some 42) (v := ?_) (a' := ?_) #[true, true, true, true, true, true, true, true, true, true, true, false] rfl rfl (by kernel_rfl) (fun _ _ _ h => h) (Or.inl ⟨by rfl, ?_⟩) ?_ ?_
        rotate_left
        · intro w'
          go_simp
          with_reducible rfl
        rotate_left
        · simp only [Act.put, List.setIfInBounds_toArray, List.set_cons_zero, List.set_cons_succ, i64_w, i32_w]
          rfl
        refine last_ (i := 11) (N := none) #[true, true, true, true, true, true, true, true, true, true, true, true] rfl rfl (by kernel_rfl) (by decide) (fun K hK => ?_)
        have ca7 := fun o => (HQ.out.below (below_alloc (Below.refl w6.heap.size w6) o)).cells.2.2.2.2.1
        have cf7 := fun o => (HQ.out.below (below_alloc (Below.refl w6.heap.size w6) o)).cells.2.2.2.2.2 7
        refine skip_ (w1 := ?_) (by rfl) rfl ?_ ?_
        rotate_left
        · go_simp
          rfl
        refine hK.out _ _ ?_
        clear hK K
        refine done_ (by kernel_rfl) ?_
        have H7 := Aside0.mk (HQ.out.put7 (Below.refl _ _) (World.grownBy_alloc _ (.cells #[.int .i64 (wrap64 (x.f0 + (sgnR s tp 4).1))] 3) _) (RW.lit _ _ (wrap64 (x.f0 + (sgnR s tp 4).1)) HQ.out.kept.1) (.inr ⟨_, rfl, Nat.le_refl _⟩) HWW.out)
        obtain ⟨y, hy⟩ : ∃ y, (⟨x.f0, x.f1, x.f2, x.f3, x.f4, x.f5, x.f6, [wrap64 (x.f0 + (sgnR s tp 4).1)]⟩ : S82) = y := ⟨_, rfl⟩
        rw [hy] at H7
        have HY := Aside0.mk (show y.f6 = [] ∧ y.f7.length = 1 by rw [← hy]; exact ⟨H67.out.1, rfl⟩)
        have HHD := Aside0.mk (show headD s x t = (y, (sgnR s tp 4).2) by unfold headD; rw [HPE.out, hy])
        have HO7 := Aside0.mk (HO4.out.sgn 4)
        clear hy HQ HD H4 HO4 HPE ca7 cf7
        try clear hHeld
        generalize World.setCell _ ⟨bx, 7, none⟩ _ = W7 at *
        generalize (sgnR s tp 4).2 = t7 at *
        obtain ⟨d0_7, d1_7, d2_7, d3_7, d4_7, d5_7⟩ := H7.out.cells
        go_upto_region 8 with (first | (go_at_call 124; refine (signed_d w0 _ g s t7 4 4 rfl (.inr (.inr rfl)) HO7.out H7.out.ri).mono ?_; rintro e8 w8 ⟨rfl, hI8, hk8⟩; have H8 := Aside0.mk (H7.out.rd hI8 hk8); obtain ⟨d0_8, d1_8, d2_8, d3_8, d4_8, d5_8⟩ := H8.out.cells; clear hI8 hk8) | go_in)
        have HO8 := Aside0.mk (HO7.out.sgn 4)
        have H9 := Aside0.mk (H8.out.set 5 (.int .i64 (sgnR s t7 4).1) (⟨y.f0, y.f1, y.f2, y.f3, y.f4, (sgnR s t7 4).1, y.f6, y.f7⟩ : S82) rfl rfl rfl)
        clear d0_7 d1_7 d2_7 d3_7 d4_7 d5_7
        clear d0_8 d1_8 d2_8 d3_8 d4_8 d5_8
        have HRA := Aside0.mk (sgn_range s t7)
        clear H7 H8
        generalize World.setCell _ ⟨bx, 5, none⟩ _ = W9 at *
        have HCH := Aside0.mk (show choD s x 10 t = choD10 s y (sgnR s t7 4).1 (sgnR s (sgnR s t7 4).2 4).1 (sgnR s (sgnR s t7 4).2 4).2 by unfold choD; rw [if_pos rfl, HHD.out])
        generalize (sgnR s t7 4).1 = va at *
        generalize (sgnR s t7 4).2 = t9 at *
        have HRB := Aside0.mk (sgn_range s t9)
        have HO9 := HO8
        obtain ⟨d0_9, d1_9, d2_9, d3_9, d4_9, d5_9⟩ := H9.out.cells
        by_cases hlt : (sgnR s t9 4).1 < va
        · have bl : decide ((sgnR s t9 4).1 < va) = true := decide_eq_true hlt
          have HLT := Aside0.mk hlt
          clear hlt
          as_aux_lemma =>
          go_upto_region 10 with (first | (go_at_call 124; refine (signed_d w0 _ g s t9 4 4 rfl (.inr (.inr rfl)) HO9.out H9.out.ri).mono ?_; rintro e10 w10 ⟨rfl, hI10, hk10⟩; have H10 := Aside0.mk (H9.out.rd hI10 hk10); obtain ⟨d0_10, d1_10, d2_10, d3_10, d4_10, d5_10⟩ := H10.out.cells; clear hI10 hk10) | go_in)
          go_region_held3 (fun w' => w'.cell? ⟨w.heap.size, 0, none⟩ = some (.pointer (some ⟨g, 0, none⟩)) ∧ w'.cell? ⟨bx, 0, none⟩ = some (.int .i64 y.f0)) (first | exact ⟨d0_10, d1_10⟩ | exact ⟨q1, q2⟩) ((go_at_call 73; first | (refine (fail_any w0 _ g s ((sgnR s t9 4).2) 15 (y.f0) (H10.out.ri.below (by first | exact drewB _ | exact below_drew (Below.refl _ _)))).mono ?_; rintro e11 w11 ⟨rfl, hI11, hk11⟩; have q1 := (H10.out.drew.rd hI11 hk11).cells.1; have q2 := (H10.out.drew.rd hI11 hk11).cells.2.1)))
          all_goals
            have H11 := Aside0.mk (H10.out.drew.rd hI11 hk11)
            clear hI11 hk11
            try clear q1 q2
            go_wp2
            go_end0
            rw [HCH.out, choD10, if_pos HLT.out]
            exact ⟨rfl, _, _, H11.out⟩
        · have bl : decide ((sgnR s t9 4).1 < va) = false := decide_eq_false hlt
          have e1 : wrap64 ((sgnR s t9 4).1 - va) = (sgnR s t9 4).1 - va := by rw [← i64_w, IntKind.wrap_i64]; have := HRA.out; have := HRB.out; omega
          obtain ⟨N, hN⟩ : ∃ N : Nat, (sgnR s t9 4).1 - va + 1 = (N : Int) := ⟨((sgnR s t9 4).1 - va + 1).toNat, by omega⟩
          have HN := Aside0.mk (show N ≤ 4294967296 by have := HRA.out; have := HRB.out; omega)
          have HCN := Aside0.mk (show choD s x 10 t = rowsD s 10 N 0 (⟨y.f0, y.f1, y.f2, y.f3, y.f4, va, y.f6, y.f7⟩ : S82) (sgnR s t9 4).2 by rw [HCH.out, choD10, if_neg hlt, hN, Int.toNat_natCast])
          have e2 : wrap64 (N : Int) = (N : Int) := by rw [← i64_w, IntKind.wrap_i64]; have := HN.out; omega
          have b5 : decide ((N : Int) < 0) = false := decide_eq_false (by omega)
          clear hlt
          go_upto_region 14 with (first | (go_at_call 124; refine (signed_d w0 _ g s t9 4 4 rfl (.inr (.inr rfl)) HO9.out H9.out.ri).mono ?_; rintro e10 w10 ⟨rfl, hI10, hk10⟩; have H10 := Aside0.mk (H9.out.rd hI10 hk10); obtain ⟨d0_10, d1_10, d2_10, d3_10, d4_10, d5_10⟩ := H10.out.cells; clear hI10 hk10) | go_in)
          have HO10 := Aside0.mk (HO9.out.sgn 4)
          rw [e2]
          clear e1 e2 b5 hN bl H9 HCH HHD
          clear d0_9 d1_9 d2_9 d3_9 d4_9 d5_9
          clear d0_10 d1_10 d2_10 d3_10 d4_10 d5_10
          have HY2 := Aside0.mk (show (⟨y.f0, y.f1, y.f2, y.f3, y.f4, va, y.f6, y.f7⟩ : S82).f6 = [] ∧ (⟨y.f0, y.f1, y.f2, y.f3, y.f4, va, y.f6, y.f7⟩ : S82).f7.length = 1 from HY.out)
          clear HY
          generalize (⟨y.f0, y.f1, y.f2, y.f3, y.f4, va, y.f6, y.f7⟩ : S82) = z at *
          generalize (sgnR s t9 4).2 = tz at *
          go_wp2_with fail
          go_loopw [8] (fun i wr => ∃ (k r : Nat) (z2 : S82) (t2 : RdS) (v6 v7 : Value), k + r = N ∧ i = .int .i64 k ∧ Aside0 (CS w0 w wr g s t2 bx z2 v6 v7) ∧ Aside0 (OKR s t2) ∧ Aside0 (z2.f7.length = k + 1) ∧ Aside0 (choD s x 10 t = rowsD s 10 r k z2 t2)) (fun i _ => N - (intOf i).toNat)
          case atStart => exact ⟨0, N, z, tz, _, _, Nat.zero_add N, rfl, H10, HO10, ⟨HY2.out.2⟩, HCN⟩
          case round =>
            clear H10 HO10 HCN HY2
            obtain ⟨k, r, z2, t2, v6, v7, hkr, rfl, H1, HO1, HLN, HC⟩ := hrel
            obtain ⟨d0_1, d1_1, d2_1, d3_1, d4_1, d5_1⟩ := H1.out.cells
            obtain ⟨aa, er, es⟩ := t2
            go_upto_region 15 with (fail)
            go_cut [90] from 82 to 89 (fun vv wc => vv = .bool (decide (k < N ∧ er = 0)) ∧ Aside0 (CS w0 w wc g s (aa, er, es) bx z2 v6 v7))
            case first =>
              as_aux_lemma =>
              by_cases ck : k < N
              · have b1 : decide ((k : Int) < (N : Int)) = true := decide_eq_true (by omega)
                by_cases ce : er = 0
                · have b2 : (er != 0) = false := bne_eq_false_iff_eq.2 ce
                  go_wp2_with (first | (go_at_call 70; refine (bad_any w0 _ g s _ H1.out.ri).mono ?_; rintro e3 w3 ⟨rfl, hI3, hk3⟩; have H3 := Aside0.mk (H1.out.rd hI3 hk3); obtain ⟨d0_3, d1_3, d2_3, d3_3, d4_3, d5_3⟩ := H3.out.cells; clear hI3 hk3) | go_in)
                  go_meet
                  case rel => exact ⟨by rw [decide_eq_true ⟨ck, ce⟩], ⟨H3.out⟩⟩
                · have b2 : (er != 0) = true := bne_iff_ne.2 ce
                  go_wp2_with (first | (go_at_call 70; refine (bad_any w0 _ g s _ H1.out.ri).mono ?_; rintro e3 w3 ⟨rfl, hI3, hk3⟩; have H3 := Aside0.mk (H1.out.rd hI3 hk3); obtain ⟨d0_3, d1_3, d2_3, d3_3, d4_3, d5_3⟩ := H3.out.cells; clear hI3 hk3) | go_in)
                  go_meet
                  case rel => exact ⟨by rw [decide_eq_false (fun h => ce h.2)], ⟨H3.out⟩⟩
              · have b1 : decide ((k : Int) < (N : Int)) = false := decide_eq_false (by omega)
                go_wp2
                go_meet
                case rel => exact ⟨by rw [decide_eq_false (fun h => ck h.1)], ⟨H1.out⟩⟩
            case rest =>
              obtain ⟨rfl, HCT⟩ := hcut
              clear d0_1 d1_1 d2_1 d3_1 d4_1 d5_1
              clear H1
              have H4 := HCT
              have HO4 := HO1
              obtain ⟨d0_4, d1_4, d2_4, d3_4, d4_4, d5_4⟩ := H4.out.cells
              by_cases hc : k < N ∧ er = 0
              · rw [decide_eq_true hc]
                obtain ⟨r2, hr2⟩ : ∃ r2, r = r2 + 1 := ⟨r - 1, by omega⟩
                subst hr2
                have HKN := Aside0.mk hc.1
                have HER := Aside0.mk hc.2
                have HKR := Aside0.mk hkr
                have wk : wrap64 ((k : Int) + 1) = ((k + 1 : Nat) : Int) := by rw [← i64_w, IntKind.wrap_i64]; have := HN.out; omega
                have WN := Aside0.mk (congrArg (Value.int IntKind.i64) wk)
                have WI := Aside0.mk wk
                clear wk hc hkr
                as_aux_lemma =>
                have HCC : Aside0 (choD s x 10 t = rowsD s 10 r2 (k + 1) (⟨z2.f0, z2.f1, z2.f2, z2.f3, z2.f4, z2.f5, z2.f6, z2.f7 ++ [wrap64 (z2.f0 + (sgnR s (aa, er, es) 4).1)]⟩ : S82) (sgnR s (aa, er, es) 4).2) := ⟨by rw [HC.out, rowsD, if_neg (fun h => h HER.out), if_neg (by decide)]⟩
                have HLX := Aside0.mk (show (z2.f7.length + 1) * 8 ≤ 140737488355328 by have := HLN.out; have := HN.out; have := HKN.out; omega)
                go_upto_region 22 with (fail)
                have HD := Aside0.mk H4.out.drew
                clear d0_4 d1_4 d2_4 d3_4 d4_4 d5_4
                refine start_ (n := 17) (S := fun w' => w'.cell? ⟨bx, 0, none⟩ = some (.int .i64 z2.f0) ∧ w'.cell? ⟨w.heap.size, 0, none⟩ = some (.pointer (some ⟨g, 0, none⟩)) ∧ w'.cell? ⟨bx, 7, none⟩ = some v7) (ds := [13, 16]) #[false, false, false, false, false, false, false, false, false, false, false, false, false, false, false, false, false] (by kernel_rfl) rfl rfl ⟨(HD.out).cells.2.1, (HD.out).cells.1, (HD.out).cells.2.2.2.2.1⟩ (fun hHeld => ?_)
                refine pure_ (i := 0) (N := some 128) (v := ?_) (a' := ?_) #[true, false, false, false, false, false, false, false, false, false, false, false, false, false, false, false, false] rfl rfl (by kernel_rfl) (fun _ _ _ h => h) (Or.inl ⟨by rfl, ?_⟩) ?_ ?_
                rotate_left
                · intro w'
                  go_simp
                  with_reducible rfl
                rotate_left
                · simp only [Act.put, List.setIfInBounds_toArray, List.set_cons_zero, List.set_cons_succ, i64_w, i32_w]
                  rfl
                refine pure_ (i := 1) (N := some 129) (v := ?_) (a' := ?_) #[true, true, false, false, false, false, false, false, false, false, false, false, false, false, false, false, false] rfl rfl (by kernel_rfl) (fun _ _ _ h => h) (Or.inl ⟨by rfl, ?_⟩) ?_ ?_
                rotate_left
                · intro w'
                  go_simp
                  with_reducible rfl
                rotate_left
                · simp only [Act.put, List.setIfInBounds_toArray, List.set_cons_zero, List.set_cons_succ, i64_w, i32_w]
                  rfl
                refine pure_ (i := 2) (N := some 130) (v := ?_) (a' := ?_) #[true, true, true, false, false, false, false, false, false, false, false, false, false, false, false, false, false] rfl rfl (by kernel_rfl) (fun _ _ _ h => h) (Or.inl ⟨by rfl, ?_⟩) ?_ ?_
                rotate_left
                · intro w'
                  go_simp
                  with_reducible rfl
                rotate_left
                · simp only [Act.put, List.setIfInBounds_toArray, List.set_cons_zero, List.set_cons_succ, i64_w, i32_w]
                  rfl
                refine pure_ (i := 3) (N := some 131) (v := ?_) (a' := ?_) #[true, true, true, true, false, false, false, false, false, false, false, false, false, false, false, false, false] rfl rfl (by kernel_rfl) (fun _ _ _ h => h) (Or.inl ⟨by rfl, ?_⟩) ?_ ?_
                rotate_left
                · intro w'
                  go_simp
                  with_reducible rfl
                rotate_left
                · simp only [Act.put, List.setIfInBounds_toArray, List.set_cons_zero, List.set_cons_succ, i64_w, i32_w]
                  rfl
                refine pure_ (i := 5) (N := some 133) (v := ?_) (a' := ?_) #[true, true, true, true, false, true, false, false, false, false, false, false, false, false, false, false, false] rfl rfl (by kernel_rfl) (fun _ _ _ h => h) (Or.inl ⟨by rfl, ?_⟩) ?_ ?_
                rotate_left
                · intro w'
                  go_simp
                  with_reducible rfl
                rotate_left
                · simp only [Act.put, List.setIfInBounds_toArray, List.set_cons_zero, List.set_cons_succ, i64_w, i32_w]
                  rfl
                refine pure_ (i := 6) (N := some 134) (v := ?_) (a' := ?_) #[true, true, true, true, false, true, true, false, false, false, false, false, false, false, false, false, false] rfl rfl (by kernel_rfl) (fun _ _ _ h => h) (Or.inl ⟨by rfl, ?_⟩) ?_ ?_
                rotate_left
                · intro w'
                  go_simp
                  with_reducible rfl
                rotate_left
                · simp only [Act.put, List.setIfInBounds_toArray, List.set_cons_zero, List.set_cons_succ, i64_w, i32_w]
                  rfl
                refine pure_ (i := 7) (N := some 135) (v := ?_) (a' := ?_) #[true, true, true, true, false, true, true, true, false, false, false, false, false, false, false, false, false] rfl rfl (by kernel_rfl) (fun _ _ _ h => h) (Or.inl ⟨by rfl, ?_⟩) ?_ ?_
                rotate_left
                · intro w'
                  go_simp
                  with_reducible rfl
                rotate_left
                · simp only [Act.put, List.setIfInBounds_toArray, List.set_cons_zero, List.set_cons_succ, i64_w, i32_w]
                  rfl
                refine take_ (i := 4) (N := some 132) (v := ?_) (a' := ?_) #[true, true, true, true, true, true, true, true, false, false, false, false, false, false, false, false, false] rfl rfl (by kernel_rfl) (fun _ _ _ h => h) (Or.inl ⟨by rfl, ?_⟩) hHeld ?_ ?_
                rotate_left
                · rintro w' ⟨s0, s1, s2⟩
                  go_simp
                  with_reducible rfl
                rotate_left
                · simp only [Act.put, List.setIfInBounds_toArray, List.set_cons_zero, List.set_cons_succ, i64_w, i32_w]
                  rfl
                refine take_ (i := 8) (N := some 136) (v := ?_) (a' := ?_) #[true, true, true, true, true, true, true, true, true, false, false, false, false, false, false, false, false] rfl rfl (by kernel_rfl) (fun _ _ _ h => h) (Or.inl ⟨by rfl, ?_⟩) hHeld ?_ ?_
                rotate_left
                · rintro w' ⟨s0, s1, s2⟩
                  go_simp
                  with_reducible rfl
                rotate_left
                · simp only [Act.put, List.setIfInBounds_toArray, List.set_cons_zero, List.set_cons_succ, i64_w, i32_w]
                  rfl
                refine take_ (i := 9) (N := some 137) (v := ?_) (a' := ?_) #[true, true, true, true, true, true, true, true, true, true, false, false, false, false, false, false, false] rfl rfl (by kernel_rfl) (fun _ _ _ h => h) (Or.inl ⟨by rfl, ?_⟩) hHeld ?_ ?_
                rotate_left
                · rintro w' ⟨s0, s1, s2⟩
                  go_simp
                  with_reducible rfl
                rotate_left
                · simp only [Act.put, List.setIfInBounds_toArray, List.set_cons_zero, List.set_cons_succ, i64_w, i32_w]
                  rfl
                refine one_ (i := 10) (N := some 138) #[true, true, true, true, true, true, true, true, true, true, true, false, false, false, false, false, false] rfl rfl (by kernel_rfl) (by decide) (fun K hK => ?_)
                refine goes_ Try.func124 (by kernel_rfl) rfl #[.agg #[.pointer (some ⟨g, 0, none⟩)], .int .i64 4] (by rfl) rfl rfl (by simp only [List.map_toArray, List.map_cons, List.map_nil]; rfl) ?_
                with_reducible refine (signed_d w0 _ g s ((aa, er, es)) 4 4 rfl (.inr (.inr rfl)) HO4.out HD.out.ri).mono ?_
                rintro e6 w6 ⟨rfl, hI6, hk6⟩
                refine ⟨_, rfl, ?_⟩
                have HQ := Aside0.mk (HD.out.rd hI6 hk6)
                clear hI6 hk6
                refine hK.out _ _ ⟨(HQ.out).cells.2.1, (HQ.out).cells.1, (HQ.out).cells.2.2.2.2.1⟩ (fun hHeld => ?_)
                clear hK K
                refine norm_ (a' := ?_) ?_ ?_
                rotate_left
                · show Act.put _ (some 138) _ = _
                  simp only [Act.put, List.setIfInBounds_toArray, List.set_cons_zero, List.set_cons_succ, i64_w, i32_w]
                  rfl
                refine pure_ (i := 11) (N := some 139) (v := ?_) (a' := ?_) #[true, true, true, true, true, true, true, true, true, true, true, true, false, false, false, false, false] rfl rfl (by kernel_rfl) (fun _ _ _ h => h) (Or.inl ⟨by rfl, ?_⟩) ?_ ?_
                rotate_left
                · intro w'
                  go_simp
                  with_reducible rfl
                rotate_left
                · simp only [Act.put, List.setIfInBounds_toArray, List.set_cons_zero, List.set_cons_succ, i64_w, i32_w]
                  rfl
                refine one_ (i := 12) (N := some 140) #[true, true, true, true, true, true, true, true, true, true, true, true, true, false, false, false, false] rfl rfl (by kernel_rfl) (by decide) (fun K hK => ?_)
                refine value_ (w1 := ?_) (v := ?_) (by rfl) rfl ?_ ?_
                rotate_left 2
                · go_simp
                  constructor
                  · rfl
                  · rfl
                refine hK.out _ _ ⟨(pw_cell_below (below_alloc (Below.refl _ _) _) (HQ.out).cells.2.1), (pw_cell_below (below_alloc (Below.refl _ _) _) (HQ.out).cells.1), (pw_cell_below (below_alloc (Below.refl _ _) _) (HQ.out).cells.2.2.2.2.1)⟩ (fun hHeld => ?_)
                clear hK K
                refine norm_ (a' := ?_) ?_ ?_
                rotate_left
                · show Act.put _ (some 140) _ = _
                  simp only [Act.put, List.setIfInBounds_toArray, List.set_cons_zero, List.set_cons_succ, i64_w, i32_w]
                  rfl
                refine last_ (i := 13) (N := some 141) #[true, true, true, true, true, true, true, true, true, true, true, true, true, true, false, false, false] rfl rfl (by kernel_rfl) (by decide) (fun K hK => ?_)
                refine Kd.R_append_step (Kd.int .i64) (w0 := w6) w.heap.size (by rfl) (.tmp 132) (.tmp 140) 22 3 (.int .i64 0) 8 rfl Try.underlying22 infoInt rfl (by decide) (by omega) v7 z2.f7 (wrap64 (z2.f0 + (sgnR s (aa, er, es) 4).1)) [.int .i64 (wrap64 (z2.f0 + (sgnR s (aa, er, es) 4).1))] (fun _ => True) (fun _ => False) rfl rfl rfl (fun _ h => h.elim) (fun _ _ => trivial) HQ.out.r7 (Below.refl _ _) HQ.out.kept.1 HLX.out ?_
                intro v7' w7' hr7 hb7 hg7 hat7
                obtain ⟨A8, c8, hv8⟩ := Kd.R_slice hr7
                simp only [List.length_append, List.length_cons, List.length_nil, Nat.zero_add] at hv8
                subst hv8
                refine hK.out _ _ ?_
                clear hK K
                refine norm_ (a' := ?_) ?_ ?_
                rotate_left
                · show Act.put _ (some 141) _ = _
                  simp only [Act.put, List.setIfInBounds_toArray, List.set_cons_zero, List.set_cons_succ, i64_w, i32_w]
                  rfl
                refine pure_ (i := 14) (N := some 142) (v := ?_) (a' := ?_) #[true, true, true, true, true, true, true, true, true, true, true, true, true, true, true, false, false] rfl rfl (by kernel_rfl) (fun _ _ _ h => h) (Or.inl ⟨by rfl, ?_⟩) ?_ ?_
                rotate_left
                · intro w'
                  go_simp
                  with_reducible rfl
                rotate_left
                · simp only [Act.put, List.setIfInBounds_toArray, List.set_cons_zero, List.set_cons_succ, i64_w, i32_w]
                  rfl
                refine pure_ (i := 15) (N := some 143) (v := ?_) (a' := ?_) #[true, true, true, true, true, true, true, true, true, true, true, true, true, true, true, true, false] rfl rfl (by kernel_rfl) (fun _ _ _ h => h) (Or.inl ⟨by rfl, ?_⟩) ?_ ?_
                rotate_left
                · intro w'
                  go_simp
                  with_reducible rfl
                rotate_left
                · simp only [Act.put, List.setIfInBounds_toArray, List.set_cons_zero, List.set_cons_succ, i64_w, i32_w]
                  rfl
                refine last_ (i := 16) (N := none) #[true, true, true, true, true, true, true, true, true, true, true, true, true, true, true, true, true] rfl rfl (by kernel_rfl) (by decide) (fun K hK => ?_)
                have cg7 := HQ.out.grown7 hg7
                have ca7 := cg7.1
                have cf7 := cg7.2
                refine skip_ (w1 := ?_) (by rfl) rfl ?_ ?_
                rotate_left
                · go_simp
                  rfl
                refine hK.out _ _ ?_
                clear hK K
                refine done_ (by kernel_rfl) ?_
                have H7 := Aside0.mk (HQ.out.put7 (Below.refl _ _) hg7 hr7 hat7 HWW.out)
                clear HQ HD H4 ca7 cf7 cg7 hg7 hat7 hb7 hr7
                try clear hHeld
                go_wp2
                go_roundw
                case rel => exact ⟨k + 1, r2, _, _, v6, _, by have := HKR.out; omega, by first | exact WN.out | exact WI.out, H7, ⟨HO4.out.sgn 4⟩, ⟨by rw [List.length_append, HLN.out]; rfl⟩, HCC⟩
                case measure => exact ms_valD HKN.out WN.out
              · rw [decide_eq_false hc]
                have HE : Aside0 (choD s x 10 t = (z2, (aa, er, es))) := ⟨by
                  rw [HC.out]
                  cases r with
                  | zero => rfl
                  | succ r => rw [rowsD, if_pos (fun h => hc ⟨by omega, h⟩)]⟩
                clear hc
                as_aux_lemma =>
                go_wp2
                go_end0
                rw [HE.out]
                exact ⟨rfl, _, _, H4.out⟩
end Go.Proofs.Ytfnjbmpolggdeaa.CD
end
section
namespace Go.Proofs.Ytfnjbmpolggdeaa.CD
open Go.RowKit Go.Lib Go.Proofs.YtfnjbmpolggdeaaW.PrintWords Go.Proofs.YtfnjbmpolggdeaaW.PrintLast Go.Proofs.YtfnjbmpolggdeaaW.PrintMore
set_option linter.unusedVariables false
set_option linter.unusedSimpArgs false
set_option maxHeartbeats 8000000 in
set_option maxRecDepth 100000 in
theorem cho_d11 (w0 w : World) (g : Nat) (s : ByteArray) (t : RdS) (bx : Nat) (x : S82) (ht : OKR s t) (hI : RI w0 w g s t) (hx : w.heap[bx]? = some (.cells (insC x (.slice none 0 0) (.slice none 0 0)) 82 (0, 0))) (h6 : x.f6 = []) (h7 : x.f7 = []) (hnew : w0.heap.size ≤ bx) :
    Calls Try.prog 142 #[.agg #[.pointer (some ⟨g, 0, none⟩)], .pointer (some ⟨bx, 0, none⟩), .int .i64 11] w (ChoPost w0 w g s bx (choD s x 11 t)) := by
  have H0 := Aside0.mk (CS.start hI hx h6 h7 hnew)
  have HO0 := Aside0.mk ht
  have HNW := Aside0.mk hnew
  have HWW := Aside0.mk hI.2.size
  have H67 := Aside0.mk (And.intro h6 h7)
  clear hI hx ht hnew h6 h7
  go_enter Try.func142, Try.ntmps142
  go_wp2_with fail
  go_loopw [20] (fun _ wr => ∃ (k : Nat) (t1 : RdS), Aside0 (CS w0 w wr g s t1 bx x (.slice none 0 0) (.slice none 0 0)) ∧ Aside0 (OKR s t1 ∧ (t1.2.1 = 0 → (4 - t1.1 % 4) % 4 ≤ (k : Int))) ∧ Aside0 (padR s x.f0 4 t = padR s x.f0 k t1)) (fun _ wr => padW g wr)
  case atStart => exact ⟨4, t, H0, ⟨HO0.out, fun _ => by omega⟩, ⟨rfl⟩⟩
  case round =>
    clear H0
    obtain ⟨k, t1, HS, HOK, HP⟩ := hrel
    have H1 := HS
    have HO1 := Aside0.mk HOK.out.1
    obtain ⟨d0_1, d1_1, d2_1, d3_1, d4_1, d5_1⟩ := H1.out.cells
    have HPW := Aside0.mk H1.out.ri.pad
    obtain ⟨a, er, es⟩ := t1
    obtain ⟨n, hn⟩ := Int.eq_ofNat_of_zero_le HO1.out.1
    dsimp only at hn
    subst hn
    have hr : Int.tmod (n : Int) 4 = ((n % 4 : Nat) : Int) := (Int.ofNat_tmod n 4).symm
    go_upto_region 1 with (fail)
    go_cut [20] from 10 to 19 (fun vv wc => vv = .bool (decide ((n : Int) % 4 ≠ 0 ∧ er = 0)) ∧ Aside0 (CS w0 w wc g s ((n : Int), er, es) bx x (.slice none 0 0) (.slice none 0 0)))
    case first =>
      as_aux_lemma =>
      by_cases c4 : n % 4 = 0
      · have b0 : (((n % 4 : Nat) : Int) != 0) = false := by rw [bne_eq_false_iff_eq]; omega
        have b1 : ((n : Int) % 4 != 0) = false := by rw [bne_eq_false_iff_eq]; omega
        go_wp2_with (first | (go_at_call 66; refine (at_any w0 _ g s _ H1.out.ri).mono ?_; rintro e2 w2 ⟨rfl, hI2, hk2⟩; have H2 := Aside0.mk (H1.out.rd hI2 hk2); obtain ⟨d0_2, d1_2, d2_2, d3_2, d4_2, d5_2⟩ := H2.out.cells; clear hI2 hk2) | go_in)
        go_meet
        case rel => exact ⟨by rw [decide_eq_false (by omega)], ⟨H2.out⟩⟩
      · have b0 : (((n % 4 : Nat) : Int) != 0) = true := by rw [bne_iff_ne]; omega
        have b1 : ((n : Int) % 4 != 0) = true := by rw [bne_iff_ne]; omega
        by_cases ce : er = 0
        · have b2 : (er != 0) = false := bne_eq_false_iff_eq.2 ce
          go_wp2_with (first | (go_at_call 66; refine (at_any w0 _ g s _ H1.out.ri).mono ?_; rintro e2 w2 ⟨rfl, hI2, hk2⟩; have H2 := Aside0.mk (H1.out.rd hI2 hk2); obtain ⟨d0_2, d1_2, d2_2, d3_2, d4_2, d5_2⟩ := H2.out.cells; clear hI2 hk2) | (go_at_call 70; refine (bad_any w0 _ g s _ H2.out.ri).mono ?_; rintro e3 w3 ⟨rfl, hI3, hk3⟩; have H3 := Aside0.mk (H2.out.rd hI3 hk3); obtain ⟨d0_3, d1_3, d2_3, d3_3, d4_3, d5_3⟩ := H3.out.cells; clear hI3 hk3) | go_in)
          go_meet
          case rel => exact ⟨by rw [decide_eq_true (by omega)], ⟨H3.out⟩⟩
        · have b2 : (er != 0) = true := bne_iff_ne.2 ce
          go_wp2_with (first | (go_at_call 66; refine (at_any w0 _ g s _ H1.out.ri).mono ?_; rintro e2 w2 ⟨rfl, hI2, hk2⟩; have H2 := Aside0.mk (H1.out.rd hI2 hk2); obtain ⟨d0_2, d1_2, d2_2, d3_2, d4_2, d5_2⟩ := H2.out.cells; clear hI2 hk2) | (go_at_call 70; refine (bad_any w0 _ g s _ H2.out.ri).mono ?_; rintro e3 w3 ⟨rfl, hI3, hk3⟩; have H3 := Aside0.mk (H2.out.rd hI3 hk3); obtain ⟨d0_3, d1_3, d2_3, d3_3, d4_3, d5_3⟩ := H3.out.cells; clear hI3 hk3) | go_in)
          go_meet
          case rel => exact ⟨by rw [decide_eq_false (by omega)], ⟨H3.out⟩⟩
    case rest =>
      obtain ⟨rfl, HC⟩ := hcut
      clear d0_1 d1_1 d2_1 d3_1 d4_1 d5_1
      clear HS H1 hr
      have H4 := HC
      have HO4 := HO1
      obtain ⟨d0_4, d1_4, d2_4, d3_4, d4_4, d5_4⟩ := H4.out.cells
      by_cases hc : (n : Int) % 4 ≠ 0 ∧ er = 0
      · rw [decide_eq_true hc]
        obtain ⟨j, hj, hpad⟩ := pad_more (s := s) (x0 := x.f0) (k := k) (t := ((n : Int), er, es)) hc (HOK.out.2 hc.2)
        have HPP := Aside0.mk (HP.out.trans hpad)
        have HJ := Aside0.mk hj
        have HCC := Aside0.mk hc
        clear hpad hj hc
        as_aux_lemma =>
        by_cases hv : (numR s ((n : Int), er, es) 1).1 = 0
        · have b3 : ((numR s ((n : Int), er, es) 1).1 != 0) = false := bne_eq_false_iff_eq.2 hv
          have HV := Aside0.mk hv
          clear hv
          go_wp2_with (first | (go_at_call 68; refine (num_any w0 _ g s _ 1 1 rfl (by decide) HO4.out H4.out.ri).mono ?_; rintro e5 w5 ⟨rfl, hI5, hk5⟩; have H5 := Aside0.mk (H4.out.rd hI5 hk5); obtain ⟨d0_5, d1_5, d2_5, d3_5, d4_5, d5_5⟩ := H5.out.cells; clear hI5 hk5) | go_in)
          go_roundw
          case rel =>
            refine ⟨j, (numR s ((n : Int), er, es) 1).2, ⟨H5.out⟩, ⟨HO4.out.num 1, fun he => ?_⟩, ⟨by rw [HPP.out, if_neg (fun h => h HV.out)]⟩⟩
            have h1 := num1_err (s := s) HCC.out.2 he
            have h2 := HOK.out.2 HCC.out.2
            have h3 := HCC.out.1
            have h4 := HJ.out
            rw [h1]
            dsimp only at h2 ⊢
            omega
          case measure =>
            rw [H5.out.ri.pad, HPW.out, if_pos HCC.out.2]
            have h3 := HCC.out.1
            split
            · have h1 := num1_err (s := s) HCC.out.2 ‹_›
              rw [h1]
              (try dsimp only)
              omega
            · (try dsimp only)
              omega
        · have b3 : ((numR s ((n : Int), er, es) 1).1 != 0) = true := bne_iff_ne.2 hv
          have HV := Aside0.mk hv
          clear hv
          go_upto_region 3 with (first | (go_at_call 68; refine (num_any w0 _ g s _ 1 1 rfl (by decide) HO4.out H4.out.ri).mono ?_; rintro e5 w5 ⟨rfl, hI5, hk5⟩; have H5 := Aside0.mk (H4.out.rd hI5 hk5); obtain ⟨d0_5, d1_5, d2_5, d3_5, d4_5, d5_5⟩ := H5.out.cells; clear hI5 hk5) | go_in)
          go_region_held3 (fun w' => w'.cell? ⟨w.heap.size, 0, none⟩ = some (.pointer (some ⟨g, 0, none⟩)) ∧ w'.cell? ⟨bx, 0, none⟩ = some (.int .i64 x.f0)) (first | exact ⟨d0_5, d1_5⟩ | exact ⟨q1, q2⟩) ((go_at_call 73; first | (refine (fail_any w0 _ g s ((numR s ((n : Int), er, es) 1).2) 15 (x.f0) (H5.out.ri.below (by first | exact drewB _ | exact below_drew (Below.refl _ _)))).mono ?_; rintro e6 w6 ⟨rfl, hI6, hk6⟩; have q1 := (H5.out.drew.rd hI6 hk6).cells.1; have q2 := (H5.out.drew.rd hI6 hk6).cells.2.1)))
          all_goals
            have H6 := Aside0.mk (H5.out.drew.rd hI6 hk6)
            clear hI6 hk6
            try clear q1 q2
            go_wp2
            go_roundw
            case rel =>
              refine ⟨j, _, ⟨H6.out⟩, ⟨(HO4.out.num 1).fail _ _, fun he => (fail_err (by decide) he).elim⟩, ⟨by rw [HPP.out, if_pos HV.out]⟩⟩
            case measure =>
              rw [H6.out.ri.pad, HPW.out, if_pos HCC.out.2, if_neg (fun he => fail_err (by decide) he)]
              have h3 := HCC.out.1
              (try dsimp only)
              omega
      · rw [decide_eq_false hc]
        have HPE := Aside0.mk (HP.out.trans (pad_done hc))
        clear hc HPW
        as_aux_lemma =>
        generalize htp : ((n : Int), er, es) = tp at *
        clear htp
        go_wp2_with fail
        have HD := Aside0.mk H4.out.drew
        clear d0_4 d1_4 d2_4 d3_4 d4_4 d5_4
        refine start_ (n := 12) (S := fun w' => w'.cell? ⟨bx, 0, none⟩ = some (.int .i64 x.f0) ∧ w'.cell? ⟨w.heap.size, 0, none⟩ = some (.pointer (some ⟨g, 0, none⟩))) (ds := [11]) #[false, false, false, false, false, false, false, false, false, false, false, false] (by kernel_rfl) rfl rfl ⟨(HD.out).cells.2.1, (HD.out).cells.1⟩ (fun hHeld => ?_)
        refine pure_ (i := 0) (N := some 32) (v := ?_) (a' := ?_) #[true, false, false, false, false, false, false, false, false, false, false, false] rfl rfl (by kernel_rfl) (fun _ _ _ h => h) (Or.inl ⟨by rfl, ?_⟩) ?_ ?_
        rotate_left
        · intro w'
          go_simp
          with_reducible rfl
        rotate_left
        · simp only [Act.put, List.setIfInBounds_toArray, List.set_cons_zero, List.set_cons_succ, i64_w, i32_w]
          rfl
        refine pure_ (i := 1) (N := some 33) (v := ?_) (a' := ?_) #[true, true, false, false, false, false, false, false, false, false, false, false] rfl rfl (by kernel_rfl) (fun _ _ _ h => h) (Or.inl ⟨by rfl, ?_⟩) ?_ ?_
        rotate_left
        · intro w'
          go_simp
          with_reducible rfl
        rotate_left
        · simp only [Act.put, List.setIfInBounds_toArray, List.set_cons_zero, List.set_cons_succ, i64_w, i32_w]
          rfl
        refine pure_ (i := 2) (N := some 34) (v := ?_) (a' := ?_) #[true, true, true, false, false, false, false, false, false, false, false, false] rfl rfl (by kernel_rfl) (fun _ _ _ h => h) (Or.inl ⟨by rfl, ?_⟩) ?_ ?_
        rotate_left
        · intro w'
          go_simp
          with_reducible rfl
        rotate_left
        · simp only [Act.put, List.setIfInBounds_toArray, List.set_cons_zero, List.set_cons_succ, i64_w, i32_w]
          rfl
        refine pure_ (i := 3) (N := some 35) (v := ?_) (a' := ?_) #[true, true, true, true, false, false, false, false, false, false, false, false] rfl rfl (by kernel_rfl) (fun _ _ _ h => h) (Or.inl ⟨by rfl, ?_⟩) ?_ ?_
        rotate_left
        · intro w'
          go_simp
          with_reducible rfl
        rotate_left
        · simp only [Act.put, List.setIfInBounds_toArray, List.set_cons_zero, List.set_cons_succ, i64_w, i32_w]
          rfl
        refine take_ (i := 4) (N := some 36) (v := ?_) (a' := ?_) #[true, true, true, true, true, false, false, false, false, false, false, false] rfl rfl (by kernel_rfl) (fun _ _ _ h => h) (Or.inl ⟨by rfl, ?_⟩) hHeld ?_ ?_
        rotate_left
        · rintro w' ⟨s0, s1⟩
          go_simp
          with_reducible rfl
        rotate_left
        · simp only [Act.put, List.setIfInBounds_toArray, List.set_cons_zero, List.set_cons_succ, i64_w, i32_w]
          rfl
        refine take_ (i := 5) (N := some 37) (v := ?_) (a' := ?_) #[true, true, true, true, true, true, false, false, false, false, false, false] rfl rfl (by kernel_rfl) (fun _ _ _ h => h) (Or.inl ⟨by rfl, ?_⟩) hHeld ?_ ?_
        rotate_left
        · rintro w' ⟨s0, s1⟩
          go_simp
          with_reducible rfl
        rotate_left
        · simp only [Act.put, List.setIfInBounds_toArray, List.set_cons_zero, List.set_cons_succ, i64_w, i32_w]
          rfl
        refine one_ (i := 6) (N := some 38) #[true, true, true, true, true, true, true, false, false, false, false, false] rfl rfl (by kernel_rfl) (by decide) (fun K hK => ?_)
        refine goes_ Try.func124 (by kernel_rfl) rfl #[.agg #[.pointer (some ⟨g, 0, none⟩)], .int .i64 4] (by rfl) rfl rfl (by simp only [List.map_toArray, List.map_cons, List.map_nil]; rfl) ?_
        with_reducible refine (signed_d w0 _ g s (tp) 4 4 rfl (.inr (.inr rfl)) HO4.out HD.out.ri).mono ?_
        rintro e6 w6 ⟨rfl, hI6, hk6⟩
        refine ⟨_, rfl, ?_⟩
        have HQ := Aside0.mk (HD.out.rd hI6 hk6)
        clear hI6 hk6
        refine hK.out _ _ ⟨(HQ.out).cells.2.1, (HQ.out).cells.1⟩ (fun hHeld => ?_)
        clear hK K
        refine norm_ (a' := ?_) ?_ ?_
        rotate_left
        · show Act.put _ (some 38) _ = _
          simp only [Act.put, List.setIfInBounds_toArray, List.set_cons_zero, List.set_cons_succ, i64_w, i32_w]
          rfl
        refine pure_ (i := 7) (N := some 39) (v := ?_) (a' := ?_) #[true, true, true, true, true, true, true, true, false, false, false, false] rfl rfl (by kernel_rfl) (fun _ _ _ h => h) (Or.inl ⟨by rfl, ?_⟩) ?_ ?_
        rotate_left
        · intro w'
          go_simp
          with_reducible rfl
        rotate_left
        · simp only [Act.put, List.setIfInBounds_toArray, List.set_cons_zero, List.set_cons_succ, i64_w, i32_w]
          rfl
        refine one_ (i := 8) (N := some 40) #[true, true, true, true, true, true, true, true, true, false, false, false] rfl rfl (by kernel_rfl) (by decide) (fun K hK => ?_)
        refine value_ (w1 := ?_) (v := ?_) (by rfl) rfl ?_ ?_
        rotate_left 2
        · go_simp
          constructor
          · rfl
          · rfl
        refine hK.out _ _ ⟨(pw_cell_below (below_alloc (Below.refl _ _) _) (HQ.out).cells.2.1), (pw_cell_below (below_alloc (Below.refl _ _) _) (HQ.out).cells.1)⟩ (fun hHeld => ?_)
        clear hK K
        refine norm_ (a' := ?_) ?_ ?_
        rotate_left
        · show Act.put _ (some 40) _ = _
          simp only [Act.put, List.setIfInBounds_toArray, List.set_cons_zero, List.set_cons_succ, i64_w, i32_w]
          rfl
        refine pure_ (i := 9) (N := some 41) (v := ?_) (a' := ?_) #[true, true, true, true, true, true, true, true, true, true, false, false] rfl rfl (by kernel_rfl) (fun _ _ _ h => h) (Or.inl ⟨by rfl, ?_⟩) ?_ ?_
        rotate_left
        · intro w'
          go_simp
          with_reducible rfl
        rotate_left
        · simp only [Act.put, List.setIfInBounds_toArray, List.set_cons_zero, List.set_cons_succ, i64_w, i32_w]
          rfl
        refine pure_ (i := 10) (N := some 42) (v := ?_) (a' := ?_) #[true, true, true, true, true, true, true, true, true, true, true, false] rfl rfl (by kernel_rfl) (fun _ _ _ h => h) (Or.inl ⟨by rfl, ?_⟩) ?_ ?_
        rotate_left
        · intro w'
          go_simp
          with_reducible rfl
        rotate_left
        · simp only [Act.put, List.setIfInBounds_toArray, List.set_cons_zero, List.set_cons_succ, i64_w, i32_w]
          rfl
        refine last_ (i := 11) (N := none) #[true, true, true, true, true, true, true, true, true, true, true, true] rfl rfl (by kernel_rfl) (by decide) (fun K hK => ?_)
        have ca7 := fun o => (HQ.out.below (below_alloc (Below.refl w6.heap.size w6) o)).cells.2.2.2.2.1
        have cf7 := fun o => (HQ.out.below (below_alloc (Below.refl w6.heap.size w6) o)).cells.2.2.2.2.2 7
        refine skip_ (w1 := ?_) (by rfl) rfl ?_ ?_
        rotate_left
        · go_simp
          rfl
        refine hK.out _ _ ?_
        clear hK K
        refine done_ (by kernel_rfl) ?_
        have H7 := Aside0.mk (HQ.out.put7 (Below.refl _ _) (World.grownBy_alloc _ (.cells #[.int .i64 (wrap64 (x.f0 + (sgnR s tp 4).1))] 3) _) (RW.lit _ _ (wrap64 (x.f0 + (sgnR s tp 4).1)) HQ.out.kept.1) (.inr ⟨_, rfl, Nat.le_refl _⟩) HWW.out)
        obtain ⟨y, hy⟩ : ∃ y, (⟨x.f0, x.f1, x.f2, x.f3, x.f4, x.f5, x.f6, [wrap64 (x.f0 + (sgnR s tp 4).1)]⟩ : S82) = y := ⟨_, rfl⟩
        rw [hy] at H7
        have HY := Aside0.mk (show y.f6 = [] ∧ y.f7.length = 1 by rw [← hy]; exact ⟨H67.out.1, rfl⟩)
        have HHD := Aside0.mk (show headD s x t = (y, (sgnR s tp 4).2) by unfold headD; rw [HPE.out, hy])
        have HO7 := Aside0.mk (HO4.out.sgn 4)
        clear hy HQ HD H4 HO4 HPE ca7 cf7
        try clear hHeld
        generalize World.setCell _ ⟨bx, 7, none⟩ _ = W7 at *
        generalize (sgnR s tp 4).2 = t7 at *
        obtain ⟨d0_7, d1_7, d2_7, d3_7, d4_7, d5_7⟩ := H7.out.cells
        have HRA := Aside0.mk (sgn_range s t7)
        have HCH := Aside0.mk (show choD s x 11 t = choD11 s y (sgnR s t7 4).1 (sgnR s t7 4).2 by unfold choD; rw [if_neg (by decide), HHD.out])
        by_cases hlt : (sgnR s t7 4).1 < 0
        · have bl : decide ((sgnR s t7 4).1 < 0) = true := decide_eq_true hlt
          have HLT := Aside0.mk hlt
          clear hlt
          as_aux_lemma =>
          go_upto_region 13 with (first | (go_at_call 124; refine (signed_d w0 _ g s t7 4 4 rfl (.inr (.inr rfl)) HO7.out H7.out.ri).mono ?_; rintro e10 w10 ⟨rfl, hI10, hk10⟩; have H10 := Aside0.mk (H7.out.rd hI10 hk10); obtain ⟨d0_10, d1_10, d2_10, d3_10, d4_10, d5_10⟩ := H10.out.cells; clear hI10 hk10) | go_in)
          go_region_held3 (fun w' => w'.cell? ⟨w.heap.size, 0, none⟩ = some (.pointer (some ⟨g, 0, none⟩)) ∧ w'.cell? ⟨bx, 0, none⟩ = some (.int .i64 y.f0)) (first | exact ⟨d0_10, d1_10⟩ | exact ⟨q1, q2⟩) ((go_at_call 73; first | (refine (fail_any w0 _ g s ((sgnR s t7 4).2) 15 (y.f0) (H10.out.ri.below (by first | exact drewB _ | exact below_drew (Below.refl _ _)))).mono ?_; rintro e11 w11 ⟨rfl, hI11, hk11⟩; have q1 := (H10.out.drew.rd hI11 hk11).cells.1; have q2 := (H10.out.drew.rd hI11 hk11).cells.2.1)))
          all_goals
            have H11 := Aside0.mk (H10.out.drew.rd hI11 hk11)
            clear hI11 hk11
            try clear q1 q2
            go_wp2
            go_end0
            rw [HCH.out, choD11, if_pos HLT.out]
            exact ⟨rfl, _, _, H11.out⟩
        · have bl : decide ((sgnR s t7 4).1 < 0) = false := decide_eq_false hlt
          obtain ⟨N, hN⟩ : ∃ N : Nat, (sgnR s t7 4).1 = (N : Int) := ⟨((sgnR s t7 4).1).toNat, by omega⟩
          have HN := Aside0.mk (show N ≤ 4294967296 by have := HRA.out; omega)
          have HCN := Aside0.mk (show choD s x 11 t = rowsD s 11 N 0 y (sgnR s t7 4).2 by rw [HCH.out, choD11, if_neg hlt, hN, Int.toNat_natCast])
          clear hlt
          go_upto_region 14 with (first | (go_at_call 124; refine (signed_d w0 _ g s t7 4 4 rfl (.inr (.inr rfl)) HO7.out H7.out.ri).mono ?_; rintro e10 w10 ⟨rfl, hI10, hk10⟩; have H10 := Aside0.mk (H7.out.rd hI10 hk10); obtain ⟨d0_10, d1_10, d2_10, d3_10, d4_10, d5_10⟩ := H10.out.cells; clear hI10 hk10) | go_in)
          have HO10 := Aside0.mk (HO7.out.sgn 4)
          try rw [hN]
          clear hN bl H7 HCH HHD
          clear d0_7 d1_7 d2_7 d3_7 d4_7 d5_7
          clear d0_10 d1_10 d2_10 d3_10 d4_10 d5_10
          have HY2 := HY
          clear HY
          generalize y = z at *
          generalize (sgnR s t7 4).2 = tz at *
          go_wp2_with fail
          go_loopw [8] (fun i wr => ∃ (k r : Nat) (z2 : S82) (t2 : RdS) (v6 v7 : Value), k + r = N ∧ i = .int .i64 k ∧ Aside0 (CS w0 w wr g s t2 bx z2 v6 v7) ∧ Aside0 (OKR s t2) ∧ Aside0 (z2.f6.length = k ∧ z2.f7.length = k + 1) ∧ Aside0 (choD s x 11 t = rowsD s 11 r k z2 t2)) (fun i _ => N - (intOf i).toNat)
          case atStart => exact ⟨0, N, z, tz, _, _, Nat.zero_add N, rfl, H10, HO10, ⟨by rw [HY2.out.1]; rfl, HY2.out.2⟩, HCN⟩
          case round =>
            clear H10 HO10 HCN HY2
            obtain ⟨k, r, z2, t2, v6, v7, hkr, rfl, H1, HO1, HLN, HC⟩ := hrel
            obtain ⟨d0_1, d1_1, d2_1, d3_1, d4_1, d5_1⟩ := H1.out.cells
            obtain ⟨aa, er, es⟩ := t2
            go_upto_region 15 with (fail)
            go_cut [90] from 82 to 89 (fun vv wc => vv = .bool (decide (k < N ∧ er = 0)) ∧ Aside0 (CS w0 w wc g s (aa, er, es) bx z2 v6 v7))
            case first =>
              as_aux_lemma =>
              by_cases ck : k < N
              · have b1 : decide ((k : Int) < (N : Int)) = true := decide_eq_true (by omega)
                by_cases ce : er = 0
                · have b2 : (er != 0) = false := bne_eq_false_iff_eq.2 ce
                  go_wp2_with (first | (go_at_call 70; refine (bad_any w0 _ g s _ H1.out.ri).mono ?_; rintro e3 w3 ⟨rfl, hI3, hk3⟩; have H3 := Aside0.mk (H1.out.rd hI3 hk3); obtain ⟨d0_3, d1_3, d2_3, d3_3, d4_3, d5_3⟩ := H3.out.cells; clear hI3 hk3) | go_in)
                  go_meet
                  case rel => exact ⟨by rw [decide_eq_true ⟨ck, ce⟩], ⟨H3.out⟩⟩
                · have b2 : (er != 0) = true := bne_iff_ne.2 ce
                  go_wp2_with (first | (go_at_call 70; refine (bad_any w0 _ g s _ H1.out.ri).mono ?_; rintro e3 w3 ⟨rfl, hI3, hk3⟩; have H3 := Aside0.mk (H1.out.rd hI3 hk3); obtain ⟨d0_3, d1_3, d2_3, d3_3, d4_3, d5_3⟩ := H3.out.cells; clear hI3 hk3) | go_in)
                  go_meet
                  case rel => exact ⟨by rw [decide_eq_false (fun h => ce h.2)], ⟨H3.out⟩⟩
              · have b1 : decide ((k : Int) < (N : Int)) = false := decide_eq_false (by omega)
                go_wp2
                go_meet
                case rel => exact ⟨by rw [decide_eq_false (fun h => ck h.1)], ⟨H1.out⟩⟩
            case rest =>
              obtain ⟨rfl, HCT⟩ := hcut
              clear d0_1 d1_1 d2_1 d3_1 d4_1 d5_1
              clear H1
              have H4 := HCT
              have HO4 := HO1
              obtain ⟨d0_4, d1_4, d2_4, d3_4, d4_4, d5_4⟩ := H4.out.cells
              by_cases hc : k < N ∧ er = 0
              · rw [decide_eq_true hc]
                obtain ⟨r2, hr2⟩ : ∃ r2, r = r2 + 1 := ⟨r - 1, by omega⟩
                subst hr2
                have HKN := Aside0.mk hc.1
                have HER := Aside0.mk hc.2
                have HKR := Aside0.mk hkr
                have wk : wrap64 ((k : Int) + 1) = ((k + 1 : Nat) : Int) := by rw [← i64_w, IntKind.wrap_i64]; have := HN.out; omega
                have WN := Aside0.mk (congrArg (Value.int IntKind.i64) wk)
                have WI := Aside0.mk wk
                clear wk hc hkr
                as_aux_lemma =>
                have HLX6 := Aside0.mk (show (z2.f6.length + 1) * 8 ≤ 140737488355328 by have := HLN.out.1; have := HN.out; have := HKN.out; omega)
                have hk6 : z2.f6.length = k := HLN.out.1
                obtain ⟨A6, c6, hv6⟩ := Kd.R_slice H4.out.r6
                subst hv6
                go_upto_region 19 with (first | (go_at_call 124; refine (signed_d w0 _ g s (aa, er, es) 4 4 rfl (.inr (.inr rfl)) HO4.out H4.out.ri).mono ?_; rintro e5 w5 ⟨rfl, hI5, hk5⟩; have H5 := Aside0.mk (H4.out.rd hI5 hk5); obtain ⟨d0_5, d1_5, d2_5, d3_5, d4_5, d5_5⟩ := H5.out.cells; clear hI5 hk5) | go_in)
                have HO5 := Aside0.mk (HO4.out.sgn 4)
                clear d0_4 d1_4 d2_4 d3_4 d4_4 d5_4
                clear H4
                obtain ⟨vk, hvk⟩ : ∃ vk, (sgnR s (aa, er, es) 4).1 = vk := ⟨_, rfl⟩
                obtain ⟨tk, htk⟩ : ∃ tk, (sgnR s (aa, er, es) 4).2 = tk := ⟨_, rfl⟩
                have HCC : Aside0 (choD s x 11 t = rowsD s 11 r2 (k + 1) (⟨z2.f0, z2.f1, z2.f2, z2.f3, z2.f4, z2.f5, z2.f6 ++ [vk], z2.f7 ++ [wrap64 (z2.f0 + (sgnR s (if 0 < k ∧ vk ≤ rd z2.f6 ((k : Int) - 1) then failR tk 15 z2.f0 else tk) 4).1)]⟩ : S82) (sgnR s (if 0 < k ∧ vk ≤ rd z2.f6 ((k : Int) - 1) then failR tk 15 z2.f0 else tk) 4).2) := ⟨by rw [HC.out, rowsD, if_neg (fun h => h HER.out), if_pos rfl, hvk, htk]⟩
                rw [hvk]
                rw [htk] at H5 HO5
                clear hvk htk
                go_cut [110] from 97 to 109 (fun vv wc => vv = .bool (decide (0 < k ∧ vk ≤ rd z2.f6 ((k : Int) - 1))) ∧ Aside0 (CS w0 w wc g s tk bx z2 (.slice A6 z2.f6.length c6) v7))
                case first =>
                  as_aux_lemma =>
                  by_cases ck : 0 < k
                  · have m1 : decide ((k : Int) > 0) = true := decide_eq_true (by omega)
                    have m2 : decide (0 < (k : Int)) = true := decide_eq_true (by omega)
                    obtain ⟨ad, ea, za⟩ := Kd.at_int (Kd.R_reads' H5.out.r6).2.2 ((k : Int) - 1) (by omega) (by omega)
                    subst ea
                    rw [show ((k : Int) - 1).toNat = k - 1 by omega] at za
                    have j0 : (0 : Int) ≤ (k : Int) - 1 := by omega
                    have j1 : (k : Int) - 1 < (z2.f6.length : Int) := by omega
                    have j3 : wrap64 ((k : Int) - 1) = (k : Int) - 1 := by rw [← i64_w, IntKind.wrap_i64]; have := HN.out; have := HKN.out; omega
                    have j4 : (1 : Int) ≤ (k : Int) := by omega
                    have j5 : k - 1 < z2.f6.length := by omega
                    by_cases cv : vk ≤ rd z2.f6 ((k : Int) - 1)
                    · have m3 : decide (vk ≤ rd z2.f6 ((k : Int) - 1)) = true := decide_eq_true cv
                      have HCV := Aside0.mk cv
                      clear cv
                      go_wp2
                      go_meet
                      case rel => exact ⟨by rw [decide_eq_true ⟨ck, HCV.out⟩], ⟨H5.out⟩⟩
                    · have m3 : decide (vk ≤ rd z2.f6 ((k : Int) - 1)) = false := decide_eq_false cv
                      have HCV := Aside0.mk cv
                      clear cv
                      go_wp2
                      go_meet
                      case rel => exact ⟨by rw [decide_eq_false (fun h => by have h1 := HCV.out; have h2 := h.2; omega)], ⟨H5.out⟩⟩
                  · have m1 : decide ((k : Int) > 0) = false := decide_eq_false (by omega)
                    have m2 : decide (0 < (k : Int)) = false := decide_eq_false (by omega)
                    go_wp2
                    go_meet
                    case rel => exact ⟨by rw [decide_eq_false (fun h => ck h.1)], ⟨H5.out⟩⟩
                case rest =>
                  obtain ⟨rfl, HCU⟩ := hcut
                  clear hk6
                  clear d0_5 d1_5 d2_5 d3_5 d4_5 d5_5
                  clear H5
                  have H6 := HCU
                  obtain ⟨d0_6, d1_6, d2_6, d3_6, d4_6, d5_6⟩ := H6.out.cells
                  by_cases hc : 0 < k ∧ vk ≤ rd z2.f6 ((k : Int) - 1)
                  · rw [decide_eq_true hc]
                    rw [if_pos hc] at HCC
                    have HO8 := Aside0.mk (HO5.out.fail 15 z2.f0)
                    clear hc HO5
                    as_aux_lemma =>
                    go_upto_region 20 with (fail)
                    go_region_held3 (fun w' => w'.cell? ⟨w.heap.size, 0, none⟩ = some (.pointer (some ⟨g, 0, none⟩)) ∧ w'.cell? ⟨bx, 0, none⟩ = some (.int .i64 z2.f0)) (first | exact ⟨d0_6, d1_6⟩ | exact ⟨q1, q2⟩) ((go_at_call 73; first | (refine (fail_any w0 _ g s (tk) 15 (z2.f0) (H6.out.ri.below (by first | exact drewB _ | exact below_drew (Below.refl _ _)))).mono ?_; rintro e7 w7 ⟨rfl, hI7, hk7⟩; have q1 := (H6.out.drew.rd hI7 hk7).cells.1; have q2 := (H6.out.drew.rd hI7 hk7).cells.2.1)))
                    all_goals
                      have H7 := Aside0.mk (H6.out.drew.rd hI7 hk7)
                      clear hI7 hk7 H6
                      try clear q1 q2
                      clear d0_6 d1_6 d2_6 d3_6 d4_6 d5_6
                      obtain ⟨d0_7, d1_7, d2_7, d3_7, d4_7, d5_7⟩ := H7.out.cells
                      go_upto_region 22 with (first | ((with_reducible refine gate_builtin (b := .append) (xs := #[.tmp 122, .tmp 124]) rfl ?_); at_builtin; refine Kd.R_append (Kd.int .i64) w.heap.size rfl (.tmp 122) (.tmp 124) 22 3 (.int .i64 0) 8 rfl Try.underlying22 infoInt rfl (by decide) (by omega) (.slice A6 z2.f6.length c6) z2.f6 vk [.int .i64 vk] (fun _ => True) (fun _ => False) rfl rfl rfl (fun _ h => h.elim) (fun _ _ => trivial) H7.out.r6 (Below.refl _ _) H7.out.kept.1 HLX6.out ?_; intro v8 w8 hr8 hb8 hg8 hat8; obtain ⟨A8, c8, hv8⟩ := Kd.R_slice hr8; simp only [List.length_append, List.length_cons, List.length_nil, Nat.zero_add] at hv8; subst hv8; obtain ⟨ca6, cf6⟩ := H7.out.grown6 hg8) | go_in)
                      have H8 := Aside0.mk (H7.out.put6 hg8 hr8 hat8 HWW.out)
                      clear d0_7 d1_7 d2_7 d3_7 d4_7 d5_7
                      clear H7 ca6 cf6 hr8 hg8 hat8 hb8
                      generalize w8.setCell ⟨bx, 6, none⟩ _ = W8 at *
                      have HLN3 := Aside0.mk (show (⟨z2.f0, z2.f1, z2.f2, z2.f3, z2.f4, z2.f5, z2.f6 ++ [vk], z2.f7⟩ : S82).f6.length = k + 1 ∧ (⟨z2.f0, z2.f1, z2.f2, z2.f3, z2.f4, z2.f5, z2.f6 ++ [vk], z2.f7⟩ : S82).f7.length = k + 1 from ⟨by show (z2.f6 ++ [vk]).length = k + 1; rw [List.length_append, HLN.out.1]; rfl, HLN.out.2⟩)
                      obtain ⟨z3, hz3⟩ : ∃ z3, (⟨z2.f0, z2.f1, z2.f2, z2.f3, z2.f4, z2.f5, z2.f6 ++ [vk], z2.f7⟩ : S82) = z3 := ⟨_, rfl⟩
                      have HCD : Aside0 (choD s x 11 t = rowsD s 11 r2 (k + 1) (⟨z3.f0, z3.f1, z3.f2, z3.f3, z3.f4, z3.f5, z3.f6, z3.f7 ++ [wrap64 (z3.f0 + (sgnR s (failR tk 15 z2.f0) 4).1)]⟩ : S82) (sgnR s (failR tk 15 z2.f0) 4).2) := ⟨by rw [HCC.out, ← hz3]⟩
                      rw [hz3] at H8 HLN3
                      clear hz3 HCC
                      have HLX := Aside0.mk (show (z3.f7.length + 1) * 8 ≤ 140737488355328 by have := HLN3.out.2; have := HN.out; have := HKN.out; omega)
                      have HD := Aside0.mk H8.out.drew
                      refine start_ (n := 17) (S := fun w' => w'.cell? ⟨bx, 0, none⟩ = some (.int .i64 z3.f0) ∧ w'.cell? ⟨w.heap.size, 0, none⟩ = some (.pointer (some ⟨g, 0, none⟩)) ∧ w'.cell? ⟨bx, 7, none⟩ = some v7) (ds := [13, 16]) #[false, false, false, false, false, false, false, false, false, false, false, false, false, false, false, false, false] (by kernel_rfl) rfl rfl ⟨(HD.out).cells.2.1, (HD.out).cells.1, (HD.out).cells.2.2.2.2.1⟩ (fun hHeld => ?_)
                      refine pure_ (i := 0) (N := some 128) (v := ?_) (a' := ?_) #[true, false, false, false, false, false, false, false, false, false, false, false, false, false, false, false, false] rfl rfl (by kernel_rfl) (fun _ _ _ h => h) (Or.inl ⟨by rfl, ?_⟩) ?_ ?_
                      rotate_left
                      · intro w'
                        go_simp
                        with_reducible rfl
                      rotate_left
                      · simp only [Act.put, List.setIfInBounds_toArray, List.set_cons_zero, List.set_cons_succ, i64_w, i32_w]
                        rfl
                      refine pure_ (i := 1) (N := some 129) (v := ?_) (a' := ?_) #[true, true, false, false, false, false, false, false, false, false, false, false, false, false, false, false, false] rfl rfl (by kernel_rfl) (fun _ _ _ h => h) (Or.inl ⟨by rfl, ?_⟩) ?_ ?_
                      rotate_left
                      · intro w'
                        go_simp
                        with_reducible rfl
                      rotate_left
                      · simp only [Act.put, List.setIfInBounds_toArray, List.set_cons_zero, List.set_cons_succ, i64_w, i32_w]
                        rfl
                      refine pure_ (i := 2) (N := some 130) (v := ?_) (a' := ?_) #[true, true, true, false, false, false, false, false, false, false, false, false, false, false, false, false, false] rfl rfl (by kernel_rfl) (fun _ _ _ h => h) (Or.inl ⟨by rfl, ?_⟩) ?_ ?_
                      rotate_left
                      · intro w'
                        go_simp
                        with_reducible rfl
                      rotate_left
                      · simp only [Act.put, List.setIfInBounds_toArray, List.set_cons_zero, List.set_cons_succ, i64_w, i32_w]
                        rfl
                      refine pure_ (i := 3) (N := some 131) (v := ?_) (a' := ?_) #[true, true, true, true, false, false, false, false, false, false, false, false, false, false, false, false, false] rfl rfl (by kernel_rfl) (fun _ _ _ h => h) (Or.inl ⟨by rfl, ?_⟩) ?_ ?_
                      rotate_left
                      · intro w'
                        go_simp
                        with_reducible rfl
                      rotate_left
                      · simp only [Act.put, List.setIfInBounds_toArray, List.set_cons_zero, List.set_cons_succ, i64_w, i32_w]
                        rfl
                      refine pure_ (i := 5) (N := some 133) (v := ?_) (a' := ?_) #[true, true, true, true, false, true, false, false, false, false, false, false, false, false, false, false, false] rfl rfl (by kernel_rfl) (fun _ _ _ h => h) (Or.inl ⟨by rfl, ?_⟩) ?_ ?_
                      rotate_left
                      · intro w'
                        go_simp
                        with_reducible rfl
                      rotate_left
                      · simp only [Act.put, List.setIfInBounds_toArray, List.set_cons_zero, List.set_cons_succ, i64_w, i32_w]
                        rfl
                      refine pure_ (i := 6) (N := some 134) (v := ?_) (a' := ?_) #[true, true, true, true, false, true, true, false, false, false, false, false, false, false, false, false, false] rfl rfl (by kernel_rfl) (fun _ _ _ h => h) (Or.inl ⟨by rfl, ?_⟩) ?_ ?_
                      rotate_left
                      · intro w'
                        go_simp
                        with_reducible rfl
                      rotate_left
                      · simp only [Act.put, List.setIfInBounds_toArray, List.set_cons_zero, List.set_cons_succ, i64_w, i32_w]
                        rfl
                      refine pure_ (i := 7) (N := some 135) (v := ?_) (a' := ?_) #[true, true, true, true, false, true, true, true, false, false, false, false, false, false, false, false, false] rfl rfl (by kernel_rfl) (fun _ _ _ h => h) (Or.inl ⟨by rfl, ?_⟩) ?_ ?_
                      rotate_left
                      · intro w'
                        go_simp
                        with_reducible rfl
                      rotate_left
                      · simp only [Act.put, List.setIfInBounds_toArray, List.set_cons_zero, List.set_cons_succ, i64_w, i32_w]
                        rfl
                      refine take_ (i := 4) (N := some 132) (v := ?_) (a' := ?_) #[true, true, true, true, true, true, true, true, false, false, false, false, false, false, false, false, false] rfl rfl (by kernel_rfl) (fun _ _ _ h => h) (Or.inl ⟨by rfl, ?_⟩) hHeld ?_ ?_
                      rotate_left
                      · rintro w' ⟨s0, s1, s2⟩
                        go_simp
                        with_reducible rfl
                      rotate_left
                      · simp only [Act.put, List.setIfInBounds_toArray, List.set_cons_zero, List.set_cons_succ, i64_w, i32_w]
                        rfl
                      refine take_ (i := 8) (N := some 136) (v := ?_) (a' := ?_) #[true, true, true, true, true, true, true, true, true, false, false, false, false, false, false, false, false] rfl rfl (by kernel_rfl) (fun _ _ _ h => h) (Or.inl ⟨by rfl, ?_⟩) hHeld ?_ ?_
                      rotate_left
                      · rintro w' ⟨s0, s1, s2⟩
                        go_simp
                        with_reducible rfl
                      rotate_left
                      · simp only [Act.put, List.setIfInBounds_toArray, List.set_cons_zero, List.set_cons_succ, i64_w, i32_w]
                        rfl
                      refine take_ (i := 9) (N := some 137) (v := ?_) (a' := ?_) #[true, true, true, true, true, true, true, true, true, true, false, false, false, false, false, false, false] rfl rfl (by kernel_rfl) (fun _ _ _ h => h) (Or.inl ⟨by rfl, ?_⟩) hHeld ?_ ?_
                      rotate_left
                      · rintro w' ⟨s0, s1, s2⟩
                        go_simp
                        with_reducible rfl
                      rotate_left
                      · simp only [Act.put, List.setIfInBounds_toArray, List.set_cons_zero, List.set_cons_succ, i64_w, i32_w]
                        rfl
                      refine one_ (i := 10) (N := some 138) #[true, true, true, true, true, true, true, true, true, true, true, false, false, false, false, false, false] rfl rfl (by kernel_rfl) (by decide) (fun K hK => ?_)
                      refine goes_ Try.func124 (by kernel_rfl) rfl #[.agg #[.pointer (some ⟨g, 0, none⟩)], .int .i64 4] (by rfl) rfl rfl (by simp only [List.map_toArray, List.map_cons, List.map_nil]; rfl) ?_
                      with_reducible refine (signed_d w0 _ g s ((failR tk 15 z2.f0)) 4 4 rfl (.inr (.inr rfl)) HO8.out HD.out.ri).mono ?_
                      rintro e9 w9 ⟨rfl, hI9, hk9⟩
                      refine ⟨_, rfl, ?_⟩
                      have HQ := Aside0.mk (HD.out.rd hI9 hk9)
                      clear hI9 hk9
                      refine hK.out _ _ ⟨(HQ.out).cells.2.1, (HQ.out).cells.1, (HQ.out).cells.2.2.2.2.1⟩ (fun hHeld => ?_)
                      clear hK K
                      refine norm_ (a' := ?_) ?_ ?_
                      rotate_left
                      · show Act.put _ (some 138) _ = _
                        simp only [Act.put, List.setIfInBounds_toArray, List.set_cons_zero, List.set_cons_succ, i64_w, i32_w]
                        rfl
                      refine pure_ (i := 11) (N := some 139) (v := ?_) (a' := ?_) #[true, true, true, true, true, true, true, true, true, true, true, true, false, false, false, false, false] rfl rfl (by kernel_rfl) (fun _ _ _ h => h) (Or.inl ⟨by rfl, ?_⟩) ?_ ?_
                      rotate_left
                      · intro w'
                        go_simp
                        with_reducible rfl
                      rotate_left
                      · simp only [Act.put, List.setIfInBounds_toArray, List.set_cons_zero, List.set_cons_succ, i64_w, i32_w]
                        rfl
                      refine one_ (i := 12) (N := some 140) #[true, true, true, true, true, true, true, true, true, true, true, true, true, false, false, false, false] rfl rfl (by kernel_rfl) (by decide) (fun K hK => ?_)
                      refine value_ (w1 := ?_) (v := ?_) (by rfl) rfl ?_ ?_
                      rotate_left 2
                      · go_simp
                        constructor
                        · rfl
                        · rfl
                      refine hK.out _ _ ⟨(pw_cell_below (below_alloc (Below.refl _ _) _) (HQ.out).cells.2.1), (pw_cell_below (below_alloc (Below.refl _ _) _) (HQ.out).cells.1), (pw_cell_below (below_alloc (Below.refl _ _) _) (HQ.out).cells.2.2.2.2.1)⟩ (fun hHeld => ?_)
                      clear hK K
                      refine norm_ (a' := ?_) ?_ ?_
                      rotate_left
                      · show Act.put _ (some 140) _ = _
                        simp only [Act.put, List.setIfInBounds_toArray, List.set_cons_zero, List.set_cons_succ, i64_w, i32_w]
                        rfl
                      refine last_ (i := 13) (N := some 141) #[true, true, true, true, true, true, true, true, true, true, true, true, true, true, false, false, false] rfl rfl (by kernel_rfl) (by decide) (fun K hK => ?_)
                      refine Kd.R_append_step (Kd.int .i64) (w0 := w9) w.heap.size (by rfl) (.tmp 132) (.tmp 140) 22 3 (.int .i64 0) 8 rfl Try.underlying22 infoInt rfl (by decide) (by omega) v7 z3.f7 (wrap64 (z3.f0 + (sgnR s (failR tk 15 z2.f0) 4).1)) [.int .i64 (wrap64 (z3.f0 + (sgnR s (failR tk 15 z2.f0) 4).1))] (fun _ => True) (fun _ => False) rfl rfl rfl (fun _ h => h.elim) (fun _ _ => trivial) HQ.out.r7 (Below.refl _ _) HQ.out.kept.1 HLX.out ?_
                      intro v7' w7' hr7 hb7 hg7 hat7
                      obtain ⟨A8, c8, hv8⟩ := Kd.R_slice hr7
                      simp only [List.length_append, List.length_cons, List.length_nil, Nat.zero_add] at hv8
                      subst hv8
                      refine hK.out _ _ ?_
                      clear hK K
                      refine norm_ (a' := ?_) ?_ ?_
                      rotate_left
                      · show Act.put _ (some 141) _ = _
                        simp only [Act.put, List.setIfInBounds_toArray, List.set_cons_zero, List.set_cons_succ, i64_w, i32_w]
                        rfl
                      refine pure_ (i := 14) (N := some 142) (v := ?_) (a' := ?_) #[true, true, true, true, true, true, true, true, true, true, true, true, true, true, true, false, false] rfl rfl (by kernel_rfl) (fun _ _ _ h => h) (Or.inl ⟨by rfl, ?_⟩) ?_ ?_
                      rotate_left
                      · intro w'
                        go_simp
                        with_reducible rfl
                      rotate_left
                      · simp only [Act.put, List.setIfInBounds_toArray, List.set_cons_zero, List.set_cons_succ, i64_w, i32_w]
                        rfl
                      refine pure_ (i := 15) (N := some 143) (v := ?_) (a' := ?_) #[true, true, true, true, true, true, true, true, true, true, true, true, true, true, true, true, false] rfl rfl (by kernel_rfl) (fun _ _ _ h => h) (Or.inl ⟨by rfl, ?_⟩) ?_ ?_
                      rotate_left
                      · intro w'
                        go_simp
                        with_reducible rfl
                      rotate_left
                      · simp only [Act.put, List.setIfInBounds_toArray, List.set_cons_zero, List.set_cons_succ, i64_w, i32_w]
                        rfl
                      refine last_ (i := 16) (N := none) #[true, true, true, true, true, true, true, true, true, true, true, true, true, true, true, true, true] rfl rfl (by kernel_rfl) (by decide) (fun K hK => ?_)
                      have cg7 := HQ.out.grown7 hg7
                      have ca7 := cg7.1
                      have cf7 := cg7.2
                      refine skip_ (w1 := ?_) (by rfl) rfl ?_ ?_
                      rotate_left
                      · go_simp
                        rfl
                      refine hK.out _ _ ?_
                      clear hK K
                      refine done_ (by kernel_rfl) ?_
                      have H9 := Aside0.mk (HQ.out.put7 (Below.refl _ _) hg7 hr7 hat7 HWW.out)
                      clear HQ HD H8 ca7 cf7 cg7 hg7 hat7 hb7 hr7
                      try clear hHeld
                      go_wp2
                      go_roundw
                      case rel => exact ⟨k + 1, r2, _, _, _, _, by have := HKR.out; omega, by first | exact WN.out | exact WI.out, H9, ⟨HO8.out.sgn 4⟩, ⟨HLN3.out.1, by rw [List.length_append, HLN3.out.2]; rfl⟩, HCD⟩
                      case measure => exact ms_valD HKN.out WN.out
                  · rw [decide_eq_false hc]
                    rw [if_neg hc] at HCC
                    have HO8 := HO5
                    clear hc HO5
                    as_aux_lemma =>
                    go_upto_region 22 with (first | ((with_reducible refine gate_builtin (b := .append) (xs := #[.tmp 122, .tmp 124]) rfl ?_); at_builtin; refine Kd.R_append (Kd.int .i64) w.heap.size rfl (.tmp 122) (.tmp 124) 22 3 (.int .i64 0) 8 rfl Try.underlying22 infoInt rfl (by decide) (by omega) (.slice A6 z2.f6.length c6) z2.f6 vk [.int .i64 vk] (fun _ => True) (fun _ => False) rfl rfl rfl (fun _ h => h.elim) (fun _ _ => trivial) H6.out.r6 (Below.refl _ _) H6.out.kept.1 HLX6.out ?_; intro v8 w8 hr8 hb8 hg8 hat8; obtain ⟨A8, c8, hv8⟩ := Kd.R_slice hr8; simp only [List.length_append, List.length_cons, List.length_nil, Nat.zero_add] at hv8; subst hv8; obtain ⟨ca6, cf6⟩ := H6.out.grown6 hg8) | go_in)
                    have H8 := Aside0.mk (H6.out.put6 hg8 hr8 hat8 HWW.out)
                    clear d0_6 d1_6 d2_6 d3_6 d4_6 d5_6
                    clear H6 ca6 cf6 hr8 hg8 hat8 hb8
                    generalize w8.setCell ⟨bx, 6, none⟩ _ = W8 at *
                    have HLN3 := Aside0.mk (show (⟨z2.f0, z2.f1, z2.f2, z2.f3, z2.f4, z2.f5, z2.f6 ++ [vk], z2.f7⟩ : S82).f6.length = k + 1 ∧ (⟨z2.f0, z2.f1, z2.f2, z2.f3, z2.f4, z2.f5, z2.f6 ++ [vk], z2.f7⟩ : S82).f7.length = k + 1 from ⟨by show (z2.f6 ++ [vk]).length = k + 1; rw [List.length_append, HLN.out.1]; rfl, HLN.out.2⟩)
                    obtain ⟨z3, hz3⟩ : ∃ z3, (⟨z2.f0, z2.f1, z2.f2, z2.f3, z2.f4, z2.f5, z2.f6 ++ [vk], z2.f7⟩ : S82) = z3 := ⟨_, rfl⟩
                    have HCD : Aside0 (choD s x 11 t = rowsD s 11 r2 (k + 1) (⟨z3.f0, z3.f1, z3.f2, z3.f3, z3.f4, z3.f5, z3.f6, z3.f7 ++ [wrap64 (z3.f0 + (sgnR s tk 4).1)]⟩ : S82) (sgnR s tk 4).2) := ⟨by rw [HCC.out, ← hz3]⟩
                    rw [hz3] at H8 HLN3
                    clear hz3 HCC
                    have HLX := Aside0.mk (show (z3.f7.length + 1) * 8 ≤ 140737488355328 by have := HLN3.out.2; have := HN.out; have := HKN.out; omega)
                    have HD := Aside0.mk H8.out.drew
                    refine start_ (n := 17) (S := fun w' => w'.cell? ⟨bx, 0, none⟩ = some (.int .i64 z3.f0) ∧ w'.cell? ⟨w.heap.size, 0, none⟩ = some (.pointer (some ⟨g, 0, none⟩)) ∧ w'.cell? ⟨bx, 7, none⟩ = some v7) (ds := [13, 16]) #[false, false, false, false, false, false, false, false, false, false, false, false, false, false, false, false, false] (by kernel_rfl) rfl rfl ⟨(HD.out).cells.2.1, (HD.out).cells.1, (HD.out).cells.2.2.2.2.1⟩ (fun hHeld => ?_)
                    refine pure_ (i := 0) (N := some 128) (v := ?_) (a' := ?_) #[true, false, false, false, false, false, false, false, false, false, false, false, false, false, false, false, false] rfl rfl (by kernel_rfl) (fun _ _ _ h => h) (Or.inl ⟨by rfl, ?_⟩) ?_ ?_
                    rotate_left
                    · intro w'
                      go_simp
                      with_reducible rfl
                    rotate_left
                    · simp only [Act.put, List.setIfInBounds_toArray, List.set_cons_zero, List.set_cons_succ, i64_w, i32_w]
                      rfl
                    refine pure_ (i := 1) (N := some 129) (v := ?_) (a' := ?_) #[true, true, false, false, false, false, false, false, false, false, false, false, false, false, false, false, false] rfl rfl (by kernel_rfl) (fun _ _ _ h => h) (Or.inl ⟨by rfl, ?_⟩) ?_ ?_
                    rotate_left
                    · intro w'
                      go_simp
                      with_reducible rfl
                    rotate_left
                    · simp only [Act.put, List.setIfInBounds_toArray, List.set_cons_zero, List.set_cons_succ, i64_w, i32_w]
                      rfl
                    refine pure_ (i := 2) (N := some 130) (v := ?_) (a' := ?_) #[true, true, true, false, false, false, false, false, false, false, false, false, false, false, false, false, false] rfl rfl (by kernel_rfl) (fun _ _ _ h => h) (Or.inl ⟨by rfl, ?_⟩) ?_ ?_
                    rotate_left
                    · intro w'
                      go_simp
                      with_reducible rfl
                    rotate_left
                    · simp only [Act.put, List.setIfInBounds_toArray, List.set_cons_zero, List.set_cons_succ, i64_w, i32_w]
                      rfl
                    refine pure_ (i := 3) (N := some 131) (v := ?_) (a' := ?_) #[true, true, true, true, false, false, false, false, false, false, false, false, false, false, false, false, false] rfl rfl (by kernel_rfl) (fun _ _ _ h => h) (Or.inl ⟨by rfl, ?_⟩) ?_ ?_
                    rotate_left
                    · intro w'
                      go_simp
                      with_reducible rfl
                    rotate_left
                    · simp only [Act.put, List.setIfInBounds_toArray, List.set_cons_zero, List.set_cons_succ, i64_w, i32_w]
                      rfl
                    refine pure_ (i := 5) (N := some 133) (v := ?_) (a' := ?_) #[true, true, true, true, false, true, false, false, false, false, false, false, false, false, false, false, false] rfl rfl (by kernel_rfl) (fun _ _ _ h => h) (Or.inl ⟨by rfl, ?_⟩) ?_ ?_
                    rotate_left
                    · intro w'
                      go_simp
                      with_reducible rfl
                    rotate_left
                    · simp only [Act.put, List.setIfInBounds_toArray, List.set_cons_zero, List.set_cons_succ, i64_w, i32_w]
                      rfl
                    refine pure_ (i := 6) (N := some 134) (v := ?_) (a' := ?_) #[true, true, true, true, false, true, true, false, false, false, false, false, false, false, false, false, false] rfl rfl (by kernel_rfl) (fun _ _ _ h => h) (Or.inl ⟨by rfl, ?_⟩) ?_ ?_
                    rotate_left
                    · intro w'
                      go_simp
                      with_reducible rfl
                    rotate_left
                    · simp only [Act.put, List.setIfInBounds_toArray, List.set_cons_zero, List.set_cons_succ, i64_w, i32_w]
                      rfl
                    refine pure_ (i := 7) (N := some 135) (v := ?_) (a' := ?_) #[true, true, true, true, false, true, true, true, false, false, false, false, false, false, false, false, false] rfl rfl (by kernel_rfl) (fun _ _ _ h => h) (Or.inl ⟨by rfl, ?_⟩) ?_ ?_
                    rotate_left
                    · intro w'
                      go_simp
                      with_reducible rfl
                    rotate_left
                    · simp only [Act.put, List.setIfInBounds_toArray, List.set_cons_zero, List.set_cons_succ, i64_w, i32_w]
                      rfl
                    refine take_ (i := 4) (N := some 132) (v := ?_) (a' := ?_) #[true, true, true, true, true, true, true, true, false, false, false, false, false, false, false, false, false] rfl rfl (by kernel_rfl) (fun _ _ _ h => h) (Or.inl ⟨by rfl, ?_⟩) hHeld ?_ ?_
                    rotate_left
                    · rintro w' ⟨s0, s1, s2⟩
                      go_simp
                      with_reducible rfl
                    rotate_left
                    · simp only [Act.put, List.setIfInBounds_toArray, List.set_cons_zero, List.set_cons_succ, i64_w, i32_w]
                      rfl
                    refine take_ (i := 8) (N := some 136) (v := ?_) (a' := ?_) #[true, true, true, true, true, true, true, true, true, false, false, false, false, false, false, false, false] rfl rfl (by kernel_rfl) (fun _ _ _ h => h) (Or.inl ⟨by rfl, ?_⟩) hHeld ?_ ?_
                    rotate_left
                    · rintro w' ⟨s0, s1, s2⟩
                      go_simp
                      with_reducible rfl
                    rotate_left
                    · simp only [Act.put, List.setIfInBounds_toArray, List.set_cons_zero, List.set_cons_succ, i64_w, i32_w]
                      rfl
                    refine take_ (i := 9) (N := some 137) (v := ?_) (a' := ?_) #[true, true, true, true, true, true, true, true, true, true, false, false, false, false, false, false, false] rfl rfl (by kernel_rfl) (fun _ _ _ h => h) (Or.inl ⟨by rfl, ?_⟩) hHeld ?_ ?_
                    rotate_left
                    · rintro w' ⟨s0, s1, s2⟩
                      go_simp
                      with_reducible rfl
                    rotate_left
                    · simp only [Act.put, List.setIfInBounds_toArray, List.set_cons_zero, List.set_cons_succ, i64_w, i32_w]
                      rfl
                    refine one_ (i := 10) (N := some 138) #[true, true, true, true, true, true, true, true, true, true, true, false, false, false, false, false, false] rfl rfl (by kernel_rfl) (by decide) (fun K hK => ?_)
                    refine goes_ Try.func124 (by kernel_rfl) rfl #[.agg #[.pointer (some ⟨g, 0, none⟩)], .int .i64 4] (by rfl) rfl rfl (by simp only [List.map_toArray, List.map_cons, List.map_nil]; rfl) ?_
                    with_reducible refine (signed_d w0 _ g s (tk) 4 4 rfl (.inr (.inr rfl)) HO8.out HD.out.ri).mono ?_
                    rintro e9 w9 ⟨rfl, hI9, hk9⟩
                    refine ⟨_, rfl, ?_⟩
                    have HQ := Aside0.mk (HD.out.rd hI9 hk9)
                    clear hI9 hk9
                    refine hK.out _ _ ⟨(HQ.out).cells.2.1, (HQ.out).cells.1, (HQ.out).cells.2.2.2.2.1⟩ (fun hHeld => ?_)
                    clear hK K
                    refine norm_ (a' := ?_) ?_ ?_
                    rotate_left
                    · show Act.put _ (some 138) _ = _
                      simp only [Act.put, List.setIfInBounds_toArray, List.set_cons_zero, List.set_cons_succ, i64_w, i32_w]
                      rfl
                    refine pure_ (i := 11) (N := some 139) (v := ?_) (a' := ?_) #[true, true, true, true, true, true, true, true, true, true, true, true, false, false, false, false, false] rfl rfl (by kernel_rfl) (fun _ _ _ h => h) (Or.inl ⟨by rfl, ?_⟩) ?_ ?_
                    rotate_left
                    · intro w'
                      go_simp
                      with_reducible rfl
                    rotate_left
                    · simp only [Act.put, List.setIfInBounds_toArray, List.set_cons_zero, List.set_cons_succ, i64_w, i32_w]
                      rfl
                    refine one_ (i := 12) (N := some 140) #[true, true, true, true, true, true, true, true, true, true, true, true, true, false, false, false, false] rfl rfl (by kernel_rfl) (by decide) (fun K hK => ?_)
                    refine value_ (w1 := ?_) (v := ?_) (by rfl) rfl ?_ ?_
                    rotate_left 2
                    · go_simp
                      constructor
                      · rfl
                      · rfl
                    refine hK.out _ _ ⟨(pw_cell_below (below_alloc (Below.refl _ _) _) (HQ.out).cells.2.1), (pw_cell_below (below_alloc (Below.refl _ _) _) (HQ.out).cells.1), (pw_cell_below (below_alloc (Below.refl _ _) _) (HQ.out).cells.2.2.2.2.1)⟩ (fun hHeld => ?_)
                    clear hK K
                    refine norm_ (a' := ?_) ?_ ?_
                    rotate_left
                    · show Act.put _ (some 140) _ = _
                      simp only [Act.put, List.setIfInBounds_toArray, List.set_cons_zero, List.set_cons_succ, i64_w, i32_w]
                      rfl
                    refine last_ (i := 13) (N := some 141) #[true, true, true, true, true, true, true, true, true, true, true, true, true, true, false, false, false] rfl rfl (by kernel_rfl) (by decide) (fun K hK => ?_)
                    refine Kd.R_append_step (Kd.int .i64) (w0 := w9) w.heap.size (by rfl) (.tmp 132) (.tmp 140) 22 3 (.int .i64 0) 8 rfl Try.underlying22 infoInt rfl (by decide) (by omega) v7 z3.f7 (wrap64 (z3.f0 + (sgnR s tk 4).1)) [.int .i64 (wrap64 (z3.f0 + (sgnR s tk 4).1))] (fun _ => True) (fun _ => False) rfl rfl rfl (fun _ h => h.elim) (fun _ _ => trivial) HQ.out.r7 (Below.refl _ _) HQ.out.kept.1 HLX.out ?_
                    intro v7' w7' hr7 hb7 hg7 hat7
                    obtain ⟨A8, c8, hv8⟩ := Kd.R_slice hr7
                    simp only [List.length_append, List.length_cons, List.length_nil, Nat.zero_add] at hv8
                    subst hv8
                    refine hK.out _ _ ?_
                    clear hK K
                    refine norm_ (a' := ?_) ?_ ?_
                    rotate_left
                    · show Act.put _ (some 141) _ = _
                      simp only [Act.put, List.setIfInBounds_toArray, List.set_cons_zero, List.set_cons_succ, i64_w, i32_w]
                      rfl
                    refine pure_ (i := 14) (N := some 142) (v := ?_) (a' := ?_) #[true, true, true, true, true, true, true, true, true, true, true, true, true, true, true, false, false] rfl rfl (by kernel_rfl) (fun _ _ _ h => h) (Or.inl ⟨by rfl, ?_⟩) ?_ ?_
                    rotate_left
                    · intro w'
                      go_simp
                      with_reducible rfl
                    rotate_left
                    · simp only [Act.put, List.setIfInBounds_toArray, List.set_cons_zero, List.set_cons_succ, i64_w, i32_w]
                      rfl
                    refine pure_ (i := 15) (N := some 143) (v := ?_) (a' := ?_) #[true, true, true, true, true, true, true, true, true, true, true, true, true, true, true, true, false] rfl rfl (by kernel_rfl) (fun _ _ _ h => h) (Or.inl ⟨by rfl, ?_⟩) ?_ ?_
                    rotate_left
                    · intro w'
                      go_simp
                      with_reducible rfl
                    rotate_left
                    · simp only [Act.put, List.setIfInBounds_toArray, List.set_cons_zero, List.set_cons_succ, i64_w, i32_w]
                      rfl
                    refine last_ (i := 16) (N := none) #[true, true, true, true, true, true, true, true, true, true, true, true, true, true, true, true, true] rfl rfl (by kernel_rfl) (by decide) (fun K hK => ?_)
                    have cg7 := HQ.out.grown7 hg7
                    have ca7 := cg7.1
                    have cf7 := cg7.2
                    refine skip_ (w1 := ?_) (by rfl) rfl ?_ ?_
                    rotate_left
                    · go_simp
                      rfl
                    refine hK.out _ _ ?_
                    clear hK K
                    refine done_ (by kernel_rfl) ?_
                    have H9 := Aside0.mk (HQ.out.put7 (Below.refl _ _) hg7 hr7 hat7 HWW.out)
                    clear HQ HD H8 ca7 cf7 cg7 hg7 hat7 hb7 hr7
                    try clear hHeld
                    go_wp2
                    go_roundw
                    case rel => exact ⟨k + 1, r2, _, _, _, _, by have := HKR.out; omega, by first | exact WN.out | exact WI.out, H9, ⟨HO8.out.sgn 4⟩, ⟨HLN3.out.1, by rw [List.length_append, HLN3.out.2]; rfl⟩, HCD⟩
                    case measure => exact ms_valD HKN.out WN.out
              · rw [decide_eq_false hc]
                have HE : Aside0 (choD s x 11 t = (z2, (aa, er, es))) := ⟨by
                  rw [HC.out]
                  cases r with
                  | zero => rfl
                  | succ r => rw [rowsD, if_pos (fun h => hc ⟨by omega, h⟩)]⟩
                clear hc
                as_aux_lemma =>
                go_wp2
                go_end0
                rw [HE.out]
                exact ⟨rfl, _, _, H4.out⟩
end Go.Proofs.Ytfnjbmpolggdeaa.CD
end
section
namespace Go.Proofs.Ytfnjbmpolggdeaa.CD
open Go.RowKit Go.Lib Go.Proofs.YtfnjbmpolggdeaaW.PrintWords Go.Proofs.YtfnjbmpolggdeaaW.PrintLast Go.Proofs.YtfnjbmpolggdeaaW.PrintMore
set_option linter.unusedVariables false
set_option linter.unusedSimpArgs false
structure XS (w0 wc W : World) (g : Nat) (s : ByteArray) (t : RdS) (bx : Nat) (x : S82) (v6 v7 : Value) : Prop where
  ri : RI w0 W g s t
  ins : W.heap[bx]? = some (.cells (insC x v6 v7) 82 (0, 0))
  r6 : RW W wc.heap.size v6 x.f6
  r7 : RW W wc.heap.size v7 x.f7
  ap : ∀ k, v6.ownBlock = some k → v7.ownBlock ≠ some k
  kept : wc.heap.size ≤ W.heap.size ∧ ∀ i, i < wc.heap.size → i ≠ g → i ≠ bx → W.heap[i]? = wc.heap[i]?
theorem CS.xs {w0 wc W : World} {g bx : Nat} {s : ByteArray} {t : RdS} {x : S82} {v6 v7 : Value} (h : CS w0 wc W g s t bx x v6 v7) : XS w0 wc W g s t bx x v6 v7 := ⟨h.ri, h.ins, h.r6, h.r7, h.ap, h.kept⟩
theorem XS.lower {w0 wc wd W : World} {g bx : Nat} {s : ByteArray} {t : RdS} {x : S82} {v6 v7 : Value} (h : XS w0 wd W g s t bx x v6 v7) (hb : wc.heap.size ≤ wd.heap.size) (hk : ∀ i, i < wc.heap.size → i ≠ g → i ≠ bx → wd.heap[i]? = wc.heap[i]?) : XS w0 wc W g s t bx x v6 v7 where
  ri := h.ri
  ins := h.ins
  r6 := Kd.R_lower h.r6 hb
  r7 := Kd.R_lower h.r7 hb
  ap := h.ap
  kept := ⟨Nat.le_trans hb h.kept.1, fun i hi hg hx => (h.kept.2 i (Nat.lt_of_lt_of_le hi hb) hg hx).trans (hk i hi hg hx)⟩
def moreD (s : ByteArray) (x : S82) (f : Int) (t : RdS) : S82 × RdS :=
  if f = 10 ∨ f = 11 then choD s x f t else
  if f = 12 then ((⟨x.f0, x.f1, x.f2, (numR s t 2).1, (numR s (numR s t 2).2 1).1, x.f5, x.f6, x.f7⟩ : S82), if (numR s (numR s (numR s t 2).2 1).2 1).1 ≠ 0 ∨ (numR s (numR s t 2).2 1).1 = 0 then failR (numR s (numR s (numR s t 2).2 1).2 1).2 15 x.f0 else (numR s (numR s (numR s t 2).2 1).2 1).2) else
  if f = 13 then ((⟨x.f0, x.f1, x.f2, (numR s t 1).1, x.f4, x.f5, x.f6, x.f7⟩ : S82), if (numR s t 1).1 < 4 ∨ (numR s t 1).1 > 11 then failR (numR s t 1).2 15 x.f0 else (numR s t 1).2) else
  if f = 14 then ((⟨x.f0, x.f1, x.f2, (numR s t 2).1, (numR s (numR s t 2).2 1).1, x.f5, x.f6, x.f7⟩ : S82), if (numR s (numR s t 2).2 1).1 = 0 then failR (numR s (numR s t 2).2 1).2 15 x.f0 else (numR s (numR s t 2).2 1).2) else (x, t)
def MorePost (w0 w : World) (g : Nat) (s : ByteArray) (bx : Nat) (p : S82 × RdS) (e : Ending) (w' : World) : Prop := e = .returned (.tuple #[]) ∧ ∃ v6 v7, XS w0 w w' g s p.2 bx p.1 v6 v7
set_option maxHeartbeats 8000000 in
set_option maxRecDepth 100000 in
theorem more_dx (w0 w : World) (g : Nat) (s : ByteArray) (t : RdS) (bx : Nat) (x : S82) (f : Int) (hf : ¬ (f = 10 ∨ f = 11) ∧ ¬ f = 12 ∧ ¬ f = 13 ∧ ¬ f = 14) (ht : OKR s t) (hI : RI w0 w g s t) (hx : w.heap[bx]? = some (.cells (insC x (.slice none 0 0) (.slice none 0 0)) 82 (0, 0))) (h6 : x.f6 = []) (h7 : x.f7 = []) (hnew : w0.heap.size ≤ bx) :
    Calls Try.prog 125 #[.agg #[.pointer (some ⟨g, 0, none⟩)], .pointer (some ⟨bx, 0, none⟩), .int .i64 f] w (MorePost w0 w g s bx (moreD s x f t)) := by
  have q1 : (f == 10) = false := beq_eq_false_iff_ne.2 (by omega)
  have q2 : (f == 11) = false := beq_eq_false_iff_ne.2 (by omega)
  have q3 : (f == 12) = false := beq_eq_false_iff_ne.2 (by omega)
  have q4 : (f == 13) = false := beq_eq_false_iff_ne.2 (by omega)
  have q5 : (f == 14) = false := beq_eq_false_iff_ne.2 (by omega)
  have HF := Aside0.mk hf
  clear hf
  have hb := below_alloc (Below.refl w.heap.size w) (.cells #[.pointer (some ⟨g, 0, none⟩)] 144)
  have HK1 := Aside0.mk (And.intro hb.size (fun i hi => hb.block i hi : ∀ i, i < w.heap.size → _))
  have H1 := Aside0.mk (CS.start hI hx h6 h7 hnew)
  have HO1 := Aside0.mk ht
  have HNW := Aside0.mk hnew
  have H67 := Aside0.mk (And.intro h6 h7)
  have HXC := Aside0.mk hx
  clear hI hx ht hnew h6 h7 hb
  obtain ⟨d0_1, d1_1, d2_1, d3_1, d4_1, d5_1⟩ := H1.out.cells
  go_enter Try.func125, Try.ntmps125
  go_wp2
  go_end0
  rw [show moreD s x f t = (x, t) from by unfold moreD; rw [if_neg HF.out.1, if_neg HF.out.2.1, if_neg HF.out.2.2.1, if_neg HF.out.2.2.2]]
  exact ⟨rfl, _, _, H1.out.xs⟩
set_option maxHeartbeats 8000000 in
set_option maxRecDepth 100000 in
theorem more_d10 (w0 w : World) (g : Nat) (s : ByteArray) (t : RdS) (bx : Nat) (x : S82) (ht : OKR s t) (hI : RI w0 w g s t) (hx : w.heap[bx]? = some (.cells (insC x (.slice none 0 0) (.slice none 0 0)) 82 (0, 0))) (h6 : x.f6 = []) (h7 : x.f7 = []) (hnew : w0.heap.size ≤ bx) :
    Calls Try.prog 125 #[.agg #[.pointer (some ⟨g, 0, none⟩)], .pointer (some ⟨bx, 0, none⟩), .int .i64 10] w (MorePost w0 w g s bx (moreD s x 10 t)) := by
  have hb := below_alloc (Below.refl w.heap.size w) (.cells #[.pointer (some ⟨g, 0, none⟩)] 144)
  have HK1 := Aside0.mk (And.intro hb.size (fun i hi => hb.block i hi : ∀ i, i < w.heap.size → _))
  have H1 := Aside0.mk (CS.start hI hx h6 h7 hnew)
  have HO1 := Aside0.mk ht
  have HNW := Aside0.mk hnew
  have H67 := Aside0.mk (And.intro h6 h7)
  have HXC := Aside0.mk hx
  clear hI hx ht hnew h6 h7 hb
  obtain ⟨d0_1, d1_1, d2_1, d3_1, d4_1, d5_1⟩ := H1.out.cells
  go_enter Try.func125, Try.ntmps125
  have HX1 := Aside0.mk H1.out.ins
  go_wp2_with (first | (go_at_call 142; refine (cho_d10 w0 _ g s t bx x HO1.out H1.out.ri HX1.out H67.out.1 H67.out.2 HNW.out).mono ?_; rintro e5 w5 ⟨rfl, v6, v7, h5⟩; have H5 := Aside0.mk h5; clear h5) | go_in)
  go_end0
  rw [show moreD s x 10 t = choD s x 10 t from if_pos (by decide)]
  exact ⟨rfl, v6, v7, H5.out.xs.lower HK1.out.1 (fun i hi hg hx => HK1.out.2 i hi)⟩
set_option maxHeartbeats 8000000 in
set_option maxRecDepth 100000 in
theorem more_d11 (w0 w : World) (g : Nat) (s : ByteArray) (t : RdS) (bx : Nat) (x : S82) (ht : OKR s t) (hI : RI w0 w g s t) (hx : w.heap[bx]? = some (.cells (insC x (.slice none 0 0) (.slice none 0 0)) 82 (0, 0))) (h6 : x.f6 = []) (h7 : x.f7 = []) (hnew : w0.heap.size ≤ bx) :
    Calls Try.prog 125 #[.agg #[.pointer (some ⟨g, 0, none⟩)], .pointer (some ⟨bx, 0, none⟩), .int .i64 11] w (MorePost w0 w g s bx (moreD s x 11 t)) := by
  have hb := below_alloc (Below.refl w.heap.size w) (.cells #[.pointer (some ⟨g, 0, none⟩)] 144)
  have HK1 := Aside0.mk (And.intro hb.size (fun i hi => hb.block i hi : ∀ i, i < w.heap.size → _))
  have H1 := Aside0.mk (CS.start hI hx h6 h7 hnew)
  have HO1 := Aside0.mk ht
  have HNW := Aside0.mk hnew
  have H67 := Aside0.mk (And.intro h6 h7)
  have HXC := Aside0.mk hx
  clear hI hx ht hnew h6 h7 hb
  obtain ⟨d0_1, d1_1, d2_1, d3_1, d4_1, d5_1⟩ := H1.out.cells
  go_enter Try.func125, Try.ntmps125
  have HX1 := Aside0.mk H1.out.ins
  go_wp2_with (first | (go_at_call 142; refine (cho_d11 w0 _ g s t bx x HO1.out H1.out.ri HX1.out H67.out.1 H67.out.2 HNW.out).mono ?_; rintro e5 w5 ⟨rfl, v6, v7, h5⟩; have H5 := Aside0.mk h5; clear h5) | go_in)
  go_end0
  rw [show moreD s x 11 t = choD s x 11 t from if_pos (by decide)]
  exact ⟨rfl, v6, v7, H5.out.xs.lower HK1.out.1 (fun i hi hg hx => HK1.out.2 i hi)⟩
set_option maxHeartbeats 8000000 in
set_option maxRecDepth 100000 in
theorem more_d12 (w0 w : World) (g : Nat) (s : ByteArray) (t : RdS) (bx : Nat) (x : S82) (ht : OKR s t) (hI : RI w0 w g s t) (hx : w.heap[bx]? = some (.cells (insC x (.slice none 0 0) (.slice none 0 0)) 82 (0, 0))) (h6 : x.f6 = []) (h7 : x.f7 = []) (hnew : w0.heap.size ≤ bx) :
    Calls Try.prog 125 #[.agg #[.pointer (some ⟨g, 0, none⟩)], .pointer (some ⟨bx, 0, none⟩), .int .i64 12] w (MorePost w0 w g s bx (moreD s x 12 t)) := by
  have hb := below_alloc (Below.refl w.heap.size w) (.cells #[.pointer (some ⟨g, 0, none⟩)] 144)
  have HK1 := Aside0.mk (And.intro hb.size (fun i hi => hb.block i hi : ∀ i, i < w.heap.size → _))
  have H1 := Aside0.mk (CS.start hI hx h6 h7 hnew)
  have HO1 := Aside0.mk ht
  have HNW := Aside0.mk hnew
  have H67 := Aside0.mk (And.intro h6 h7)
  have HXC := Aside0.mk hx
  clear hI hx ht hnew h6 h7 hb
  obtain ⟨d0_1, d1_1, d2_1, d3_1, d4_1, d5_1⟩ := H1.out.cells
  go_enter Try.func125, Try.ntmps125
  go_upto_region 6 with (fail)
  have HD := Aside0.mk H1.out.drew
  clear d0_1 d1_1 d2_1 d3_1 d4_1 d5_1
  refine start_ (n := 14) (S := fun w' => w'.cell? ⟨w.heap.size, 0, none⟩ = some (.pointer (some ⟨g, 0, none⟩))) (ds := [7, 10, 13]) #[false, false, false, false, false, false, false, false, false, false, false, false, false, false] (by kernel_rfl) rfl rfl (HD.out.cells.1) (fun hHeld => ?_)
  refine pure_ (i := 0) (N := some 16) (v := ?_) (a' := ?_) #[true, false, false, false, false, false, false, false, false, false, false, false, false, false] rfl rfl (by kernel_rfl) (fun _ _ _ h => h) (Or.inl ⟨by rfl, ?_⟩) ?_ ?_
  rotate_left
  · intro w'
    go_simp
    with_reducible rfl
  rotate_left
  · simp only [Act.put, List.setIfInBounds_toArray, List.set_cons_zero, List.set_cons_succ, i64_w, i32_w]
    rfl
  refine pure_ (i := 1) (N := some 17) (v := ?_) (a' := ?_) #[true, true, false, false, false, false, false, false, false, false, false, false, false, false] rfl rfl (by kernel_rfl) (fun _ _ _ h => h) (Or.inl ⟨by rfl, ?_⟩) ?_ ?_
  rotate_left
  · intro w'
    go_simp
    with_reducible rfl
  rotate_left
  · simp only [Act.put, List.setIfInBounds_toArray, List.set_cons_zero, List.set_cons_succ, i64_w, i32_w]
    rfl
  refine pure_ (i := 2) (N := some 18) (v := ?_) (a' := ?_) #[true, true, true, false, false, false, false, false, false, false, false, false, false, false] rfl rfl (by kernel_rfl) (fun _ _ _ h => h) (Or.inl ⟨by rfl, ?_⟩) ?_ ?_
  rotate_left
  · intro w'
    go_simp
    with_reducible rfl
  rotate_left
  · simp only [Act.put, List.setIfInBounds_toArray, List.set_cons_zero, List.set_cons_succ, i64_w, i32_w]
    rfl
  refine pure_ (i := 5) (N := some 21) (v := ?_) (a' := ?_) #[true, true, true, false, false, true, false, false, false, false, false, false, false, false] rfl rfl (by kernel_rfl) (fun _ _ _ h => h) (Or.inl ⟨by rfl, ?_⟩) ?_ ?_
  rotate_left
  · intro w'
    go_simp
    with_reducible rfl
  rotate_left
  · simp only [Act.put, List.setIfInBounds_toArray, List.set_cons_zero, List.set_cons_succ, i64_w, i32_w]
    rfl
  refine take_ (i := 3) (N := some 19) (v := ?_) (a' := ?_) #[true, true, true, true, false, true, false, false, false, false, false, false, false, false] rfl rfl (by kernel_rfl) (fun _ _ _ h => h) (Or.inl ⟨by rfl, ?_⟩) hHeld ?_ ?_
  rotate_left
  · intro w' s0
    go_simp
    with_reducible rfl
  rotate_left
  · simp only [Act.put, List.setIfInBounds_toArray, List.set_cons_zero, List.set_cons_succ, i64_w, i32_w]
    rfl
  refine take_ (i := 6) (N := some 22) (v := ?_) (a' := ?_) #[true, true, true, true, false, true, true, false, false, false, false, false, false, false] rfl rfl (by kernel_rfl) (fun _ _ _ h => h) (Or.inl ⟨by rfl, ?_⟩) hHeld ?_ ?_
  rotate_left
  · intro w' s0
    go_simp
    with_reducible rfl
  rotate_left
  · simp only [Act.put, List.setIfInBounds_toArray, List.set_cons_zero, List.set_cons_succ, i64_w, i32_w]
    rfl
  refine one_ (i := 4) (N := some 20) #[true, true, true, true, true, true, true, false, false, false, false, false, false, false] rfl rfl (by kernel_rfl) (by decide) (fun K hK => ?_)
  refine goes_ Try.func68 (by kernel_rfl) rfl #[.pointer (some ⟨g, 0, none⟩), .int .i64 2] (by rfl) rfl rfl (by simp only [List.map_toArray, List.map_cons, List.map_nil]; rfl) ?_
  with_reducible refine (num_any w0 _ g s (t) 2 2 rfl (by decide) HO1.out HD.out.ri).mono ?_
  rintro e5 w5 ⟨rfl, hI5, hk5⟩
  refine ⟨_, rfl, ?_⟩
  have HQ := Aside0.mk (HD.out.rd hI5 hk5)
  clear hI5 hk5
  refine hK.out _ _ (HQ.out.cells.1) (fun hHeld => ?_)
  clear hK K
  refine norm_ (a' := ?_) ?_ ?_
  rotate_left
  · show Act.put _ (some 20) _ = _
    simp only [Act.put, List.setIfInBounds_toArray, List.set_cons_zero, List.set_cons_succ, i64_w, i32_w]
    rfl
  refine last_ (i := 7) (N := some 23) #[true, true, true, true, true, true, true, true, false, false, false, false, false, false] rfl rfl (by kernel_rfl) (by decide) (fun K hK => ?_)
  refine goes_ Try.func68 (by kernel_rfl) rfl #[.pointer (some ⟨g, 0, none⟩), .int .i64 1] (by rfl) rfl rfl (by simp only [List.map_toArray, List.map_cons, List.map_nil]; rfl) ?_
  with_reducible refine (num_any w0 _ g s (numR s (t) 2).2 1 1 rfl (by decide) (HO1.out.num 2) HQ.out.ri).mono ?_
  rintro e6 w6 ⟨rfl, hI6, hk6⟩
  refine ⟨_, rfl, ?_⟩
  have HR := Aside0.mk (HQ.out.rd hI6 hk6)
  clear hI6 hk6
  have c3 : w6.cell? ⟨bx, 3, none⟩ = some _ := blk_cell HR.out.ins 3
  have c3f := HR.out.cells.2.2.2.2.2 3
  refine hK.out _ _ ?_
  clear hK K
  refine norm_ (a' := ?_) ?_ ?_
  rotate_left
  · show Act.put _ (some 23) _ = _
    simp only [Act.put, List.setIfInBounds_toArray, List.set_cons_zero, List.set_cons_succ, i64_w, i32_w]
    rfl
  refine pure_ (i := 8) (N := some 24) (v := ?_) (a' := ?_) #[true, true, true, true, true, true, true, true, true, false, false, false, false, false] rfl rfl (by kernel_rfl) (fun _ _ _ h => h) (Or.inl ⟨by rfl, ?_⟩) ?_ ?_
  rotate_left
  · intro w'
    go_simp
    with_reducible rfl
  rotate_left
  · simp only [Act.put, List.setIfInBounds_toArray, List.set_cons_zero, List.set_cons_succ, i64_w, i32_w]
    rfl
  refine pure_ (i := 9) (N := some 25) (v := ?_) (a' := ?_) #[true, true, true, true, true, true, true, true, true, true, false, false, false, false] rfl rfl (by kernel_rfl) (fun _ _ _ h => h) (Or.inl ⟨by rfl, ?_⟩) ?_ ?_
  rotate_left
  · intro w'
    go_simp
    with_reducible rfl
  rotate_left
  · simp only [Act.put, List.setIfInBounds_toArray, List.set_cons_zero, List.set_cons_succ, i64_w, i32_w]
    rfl
  refine last_ (i := 10) (N := none) #[true, true, true, true, true, true, true, true, true, true, true, false, false, false] rfl rfl (by kernel_rfl) (by decide) (fun K hK => ?_)
  refine skip_ (w1 := ?_) (by rfl) rfl ?_ ?_
  rotate_left
  · go_simp
    rfl
  have HS3 := Aside0.mk (HR.out.set 3 (.int .i64 (numR s (t) 2).1) (⟨x.f0, x.f1, x.f2, (numR s (t) 2).1, x.f4, x.f5, x.f6, x.f7⟩ : S82) rfl rfl rfl)
  have c4 : (w6.setCell ⟨bx, 3, none⟩ (.int .i64 (numR s (t) 2).1)).cell? ⟨bx, 4, none⟩ = some _ := blk_cell HS3.out.ins 4
  have c4f := HS3.out.cells.2.2.2.2.2 4
  refine hK.out _ _ ?_
  clear hK K
  refine pure_ (i := 11) (N := some 26) (v := ?_) (a' := ?_) #[true, true, true, true, true, true, true, true, true, true, true, true, false, false] rfl rfl (by kernel_rfl) (fun _ _ _ h => h) (Or.inl ⟨by rfl, ?_⟩) ?_ ?_
  rotate_left
  · intro w'
    go_simp
    with_reducible rfl
  rotate_left
  · simp only [Act.put, List.setIfInBounds_toArray, List.set_cons_zero, List.set_cons_succ, i64_w, i32_w]
    rfl
  refine pure_ (i := 12) (N := some 27) (v := ?_) (a' := ?_) #[true, true, true, true, true, true, true, true, true, true, true, true, true, false] rfl rfl (by kernel_rfl) (fun _ _ _ h => h) (Or.inl ⟨by rfl, ?_⟩) ?_ ?_
  rotate_left
  · intro w'
    go_simp
    with_reducible rfl
  rotate_left
  · simp only [Act.put, List.setIfInBounds_toArray, List.set_cons_zero, List.set_cons_succ, i64_w, i32_w]
    rfl
  refine last_ (i := 13) (N := none) #[true, true, true, true, true, true, true, true, true, true, true, true, true, true] rfl rfl (by kernel_rfl) (by decide) (fun K hK => ?_)
  refine skip_ (w1 := ?_) (by rfl) rfl ?_ ?_
  rotate_left
  · go_simp
    rfl
  refine hK.out _ _ ?_
  clear hK K
  refine done_ (by kernel_rfl) ?_
  have H7 := Aside0.mk (HS3.out.set 4 (.int .i64 (numR s (numR s (t) 2).2 1).1) (⟨x.f0, x.f1, x.f2, (numR s (t) 2).1, (numR s (numR s (t) 2).2 1).1, x.f5, x.f6, x.f7⟩ : S82) rfl rfl rfl)
  have HO7 := Aside0.mk ((HO1.out.num 2).num 1)
  clear c3 c3f c4 c4f HS3 HR HQ HD H1
  try clear hHeld
  generalize World.setCell _ ⟨bx, 4, none⟩ _ = W7 at *
  have x4 : W7.cell? ⟨bx, 4, none⟩ = some (.int .i64 (numR s (numR s (t) 2).2 1).1) := blk_cell H7.out.ins 4
  obtain ⟨d0_7, d1_7, d2_7, d3_7, d4_7, d5_7⟩ := H7.out.cells
  by_cases h1 : (numR s (numR s (numR s t 2).2 1).2 1).1 = 0
  · have b1 : ((numR s (numR s (numR s t 2).2 1).2 1).1 != 0) = false := bne_eq_false_iff_eq.2 h1
    by_cases h2 : (numR s (numR s t 2).2 1).1 = 0
    · have b2 : ((numR s (numR s t 2).2 1).1 == 0) = true := beq_iff_eq.2 h2
      have HM : Aside0 (moreD s x 12 t = ((⟨x.f0, x.f1, x.f2, (numR s t 2).1, (numR s (numR s t 2).2 1).1, x.f5, x.f6, x.f7⟩ : S82), failR (numR s (numR s (numR s t 2).2 1).2 1).2 15 x.f0)) := ⟨by unfold moreD; rw [if_neg (by decide), if_pos rfl, if_pos (.inr h2)]⟩
      clear h1 h2
      as_aux_lemma =>
      go_upto_region 8 with (first | (go_at_call 68; refine (num_any w0 _ g s (numR s (numR s t 2).2 1).2 1 1 rfl (by decide) HO7.out H7.out.ri).mono ?_; rintro e8 w8 ⟨rfl, hI8, hk8⟩; have H8 := Aside0.mk (H7.out.rd hI8 hk8); obtain ⟨d0_8, d1_8, d2_8, d3_8, d4_8, d5_8⟩ := H8.out.cells; clear hI8 hk8; have y4 : w8.cell? ⟨bx, 4, none⟩ = some (.int .i64 (numR s (numR s t 2).2 1).1) := blk_cell H8.out.ins 4) | go_in)
      go_region_held3 (fun w' => w'.cell? ⟨w.heap.size, 0, none⟩ = some (.pointer (some ⟨g, 0, none⟩)) ∧ w'.cell? ⟨bx, 0, none⟩ = some (.int .i64 x.f0)) (first | exact ⟨d0_8, d1_8⟩ | exact ⟨q1, q2⟩) ((go_at_call 73; first | (refine (fail_any w0 _ g s ((numR s (numR s (numR s t 2).2 1).2 1).2) 15 (x.f0) (H8.out.ri.below (by first | exact drewB _ | exact below_drew (Below.refl _ _)))).mono ?_; rintro e9 w9 ⟨rfl, hI9, hk9⟩; have q1 := (H8.out.drew.rd hI9 hk9).cells.1; have q2 := (H8.out.drew.rd hI9 hk9).cells.2.1)))
      all_goals
        have H9 := Aside0.mk (H8.out.drew.rd hI9 hk9)
        clear hI9 hk9
        try clear q1 q2
        go_wp2
        go_end0
        rw [HM.out]
        exact ⟨rfl, _, _, H9.out.xs⟩
    · have b2 : ((numR s (numR s t 2).2 1).1 == 0) = false := beq_eq_false_iff_ne.2 h2
      have HM : Aside0 (moreD s x 12 t = ((⟨x.f0, x.f1, x.f2, (numR s t 2).1, (numR s (numR s t 2).2 1).1, x.f5, x.f6, x.f7⟩ : S82), (numR s (numR s (numR s t 2).2 1).2 1).2)) := ⟨by unfold moreD; rw [if_neg (by decide), if_pos rfl, if_neg (fun h => h.elim (fun h => h h1) h2)]⟩
      clear h1 h2
      as_aux_lemma =>
      go_wp2_with (first | (go_at_call 68; refine (num_any w0 _ g s (numR s (numR s t 2).2 1).2 1 1 rfl (by decide) HO7.out H7.out.ri).mono ?_; rintro e8 w8 ⟨rfl, hI8, hk8⟩; have H8 := Aside0.mk (H7.out.rd hI8 hk8); obtain ⟨d0_8, d1_8, d2_8, d3_8, d4_8, d5_8⟩ := H8.out.cells; clear hI8 hk8; have y4 : w8.cell? ⟨bx, 4, none⟩ = some (.int .i64 (numR s (numR s t 2).2 1).1) := blk_cell H8.out.ins 4) | go_in)
      go_end0
      rw [HM.out]
      exact ⟨rfl, _, _, H8.out.xs⟩
  · have b1 : ((numR s (numR s (numR s t 2).2 1).2 1).1 != 0) = true := bne_iff_ne.2 h1
    have HM : Aside0 (moreD s x 12 t = ((⟨x.f0, x.f1, x.f2, (numR s t 2).1, (numR s (numR s t 2).2 1).1, x.f5, x.f6, x.f7⟩ : S82), failR (numR s (numR s (numR s t 2).2 1).2 1).2 15 x.f0)) := ⟨by unfold moreD; rw [if_neg (by decide), if_pos rfl, if_pos (.inl h1)]⟩
    clear h1
    as_aux_lemma =>
    go_upto_region 8 with (first | (go_at_call 68; refine (num_any w0 _ g s (numR s (numR s t 2).2 1).2 1 1 rfl (by decide) HO7.out H7.out.ri).mono ?_; rintro e8 w8 ⟨rfl, hI8, hk8⟩; have H8 := Aside0.mk (H7.out.rd hI8 hk8); obtain ⟨d0_8, d1_8, d2_8, d3_8, d4_8, d5_8⟩ := H8.out.cells; clear hI8 hk8; have y4 : w8.cell? ⟨bx, 4, none⟩ = some (.int .i64 (numR s (numR s t 2).2 1).1) := blk_cell H8.out.ins 4) | go_in)
    go_region_held3 (fun w' => w'.cell? ⟨w.heap.size, 0, none⟩ = some (.pointer (some ⟨g, 0, none⟩)) ∧ w'.cell? ⟨bx, 0, none⟩ = some (.int .i64 x.f0)) (first | exact ⟨d0_8, d1_8⟩ | exact ⟨q1, q2⟩) ((go_at_call 73; first | (refine (fail_any w0 _ g s ((numR s (numR s (numR s t 2).2 1).2 1).2) 15 (x.f0) (H8.out.ri.below (by first | exact drewB _ | exact below_drew (Below.refl _ _)))).mono ?_; rintro e9 w9 ⟨rfl, hI9, hk9⟩; have q1 := (H8.out.drew.rd hI9 hk9).cells.1; have q2 := (H8.out.drew.rd hI9 hk9).cells.2.1)))
    all_goals
      have H9 := Aside0.mk (H8.out.drew.rd hI9 hk9)
      clear hI9 hk9
      try clear q1 q2
      go_wp2
      go_end0
      rw [HM.out]
      exact ⟨rfl, _, _, H9.out.xs⟩
set_option maxHeartbeats 8000000 in
set_option maxRecDepth 100000 in
theorem more_d13 (w0 w : World) (g : Nat) (s : ByteArray) (t : RdS) (bx : Nat) (x : S82) (ht : OKR s t) (hI : RI w0 w g s t) (hx : w.heap[bx]? = some (.cells (insC x (.slice none 0 0) (.slice none 0 0)) 82 (0, 0))) (h6 : x.f6 = []) (h7 : x.f7 = []) (hnew : w0.heap.size ≤ bx) :
    Calls Try.prog 125 #[.agg #[.pointer (some ⟨g, 0, none⟩)], .pointer (some ⟨bx, 0, none⟩), .int .i64 13] w (MorePost w0 w g s bx (moreD s x 13 t)) := by
  have hb := below_alloc (Below.refl w.heap.size w) (.cells #[.pointer (some ⟨g, 0, none⟩)] 144)
  have HK1 := Aside0.mk (And.intro hb.size (fun i hi => hb.block i hi : ∀ i, i < w.heap.size → _))
  have H1 := Aside0.mk (CS.start hI hx h6 h7 hnew)
  have HO1 := Aside0.mk ht
  have HNW := Aside0.mk hnew
  have H67 := Aside0.mk (And.intro h6 h7)
  have HXC := Aside0.mk hx
  clear hI hx ht hnew h6 h7 hb
  obtain ⟨d0_1, d1_1, d2_1, d3_1, d4_1, d5_1⟩ := H1.out.cells
  go_enter Try.func125, Try.ntmps125
  have x3 : ∀ o, (w.alloc o).cell? ⟨bx, 3, none⟩ = some (.int .i64 x.f3) := fun o => pw_cell_below (below_alloc (Below.refl _ _) o) (blk_cell HXC.out 3)
  go_upto_region 11 with (first | (go_at_call 68; refine (num_any w0 _ g s t 1 1 rfl (by decide) HO1.out H1.out.ri).mono ?_; rintro e5 w5 ⟨rfl, hI5, hk5⟩; have H5 := Aside0.mk (H1.out.rd hI5 hk5); obtain ⟨d0_5, d1_5, d2_5, d3_5, d4_5, d5_5⟩ := H5.out.cells; clear hI5 hk5; have c3 : w5.cell? ⟨bx, 3, none⟩ = some (.int .i64 x.f3) := blk_cell H5.out.ins 3) | go_in)
  have H7 := Aside0.mk (H5.out.set 3 (.int .i64 (numR s t 1).1) (⟨x.f0, x.f1, x.f2, (numR s t 1).1, x.f4, x.f5, x.f6, x.f7⟩ : S82) rfl rfl rfl)
  have HO7 := Aside0.mk (HO1.out.num 1)
  clear d0_1 d1_1 d2_1 d3_1 d4_1 d5_1
  clear d0_5 d1_5 d2_5 d3_5 d4_5 d5_5
  clear c3 H5 H1 x3
  generalize World.setCell _ ⟨bx, 3, none⟩ _ = W7 at *
  have x3 : W7.cell? ⟨bx, 3, none⟩ = some (.int .i64 (numR s t 1).1) := blk_cell H7.out.ins 3
  obtain ⟨d0_7, d1_7, d2_7, d3_7, d4_7, d5_7⟩ := H7.out.cells
  by_cases h1 : (numR s t 1).1 < 4
  · have b1 : decide ((numR s t 1).1 < 4) = true := decide_eq_true h1
    have HM : Aside0 (moreD s x 13 t = ((⟨x.f0, x.f1, x.f2, (numR s t 1).1, x.f4, x.f5, x.f6, x.f7⟩ : S82), failR (numR s t 1).2 15 x.f0)) := ⟨by unfold moreD; rw [if_neg (by decide), if_neg (by decide), if_pos rfl, if_pos (.inl h1)]⟩
    clear h1
    as_aux_lemma =>
    go_upto_region 12 with (fail)
    go_region_held3 (fun w' => w'.cell? ⟨w.heap.size, 0, none⟩ = some (.pointer (some ⟨g, 0, none⟩)) ∧ w'.cell? ⟨bx, 0, none⟩ = some (.int .i64 x.f0)) (first | exact ⟨d0_7, d1_7⟩ | exact ⟨q1, q2⟩) ((go_at_call 73; first | (refine (fail_any w0 _ g s ((numR s t 1).2) 15 (x.f0) (H7.out.ri.below (by first | exact drewB _ | exact below_drew (Below.refl _ _)))).mono ?_; rintro e9 w9 ⟨rfl, hI9, hk9⟩; have q1 := (H7.out.drew.rd hI9 hk9).cells.1; have q2 := (H7.out.drew.rd hI9 hk9).cells.2.1)))
    all_goals
      have H9 := Aside0.mk (H7.out.drew.rd hI9 hk9)
      clear hI9 hk9
      try clear q1 q2
      go_wp2
      go_end0
      rw [HM.out]
      exact ⟨rfl, _, _, H9.out.xs⟩
  · have b1 : decide ((numR s t 1).1 < 4) = false := decide_eq_false h1
    by_cases h2 : (numR s t 1).1 > 11
    · have b2 : decide ((numR s t 1).1 > 11) = true := decide_eq_true h2
      have HM : Aside0 (moreD s x 13 t = ((⟨x.f0, x.f1, x.f2, (numR s t 1).1, x.f4, x.f5, x.f6, x.f7⟩ : S82), failR (numR s t 1).2 15 x.f0)) := ⟨by unfold moreD; rw [if_neg (by decide), if_neg (by decide), if_pos rfl, if_pos (.inr h2)]⟩
      clear h1 h2
      as_aux_lemma =>
      go_upto_region 12 with (fail)
      go_region_held3 (fun w' => w'.cell? ⟨w.heap.size, 0, none⟩ = some (.pointer (some ⟨g, 0, none⟩)) ∧ w'.cell? ⟨bx, 0, none⟩ = some (.int .i64 x.f0)) (first | exact ⟨d0_7, d1_7⟩ | exact ⟨q1, q2⟩) ((go_at_call 73; first | (refine (fail_any w0 _ g s ((numR s t 1).2) 15 (x.f0) (H7.out.ri.below (by first | exact drewB _ | exact below_drew (Below.refl _ _)))).mono ?_; rintro e9 w9 ⟨rfl, hI9, hk9⟩; have q1 := (H7.out.drew.rd hI9 hk9).cells.1; have q2 := (H7.out.drew.rd hI9 hk9).cells.2.1)))
      all_goals
        have H9 := Aside0.mk (H7.out.drew.rd hI9 hk9)
        clear hI9 hk9
        try clear q1 q2
        go_wp2
        go_end0
        rw [HM.out]
        exact ⟨rfl, _, _, H9.out.xs⟩
    · have b2 : decide ((numR s t 1).1 > 11) = false := decide_eq_false h2
      have HM : Aside0 (moreD s x 13 t = ((⟨x.f0, x.f1, x.f2, (numR s t 1).1, x.f4, x.f5, x.f6, x.f7⟩ : S82), (numR s t 1).2)) := ⟨by unfold moreD; rw [if_neg (by decide), if_neg (by decide), if_pos rfl, if_neg (fun h => h.elim h1 h2)]⟩
      clear h1 h2
      as_aux_lemma =>
      go_wp2
      go_end0
      rw [HM.out]
      exact ⟨rfl, _, _, H7.out.xs⟩
set_option maxHeartbeats 8000000 in
set_option maxRecDepth 100000 in
theorem more_d14 (w0 w : World) (g : Nat) (s : ByteArray) (t : RdS) (bx : Nat) (x : S82) (ht : OKR s t) (hI : RI w0 w g s t) (hx : w.heap[bx]? = some (.cells (insC x (.slice none 0 0) (.slice none 0 0)) 82 (0, 0))) (h6 : x.f6 = []) (h7 : x.f7 = []) (hnew : w0.heap.size ≤ bx) :
    Calls Try.prog 125 #[.agg #[.pointer (some ⟨g, 0, none⟩)], .pointer (some ⟨bx, 0, none⟩), .int .i64 14] w (MorePost w0 w g s bx (moreD s x 14 t)) := by
  have hb := below_alloc (Below.refl w.heap.size w) (.cells #[.pointer (some ⟨g, 0, none⟩)] 144)
  have HK1 := Aside0.mk (And.intro hb.size (fun i hi => hb.block i hi : ∀ i, i < w.heap.size → _))
  have H1 := Aside0.mk (CS.start hI hx h6 h7 hnew)
  have HO1 := Aside0.mk ht
  have HNW := Aside0.mk hnew
  have H67 := Aside0.mk (And.intro h6 h7)
  have HXC := Aside0.mk hx
  clear hI hx ht hnew h6 h7 hb
  obtain ⟨d0_1, d1_1, d2_1, d3_1, d4_1, d5_1⟩ := H1.out.cells
  go_enter Try.func125, Try.ntmps125
  go_upto_region 14 with (fail)
  have HD := Aside0.mk H1.out.drew
  clear d0_1 d1_1 d2_1 d3_1 d4_1 d5_1
  refine start_ (n := 14) (S := fun w' => w'.cell? ⟨w.heap.size, 0, none⟩ = some (.pointer (some ⟨g, 0, none⟩))) (ds := [7, 10, 13]) #[false, false, false, false, false, false, false, false, false, false, false, false, false, false] (by kernel_rfl) rfl rfl (HD.out.cells.1) (fun hHeld => ?_)
  refine pure_ (i := 0) (N := some 75) (v := ?_) (a' := ?_) #[true, false, false, false, false, false, false, false, false, false, false, false, false, false] rfl rfl (by kernel_rfl) (fun _ _ _ h => h) (Or.inl ⟨by rfl, ?_⟩) ?_ ?_
  rotate_left
  · intro w'
    go_simp
    with_reducible rfl
  rotate_left
  · simp only [Act.put, List.setIfInBounds_toArray, List.set_cons_zero, List.set_cons_succ, i64_w, i32_w]
    rfl
  refine pure_ (i := 1) (N := some 76) (v := ?_) (a' := ?_) #[true, true, false, false, false, false, false, false, false, false, false, false, false, false] rfl rfl (by kernel_rfl) (fun _ _ _ h => h) (Or.inl ⟨by rfl, ?_⟩) ?_ ?_
  rotate_left
  · intro w'
    go_simp
    with_reducible rfl
  rotate_left
  · simp only [Act.put, List.setIfInBounds_toArray, List.set_cons_zero, List.set_cons_succ, i64_w, i32_w]
    rfl
  refine pure_ (i := 2) (N := some 77) (v := ?_) (a' := ?_) #[true, true, true, false, false, false, false, false, false, false, false, false, false, false] rfl rfl (by kernel_rfl) (fun _ _ _ h => h) (Or.inl ⟨by rfl, ?_⟩) ?_ ?_
  rotate_left
  · intro w'
    go_simp
    with_reducible rfl
  rotate_left
  · simp only [Act.put, List.setIfInBounds_toArray, List.set_cons_zero, List.set_cons_succ, i64_w, i32_w]
    rfl
  refine pure_ (i := 5) (N := some 80) (v := ?_) (a' := ?_) #[true, true, true, false, false, true, false, false, false, false, false, false, false, false] rfl rfl (by kernel_rfl) (fun _ _ _ h => h) (Or.inl ⟨by rfl, ?_⟩) ?_ ?_
  rotate_left
  · intro w'
    go_simp
    with_reducible rfl
  rotate_left
  · simp only [Act.put, List.setIfInBounds_toArray, List.set_cons_zero, List.set_cons_succ, i64_w, i32_w]
    rfl
  refine take_ (i := 3) (N := some 78) (v := ?_) (a' := ?_) #[true, true, true, true, false, true, false, false, false, false, false, false, false, false] rfl rfl (by kernel_rfl) (fun _ _ _ h => h) (Or.inl ⟨by rfl, ?_⟩) hHeld ?_ ?_
  rotate_left
  · intro w' s0
    go_simp
    with_reducible rfl
  rotate_left
  · simp only [Act.put, List.setIfInBounds_toArray, List.set_cons_zero, List.set_cons_succ, i64_w, i32_w]
    rfl
  refine take_ (i := 6) (N := some 81) (v := ?_) (a' := ?_) #[true, true, true, true, false, true, true, false, false, false, false, false, false, false] rfl rfl (by kernel_rfl) (fun _ _ _ h => h) (Or.inl ⟨by rfl, ?_⟩) hHeld ?_ ?_
  rotate_left
  · intro w' s0
    go_simp
    with_reducible rfl
  rotate_left
  · simp only [Act.put, List.setIfInBounds_toArray, List.set_cons_zero, List.set_cons_succ, i64_w, i32_w]
    rfl
  refine one_ (i := 4) (N := some 79) #[true, true, true, true, true, true, true, false, false, false, false, false, false, false] rfl rfl (by kernel_rfl) (by decide) (fun K hK => ?_)
  refine goes_ Try.func68 (by kernel_rfl) rfl #[.pointer (some ⟨g, 0, none⟩), .int .i64 2] (by rfl) rfl rfl (by simp only [List.map_toArray, List.map_cons, List.map_nil]; rfl) ?_
  with_reducible refine (num_any w0 _ g s (t) 2 2 rfl (by decide) HO1.out HD.out.ri).mono ?_
  rintro e5 w5 ⟨rfl, hI5, hk5⟩
  refine ⟨_, rfl, ?_⟩
  have HQ := Aside0.mk (HD.out.rd hI5 hk5)
  clear hI5 hk5
  refine hK.out _ _ (HQ.out.cells.1) (fun hHeld => ?_)
  clear hK K
  refine norm_ (a' := ?_) ?_ ?_
  rotate_left
  · show Act.put _ (some 79) _ = _
    simp only [Act.put, List.setIfInBounds_toArray, List.set_cons_zero, List.set_cons_succ, i64_w, i32_w]
    rfl
  refine last_ (i := 7) (N := some 82) #[true, true, true, true, true, true, true, true, false, false, false, false, false, false] rfl rfl (by kernel_rfl) (by decide) (fun K hK => ?_)
  refine goes_ Try.func68 (by kernel_rfl) rfl #[.pointer (some ⟨g, 0, none⟩), .int .i64 1] (by rfl) rfl rfl (by simp only [List.map_toArray, List.map_cons, List.map_nil]; rfl) ?_
  with_reducible refine (num_any w0 _ g s (numR s (t) 2).2 1 1 rfl (by decide) (HO1.out.num 2) HQ.out.ri).mono ?_
  rintro e6 w6 ⟨rfl, hI6, hk6⟩
  refine ⟨_, rfl, ?_⟩
  have HR := Aside0.mk (HQ.out.rd hI6 hk6)
  clear hI6 hk6
  have c3 : w6.cell? ⟨bx, 3, none⟩ = some _ := blk_cell HR.out.ins 3
  have c3f := HR.out.cells.2.2.2.2.2 3
  refine hK.out _ _ ?_
  clear hK K
  refine norm_ (a' := ?_) ?_ ?_
  rotate_left
  · show Act.put _ (some 82) _ = _
    simp only [Act.put, List.setIfInBounds_toArray, List.set_cons_zero, List.set_cons_succ, i64_w, i32_w]
    rfl
  refine pure_ (i := 8) (N := some 83) (v := ?_) (a' := ?_) #[true, true, true, true, true, true, true, true, true, false, false, false, false, false] rfl rfl (by kernel_rfl) (fun _ _ _ h => h) (Or.inl ⟨by rfl, ?_⟩) ?_ ?_
  rotate_left
  · intro w'
    go_simp
    with_reducible rfl
  rotate_left
  · simp only [Act.put, List.setIfInBounds_toArray, List.set_cons_zero, List.set_cons_succ, i64_w, i32_w]
    rfl
  refine pure_ (i := 9) (N := some 84) (v := ?_) (a' := ?_) #[true, true, true, true, true, true, true, true, true, true, false, false, false, false] rfl rfl (by kernel_rfl) (fun _ _ _ h => h) (Or.inl ⟨by rfl, ?_⟩) ?_ ?_
  rotate_left
  · intro w'
    go_simp
    with_reducible rfl
  rotate_left
  · simp only [Act.put, List.setIfInBounds_toArray, List.set_cons_zero, List.set_cons_succ, i64_w, i32_w]
    rfl
  refine last_ (i := 10) (N := none) #[true, true, true, true, true, true, true, true, true, true, true, false, false, false] rfl rfl (by kernel_rfl) (by decide) (fun K hK => ?_)
  refine skip_ (w1 := ?_) (by rfl) rfl ?_ ?_
  rotate_left
  · go_simp
    rfl
  have HS3 := Aside0.mk (HR.out.set 3 (.int .i64 (numR s (t) 2).1) (⟨x.f0, x.f1, x.f2, (numR s (t) 2).1, x.f4, x.f5, x.f6, x.f7⟩ : S82) rfl rfl rfl)
  have c4 : (w6.setCell ⟨bx, 3, none⟩ (.int .i64 (numR s (t) 2).1)).cell? ⟨bx, 4, none⟩ = some _ := blk_cell HS3.out.ins 4
  have c4f := HS3.out.cells.2.2.2.2.2 4
  refine hK.out _ _ ?_
  clear hK K
  refine pure_ (i := 11) (N := some 85) (v := ?_) (a' := ?_) #[true, true, true, true, true, true, true, true, true, true, true, true, false, false] rfl rfl (by kernel_rfl) (fun _ _ _ h => h) (Or.inl ⟨by rfl, ?_⟩) ?_ ?_
  rotate_left
  · intro w'
    go_simp
    with_reducible rfl
  rotate_left
  · simp only [Act.put, List.setIfInBounds_toArray, List.set_cons_zero, List.set_cons_succ, i64_w, i32_w]
    rfl
  refine pure_ (i := 12) (N := some 86) (v := ?_) (a' := ?_) #[true, true, true, true, true, true, true, true, true, true, true, true, true, false] rfl rfl (by kernel_rfl) (fun _ _ _ h => h) (Or.inl ⟨by rfl, ?_⟩) ?_ ?_
  rotate_left
  · intro w'
    go_simp
    with_reducible rfl
  rotate_left
  · simp only [Act.put, List.setIfInBounds_toArray, List.set_cons_zero, List.set_cons_succ, i64_w, i32_w]
    rfl
  refine last_ (i := 13) (N := none) #[true, true, true, true, true, true, true, true, true, true, true, true, true, true] rfl rfl (by kernel_rfl) (by decide) (fun K hK => ?_)
  refine skip_ (w1 := ?_) (by rfl) rfl ?_ ?_
  rotate_left
  · go_simp
    rfl
  refine hK.out _ _ ?_
  clear hK K
  refine done_ (by kernel_rfl) ?_
  have H7 := Aside0.mk (HS3.out.set 4 (.int .i64 (numR s (numR s (t) 2).2 1).1) (⟨x.f0, x.f1, x.f2, (numR s (t) 2).1, (numR s (numR s (t) 2).2 1).1, x.f5, x.f6, x.f7⟩ : S82) rfl rfl rfl)
  have HO7 := Aside0.mk ((HO1.out.num 2).num 1)
  clear c3 c3f c4 c4f HS3 HR HQ HD H1
  try clear hHeld
  generalize World.setCell _ ⟨bx, 4, none⟩ _ = W7 at *
  have x4 : W7.cell? ⟨bx, 4, none⟩ = some (.int .i64 (numR s (numR s (t) 2).2 1).1) := blk_cell H7.out.ins 4
  obtain ⟨d0_7, d1_7, d2_7, d3_7, d4_7, d5_7⟩ := H7.out.cells
  by_cases h2 : (numR s (numR s t 2).2 1).1 = 0
  · have b2 : ((numR s (numR s t 2).2 1).1 == 0) = true := beq_iff_eq.2 h2
    have HM : Aside0 (moreD s x 14 t = ((⟨x.f0, x.f1, x.f2, (numR s t 2).1, (numR s (numR s t 2).2 1).1, x.f5, x.f6, x.f7⟩ : S82), failR (numR s (numR s t 2).2 1).2 15 x.f0)) := ⟨by unfold moreD; rw [if_neg (by decide), if_neg (by decide), if_neg (by decide), if_pos rfl, if_pos h2]⟩
    clear h2
    as_aux_lemma =>
    go_upto_region 16 with (fail)
    go_region_held3 (fun w' => w'.cell? ⟨w.heap.size, 0, none⟩ = some (.pointer (some ⟨g, 0, none⟩)) ∧ w'.cell? ⟨bx, 0, none⟩ = some (.int .i64 x.f0)) (first | exact ⟨d0_7, d1_7⟩ | exact ⟨q1, q2⟩) ((go_at_call 73; first | (refine (fail_any w0 _ g s ((numR s (numR s t 2).2 1).2) 15 (x.f0) (H7.out.ri.below (by first | exact drewB _ | exact below_drew (Below.refl _ _)))).mono ?_; rintro e9 w9 ⟨rfl, hI9, hk9⟩; have q1 := (H7.out.drew.rd hI9 hk9).cells.1; have q2 := (H7.out.drew.rd hI9 hk9).cells.2.1)))
    all_goals
      have H9 := Aside0.mk (H7.out.drew.rd hI9 hk9)
      clear hI9 hk9
      try clear q1 q2
      go_wp2
      go_end0
      rw [HM.out]
      exact ⟨rfl, _, _, H9.out.xs⟩
  · have b2 : ((numR s (numR s t 2).2 1).1 == 0) = false := beq_eq_false_iff_ne.2 h2
    have HM : Aside0 (moreD s x 14 t = ((⟨x.f0, x.f1, x.f2, (numR s t 2).1, (numR s (numR s t 2).2 1).1, x.f5, x.f6, x.f7⟩ : S82), (numR s (numR s t 2).2 1).2)) := ⟨by unfold moreD; rw [if_neg (by decide), if_neg (by decide), if_neg (by decide), if_pos rfl, if_neg h2]⟩
    clear h2
    as_aux_lemma =>
    go_wp2
    go_end0
    rw [HM.out]
    exact ⟨rfl, _, _, H7.out.xs⟩
end Go.Proofs.Ytfnjbmpolggdeaa.CD
end
