/-
  Texts that the proof in the last of these files needs: jvmcorelaw3.MapRounds answers true for every string, pool and list of types: nothing is assumed.
-/
import Derived.Test.YtfnjbmpolggdeaaProg
import Derived.Below
import Derived.Deep.Draws
import Derived.Deep.AppendLies
import Derived.Maps.AppendAt
import Derived.OwnWalk
import Derived.Laws.BytesArg
import Derived.Laws.MakeOwn
import Derived.Laws.OwnMore
import Derived.Deep.OwnRows
import Derived.Tactics
import Derived.Lib.ConvBytes
import Derived.Laws.Slices
import Derived.WalkKit
import Derived.KernelRfl
import Derived.RowKit3
import Derived.Deep.LoopGhost
import Derived.Deep.QuietTactic
import Derived.BigQuiet
import Derived.WideLaws
import Derived.Deep.DeepCutAuto
import Derived.Deep.CutBlock
import Derived.Deep.RegionHeld3
import Derived.Laws.Rows
import Derived.Lib.AppendStr
import Derived.ArgAppend
import Derived.Laws.IdiomCopy
import Derived.OrdersHeld
import Derived.Laws.BitsLemmas
import Derived.RowKit
import Derived.WalkSpells
import Derived.WalkLawsBesides
import Derived.Laws.BitsAllLaws
import Derived.Laws.BytesString
import Derived.Lib.Hide
import Derived.Lib.SliceRun
import Derived.Test.YtfnjbmpolggdeaaQU1
section
namespace Go.Proofs.Ytfnjbmpolggdeaa.MD
open Go.RowKit Go.Proofs.YtfnjbmpolggdeaaW.PrintWords Go.Proofs.YtfnjbmpolggdeaaW.PrintLast Go.Proofs.YtfnjbmpolggdeaaW.PrintMore
attribute [local go_sem] max2_int min2_int max_two min_two max_three min_three max_four min_four   -- for this text's walks alone
set_option linter.unusedVariables false
set_option linter.unusedSimpArgs false
theorem info54 : (Try.prog.info? 54).map (fun i => (i.zero, i.size, i.bytes)) = some (some (.agg #[(.int .u8 0), (.string ⟨#[]⟩), (.int .i64 0)]), 3, 32) := by kernel_rfl
theorem info80 : (Try.prog.info? 80).map (fun i => (i.zero, i.size, i.bytes)) = some (some (.agg #[(.int .i64 0), (.slice none 0 0), (.slice none 0 0)]), 3, 56) := by kernel_rfl
structure S37 where
  f0 : Int
  f1 : ByteArray
  f2 : Int
  f3 : Int
  f4 : Int
def z37 : S37 := ⟨(0 : Int), (⟨#[]⟩ : ByteArray), (0 : Int), (0 : Int), (0 : Int)⟩
def k37 : Kd S37 := Kd.iso (Kd.pair (Kd.int .u8) (Kd.pair Kd.string (Kd.pair (Kd.int .u64) (Kd.pair (Kd.int .u16) (Kd.int .u16))))) (fun x : S37 => (x.f0, x.f1, x.f2, x.f3, x.f4))
theorem k37_heap : Kd.Heap k37 := Kd.heap_iso _ (Kd.heap_pair (Kd.heap_int .u8) (Kd.heap_pair Kd.heap_string (Kd.heap_pair (Kd.heap_int .u64) (Kd.heap_pair (Kd.heap_int .u16) (Kd.heap_int .u16)))))
theorem k37_open {w : World} {x : S37} {cs : List Value} (h : k37.K w x cs) : cs = [.int .u8 x.f0, .string x.f1, .int .u64 x.f2, .int .u16 x.f3, .int .u16 x.f4] := by
  obtain ⟨_, _, rfl, rfl, ⟨_, _, rfl, rfl, ⟨_, _, rfl, rfl, ⟨_, _, rfl, rfl, rfl⟩⟩⟩⟩ := h
  exact rfl
def rd_T37 (xs : List S37) (i : Int) : S37 := xs.getD i.toNat z37
theorem at_T37 {w : World} {A : Option Addr} {n : Nat} {xs : List S37} (h : Kd.C k37 w A n xs) (i : Int) (h0 : 0 ≤ i) (h1 : i < n) : ∃ ad , A = some ad ∧ w.cell? (ad.add (i.toNat * 5)) = some (.int .u8 (rd_T37 xs i).f0) ∧ w.cell? ⟨(ad.add (i.toNat * 5)).block, (ad.add (i.toNat * 5)).off + 1, none⟩ = some (.string (rd_T37 xs i).f1) ∧ w.cell? ⟨(ad.add (i.toNat * 5)).block, (ad.add (i.toNat * 5)).off + 2, none⟩ = some (.int .u64 (rd_T37 xs i).f2) ∧ w.cell? ⟨(ad.add (i.toNat * 5)).block, (ad.add (i.toNat * 5)).off + 3, none⟩ = some (.int .u16 (rd_T37 xs i).f3) ∧ w.cell? ⟨(ad.add (i.toNat * 5)).block, (ad.add (i.toNat * 5)).off + 4, none⟩ = some (.int .u16 (rd_T37 xs i).f4) := by
  obtain ⟨ad, c, e, _, hK, hc0⟩ := Kd.C_get h z37 i h0 h1
  have hc : ∀ j u, c[j]? = some u → w.cell? (ad.add (i.toNat * 5 + j)) = some u := hc0
  obtain rfl := k37_open hK
  exact ⟨ad, e, hc 0 _ rfl, by rw [← add_field _ _ 1 (by omega)]; exact hc 1 _ rfl, by rw [← add_field _ _ 2 (by omega)]; exact hc 2 _ rfl, by rw [← add_field _ _ 3 (by omega)]; exact hc 3 _ rfl, by rw [← add_field _ _ 4 (by omega)]; exact hc 4 _ rfl⟩
structure S54 where
  f0 : Int
  f1 : ByteArray
  f2 : Int
def z54 : S54 := ⟨(0 : Int), (⟨#[]⟩ : ByteArray), (0 : Int)⟩
def k54 : Kd S54 := Kd.iso (Kd.pair (Kd.int .u8) (Kd.pair Kd.string (Kd.int .i64))) (fun x : S54 => (x.f0, x.f1, x.f2))
theorem k54_heap : Kd.Heap k54 := Kd.heap_iso _ (Kd.heap_pair (Kd.heap_int .u8) (Kd.heap_pair Kd.heap_string (Kd.heap_int .i64)))
theorem k54_open {w : World} {x : S54} {cs : List Value} (h : k54.K w x cs) : cs = [.int .u8 x.f0, .string x.f1, .int .i64 x.f2] := by
  obtain ⟨_, _, rfl, rfl, ⟨_, _, rfl, rfl, rfl⟩⟩ := h
  exact rfl
theorem k54_mkM (w : World) (base : Nat) (ok : Nat → Prop) (x : S54)  : k54.M w base ok x [.int .u8 x.f0, .string x.f1, .int .i64 x.f2] := ⟨[.int .u8 x.f0], [.string x.f1, .int .i64 x.f2], rfl, rfl, ⟨[.string x.f1], [.int .i64 x.f2], rfl, rfl, rfl⟩⟩
def rd_T54 (xs : List S54) (i : Int) : S54 := xs.getD i.toNat z54
theorem at_T54 {w : World} {A : Option Addr} {n : Nat} {xs : List S54} (h : Kd.C k54 w A n xs) (i : Int) (h0 : 0 ≤ i) (h1 : i < n) : ∃ ad , A = some ad ∧ w.cell? (ad.add (i.toNat * 3)) = some (.int .u8 (rd_T54 xs i).f0) ∧ w.cell? ⟨(ad.add (i.toNat * 3)).block, (ad.add (i.toNat * 3)).off + 1, none⟩ = some (.string (rd_T54 xs i).f1) ∧ w.cell? ⟨(ad.add (i.toNat * 3)).block, (ad.add (i.toNat * 3)).off + 2, none⟩ = some (.int .i64 (rd_T54 xs i).f2) := by
  obtain ⟨ad, c, e, _, hK, hc0⟩ := Kd.C_get h z54 i h0 h1
  have hc : ∀ j u, c[j]? = some u → w.cell? (ad.add (i.toNat * 3 + j)) = some u := hc0
  obtain rfl := k54_open hK
  exact ⟨ad, e, hc 0 _ rfl, by rw [← add_field _ _ 1 (by omega)]; exact hc 1 _ rfl, by rw [← add_field _ _ 2 (by omega)]; exact hc 2 _ rfl⟩
structure S80 where
  f0 : Int
  f1 : (List S54)
  f2 : (List S54)
def z80 : S80 := ⟨(0 : Int), ([] : List S54), ([] : List S54)⟩
def k80 : Kd S80 := Kd.iso (Kd.pair (Kd.int .i64) (Kd.pair (Kd.slice 54 k54) (Kd.slice 54 k54))) (fun x : S80 => (x.f0, x.f1, x.f2))
theorem k80_open {w : World} {x : S80} {cs : List Value} (h : k80.K w x cs) : ∃ A1 c1 A2 c2, cs = [.int .i64 x.f0, .slice A1 x.f1.length c1, .slice A2 x.f2.length c2] ∧ x.f1.length ≤ c1 ∧ k54.C w A1 x.f1.length x.f1 ∧ x.f2.length ≤ c2 ∧ k54.C w A2 x.f2.length x.f2 := by
  obtain ⟨_, _, rfl, rfl, ⟨_, _, rfl, ⟨A1, c1, rfl, l1, g1⟩, ⟨A2, c2, rfl, l2, g2⟩⟩⟩ := h
  exact ⟨A1, c1, A2, c2, rfl, l1, g1, l2, g2⟩
theorem k80_mkM (w : World) (base : Nat) (ok : Nat → Prop) (x : S80) {v1 : Value} (g1 : k54.R 54 w base ok v1 x.f1) {v2 : Value} (g2 : k54.R 54 w base ok v2 x.f2) : k80.M w base ok x [.int .i64 x.f0, v1, v2] := ⟨[.int .i64 x.f0], [v1, v2], rfl, rfl, ⟨[v1], [v2], rfl, ⟨v1, rfl, g1⟩, ⟨v2, rfl, g2⟩⟩⟩
def rd_T80 (xs : List S80) (i : Int) : S80 := xs.getD i.toNat z80
theorem at_T80 {w : World} {A : Option Addr} {n : Nat} {xs : List S80} (h : Kd.C k80 w A n xs) (i : Int) (h0 : 0 ≤ i) (h1 : i < n) : ∃ ad A1 c1 A2 c2, A = some ad ∧ w.cell? (ad.add (i.toNat * 3)) = some (.int .i64 (rd_T80 xs i).f0) ∧ w.cell? ⟨(ad.add (i.toNat * 3)).block, (ad.add (i.toNat * 3)).off + 1, none⟩ = some (.slice A1 (rd_T80 xs i).f1.length c1) ∧ w.cell? ⟨(ad.add (i.toNat * 3)).block, (ad.add (i.toNat * 3)).off + 2, none⟩ = some (.slice A2 (rd_T80 xs i).f2.length c2) ∧ (rd_T80 xs i).f1.length ≤ c1 ∧ k54.C w A1 (rd_T80 xs i).f1.length (rd_T80 xs i).f1 ∧ (rd_T80 xs i).f2.length ≤ c2 ∧ k54.C w A2 (rd_T80 xs i).f2.length (rd_T80 xs i).f2 := by
  obtain ⟨ad, c, e, _, hK, hc0⟩ := Kd.C_get h z80 i h0 h1
  have hc : ∀ j u, c[j]? = some u → w.cell? (ad.add (i.toNat * 3 + j)) = some u := hc0
  obtain ⟨A1, c1, A2, c2, rfl, l1, g1, l2, g2⟩ := k80_open hK
  exact ⟨ad, A1, c1, A2, c2, e, hc 0 _ rfl, by rw [← add_field _ _ 1 (by omega)]; exact hc 1 _ rfl, by rw [← add_field _ _ 2 (by omega)]; exact hc 2 _ rfl, l1, g1, l2, g2⟩
end Go.Proofs.Ytfnjbmpolggdeaa.MD
end
section
namespace Go.Proofs.Ytfnjbmpolggdeaa.MD
open Go.RowKit Go.Proofs.YtfnjbmpolggdeaaW.PrintWords Go.Proofs.YtfnjbmpolggdeaaW.PrintLast Go.Proofs.YtfnjbmpolggdeaaW.PrintMore
attribute [local go_sem] max2_int min2_int max_two min_two max_three min_three max_four min_four   -- for this text's walks alone
set_option linter.unusedVariables false
set_option linter.unusedSimpArgs false
def jvmcoreref1_Num.l0 : Nat → ByteArray → Int → Int → Option (Int)
  | 0, _, _, _ => none
  | k + 1, x0, x3, x4 => if x4 < (x0.size : Int) then (if 0 ≤ x4 then (jvmcoreref1_Num.l0 k x0 (IntKind.u64.wrap ((IntKind.u64.wrap (x3 * 256)) + (IntKind.u64.wrap (bt x0 x4)))) (wrap64 (x4 + 1))) else (none)) else (some x3)
def jvmcoreref1_Num.f (k : Nat) (a0 : ByteArray) : Option (Int) := jvmcoreref1_Num.l0 k a0 0 0
theorem jvmcoreref1_Num.mono_l : ∀ k, (∀ y0 y1 y2, LeO (jvmcoreref1_Num.l0 k y0 y1 y2) (jvmcoreref1_Num.l0 (k + 1) y0 y1 y2))
  | 0 => fun _ _ _ r h => by simp [jvmcoreref1_Num.l0] at h
  | k + 1 => by
    have ih0 := jvmcoreref1_Num.mono_l k
    · intro y0 y1 y2
      unfold jvmcoreref1_Num.l0
      repeat' first
      | (with_reducible exact ih0 _ _ _)
      | (with_reducible exact LeO.refl _)
      | (with_reducible exact LeO.none _)
      | (with_reducible refine LeO.ite ?_ ?_)
      | (with_reducible refine LeO.bind ?_ (fun _ => ?_))
theorem jvmcoreref1_Num.mono : ∀ a0 k, LeO (jvmcoreref1_Num.f k a0) (jvmcoreref1_Num.f (k + 1) a0) := by
  intro a0 k
  have ih0 := jvmcoreref1_Num.mono_l k
  unfold jvmcoreref1_Num.f
  repeat' first
      | (with_reducible exact ih0 _ _ _)
      | (with_reducible exact LeO.refl _)
      | (with_reducible exact LeO.none _)
      | (with_reducible refine LeO.ite ?_ ?_)
      | (with_reducible refine LeO.bind ?_ (fun _ => ?_))
set_option maxHeartbeats 8000000 in
set_option maxRecDepth 100000 in
theorem jvmcoreref1_Num.calls (k : Nat) (a0 : ByteArray) (r : Int) (w : World) (h : jvmcoreref1_Num.f k a0 = some r) :
    Calls Try.prog 67 #[.string a0] w fun e w' => e = .returned (.int .u64 r) ∧ Drawn0 w w' := by
  have H : (jvmcoreref1_Num.l0 k a0 0 0) = some r := h
  clear h
  have H' := Aside0.mk H
  clear H
  go_enter Try.func67, Try.ntmps67
  go_wp2
  go_loopg [3, 4] k (fun kq v3 v4 w' => ∃ (x3_1 : Int) (x4_1 : Int), v3 = .int .u64 x3_1 ∧ v4 = .int .i64 x4_1 ∧ Aside0 (jvmcoreref1_Num.l0 kq a0 x3_1 x4_1 = some r) ∧ Aside0 (kq ≤ k) ∧ Drawn0 w w')
  case atStart => exact ⟨(0), (0), (by first | rfl | (simp; done) | (simp [*]; done)), (by first | rfl | (simp; done) | (simp [*]; done)), H', ⟨Nat.le_refl _⟩, by repeat (first | exact Drawn0.refl _ | apply Drawn0.step)⟩
  case round =>
    clear H'
    obtain ⟨x3_1, x4_1, rfl, rfl, HA, HK1, ⟨m1, rfl⟩⟩ := hrel
    cases gk with
    | zero => exact absurd HA.out (by simp [jvmcoreref1_Num.l0])
    | succ k1 =>
      have H := HA.out
      clear HA
      simp only [jvmcoreref1_Num.l0] at H
      by_cases c2 : x4_1 < (a0.size : Int)
      · rw [if_pos c2] at H
        have c2b0 : decide (x4_1 < (a0.size : Int)) = true := decide_eq_true c2
        clear c2
        by_cases c3 : 0 ≤ x4_1
        · rw [if_pos c3] at H
          have c3b0 : decide (0 ≤ x4_1) = true := decide_eq_true c3
          clear c3
          have H' := Aside0.mk H
          clear H
          have p4 : 0 ≤ (x4_1 : Int) := of_decide_eq_true (by first | (with_reducible assumption) | assumption)
          have q4 : x4_1 < (a0.size : Int) := of_decide_eq_true (by first | (with_reducible assumption) | assumption)
          have hx4 := bt_at a0 x4_1
          replace p4 := eq_true p4
          replace q4 := eq_true q4
          go_wp2
          go_roundg k1
          case measure => have := HK1.out; omega
          case rel => exact ⟨(IntKind.u64.wrap ((IntKind.u64.wrap (x3_1 * 256)) + (IntKind.u64.wrap (bt a0 x4_1)))), (wrap64 (x4_1 + 1)), (by first | rfl | (simp; done) | (simp [*]; done)), (by first | rfl | (simp; done) | (simp [*]; done)), H', ⟨by have := HK1.out; omega⟩, by repeat (first | exact Drawn0.refl _ | apply Drawn0.step)⟩
        · rw [if_neg c3] at H
          exact absurd H (by simp)
      · rw [if_neg c2] at H
        have c2b0 : decide (x4_1 < (a0.size : Int)) = false := decide_eq_false c2
        clear c2
        obtain rfl := Option.some.inj H
        go_wp2
        go_ret
        exact ⟨by first | rfl | (simp; done) | (simp [*]; done), by repeat (first | exact Drawn0.refl _ | apply Drawn0.step)⟩
end Go.Proofs.Ytfnjbmpolggdeaa.MD
end
section
namespace Go.Proofs.Ytfnjbmpolggdeaa.MD
open Go.RowKit Go.Proofs.YtfnjbmpolggdeaaW.PrintWords Go.Proofs.YtfnjbmpolggdeaaW.PrintLast Go.Proofs.YtfnjbmpolggdeaaW.PrintMore
attribute [local go_sem] max2_int min2_int max_two min_two max_three min_three max_four min_four   -- for this text's walks alone
set_option linter.unusedVariables false
set_option linter.unusedSimpArgs false
def IsS110 (w0 W : World) (g : Nat) (f0 : ByteArray) (f1 : Int) (f2 : Int) (f3 : Int) : Prop := W.heap[g]? = some (.cells #[.string f0, .int .i64 f1, .int .i64 f2, .int .i64 f3] 110 (0, 0)) ∧ w0.heap.size ≤ g
theorem IsS110.grown {w0 W : World} {g : Nat} {f0 : ByteArray} {f1 : Int} {f2 : Int} {f3 : Int} {W1 : World} {row : Option Nat} (h : IsS110 w0 W g f0 f1 f2 f3) (hw : W.grownBy W1 row) (hne : some g ≠ row) : IsS110 w0 W1 g f0 f1 f2 f3 := by
  obtain ⟨hb, hg⟩ := h
  exact ⟨blk_grown hb hw hne, hg⟩
theorem IsS110.kept {w0 W : World} {g : Nat} {f0 : ByteArray} {f1 : Int} {f2 : Int} {f3 : Int} {W1 : World} {S : Nat → Prop} (h : IsS110 w0 W g f0 f1 f2 f3) (hk : Kept W W1 S) (hne : ¬ S g) : IsS110 w0 W1 g f0 f1 f2 f3 := by
  obtain ⟨hb, hg⟩ := h
  exact ⟨blk_kept hb hk hne, hg⟩
theorem IsS110.below {w0 W : World} {g : Nat} {f0 : ByteArray} {f1 : Int} {f2 : Int} {f3 : Int} {W1 : World} (h : IsS110 w0 W g f0 f1 f2 f3) (hw : Below W.heap.size W W1) : IsS110 w0 W1 g f0 f1 f2 f3 := h.grown (grown_of_below hw none) (by simp)
theorem IsS110.drewN {w0 W : World} {g : Nat} {f0 : ByteArray} {f1 : Int} {f2 : Int} {f3 : Int} (h : IsS110 w0 W g f0 f1 f2 f3) (m : Nat) : IsS110 w0 (W.drewN m) g f0 f1 f2 f3 := h
theorem IsS110.drew {w0 W : World} {g : Nat} {f0 : ByteArray} {f1 : Int} {f2 : Int} {f3 : Int} (h : IsS110 w0 W g f0 f1 f2 f3) : IsS110 w0 W.drew g f0 f1 f2 f3 := h
theorem IsS110.at_ {w0 W : World} {g : Nat} {f0 : ByteArray} {f1 : Int} {f2 : Int} {f3 : Int} {w' : World} {m : Nat} (hq : W.drewN m = w') (h : IsS110 w0 W g f0 f1 f2 f3) : IsS110 w0 w' g f0 f1 f2 f3 := by subst hq; exact IsS110.drewN h m
theorem IsS110.lt {w0 W : World} {g : Nat} {f0 : ByteArray} {f1 : Int} {f2 : Int} {f3 : Int} (h : IsS110 w0 W g f0 f1 f2 f3) : g < W.heap.size := by
  obtain ⟨hb, hg⟩ := h
  exact blk_lt hb
theorem IsS110.ge {w0 W : World} {g : Nat} {f0 : ByteArray} {f1 : Int} {f2 : Int} {f3 : Int} (h : IsS110 w0 W g f0 f1 f2 f3) : w0.heap.size ≤ g := by
  obtain ⟨hb, hg⟩ := h
  exact hg
theorem IsS110.ne_blk {w0 W : World} {g : Nat} {f0 : ByteArray} {f1 : Int} {f2 : Int} {f3 : Int} {a : Nat} {cs : Array Value} {t : TypeId} {fr : Nat × Nat} (h : IsS110 w0 W g f0 f1 f2 f3) (hb2 : W.heap[a]? = some (.cells cs t fr)) (ht : t ≠ 110) : g ≠ a := by
  obtain ⟨hb, hg⟩ := h
  rintro rfl
  rw [hb] at hb2
  injection hb2 with hb2
  injection hb2 with _ ht2
  exact ht ht2.symm
theorem IsS110.far {w0 W : World} {g : Nat} {f0 : ByteArray} {f1 : Int} {f2 : Int} {f3 : Int} {p : Addr} (h : IsS110 w0 W g f0 f1 f2 f3) (hne : g ≠ p.block) (u : Value) : IsS110 w0 (W.setCell p u) g f0 f1 f2 f3 := by
  obtain ⟨hb, hg⟩ := h
  exact ⟨blk_far hb hne u, hg⟩
theorem cellS110_0 {W : World} {g : Nat} {f0 : ByteArray} {f1 : Int} {f2 : Int} {f3 : Int} (h : W.heap[g]? = some (.cells #[.string f0, .int .i64 f1, .int .i64 f2, .int .i64 f3] 110 (0, 0))) : W.cell? ⟨g, 0, none⟩ = some (.string f0) := (blk_cell h 0).trans rfl
theorem cellS110_1 {W : World} {g : Nat} {f0 : ByteArray} {f1 : Int} {f2 : Int} {f3 : Int} (h : W.heap[g]? = some (.cells #[.string f0, .int .i64 f1, .int .i64 f2, .int .i64 f3] 110 (0, 0))) : W.cell? ⟨g, 1, none⟩ = some (.int .i64 f1) := (blk_cell h 1).trans rfl
theorem IsS110.set_1 {w0 W : World} {g : Nat} {f0 : ByteArray} {f1 : Int} {f2 : Int} {f3 : Int} (h : IsS110 w0 W g f0 f1 f2 f3) (x : Int) : IsS110 w0 (W.setCell ⟨g, 1, none⟩ (.int .i64 x)) g f0 x f2 f3 := by
  obtain ⟨hb, hg⟩ := h
  exact ⟨by simpa using blk_set hb 1 (.int .i64 x), hg⟩
theorem cellS110_2 {W : World} {g : Nat} {f0 : ByteArray} {f1 : Int} {f2 : Int} {f3 : Int} (h : W.heap[g]? = some (.cells #[.string f0, .int .i64 f1, .int .i64 f2, .int .i64 f3] 110 (0, 0))) : W.cell? ⟨g, 2, none⟩ = some (.int .i64 f2) := (blk_cell h 2).trans rfl
theorem IsS110.set_2 {w0 W : World} {g : Nat} {f0 : ByteArray} {f1 : Int} {f2 : Int} {f3 : Int} (h : IsS110 w0 W g f0 f1 f2 f3) (x : Int) : IsS110 w0 (W.setCell ⟨g, 2, none⟩ (.int .i64 x)) g f0 f1 x f3 := by
  obtain ⟨hb, hg⟩ := h
  exact ⟨by simpa using blk_set hb 2 (.int .i64 x), hg⟩
theorem cellS110_3 {W : World} {g : Nat} {f0 : ByteArray} {f1 : Int} {f2 : Int} {f3 : Int} (h : W.heap[g]? = some (.cells #[.string f0, .int .i64 f1, .int .i64 f2, .int .i64 f3] 110 (0, 0))) : W.cell? ⟨g, 3, none⟩ = some (.int .i64 f3) := (blk_cell h 3).trans rfl
theorem IsS110.set_3 {w0 W : World} {g : Nat} {f0 : ByteArray} {f1 : Int} {f2 : Int} {f3 : Int} (h : IsS110 w0 W g f0 f1 f2 f3) (x : Int) : IsS110 w0 (W.setCell ⟨g, 3, none⟩ (.int .i64 x)) g f0 f1 f2 x := by
  obtain ⟨hb, hg⟩ := h
  exact ⟨by simpa using blk_set hb 3 (.int .i64 x), hg⟩
theorem IsS110.new (w0 W : World) (f0 : ByteArray) (f1 : Int) (f2 : Int) (f3 : Int) (hB : Below w0.heap.size w0 W) : IsS110 w0 (W.alloc (.cells #[.string f0, .int .i64 f1, .int .i64 f2, .int .i64 f3] 110)) W.heap.size f0 f1 f2 f3 := ⟨by simpa using heap_alloc_new W _, hB.size⟩
def jvmcoreref3_cut_fail.f (s0_0 : ByteArray) (s0_1 : Int) (s0_2 : Int) (s0_3 : Int) (a1 : Int) (a2 : Int) : Option (ByteArray × Int × Int × Int) := if s0_2 = 0 then (some (s0_0, s0_1, a1, a2)) else (some (s0_0, s0_1, s0_2, s0_3))
set_option maxHeartbeats 8000000 in
set_option maxRecDepth 100000 in
theorem jvmcoreref3_cut_fail.calls (g : Nat) (s0_0 : ByteArray) (s0_1 : Int) (s0_2 : Int) (s0_3 : Int) (a1 : Int) (a2 : Int) (r1 : ByteArray) (r2 : Int) (r3 : Int) (r4 : Int) (w0 w : World) (hI : IsS110 w0 w g s0_0 s0_1 s0_2 s0_3) (hB : Below w0.heap.size w0 w) (h : jvmcoreref3_cut_fail.f s0_0 s0_1 s0_2 s0_3 a1 a2 = some (r1, r2, r3, r4)) :
    Calls Try.prog 77 #[.pointer (some ⟨g, 0, none⟩), .int .i64 a1, .int .i64 a2] w fun e w' => e = .returned (.tuple #[]) ∧ IsS110 w0 w' g r1 r2 r3 r4 ∧ Below w0.heap.size w0 w' ∧ KeepBut w w' g none := by
  have HI0 := Aside0.mk hI
  have HK := Aside0.mk (KeepBut.refl w g none)
  have HL := Aside0.mk hB.size
  clear hI
  have HW0 := Aside0.mk hB.size
  have HB := Aside0.mk hB
  clear hB
  have H : (if s0_2 = 0 then (some (s0_0, s0_1, a1, a2)) else (some (s0_0, s0_1, s0_2, s0_3))) = some (r1, r2, r3, r4) := h
  clear h
  by_cases c4 : s0_2 = 0
  · rw [if_pos c4] at H
    have c4b0 : (s0_2 == 0) = true := beq_iff_eq.mpr c4
    have c4b1 : (s0_2 != 0) = false := bne_eq_false_iff_eq.mpr c4
    clear c4
    simp only [Option.some.injEq, Prod.mk.injEq] at H
    obtain ⟨rfl, rfl, rfl, rfl⟩ := H
    obtain ⟨HGz5, hgz5⟩ := HI0.out
    have hcz5_0 := cellS110_0 HGz5
    have hcz5_1 := cellS110_1 HGz5
    have hcz5_2 := cellS110_2 HGz5
    have hcz5_3 := cellS110_3 HGz5
    have hfz5_0 := blk_frozen HGz5 0
    have hfz5_1 := blk_frozen HGz5 1
    have hfz5_2 := blk_frozen HGz5 2
    have hfz5_3 := blk_frozen HGz5 3
    clear HGz5 hgz5
    go_enter Try.func77, Try.ntmps77
    go_wp2
    first | go_end0 | ((try simp only [Exit.inBlock, Exit.then]); refine bodyPost_ret (results_none rfl _ _ _) rfl ?_)
    exact ⟨by first | rfl | (simp [errW_none, errW_some] <;> rfl) | (simp [*, errW_none, errW_some] <;> rfl), by repeat (first | (with_reducible first | exact HI0.out | apply IsS110.alloc | apply IsS110.drewN | apply IsS110.drew | apply IsS110.set_0 | apply IsS110.set_1 | apply IsS110.set_2 | apply IsS110.set_3) | exact HI0.out), by repeat (first | (with_reducible first | exact HB.out | apply below_alloc | apply pw_below_drewN | apply below_drew1 | refine below_set ?_ (IsS110.ge HI0.out)) | exact HB.out), by repeat (first | (with_reducible first | exact HK.out | apply KeepBut.set_ | apply keep_drewN | apply keep_drew | apply keep_alloc) | exact HK.out)⟩
  · rw [if_neg c4] at H
    have c4b0 : (s0_2 == 0) = false := beq_eq_false_iff_ne.mpr c4
    have c4b1 : (s0_2 != 0) = true := bne_iff_ne.mpr c4
    simp only [Option.some.injEq, Prod.mk.injEq] at H
    obtain ⟨rfl, rfl, rfl, rfl⟩ := H
    obtain ⟨HGz6, hgz6⟩ := HI0.out
    have hcz6_0 := cellS110_0 HGz6
    have hcz6_1 := cellS110_1 HGz6
    have hcz6_2 := cellS110_2 HGz6
    have hcz6_3 := cellS110_3 HGz6
    have hfz6_0 := blk_frozen HGz6 0
    have hfz6_1 := blk_frozen HGz6 1
    have hfz6_2 := blk_frozen HGz6 2
    have hfz6_3 := blk_frozen HGz6 3
    clear HGz6 hgz6
    go_enter Try.func77, Try.ntmps77
    go_wp2
    first | go_end0 | ((try simp only [Exit.inBlock, Exit.then]); refine bodyPost_ret (results_none rfl _ _ _) rfl ?_)
    exact ⟨by first | rfl | (simp [errW_none, errW_some] <;> rfl) | (simp [*, errW_none, errW_some] <;> rfl), by repeat (first | (with_reducible first | exact HI0.out | apply IsS110.alloc | apply IsS110.drewN | apply IsS110.drew | apply IsS110.set_0 | apply IsS110.set_1 | apply IsS110.set_2 | apply IsS110.set_3) | exact HI0.out), by repeat (first | (with_reducible first | exact HB.out | apply below_alloc | apply pw_below_drewN | apply below_drew1 | refine below_set ?_ (IsS110.ge HI0.out)) | exact HB.out), by repeat (first | (with_reducible first | exact HK.out | apply KeepBut.set_ | apply keep_drewN | apply keep_drew | apply keep_alloc) | exact HK.out)⟩
end Go.Proofs.Ytfnjbmpolggdeaa.MD
end
section
namespace Go.Proofs.Ytfnjbmpolggdeaa.MD
open Go.RowKit Go.Proofs.YtfnjbmpolggdeaaW.PrintWords Go.Proofs.YtfnjbmpolggdeaaW.PrintLast Go.Proofs.YtfnjbmpolggdeaaW.PrintMore
attribute [local go_sem] max2_int min2_int max_two min_two max_three min_three max_four min_four   -- for this text's walks alone
set_option linter.unusedVariables false
set_option linter.unusedSimpArgs false
def jvmcoreref3_cut_take.j0 : Nat → Int → Bool → ByteArray → Int → Int → Int → Option (ByteArray × ByteArray × Int × Int × Int)
  | 0, _, _, _, _, _, _ => none
  | k + 1, x1, x28, x1000, x1001, x1002, x1003 => if x28 = true then ((jvmcoreref3_cut_fail.f x1000 x1001 x1002 x1003 1 (x1000.size : Int)).bind fun bt128 => (if bt128.2.2.1 = 0 then (if 0 ≤ bt128.2.1 then (if bt128.2.1 ≤ (wrap64 (bt128.2.1 + x1)) then (if (wrap64 (bt128.2.1 + x1)) ≤ (bt128.1.size : Int) then (some (bt128.1.extract (bt128.2.1 : Int).toNat ((wrap64 (bt128.2.1 + x1)) : Int).toNat, bt128.1, wrap64 (bt128.2.1 + x1), bt128.2.2.1, bt128.2.2.2)) else (none)) else (none)) else (none)) else (some ((⟨#[]⟩ : ByteArray), bt128.1, bt128.2.1, bt128.2.2.1, bt128.2.2.2)))) else (if x1002 = 0 then (if 0 ≤ x1001 then (if x1001 ≤ (wrap64 (x1001 + x1)) then (if (wrap64 (x1001 + x1)) ≤ (x1000.size : Int) then (some (x1000.extract (x1001 : Int).toNat ((wrap64 (x1001 + x1)) : Int).toNat, x1000, wrap64 (x1001 + x1), x1002, x1003)) else (none)) else (none)) else (none)) else (some ((⟨#[]⟩ : ByteArray), x1000, x1001, x1002, x1003)))
def jvmcoreref3_cut_take.f (k : Nat) (s0_0 : ByteArray) (s0_1 : Int) (s0_2 : Int) (s0_3 : Int) (a1 : Int) : Option (ByteArray × ByteArray × Int × Int × Int) := if s0_2 = 0 then (if a1 < 0 then (jvmcoreref3_cut_take.j0 k a1 true s0_0 s0_1 s0_2 s0_3) else (jvmcoreref3_cut_take.j0 k a1 (decide ((wrap64 (s0_1 + a1)) > (s0_0.size : Int))) s0_0 s0_1 s0_2 s0_3)) else (jvmcoreref3_cut_take.j0 k a1 false s0_0 s0_1 s0_2 s0_3)
theorem jvmcoreref3_cut_take.mono_l : ∀ k, (∀ y0 y1 y2 y3 y4 y5, LeO (jvmcoreref3_cut_take.j0 k y0 y1 y2 y3 y4 y5) (jvmcoreref3_cut_take.j0 (k + 1) y0 y1 y2 y3 y4 y5))
  | 0 => fun _ _ _ _ _ _ r h => by simp [jvmcoreref3_cut_take.j0] at h
  | k + 1 => by
    have ih0 := jvmcoreref3_cut_take.mono_l k
    · intro y0 y1 y2 y3 y4 y5
      unfold jvmcoreref3_cut_take.j0
      repeat' first
      | (with_reducible exact ih0 _ _ _ _ _ _)
      | (with_reducible exact LeO.refl _)
      | (with_reducible exact LeO.none _)
      | (with_reducible refine LeO.ite ?_ ?_)
      | (with_reducible refine LeO.bind ?_ (fun _ => ?_))
theorem jvmcoreref3_cut_take.mono : ∀ a0 a1 a2 a3 a4 k, LeO (jvmcoreref3_cut_take.f k a0 a1 a2 a3 a4) (jvmcoreref3_cut_take.f (k + 1) a0 a1 a2 a3 a4) := by
  intro a0 a1 a2 a3 a4 k
  have ih0 := jvmcoreref3_cut_take.mono_l k
  unfold jvmcoreref3_cut_take.f
  repeat' first
      | (with_reducible exact ih0 _ _ _ _ _ _)
      | (with_reducible exact LeO.refl _)
      | (with_reducible exact LeO.none _)
      | (with_reducible refine LeO.ite ?_ ?_)
      | (with_reducible refine LeO.bind ?_ (fun _ => ?_))
set_option maxHeartbeats 8000000 in
set_option maxRecDepth 100000 in
theorem jvmcoreref3_cut_take.calls (k : Nat) (g : Nat) (s0_0 : ByteArray) (s0_1 : Int) (s0_2 : Int) (s0_3 : Int) (a1 : Int) (r1 : ByteArray) (r2 : ByteArray) (r3 : Int) (r4 : Int) (r5 : Int) (w0 w : World) (hI : IsS110 w0 w g s0_0 s0_1 s0_2 s0_3) (hB : Below w0.heap.size w0 w) (h : jvmcoreref3_cut_take.f k s0_0 s0_1 s0_2 s0_3 a1 = some (r1, r2, r3, r4, r5)) :
    Calls Try.prog 103 #[.pointer (some ⟨g, 0, none⟩), .int .i64 a1] w fun e w' => e = .returned (.string r1) ∧ IsS110 w0 w' g r2 r3 r4 r5 ∧ Below w0.heap.size w0 w' ∧ KeepBut w w' g none := by
  have HI0 := Aside0.mk hI
  have HK := Aside0.mk (KeepBut.refl w g none)
  have HL := Aside0.mk hB.size
  clear hI
  have HW0 := Aside0.mk hB.size
  have HB := Aside0.mk hB
  clear hB
  have H : (if s0_2 = 0 then (if a1 < 0 then (jvmcoreref3_cut_take.j0 k a1 true s0_0 s0_1 s0_2 s0_3) else (jvmcoreref3_cut_take.j0 k a1 (decide ((wrap64 (s0_1 + a1)) > (s0_0.size : Int))) s0_0 s0_1 s0_2 s0_3)) else (jvmcoreref3_cut_take.j0 k a1 false s0_0 s0_1 s0_2 s0_3)) = some (r1, r2, r3, r4, r5) := h
  clear h
  have HC3 := Aside0.mk H
  clear H
  go_enter Try.func103, Try.ntmps103
  go_upto_region 1 with (fail)
  repeat (go_quiet (fail); go_upto_region 1 with (fail))
  go_cut [28] (fun v28 wc => ∃ (kq : Nat) (x28_2 : Bool), v28 = .bool x28_2 ∧ Aside0 (jvmcoreref3_cut_take.j0 kq a1 x28_2 s0_0 s0_1 s0_2 s0_3 = some (r1, r2, r3, r4, r5)) ∧ Aside0 (kq ≤ k) ∧ Aside0 (IsS110 w0 wc g s0_0 s0_1 s0_2 s0_3) ∧ Aside0 (KeepBut w wc g none) ∧ Aside0 (Below w0.heap.size w0 wc))
  case first =>
    have H := HC3.out
    clear HC3
    by_cases c4 : s0_2 = 0
    · rw [if_pos c4] at H
      have c4b0 : (s0_2 == 0) = true := beq_iff_eq.mpr c4
      have c4b1 : (s0_2 != 0) = false := bne_eq_false_iff_eq.mpr c4
      clear c4
      (first | rw [c4b0] | (simp only [i64_w, i32_w]; rw [c4b0]) | skip)
      by_cases c5 : a1 < 0
      · rw [if_pos c5] at H
        have c5b0 : decide (a1 < 0) = true := decide_eq_true c5
        clear c5
        have H' := Aside0.mk H
        clear H
        obtain ⟨HGz6, hgz6⟩ := HI0.out
        have hcz6_0 := cellS110_0 HGz6
        have hcz6_1 := cellS110_1 HGz6
        have hcz6_2 := cellS110_2 HGz6
        have hcz6_3 := cellS110_3 HGz6
        have hfz6_0 := blk_frozen HGz6 0
        have hfz6_1 := blk_frozen HGz6 1
        have hfz6_2 := blk_frozen HGz6 2
        have hfz6_3 := blk_frozen HGz6 3
        clear HGz6 hgz6
        go_wp2
        repeat (go_quiet (fail); try go_wp2)
        go_meet
        case rel => exact ⟨_, (true), (by first | rfl | (simp; done) | (simp [*]; done)), H', ⟨by first | omega | exact Nat.le_refl _⟩, ⟨by repeat (first | (with_reducible first | exact HI0.out | apply IsS110.alloc | apply IsS110.drewN | apply IsS110.drew | apply IsS110.set_0 | apply IsS110.set_1 | apply IsS110.set_2 | apply IsS110.set_3) | exact HI0.out)⟩, ⟨by repeat (first | (with_reducible first | exact HK.out | apply KeepBut.set_ | apply keep_drewN | apply keep_drew | apply keep_alloc) | exact HK.out)⟩, ⟨by repeat (first | (with_reducible first | exact HB.out | apply below_alloc | apply pw_below_drewN | apply below_drew1 | refine below_set ?_ (IsS110.ge HI0.out)) | exact HB.out)⟩⟩
      · rw [if_neg c5] at H
        have c5b0 : decide (a1 < 0) = false := decide_eq_false c5
        clear c5
        have H' := Aside0.mk H
        clear H
        obtain ⟨HGz7, hgz7⟩ := HI0.out
        have hcz7_0 := cellS110_0 HGz7
        have hcz7_1 := cellS110_1 HGz7
        have hcz7_2 := cellS110_2 HGz7
        have hcz7_3 := cellS110_3 HGz7
        have hfz7_0 := blk_frozen HGz7 0
        have hfz7_1 := blk_frozen HGz7 1
        have hfz7_2 := blk_frozen HGz7 2
        have hfz7_3 := blk_frozen HGz7 3
        clear HGz7 hgz7
        go_wp2
        repeat (go_quiet (fail); try go_wp2)
        go_meet
        case rel => exact ⟨_, (decide ((wrap64 (s0_1 + a1)) > (s0_0.size : Int))), (by first | rfl | (simp; done) | (simp [*]; done)), H', ⟨by first | omega | exact Nat.le_refl _⟩, ⟨by repeat (first | (with_reducible first | exact HI0.out | apply IsS110.alloc | apply IsS110.drewN | apply IsS110.drew | apply IsS110.set_0 | apply IsS110.set_1 | apply IsS110.set_2 | apply IsS110.set_3) | exact HI0.out)⟩, ⟨by repeat (first | (with_reducible first | exact HK.out | apply KeepBut.set_ | apply keep_drewN | apply keep_drew | apply keep_alloc) | exact HK.out)⟩, ⟨by repeat (first | (with_reducible first | exact HB.out | apply below_alloc | apply pw_below_drewN | apply below_drew1 | refine below_set ?_ (IsS110.ge HI0.out)) | exact HB.out)⟩⟩
    · rw [if_neg c4] at H
      have c4b0 : (s0_2 == 0) = false := beq_eq_false_iff_ne.mpr c4
      have c4b1 : (s0_2 != 0) = true := bne_iff_ne.mpr c4
      (first | rw [c4b0] | (simp only [i64_w, i32_w]; rw [c4b0]) | skip)
      have H' := Aside0.mk H
      clear H
      obtain ⟨HGz8, hgz8⟩ := HI0.out
      have hcz8_0 := cellS110_0 HGz8
      have hcz8_1 := cellS110_1 HGz8
      have hcz8_2 := cellS110_2 HGz8
      have hcz8_3 := cellS110_3 HGz8
      have hfz8_0 := blk_frozen HGz8 0
      have hfz8_1 := blk_frozen HGz8 1
      have hfz8_2 := blk_frozen HGz8 2
      have hfz8_3 := blk_frozen HGz8 3
      clear HGz8 hgz8
      go_wp2
      repeat (go_quiet (fail); try go_wp2)
      go_meet
      case rel => exact ⟨_, (false), (by first | rfl | (simp; done) | (simp [*]; done)), H', ⟨by first | omega | exact Nat.le_refl _⟩, ⟨by repeat (first | (with_reducible first | exact HI0.out | apply IsS110.alloc | apply IsS110.drewN | apply IsS110.drew | apply IsS110.set_0 | apply IsS110.set_1 | apply IsS110.set_2 | apply IsS110.set_3) | exact HI0.out)⟩, ⟨by repeat (first | (with_reducible first | exact HK.out | apply KeepBut.set_ | apply keep_drewN | apply keep_drew | apply keep_alloc) | exact HK.out)⟩, ⟨by repeat (first | (with_reducible first | exact HB.out | apply below_alloc | apply pw_below_drewN | apply below_drew1 | refine below_set ?_ (IsS110.ge HI0.out)) | exact HB.out)⟩⟩
  case rest =>
    clear HC3
    try clear c1
    try clear p2
    try clear c4
    try clear c4b0
    try clear c4b1
    try clear c5
    try clear c5b0
    try clear p6
    try clear hcz6_0
    try clear hcz6_1
    try clear hcz6_2
    try clear hcz6_3
    try clear hcz7_0
    try clear hcz7_1
    try clear hcz7_2
    try clear hcz7_3
    try clear hcz8_0
    try clear hcz8_1
    try clear hcz8_2
    try clear hcz8_3
    try clear hfz6_0
    try clear hfz6_1
    try clear hfz6_2
    try clear hfz6_3
    try clear hfz7_0
    try clear hfz7_1
    try clear hfz7_2
    try clear hfz7_3
    try clear hfz8_0
    try clear hfz8_1
    try clear hfz8_2
    try clear hfz8_3
    obtain ⟨kq, x28_2, rfl, HA, HJ2, HI0, HK, HB⟩ := hcut
    cases kq with
    | zero => exact absurd HA.out (by simp [jvmcoreref3_cut_take.j0])
    | succ kj2 =>
      have H := HA.out
      clear HA
      simp only [jvmcoreref3_cut_take.j0] at H
      by_cases c9 : x28_2 = true
      · subst c9
        have H1 : ((jvmcoreref3_cut_fail.f s0_0 s0_1 s0_2 s0_3 1 (s0_0.size : Int)).bind fun bt128 => (if bt128.2.2.1 = 0 then (if 0 ≤ bt128.2.1 then (if bt128.2.1 ≤ (wrap64 (bt128.2.1 + a1)) then (if (wrap64 (bt128.2.1 + a1)) ≤ (bt128.1.size : Int) then (some (bt128.1.extract (bt128.2.1 : Int).toNat ((wrap64 (bt128.2.1 + a1)) : Int).toNat, bt128.1, wrap64 (bt128.2.1 + a1), bt128.2.2.1, bt128.2.2.2)) else (none)) else (none)) else (none)) else (some ((⟨#[]⟩ : ByteArray), bt128.1, bt128.2.1, bt128.2.2.1, bt128.2.2.2)))) = some (r1, r2, r3, r4, r5) := by rw [if_pos rfl] at H; exact H
        clear H
        have H := H1
        clear H1
        replace H := Option.bind_eq_some_iff.mp H
        obtain ⟨⟨t128, t129, t130, t131⟩, A100, H⟩ := H
        replace H : (if t130 = 0 then (if 0 ≤ t129 then (if t129 ≤ (wrap64 (t129 + a1)) then (if (wrap64 (t129 + a1)) ≤ (t128.size : Int) then (some (t128.extract (t129 : Int).toNat ((wrap64 (t129 + a1)) : Int).toNat, t128, wrap64 (t129 + a1), t130, t131)) else (none)) else (none)) else (none)) else (some ((⟨#[]⟩ : ByteArray), t128, t129, t130, t131))) = some (r1, r2, r3, r4, r5) := H
        have A10 := Aside0.mk A100
        clear A100
        by_cases c11 : t130 = 0
        · rw [if_pos c11] at H
          have c11b0 : (t130 == 0) = true := beq_iff_eq.mpr c11
          have c11b1 : (t130 != 0) = false := bne_eq_false_iff_eq.mpr c11
          clear c11
          by_cases c12 : 0 ≤ t129
          · rw [if_pos c12] at H
            have c12b0 := eq_true c12
            have c12b1 : decide (0 ≤ t129) = true := decide_eq_true c12
            clear c12
            by_cases c13 : t129 ≤ (wrap64 (t129 + a1))
            · rw [if_pos c13] at H
              have c13b0 := eq_true c13
              have c13b1 : decide (t129 ≤ (wrap64 (t129 + a1))) = true := decide_eq_true c13
              by_cases c14 : (wrap64 (t129 + a1)) ≤ (t128.size : Int)
              · rw [if_pos c14] at H
                have c14b0 := eq_true c14
                have c14b1 : decide ((wrap64 (t129 + a1)) ≤ (t128.size : Int)) = true := decide_eq_true c14
                simp only [Option.some.injEq, Prod.mk.injEq] at H
                obtain ⟨rfl, rfl, rfl, rfl, rfl⟩ := H
                obtain ⟨HGz15, hgz15⟩ := HI0.out
                have hcz15_0 := cellS110_0 HGz15
                have hcz15_1 := cellS110_1 HGz15
                have hcz15_2 := cellS110_2 HGz15
                have hcz15_3 := cellS110_3 HGz15
                have hfz15_0 := blk_frozen HGz15 0
                have hfz15_1 := blk_frozen HGz15 1
                have hfz15_2 := blk_frozen HGz15 2
                have hfz15_3 := blk_frozen HGz15 3
                clear HGz15 hgz15
                go_wp2_with (first | (go_at_call 77; (with_reducible refine (jvmcoreref3_cut_fail.calls g s0_0 s0_1 s0_2 s0_3 1 (s0_0.size : Int) t128 t129 t130 t131 w0 _ ?side1 ?side2 A10.out).mono ?_); (case side1 => repeat (first | (with_reducible first | exact HI0.out | apply IsS110.alloc | apply IsS110.drewN | apply IsS110.drew | apply IsS110.set_0 | apply IsS110.set_1 | apply IsS110.set_2 | apply IsS110.set_3) | exact HI0.out)); (case side2 => repeat (first | (with_reducible first | exact HB.out | apply below_alloc | apply pw_below_drewN | apply below_drew1 | refine below_set ?_ (IsS110.ge HI0.out)) | exact HB.out)); rintro e w16 ⟨rfl, hi, hb, hk⟩; have n0_ := Aside0.mk (KeepBut.trans (by repeat (first | (with_reducible first | exact HK.out | apply KeepBut.set_ | apply keep_drewN | apply keep_drew | apply keep_alloc) | exact HK.out)) hk (.inl rfl)); have n1_ := Aside0.mk (hb); have n2_ := Aside0.mk (hi); clear HK; clear HB; clear HI0; have HK := n0_; have HB := n1_; have HI0 := n2_; clear n0_ n1_ n2_; (try clear hb); (try clear hb2); (try clear hk); (try clear hi); obtain ⟨HGz17, hgz17⟩ := HI0.out; have hcz17_0 := cellS110_0 HGz17; have hcz17_1 := cellS110_1 HGz17; have hcz17_2 := cellS110_2 HGz17; have hcz17_3 := cellS110_3 HGz17; have hfz17_0 := blk_frozen HGz17 0; have hfz17_1 := blk_frozen HGz17 1; have hfz17_2 := blk_frozen HGz17 2; have hfz17_3 := blk_frozen HGz17 3; clear HGz17 hgz17))
                repeat (go_quiet (first | (go_at_call 77; (with_reducible refine (jvmcoreref3_cut_fail.calls g s0_0 s0_1 s0_2 s0_3 1 (s0_0.size : Int) t128 t129 t130 t131 w0 _ ?side1 ?side2 A10.out).mono ?_); (case side1 => repeat (first | (with_reducible first | exact HI0.out | apply IsS110.alloc | apply IsS110.drewN | apply IsS110.drew | apply IsS110.set_0 | apply IsS110.set_1 | apply IsS110.set_2 | apply IsS110.set_3) | exact HI0.out)); (case side2 => repeat (first | (with_reducible first | exact HB.out | apply below_alloc | apply pw_below_drewN | apply below_drew1 | refine below_set ?_ (IsS110.ge HI0.out)) | exact HB.out)); rintro e w16 ⟨rfl, hi, hb, hk⟩; have n0_ := Aside0.mk (KeepBut.trans (by repeat (first | (with_reducible first | exact HK.out | apply KeepBut.set_ | apply keep_drewN | apply keep_drew | apply keep_alloc) | exact HK.out)) hk (.inl rfl)); have n1_ := Aside0.mk (hb); have n2_ := Aside0.mk (hi); clear HK; clear HB; clear HI0; have HK := n0_; have HB := n1_; have HI0 := n2_; clear n0_ n1_ n2_; (try clear hb); (try clear hb2); (try clear hk); (try clear hi); obtain ⟨HGz17, hgz17⟩ := HI0.out; have hcz17_0 := cellS110_0 HGz17; have hcz17_1 := cellS110_1 HGz17; have hcz17_2 := cellS110_2 HGz17; have hcz17_3 := cellS110_3 HGz17; have hfz17_0 := blk_frozen HGz17 0; have hfz17_1 := blk_frozen HGz17 1; have hfz17_2 := blk_frozen HGz17 2; have hfz17_3 := blk_frozen HGz17 3; clear HGz17 hgz17)); try go_wp2_with (first | (go_at_call 77; (with_reducible refine (jvmcoreref3_cut_fail.calls g s0_0 s0_1 s0_2 s0_3 1 (s0_0.size : Int) t128 t129 t130 t131 w0 _ ?side1 ?side2 A10.out).mono ?_); (case side1 => repeat (first | (with_reducible first | exact HI0.out | apply IsS110.alloc | apply IsS110.drewN | apply IsS110.drew | apply IsS110.set_0 | apply IsS110.set_1 | apply IsS110.set_2 | apply IsS110.set_3) | exact HI0.out)); (case side2 => repeat (first | (with_reducible first | exact HB.out | apply below_alloc | apply pw_below_drewN | apply below_drew1 | refine below_set ?_ (IsS110.ge HI0.out)) | exact HB.out)); rintro e w16 ⟨rfl, hi, hb, hk⟩; have n0_ := Aside0.mk (KeepBut.trans (by repeat (first | (with_reducible first | exact HK.out | apply KeepBut.set_ | apply keep_drewN | apply keep_drew | apply keep_alloc) | exact HK.out)) hk (.inl rfl)); have n1_ := Aside0.mk (hb); have n2_ := Aside0.mk (hi); clear HK; clear HB; clear HI0; have HK := n0_; have HB := n1_; have HI0 := n2_; clear n0_ n1_ n2_; (try clear hb); (try clear hb2); (try clear hk); (try clear hi); obtain ⟨HGz17, hgz17⟩ := HI0.out; have hcz17_0 := cellS110_0 HGz17; have hcz17_1 := cellS110_1 HGz17; have hcz17_2 := cellS110_2 HGz17; have hcz17_3 := cellS110_3 HGz17; have hfz17_0 := blk_frozen HGz17 0; have hfz17_1 := blk_frozen HGz17 1; have hfz17_2 := blk_frozen HGz17 2; have hfz17_3 := blk_frozen HGz17 3; clear HGz17 hgz17)))
                go_ret
                exact ⟨by first | rfl | (simp [errW_none, errW_some] <;> rfl) | (simp [*, errW_none, errW_some] <;> rfl), by repeat (first | (with_reducible first | exact HI0.out | apply IsS110.alloc | apply IsS110.drewN | apply IsS110.drew | apply IsS110.set_0 | apply IsS110.set_1 | apply IsS110.set_2 | apply IsS110.set_3) | exact HI0.out), by repeat (first | (with_reducible first | exact HB.out | apply below_alloc | apply pw_below_drewN | apply below_drew1 | refine below_set ?_ (IsS110.ge HI0.out)) | exact HB.out), by repeat (first | (with_reducible first | exact HK.out | apply KeepBut.set_ | apply keep_drewN | apply keep_drew | apply keep_alloc) | exact HK.out)⟩
              · rw [if_neg c14] at H
                exact absurd H (by simp)
            · rw [if_neg c13] at H
              exact absurd H (by simp)
          · rw [if_neg c12] at H
            exact absurd H (by simp)
        · rw [if_neg c11] at H
          have c11b0 : (t130 == 0) = false := beq_eq_false_iff_ne.mpr c11
          have c11b1 : (t130 != 0) = true := bne_iff_ne.mpr c11
          simp only [Option.some.injEq, Prod.mk.injEq] at H
          obtain ⟨rfl, rfl, rfl, rfl, rfl⟩ := H
          obtain ⟨HGz18, hgz18⟩ := HI0.out
          have hcz18_0 := cellS110_0 HGz18
          have hcz18_1 := cellS110_1 HGz18
          have hcz18_2 := cellS110_2 HGz18
          have hcz18_3 := cellS110_3 HGz18
          have hfz18_0 := blk_frozen HGz18 0
          have hfz18_1 := blk_frozen HGz18 1
          have hfz18_2 := blk_frozen HGz18 2
          have hfz18_3 := blk_frozen HGz18 3
          clear HGz18 hgz18
          go_wp2_with (first | (go_at_call 77; (with_reducible refine (jvmcoreref3_cut_fail.calls g s0_0 s0_1 s0_2 s0_3 1 (s0_0.size : Int) t128 t129 t130 t131 w0 _ ?side1 ?side2 A10.out).mono ?_); (case side1 => repeat (first | (with_reducible first | exact HI0.out | apply IsS110.alloc | apply IsS110.drewN | apply IsS110.drew | apply IsS110.set_0 | apply IsS110.set_1 | apply IsS110.set_2 | apply IsS110.set_3) | exact HI0.out)); (case side2 => repeat (first | (with_reducible first | exact HB.out | apply below_alloc | apply pw_below_drewN | apply below_drew1 | refine below_set ?_ (IsS110.ge HI0.out)) | exact HB.out)); rintro e w19 ⟨rfl, hi, hb, hk⟩; have n0_ := Aside0.mk (KeepBut.trans (by repeat (first | (with_reducible first | exact HK.out | apply KeepBut.set_ | apply keep_drewN | apply keep_drew | apply keep_alloc) | exact HK.out)) hk (.inl rfl)); have n1_ := Aside0.mk (hb); have n2_ := Aside0.mk (hi); clear HK; clear HB; clear HI0; have HK := n0_; have HB := n1_; have HI0 := n2_; clear n0_ n1_ n2_; (try clear hb); (try clear hb2); (try clear hk); (try clear hi); obtain ⟨HGz20, hgz20⟩ := HI0.out; have hcz20_0 := cellS110_0 HGz20; have hcz20_1 := cellS110_1 HGz20; have hcz20_2 := cellS110_2 HGz20; have hcz20_3 := cellS110_3 HGz20; have hfz20_0 := blk_frozen HGz20 0; have hfz20_1 := blk_frozen HGz20 1; have hfz20_2 := blk_frozen HGz20 2; have hfz20_3 := blk_frozen HGz20 3; clear HGz20 hgz20))
          repeat (go_quiet (first | (go_at_call 77; (with_reducible refine (jvmcoreref3_cut_fail.calls g s0_0 s0_1 s0_2 s0_3 1 (s0_0.size : Int) t128 t129 t130 t131 w0 _ ?side1 ?side2 A10.out).mono ?_); (case side1 => repeat (first | (with_reducible first | exact HI0.out | apply IsS110.alloc | apply IsS110.drewN | apply IsS110.drew | apply IsS110.set_0 | apply IsS110.set_1 | apply IsS110.set_2 | apply IsS110.set_3) | exact HI0.out)); (case side2 => repeat (first | (with_reducible first | exact HB.out | apply below_alloc | apply pw_below_drewN | apply below_drew1 | refine below_set ?_ (IsS110.ge HI0.out)) | exact HB.out)); rintro e w19 ⟨rfl, hi, hb, hk⟩; have n0_ := Aside0.mk (KeepBut.trans (by repeat (first | (with_reducible first | exact HK.out | apply KeepBut.set_ | apply keep_drewN | apply keep_drew | apply keep_alloc) | exact HK.out)) hk (.inl rfl)); have n1_ := Aside0.mk (hb); have n2_ := Aside0.mk (hi); clear HK; clear HB; clear HI0; have HK := n0_; have HB := n1_; have HI0 := n2_; clear n0_ n1_ n2_; (try clear hb); (try clear hb2); (try clear hk); (try clear hi); obtain ⟨HGz20, hgz20⟩ := HI0.out; have hcz20_0 := cellS110_0 HGz20; have hcz20_1 := cellS110_1 HGz20; have hcz20_2 := cellS110_2 HGz20; have hcz20_3 := cellS110_3 HGz20; have hfz20_0 := blk_frozen HGz20 0; have hfz20_1 := blk_frozen HGz20 1; have hfz20_2 := blk_frozen HGz20 2; have hfz20_3 := blk_frozen HGz20 3; clear HGz20 hgz20)); try go_wp2_with (first | (go_at_call 77; (with_reducible refine (jvmcoreref3_cut_fail.calls g s0_0 s0_1 s0_2 s0_3 1 (s0_0.size : Int) t128 t129 t130 t131 w0 _ ?side1 ?side2 A10.out).mono ?_); (case side1 => repeat (first | (with_reducible first | exact HI0.out | apply IsS110.alloc | apply IsS110.drewN | apply IsS110.drew | apply IsS110.set_0 | apply IsS110.set_1 | apply IsS110.set_2 | apply IsS110.set_3) | exact HI0.out)); (case side2 => repeat (first | (with_reducible first | exact HB.out | apply below_alloc | apply pw_below_drewN | apply below_drew1 | refine below_set ?_ (IsS110.ge HI0.out)) | exact HB.out)); rintro e w19 ⟨rfl, hi, hb, hk⟩; have n0_ := Aside0.mk (KeepBut.trans (by repeat (first | (with_reducible first | exact HK.out | apply KeepBut.set_ | apply keep_drewN | apply keep_drew | apply keep_alloc) | exact HK.out)) hk (.inl rfl)); have n1_ := Aside0.mk (hb); have n2_ := Aside0.mk (hi); clear HK; clear HB; clear HI0; have HK := n0_; have HB := n1_; have HI0 := n2_; clear n0_ n1_ n2_; (try clear hb); (try clear hb2); (try clear hk); (try clear hi); obtain ⟨HGz20, hgz20⟩ := HI0.out; have hcz20_0 := cellS110_0 HGz20; have hcz20_1 := cellS110_1 HGz20; have hcz20_2 := cellS110_2 HGz20; have hcz20_3 := cellS110_3 HGz20; have hfz20_0 := blk_frozen HGz20 0; have hfz20_1 := blk_frozen HGz20 1; have hfz20_2 := blk_frozen HGz20 2; have hfz20_3 := blk_frozen HGz20 3; clear HGz20 hgz20)))
          go_ret
          exact ⟨by first | rfl | (simp [errW_none, errW_some] <;> rfl) | (simp [*, errW_none, errW_some] <;> rfl), by repeat (first | (with_reducible first | exact HI0.out | apply IsS110.alloc | apply IsS110.drewN | apply IsS110.drew | apply IsS110.set_0 | apply IsS110.set_1 | apply IsS110.set_2 | apply IsS110.set_3) | exact HI0.out), by repeat (first | (with_reducible first | exact HB.out | apply below_alloc | apply pw_below_drewN | apply below_drew1 | refine below_set ?_ (IsS110.ge HI0.out)) | exact HB.out), by repeat (first | (with_reducible first | exact HK.out | apply KeepBut.set_ | apply keep_drewN | apply keep_drew | apply keep_alloc) | exact HK.out)⟩
      · replace c9 := Bool.eq_false_iff.mpr c9
        subst c9
        have H1 : (if s0_2 = 0 then (if 0 ≤ s0_1 then (if s0_1 ≤ (wrap64 (s0_1 + a1)) then (if (wrap64 (s0_1 + a1)) ≤ (s0_0.size : Int) then (some (s0_0.extract (s0_1 : Int).toNat ((wrap64 (s0_1 + a1)) : Int).toNat, s0_0, wrap64 (s0_1 + a1), s0_2, s0_3)) else (none)) else (none)) else (none)) else (some ((⟨#[]⟩ : ByteArray), s0_0, s0_1, s0_2, s0_3))) = some (r1, r2, r3, r4, r5) := by rw [if_neg (show ¬ (false = true) by decide)] at H; exact H
        clear H
        have H := H1
        clear H1
        by_cases c21 : s0_2 = 0
        · rw [if_pos c21] at H
          have c21b0 : (s0_2 == 0) = true := beq_iff_eq.mpr c21
          have c21b1 : (s0_2 != 0) = false := bne_eq_false_iff_eq.mpr c21
          clear c21
          by_cases c22 : 0 ≤ s0_1
          · rw [if_pos c22] at H
            have c22b0 := eq_true c22
            have c22b1 : decide (0 ≤ s0_1) = true := decide_eq_true c22
            clear c22
            by_cases c23 : s0_1 ≤ (wrap64 (s0_1 + a1))
            · rw [if_pos c23] at H
              have c23b0 := eq_true c23
              have c23b1 : decide (s0_1 ≤ (wrap64 (s0_1 + a1))) = true := decide_eq_true c23
              by_cases c24 : (wrap64 (s0_1 + a1)) ≤ (s0_0.size : Int)
              · rw [if_pos c24] at H
                have c24b0 := eq_true c24
                have c24b1 : decide ((wrap64 (s0_1 + a1)) ≤ (s0_0.size : Int)) = true := decide_eq_true c24
                simp only [Option.some.injEq, Prod.mk.injEq] at H
                obtain ⟨rfl, rfl, rfl, rfl, rfl⟩ := H
                obtain ⟨HGz25, hgz25⟩ := HI0.out
                have hcz25_0 := cellS110_0 HGz25
                have hcz25_1 := cellS110_1 HGz25
                have hcz25_2 := cellS110_2 HGz25
                have hcz25_3 := cellS110_3 HGz25
                have hfz25_0 := blk_frozen HGz25 0
                have hfz25_1 := blk_frozen HGz25 1
                have hfz25_2 := blk_frozen HGz25 2
                have hfz25_3 := blk_frozen HGz25 3
                clear HGz25 hgz25
                go_wp2
                repeat (go_quiet (fail); try go_wp2)
                go_ret
                exact ⟨by first | rfl | (simp [errW_none, errW_some] <;> rfl) | (simp [*, errW_none, errW_some] <;> rfl), by repeat (first | (with_reducible first | exact HI0.out | apply IsS110.alloc | apply IsS110.drewN | apply IsS110.drew | apply IsS110.set_0 | apply IsS110.set_1 | apply IsS110.set_2 | apply IsS110.set_3) | exact HI0.out), by repeat (first | (with_reducible first | exact HB.out | apply below_alloc | apply pw_below_drewN | apply below_drew1 | refine below_set ?_ (IsS110.ge HI0.out)) | exact HB.out), by repeat (first | (with_reducible first | exact HK.out | apply KeepBut.set_ | apply keep_drewN | apply keep_drew | apply keep_alloc) | exact HK.out)⟩
              · rw [if_neg c24] at H
                exact absurd H (by simp)
            · rw [if_neg c23] at H
              exact absurd H (by simp)
          · rw [if_neg c22] at H
            exact absurd H (by simp)
        · rw [if_neg c21] at H
          have c21b0 : (s0_2 == 0) = false := beq_eq_false_iff_ne.mpr c21
          have c21b1 : (s0_2 != 0) = true := bne_iff_ne.mpr c21
          simp only [Option.some.injEq, Prod.mk.injEq] at H
          obtain ⟨rfl, rfl, rfl, rfl, rfl⟩ := H
          obtain ⟨HGz26, hgz26⟩ := HI0.out
          have hcz26_0 := cellS110_0 HGz26
          have hcz26_1 := cellS110_1 HGz26
          have hcz26_2 := cellS110_2 HGz26
          have hcz26_3 := cellS110_3 HGz26
          have hfz26_0 := blk_frozen HGz26 0
          have hfz26_1 := blk_frozen HGz26 1
          have hfz26_2 := blk_frozen HGz26 2
          have hfz26_3 := blk_frozen HGz26 3
          clear HGz26 hgz26
          go_wp2
          repeat (go_quiet (fail); try go_wp2)
          go_ret
          exact ⟨by first | rfl | (simp [errW_none, errW_some] <;> rfl) | (simp [*, errW_none, errW_some] <;> rfl), by repeat (first | (with_reducible first | exact HI0.out | apply IsS110.alloc | apply IsS110.drewN | apply IsS110.drew | apply IsS110.set_0 | apply IsS110.set_1 | apply IsS110.set_2 | apply IsS110.set_3) | exact HI0.out), by repeat (first | (with_reducible first | exact HB.out | apply below_alloc | apply pw_below_drewN | apply below_drew1 | refine below_set ?_ (IsS110.ge HI0.out)) | exact HB.out), by repeat (first | (with_reducible first | exact HK.out | apply KeepBut.set_ | apply keep_drewN | apply keep_drew | apply keep_alloc) | exact HK.out)⟩
end Go.Proofs.Ytfnjbmpolggdeaa.MD
end
section
namespace Go.Proofs.Ytfnjbmpolggdeaa.MD
open Go.RowKit Go.Proofs.YtfnjbmpolggdeaaW.PrintWords Go.Proofs.YtfnjbmpolggdeaaW.PrintLast Go.Proofs.YtfnjbmpolggdeaaW.PrintMore
attribute [local go_sem] max2_int min2_int max_two min_two max_three min_three max_four min_four   -- for this text's walks alone
set_option linter.unusedVariables false
set_option linter.unusedSimpArgs false
def jvmcoreref3_cut_num.f (k : Nat) (s0_0 : ByteArray) (s0_1 : Int) (s0_2 : Int) (s0_3 : Int) (a1 : Int) : Option (Int × ByteArray × Int × Int × Int) := (jvmcoreref3_cut_take.f k s0_0 s0_1 s0_2 s0_3 a1).bind fun bt132 => ((jvmcoreref1_Num.f k bt132.1).bind fun t137 => (some (wrap64 (t137), bt132.2.1, bt132.2.2.1, bt132.2.2.2.1, bt132.2.2.2.2)))
theorem jvmcoreref3_cut_num.mono : ∀ a0 a1 a2 a3 a4 k, LeO (jvmcoreref3_cut_num.f k a0 a1 a2 a3 a4) (jvmcoreref3_cut_num.f (k + 1) a0 a1 a2 a3 a4) := by
  intro a0 a1 a2 a3 a4 k
  unfold jvmcoreref3_cut_num.f
  repeat' first
      | (with_reducible exact jvmcoreref1_Num.mono _ _)
      | (with_reducible exact jvmcoreref3_cut_take.mono _ _ _ _ _ _)
      | (with_reducible exact LeO.refl _)
      | (with_reducible exact LeO.none _)
      | (with_reducible refine LeO.ite ?_ ?_)
      | (with_reducible refine LeO.bind ?_ (fun _ => ?_))
set_option maxHeartbeats 8000000 in
set_option maxRecDepth 100000 in
theorem jvmcoreref3_cut_num.calls (k : Nat) (g : Nat) (s0_0 : ByteArray) (s0_1 : Int) (s0_2 : Int) (s0_3 : Int) (a1 : Int) (r1 : Int) (r2 : ByteArray) (r3 : Int) (r4 : Int) (r5 : Int) (w0 w : World) (hI : IsS110 w0 w g s0_0 s0_1 s0_2 s0_3) (hB : Below w0.heap.size w0 w) (h : jvmcoreref3_cut_num.f k s0_0 s0_1 s0_2 s0_3 a1 = some (r1, r2, r3, r4, r5)) :
    Calls Try.prog 74 #[.pointer (some ⟨g, 0, none⟩), .int .i64 a1] w fun e w' => e = .returned (.int .i64 r1) ∧ IsS110 w0 w' g r2 r3 r4 r5 ∧ Below w0.heap.size w0 w' ∧ KeepBut w w' g none := by
  have HI0 := Aside0.mk hI
  have HK := Aside0.mk (KeepBut.refl w g none)
  have HL := Aside0.mk hB.size
  clear hI
  have HW0 := Aside0.mk hB.size
  have HB := Aside0.mk hB
  clear hB
  have H : ((jvmcoreref3_cut_take.f k s0_0 s0_1 s0_2 s0_3 a1).bind fun bt132 => ((jvmcoreref1_Num.f k bt132.1).bind fun t137 => (some (wrap64 (t137), bt132.2.1, bt132.2.2.1, bt132.2.2.2.1, bt132.2.2.2.2)))) = some (r1, r2, r3, r4, r5) := h
  clear h
  replace H := Option.bind_eq_some_iff.mp H
  obtain ⟨⟨t132, t133, t134, t135, t136⟩, A30, H⟩ := H
  replace H : ((jvmcoreref1_Num.f k t132).bind fun t137 => (some (wrap64 (t137), t133, t134, t135, t136))) = some (r1, r2, r3, r4, r5) := H
  have A3 := Aside0.mk A30
  clear A30
  replace H := Option.bind_eq_some_iff.mp H
  obtain ⟨t137, A40, H⟩ := H
  replace H : (some (wrap64 (t137), t133, t134, t135, t136)) = some (r1, r2, r3, r4, r5) := H
  have A4 := Aside0.mk A40
  clear A40
  simp only [Option.some.injEq, Prod.mk.injEq] at H
  obtain ⟨rfl, rfl, rfl, rfl, rfl⟩ := H
  go_enter Try.func74, Try.ntmps74
  go_wp2_with (first | ((with_reducible refine gate_callee (f := 103) rfl ?_); refine goesL_ (some 7) rfl rfl Try.func103 (by kernel_rfl) rfl #[.pointer (some ⟨g, 0, none⟩), .int .i64 a1] rfl (by (try simp only [List.map_toArray, List.map_cons, List.map_nil]); first | done | rfl | (simp only [List.length_drop, List.length_take]; rfl)) ?_; (with_reducible refine (jvmcoreref3_cut_take.calls k g s0_0 s0_1 s0_2 s0_3 a1 t132 t133 t134 t135 t136 w0 _ ?side1 ?side2 A3.out).mono ?_); (case side1 => repeat (first | (with_reducible first | exact HI0.out | apply IsS110.alloc | apply IsS110.drewN | apply IsS110.drew | apply IsS110.set_0 | apply IsS110.set_1 | apply IsS110.set_2 | apply IsS110.set_3) | exact HI0.out)); (case side2 => repeat (first | (with_reducible first | exact HB.out | apply below_alloc | apply pw_below_drewN | apply below_drew1 | refine below_set ?_ (IsS110.ge HI0.out)) | exact HB.out)); rintro e w5 ⟨rfl, hi, hb, hk⟩; refine ⟨_, rfl, ?_⟩; have n0_ := Aside0.mk (KeepBut.trans (by repeat (first | (with_reducible first | exact HK.out | apply KeepBut.set_ | apply keep_drewN | apply keep_drew | apply keep_alloc) | exact HK.out)) hk (.inl rfl)); have n1_ := Aside0.mk (hb); have n2_ := Aside0.mk (hi); clear HK; clear HB; clear HI0; have HK := n0_; have HB := n1_; have HI0 := n2_; clear n0_ n1_ n2_; (try clear hb); (try clear hb2); (try clear hk); (try clear hi)) | ((with_reducible refine gate_callee (f := 67) rfl ?_); refine goesL_ (some 8) rfl rfl Try.func67 (by kernel_rfl) rfl #[.string t132] rfl (by (try simp only [List.map_toArray, List.map_cons, List.map_nil]); first | done | rfl | (simp only [List.length_drop, List.length_take]; rfl)) ?_; (with_reducible refine (jvmcoreref1_Num.calls k t132 t137 _ A4.out).mono ?_); rintro e w' ⟨rfl, ⟨nd, rfl⟩⟩; refine ⟨_, rfl, ?_⟩))
  go_ret
  exact ⟨by first | rfl | (simp [errW_none, errW_some] <;> rfl) | (simp [*, errW_none, errW_some] <;> rfl), by repeat (first | (with_reducible first | exact HI0.out | apply IsS110.alloc | apply IsS110.drewN | apply IsS110.drew | apply IsS110.set_0 | apply IsS110.set_1 | apply IsS110.set_2 | apply IsS110.set_3) | exact HI0.out), by repeat (first | (with_reducible first | exact HB.out | apply below_alloc | apply pw_below_drewN | apply below_drew1 | refine below_set ?_ (IsS110.ge HI0.out)) | exact HB.out), by repeat (first | (with_reducible first | exact HK.out | apply KeepBut.set_ | apply keep_drewN | apply keep_drew | apply keep_alloc) | exact HK.out)⟩
end Go.Proofs.Ytfnjbmpolggdeaa.MD
end
section
namespace Go.Proofs.Ytfnjbmpolggdeaa.MD
open Go.RowKit Go.Proofs.YtfnjbmpolggdeaaW.PrintWords Go.Proofs.YtfnjbmpolggdeaaW.PrintLast Go.Proofs.YtfnjbmpolggdeaaW.PrintMore
attribute [local go_sem] max2_int min2_int max_two min_two max_three min_three max_four min_four   -- for this text's walks alone
set_option linter.unusedVariables false
set_option linter.unusedSimpArgs false
def IsS167 (w0 W : World) (g : Nat) (f0 : ByteArray) (f1 : Int) (f2 : Int) (f3 : Int) : Prop := W.heap[g]? = some (.cells #[.string f0, .int .i64 f1, .int .i64 f2, .int .i64 f3] 167 (0, 0)) ∧ w0.heap.size ≤ g
theorem IsS167.grown {w0 W : World} {g : Nat} {f0 : ByteArray} {f1 : Int} {f2 : Int} {f3 : Int} {W1 : World} {row : Option Nat} (h : IsS167 w0 W g f0 f1 f2 f3) (hw : W.grownBy W1 row) (hne : some g ≠ row) : IsS167 w0 W1 g f0 f1 f2 f3 := by
  obtain ⟨hb, hg⟩ := h
  exact ⟨blk_grown hb hw hne, hg⟩
theorem IsS167.kept {w0 W : World} {g : Nat} {f0 : ByteArray} {f1 : Int} {f2 : Int} {f3 : Int} {W1 : World} {S : Nat → Prop} (h : IsS167 w0 W g f0 f1 f2 f3) (hk : Kept W W1 S) (hne : ¬ S g) : IsS167 w0 W1 g f0 f1 f2 f3 := by
  obtain ⟨hb, hg⟩ := h
  exact ⟨blk_kept hb hk hne, hg⟩
theorem IsS167.below {w0 W : World} {g : Nat} {f0 : ByteArray} {f1 : Int} {f2 : Int} {f3 : Int} {W1 : World} (h : IsS167 w0 W g f0 f1 f2 f3) (hw : Below W.heap.size W W1) : IsS167 w0 W1 g f0 f1 f2 f3 := h.grown (grown_of_below hw none) (by simp)
theorem IsS167.drewN {w0 W : World} {g : Nat} {f0 : ByteArray} {f1 : Int} {f2 : Int} {f3 : Int} (h : IsS167 w0 W g f0 f1 f2 f3) (m : Nat) : IsS167 w0 (W.drewN m) g f0 f1 f2 f3 := h
theorem IsS167.drew {w0 W : World} {g : Nat} {f0 : ByteArray} {f1 : Int} {f2 : Int} {f3 : Int} (h : IsS167 w0 W g f0 f1 f2 f3) : IsS167 w0 W.drew g f0 f1 f2 f3 := h
theorem IsS167.at_ {w0 W : World} {g : Nat} {f0 : ByteArray} {f1 : Int} {f2 : Int} {f3 : Int} {w' : World} {m : Nat} (hq : W.drewN m = w') (h : IsS167 w0 W g f0 f1 f2 f3) : IsS167 w0 w' g f0 f1 f2 f3 := by subst hq; exact IsS167.drewN h m
theorem IsS167.lt {w0 W : World} {g : Nat} {f0 : ByteArray} {f1 : Int} {f2 : Int} {f3 : Int} (h : IsS167 w0 W g f0 f1 f2 f3) : g < W.heap.size := by
  obtain ⟨hb, hg⟩ := h
  exact blk_lt hb
theorem IsS167.ge {w0 W : World} {g : Nat} {f0 : ByteArray} {f1 : Int} {f2 : Int} {f3 : Int} (h : IsS167 w0 W g f0 f1 f2 f3) : w0.heap.size ≤ g := by
  obtain ⟨hb, hg⟩ := h
  exact hg
theorem IsS167.ne_blk {w0 W : World} {g : Nat} {f0 : ByteArray} {f1 : Int} {f2 : Int} {f3 : Int} {a : Nat} {cs : Array Value} {t : TypeId} {fr : Nat × Nat} (h : IsS167 w0 W g f0 f1 f2 f3) (hb2 : W.heap[a]? = some (.cells cs t fr)) (ht : t ≠ 167) : g ≠ a := by
  obtain ⟨hb, hg⟩ := h
  rintro rfl
  rw [hb] at hb2
  injection hb2 with hb2
  injection hb2 with _ ht2
  exact ht ht2.symm
theorem IsS167.far {w0 W : World} {g : Nat} {f0 : ByteArray} {f1 : Int} {f2 : Int} {f3 : Int} {p : Addr} (h : IsS167 w0 W g f0 f1 f2 f3) (hne : g ≠ p.block) (u : Value) : IsS167 w0 (W.setCell p u) g f0 f1 f2 f3 := by
  obtain ⟨hb, hg⟩ := h
  exact ⟨blk_far hb hne u, hg⟩
theorem cellS167_0 {W : World} {g : Nat} {f0 : ByteArray} {f1 : Int} {f2 : Int} {f3 : Int} (h : W.heap[g]? = some (.cells #[.string f0, .int .i64 f1, .int .i64 f2, .int .i64 f3] 167 (0, 0))) : W.cell? ⟨g, 0, none⟩ = some (.string f0) := (blk_cell h 0).trans rfl
theorem cellS167_1 {W : World} {g : Nat} {f0 : ByteArray} {f1 : Int} {f2 : Int} {f3 : Int} (h : W.heap[g]? = some (.cells #[.string f0, .int .i64 f1, .int .i64 f2, .int .i64 f3] 167 (0, 0))) : W.cell? ⟨g, 1, none⟩ = some (.int .i64 f1) := (blk_cell h 1).trans rfl
theorem IsS167.set_1 {w0 W : World} {g : Nat} {f0 : ByteArray} {f1 : Int} {f2 : Int} {f3 : Int} (h : IsS167 w0 W g f0 f1 f2 f3) (x : Int) : IsS167 w0 (W.setCell ⟨g, 1, none⟩ (.int .i64 x)) g f0 x f2 f3 := by
  obtain ⟨hb, hg⟩ := h
  exact ⟨by simpa using blk_set hb 1 (.int .i64 x), hg⟩
theorem cellS167_2 {W : World} {g : Nat} {f0 : ByteArray} {f1 : Int} {f2 : Int} {f3 : Int} (h : W.heap[g]? = some (.cells #[.string f0, .int .i64 f1, .int .i64 f2, .int .i64 f3] 167 (0, 0))) : W.cell? ⟨g, 2, none⟩ = some (.int .i64 f2) := (blk_cell h 2).trans rfl
theorem IsS167.set_2 {w0 W : World} {g : Nat} {f0 : ByteArray} {f1 : Int} {f2 : Int} {f3 : Int} (h : IsS167 w0 W g f0 f1 f2 f3) (x : Int) : IsS167 w0 (W.setCell ⟨g, 2, none⟩ (.int .i64 x)) g f0 f1 x f3 := by
  obtain ⟨hb, hg⟩ := h
  exact ⟨by simpa using blk_set hb 2 (.int .i64 x), hg⟩
theorem cellS167_3 {W : World} {g : Nat} {f0 : ByteArray} {f1 : Int} {f2 : Int} {f3 : Int} (h : W.heap[g]? = some (.cells #[.string f0, .int .i64 f1, .int .i64 f2, .int .i64 f3] 167 (0, 0))) : W.cell? ⟨g, 3, none⟩ = some (.int .i64 f3) := (blk_cell h 3).trans rfl
theorem IsS167.set_3 {w0 W : World} {g : Nat} {f0 : ByteArray} {f1 : Int} {f2 : Int} {f3 : Int} (h : IsS167 w0 W g f0 f1 f2 f3) (x : Int) : IsS167 w0 (W.setCell ⟨g, 3, none⟩ (.int .i64 x)) g f0 f1 f2 x := by
  obtain ⟨hb, hg⟩ := h
  exact ⟨by simpa using blk_set hb 3 (.int .i64 x), hg⟩
theorem IsS167.new (w0 W : World) (f0 : ByteArray) (f1 : Int) (f2 : Int) (f3 : Int) (hB : Below w0.heap.size w0 W) : IsS167 w0 (W.alloc (.cells #[.string f0, .int .i64 f1, .int .i64 f2, .int .i64 f3] 167)) W.heap.size f0 f1 f2 f3 := ⟨by simpa using heap_alloc_new W _, hB.size⟩
def pool_Reader_Bad.f (s0_0 : ByteArray) (s0_1 : Int) (s0_2 : Int) (s0_3 : Int) : Option (Bool × ByteArray × Int × Int × Int) := some ((s0_2 != 0), s0_0, s0_1, s0_2, s0_3)
set_option maxHeartbeats 8000000 in
set_option maxRecDepth 100000 in
theorem pool_Reader_Bad.calls (g : Nat) (s0_0 : ByteArray) (s0_1 : Int) (s0_2 : Int) (s0_3 : Int) (r1 : Bool) (r2 : ByteArray) (r3 : Int) (r4 : Int) (r5 : Int) (w0 w : World) (hI : IsS167 w0 w g s0_0 s0_1 s0_2 s0_3) (hB : Below w0.heap.size w0 w) (h : pool_Reader_Bad.f s0_0 s0_1 s0_2 s0_3 = some (r1, r2, r3, r4, r5)) :
    Calls Try.prog 70 #[.pointer (some ⟨g, 0, none⟩)] w fun e w' => e = .returned (.bool r1) ∧ IsS167 w0 w' g r2 r3 r4 r5 ∧ Below w0.heap.size w0 w' ∧ KeepBut w w' g none := by
  have HI0 := Aside0.mk hI
  have HK := Aside0.mk (KeepBut.refl w g none)
  have HL := Aside0.mk hB.size
  clear hI
  have HW0 := Aside0.mk hB.size
  have HB := Aside0.mk hB
  clear hB
  have H : (some ((s0_2 != 0), s0_0, s0_1, s0_2, s0_3)) = some (r1, r2, r3, r4, r5) := h
  clear h
  simp only [Option.some.injEq, Prod.mk.injEq] at H
  obtain ⟨rfl, rfl, rfl, rfl, rfl⟩ := H
  obtain ⟨HGz2, hgz2⟩ := HI0.out
  have hcz2_0 := cellS167_0 HGz2
  have hcz2_1 := cellS167_1 HGz2
  have hcz2_2 := cellS167_2 HGz2
  have hcz2_3 := cellS167_3 HGz2
  have hfz2_0 := blk_frozen HGz2 0
  have hfz2_1 := blk_frozen HGz2 1
  have hfz2_2 := blk_frozen HGz2 2
  have hfz2_3 := blk_frozen HGz2 3
  clear HGz2 hgz2
  go_enter Try.func70, Try.ntmps70
  go_wp2
  go_ret
  exact ⟨by first | rfl | (simp [errW_none, errW_some] <;> rfl) | (simp [*, errW_none, errW_some] <;> rfl), by repeat (first | (with_reducible first | exact HI0.out | apply IsS167.alloc | apply IsS167.drewN | apply IsS167.drew | apply IsS167.set_0 | apply IsS167.set_1 | apply IsS167.set_2 | apply IsS167.set_3) | exact HI0.out), by repeat (first | (with_reducible first | exact HB.out | apply below_alloc | apply pw_below_drewN | apply below_drew1 | refine below_set ?_ (IsS167.ge HI0.out)) | exact HB.out), by repeat (first | (with_reducible first | exact HK.out | apply KeepBut.set_ | apply keep_drewN | apply keep_drew | apply keep_alloc) | exact HK.out)⟩
end Go.Proofs.Ytfnjbmpolggdeaa.MD
end
section
namespace Go.Proofs.Ytfnjbmpolggdeaa.MD
open Go.RowKit Go.Proofs.YtfnjbmpolggdeaaW.PrintWords Go.Proofs.YtfnjbmpolggdeaaW.PrintLast Go.Proofs.YtfnjbmpolggdeaaW.PrintMore
attribute [local go_sem] max2_int min2_int max_two min_two max_three min_three max_four min_four   -- for this text's walks alone
set_option linter.unusedVariables false
set_option linter.unusedSimpArgs false
def pool_Reader_At.f (s0_0 : ByteArray) (s0_1 : Int) (s0_2 : Int) (s0_3 : Int) : Option (Int × ByteArray × Int × Int × Int) := some (s0_1, s0_0, s0_1, s0_2, s0_3)
set_option maxHeartbeats 8000000 in
set_option maxRecDepth 100000 in
theorem pool_Reader_At.calls (g : Nat) (s0_0 : ByteArray) (s0_1 : Int) (s0_2 : Int) (s0_3 : Int) (r1 : Int) (r2 : ByteArray) (r3 : Int) (r4 : Int) (r5 : Int) (w0 w : World) (hI : IsS167 w0 w g s0_0 s0_1 s0_2 s0_3) (hB : Below w0.heap.size w0 w) (h : pool_Reader_At.f s0_0 s0_1 s0_2 s0_3 = some (r1, r2, r3, r4, r5)) :
    Calls Try.prog 66 #[.pointer (some ⟨g, 0, none⟩)] w fun e w' => e = .returned (.int .i64 r1) ∧ IsS167 w0 w' g r2 r3 r4 r5 ∧ Below w0.heap.size w0 w' ∧ KeepBut w w' g none := by
  have HI0 := Aside0.mk hI
  have HK := Aside0.mk (KeepBut.refl w g none)
  have HL := Aside0.mk hB.size
  clear hI
  have HW0 := Aside0.mk hB.size
  have HB := Aside0.mk hB
  clear hB
  have H : (some (s0_1, s0_0, s0_1, s0_2, s0_3)) = some (r1, r2, r3, r4, r5) := h
  clear h
  simp only [Option.some.injEq, Prod.mk.injEq] at H
  obtain ⟨rfl, rfl, rfl, rfl, rfl⟩ := H
  obtain ⟨HGz2, hgz2⟩ := HI0.out
  have hcz2_0 := cellS167_0 HGz2
  have hcz2_1 := cellS167_1 HGz2
  have hcz2_2 := cellS167_2 HGz2
  have hcz2_3 := cellS167_3 HGz2
  have hfz2_0 := blk_frozen HGz2 0
  have hfz2_1 := blk_frozen HGz2 1
  have hfz2_2 := blk_frozen HGz2 2
  have hfz2_3 := blk_frozen HGz2 3
  clear HGz2 hgz2
  go_enter Try.func66, Try.ntmps66
  go_wp2
  go_ret
  exact ⟨by first | rfl | (simp [errW_none, errW_some] <;> rfl) | (simp [*, errW_none, errW_some] <;> rfl), by repeat (first | (with_reducible first | exact HI0.out | apply IsS167.alloc | apply IsS167.drewN | apply IsS167.drew | apply IsS167.set_0 | apply IsS167.set_1 | apply IsS167.set_2 | apply IsS167.set_3) | exact HI0.out), by repeat (first | (with_reducible first | exact HB.out | apply below_alloc | apply pw_below_drewN | apply below_drew1 | refine below_set ?_ (IsS167.ge HI0.out)) | exact HB.out), by repeat (first | (with_reducible first | exact HK.out | apply KeepBut.set_ | apply keep_drewN | apply keep_drew | apply keep_alloc) | exact HK.out)⟩
end Go.Proofs.Ytfnjbmpolggdeaa.MD
end
section
namespace Go.Proofs.Ytfnjbmpolggdeaa.MD
open Go.RowKit Go.Proofs.YtfnjbmpolggdeaaW.PrintWords Go.Proofs.YtfnjbmpolggdeaaW.PrintLast Go.Proofs.YtfnjbmpolggdeaaW.PrintMore
attribute [local go_sem] max2_int min2_int max_two min_two max_three min_three max_four min_four   -- for this text's walks alone
set_option linter.unusedVariables false
set_option linter.unusedSimpArgs false
def pool_Reader_Left.f (s0_0 : ByteArray) (s0_1 : Int) (s0_2 : Int) (s0_3 : Int) : Option (Int × ByteArray × Int × Int × Int) := some (wrap64 ((s0_0.size : Int) - s0_1), s0_0, s0_1, s0_2, s0_3)
set_option maxHeartbeats 8000000 in
set_option maxRecDepth 100000 in
theorem pool_Reader_Left.calls (g : Nat) (s0_0 : ByteArray) (s0_1 : Int) (s0_2 : Int) (s0_3 : Int) (r1 : Int) (r2 : ByteArray) (r3 : Int) (r4 : Int) (r5 : Int) (w0 w : World) (hI : IsS167 w0 w g s0_0 s0_1 s0_2 s0_3) (hB : Below w0.heap.size w0 w) (h : pool_Reader_Left.f s0_0 s0_1 s0_2 s0_3 = some (r1, r2, r3, r4, r5)) :
    Calls Try.prog 72 #[.pointer (some ⟨g, 0, none⟩)] w fun e w' => e = .returned (.int .i64 r1) ∧ IsS167 w0 w' g r2 r3 r4 r5 ∧ Below w0.heap.size w0 w' ∧ KeepBut w w' g none := by
  have HI0 := Aside0.mk hI
  have HK := Aside0.mk (KeepBut.refl w g none)
  have HL := Aside0.mk hB.size
  clear hI
  have HW0 := Aside0.mk hB.size
  have HB := Aside0.mk hB
  clear hB
  have H : (some (wrap64 ((s0_0.size : Int) - s0_1), s0_0, s0_1, s0_2, s0_3)) = some (r1, r2, r3, r4, r5) := h
  clear h
  simp only [Option.some.injEq, Prod.mk.injEq] at H
  obtain ⟨rfl, rfl, rfl, rfl, rfl⟩ := H
  obtain ⟨HGz2, hgz2⟩ := HI0.out
  have hcz2_0 := cellS167_0 HGz2
  have hcz2_1 := cellS167_1 HGz2
  have hcz2_2 := cellS167_2 HGz2
  have hcz2_3 := cellS167_3 HGz2
  have hfz2_0 := blk_frozen HGz2 0
  have hfz2_1 := blk_frozen HGz2 1
  have hfz2_2 := blk_frozen HGz2 2
  have hfz2_3 := blk_frozen HGz2 3
  clear HGz2 hgz2
  go_enter Try.func72, Try.ntmps72
  go_wp2
  repeat (go_quiet (fail); try go_wp2)
  go_ret
  exact ⟨by first | rfl | (simp [errW_none, errW_some] <;> rfl) | (simp [*, errW_none, errW_some] <;> rfl), by repeat (first | (with_reducible first | exact HI0.out | apply IsS167.alloc | apply IsS167.drewN | apply IsS167.drew | apply IsS167.set_0 | apply IsS167.set_1 | apply IsS167.set_2 | apply IsS167.set_3) | exact HI0.out), by repeat (first | (with_reducible first | exact HB.out | apply below_alloc | apply pw_below_drewN | apply below_drew1 | refine below_set ?_ (IsS167.ge HI0.out)) | exact HB.out), by repeat (first | (with_reducible first | exact HK.out | apply KeepBut.set_ | apply keep_drewN | apply keep_drew | apply keep_alloc) | exact HK.out)⟩
end Go.Proofs.Ytfnjbmpolggdeaa.MD
end
section
namespace Go.Proofs.Ytfnjbmpolggdeaa.MD
open Go.RowKit Go.Proofs.YtfnjbmpolggdeaaW.PrintWords Go.Proofs.YtfnjbmpolggdeaaW.PrintLast Go.Proofs.YtfnjbmpolggdeaaW.PrintMore
attribute [local go_sem] max2_int min2_int max_two min_two max_three min_three max_four min_four   -- for this text's walks alone
set_option linter.unusedVariables false
set_option linter.unusedSimpArgs false
def pool_Reader_Fail.f (s0_0 : ByteArray) (s0_1 : Int) (s0_2 : Int) (s0_3 : Int) (a1 : Int) (a2 : Int) : Option (ByteArray × Int × Int × Int) := if s0_2 = 0 then (some (s0_0, s0_1, a1, a2)) else (some (s0_0, s0_1, s0_2, s0_3))
set_option maxHeartbeats 8000000 in
set_option maxRecDepth 100000 in
theorem pool_Reader_Fail.calls (g : Nat) (s0_0 : ByteArray) (s0_1 : Int) (s0_2 : Int) (s0_3 : Int) (a1 : Int) (a2 : Int) (r1 : ByteArray) (r2 : Int) (r3 : Int) (r4 : Int) (w0 w : World) (hI : IsS167 w0 w g s0_0 s0_1 s0_2 s0_3) (hB : Below w0.heap.size w0 w) (h : pool_Reader_Fail.f s0_0 s0_1 s0_2 s0_3 a1 a2 = some (r1, r2, r3, r4)) :
    Calls Try.prog 73 #[.pointer (some ⟨g, 0, none⟩), .int .i64 a1, .int .i64 a2] w fun e w' => e = .returned (.tuple #[]) ∧ IsS167 w0 w' g r1 r2 r3 r4 ∧ Below w0.heap.size w0 w' ∧ KeepBut w w' g none := by
  have HI0 := Aside0.mk hI
  have HK := Aside0.mk (KeepBut.refl w g none)
  have HL := Aside0.mk hB.size
  clear hI
  have HW0 := Aside0.mk hB.size
  have HB := Aside0.mk hB
  clear hB
  have H : (if s0_2 = 0 then (some (s0_0, s0_1, a1, a2)) else (some (s0_0, s0_1, s0_2, s0_3))) = some (r1, r2, r3, r4) := h
  clear h
  by_cases c4 : s0_2 = 0
  · rw [if_pos c4] at H
    have c4b0 : (s0_2 == 0) = true := beq_iff_eq.mpr c4
    have c4b1 : (s0_2 != 0) = false := bne_eq_false_iff_eq.mpr c4
    clear c4
    simp only [Option.some.injEq, Prod.mk.injEq] at H
    obtain ⟨rfl, rfl, rfl, rfl⟩ := H
    obtain ⟨HGz5, hgz5⟩ := HI0.out
    have hcz5_0 := cellS167_0 HGz5
    have hcz5_1 := cellS167_1 HGz5
    have hcz5_2 := cellS167_2 HGz5
    have hcz5_3 := cellS167_3 HGz5
    have hfz5_0 := blk_frozen HGz5 0
    have hfz5_1 := blk_frozen HGz5 1
    have hfz5_2 := blk_frozen HGz5 2
    have hfz5_3 := blk_frozen HGz5 3
    clear HGz5 hgz5
    go_enter Try.func73, Try.ntmps73
    go_wp2
    first | go_end0 | ((try simp only [Exit.inBlock, Exit.then]); refine bodyPost_ret (results_none rfl _ _ _) rfl ?_)
    exact ⟨by first | rfl | (simp [errW_none, errW_some] <;> rfl) | (simp [*, errW_none, errW_some] <;> rfl), by repeat (first | (with_reducible first | exact HI0.out | apply IsS167.alloc | apply IsS167.drewN | apply IsS167.drew | apply IsS167.set_0 | apply IsS167.set_1 | apply IsS167.set_2 | apply IsS167.set_3) | exact HI0.out), by repeat (first | (with_reducible first | exact HB.out | apply below_alloc | apply pw_below_drewN | apply below_drew1 | refine below_set ?_ (IsS167.ge HI0.out)) | exact HB.out), by repeat (first | (with_reducible first | exact HK.out | apply KeepBut.set_ | apply keep_drewN | apply keep_drew | apply keep_alloc) | exact HK.out)⟩
  · rw [if_neg c4] at H
    have c4b0 : (s0_2 == 0) = false := beq_eq_false_iff_ne.mpr c4
    have c4b1 : (s0_2 != 0) = true := bne_iff_ne.mpr c4
    simp only [Option.some.injEq, Prod.mk.injEq] at H
    obtain ⟨rfl, rfl, rfl, rfl⟩ := H
    obtain ⟨HGz6, hgz6⟩ := HI0.out
    have hcz6_0 := cellS167_0 HGz6
    have hcz6_1 := cellS167_1 HGz6
    have hcz6_2 := cellS167_2 HGz6
    have hcz6_3 := cellS167_3 HGz6
    have hfz6_0 := blk_frozen HGz6 0
    have hfz6_1 := blk_frozen HGz6 1
    have hfz6_2 := blk_frozen HGz6 2
    have hfz6_3 := blk_frozen HGz6 3
    clear HGz6 hgz6
    go_enter Try.func73, Try.ntmps73
    go_wp2
    first | go_end0 | ((try simp only [Exit.inBlock, Exit.then]); refine bodyPost_ret (results_none rfl _ _ _) rfl ?_)
    exact ⟨by first | rfl | (simp [errW_none, errW_some] <;> rfl) | (simp [*, errW_none, errW_some] <;> rfl), by repeat (first | (with_reducible first | exact HI0.out | apply IsS167.alloc | apply IsS167.drewN | apply IsS167.drew | apply IsS167.set_0 | apply IsS167.set_1 | apply IsS167.set_2 | apply IsS167.set_3) | exact HI0.out), by repeat (first | (with_reducible first | exact HB.out | apply below_alloc | apply pw_below_drewN | apply below_drew1 | refine below_set ?_ (IsS167.ge HI0.out)) | exact HB.out), by repeat (first | (with_reducible first | exact HK.out | apply KeepBut.set_ | apply keep_drewN | apply keep_drew | apply keep_alloc) | exact HK.out)⟩
end Go.Proofs.Ytfnjbmpolggdeaa.MD
end
section
namespace Go.Proofs.Ytfnjbmpolggdeaa.MD
open Go.RowKit Go.Proofs.YtfnjbmpolggdeaaW.PrintWords Go.Proofs.YtfnjbmpolggdeaaW.PrintLast Go.Proofs.YtfnjbmpolggdeaaW.PrintMore
attribute [local go_sem] max2_int min2_int max_two min_two max_three min_three max_four min_four   -- for this text's walks alone
set_option linter.unusedVariables false
set_option linter.unusedSimpArgs false
def pool_Reader_Err.f (s0_0 : ByteArray) (s0_1 : Int) (s0_2 : Int) (s0_3 : Int) : Option (Int × Int × ByteArray × Int × Int × Int) := some (s0_2, s0_3, s0_0, s0_1, s0_2, s0_3)
set_option maxHeartbeats 8000000 in
set_option maxRecDepth 100000 in
theorem pool_Reader_Err.calls (g : Nat) (s0_0 : ByteArray) (s0_1 : Int) (s0_2 : Int) (s0_3 : Int) (r1 : Int) (r2 : Int) (r3 : ByteArray) (r4 : Int) (r5 : Int) (r6 : Int) (w0 w : World) (hI : IsS167 w0 w g s0_0 s0_1 s0_2 s0_3) (hB : Below w0.heap.size w0 w) (h : pool_Reader_Err.f s0_0 s0_1 s0_2 s0_3 = some (r1, r2, r3, r4, r5, r6)) :
    Calls Try.prog 65 #[.pointer (some ⟨g, 0, none⟩)] w fun e w' => e = .returned (.tuple #[.int .i64 r1, .int .i64 r2]) ∧ IsS167 w0 w' g r3 r4 r5 r6 ∧ Below w0.heap.size w0 w' ∧ KeepBut w w' g none := by
  have HI0 := Aside0.mk hI
  have HK := Aside0.mk (KeepBut.refl w g none)
  have HL := Aside0.mk hB.size
  clear hI
  have HW0 := Aside0.mk hB.size
  have HB := Aside0.mk hB
  clear hB
  have H : (some (s0_2, s0_3, s0_0, s0_1, s0_2, s0_3)) = some (r1, r2, r3, r4, r5, r6) := h
  clear h
  simp only [Option.some.injEq, Prod.mk.injEq] at H
  obtain ⟨rfl, rfl, rfl, rfl, rfl, rfl⟩ := H
  obtain ⟨HGz2, hgz2⟩ := HI0.out
  have hcz2_0 := cellS167_0 HGz2
  have hcz2_1 := cellS167_1 HGz2
  have hcz2_2 := cellS167_2 HGz2
  have hcz2_3 := cellS167_3 HGz2
  have hfz2_0 := blk_frozen HGz2 0
  have hfz2_1 := blk_frozen HGz2 1
  have hfz2_2 := blk_frozen HGz2 2
  have hfz2_3 := blk_frozen HGz2 3
  clear HGz2 hgz2
  go_enter Try.func65, Try.ntmps65
  go_wp2
  repeat (go_quiet (fail); try go_wp2)
  go_ret2
  exact ⟨by first | rfl | (simp [errW_none, errW_some] <;> rfl) | (simp [*, errW_none, errW_some] <;> rfl), by repeat (first | (with_reducible first | exact HI0.out | apply IsS167.alloc | apply IsS167.drewN | apply IsS167.drew | apply IsS167.set_0 | apply IsS167.set_1 | apply IsS167.set_2 | apply IsS167.set_3) | exact HI0.out), by repeat (first | (with_reducible first | exact HB.out | apply below_alloc | apply pw_below_drewN | apply below_drew1 | refine below_set ?_ (IsS167.ge HI0.out)) | exact HB.out), by repeat (first | (with_reducible first | exact HK.out | apply KeepBut.set_ | apply keep_drewN | apply keep_drew | apply keep_alloc) | exact HK.out)⟩
end Go.Proofs.Ytfnjbmpolggdeaa.MD
end
section
namespace Go.Proofs.Ytfnjbmpolggdeaa.MD
open Go.RowKit Go.Proofs.YtfnjbmpolggdeaaW.PrintWords Go.Proofs.YtfnjbmpolggdeaaW.PrintLast Go.Proofs.YtfnjbmpolggdeaaW.PrintMore
attribute [local go_sem] max2_int min2_int max_two min_two max_three min_three max_four min_four   -- for this text's walks alone
set_option linter.unusedVariables false
set_option linter.unusedSimpArgs false
def pool_Reader_Take.f (s0_0 : ByteArray) (s0_1 : Int) (s0_2 : Int) (s0_3 : Int) (a1 : Int) : Option (ByteArray × ByteArray × Int × Int × Int) := (pool_Reader_Bad.f s0_0 s0_1 s0_2 s0_3).bind fun bt101 => (if bt101.1 = true then (some ((⟨#[]⟩ : ByteArray), bt101.2.1, bt101.2.2.1, bt101.2.2.2.1, bt101.2.2.2.2)) else (if a1 < 0 then ((pool_Reader_Fail.f bt101.2.1 bt101.2.2.1 bt101.2.2.2.1 bt101.2.2.2.2 1 (bt101.2.1.size : Int)).bind fun bt106 => (some ((⟨#[]⟩ : ByteArray), bt106.1, bt106.2.1, bt106.2.2.1, bt106.2.2.2))) else ((pool_Reader_Left.f bt101.2.1 bt101.2.2.1 bt101.2.2.2.1 bt101.2.2.2.2).bind fun bt110 => (if a1 > bt110.1 then ((pool_Reader_Fail.f bt110.2.1 bt110.2.2.1 bt110.2.2.2.1 bt110.2.2.2.2 1 (bt110.2.1.size : Int)).bind fun bt115 => (some ((⟨#[]⟩ : ByteArray), bt115.1, bt115.2.1, bt115.2.2.1, bt115.2.2.2))) else (if 0 ≤ bt110.2.2.1 then (if bt110.2.2.1 ≤ (wrap64 (bt110.2.2.1 + a1)) then (if (wrap64 (bt110.2.2.1 + a1)) ≤ (bt110.2.1.size : Int) then (some (bt110.2.1.extract (bt110.2.2.1 : Int).toNat ((wrap64 (bt110.2.2.1 + a1)) : Int).toNat, bt110.2.1, wrap64 (bt110.2.2.1 + a1), bt110.2.2.2.1, bt110.2.2.2.2)) else (none)) else (none)) else (none))))))
set_option maxHeartbeats 8000000 in
set_option maxRecDepth 100000 in
theorem pool_Reader_Take.calls (g : Nat) (s0_0 : ByteArray) (s0_1 : Int) (s0_2 : Int) (s0_3 : Int) (a1 : Int) (r1 : ByteArray) (r2 : ByteArray) (r3 : Int) (r4 : Int) (r5 : Int) (w0 w : World) (hI : IsS167 w0 w g s0_0 s0_1 s0_2 s0_3) (hB : Below w0.heap.size w0 w) (h : pool_Reader_Take.f s0_0 s0_1 s0_2 s0_3 a1 = some (r1, r2, r3, r4, r5)) :
    Calls Try.prog 113 #[.pointer (some ⟨g, 0, none⟩), .int .i64 a1] w fun e w' => e = .returned (.string r1) ∧ IsS167 w0 w' g r2 r3 r4 r5 ∧ Below w0.heap.size w0 w' ∧ KeepBut w w' g none := by
  have HI0 := Aside0.mk hI
  have HK := Aside0.mk (KeepBut.refl w g none)
  have HL := Aside0.mk hB.size
  clear hI
  have HW0 := Aside0.mk hB.size
  have HB := Aside0.mk hB
  clear hB
  have H : ((pool_Reader_Bad.f s0_0 s0_1 s0_2 s0_3).bind fun bt101 => (if bt101.1 = true then (some ((⟨#[]⟩ : ByteArray), bt101.2.1, bt101.2.2.1, bt101.2.2.2.1, bt101.2.2.2.2)) else (if a1 < 0 then ((pool_Reader_Fail.f bt101.2.1 bt101.2.2.1 bt101.2.2.2.1 bt101.2.2.2.2 1 (bt101.2.1.size : Int)).bind fun bt106 => (some ((⟨#[]⟩ : ByteArray), bt106.1, bt106.2.1, bt106.2.2.1, bt106.2.2.2))) else ((pool_Reader_Left.f bt101.2.1 bt101.2.2.1 bt101.2.2.2.1 bt101.2.2.2.2).bind fun bt110 => (if a1 > bt110.1 then ((pool_Reader_Fail.f bt110.2.1 bt110.2.2.1 bt110.2.2.2.1 bt110.2.2.2.2 1 (bt110.2.1.size : Int)).bind fun bt115 => (some ((⟨#[]⟩ : ByteArray), bt115.1, bt115.2.1, bt115.2.2.1, bt115.2.2.2))) else (if 0 ≤ bt110.2.2.1 then (if bt110.2.2.1 ≤ (wrap64 (bt110.2.2.1 + a1)) then (if (wrap64 (bt110.2.2.1 + a1)) ≤ (bt110.2.1.size : Int) then (some (bt110.2.1.extract (bt110.2.2.1 : Int).toNat ((wrap64 (bt110.2.2.1 + a1)) : Int).toNat, bt110.2.1, wrap64 (bt110.2.2.1 + a1), bt110.2.2.2.1, bt110.2.2.2.2)) else (none)) else (none)) else (none))))))) = some (r1, r2, r3, r4, r5) := h
  clear h
  replace H := Option.bind_eq_some_iff.mp H
  obtain ⟨⟨t101, t102, t103, t104, t105⟩, A30, H⟩ := H
  replace H : (if t101 = true then (some ((⟨#[]⟩ : ByteArray), t102, t103, t104, t105)) else (if a1 < 0 then ((pool_Reader_Fail.f t102 t103 t104 t105 1 (t102.size : Int)).bind fun bt106 => (some ((⟨#[]⟩ : ByteArray), bt106.1, bt106.2.1, bt106.2.2.1, bt106.2.2.2))) else ((pool_Reader_Left.f t102 t103 t104 t105).bind fun bt110 => (if a1 > bt110.1 then ((pool_Reader_Fail.f bt110.2.1 bt110.2.2.1 bt110.2.2.2.1 bt110.2.2.2.2 1 (bt110.2.1.size : Int)).bind fun bt115 => (some ((⟨#[]⟩ : ByteArray), bt115.1, bt115.2.1, bt115.2.2.1, bt115.2.2.2))) else (if 0 ≤ bt110.2.2.1 then (if bt110.2.2.1 ≤ (wrap64 (bt110.2.2.1 + a1)) then (if (wrap64 (bt110.2.2.1 + a1)) ≤ (bt110.2.1.size : Int) then (some (bt110.2.1.extract (bt110.2.2.1 : Int).toNat ((wrap64 (bt110.2.2.1 + a1)) : Int).toNat, bt110.2.1, wrap64 (bt110.2.2.1 + a1), bt110.2.2.2.1, bt110.2.2.2.2)) else (none)) else (none)) else (none)))))) = some (r1, r2, r3, r4, r5) := H
  have A3 := Aside0.mk A30
  clear A30
  by_cases c4 : t101 = true
  · subst c4
    have H1 : (some ((⟨#[]⟩ : ByteArray), t102, t103, t104, t105)) = some (r1, r2, r3, r4, r5) := by rw [if_pos rfl] at H; exact H
    clear H
    have H := H1
    clear H1
    simp only [Option.some.injEq, Prod.mk.injEq] at H
    obtain ⟨rfl, rfl, rfl, rfl, rfl⟩ := H
    go_enter Try.func113, Try.ntmps113
    go_wp2_with (first | (go_at_call 70; (with_reducible refine (pool_Reader_Bad.calls g s0_0 s0_1 s0_2 s0_3 true t102 t103 t104 t105 w0 _ ?side1 ?side2 A3.out).mono ?_); (case side1 => repeat (first | (with_reducible first | exact HI0.out | apply IsS167.alloc | apply IsS167.drewN | apply IsS167.drew | apply IsS167.set_0 | apply IsS167.set_1 | apply IsS167.set_2 | apply IsS167.set_3) | exact HI0.out)); (case side2 => repeat (first | (with_reducible first | exact HB.out | apply below_alloc | apply pw_below_drewN | apply below_drew1 | refine below_set ?_ (IsS167.ge HI0.out)) | exact HB.out)); rintro e w5 ⟨rfl, hi, hb, hk⟩; have n0_ := Aside0.mk (KeepBut.trans (by repeat (first | (with_reducible first | exact HK.out | apply KeepBut.set_ | apply keep_drewN | apply keep_drew | apply keep_alloc) | exact HK.out)) hk (.inl rfl)); have n1_ := Aside0.mk (hb); have n2_ := Aside0.mk (hi); clear HK; clear HB; clear HI0; have HK := n0_; have HB := n1_; have HI0 := n2_; clear n0_ n1_ n2_; (try clear hb); (try clear hb2); (try clear hk); (try clear hi)))
    repeat (go_quiet (first | (go_at_call 70; (with_reducible refine (pool_Reader_Bad.calls g s0_0 s0_1 s0_2 s0_3 true t102 t103 t104 t105 w0 _ ?side1 ?side2 A3.out).mono ?_); (case side1 => repeat (first | (with_reducible first | exact HI0.out | apply IsS167.alloc | apply IsS167.drewN | apply IsS167.drew | apply IsS167.set_0 | apply IsS167.set_1 | apply IsS167.set_2 | apply IsS167.set_3) | exact HI0.out)); (case side2 => repeat (first | (with_reducible first | exact HB.out | apply below_alloc | apply pw_below_drewN | apply below_drew1 | refine below_set ?_ (IsS167.ge HI0.out)) | exact HB.out)); rintro e w5 ⟨rfl, hi, hb, hk⟩; have n0_ := Aside0.mk (KeepBut.trans (by repeat (first | (with_reducible first | exact HK.out | apply KeepBut.set_ | apply keep_drewN | apply keep_drew | apply keep_alloc) | exact HK.out)) hk (.inl rfl)); have n1_ := Aside0.mk (hb); have n2_ := Aside0.mk (hi); clear HK; clear HB; clear HI0; have HK := n0_; have HB := n1_; have HI0 := n2_; clear n0_ n1_ n2_; (try clear hb); (try clear hb2); (try clear hk); (try clear hi))); try go_wp2_with (first | (go_at_call 70; (with_reducible refine (pool_Reader_Bad.calls g s0_0 s0_1 s0_2 s0_3 true t102 t103 t104 t105 w0 _ ?side1 ?side2 A3.out).mono ?_); (case side1 => repeat (first | (with_reducible first | exact HI0.out | apply IsS167.alloc | apply IsS167.drewN | apply IsS167.drew | apply IsS167.set_0 | apply IsS167.set_1 | apply IsS167.set_2 | apply IsS167.set_3) | exact HI0.out)); (case side2 => repeat (first | (with_reducible first | exact HB.out | apply below_alloc | apply pw_below_drewN | apply below_drew1 | refine below_set ?_ (IsS167.ge HI0.out)) | exact HB.out)); rintro e w5 ⟨rfl, hi, hb, hk⟩; have n0_ := Aside0.mk (KeepBut.trans (by repeat (first | (with_reducible first | exact HK.out | apply KeepBut.set_ | apply keep_drewN | apply keep_drew | apply keep_alloc) | exact HK.out)) hk (.inl rfl)); have n1_ := Aside0.mk (hb); have n2_ := Aside0.mk (hi); clear HK; clear HB; clear HI0; have HK := n0_; have HB := n1_; have HI0 := n2_; clear n0_ n1_ n2_; (try clear hb); (try clear hb2); (try clear hk); (try clear hi))))
    go_ret
    exact ⟨by first | rfl | (simp [errW_none, errW_some] <;> rfl) | (simp [*, errW_none, errW_some] <;> rfl), by repeat (first | (with_reducible first | exact HI0.out | apply IsS167.alloc | apply IsS167.drewN | apply IsS167.drew | apply IsS167.set_0 | apply IsS167.set_1 | apply IsS167.set_2 | apply IsS167.set_3) | exact HI0.out), by repeat (first | (with_reducible first | exact HB.out | apply below_alloc | apply pw_below_drewN | apply below_drew1 | refine below_set ?_ (IsS167.ge HI0.out)) | exact HB.out), by repeat (first | (with_reducible first | exact HK.out | apply KeepBut.set_ | apply keep_drewN | apply keep_drew | apply keep_alloc) | exact HK.out)⟩
  · replace c4 := Bool.eq_false_iff.mpr c4
    subst c4
    have H1 : (if a1 < 0 then ((pool_Reader_Fail.f t102 t103 t104 t105 1 (t102.size : Int)).bind fun bt106 => (some ((⟨#[]⟩ : ByteArray), bt106.1, bt106.2.1, bt106.2.2.1, bt106.2.2.2))) else ((pool_Reader_Left.f t102 t103 t104 t105).bind fun bt110 => (if a1 > bt110.1 then ((pool_Reader_Fail.f bt110.2.1 bt110.2.2.1 bt110.2.2.2.1 bt110.2.2.2.2 1 (bt110.2.1.size : Int)).bind fun bt115 => (some ((⟨#[]⟩ : ByteArray), bt115.1, bt115.2.1, bt115.2.2.1, bt115.2.2.2))) else (if 0 ≤ bt110.2.2.1 then (if bt110.2.2.1 ≤ (wrap64 (bt110.2.2.1 + a1)) then (if (wrap64 (bt110.2.2.1 + a1)) ≤ (bt110.2.1.size : Int) then (some (bt110.2.1.extract (bt110.2.2.1 : Int).toNat ((wrap64 (bt110.2.2.1 + a1)) : Int).toNat, bt110.2.1, wrap64 (bt110.2.2.1 + a1), bt110.2.2.2.1, bt110.2.2.2.2)) else (none)) else (none)) else (none))))) = some (r1, r2, r3, r4, r5) := by rw [if_neg (show ¬ (false = true) by decide)] at H; exact H
    clear H
    have H := H1
    clear H1
    by_cases c6 : a1 < 0
    · rw [if_pos c6] at H
      have c6b0 : decide (a1 < 0) = true := decide_eq_true c6
      clear c6
      replace H := Option.bind_eq_some_iff.mp H
      obtain ⟨⟨t106, t107, t108, t109⟩, A70, H⟩ := H
      replace H : (some ((⟨#[]⟩ : ByteArray), t106, t107, t108, t109)) = some (r1, r2, r3, r4, r5) := H
      have A7 := Aside0.mk A70
      clear A70
      simp only [Option.some.injEq, Prod.mk.injEq] at H
      obtain ⟨rfl, rfl, rfl, rfl, rfl⟩ := H
      go_enter Try.func113, Try.ntmps113
      go_wp2_with (first | (go_at_call 70; (with_reducible refine (pool_Reader_Bad.calls g s0_0 s0_1 s0_2 s0_3 false t102 t103 t104 t105 w0 _ ?side1 ?side2 A3.out).mono ?_); (case side1 => repeat (first | (with_reducible first | exact HI0.out | apply IsS167.alloc | apply IsS167.drewN | apply IsS167.drew | apply IsS167.set_0 | apply IsS167.set_1 | apply IsS167.set_2 | apply IsS167.set_3) | exact HI0.out)); (case side2 => repeat (first | (with_reducible first | exact HB.out | apply below_alloc | apply pw_below_drewN | apply below_drew1 | refine below_set ?_ (IsS167.ge HI0.out)) | exact HB.out)); rintro e w8 ⟨rfl, hi, hb, hk⟩; have n0_ := Aside0.mk (KeepBut.trans (by repeat (first | (with_reducible first | exact HK.out | apply KeepBut.set_ | apply keep_drewN | apply keep_drew | apply keep_alloc) | exact HK.out)) hk (.inl rfl)); have n1_ := Aside0.mk (hb); have n2_ := Aside0.mk (hi); clear HK; clear HB; clear HI0; have HK := n0_; have HB := n1_; have HI0 := n2_; clear n0_ n1_ n2_; (try clear hb); (try clear hb2); (try clear hk); (try clear hi); obtain ⟨HGz9, hgz9⟩ := HI0.out; have hcz9_0 := cellS167_0 HGz9; have hcz9_1 := cellS167_1 HGz9; have hcz9_2 := cellS167_2 HGz9; have hcz9_3 := cellS167_3 HGz9; have hfz9_0 := blk_frozen HGz9 0; have hfz9_1 := blk_frozen HGz9 1; have hfz9_2 := blk_frozen HGz9 2; have hfz9_3 := blk_frozen HGz9 3; clear HGz9 hgz9) | (go_at_call 73; (with_reducible refine (pool_Reader_Fail.calls g t102 t103 t104 t105 1 (t102.size : Int) t106 t107 t108 t109 w0 _ ?side1 ?side2 A7.out).mono ?_); (case side1 => repeat (first | (with_reducible first | exact HI0.out | apply IsS167.alloc | apply IsS167.drewN | apply IsS167.drew | apply IsS167.set_0 | apply IsS167.set_1 | apply IsS167.set_2 | apply IsS167.set_3) | exact HI0.out)); (case side2 => repeat (first | (with_reducible first | exact HB.out | apply below_alloc | apply pw_below_drewN | apply below_drew1 | refine below_set ?_ (IsS167.ge HI0.out)) | exact HB.out)); rintro e w10 ⟨rfl, hi, hb, hk⟩; have n0_ := Aside0.mk (KeepBut.trans (by repeat (first | (with_reducible first | exact HK.out | apply KeepBut.set_ | apply keep_drewN | apply keep_drew | apply keep_alloc) | exact HK.out)) hk (.inl rfl)); have n1_ := Aside0.mk (hb); have n2_ := Aside0.mk (hi); clear HK; clear HB; clear HI0; have HK := n0_; have HB := n1_; have HI0 := n2_; clear n0_ n1_ n2_; (try clear hb); (try clear hb2); (try clear hk); (try clear hi)))
      repeat (go_quiet (first | (go_at_call 70; (with_reducible refine (pool_Reader_Bad.calls g s0_0 s0_1 s0_2 s0_3 false t102 t103 t104 t105 w0 _ ?side1 ?side2 A3.out).mono ?_); (case side1 => repeat (first | (with_reducible first | exact HI0.out | apply IsS167.alloc | apply IsS167.drewN | apply IsS167.drew | apply IsS167.set_0 | apply IsS167.set_1 | apply IsS167.set_2 | apply IsS167.set_3) | exact HI0.out)); (case side2 => repeat (first | (with_reducible first | exact HB.out | apply below_alloc | apply pw_below_drewN | apply below_drew1 | refine below_set ?_ (IsS167.ge HI0.out)) | exact HB.out)); rintro e w8 ⟨rfl, hi, hb, hk⟩; have n0_ := Aside0.mk (KeepBut.trans (by repeat (first | (with_reducible first | exact HK.out | apply KeepBut.set_ | apply keep_drewN | apply keep_drew | apply keep_alloc) | exact HK.out)) hk (.inl rfl)); have n1_ := Aside0.mk (hb); have n2_ := Aside0.mk (hi); clear HK; clear HB; clear HI0; have HK := n0_; have HB := n1_; have HI0 := n2_; clear n0_ n1_ n2_; (try clear hb); (try clear hb2); (try clear hk); (try clear hi); obtain ⟨HGz9, hgz9⟩ := HI0.out; have hcz9_0 := cellS167_0 HGz9; have hcz9_1 := cellS167_1 HGz9; have hcz9_2 := cellS167_2 HGz9; have hcz9_3 := cellS167_3 HGz9; have hfz9_0 := blk_frozen HGz9 0; have hfz9_1 := blk_frozen HGz9 1; have hfz9_2 := blk_frozen HGz9 2; have hfz9_3 := blk_frozen HGz9 3; clear HGz9 hgz9) | (go_at_call 73; (with_reducible refine (pool_Reader_Fail.calls g t102 t103 t104 t105 1 (t102.size : Int) t106 t107 t108 t109 w0 _ ?side1 ?side2 A7.out).mono ?_); (case side1 => repeat (first | (with_reducible first | exact HI0.out | apply IsS167.alloc | apply IsS167.drewN | apply IsS167.drew | apply IsS167.set_0 | apply IsS167.set_1 | apply IsS167.set_2 | apply IsS167.set_3) | exact HI0.out)); (case side2 => repeat (first | (with_reducible first | exact HB.out | apply below_alloc | apply pw_below_drewN | apply below_drew1 | refine below_set ?_ (IsS167.ge HI0.out)) | exact HB.out)); rintro e w10 ⟨rfl, hi, hb, hk⟩; have n0_ := Aside0.mk (KeepBut.trans (by repeat (first | (with_reducible first | exact HK.out | apply KeepBut.set_ | apply keep_drewN | apply keep_drew | apply keep_alloc) | exact HK.out)) hk (.inl rfl)); have n1_ := Aside0.mk (hb); have n2_ := Aside0.mk (hi); clear HK; clear HB; clear HI0; have HK := n0_; have HB := n1_; have HI0 := n2_; clear n0_ n1_ n2_; (try clear hb); (try clear hb2); (try clear hk); (try clear hi))); try go_wp2_with (first | (go_at_call 70; (with_reducible refine (pool_Reader_Bad.calls g s0_0 s0_1 s0_2 s0_3 false t102 t103 t104 t105 w0 _ ?side1 ?side2 A3.out).mono ?_); (case side1 => repeat (first | (with_reducible first | exact HI0.out | apply IsS167.alloc | apply IsS167.drewN | apply IsS167.drew | apply IsS167.set_0 | apply IsS167.set_1 | apply IsS167.set_2 | apply IsS167.set_3) | exact HI0.out)); (case side2 => repeat (first | (with_reducible first | exact HB.out | apply below_alloc | apply pw_below_drewN | apply below_drew1 | refine below_set ?_ (IsS167.ge HI0.out)) | exact HB.out)); rintro e w8 ⟨rfl, hi, hb, hk⟩; have n0_ := Aside0.mk (KeepBut.trans (by repeat (first | (with_reducible first | exact HK.out | apply KeepBut.set_ | apply keep_drewN | apply keep_drew | apply keep_alloc) | exact HK.out)) hk (.inl rfl)); have n1_ := Aside0.mk (hb); have n2_ := Aside0.mk (hi); clear HK; clear HB; clear HI0; have HK := n0_; have HB := n1_; have HI0 := n2_; clear n0_ n1_ n2_; (try clear hb); (try clear hb2); (try clear hk); (try clear hi); obtain ⟨HGz9, hgz9⟩ := HI0.out; have hcz9_0 := cellS167_0 HGz9; have hcz9_1 := cellS167_1 HGz9; have hcz9_2 := cellS167_2 HGz9; have hcz9_3 := cellS167_3 HGz9; have hfz9_0 := blk_frozen HGz9 0; have hfz9_1 := blk_frozen HGz9 1; have hfz9_2 := blk_frozen HGz9 2; have hfz9_3 := blk_frozen HGz9 3; clear HGz9 hgz9) | (go_at_call 73; (with_reducible refine (pool_Reader_Fail.calls g t102 t103 t104 t105 1 (t102.size : Int) t106 t107 t108 t109 w0 _ ?side1 ?side2 A7.out).mono ?_); (case side1 => repeat (first | (with_reducible first | exact HI0.out | apply IsS167.alloc | apply IsS167.drewN | apply IsS167.drew | apply IsS167.set_0 | apply IsS167.set_1 | apply IsS167.set_2 | apply IsS167.set_3) | exact HI0.out)); (case side2 => repeat (first | (with_reducible first | exact HB.out | apply below_alloc | apply pw_below_drewN | apply below_drew1 | refine below_set ?_ (IsS167.ge HI0.out)) | exact HB.out)); rintro e w10 ⟨rfl, hi, hb, hk⟩; have n0_ := Aside0.mk (KeepBut.trans (by repeat (first | (with_reducible first | exact HK.out | apply KeepBut.set_ | apply keep_drewN | apply keep_drew | apply keep_alloc) | exact HK.out)) hk (.inl rfl)); have n1_ := Aside0.mk (hb); have n2_ := Aside0.mk (hi); clear HK; clear HB; clear HI0; have HK := n0_; have HB := n1_; have HI0 := n2_; clear n0_ n1_ n2_; (try clear hb); (try clear hb2); (try clear hk); (try clear hi))))
      go_ret
      exact ⟨by first | rfl | (simp [errW_none, errW_some] <;> rfl) | (simp [*, errW_none, errW_some] <;> rfl), by repeat (first | (with_reducible first | exact HI0.out | apply IsS167.alloc | apply IsS167.drewN | apply IsS167.drew | apply IsS167.set_0 | apply IsS167.set_1 | apply IsS167.set_2 | apply IsS167.set_3) | exact HI0.out), by repeat (first | (with_reducible first | exact HB.out | apply below_alloc | apply pw_below_drewN | apply below_drew1 | refine below_set ?_ (IsS167.ge HI0.out)) | exact HB.out), by repeat (first | (with_reducible first | exact HK.out | apply KeepBut.set_ | apply keep_drewN | apply keep_drew | apply keep_alloc) | exact HK.out)⟩
    · rw [if_neg c6] at H
      have c6b0 : decide (a1 < 0) = false := decide_eq_false c6
      clear c6
      replace H := Option.bind_eq_some_iff.mp H
      obtain ⟨⟨t110, t111, t112, t113, t114⟩, A110, H⟩ := H
      replace H : (if a1 > t110 then ((pool_Reader_Fail.f t111 t112 t113 t114 1 (t111.size : Int)).bind fun bt115 => (some ((⟨#[]⟩ : ByteArray), bt115.1, bt115.2.1, bt115.2.2.1, bt115.2.2.2))) else (if 0 ≤ t112 then (if t112 ≤ (wrap64 (t112 + a1)) then (if (wrap64 (t112 + a1)) ≤ (t111.size : Int) then (some (t111.extract (t112 : Int).toNat ((wrap64 (t112 + a1)) : Int).toNat, t111, wrap64 (t112 + a1), t113, t114)) else (none)) else (none)) else (none))) = some (r1, r2, r3, r4, r5) := H
      have A11 := Aside0.mk A110
      clear A110
      by_cases c12 : a1 > t110
      · rw [if_pos c12] at H
        have c12b0 : decide (t110 < a1) = true := decide_eq_true c12
        clear c12
        replace H := Option.bind_eq_some_iff.mp H
        obtain ⟨⟨t115, t116, t117, t118⟩, A130, H⟩ := H
        replace H : (some ((⟨#[]⟩ : ByteArray), t115, t116, t117, t118)) = some (r1, r2, r3, r4, r5) := H
        have A13 := Aside0.mk A130
        clear A130
        simp only [Option.some.injEq, Prod.mk.injEq] at H
        obtain ⟨rfl, rfl, rfl, rfl, rfl⟩ := H
        go_enter Try.func113, Try.ntmps113
        go_wp2_with (first | (go_at_call 70; (with_reducible refine (pool_Reader_Bad.calls g s0_0 s0_1 s0_2 s0_3 false t102 t103 t104 t105 w0 _ ?side1 ?side2 A3.out).mono ?_); (case side1 => repeat (first | (with_reducible first | exact HI0.out | apply IsS167.alloc | apply IsS167.drewN | apply IsS167.drew | apply IsS167.set_0 | apply IsS167.set_1 | apply IsS167.set_2 | apply IsS167.set_3) | exact HI0.out)); (case side2 => repeat (first | (with_reducible first | exact HB.out | apply below_alloc | apply pw_below_drewN | apply below_drew1 | refine below_set ?_ (IsS167.ge HI0.out)) | exact HB.out)); rintro e w14 ⟨rfl, hi, hb, hk⟩; have n0_ := Aside0.mk (KeepBut.trans (by repeat (first | (with_reducible first | exact HK.out | apply KeepBut.set_ | apply keep_drewN | apply keep_drew | apply keep_alloc) | exact HK.out)) hk (.inl rfl)); have n1_ := Aside0.mk (hb); have n2_ := Aside0.mk (hi); clear HK; clear HB; clear HI0; have HK := n0_; have HB := n1_; have HI0 := n2_; clear n0_ n1_ n2_; (try clear hb); (try clear hb2); (try clear hk); (try clear hi)) | (go_at_call 72; (with_reducible refine (pool_Reader_Left.calls g t102 t103 t104 t105 t110 t111 t112 t113 t114 w0 _ ?side1 ?side2 A11.out).mono ?_); (case side1 => repeat (first | (with_reducible first | exact HI0.out | apply IsS167.alloc | apply IsS167.drewN | apply IsS167.drew | apply IsS167.set_0 | apply IsS167.set_1 | apply IsS167.set_2 | apply IsS167.set_3) | exact HI0.out)); (case side2 => repeat (first | (with_reducible first | exact HB.out | apply below_alloc | apply pw_below_drewN | apply below_drew1 | refine below_set ?_ (IsS167.ge HI0.out)) | exact HB.out)); rintro e w15 ⟨rfl, hi, hb, hk⟩; have n0_ := Aside0.mk (KeepBut.trans (by repeat (first | (with_reducible first | exact HK.out | apply KeepBut.set_ | apply keep_drewN | apply keep_drew | apply keep_alloc) | exact HK.out)) hk (.inl rfl)); have n1_ := Aside0.mk (hb); have n2_ := Aside0.mk (hi); clear HK; clear HB; clear HI0; have HK := n0_; have HB := n1_; have HI0 := n2_; clear n0_ n1_ n2_; (try clear hb); (try clear hb2); (try clear hk); (try clear hi); obtain ⟨HGz16, hgz16⟩ := HI0.out; have hcz16_0 := cellS167_0 HGz16; have hcz16_1 := cellS167_1 HGz16; have hcz16_2 := cellS167_2 HGz16; have hcz16_3 := cellS167_3 HGz16; have hfz16_0 := blk_frozen HGz16 0; have hfz16_1 := blk_frozen HGz16 1; have hfz16_2 := blk_frozen HGz16 2; have hfz16_3 := blk_frozen HGz16 3; clear HGz16 hgz16) | (go_at_call 73; (with_reducible refine (pool_Reader_Fail.calls g t111 t112 t113 t114 1 (t111.size : Int) t115 t116 t117 t118 w0 _ ?side1 ?side2 A13.out).mono ?_); (case side1 => repeat (first | (with_reducible first | exact HI0.out | apply IsS167.alloc | apply IsS167.drewN | apply IsS167.drew | apply IsS167.set_0 | apply IsS167.set_1 | apply IsS167.set_2 | apply IsS167.set_3) | exact HI0.out)); (case side2 => repeat (first | (with_reducible first | exact HB.out | apply below_alloc | apply pw_below_drewN | apply below_drew1 | refine below_set ?_ (IsS167.ge HI0.out)) | exact HB.out)); rintro e w17 ⟨rfl, hi, hb, hk⟩; have n0_ := Aside0.mk (KeepBut.trans (by repeat (first | (with_reducible first | exact HK.out | apply KeepBut.set_ | apply keep_drewN | apply keep_drew | apply keep_alloc) | exact HK.out)) hk (.inl rfl)); have n1_ := Aside0.mk (hb); have n2_ := Aside0.mk (hi); clear HK; clear HB; clear HI0; have HK := n0_; have HB := n1_; have HI0 := n2_; clear n0_ n1_ n2_; (try clear hb); (try clear hb2); (try clear hk); (try clear hi)))
        repeat (go_quiet (first | (go_at_call 70; (with_reducible refine (pool_Reader_Bad.calls g s0_0 s0_1 s0_2 s0_3 false t102 t103 t104 t105 w0 _ ?side1 ?side2 A3.out).mono ?_); (case side1 => repeat (first | (with_reducible first | exact HI0.out | apply IsS167.alloc | apply IsS167.drewN | apply IsS167.drew | apply IsS167.set_0 | apply IsS167.set_1 | apply IsS167.set_2 | apply IsS167.set_3) | exact HI0.out)); (case side2 => repeat (first | (with_reducible first | exact HB.out | apply below_alloc | apply pw_below_drewN | apply below_drew1 | refine below_set ?_ (IsS167.ge HI0.out)) | exact HB.out)); rintro e w14 ⟨rfl, hi, hb, hk⟩; have n0_ := Aside0.mk (KeepBut.trans (by repeat (first | (with_reducible first | exact HK.out | apply KeepBut.set_ | apply keep_drewN | apply keep_drew | apply keep_alloc) | exact HK.out)) hk (.inl rfl)); have n1_ := Aside0.mk (hb); have n2_ := Aside0.mk (hi); clear HK; clear HB; clear HI0; have HK := n0_; have HB := n1_; have HI0 := n2_; clear n0_ n1_ n2_; (try clear hb); (try clear hb2); (try clear hk); (try clear hi)) | (go_at_call 72; (with_reducible refine (pool_Reader_Left.calls g t102 t103 t104 t105 t110 t111 t112 t113 t114 w0 _ ?side1 ?side2 A11.out).mono ?_); (case side1 => repeat (first | (with_reducible first | exact HI0.out | apply IsS167.alloc | apply IsS167.drewN | apply IsS167.drew | apply IsS167.set_0 | apply IsS167.set_1 | apply IsS167.set_2 | apply IsS167.set_3) | exact HI0.out)); (case side2 => repeat (first | (with_reducible first | exact HB.out | apply below_alloc | apply pw_below_drewN | apply below_drew1 | refine below_set ?_ (IsS167.ge HI0.out)) | exact HB.out)); rintro e w15 ⟨rfl, hi, hb, hk⟩; have n0_ := Aside0.mk (KeepBut.trans (by repeat (first | (with_reducible first | exact HK.out | apply KeepBut.set_ | apply keep_drewN | apply keep_drew | apply keep_alloc) | exact HK.out)) hk (.inl rfl)); have n1_ := Aside0.mk (hb); have n2_ := Aside0.mk (hi); clear HK; clear HB; clear HI0; have HK := n0_; have HB := n1_; have HI0 := n2_; clear n0_ n1_ n2_; (try clear hb); (try clear hb2); (try clear hk); (try clear hi); obtain ⟨HGz16, hgz16⟩ := HI0.out; have hcz16_0 := cellS167_0 HGz16; have hcz16_1 := cellS167_1 HGz16; have hcz16_2 := cellS167_2 HGz16; have hcz16_3 := cellS167_3 HGz16; have hfz16_0 := blk_frozen HGz16 0; have hfz16_1 := blk_frozen HGz16 1; have hfz16_2 := blk_frozen HGz16 2; have hfz16_3 := blk_frozen HGz16 3; clear HGz16 hgz16) | (go_at_call 73; (with_reducible refine (pool_Reader_Fail.calls g t111 t112 t113 t114 1 (t111.size : Int) t115 t116 t117 t118 w0 _ ?side1 ?side2 A13.out).mono ?_); (case side1 => repeat (first | (with_reducible first | exact HI0.out | apply IsS167.alloc | apply IsS167.drewN | apply IsS167.drew | apply IsS167.set_0 | apply IsS167.set_1 | apply IsS167.set_2 | apply IsS167.set_3) | exact HI0.out)); (case side2 => repeat (first | (with_reducible first | exact HB.out | apply below_alloc | apply pw_below_drewN | apply below_drew1 | refine below_set ?_ (IsS167.ge HI0.out)) | exact HB.out)); rintro e w17 ⟨rfl, hi, hb, hk⟩; have n0_ := Aside0.mk (KeepBut.trans (by repeat (first | (with_reducible first | exact HK.out | apply KeepBut.set_ | apply keep_drewN | apply keep_drew | apply keep_alloc) | exact HK.out)) hk (.inl rfl)); have n1_ := Aside0.mk (hb); have n2_ := Aside0.mk (hi); clear HK; clear HB; clear HI0; have HK := n0_; have HB := n1_; have HI0 := n2_; clear n0_ n1_ n2_; (try clear hb); (try clear hb2); (try clear hk); (try clear hi))); try go_wp2_with (first | (go_at_call 70; (with_reducible refine (pool_Reader_Bad.calls g s0_0 s0_1 s0_2 s0_3 false t102 t103 t104 t105 w0 _ ?side1 ?side2 A3.out).mono ?_); (case side1 => repeat (first | (with_reducible first | exact HI0.out | apply IsS167.alloc | apply IsS167.drewN | apply IsS167.drew | apply IsS167.set_0 | apply IsS167.set_1 | apply IsS167.set_2 | apply IsS167.set_3) | exact HI0.out)); (case side2 => repeat (first | (with_reducible first | exact HB.out | apply below_alloc | apply pw_below_drewN | apply below_drew1 | refine below_set ?_ (IsS167.ge HI0.out)) | exact HB.out)); rintro e w14 ⟨rfl, hi, hb, hk⟩; have n0_ := Aside0.mk (KeepBut.trans (by repeat (first | (with_reducible first | exact HK.out | apply KeepBut.set_ | apply keep_drewN | apply keep_drew | apply keep_alloc) | exact HK.out)) hk (.inl rfl)); have n1_ := Aside0.mk (hb); have n2_ := Aside0.mk (hi); clear HK; clear HB; clear HI0; have HK := n0_; have HB := n1_; have HI0 := n2_; clear n0_ n1_ n2_; (try clear hb); (try clear hb2); (try clear hk); (try clear hi)) | (go_at_call 72; (with_reducible refine (pool_Reader_Left.calls g t102 t103 t104 t105 t110 t111 t112 t113 t114 w0 _ ?side1 ?side2 A11.out).mono ?_); (case side1 => repeat (first | (with_reducible first | exact HI0.out | apply IsS167.alloc | apply IsS167.drewN | apply IsS167.drew | apply IsS167.set_0 | apply IsS167.set_1 | apply IsS167.set_2 | apply IsS167.set_3) | exact HI0.out)); (case side2 => repeat (first | (with_reducible first | exact HB.out | apply below_alloc | apply pw_below_drewN | apply below_drew1 | refine below_set ?_ (IsS167.ge HI0.out)) | exact HB.out)); rintro e w15 ⟨rfl, hi, hb, hk⟩; have n0_ := Aside0.mk (KeepBut.trans (by repeat (first | (with_reducible first | exact HK.out | apply KeepBut.set_ | apply keep_drewN | apply keep_drew | apply keep_alloc) | exact HK.out)) hk (.inl rfl)); have n1_ := Aside0.mk (hb); have n2_ := Aside0.mk (hi); clear HK; clear HB; clear HI0; have HK := n0_; have HB := n1_; have HI0 := n2_; clear n0_ n1_ n2_; (try clear hb); (try clear hb2); (try clear hk); (try clear hi); obtain ⟨HGz16, hgz16⟩ := HI0.out; have hcz16_0 := cellS167_0 HGz16; have hcz16_1 := cellS167_1 HGz16; have hcz16_2 := cellS167_2 HGz16; have hcz16_3 := cellS167_3 HGz16; have hfz16_0 := blk_frozen HGz16 0; have hfz16_1 := blk_frozen HGz16 1; have hfz16_2 := blk_frozen HGz16 2; have hfz16_3 := blk_frozen HGz16 3; clear HGz16 hgz16) | (go_at_call 73; (with_reducible refine (pool_Reader_Fail.calls g t111 t112 t113 t114 1 (t111.size : Int) t115 t116 t117 t118 w0 _ ?side1 ?side2 A13.out).mono ?_); (case side1 => repeat (first | (with_reducible first | exact HI0.out | apply IsS167.alloc | apply IsS167.drewN | apply IsS167.drew | apply IsS167.set_0 | apply IsS167.set_1 | apply IsS167.set_2 | apply IsS167.set_3) | exact HI0.out)); (case side2 => repeat (first | (with_reducible first | exact HB.out | apply below_alloc | apply pw_below_drewN | apply below_drew1 | refine below_set ?_ (IsS167.ge HI0.out)) | exact HB.out)); rintro e w17 ⟨rfl, hi, hb, hk⟩; have n0_ := Aside0.mk (KeepBut.trans (by repeat (first | (with_reducible first | exact HK.out | apply KeepBut.set_ | apply keep_drewN | apply keep_drew | apply keep_alloc) | exact HK.out)) hk (.inl rfl)); have n1_ := Aside0.mk (hb); have n2_ := Aside0.mk (hi); clear HK; clear HB; clear HI0; have HK := n0_; have HB := n1_; have HI0 := n2_; clear n0_ n1_ n2_; (try clear hb); (try clear hb2); (try clear hk); (try clear hi))))
        go_ret
        exact ⟨by first | rfl | (simp [errW_none, errW_some] <;> rfl) | (simp [*, errW_none, errW_some] <;> rfl), by repeat (first | (with_reducible first | exact HI0.out | apply IsS167.alloc | apply IsS167.drewN | apply IsS167.drew | apply IsS167.set_0 | apply IsS167.set_1 | apply IsS167.set_2 | apply IsS167.set_3) | exact HI0.out), by repeat (first | (with_reducible first | exact HB.out | apply below_alloc | apply pw_below_drewN | apply below_drew1 | refine below_set ?_ (IsS167.ge HI0.out)) | exact HB.out), by repeat (first | (with_reducible first | exact HK.out | apply KeepBut.set_ | apply keep_drewN | apply keep_drew | apply keep_alloc) | exact HK.out)⟩
      · rw [if_neg c12] at H
        have c12b0 : decide (t110 < a1) = false := decide_eq_false c12
        clear c12
        by_cases c18 : 0 ≤ t112
        · rw [if_pos c18] at H
          have c18b0 := eq_true c18
          have c18b1 : decide (0 ≤ t112) = true := decide_eq_true c18
          clear c18
          by_cases c19 : t112 ≤ (wrap64 (t112 + a1))
          · rw [if_pos c19] at H
            have c19b0 := eq_true c19
            have c19b1 : decide (t112 ≤ (wrap64 (t112 + a1))) = true := decide_eq_true c19
            by_cases c20 : (wrap64 (t112 + a1)) ≤ (t111.size : Int)
            · rw [if_pos c20] at H
              have c20b0 := eq_true c20
              have c20b1 : decide ((wrap64 (t112 + a1)) ≤ (t111.size : Int)) = true := decide_eq_true c20
              simp only [Option.some.injEq, Prod.mk.injEq] at H
              obtain ⟨rfl, rfl, rfl, rfl, rfl⟩ := H
              go_enter Try.func113, Try.ntmps113
              go_wp2_with (first | (go_at_call 70; (with_reducible refine (pool_Reader_Bad.calls g s0_0 s0_1 s0_2 s0_3 false t102 t103 t104 t105 w0 _ ?side1 ?side2 A3.out).mono ?_); (case side1 => repeat (first | (with_reducible first | exact HI0.out | apply IsS167.alloc | apply IsS167.drewN | apply IsS167.drew | apply IsS167.set_0 | apply IsS167.set_1 | apply IsS167.set_2 | apply IsS167.set_3) | exact HI0.out)); (case side2 => repeat (first | (with_reducible first | exact HB.out | apply below_alloc | apply pw_below_drewN | apply below_drew1 | refine below_set ?_ (IsS167.ge HI0.out)) | exact HB.out)); rintro e w21 ⟨rfl, hi, hb, hk⟩; have n0_ := Aside0.mk (KeepBut.trans (by repeat (first | (with_reducible first | exact HK.out | apply KeepBut.set_ | apply keep_drewN | apply keep_drew | apply keep_alloc) | exact HK.out)) hk (.inl rfl)); have n1_ := Aside0.mk (hb); have n2_ := Aside0.mk (hi); clear HK; clear HB; clear HI0; have HK := n0_; have HB := n1_; have HI0 := n2_; clear n0_ n1_ n2_; (try clear hb); (try clear hb2); (try clear hk); (try clear hi)) | (go_at_call 72; (with_reducible refine (pool_Reader_Left.calls g t102 t103 t104 t105 t110 t111 t112 t113 t114 w0 _ ?side1 ?side2 A11.out).mono ?_); (case side1 => repeat (first | (with_reducible first | exact HI0.out | apply IsS167.alloc | apply IsS167.drewN | apply IsS167.drew | apply IsS167.set_0 | apply IsS167.set_1 | apply IsS167.set_2 | apply IsS167.set_3) | exact HI0.out)); (case side2 => repeat (first | (with_reducible first | exact HB.out | apply below_alloc | apply pw_below_drewN | apply below_drew1 | refine below_set ?_ (IsS167.ge HI0.out)) | exact HB.out)); rintro e w22 ⟨rfl, hi, hb, hk⟩; have n0_ := Aside0.mk (KeepBut.trans (by repeat (first | (with_reducible first | exact HK.out | apply KeepBut.set_ | apply keep_drewN | apply keep_drew | apply keep_alloc) | exact HK.out)) hk (.inl rfl)); have n1_ := Aside0.mk (hb); have n2_ := Aside0.mk (hi); clear HK; clear HB; clear HI0; have HK := n0_; have HB := n1_; have HI0 := n2_; clear n0_ n1_ n2_; (try clear hb); (try clear hb2); (try clear hk); (try clear hi); obtain ⟨HGz23, hgz23⟩ := HI0.out; have hcz23_0 := cellS167_0 HGz23; have hcz23_1 := cellS167_1 HGz23; have hcz23_2 := cellS167_2 HGz23; have hcz23_3 := cellS167_3 HGz23; have hfz23_0 := blk_frozen HGz23 0; have hfz23_1 := blk_frozen HGz23 1; have hfz23_2 := blk_frozen HGz23 2; have hfz23_3 := blk_frozen HGz23 3; clear HGz23 hgz23))
              repeat (go_quiet (first | (go_at_call 70; (with_reducible refine (pool_Reader_Bad.calls g s0_0 s0_1 s0_2 s0_3 false t102 t103 t104 t105 w0 _ ?side1 ?side2 A3.out).mono ?_); (case side1 => repeat (first | (with_reducible first | exact HI0.out | apply IsS167.alloc | apply IsS167.drewN | apply IsS167.drew | apply IsS167.set_0 | apply IsS167.set_1 | apply IsS167.set_2 | apply IsS167.set_3) | exact HI0.out)); (case side2 => repeat (first | (with_reducible first | exact HB.out | apply below_alloc | apply pw_below_drewN | apply below_drew1 | refine below_set ?_ (IsS167.ge HI0.out)) | exact HB.out)); rintro e w21 ⟨rfl, hi, hb, hk⟩; have n0_ := Aside0.mk (KeepBut.trans (by repeat (first | (with_reducible first | exact HK.out | apply KeepBut.set_ | apply keep_drewN | apply keep_drew | apply keep_alloc) | exact HK.out)) hk (.inl rfl)); have n1_ := Aside0.mk (hb); have n2_ := Aside0.mk (hi); clear HK; clear HB; clear HI0; have HK := n0_; have HB := n1_; have HI0 := n2_; clear n0_ n1_ n2_; (try clear hb); (try clear hb2); (try clear hk); (try clear hi)) | (go_at_call 72; (with_reducible refine (pool_Reader_Left.calls g t102 t103 t104 t105 t110 t111 t112 t113 t114 w0 _ ?side1 ?side2 A11.out).mono ?_); (case side1 => repeat (first | (with_reducible first | exact HI0.out | apply IsS167.alloc | apply IsS167.drewN | apply IsS167.drew | apply IsS167.set_0 | apply IsS167.set_1 | apply IsS167.set_2 | apply IsS167.set_3) | exact HI0.out)); (case side2 => repeat (first | (with_reducible first | exact HB.out | apply below_alloc | apply pw_below_drewN | apply below_drew1 | refine below_set ?_ (IsS167.ge HI0.out)) | exact HB.out)); rintro e w22 ⟨rfl, hi, hb, hk⟩; have n0_ := Aside0.mk (KeepBut.trans (by repeat (first | (with_reducible first | exact HK.out | apply KeepBut.set_ | apply keep_drewN | apply keep_drew | apply keep_alloc) | exact HK.out)) hk (.inl rfl)); have n1_ := Aside0.mk (hb); have n2_ := Aside0.mk (hi); clear HK; clear HB; clear HI0; have HK := n0_; have HB := n1_; have HI0 := n2_; clear n0_ n1_ n2_; (try clear hb); (try clear hb2); (try clear hk); (try clear hi); obtain ⟨HGz23, hgz23⟩ := HI0.out; have hcz23_0 := cellS167_0 HGz23; have hcz23_1 := cellS167_1 HGz23; have hcz23_2 := cellS167_2 HGz23; have hcz23_3 := cellS167_3 HGz23; have hfz23_0 := blk_frozen HGz23 0; have hfz23_1 := blk_frozen HGz23 1; have hfz23_2 := blk_frozen HGz23 2; have hfz23_3 := blk_frozen HGz23 3; clear HGz23 hgz23)); try go_wp2_with (first | (go_at_call 70; (with_reducible refine (pool_Reader_Bad.calls g s0_0 s0_1 s0_2 s0_3 false t102 t103 t104 t105 w0 _ ?side1 ?side2 A3.out).mono ?_); (case side1 => repeat (first | (with_reducible first | exact HI0.out | apply IsS167.alloc | apply IsS167.drewN | apply IsS167.drew | apply IsS167.set_0 | apply IsS167.set_1 | apply IsS167.set_2 | apply IsS167.set_3) | exact HI0.out)); (case side2 => repeat (first | (with_reducible first | exact HB.out | apply below_alloc | apply pw_below_drewN | apply below_drew1 | refine below_set ?_ (IsS167.ge HI0.out)) | exact HB.out)); rintro e w21 ⟨rfl, hi, hb, hk⟩; have n0_ := Aside0.mk (KeepBut.trans (by repeat (first | (with_reducible first | exact HK.out | apply KeepBut.set_ | apply keep_drewN | apply keep_drew | apply keep_alloc) | exact HK.out)) hk (.inl rfl)); have n1_ := Aside0.mk (hb); have n2_ := Aside0.mk (hi); clear HK; clear HB; clear HI0; have HK := n0_; have HB := n1_; have HI0 := n2_; clear n0_ n1_ n2_; (try clear hb); (try clear hb2); (try clear hk); (try clear hi)) | (go_at_call 72; (with_reducible refine (pool_Reader_Left.calls g t102 t103 t104 t105 t110 t111 t112 t113 t114 w0 _ ?side1 ?side2 A11.out).mono ?_); (case side1 => repeat (first | (with_reducible first | exact HI0.out | apply IsS167.alloc | apply IsS167.drewN | apply IsS167.drew | apply IsS167.set_0 | apply IsS167.set_1 | apply IsS167.set_2 | apply IsS167.set_3) | exact HI0.out)); (case side2 => repeat (first | (with_reducible first | exact HB.out | apply below_alloc | apply pw_below_drewN | apply below_drew1 | refine below_set ?_ (IsS167.ge HI0.out)) | exact HB.out)); rintro e w22 ⟨rfl, hi, hb, hk⟩; have n0_ := Aside0.mk (KeepBut.trans (by repeat (first | (with_reducible first | exact HK.out | apply KeepBut.set_ | apply keep_drewN | apply keep_drew | apply keep_alloc) | exact HK.out)) hk (.inl rfl)); have n1_ := Aside0.mk (hb); have n2_ := Aside0.mk (hi); clear HK; clear HB; clear HI0; have HK := n0_; have HB := n1_; have HI0 := n2_; clear n0_ n1_ n2_; (try clear hb); (try clear hb2); (try clear hk); (try clear hi); obtain ⟨HGz23, hgz23⟩ := HI0.out; have hcz23_0 := cellS167_0 HGz23; have hcz23_1 := cellS167_1 HGz23; have hcz23_2 := cellS167_2 HGz23; have hcz23_3 := cellS167_3 HGz23; have hfz23_0 := blk_frozen HGz23 0; have hfz23_1 := blk_frozen HGz23 1; have hfz23_2 := blk_frozen HGz23 2; have hfz23_3 := blk_frozen HGz23 3; clear HGz23 hgz23)))
              go_ret
              exact ⟨by first | rfl | (simp [errW_none, errW_some] <;> rfl) | (simp [*, errW_none, errW_some] <;> rfl), by repeat (first | (with_reducible first | exact HI0.out | apply IsS167.alloc | apply IsS167.drewN | apply IsS167.drew | apply IsS167.set_0 | apply IsS167.set_1 | apply IsS167.set_2 | apply IsS167.set_3) | exact HI0.out), by repeat (first | (with_reducible first | exact HB.out | apply below_alloc | apply pw_below_drewN | apply below_drew1 | refine below_set ?_ (IsS167.ge HI0.out)) | exact HB.out), by repeat (first | (with_reducible first | exact HK.out | apply KeepBut.set_ | apply keep_drewN | apply keep_drew | apply keep_alloc) | exact HK.out)⟩
            · rw [if_neg c20] at H
              exact absurd H (by simp)
          · rw [if_neg c19] at H
            exact absurd H (by simp)
        · rw [if_neg c18] at H
          exact absurd H (by simp)
end Go.Proofs.Ytfnjbmpolggdeaa.MD
end
section
namespace Go.Proofs.Ytfnjbmpolggdeaa
open Go.RowKit
set_option linter.unusedVariables false
set_option linter.unusedSimpArgs false
def bs (s : ByteArray) : List Nat := s.data.toList.map UInt8.toNat
theorem bs_length (s : ByteArray) : (bs s).length = s.size := by simp [bs]
theorem bs_lt (s : ByteArray) : ∀ x ∈ bs s, x < 256 := by
  intro x hx; simp only [bs, List.mem_map] at hx; obtain ⟨c, _, rfl⟩ := hx; exact c.toNat_lt
def sb (l : List Nat) : ByteArray := ⟨(l.map UInt8.ofNat).toArray⟩
theorem bs_sb {l : List Nat} (h : ∀ x ∈ l, x < 256) : bs (sb l) = l := by
  unfold sb bs; simp only [List.map_map]
  exact (List.map_congr_left (fun x hx => by simp [Nat.mod_eq_of_lt (h x hx)])).trans (List.map_id _)
theorem sb_size (l : List Nat) : (sb l).size = l.length := by simp [sb, ByteArray.size]
def u8s (l : List Nat) : List Value := l.map fun x : Nat => Value.int .u8 (x : Int)
theorem u8s_append (a b : List Nat) : u8s (a ++ b) = u8s a ++ u8s b := by simp [u8s]
theorem u8s_length (a : List Nat) : (u8s a).length = a.length := by simp [u8s]
theorem strOfNums_nats (l : List Nat) : strOfNums (l.map fun x : Nat => (x : Int)) = sb l := by
  simp [strOfNums, sb]
theorem own_str {P : Program} {w : World} {base n : Nat} {e' src dst e : TypeId} {v : Value} {l : List Nat} (hs : P.underlying src = some (.slice e)) (he : P.underlying e = some (.int .u8)) (hd : P.underlying dst = some .string)
    (h : w.ownsRow base e' 1 v n (u8s l)) : (convert src dst v).run P w = .ok (.string (sb l)) w := by
  have hl : l.length = n := by have := h.1; simp [u8s] at this; exact this
  rcases h.2 with ⟨rfl, rfl⟩ | ⟨g, cap, cur, rfl, _⟩
  · obtain rfl : l = [] := List.eq_nil_of_length_eq_zero hl
    exact run_convert_bytes_nil w src e hs he 0 0 dst hd
  · rw [← strOfNums_nats]
    refine run_convert_bytes_arg w src e hs he g 0 n cap (l.map fun x : Nat => (x : Int)) (by simpa using hl) (fun i hi => ?_) dst hd
    have hc := h.cells (g := g) rfl i (.int .u8 ((l.map fun x : Nat => (x : Int)).getD i 0)) (by simp [u8s, List.getElem?_eq_getElem (show i < l.length by omega), List.getD_eq_getElem?_getD])
    have ha : (⟨g, 0, none⟩ : Addr).add i = ⟨g, 0 + i, none⟩ := by unfold Addr.add; split <;> simp_all
    rwa [ha] at hc
end Go.Proofs.Ytfnjbmpolggdeaa
end
section
namespace Go.Proofs.Ytfnjbmpolggdeaa
open Go.RowKit
set_option linter.unusedVariables false
set_option linter.unusedSimpArgs false
def Rd (B : Nat) (w : World) (v : Value) (n : Nat) (xs : List Value) : Prop :=
  ∃ a c, v = .slice a n c ∧ (xs = [] ∨ ∃ b o, a = some ⟨b, o, none⟩ ∧ b < B ∧ ∀ j u, xs[j]? = some u → w.cell? ⟨b, o + j, none⟩ = some u)
theorem Rd.below {B B' : Nat} {w w' : World} {v n xs} (h : Rd B w v n xs) (hb : Below B' w w') (hB : B ≤ B') : Rd B w' v n xs := by
  obtain ⟨a, c, hv, h⟩ := h
  refine ⟨a, c, hv, ?_⟩
  rcases h with h | ⟨b, o, ha, hlt, hc⟩
  · exact .inl h
  · exact .inr ⟨b, o, ha, hlt, fun j u hj => by rw [hb.cell (by simpa using by omega)]; exact hc j u hj⟩
theorem Rd.mono {B B' : Nat} {w : World} {v n xs} (h : Rd B w v n xs) (hB : B ≤ B') : Rd B' w v n xs := by
  obtain ⟨a, c, hv, h⟩ := h
  refine ⟨a, c, hv, ?_⟩
  rcases h with h | ⟨b, o, ha, hlt, hc⟩
  · exact .inl h
  · exact .inr ⟨b, o, ha, by omega, hc⟩
theorem Rd.own {w : World} {base e size n} {v : Value} {xs : List Value} (h : w.ownsRow base e size v n xs) : Rd w.heap.size w v n xs := by
  rcases h.2 with ⟨rfl, rfl⟩ | ⟨g, cap, cur, rfl, hb, hg, _⟩
  · exact ⟨none, 0, rfl, .inl (List.eq_nil_of_length_eq_zero (by have := h.1; omega))⟩
  · refine ⟨_, cap, rfl, .inr ⟨g, 0, rfl, (Array.getElem?_eq_some_iff.1 hg).1, fun j u hj => ?_⟩⟩
    have := h.cells (g := g) rfl j u hj
    have ha : (⟨g, 0, none⟩ : Addr).add j = ⟨g, 0 + j, none⟩ := by unfold Addr.add; split <;> simp_all
    rwa [ha] at this
theorem Rd.nil {B : Nat} {w : World} : Rd B w (.slice none 0 0) 0 [] := ⟨none, 0, rfl, .inl rfl⟩
theorem grown_below {w w' : World} (hb : Below w.heap.size w w') (row : Option Nat) : w.grownBy w' row := ⟨hb.os, hb.tape, hb.output, hb.size, fun k hk _ => hb.block k hk⟩
end Go.Proofs.Ytfnjbmpolggdeaa
end
section
namespace Go.Proofs.Ytfnjbmpolggdeaa
open Go.RowKit Go.Lib
set_option linter.unusedVariables false
set_option linter.unusedSimpArgs false
def mrow (w : World) (base : Nat) (e : TypeId) (v : Value) (n : Nat) (xs : List Value) : Prop :=
  xs.length = n ∧ ((v = .slice none 0 0 ∧ n = 0) ∨
    ∃ g cap cur fr, v = .slice (some ⟨g, 0, none⟩) n cap ∧ base ≤ g ∧ w.heap[g]? = some (.cells cur e fr) ∧ n ≤ cap ∧ cap ≤ maxLen ∧ cur.size = cap ∧ cur.toList.take n = xs ∧ (fr.2 ≤ fr.1 ∨ cap ≤ fr.1))
theorem mrow.nil (w : World) (base : Nat) (e : TypeId) : mrow w base e (.slice none 0 0) 0 [] := ⟨rfl, .inl ⟨rfl, rfl⟩⟩
theorem mrow.mono {w : World} {base base' e n} {v : Value} {xs : List Value} (h : mrow w base e v n xs) (hb : base' ≤ base) : mrow w base' e v n xs := by
  refine ⟨h.1, ?_⟩
  rcases h.2 with h2 | ⟨g, cap, cur, fr, hv, hbg, r⟩
  · exact .inl h2
  · exact .inr ⟨g, cap, cur, fr, hv, Nat.le_trans hb hbg, r⟩
theorem mrow.ge {w : World} {base e n} {v : Value} {xs : List Value} (h : mrow w base e v n xs) : ∀ k, v.ownBlock = some k → base ≤ k ∧ k < w.heap.size := by
  intro k hk
  rcases h.2 with ⟨rfl, _⟩ | ⟨g, cap, cur, fr, rfl, hb, hg, _⟩
  · simp [Value.ownBlock] at hk
  · simp [Value.ownBlock] at hk
    subst hk
    exact ⟨hb, (Array.getElem?_eq_some_iff.1 hg).1⟩
theorem mrow.kept {w w' : World} {row : Option Nat} {base e n} {v : Value} {xs : List Value} (h : mrow w base e v n xs) (hg : w.grownBy w' row) (hne : v.ownBlock = none ∨ v.ownBlock ≠ row) : mrow w' base e v n xs := by
  refine ⟨h.1, ?_⟩
  rcases h.2 with hn | ⟨g, cap, cur, fr, rfl, hb, hgg, rest⟩
  · exact .inl hn
  · refine .inr ⟨g, cap, cur, fr, rfl, hb, ?_, rest⟩
    rw [hg.block g (Array.getElem?_eq_some_iff.1 hgg).1 (by simpa [Value.ownBlock] using hne)]
    exact hgg
theorem mrow.below {w w' : World} {base e n} {v : Value} {xs : List Value} (h : mrow w base e v n xs) (hb : Below w.heap.size w w') : mrow w' base e v n xs :=
  h.kept (grown_below hb none) (by cases v.ownBlock <;> simp)
theorem mrow.rd {w : World} {base e n} {v : Value} {xs : List Value} (h : mrow w base e v n xs) : Rd w.heap.size w v n xs := by
  rcases h.2 with ⟨rfl, rfl⟩ | ⟨g, cap, cur, fr, rfl, hb, hg, _, _, _, ht, _⟩
  · exact ⟨none, 0, rfl, .inl (List.eq_nil_of_length_eq_zero h.1)⟩
  · refine ⟨_, cap, rfl, .inr ⟨g, 0, rfl, (Array.getElem?_eq_some_iff.1 hg).1, fun j u hj => ?_⟩⟩
    rw [← ht, List.getElem?_take] at hj
    split at hj
    · rw [Nat.zero_add, cell_of_row w g j cur e fr hg]; simpa using hj
    · cases hj
section
variable {P : Program}
theorem run_storeCells_m (g o : Nat) (t : TypeId) : ∀ (vs : List Value) (i : Nat) (cur : Array Value) (fr : Nat × Nat) (w : World), w.heap[g]? = some (.cells cur t fr) → o + i + vs.length ≤ cur.size → (fr.2 ≤ fr.1 ∨ cur.size ≤ fr.1) → (∀ v ∈ vs, v.oneCell' = true) →
    (storeCells ⟨g, o, none⟩ vs i).run P w = .ok () (w.setRow g (cur.toList.take (o + i) ++ vs ++ cur.toList.drop (o + i + vs.length)).toArray)
  | [], i, cur, fr, w, hg, _, _, _ => by
    simp only [storeCells, List.append_nil, List.length_nil, Nat.add_zero, List.take_append_drop, Array.toArray_toList]
    rw [setRow_self w g cur t fr hg]
    rfl
  | v :: rest, i, cur, fr, w, hg, hl, hfr, h1 => by
    have hi : o + i < cur.size := by simp at hl; omega
    have hadd : (⟨g, o, none⟩ : Addr).add i = ⟨g, o + i, none⟩ := by unfold Addr.add; split <;> simp_all
    have hcell : w.cell? ⟨g, o + i, none⟩ = some cur[o + i] := by simp [World.cell?, hg, hi]
    have hfro : w.frozen? ⟨g, o + i, none⟩ = false := by simp only [World.frozen?, hg]; simp; omega
    have hst : (store ((⟨g, o, none⟩ : Addr).add i) v).run P w = .ok () (w.setRow g (cur.setIfInBounds (o + i) v)) := by
      rw [hadd, run_store P w _ v _ (h1 v (by simp)), hcell]
      simp [hfro, setCell_eq_setRow w g (o + i) cur t fr v hg]
    have ih := run_storeCells_m g o t rest (i + 1) (cur.setIfInBounds (o + i) v) fr (w.setRow g (cur.setIfInBounds (o + i) v)) (setRow_heap w g cur _ t _ hg) (by simp at hl ⊢; omega) (by simpa using hfr) (fun x hx => h1 x (by simp [hx]))
    simp only [storeCells, Sem.run_bind, hst, Result.andThen_ok, ih, setRow_setRow]
    congr 3
    have e := list_seg_step cur.toList (o + i) v rest (by simp at hl ⊢; omega)
    simpa [Array.toList_setIfInBounds, Nat.add_assoc] using e
theorem grow_m {w : World} {base : Nat} {e : TypeId} {z : Value} (hz1 : z.cells.size = 1) {xs news : List Value} {n m : Nat} (hxl : xs.length = n) (hnl : news.length = m) (h63 : n + m ≤ maxLen) (hbase : base ≤ w.heap.size) (old : Nat) (row : Option Nat) :
    mrow (w.drew.alloc (.cells (xs.toArray ++ news.toArray ++ Builtin.zeroCells z.cells (grownCap w (n + m) old e - (n + m))) e)) base e (.slice (some ⟨w.heap.size, 0, none⟩) (n + m) (grownCap w (n + m) old e)) (n + m) (xs ++ news) ∧
      w.grownBy (w.drew.alloc (.cells (xs.toArray ++ news.toArray ++ Builtin.zeroCells z.cells (grownCap w (n + m) old e - (n + m))) e)) row := by
  have hge := grownCap_ge w (n + m) old e
  have hcm : grownCap w (n + m) old e ≤ maxLen := grownCap_le_maxLen w (n + m) old e h63
  have hlen : (xs ++ news).length = n + m := by rw [List.length_append, hxl, hnl]
  refine ⟨⟨hlen, .inr ⟨w.heap.size, _, _, (0, 0), rfl, hbase, heap_alloc_new w.drew _, hge, hcm, ?_, ?_, .inl (Nat.le_refl _)⟩⟩, ⟨rfl, rfl, rfl, by simp, fun k hk hne => (World.grownBy_alloc w.drew _ row).block k hk hne⟩⟩
  · simp only [Array.size_append, List.size_toArray, size_zeroCells, hz1, hxl, hnl]; omega
  · simp only [Array.toList_append, List.append_assoc]
    rw [← List.append_assoc, ← hlen]
    exact List.take_left
theorem room_m {w : World} {base g n m cap : Nat} {e : TypeId} {cur : Array Value} {fr : Nat × Nat} {xs news : List Value} (hxl : xs.length = n) (hnl : news.length = m) (hbg : base ≤ g) (hg : w.heap[g]? = some (.cells cur e fr)) (hroom : n + m ≤ cap) (hcm : cap ≤ maxLen) (hcs : cur.size = cap) (htake : cur.toList.take n = xs) (hfr : fr.2 ≤ fr.1 ∨ cap ≤ fr.1) :
    mrow (w.setRow g (cur.toList.take n ++ news ++ cur.toList.drop (n + m)).toArray) base e (.slice (some ⟨g, 0, none⟩) (n + m) cap) (n + m) (xs ++ news) ∧
      w.grownBy (w.setRow g (cur.toList.take n ++ news ++ cur.toList.drop (n + m)).toArray) (some g) := by
  have hlen : (xs ++ news).length = n + m := by rw [List.length_append, hxl, hnl]
  refine ⟨⟨hlen, .inr ⟨g, cap, _, fr, rfl, hbg, setRow_heap w g cur _ e _ hg, hroom, hcm, ?_, ?_, hfr⟩⟩, ⟨rfl, rfl, rfl, by simp, fun k _ hk => setRow_other w g k _ (fun e => hk (by simp [e]))⟩⟩
  · simp only [List.size_toArray, List.length_append, List.length_take, List.length_drop, Array.length_toList]; omega
  · rw [htake, ← hlen]
    exact List.take_left
theorem run_append_mrow_str {w : World} (base : Nat) (t u ty e : TypeId) (i : TypeInfo) (ht : P.underlying t = some (.slice e)) (hu : P.underlying u = some .string) (hi : P.info? e = some i) (hz : i.zero = some (.int .u8 0))
    (hsize : i.size = 1) (hby : i.bytes = 1)
    (v : Value) (n : Nat) (xs : List Value) (hown : mrow w base e v n xs) (s : ByteArray)
    (h63 : n + s.size ≤ maxLen) (hbytes : n + s.size ≤ 140737488355328) (hbase : base ≤ w.heap.size) :
    ∃ v' w', (Builtin.append_ #[t, u] ty #[v, .string s]).run P w = .ok v' w' ∧ mrow w' base e v' (n + s.size) (xs ++ strCells s) ∧ w.grownBy w' v.ownBlock ∧ (v'.ownBlock = v.ownBlock ∨ v'.ownBlock = some w.heap.size) := by
  have hsmall : n + s.size ≤ 9223372036854775807 := by simp only [maxLen] at h63; omega
  have hxl := hown.1
  rcases hown.2 with ⟨rfl, rfl⟩ | ⟨g, cap, cur, fr, rfl, hbg, hg, hnc, hcm, hcs, htake, hfr⟩
  · have hx : xs = [] := List.eq_nil_of_length_eq_zero hxl
    subst hx
    by_cases hm : s.size = 0
    · have hn : strCells s = [] := List.eq_nil_of_length_eq_zero (by rw [strCells_length]; exact hm)
      refine ⟨.slice none 0 0, w, ?_, by rw [hm, hn]; exact mrow.nil w base e, ⟨rfl, rfl, rfl, Nat.le_refl _, fun _ _ _ => rfl⟩, .inl rfl⟩
      have hf := run_firstCells_string (P := P) w 1 s
      rw [hm] at hf
      simp [Builtin.append_, run_underlying ht, run_underlying hu, sizeOf, typeInfo, hi, hsize, Builtin.lenOf, hm, hf]
    · have hr := run_append_nil_string (P := P) w t u ty e i (.int .u8 0) ht hu hi hz s (by omega) (by omega) (by rw [hby]; omega)
      have hgr := grow_m (w := w) (base := base) (e := e) (z := .int .u8 0) (xs := []) (n := 0) rfl rfl (strCells_length s) h63 hbase 0 (Value.ownBlock (.slice none 0 0))
      simp only [Nat.zero_add, List.nil_append, Array.empty_append] at hgr ⊢
      have e1 : (s.data.map fun b => Value.int .u8 b.toNat) = (strCells s).toArray := by
        apply Array.ext'
        simp [strCells]
      rw [e1] at hr
      exact ⟨_, _, hr, hgr.1, hgr.2, .inr rfl⟩
  · by_cases hroom : n + s.size ≤ cap
    · have hf := run_firstCells_string (P := P) w 1 s
      have hst := run_storeCells_m (P := P) g n e (strCells s) 0 cur fr w hg (by rw [strCells_length]; omega) (by rw [hcs]; exact hfr) (strCells_oneCell s)
      simp only [Nat.add_zero, strCells_length] at hst
      have hr : (Builtin.append_ #[t, u] ty #[.slice (some ⟨g, 0, none⟩) n cap, .string s]).run P w =
          .ok (.slice (some ⟨g, 0, none⟩) (n + s.size) cap) (w.setRow g (cur.toList.take n ++ strCells s ++ cur.toList.drop (n + s.size)).toArray) := by
        simp [Builtin.append_, run_underlying ht, run_underlying hu, sizeOf, typeInfo, hi, hsize, Builtin.lenOf, hroom, hf, Addr.add_lit, hst]
      obtain ⟨h2, h3⟩ := room_m (base := base) hxl (strCells_length s) hbg hg hroom hcm hcs htake hfr
      exact ⟨_, _, hr, h2, h3, .inl rfl⟩
    · have holds : ∀ j u, xs[j]? = some u → w.cell? ((⟨g, 0, none⟩ : Addr).add j) = some u := by
        intro j u hu
        have hadd : (⟨g, 0, none⟩ : Addr).add j = ⟨g, j, none⟩ := by unfold Addr.add; split <;> simp_all
        rw [hadd, cell_of_row w g j cur e fr hg]
        rw [← htake, List.getElem?_take] at hu
        split at hu
        · simpa using hu
        · cases hu
      have hr := run_append_grow_string (P := P) w t u ty e i (.int .u8 0) ht hu hi hz ⟨g, 0, none⟩ n cap xs (by rw [hsize]; simpa using hxl) holds s (by omega) (by omega) (by rw [hby]; exact growslice_fits (by omega) (by omega))
      obtain ⟨h2, h3⟩ := grow_m (w := w) (base := base) (e := e) (z := .int .u8 0) rfl hxl (strCells_length s) h63 hbase cap (Value.ownBlock (.slice (some ⟨g, 0, none⟩) n cap))
      exact ⟨_, _, hr, h2, h3, .inr rfl⟩
end
end Go.Proofs.Ytfnjbmpolggdeaa
end
section
namespace Go.Proofs.Ytfnjbmpolggdeaa
open Go.RowKit Go.Lib
set_option linter.unusedVariables false
set_option linter.unusedSimpArgs false
def bigB (x : Nat) : Nat → List Nat
  | 0 => []
  | n + 1 => bigB (x / 256) n ++ [x % 256]
theorem bigB_length (n : Nat) : ∀ x, (bigB x n).length = n := by
  induction n with
  | zero => intro x; rfl
  | succ n ih => intro x; simp [bigB, ih]
theorem bigB_lt (n : Nat) : ∀ x, ∀ b ∈ bigB x n, b < 256 := by
  induction n with
  | zero => intro x b hb; simp [bigB] at hb
  | succ n ih =>
    intro x b hb
    simp only [bigB, List.mem_append, List.mem_singleton] at hb
    rcases hb with hb | rfl
    · exact ih _ b hb
    · omega
theorem bigB_get (n : Nat) : ∀ x k, k < n → (bigB x n)[k]? = some (x / 2 ^ (8 * (n - 1 - k)) % 256) := by
  induction n with
  | zero => intro x k hk; omega
  | succ n ih =>
    intro x k hk
    simp only [bigB]
    by_cases h : k < n
    · rw [List.getElem?_append_left (by rw [bigB_length]; exact h), ih _ k h]
      have e : 8 * (n + 1 - 1 - k) = 8 + 8 * (n - 1 - k) := by omega
      rw [e, Nat.pow_add, ← Nat.div_div_eq_div_mul]
    · obtain rfl : k = n := by omega
      rw [List.getElem?_append_right (by rw [bigB_length]; exact Nat.le_refl _), bigB_length]
      simp
theorem strCells_bs (s : ByteArray) : strCells s = u8s (bs s) := by
  unfold strCells u8s bs; rw [List.map_map]; rfl
section
variable {P : Program} {w w0 : World}
theorem conv_bytes {ops : Array Oper} {rest : List Oper} {o : Oper} {a : Act} {Q : Exit → Act → World → Prop} (hgd : o.guard = none) (src dst : TypeId) (x : Operand)
    (ho : o.op = .convert src dst x) (e : TypeId) (hs : P.underlying src = some .string) (hd : P.underlying dst = some (.slice e)) (he : P.underlying e = some (.int .u8))
    (B : Nat) (hbel : Below B w0 w) (str : ByteArray) (hx : a.eval x = .string str) (hn : str.size ≤ 140737488355328) (hB : B ≤ w.heap.size)
    (h : ∀ v' w', mrow w' w.heap.size e v' str.size (u8s (bs str)) → Below B w0 w' → Below w.heap.size w w' → wpList P ops Q rest (a.put o.dst v') w') : wpList P ops Q (o :: rest) a w := by
  have hr := Lib.run_convert_string_bytes (P := P) w src dst e str (u := .string) hs hd he
  have hge := grownCap_ge w str.size 0 e
  have hcm : grownCap w str.size 0 e ≤ maxLen := grownCap_le_maxLen w str.size 0 e (by unfold maxLen; omega)
  have hcs : (Lib.bytesCells w e str).size = grownCap w str.size 0 e := by
    have : str.data.size = str.size := rfl
    simp [Lib.bytesCells, this]; omega
  have hrow : mrow (Lib.bytesWorld w e str) w.heap.size e (.slice (some ⟨w.heap.size, 0, none⟩) str.size (grownCap w str.size 0 e)) str.size (u8s (bs str)) := by
    refine ⟨by rw [u8s_length, bs_length], .inr ⟨w.heap.size, _, _, _, rfl, Nat.le_refl _, Lib.bytesWorld_at_new w e str, hge, hcm, hcs, ?_, .inr (by rw [hcs]; exact Nat.le_refl _)⟩⟩
    rw [← strCells_bs]
    have hl : (strCells str).length = str.size := strCells_length str
    have : (Lib.bytesCells w e str).toList = strCells str ++ List.replicate (grownCap w str.size 0 e - str.size) (.int .u8 0) := by
      simp [Lib.bytesCells, strCells]
    rw [this, ← hl]; exact List.take_left
  have hb : Below w.heap.size w (Lib.bytesWorld w e str) :=
    ⟨by simp [Lib.bytesWorld, World.freeze]; rfl, by simp [Lib.bytesWorld, World.freeze], by simp [Lib.bytesWorld, World.freeze]; rfl, by rw [Lib.bytesWorld_size]; omega, fun k hk => Lib.bytesWorld_at_old w e str k hk⟩
  refine wpList_plain hgd fun K hK => ?_
  unfold Oper.wp execOp
  simp only [ho, hx, Sem.run_bind, hr, Result.andThen_ok, Sem.run_pure]
  exact hK _ _ (h _ _ hrow (hbel.trans (hb.mono hB)) hb)
end
theorem Try.infoB : (Try.prog.info? 5).map (fun i => (i.zero, i.size, i.bytes)) = some (some (.int .u8 0), 1, 1) := by kernel_rfl
set_option maxHeartbeats 1000000 in
set_option maxRecDepth 100000 in
theorem Big_any (x n : Nat) (i : Int) (hi : i = x) (j : Int) (hj : j = n) (w : World) (hx : x < 18446744073709551616) (hn : n ≤ 8) :
    Calls Try.prog 56 #[.int .u64 i, .int .i64 j] w fun e w' => e = .returned (.string (sb (bigB x n))) ∧ Below w.heap.size w w' := by
  subst hi hj
  obtain ⟨i0, hi, hz0, hz1, hz2⟩ := info_parts Try.infoB
  go_enter Try.func56, Try.ntmps56
  go_wp2_with (with_reducible refine wpList_make_full _ rfl _ _ 87 rfl w.heap.size 5 i0 (.int .u8 0) 1 Try.underlying87 hi hz0 hz1 .i64 .i64 n n n rfl rfl rfl rfl (by rw [hz2]; omega) (by unfold maxLen; omega) (Nat.le_refl _) ?_; intro w1 hown hg1)
  have hb1 : Below w.heap.size w w1 := ⟨hg1.os, hg1.tape, hg1.output, hg1.size, fun k hk => hg1.block k hk (by simp)⟩
  have hown0 : w1.ownsRow w.heap.size 5 1 (.slice (some ⟨w.heap.size, 0, none⟩) n n) n (u8s ((bigB x n).take 0) ++ List.replicate (n - 0) (.int .u8 0)) := by
    have e : (madeCells (Value.int IntKind.u8 0).cells (n * 1)).toList = List.replicate n (.int .u8 0) := by rw [Nat.mul_one]; exact toList_madeCells_one _ _
    rw [e] at hown; simpa [u8s] using hown
  clear hown hg1
  go_loopw [11] (fun i wr => ∃ k : Nat, k ≤ n ∧ i = .int .i64 k ∧ wr.ownsRow w.heap.size 5 1 (.slice (some ⟨w.heap.size, 0, none⟩) n n) n (u8s ((bigB x n).take k) ++ List.replicate (n - k) (.int .u8 0)) ∧ Below w.heap.size w wr) (fun i _ => n - (intOf i).toNat)
  case atStart => exact ⟨0, by omega, rfl, hown0, hb1⟩
  case round =>
    obtain ⟨k, hk, rfl, hown, hbel⟩ := hrel
    by_cases hlt : k < n
    · have hlen : (u8s ((bigB x n).take k)).length = k := by rw [u8s_length, List.length_take, bigB_length]; omega
      have hc : wr.cell? ⟨w.heap.size, k, none⟩ = some (.int .u8 0) := by
        rw [hown.cellAt k (by omega), List.getElem?_append_right (by omega), hlen, Nat.sub_self, show n - k = (n - (k + 1)) + 1 by omega, List.replicate_succ]
        rfl
      have hf : wr.frozen? ⟨w.heap.size, k, none⟩ = false := hown.frozenAt k
      obtain ⟨u, hu⟩ : ∃ u, u = x / 2 ^ (8 * (n - 1 - k)) % 256 := ⟨_, rfl⟩
      have hst := hown.stored k (.int .u8 (u : Int))
      have hset : (u8s ((bigB x n).take k) ++ List.replicate (n - k) (Value.int .u8 0)).set k (Value.int .u8 (u : Int)) = u8s ((bigB x n).take (k + 1)) ++ List.replicate (n - (k + 1)) (.int .u8 0) := by
        have e1 : (bigB x n).take (k + 1) = (bigB x n).take k ++ [u] := by
          have hkl : k < (bigB x n).length := by rw [bigB_length]; exact hlt
          rw [List.take_succ_eq_append_getElem hkl]
          have := bigB_get n x k hlt
          rw [List.getElem?_eq_getElem hkl] at this
          rw [Option.some.inj this, hu]
        rw [e1, u8s_append]
        have e2 : List.replicate (n - k) (Value.int .u8 0) = .int .u8 0 :: List.replicate (n - (k + 1)) (.int .u8 0) := by
          rw [show n - k = (n - (k + 1)) + 1 by omega, List.replicate_succ]
        rw [e2, List.set_append_right _ _ (by omega), hlen, Nat.sub_self]
        simp [u8s]
      have HST := Lib.hid hst.1
      have HSET := Lib.hid hset
      have hbel2 : Below w.heap.size w (wr.setCell ⟨w.heap.size, k, none⟩ (.int .u8 (u : Int))) := hbel.setCell (Nat.le_refl _) _
      have hval : ((x : Int) / 2 ^ (8 * (n - 1 - k))) % 256 = (u : Int) := by rw [hu]; simp
      clear hst hset hlen hu
      go_wp2
      go_roundw
      case rel => exact ⟨k + 1, by omega, by go_num, by rw [← HSET.out]; exact HST.out, hbel2⟩
      case measure => simp [intOf]; omega
    · obtain rfl : k = n := by omega
      have hfull : u8s ((bigB x k).take k) ++ List.replicate (k - k) (Value.int .u8 0) = u8s (bigB x k) := by
        rw [List.take_of_length_le (by rw [bigB_length]; exact Nat.le_refl _)]; simp
      rw [hfull] at hown
      have hs := own_str (P := Try.prog) Try.underlying87 Try.underlying5 Try.underlying9 hown
      go_wp2
      go_ret
      exact ⟨rfl, hbel⟩
end Go.Proofs.Ytfnjbmpolggdeaa
end
section
namespace Go.Proofs.Ytfnjbmpolggdeaa.MD
open Go.RowKit Go.Proofs.YtfnjbmpolggdeaaW.PrintWords Go.Lib
set_option linter.unusedVariables false
set_option linter.unusedSimpArgs false
def numB (l : List Nat) : Nat := l.foldl (fun x b => x * 256 + b) 0
theorem numB_snoc (l : List Nat) (b : Nat) : numB (l ++ [b]) = numB l * 256 + b := by simp [numB]
theorem foldl_lt (l : List Nat) (h : ∀ b ∈ l, b < 256) : ∀ x m, x < m → l.foldl (fun x b => x * 256 + b) x < m * 256 ^ l.length := by
  induction l with
  | nil => intro x m hx; simpa using hx
  | cons b l ih =>
    intro x m hx
    have hb := h b (by simp)
    have := ih (fun y hy => h y (by simp [hy])) (x * 256 + b) (m * 256) (by omega)
    rw [List.foldl_cons, List.length_cons, Nat.pow_succ, Nat.mul_comm (256 ^ l.length) 256, ← Nat.mul_assoc]
    exact this
theorem numB_lt (l : List Nat) (h : ∀ b ∈ l, b < 256) : numB l < 256 ^ l.length := by
  have := foldl_lt l h 0 1 (by omega); simpa [numB] using this
theorem i64_or_nat (a b : Nat) (ha : a < 9223372036854775808) (hb : b < 9223372036854775808) : bits .or .i64 (a : Int) (b : Int) = ((a ||| b : Nat) : Int) := by
  have hx : a ||| b < 2 ^ 63 := Nat.or_lt_two_pow (by omega) (by omega)
  show IntKind.i64.wrap ((BitVec.ofInt 64 (a : Int) ||| BitVec.ofInt 64 (b : Int)).toNat : Int) = _
  rw [BitVec.toNat_or, ofInt_u64 a (by omega), ofInt_u64 b (by omega)]
  simp only [IntKind.wrap, IntKind.bits, IntKind.signed]
  simp
  omega
theorem or_i64 (a b : Nat) (ha : a < 4294967296) (hb : b < 256) : bits BinOp.or IntKind.i64 ((a : Int) * 256) (b : Int) = ((a * 256 + b : Nat) : Int) := by
  have := i64_or_nat (a * 256) b (by omega) (by omega)
  rw [nat_join 8 (a * 256) b (by omega) (by omega)] at this
  simpa using this
def pool_Reader_Num.f (s0_0 : ByteArray) (s0_1 : Int) (s0_2 : Int) (s0_3 : Int) (a1 : Int) : Option (Int × ByteArray × Int × Int × Int) :=
  (pool_Reader_Take.f s0_0 s0_1 s0_2 s0_3 a1).bind fun t => if t.1.size ≤ 4 then some ((numB (bs t.1) : Nat), t.2.1, t.2.2.1, t.2.2.2.1, t.2.2.2.2) else none
set_option maxHeartbeats 2000000 in
set_option maxRecDepth 100000 in
theorem pool_Reader_Num.calls (g : Nat) (s0_0 : ByteArray) (s0_1 : Int) (s0_2 : Int) (s0_3 : Int) (a1 : Int) (r1 : Int) (r2 : ByteArray) (r3 : Int) (r4 : Int) (r5 : Int) (w0 w : World) (hI : IsS167 w0 w g s0_0 s0_1 s0_2 s0_3) (hB : Below w0.heap.size w0 w) (h : pool_Reader_Num.f s0_0 s0_1 s0_2 s0_3 a1 = some (r1, r2, r3, r4, r5)) :
    Calls Try.prog 68 #[.pointer (some ⟨g, 0, none⟩), .int .i64 a1] w fun e w' => e = .returned (.int .i64 r1) ∧ IsS167 w0 w' g r2 r3 r4 r5 ∧ Below w0.heap.size w0 w' ∧ KeepBut w w' g none := by
  unfold pool_Reader_Num.f at h
  cases hT : pool_Reader_Take.f s0_0 s0_1 s0_2 s0_3 a1 with
  | none => rw [hT] at h; cases h
  | some t =>
  obtain ⟨t, x1, x2, x3, x4⟩ := t
  rw [hT] at h
  simp only [Option.bind_some] at h
  split at h
  · rename_i htz
    injection h with h; injection h with h1 h; injection h with h2 h; injection h with h3 h; injection h with h4 h5
    subst h1 h2 h3 h4 h5
    have HT := Lib.hid hT
    clear hT
    go_enter Try.func68, Try.ntmps68
    go_wp2_with fail
    refine (pool_Reader_Take.calls g s0_0 s0_1 s0_2 s0_3 a1 t x1 x2 x3 x4 w0 w hI hB HT.out).mono ?_
    rintro e w1 ⟨rfl, h1, hB1, hk1⟩
    go_wp2_with ((with_reducible refine conv_bytes rfl 9 87 _ rfl 5 Try.underlying9 Try.underlying87 Try.underlying5 w1.heap.size (Below.refl w1.heap.size w1) t rfl (by omega) (Nat.le_refl _) ?_); intro v2 w2 hown2 hbel2 hb2; obtain ⟨a, c, rfl, hrd2⟩ := hown2.rd)
    have h2 := h1.below hb2
    have hB2 := below_then hB1 (hB1.size) hb2
    have hk2 := KeepBut.trans hk1 (KeepBut.of_below hb2 g none) (.inl rfl)
    clear hown2 hbel2 h1 hk1 hI hB hB1 hb2
    go_loopw [5, 13] (fun v i wr => ∃ (k : Nat), k ≤ t.size ∧ i = .int .i64 k ∧ v = .int .i64 (numB ((bs t).take k) : Nat) ∧ wr = w2) (fun _ i _ => t.size - (intOf i).toNat)
    case atStart => exact ⟨0, by omega, rfl, rfl, rfl⟩
    case round =>
      obtain ⟨k, hk, rfl, rfl, rfl⟩ := hrel
      by_cases hlt : k < t.size
      · rcases hrd2 with hr2 | ⟨b, o, rfl, hbB, hcell⟩
        · have : (u8s (bs t)).length = 0 := by rw [hr2]; rfl
          rw [u8s_length, bs_length] at this; omega
        have hkl : k < (bs t).length := by rw [bs_length]; exact hlt
        have hc : wr.cell? ⟨b, o + k, none⟩ = some (.int .u8 ((bs t)[k] : Nat)) := hcell k _ (by simp [u8s, hkl])
        have hsn : numB ((bs t).take (k + 1)) = numB ((bs t).take k) * 256 + (bs t)[k] := by rw [List.take_succ_eq_append_getElem hkl, numB_snoc]
        have hlt2 : numB ((bs t).take k) < 4294967296 := by
          have h3 := numB_lt ((bs t).take k) (fun b hb => bs_lt t b (List.mem_of_mem_take hb))
          exact Nat.lt_of_lt_of_le h3 (Nat.pow_le_pow_right (by decide) (by rw [List.length_take]; omega) : 256 ^ ((bs t).take k).length ≤ 256 ^ 4)
        have hb := bs_lt t (bs t)[k] (List.getElem_mem _)
        have HSN := Lib.hid hsn
        clear hcell hsn
        generalize (bs t)[k] = bb at *
        generalize numB ((bs t).take k) = acc at *
        have hor := or_i64 acc bb hlt2 hb
        go_wp2
        go_roundw
        case rel => exact ⟨k + 1, by omega, by go_num, by rw [HSN.out]; simp, trivial⟩
        case measure => simp [intOf]; omega
      · obtain rfl : k = t.size := by omega
        have htk : (bs t).take t.size = bs t := List.take_of_length_le (by rw [bs_length]; exact Nat.le_refl _)
        rw [htk]
        clear htk
        go_wp2
        go_ret
        exact ⟨rfl, h2, hB2, hk2⟩
  · cases h
end Go.Proofs.Ytfnjbmpolggdeaa.MD
end
section
namespace Go.Proofs.Ytfnjbmpolggdeaa.MD
open Go.RowKit Go.Lib Go.Proofs.YtfnjbmpolggdeaaW.PrintWords Go.Proofs.YtfnjbmpolggdeaaW.PrintLast Go.Proofs.YtfnjbmpolggdeaaW.PrintMore
set_option linter.unusedVariables false
set_option linter.unusedSimpArgs false
abbrev RdS := Int × Int × Int
def OKR (s : ByteArray) (t : RdS) : Prop := 0 ≤ t.1 ∧ t.1 ≤ (s.size : Int) ∧ s.size ≤ 65535
def failR (t : RdS) (e p : Int) : RdS := if t.2.1 = 0 then (t.1, e, p) else t
def numR (s : ByteArray) (t : RdS) (n : Nat) : Int × RdS :=
  if t.2.1 ≠ 0 then (0, t) else if (n : Int) > (s.size : Int) - t.1 then (0, (t.1, 1, (s.size : Int))) else (((numB (((bs s).drop t.1.toNat).take n) : Nat) : Int), (t.1 + n, t.2.1, t.2.2))
theorem OKR.num {s : ByteArray} {t : RdS} (h : OKR s t) (n : Nat) : OKR s (numR s t n).2 := by
  obtain ⟨h0, h1, h2⟩ := h
  unfold numR
  split
  · exact ⟨h0, h1, h2⟩
  · split
    · exact ⟨h0, h1, h2⟩
    · refine ⟨?_, ?_, h2⟩
      · show 0 ≤ t.1 + (n : Int); omega
      · show t.1 + (n : Int) ≤ _; omega
theorem OKR.fail {s : ByteArray} {t : RdS} (h : OKR s t) (e p : Int) : OKR s (failR t e p) := by
  unfold failR
  split
  · exact h
  · exact h
theorem num_range (s : ByteArray) (t : RdS) (n : Nat) (hn : n ≤ 4) : 0 ≤ (numR s t n).1 ∧ (numR s t n).1 < ((256 ^ n : Nat) : Int) := by
  have hp : (0 : Int) < ((256 ^ n : Nat) : Int) := Int.ofNat_lt.2 (Nat.pow_pos (by decide))
  unfold numR
  split
  · exact ⟨Int.le_refl _, hp⟩
  · split
    · exact ⟨Int.le_refl _, hp⟩
    · refine ⟨Int.natCast_nonneg _, ?_⟩
      have h1 := numB_lt (((bs s).drop t.1.toNat).take n) (fun b hb => bs_lt s b (List.mem_of_mem_drop (List.mem_of_mem_take hb)))
      have h2 : 256 ^ (((bs s).drop t.1.toNat).take n).length ≤ 256 ^ n := Nat.pow_le_pow_right (by decide) (by rw [List.length_take]; omega)
      have h3 := Nat.lt_of_lt_of_le h1 h2
      exact Int.ofNat_lt.2 h3
theorem bs_ext (s : ByteArray) (a b : Nat) : bs (s.extract a b) = ((bs s).drop a).take (b - a) := by
  unfold bs
  rw [ByteArray.data_extract]
  simp [List.map_drop, List.map_take, Array.toList_extract, List.extract_eq_take_drop]
def RI (w0 W : World) (g : Nat) (s : ByteArray) (t : RdS) : Prop := IsS167 w0 W g s t.1 t.2.1 t.2.2 ∧ Below w0.heap.size w0 W
theorem RI.below {w0 W W1 : World} {g : Nat} {s : ByteArray} {t : RdS} (h : RI w0 W g s t) (hb : Below W.heap.size W W1) : RI w0 W1 g s t := ⟨h.1.below hb, below_then h.2 h.2.size hb⟩
theorem RI.lt {w0 W : World} {g : Nat} {s : ByteArray} {t : RdS} (h : RI w0 W g s t) : g < W.heap.size := h.1.lt
theorem RI.ge {w0 W : World} {g : Nat} {s : ByteArray} {t : RdS} (h : RI w0 W g s t) : w0.heap.size ≤ g := h.1.ge
def RPost (w0 w : World) (g : Nat) (s : ByteArray) (t : RdS) (v : Value) (e : Ending) (w' : World) : Prop := e = .returned v ∧ RI w0 w' g s t ∧ KeepBut w w' g none
theorem take_eq {s : ByteArray} {t : RdS} (h : OKR s t) (n : Nat) (hn : n ≤ 4) : pool_Reader_Num.f s t.1 t.2.1 t.2.2 (n : Int) = some ((numR s t n).1, s, (numR s t n).2.1, (numR s t n).2.2.1, (numR s t n).2.2.2) := by
  obtain ⟨h0, h1, h2⟩ := h
  obtain ⟨at_, er, es⟩ := t
  dsimp only at h0 h1
  have hz : (⟨#[]⟩ : ByteArray).size ≤ 4 := by decide
  have hnb : numB (bs (⟨#[]⟩ : ByteArray)) = 0 := by decide
  unfold pool_Reader_Num.f pool_Reader_Take.f pool_Reader_Bad.f pool_Reader_Left.f pool_Reader_Fail.f numR
  dsimp only
  simp only [Option.bind_some]
  by_cases he : er = 0
  · subst he
    have e1 : ((0 : Int) != 0) = false := by decide
    have e2 : wrap64 ((s.size : Int) - at_) = (s.size : Int) - at_ := by rw [← i64_w, IntKind.wrap_i64]; omega
    rw [if_neg (by rw [e1]; decide), if_neg (by omega), e2, if_neg (show ¬ ((0 : Int) ≠ 0) from fun h => h rfl)]
    by_cases hc : (n : Int) > (s.size : Int) - at_
    · rw [if_pos hc, if_pos hc, if_pos rfl, Option.bind_some, Option.bind_some, if_pos hz, hnb]; rfl
    · rw [if_neg hc, if_neg hc]
      have e3 : wrap64 (at_ + (n : Int)) = at_ + (n : Int) := by rw [← i64_w, IntKind.wrap_i64]; omega
      have e4 : (at_ + (n : Int)).toNat - at_.toNat = n := by omega
      have e5 : (s.extract at_.toNat (at_ + (n : Int)).toNat).size ≤ 4 := by rw [← bs_length, bs_ext, List.length_take]; omega
      rw [e3, if_pos h0, if_pos (by omega), if_pos (by omega), Option.bind_some, if_pos e5, bs_ext, e4]
  · have e1 : (er != 0) = true := bne_iff_ne.2 he
    rw [if_pos e1, if_pos he, Option.bind_some, if_pos hz, hnb]; rfl
theorem num_any (w0 w : World) (g : Nat) (s : ByteArray) (t : RdS) (n : Nat) (j : Int) (hj : j = n) (hn : n ≤ 4) (ht : OKR s t) (hI : RI w0 w g s t) :
    Calls Try.prog 68 #[.pointer (some ⟨g, 0, none⟩), .int .i64 j] w (RPost w0 w g s (numR s t n).2 (.int .i64 (numR s t n).1)) := by
  subst hj
  refine (pool_Reader_Num.calls g s t.1 t.2.1 t.2.2 n _ _ _ _ _ w0 w hI.1 hI.2 (take_eq ht n hn)).mono ?_
  rintro e w' ⟨h1, h2, h3, h4⟩
  exact ⟨h1, ⟨h2, h3⟩, h4⟩
theorem at_any (w0 w : World) (g : Nat) (s : ByteArray) (t : RdS) (hI : RI w0 w g s t) :
    Calls Try.prog 66 #[.pointer (some ⟨g, 0, none⟩)] w (RPost w0 w g s t (.int .i64 t.1)) := by
  refine (pool_Reader_At.calls g s t.1 t.2.1 t.2.2 _ _ _ _ _ w0 w hI.1 hI.2 rfl).mono ?_
  rintro e w' ⟨h1, h2, h3, h4⟩
  exact ⟨h1, ⟨h2, h3⟩, h4⟩
theorem bad_any (w0 w : World) (g : Nat) (s : ByteArray) (t : RdS) (hI : RI w0 w g s t) :
    Calls Try.prog 70 #[.pointer (some ⟨g, 0, none⟩)] w (RPost w0 w g s t (.bool (t.2.1 != 0))) := by
  refine (pool_Reader_Bad.calls g s t.1 t.2.1 t.2.2 _ _ _ _ _ w0 w hI.1 hI.2 rfl).mono ?_
  rintro e w' ⟨h1, h2, h3, h4⟩
  exact ⟨h1, ⟨h2, h3⟩, h4⟩
theorem left_any (w0 w : World) (g : Nat) (s : ByteArray) (t : RdS) (ht : OKR s t) (hI : RI w0 w g s t) :
    Calls Try.prog 72 #[.pointer (some ⟨g, 0, none⟩)] w (RPost w0 w g s t (.int .i64 ((s.size : Int) - t.1))) := by
  refine (pool_Reader_Left.calls g s t.1 t.2.1 t.2.2 _ _ _ _ _ w0 w hI.1 hI.2 rfl).mono ?_
  rintro e w' ⟨h1, h2, h3, h4⟩
  refine ⟨h1.trans ?_, ⟨h2, h3⟩, h4⟩
  rw [show wrap64 ((s.size : Int) - t.1) = (s.size : Int) - t.1 by rw [← i64_w, IntKind.wrap_i64]; have := ht.1; have := ht.2.1; have := ht.2.2; omega]
theorem fail_any (w0 w : World) (g : Nat) (s : ByteArray) (t : RdS) (e p : Int) (hI : RI w0 w g s t) :
    Calls Try.prog 73 #[.pointer (some ⟨g, 0, none⟩), .int .i64 e, .int .i64 p] w (RPost w0 w g s (failR t e p) (.tuple #[])) := by
  have hf : pool_Reader_Fail.f s t.1 t.2.1 t.2.2 e p = some (s, (failR t e p).1, (failR t e p).2.1, (failR t e p).2.2) := by
    unfold pool_Reader_Fail.f failR
    split <;> rfl
  refine (pool_Reader_Fail.calls g s t.1 t.2.1 t.2.2 e p _ _ _ _ w0 w hI.1 hI.2 hf).mono ?_
  rintro e w' ⟨h1, h2, h3, h4⟩
  exact ⟨h1, ⟨h2, h3⟩, h4⟩
theorem err_any (w0 w : World) (g : Nat) (s : ByteArray) (t : RdS) (hI : RI w0 w g s t) :
    Calls Try.prog 65 #[.pointer (some ⟨g, 0, none⟩)] w (RPost w0 w g s t (.tuple #[.int .i64 t.2.1, .int .i64 t.2.2])) := by
  refine (pool_Reader_Err.calls g s t.1 t.2.1 t.2.2 _ _ _ _ _ _ w0 w hI.1 hI.2 rfl).mono ?_
  rintro e w' ⟨h1, h2, h3, h4⟩
  exact ⟨h1, ⟨h2, h3⟩, h4⟩
theorem keep_tr {w w1 w2 : World} {g : Nat} (h : KeepBut w w1 g none) (k : KeepBut w1 w2 g none) : KeepBut w w2 g none :=
  ⟨Nat.le_trans h.1 k.1, fun i hi hg hr => (k.2 i (Nat.lt_of_lt_of_le hi h.1) hg hr).trans (h.2 i hi hg hr)⟩
end Go.Proofs.Ytfnjbmpolggdeaa.MD
end
section
namespace Go.Proofs.Ytfnjbmpolggdeaa.MD
open Go.RowKit Go.Proofs.YtfnjbmpolggdeaaW.PrintWords Go.Proofs.YtfnjbmpolggdeaaW.PrintLast Go.Proofs.YtfnjbmpolggdeaaW.PrintMore
attribute [local go_sem] max2_int min2_int max_two min_two max_three min_three max_four min_four   -- for this text's walks alone
set_option linter.unusedVariables false
set_option linter.unusedSimpArgs false
def pool_Is.f (l0 : List (S37)) (a1 : Int) (a2 : Int) : Option (Bool) := if (wrap64 (a1)) < (l0.length : Int) then (if a1 > 0 then (if 0 ≤ a1 then (if a1 < (l0.length : Int) then (some (((rd_T37 l0 a1).f0) == a2)) else (none)) else (none)) else (some false)) else (some false)
set_option maxHeartbeats 8000000 in
set_option maxRecDepth 100000 in
theorem pool_Is.calls (A0 : Option Addr) (c0 : Nat) (l0 : List (S37)) (a1 : Int) (a2 : Int) (r : Bool) (w : World) (hr0 : Kd.C k37 w A0 l0.length l0) (hc0 : l0.length ≤ c0) (h : pool_Is.f l0 a1 a2 = some r) :
    Calls Try.prog 133 #[.slice A0 l0.length c0, .int .u16 a1, .int .u8 a2] w fun e w' => e = .returned (.bool r) ∧ Drawn0 w w' := by
  have HR0 := Aside0.mk hr0
  have HC0 := Aside0.mk hc0
  clear hr0 hc0
  have H : (if (wrap64 (a1)) < (l0.length : Int) then (if a1 > 0 then (if 0 ≤ a1 then (if a1 < (l0.length : Int) then (some (((rd_T37 l0 a1).f0) == a2)) else (none)) else (none)) else (some false)) else (some false)) = some r := h
  clear h
  by_cases c4 : (wrap64 (a1)) < (l0.length : Int)
  · rw [if_pos c4] at H
    have c4b0 : decide ((wrap64 (a1)) < (l0.length : Int)) = true := decide_eq_true c4
    clear c4
    by_cases c5 : a1 > 0
    · rw [if_pos c5] at H
      have c5b0 : decide (0 < a1) = true := decide_eq_true c5
      clear c5
      by_cases c6 : 0 ≤ a1
      · rw [if_pos c6] at H
        have c6b0 : decide (0 ≤ a1) = true := decide_eq_true c6
        clear c6
        by_cases c7 : a1 < (l0.length : Int)
        · rw [if_pos c7] at H
          have c7b0 : decide (a1 < (l0.length : Int)) = true := decide_eq_true c7
          clear c7
          obtain rfl := Option.some.inj H
          have p125 : 0 ≤ (a1 : Int) := of_decide_eq_true (by first | (with_reducible assumption) | assumption)
          have q125 : a1 < (l0.length : Int) := of_decide_eq_true (by first | (with_reducible assumption) | assumption)
          obtain ⟨ad125, e125, hx125_0, hx125_1, hx125_2, hx125_3, hx125_4⟩ := at_T37 HR0.out a1 p125 q125
          cases e125
          replace p125 := eq_true p125
          replace q125 := eq_true q125
          go_enter Try.func133, Try.ntmps133
          go_wp2
          go_ret
          exact ⟨by first | rfl | (simp; done) | (simp [*]; done), by repeat (first | exact Drawn0.refl _ | apply Drawn0.step)⟩
        · rw [if_neg c7] at H
          exact absurd H (by simp)
      · rw [if_neg c6] at H
        exact absurd H (by simp)
    · rw [if_neg c5] at H
      have c5b0 : decide (0 < a1) = false := decide_eq_false c5
      clear c5
      obtain rfl := Option.some.inj H
      go_enter Try.func133, Try.ntmps133
      go_wp2
      go_ret
      exact ⟨by first | rfl | (simp; done) | (simp [*]; done), by repeat (first | exact Drawn0.refl _ | apply Drawn0.step)⟩
  · rw [if_neg c4] at H
    have c4b0 : decide ((wrap64 (a1)) < (l0.length : Int)) = false := decide_eq_false c4
    clear c4
    obtain rfl := Option.some.inj H
    go_enter Try.func133, Try.ntmps133
    go_wp2
    go_ret
    exact ⟨by first | rfl | (simp; done) | (simp [*]; done), by repeat (first | exact Drawn0.refl _ | apply Drawn0.step)⟩
end Go.Proofs.Ytfnjbmpolggdeaa.MD
end
section
namespace Go.Proofs.Ytfnjbmpolggdeaa.MD
open Go.RowKit Go.Proofs.YtfnjbmpolggdeaaW.PrintWords Go.Proofs.YtfnjbmpolggdeaaW.PrintLast Go.Proofs.YtfnjbmpolggdeaaW.PrintMore
attribute [local go_sem] max2_int min2_int max_two min_two max_three min_three max_four min_four   -- for this text's walks alone
set_option linter.unusedVariables false
set_option linter.unusedSimpArgs false
def pool_String.f (l0 : List (S37)) (a1 : Int) : Option (ByteArray) := (pool_Is.f l0 a1 1).bind fun t126 => (if t126 = true then (if 0 ≤ a1 then (if a1 < (l0.length : Int) then (some ((rd_T37 l0 a1).f1)) else (none)) else (none)) else (some (⟨#[]⟩ : ByteArray)))
set_option maxHeartbeats 8000000 in
set_option maxRecDepth 100000 in
theorem pool_String.calls (A0 : Option Addr) (c0 : Nat) (l0 : List (S37)) (a1 : Int) (r : ByteArray) (w : World) (hr0 : Kd.C k37 w A0 l0.length l0) (hc0 : l0.length ≤ c0) (h : pool_String.f l0 a1 = some r) :
    Calls Try.prog 134 #[.slice A0 l0.length c0, .int .u16 a1] w fun e w' => e = .returned (.string r) ∧ Drawn0 w w' := by
  have HR0 := Aside0.mk hr0
  have HC0 := Aside0.mk hc0
  clear hr0 hc0
  have H : ((pool_Is.f l0 a1 1).bind fun t126 => (if t126 = true then (if 0 ≤ a1 then (if a1 < (l0.length : Int) then (some ((rd_T37 l0 a1).f1)) else (none)) else (none)) else (some (⟨#[]⟩ : ByteArray)))) = some r := h
  clear h
  replace H := Option.bind_eq_some_iff.mp H
  obtain ⟨t126, A30, H⟩ := H
  replace H : (if t126 = true then (if 0 ≤ a1 then (if a1 < (l0.length : Int) then (some ((rd_T37 l0 a1).f1)) else (none)) else (none)) else (some (⟨#[]⟩ : ByteArray))) = some r := H
  have A3 := Aside0.mk A30
  clear A30
  by_cases c4 : t126 = true
  · subst c4
    have H1 : (if 0 ≤ a1 then (if a1 < (l0.length : Int) then (some ((rd_T37 l0 a1).f1)) else (none)) else (none)) = some r := by rw [if_pos rfl] at H; exact H
    clear H
    have H := H1
    clear H1
    by_cases c5 : 0 ≤ a1
    · rw [if_pos c5] at H
      have c5b0 : decide (0 ≤ a1) = true := decide_eq_true c5
      clear c5
      by_cases c6 : a1 < (l0.length : Int)
      · rw [if_pos c6] at H
        have c6b0 : decide (a1 < (l0.length : Int)) = true := decide_eq_true c6
        clear c6
        obtain rfl := Option.some.inj H
        go_enter Try.func134, Try.ntmps134
        go_wp2_with (first | ((with_reducible refine gate_callee (f := 133) rfl ?_); refine goesL_ (some 7) rfl rfl Try.func133 (by kernel_rfl) rfl #[.slice A0 l0.length c0, .int .u16 a1, .int .u8 1] rfl (by (try simp only [List.map_toArray, List.map_cons, List.map_nil]); first | done | rfl | (simp only [List.length_drop, List.length_take]; rfl)) ?_; (with_reducible refine (pool_Is.calls _ _ l0 a1 1 true _ ?side1 ?side2 A3.out).mono ?_); (case side1 => repeat (first | exact HR0.out | (with_reducible refine Kd.C_alloc ?_ _) | (with_reducible refine Kd.C_drewN ?_ _) | (with_reducible refine Kd.C_drew ?_))); (case side2 => exact HC0.out); rintro e w' ⟨rfl, ⟨nd, rfl⟩⟩; refine ⟨_, rfl, ?_⟩; have p127 : 0 ≤ (a1 : Int) := of_decide_eq_true (by first | (with_reducible assumption) | assumption); have q127 : a1 < (l0.length : Int) := of_decide_eq_true (by first | (with_reducible assumption) | assumption); obtain ⟨ad127, e127, hx127_0, hx127_1, hx127_2, hx127_3, hx127_4⟩ := at_T37 HR0.out a1 p127 q127; cases e127; replace p127 := eq_true p127; replace q127 := eq_true q127))
        go_ret
        exact ⟨by first | rfl | (simp; done) | (simp [*]; done), by repeat (first | exact Drawn0.refl _ | apply Drawn0.step)⟩
      · rw [if_neg c6] at H
        exact absurd H (by simp)
    · rw [if_neg c5] at H
      exact absurd H (by simp)
  · replace c4 := Bool.eq_false_iff.mpr c4
    subst c4
    have H1 : (some (⟨#[]⟩ : ByteArray)) = some r := by rw [if_neg (show ¬ (false = true) by decide)] at H; exact H
    clear H
    have H := H1
    clear H1
    obtain rfl := Option.some.inj H
    go_enter Try.func134, Try.ntmps134
    go_wp2_with (first | ((with_reducible refine gate_callee (f := 133) rfl ?_); refine goesL_ (some 7) rfl rfl Try.func133 (by kernel_rfl) rfl #[.slice A0 l0.length c0, .int .u16 a1, .int .u8 1] rfl (by (try simp only [List.map_toArray, List.map_cons, List.map_nil]); first | done | rfl | (simp only [List.length_drop, List.length_take]; rfl)) ?_; (with_reducible refine (pool_Is.calls _ _ l0 a1 1 false _ ?side1 ?side2 A3.out).mono ?_); (case side1 => repeat (first | exact HR0.out | (with_reducible refine Kd.C_alloc ?_ _) | (with_reducible refine Kd.C_drewN ?_ _) | (with_reducible refine Kd.C_drew ?_))); (case side2 => exact HC0.out); rintro e w' ⟨rfl, ⟨nd, rfl⟩⟩; refine ⟨_, rfl, ?_⟩))
    go_ret
    exact ⟨by first | rfl | (simp; done) | (simp [*]; done), by repeat (first | exact Drawn0.refl _ | apply Drawn0.step)⟩
end Go.Proofs.Ytfnjbmpolggdeaa.MD
end
section
namespace Go.Proofs.Ytfnjbmpolggdeaa.MD
open Go.RowKit Go.Proofs.YtfnjbmpolggdeaaW.PrintWords Go.Proofs.YtfnjbmpolggdeaaW.PrintLast Go.Proofs.YtfnjbmpolggdeaaW.PrintMore
attribute [local go_sem] max2_int min2_int max_two min_two max_three min_three max_four min_four   -- for this text's walks alone
set_option linter.unusedVariables false
set_option linter.unusedSimpArgs false
def jvmcoreref1_Is.f (l0 : List (S37)) (a1 : Int) (a2 : Int) : Option (Bool) := if a1 > 0 then (if a1 < (l0.length : Int) then (if 0 ≤ a1 then (some (((rd_T37 l0 a1).f0) == a2)) else (none)) else (some false)) else (some false)
set_option maxHeartbeats 8000000 in
set_option maxRecDepth 100000 in
theorem jvmcoreref1_Is.calls (A0 : Option Addr) (c0 : Nat) (l0 : List (S37)) (a1 : Int) (a2 : Int) (r : Bool) (w : World) (hr0 : Kd.C k37 w A0 l0.length l0) (hc0 : l0.length ≤ c0) (h : jvmcoreref1_Is.f l0 a1 a2 = some r) :
    Calls Try.prog 115 #[.slice A0 l0.length c0, .int .i64 a1, .int .u8 a2] w fun e w' => e = .returned (.bool r) ∧ Drawn0 w w' := by
  have HR0 := Aside0.mk hr0
  have HC0 := Aside0.mk hc0
  clear hr0 hc0
  have H : (if a1 > 0 then (if a1 < (l0.length : Int) then (if 0 ≤ a1 then (some (((rd_T37 l0 a1).f0) == a2)) else (none)) else (some false)) else (some false)) = some r := h
  clear h
  by_cases c4 : a1 > 0
  · rw [if_pos c4] at H
    have c4b0 : decide (0 < a1) = true := decide_eq_true c4
    clear c4
    by_cases c5 : a1 < (l0.length : Int)
    · rw [if_pos c5] at H
      have c5b0 : decide (a1 < (l0.length : Int)) = true := decide_eq_true c5
      clear c5
      by_cases c6 : 0 ≤ a1
      · rw [if_pos c6] at H
        have c6b0 : decide (0 ≤ a1) = true := decide_eq_true c6
        clear c6
        obtain rfl := Option.some.inj H
        have p342 : 0 ≤ (a1 : Int) := of_decide_eq_true (by first | (with_reducible assumption) | assumption)
        have q342 : a1 < (l0.length : Int) := of_decide_eq_true (by first | (with_reducible assumption) | assumption)
        obtain ⟨ad342, e342, hx342_0, hx342_1, hx342_2, hx342_3, hx342_4⟩ := at_T37 HR0.out a1 p342 q342
        cases e342
        replace p342 := eq_true p342
        replace q342 := eq_true q342
        go_enter Try.func115, Try.ntmps115
        go_wp2
        go_ret
        exact ⟨by first | rfl | (simp; done) | (simp [*]; done), by repeat (first | exact Drawn0.refl _ | apply Drawn0.step)⟩
      · rw [if_neg c6] at H
        exact absurd H (by simp)
    · rw [if_neg c5] at H
      have c5b0 : decide (a1 < (l0.length : Int)) = false := decide_eq_false c5
      clear c5
      obtain rfl := Option.some.inj H
      go_enter Try.func115, Try.ntmps115
      go_wp2
      go_ret
      exact ⟨by first | rfl | (simp; done) | (simp [*]; done), by repeat (first | exact Drawn0.refl _ | apply Drawn0.step)⟩
  · rw [if_neg c4] at H
    have c4b0 : decide (0 < a1) = false := decide_eq_false c4
    clear c4
    obtain rfl := Option.some.inj H
    go_enter Try.func115, Try.ntmps115
    go_wp2
    go_ret
    exact ⟨by first | rfl | (simp; done) | (simp [*]; done), by repeat (first | exact Drawn0.refl _ | apply Drawn0.step)⟩
end Go.Proofs.Ytfnjbmpolggdeaa.MD
end
section
namespace Go.Proofs.Ytfnjbmpolggdeaa.MD
open Go.RowKit Go.Proofs.YtfnjbmpolggdeaaW.PrintWords Go.Proofs.YtfnjbmpolggdeaaW.PrintLast Go.Proofs.YtfnjbmpolggdeaaW.PrintMore
attribute [local go_sem] max2_int min2_int max_two min_two max_three min_three max_four min_four   -- for this text's walks alone
set_option linter.unusedVariables false
set_option linter.unusedSimpArgs false
def jvmcoreref1_String.f (l0 : List (S37)) (a1 : Int) : Option (ByteArray × Bool) := (jvmcoreref1_Is.f l0 a1 1).bind fun t343 => (if t343 = true then (if 0 ≤ a1 then (if a1 < (l0.length : Int) then (some ((rd_T37 l0 a1).f1, true)) else (none)) else (none)) else (some ((⟨#[]⟩ : ByteArray), false)))
set_option maxHeartbeats 8000000 in
set_option maxRecDepth 100000 in
theorem jvmcoreref1_String.calls (A0 : Option Addr) (c0 : Nat) (l0 : List (S37)) (a1 : Int) (r1 : ByteArray) (r2 : Bool) (w : World) (hr0 : Kd.C k37 w A0 l0.length l0) (hc0 : l0.length ≤ c0) (h : jvmcoreref1_String.f l0 a1 = some (r1, r2)) :
    Calls Try.prog 136 #[.slice A0 l0.length c0, .int .i64 a1] w fun e w' => e = .returned (.tuple #[.string r1, .bool r2]) ∧ Drawn0 w w' := by
  have HR0 := Aside0.mk hr0
  have HC0 := Aside0.mk hc0
  clear hr0 hc0
  have H : ((jvmcoreref1_Is.f l0 a1 1).bind fun t343 => (if t343 = true then (if 0 ≤ a1 then (if a1 < (l0.length : Int) then (some ((rd_T37 l0 a1).f1, true)) else (none)) else (none)) else (some ((⟨#[]⟩ : ByteArray), false)))) = some (r1, r2) := h
  clear h
  replace H := Option.bind_eq_some_iff.mp H
  obtain ⟨t343, A30, H⟩ := H
  replace H : (if t343 = true then (if 0 ≤ a1 then (if a1 < (l0.length : Int) then (some ((rd_T37 l0 a1).f1, true)) else (none)) else (none)) else (some ((⟨#[]⟩ : ByteArray), false))) = some (r1, r2) := H
  have A3 := Aside0.mk A30
  clear A30
  by_cases c4 : t343 = true
  · subst c4
    have H1 : (if 0 ≤ a1 then (if a1 < (l0.length : Int) then (some ((rd_T37 l0 a1).f1, true)) else (none)) else (none)) = some (r1, r2) := by rw [if_pos rfl] at H; exact H
    clear H
    have H := H1
    clear H1
    by_cases c5 : 0 ≤ a1
    · rw [if_pos c5] at H
      have c5b0 : decide (0 ≤ a1) = true := decide_eq_true c5
      clear c5
      by_cases c6 : a1 < (l0.length : Int)
      · rw [if_pos c6] at H
        have c6b0 : decide (a1 < (l0.length : Int)) = true := decide_eq_true c6
        clear c6
        simp only [Option.some.injEq, Prod.mk.injEq] at H
        obtain ⟨rfl, rfl⟩ := H
        go_enter Try.func136, Try.ntmps136
        go_wp2_with (first | ((with_reducible refine gate_callee (f := 115) rfl ?_); refine goesL_ (some 8) rfl rfl Try.func115 (by kernel_rfl) rfl #[.slice A0 l0.length c0, .int .i64 a1, .int .u8 1] rfl (by (try simp only [List.map_toArray, List.map_cons, List.map_nil]); first | done | rfl | (simp only [List.length_drop, List.length_take]; rfl)) ?_; (with_reducible refine (jvmcoreref1_Is.calls _ _ l0 a1 1 true _ ?side1 ?side2 A3.out).mono ?_); (case side1 => repeat (first | exact HR0.out | (with_reducible refine Kd.C_alloc ?_ _) | (with_reducible refine Kd.C_drewN ?_ _) | (with_reducible refine Kd.C_drew ?_))); (case side2 => exact HC0.out); rintro e w' ⟨rfl, ⟨nd, rfl⟩⟩; refine ⟨_, rfl, ?_⟩; have p344 : 0 ≤ (a1 : Int) := of_decide_eq_true (by first | (with_reducible assumption) | assumption); have q344 : a1 < (l0.length : Int) := of_decide_eq_true (by first | (with_reducible assumption) | assumption); obtain ⟨ad344, e344, hx344_0, hx344_1, hx344_2, hx344_3, hx344_4⟩ := at_T37 HR0.out a1 p344 q344; cases e344; replace p344 := eq_true p344; replace q344 := eq_true q344))
        go_ret2
        exact ⟨by first | rfl | (simp; done) | (simp [*]; done), by repeat (first | exact Drawn0.refl _ | apply Drawn0.step)⟩
      · rw [if_neg c6] at H
        exact absurd H (by simp)
    · rw [if_neg c5] at H
      exact absurd H (by simp)
  · replace c4 := Bool.eq_false_iff.mpr c4
    subst c4
    have H1 : (some ((⟨#[]⟩ : ByteArray), false)) = some (r1, r2) := by rw [if_neg (show ¬ (false = true) by decide)] at H; exact H
    clear H
    have H := H1
    clear H1
    simp only [Option.some.injEq, Prod.mk.injEq] at H
    obtain ⟨rfl, rfl⟩ := H
    go_enter Try.func136, Try.ntmps136
    go_wp2_with (first | ((with_reducible refine gate_callee (f := 115) rfl ?_); refine goesL_ (some 8) rfl rfl Try.func115 (by kernel_rfl) rfl #[.slice A0 l0.length c0, .int .i64 a1, .int .u8 1] rfl (by (try simp only [List.map_toArray, List.map_cons, List.map_nil]); first | done | rfl | (simp only [List.length_drop, List.length_take]; rfl)) ?_; (with_reducible refine (jvmcoreref1_Is.calls _ _ l0 a1 1 false _ ?side1 ?side2 A3.out).mono ?_); (case side1 => repeat (first | exact HR0.out | (with_reducible refine Kd.C_alloc ?_ _) | (with_reducible refine Kd.C_drewN ?_ _) | (with_reducible refine Kd.C_drew ?_))); (case side2 => exact HC0.out); rintro e w' ⟨rfl, ⟨nd, rfl⟩⟩; refine ⟨_, rfl, ?_⟩))
    go_ret2
    exact ⟨by first | rfl | (simp; done) | (simp [*]; done), by repeat (first | exact Drawn0.refl _ | apply Drawn0.step)⟩
end Go.Proofs.Ytfnjbmpolggdeaa.MD
end
section
namespace Go.Proofs.Ytfnjbmpolggdeaa.MD
open Go.RowKit Go.Proofs.YtfnjbmpolggdeaaW.PrintWords Go.Proofs.YtfnjbmpolggdeaaW.PrintLast Go.Proofs.YtfnjbmpolggdeaaW.PrintMore
attribute [local go_sem] max2_int min2_int max_two min_two max_three min_three max_four min_four   -- for this text's walks alone
set_option linter.unusedVariables false
set_option linter.unusedSimpArgs false
def jvmcoreref1_ClassOf.f (l0 : List (S37)) (a1 : Int) : Option (ByteArray × Bool) := (jvmcoreref1_Is.f l0 a1 7).bind fun t345 => (if t345 = true then (if 0 ≤ a1 then (if a1 < (l0.length : Int) then ((jvmcoreref1_String.f l0 (wrap64 ((rd_T37 l0 a1).f3))).bind fun bt347 => (some (bt347.1, bt347.2))) else (none)) else (none)) else (some ((⟨#[]⟩ : ByteArray), false)))
set_option maxHeartbeats 8000000 in
set_option maxRecDepth 100000 in
theorem jvmcoreref1_ClassOf.calls (A0 : Option Addr) (c0 : Nat) (l0 : List (S37)) (a1 : Int) (r1 : ByteArray) (r2 : Bool) (w : World) (hr0 : Kd.C k37 w A0 l0.length l0) (hc0 : l0.length ≤ c0) (h : jvmcoreref1_ClassOf.f l0 a1 = some (r1, r2)) :
    Calls Try.prog 111 #[.slice A0 l0.length c0, .int .i64 a1] w fun e w' => e = .returned (.tuple #[.string r1, .bool r2]) ∧ Drawn0 w w' := by
  have HR0 := Aside0.mk hr0
  have HC0 := Aside0.mk hc0
  clear hr0 hc0
  have H : ((jvmcoreref1_Is.f l0 a1 7).bind fun t345 => (if t345 = true then (if 0 ≤ a1 then (if a1 < (l0.length : Int) then ((jvmcoreref1_String.f l0 (wrap64 ((rd_T37 l0 a1).f3))).bind fun bt347 => (some (bt347.1, bt347.2))) else (none)) else (none)) else (some ((⟨#[]⟩ : ByteArray), false)))) = some (r1, r2) := h
  clear h
  replace H := Option.bind_eq_some_iff.mp H
  obtain ⟨t345, A30, H⟩ := H
  replace H : (if t345 = true then (if 0 ≤ a1 then (if a1 < (l0.length : Int) then ((jvmcoreref1_String.f l0 (wrap64 ((rd_T37 l0 a1).f3))).bind fun bt347 => (some (bt347.1, bt347.2))) else (none)) else (none)) else (some ((⟨#[]⟩ : ByteArray), false))) = some (r1, r2) := H
  have A3 := Aside0.mk A30
  clear A30
  by_cases c4 : t345 = true
  · subst c4
    have H1 : (if 0 ≤ a1 then (if a1 < (l0.length : Int) then ((jvmcoreref1_String.f l0 (wrap64 ((rd_T37 l0 a1).f3))).bind fun bt347 => (some (bt347.1, bt347.2))) else (none)) else (none)) = some (r1, r2) := by rw [if_pos rfl] at H; exact H
    clear H
    have H := H1
    clear H1
    by_cases c5 : 0 ≤ a1
    · rw [if_pos c5] at H
      have c5b0 : decide (0 ≤ a1) = true := decide_eq_true c5
      clear c5
      by_cases c6 : a1 < (l0.length : Int)
      · rw [if_pos c6] at H
        have c6b0 : decide (a1 < (l0.length : Int)) = true := decide_eq_true c6
        clear c6
        replace H := Option.bind_eq_some_iff.mp H
        obtain ⟨⟨t347, t348⟩, A70, H⟩ := H
        replace H : (some (t347, t348)) = some (r1, r2) := H
        have A7 := Aside0.mk A70
        clear A70
        simp only [Option.some.injEq, Prod.mk.injEq] at H
        obtain ⟨rfl, rfl⟩ := H
        go_enter Try.func111, Try.ntmps111
        go_wp2_with (first | ((with_reducible refine gate_callee (f := 115) rfl ?_); refine goesL_ (some 8) rfl rfl Try.func115 (by kernel_rfl) rfl #[.slice A0 l0.length c0, .int .i64 a1, .int .u8 7] rfl (by (try simp only [List.map_toArray, List.map_cons, List.map_nil]); first | done | rfl | (simp only [List.length_drop, List.length_take]; rfl)) ?_; (with_reducible refine (jvmcoreref1_Is.calls _ _ l0 a1 7 true _ ?side1 ?side2 A3.out).mono ?_); (case side1 => repeat (first | exact HR0.out | (with_reducible refine Kd.C_alloc ?_ _) | (with_reducible refine Kd.C_drewN ?_ _) | (with_reducible refine Kd.C_drew ?_))); (case side2 => exact HC0.out); rintro e w' ⟨rfl, ⟨nd, rfl⟩⟩; refine ⟨_, rfl, ?_⟩; have p346 : 0 ≤ (a1 : Int) := of_decide_eq_true (by first | (with_reducible assumption) | assumption); have q346 : a1 < (l0.length : Int) := of_decide_eq_true (by first | (with_reducible assumption) | assumption); obtain ⟨ad346, e346, hx346_0, hx346_1, hx346_2, hx346_3, hx346_4⟩ := at_T37 HR0.out a1 p346 q346; cases e346; replace p346 := eq_true p346; replace q346 := eq_true q346) | ((with_reducible refine gate_callee (f := 136) rfl ?_); refine goesL_ (some 17) rfl rfl Try.func136 (by kernel_rfl) rfl #[.slice (some ad346) l0.length c0, .int .i64 (wrap64 ((rd_T37 l0 a1).f3))] rfl (by (try simp only [List.map_toArray, List.map_cons, List.map_nil]); first | done | rfl | (simp only [List.length_drop, List.length_take]; rfl)) ?_; (with_reducible refine (jvmcoreref1_String.calls _ _ l0 (wrap64 ((rd_T37 l0 a1).f3)) t347 t348 _ ?side1 ?side2 A7.out).mono ?_); (case side1 => repeat (first | exact HR0.out | (with_reducible refine Kd.C_alloc ?_ _) | (with_reducible refine Kd.C_drewN ?_ _) | (with_reducible refine Kd.C_drew ?_))); (case side2 => exact HC0.out); rintro e w' ⟨rfl, ⟨nd, rfl⟩⟩; refine ⟨_, rfl, ?_⟩))
        go_ret2
        exact ⟨by first | rfl | (simp; done) | (simp [*]; done), by repeat (first | exact Drawn0.refl _ | apply Drawn0.step)⟩
      · rw [if_neg c6] at H
        exact absurd H (by simp)
    · rw [if_neg c5] at H
      exact absurd H (by simp)
  · replace c4 := Bool.eq_false_iff.mpr c4
    subst c4
    have H1 : (some ((⟨#[]⟩ : ByteArray), false)) = some (r1, r2) := by rw [if_neg (show ¬ (false = true) by decide)] at H; exact H
    clear H
    have H := H1
    clear H1
    simp only [Option.some.injEq, Prod.mk.injEq] at H
    obtain ⟨rfl, rfl⟩ := H
    go_enter Try.func111, Try.ntmps111
    go_wp2_with (first | ((with_reducible refine gate_callee (f := 115) rfl ?_); refine goesL_ (some 8) rfl rfl Try.func115 (by kernel_rfl) rfl #[.slice A0 l0.length c0, .int .i64 a1, .int .u8 7] rfl (by (try simp only [List.map_toArray, List.map_cons, List.map_nil]); first | done | rfl | (simp only [List.length_drop, List.length_take]; rfl)) ?_; (with_reducible refine (jvmcoreref1_Is.calls _ _ l0 a1 7 false _ ?side1 ?side2 A3.out).mono ?_); (case side1 => repeat (first | exact HR0.out | (with_reducible refine Kd.C_alloc ?_ _) | (with_reducible refine Kd.C_drewN ?_ _) | (with_reducible refine Kd.C_drew ?_))); (case side2 => exact HC0.out); rintro e w' ⟨rfl, ⟨nd, rfl⟩⟩; refine ⟨_, rfl, ?_⟩))
    go_ret2
    exact ⟨by first | rfl | (simp; done) | (simp [*]; done), by repeat (first | exact Drawn0.refl _ | apply Drawn0.step)⟩
end Go.Proofs.Ytfnjbmpolggdeaa.MD
end
section
namespace Go.Proofs.Ytfnjbmpolggdeaa.MD
open Go.RowKit Go.Proofs.YtfnjbmpolggdeaaW.PrintWords
set_option linter.unusedVariables false
set_option linter.unusedSimpArgs false
theorem wr {x : Int} (h0 : -9223372036854775808 ≤ x) (h1 : x < 9223372036854775808) : wrap64 x = x := by unfold wrap64; omega
def okC39 (x : S37) : Prop := (0 ≤ x.f3 ∧ x.f3 < 65536) ∧ (0 ≤ x.f4 ∧ x.f4 < 65536)
def isB (l1 : List S37) (kk t : Int) : Bool := decide (0 < kk) && (decide (kk < (l1.length : Int)) && ((rd_T37 l1 kk).f0 == t))
theorem pool_Is_eq (l1 : List S37) (kk t : Int) (h0 : 0 ≤ kk) (h1 : kk < 65536) : pool_Is.f l1 kk t = some (isB l1 kk t) := by
  have e : wrap64 kk = kk := by unfold wrap64; omega
  unfold pool_Is.f isB
  rw [e]
  by_cases a : kk < (l1.length : Int)
  · rw [if_pos a, decide_eq_true a]
    by_cases b : kk > 0
    · rw [if_pos b, if_pos h0, if_pos a, decide_eq_true (show 0 < kk from b)]; simp
    · rw [if_neg b, decide_eq_false (show ¬ 0 < kk from b)]; simp
  · rw [if_neg a, decide_eq_false a]; simp
theorem rd_mem {l1 : List S37} {i : Int} (h0 : 0 ≤ i) (h1 : i < (l1.length : Int)) : rd_T37 l1 i ∈ l1 := by
  have h : i.toNat < l1.length := by omega
  unfold rd_T37
  rw [List.getD_eq_getElem?_getD, List.getElem?_eq_getElem h]
  exact List.getElem_mem h
theorem isB_range {l1 : List S37} {kk t : Int} (h : isB l1 kk t = true) : 0 < kk ∧ kk < (l1.length : Int) ∧ (rd_T37 l1 kk).f0 = t := by simpa [isB] using h
theorem isB_out {l1 : List S37} {kk t : Int} (h : ¬ (0 < kk ∧ kk < (l1.length : Int))) : isB l1 kk t = false := by
  cases hb : isB l1 kk t with
  | false => rfl
  | true => obtain ⟨a, b, _⟩ := isB_range hb; exact absurd ⟨a, b⟩ h
def strV (l1 : List S37) (kk : Int) : ByteArray := if isB l1 kk 1 = true then (rd_T37 l1 kk).f1 else ⟨#[]⟩
theorem poolStr_eq (l1 : List S37) {kk : Int} (h0 : 0 ≤ kk) (h1 : kk < 65536) : pool_String.f l1 kk = some (strV l1 kk) := by
  unfold pool_String.f strV
  rw [pool_Is_eq l1 kk 1 h0 h1]
  simp only [Option.bind_some]
  by_cases h : isB l1 kk 1 = true
  · obtain ⟨a, b, _⟩ := isB_range h
    rw [if_pos h, if_pos h, if_pos h0, if_pos b]
  · rw [if_neg h, if_neg h]
theorem refIs_eq (l1 : List S37) (kk t : Int) : jvmcoreref1_Is.f l1 kk t = some (isB l1 kk t) := by
  unfold jvmcoreref1_Is.f
  by_cases a : kk > 0
  · rw [if_pos a]
    by_cases b : kk < (l1.length : Int)
    · rw [if_pos b, if_pos (by omega)]
      unfold isB
      rw [decide_eq_true (show 0 < kk from a), decide_eq_true b]; rfl
    · rw [if_neg b, isB_out (fun h => b h.2)]
  · rw [if_neg a, isB_out (fun h => a h.1)]
theorem refStr_eq (l1 : List S37) (kk : Int) : jvmcoreref1_String.f l1 kk = some (strV l1 kk, isB l1 kk 1) := by
  unfold jvmcoreref1_String.f strV
  rw [refIs_eq]
  simp only [Option.bind_some]
  by_cases h : isB l1 kk 1 = true
  · obtain ⟨a, b, _⟩ := isB_range h
    rw [if_pos h, if_pos h, if_pos (by omega), if_pos b, h]
  · rw [if_neg h, if_neg h, show isB l1 kk 1 = false from by simpa using h]
theorem wr16 {x : Int} (h : 0 ≤ x ∧ x < 65536) : wrap64 x = x := wr (by omega) (by omega)
def nameV (l1 : List S37) (A : Int) : ByteArray := if isB l1 A 7 = true then strV l1 (rd_T37 l1 A).f3 else ⟨#[]⟩
theorem refClass_eq {l1 : List S37} (hp : ∀ c ∈ l1, okC39 c) (A : Int) : ∃ b, jvmcoreref1_ClassOf.f l1 A = some (nameV l1 A, b) := by
  unfold jvmcoreref1_ClassOf.f nameV
  rw [refIs_eq]
  simp only [Option.bind_some]
  by_cases h : isB l1 A 7 = true
  · obtain ⟨a, b, _⟩ := isB_range h
    rw [if_pos h, if_pos h, if_pos (by omega), if_pos b, wr16 (hp _ (rd_mem (by omega) b)).1, refStr_eq]
    exact ⟨_, rfl⟩
  · rw [if_neg h, if_neg h]; exact ⟨_, rfl⟩
theorem isB_eq (l1 : List S37) (k : Nat) (t : Int) (h : k < l1.length) : isB l1 (k : Int) t = (decide (0 < k) && ((l1[k]).f0 == t)) := by
  unfold isB rd_T37
  rw [List.getD_eq_getElem?_getD, Int.toNat_natCast, List.getElem?_eq_getElem h, decide_eq_true (show (k : Int) < (l1.length : Int) by omega)]
  simp
end Go.Proofs.Ytfnjbmpolggdeaa.MD
end
section
namespace Go.Proofs.Ytfnjbmpolggdeaa.MD
open Go.RowKit Go.Proofs.YtfnjbmpolggdeaaW.PrintWords Go.Proofs.YtfnjbmpolggdeaaW.PrintLast Go.Proofs.YtfnjbmpolggdeaaW.PrintMore
attribute [local go_sem] max2_int min2_int max_two min_two max_three min_three max_four min_four   -- for this text's walks alone
set_option linter.unusedVariables false
set_option linter.unusedSimpArgs false
def pool_Reader_Index.f (s0_0 : ByteArray) (s0_1 : Int) (s0_2 : Int) (s0_3 : Int) : Option (Int × ByteArray × Int × Int × Int) := (pool_Reader_Num.f s0_0 s0_1 s0_2 s0_3 2).bind fun bt119 => (some (IntKind.u16.wrap (bt119.1), bt119.2.1, bt119.2.2.1, bt119.2.2.2.1, bt119.2.2.2.2))
set_option maxHeartbeats 8000000 in
set_option maxRecDepth 100000 in
theorem pool_Reader_Index.calls (g : Nat) (s0_0 : ByteArray) (s0_1 : Int) (s0_2 : Int) (s0_3 : Int) (r1 : Int) (r2 : ByteArray) (r3 : Int) (r4 : Int) (r5 : Int) (w0 w : World) (hI : IsS167 w0 w g s0_0 s0_1 s0_2 s0_3) (hB : Below w0.heap.size w0 w) (h : pool_Reader_Index.f s0_0 s0_1 s0_2 s0_3 = some (r1, r2, r3, r4, r5)) :
    Calls Try.prog 98 #[.pointer (some ⟨g, 0, none⟩)] w fun e w' => e = .returned (.int .u16 r1) ∧ IsS167 w0 w' g r2 r3 r4 r5 ∧ Below w0.heap.size w0 w' ∧ KeepBut w w' g none := by
  have HI0 := Aside0.mk hI
  have HK := Aside0.mk (KeepBut.refl w g none)
  have HL := Aside0.mk hB.size
  clear hI
  have HW0 := Aside0.mk hB.size
  have HB := Aside0.mk hB
  clear hB
  have H : ((pool_Reader_Num.f s0_0 s0_1 s0_2 s0_3 2).bind fun bt119 => (some (IntKind.u16.wrap (bt119.1), bt119.2.1, bt119.2.2.1, bt119.2.2.2.1, bt119.2.2.2.2))) = some (r1, r2, r3, r4, r5) := h
  clear h
  replace H := Option.bind_eq_some_iff.mp H
  obtain ⟨⟨t119, t120, t121, t122, t123⟩, A20, H⟩ := H
  replace H : (some (IntKind.u16.wrap (t119), t120, t121, t122, t123)) = some (r1, r2, r3, r4, r5) := H
  have A2 := Aside0.mk A20
  clear A20
  simp only [Option.some.injEq, Prod.mk.injEq] at H
  obtain ⟨rfl, rfl, rfl, rfl, rfl⟩ := H
  go_enter Try.func98, Try.ntmps98
  go_wp2_with (first | ((with_reducible refine gate_callee (f := 68) rfl ?_); refine goesL_ (some 4) rfl rfl Try.func68 (by kernel_rfl) rfl #[.pointer (some ⟨g, 0, none⟩), .int .i64 2] rfl (by (try simp only [List.map_toArray, List.map_cons, List.map_nil]); first | done | rfl | (simp only [List.length_drop, List.length_take]; rfl)) ?_; (with_reducible refine (pool_Reader_Num.calls g s0_0 s0_1 s0_2 s0_3 2 t119 t120 t121 t122 t123 w0 _ ?side1 ?side2 A2.out).mono ?_); (case side1 => repeat (first | (with_reducible first | exact HI0.out | apply IsS167.alloc | apply IsS167.drewN | apply IsS167.drew | apply IsS167.set_0 | apply IsS167.set_1 | apply IsS167.set_2 | apply IsS167.set_3) | exact HI0.out)); (case side2 => repeat (first | (with_reducible first | exact HB.out | apply below_alloc | apply pw_below_drewN | apply below_drew1 | refine below_set ?_ (IsS167.ge HI0.out)) | exact HB.out)); rintro e w3 ⟨rfl, hi, hb, hk⟩; refine ⟨_, rfl, ?_⟩; have n0_ := Aside0.mk (KeepBut.trans (by repeat (first | (with_reducible first | exact HK.out | apply KeepBut.set_ | apply keep_drewN | apply keep_drew | apply keep_alloc) | exact HK.out)) hk (.inl rfl)); have n1_ := Aside0.mk (hb); have n2_ := Aside0.mk (hi); clear HK; clear HB; clear HI0; have HK := n0_; have HB := n1_; have HI0 := n2_; clear n0_ n1_ n2_; (try clear hb); (try clear hb2); (try clear hk); (try clear hi)))
  go_ret
  exact ⟨by first | rfl | (simp [errW_none, errW_some] <;> rfl) | (simp [*, errW_none, errW_some] <;> rfl), by repeat (first | (with_reducible first | exact HI0.out | apply IsS167.alloc | apply IsS167.drewN | apply IsS167.drew | apply IsS167.set_0 | apply IsS167.set_1 | apply IsS167.set_2 | apply IsS167.set_3) | exact HI0.out), by repeat (first | (with_reducible first | exact HB.out | apply below_alloc | apply pw_below_drewN | apply below_drew1 | refine below_set ?_ (IsS167.ge HI0.out)) | exact HB.out), by repeat (first | (with_reducible first | exact HK.out | apply KeepBut.set_ | apply keep_drewN | apply keep_drew | apply keep_alloc) | exact HK.out)⟩
def pool_NewReader.f (a0 : ByteArray) : Option (ByteArray × Int × Int × Int) := some (a0, 0, 0, 0)
set_option maxHeartbeats 8000000 in
set_option maxRecDepth 100000 in
theorem pool_NewReader.calls (a0 : ByteArray) (r1 : ByteArray) (r2 : Int) (r3 : Int) (r4 : Int) (w0 w : World) (hB : Below w0.heap.size w0 w) (h : pool_NewReader.f a0 = some (r1, r2, r3, r4)) :
    Calls Try.prog 63 #[.string a0] w fun e w' => ∃ g_ : Nat, e = .returned (.pointer (some ⟨g_, 0, none⟩)) ∧ IsS167 w0 w' g_ r1 r2 r3 r4 ∧ Below w0.heap.size w0 w' ∧ Below w.heap.size w w' := by
  have hu167 := Try.underlying167
  have HBW := Aside0.mk (Below.refl w.heap.size w)
  have HW0 := Aside0.mk hB.size
  have HB := Aside0.mk hB
  clear hB
  have H : (some (a0, 0, 0, 0)) = some (r1, r2, r3, r4) := h
  clear h
  simp only [Option.some.injEq, Prod.mk.injEq] at H
  obtain ⟨rfl, rfl, rfl, rfl⟩ := H
  go_enter Try.func63, Try.ntmps63
  go_wp2_with (first | ((with_reducible refine gate_dst (N := 5) rfl ?_); refine box_event ?hg (N := 5) ?hd (cs := #[.string a0, .int .i64 0, .int .i64 0, .int .i64 0]) (t := 167) ?hr ?_; (case hd => rfl); (case hg => rfl); (case hr => first | (go_simp; done) | (go_simp; rfl)); intro gb124 hg w2 hbox hb; have n0_ := Aside0.mk (below_step HBW.out hb); have n1_ := Aside0.mk (below_step (by repeat (first | (with_reducible first | exact HB.out | apply below_alloc | apply pw_below_drewN | apply below_drew1) | exact HB.out)) hb); have n2_ := Aside0.mk (hbox); have n3_ := Aside0.mk ((by rw [hg]; exact (below_size (by repeat (first | (with_reducible first | exact HBW.out | apply below_alloc | apply pw_below_drewN | apply below_drew1) | exact HBW.out))) : w.heap.size ≤ gb124)); have n4_ := Aside0.mk ((Nat.le_trans HW0.out (by rw [hg]; exact (below_size (by repeat (first | (with_reducible first | exact HBW.out | apply below_alloc | apply pw_below_drewN | apply below_drew1) | exact HBW.out))) : w.heap.size ≤ gb124) : w0.heap.size ≤ gb124)); clear HBW; clear HB; have HBW := n0_; have HB := n1_; have BK124 := n2_; have GW124 := n3_; have GE124 := n4_; clear n0_ n1_ n2_ n3_ n4_; clear hb hbox hg))
  go_ret
  exact ⟨_, rfl, (show IsS167 w0 _ gb124 a0 0 0 0 from ⟨by (with_reducible repeat (first | refine blk_drewN ?_ _ | refine blk_drew ?_ | refine blk_alloc ?_ _)); exact BK124.out, GE124.out⟩), by repeat (first | (with_reducible first | exact HB.out | apply below_alloc | apply pw_below_drewN | apply below_drew1 | refine below_set ?_ GE124.out) | exact HB.out), by repeat (first | (with_reducible first | exact HBW.out | apply below_alloc | apply pw_below_drewN | apply below_drew1 | refine below_set ?_ GW124.out) | exact HBW.out)⟩
end Go.Proofs.Ytfnjbmpolggdeaa.MD
end
section
namespace Go.Proofs.Ytfnjbmpolggdeaa.MD
open Go.RowKit Go.Lib Go.Proofs.YtfnjbmpolggdeaaW.PrintWords Go.Proofs.YtfnjbmpolggdeaaW.PrintLast Go.Proofs.YtfnjbmpolggdeaaW.PrintMore
set_option linter.unusedVariables false
set_option linter.unusedSimpArgs false
def stepV (s : ByteArray) (p : List S37) (t : RdS) : S54 × RdS :=
  if (numR s t 1).1 = 7 then
    (if isB p (numR s (numR s t 1).2 2).1 7 = true then (⟨7, nameV p (numR s (numR s t 1).2 2).1, 0⟩, (numR s (numR s t 1).2 2).2)
     else (⟨7, ⟨#[]⟩, 0⟩, failR (numR s (numR s t 1).2 2).2 7 t.1))
  else if (numR s t 1).1 = 8 then (⟨8, ⟨#[]⟩, (numR s (numR s t 1).2 2).1⟩, (numR s (numR s t 1).2 2).2)
  else if (numR s t 1).1 > 8 then (⟨(numR s t 1).1, ⟨#[]⟩, 0⟩, failR (numR s t 1).2 17 t.1)
  else (⟨(numR s t 1).1, ⟨#[]⟩, 0⟩, (numR s t 1).2)
def valD (s : ByteArray) (p : List S37) : Nat → List S54 → RdS → List S54 × RdS
  | 0, l, t => (l, t)
  | n + 1, l, t => if t.2.1 ≠ 0 then (l, t) else valD s p n (l ++ [(stepV s p t).1]) (stepV s p t).2
theorem OKR.step {s : ByteArray} {p : List S37} {t : RdS} (h : OKR s t) : OKR s (stepV s p t).2 := by
  unfold stepV
  split
  · split
    · exact (h.num 1).num 2
    · exact ((h.num 1).num 2).fail _ _
  · split
    · exact (h.num 1).num 2
    · split
      · exact (h.num 1).fail _ _
      · exact h.num 1
theorem OKR.val {s : ByteArray} {p : List S37} : ∀ (n : Nat) {l : List S54} {t : RdS}, OKR s t → OKR s (valD s p n l t).2
  | 0, l, t, h => h
  | n + 1, l, t, h => by
    unfold valD
    split
    · exact h
    · exact OKR.val n h.step
theorem val_stuck {s : ByteArray} {p : List S37} {n : Nat} {l : List S54} {t : RdS} (h : t.2.1 ≠ 0) : valD s p n l t = (l, t) := by
  cases n with
  | zero => rfl
  | succ n => unfold valD; rw [if_pos h]
theorem num_f2 {s : ByteArray} {t : RdS} (h : OKR s t) : pool_Reader_Num.f s t.1 t.2.1 t.2.2 2 = some ((numR s t 2).1, s, (numR s t 2).2.1, (numR s t 2).2.2.1, (numR s t 2).2.2.2) := take_eq h 2 (by decide)
theorem u16_id {z : Int} (h : 0 ≤ z ∧ z < 65536) : IntKind.u16.wrap z = z := by
  simp only [IntKind.wrap, IntKind.bits, IntKind.signed]
  simp
  omega
theorem num1_lt (s : ByteArray) (t : RdS) : 0 ≤ (numR s t 1).1 ∧ (numR s t 1).1 < 256 := by
  have h := num_range s t 1 (by decide)
  exact ⟨h.1, h.2⟩
theorem num2_lt (s : ByteArray) (t : RdS) : 0 ≤ (numR s t 2).1 ∧ (numR s t 2).1 < 65536 := by
  have h := num_range s t 2 (by decide)
  exact ⟨h.1, h.2⟩
theorem index_f {s : ByteArray} {t : RdS} (h : OKR s t) : pool_Reader_Index.f s t.1 t.2.1 t.2.2 = some ((numR s t 2).1, s, (numR s t 2).2.1, (numR s t 2).2.2.1, (numR s t 2).2.2.2) := by
  unfold pool_Reader_Index.f
  rw [num_f2 h, Option.bind_some, u16_id (num2_lt s t)]
theorem name_eq {p : List S37} (hp : ∀ c ∈ p, okC39 c) {k : Int} (h : isB p k 7 = true) : pool_String.f p (rd_T37 p k).f3 = some (nameV p k) := by
  obtain ⟨h0, h1, _⟩ := isB_range h
  have hm := hp _ (rd_mem (by omega) h1)
  rw [poolStr_eq p hm.1.1 hm.1.2]
  unfold nameV
  rw [if_pos h]
end Go.Proofs.Ytfnjbmpolggdeaa.MD
end
section
namespace Go.Proofs.Ytfnjbmpolggdeaa.MD
open Go.RowKit Go.Proofs.YtfnjbmpolggdeaaW.PrintWords Go.Proofs.YtfnjbmpolggdeaaW.PrintLast Go.Proofs.YtfnjbmpolggdeaaW.PrintMore
attribute [local go_sem] max2_int min2_int max_two min_two max_three min_three max_four min_four   -- for this text's walks alone
set_option linter.unusedVariables false
set_option linter.unusedSimpArgs false
def jvmcoreref3_list.f (l0 : List (S54)) : Option ((List (S54))) := if ([] : List (S54)).length + l0.length < 4398046511104 then (some (([] : List (S54)) ++ l0)) else (none)
end Go.Proofs.Ytfnjbmpolggdeaa.MD
end
section
namespace Go.Proofs.Ytfnjbmpolggdeaa.MD
open Go.RowKit Go.Lib Go.Proofs.YtfnjbmpolggdeaaW.PrintWords Go.Proofs.YtfnjbmpolggdeaaW.PrintLast Go.Proofs.YtfnjbmpolggdeaaW.PrintMore
set_option linter.unusedVariables false
set_option linter.unusedSimpArgs false
def api_VType_69.f (l0 : List S54) : Option (List S54) := if l0.length < 4398046511104 then some l0 else none
theorem infoVT : (Try.prog.info? 54).map (fun i => (i.zero, i.size, i.bytes)) = some (some (.agg #[(.int .u8 0), (.string ⟨#[]⟩), (.int .i64 0)]), 3, 32) := by kernel_rfl
theorem own_empty (w : World) : Kd.R k54 54 (w.alloc (.cells #[] 54)) w.heap.size (fun _ => True) (.slice (some ⟨w.heap.size, 0, none⟩) 0 0) [] :=
  ⟨fun _ _ => trivial, [], ⟨rfl, .inr ⟨w.heap.size, 0, #[], rfl, Nat.le_refl _, Array.getElem?_push_size, Nat.le_refl _, by decide, rfl, rfl⟩⟩, rfl, fun j p h => by simp at h⟩
set_option maxHeartbeats 8000000 in
set_option maxRecDepth 100000 in
theorem api_VType_69.calls (A0 : Option Addr) (c0 : Nat) (l0 : List S54) (r : List S54) (w : World) (hr0 : Kd.C k54 w A0 l0.length l0) (hc0 : l0.length ≤ c0) (h : api_VType_69.f l0 = some r) :
    Calls Try.prog 69 #[.slice A0 l0.length c0] w fun e w' => ∃ v0_ : Value, e = .returned (v0_) ∧ Kd.R k54 54 w' w.heap.size (fun _ => True) v0_ r ∧ Below w.heap.size w w' := by
  unfold api_VType_69.f at h
  by_cases hl : l0.length < 4398046511104
  · rw [if_pos hl] at h
    obtain rfl := Option.some.inj h
    have HR0 := Aside0.mk hr0
    have HC0 := Aside0.mk hc0
    have HL := Aside0.mk hl
    clear h hr0 hc0 hl
    have hq : ∀ (w : World) (a : Option Addr) (n c n' c' : Nat), (binOp .eql 44 (.slice a n c) (.slice none n' c')).run Try.prog w = .ok (.bool a.isNone) w := fun w a n c n' c' => Lib.run_eql_slice_nil w _ _ a n c n' c' Try.underlying44
    cases A0 with
    | none =>
      have hz : l0 = [] := by
        by_cases h0 : 0 < l0.length
        · obtain ⟨ad, h1, _⟩ := HR0.out.2.2 h0
          cases h1
        · exact List.eq_nil_of_length_eq_zero (by omega)
      subst hz
      go_enter Try.func69, Try.ntmps69
      go_wp2
      go_ret
      exact ⟨_, rfl, Kd.R_nil _ _ _ _ _, Below.refl _ _⟩
    | some ad =>
      have HO := Aside0.mk (own_empty w)
      have HB := Aside0.mk (below_alloc (Below.refl w.heap.size w) (.cells #[] 54))
      go_enter Try.func69, Try.ntmps69
      go_wp2_with (first | ((with_reducible refine gate_builtin (b := .append) (xs := #[.tmp 5, .tmp 6]) rfl ?_); at_builtin; refine Kd.R_append_rows k54 (w0 := w) w.heap.size rfl (.tmp 5) (.tmp 6) 44 54 (.agg #[(.int .u8 0), (.string ⟨#[]⟩), (.int .i64 0)]) 32 rfl Try.underlying44 infoVT rfl (by decide) (by omega) (.slice (some ⟨w.heap.size, 0, none⟩) 0 0) ([] : List S54) l0 _ _ _ (fun _ => True) (fun _ => False) rfl rfl HO.out (Kd.C_alloc HR0.out _) (fun _ _ h => h) (fun _ h => h.elim) (fun _ _ => trivial) HB.out HB.out.size (by have := HL.out; rw [List.length_nil]; omega) ?_; intro v9 w9 hr9 hb9 hg9 hat9; clear hg9 hat9) | go_in)
      go_ret
      exact ⟨_, rfl, hr9, hb9⟩
  · rw [if_neg hl] at h
    cases h
end Go.Proofs.Ytfnjbmpolggdeaa.MD
end
section
namespace Go.Proofs.Ytfnjbmpolggdeaa.MD
open Go.RowKit Go.Lib Go.Proofs.YtfnjbmpolggdeaaW.PrintWords Go.Proofs.YtfnjbmpolggdeaaW.PrintLast Go.Proofs.YtfnjbmpolggdeaaW.PrintMore
set_option linter.unusedVariables false
set_option linter.unusedSimpArgs false
abbrev VR (W : World) (B : Nat) (v : Value) (l : List S54) : Prop := Kd.R k54 54 W B (fun _ => True) v l
theorem VR.step {W W1 : World} {B : Nat} {v : Value} {l : List S54} (h : VR W B v l) (hs : ∀ k, v.ownBlock = some k → W1.heap[k]? = W.heap[k]?) : VR W1 B v l :=
  Kd.R_mono (Kd.R_step (Kd.R_tight rfl h) (fun k hk _ => hs k hk.symm)) (fun _ _ => trivial)
theorem VR.ne {W : World} {B : Nat} {v : Value} {l : List S54} (h : VR W B v l) {g t : Nat} {cells : Array Value} {fr : Nat × Nat} (hb : W.heap[g]? = some (.cells cells t fr)) (ht : t ≠ 54) : v.ownBlock ≠ some g := by
  intro e
  obtain ⟨c2, hc⟩ := Kd.R_typed h g e
  rw [hc] at hb
  injection hb with e1
  injection e1 with _ e2
  exact ht e2.symm
structure VS (w0 w W : World) (g : Nat) (s : ByteArray) (t : RdS) (v : Value) (l : List S54) : Prop where
  ri : RI w0 W g s t
  row : VR W w.heap.size v l
  kept : KeepBut w W g none
def vtC (x : S54) : Array Value := #[.int .u8 x.f0, .string x.f1, .int .i64 x.f2]
structure VB (w0 w W : World) (g : Nat) (s : ByteArray) (t : RdS) (v : Value) (l : List S54) (bx : Nat) (x : S54) : Prop where
  vs : VS w0 w W g s t v l
  box : W.heap[bx]? = some (.cells (vtC x) 54 (0, 0))
  new : w.heap.size ≤ bx
  ne : v.ownBlock ≠ some bx
theorem VS.rd {w0 w W W1 : World} {g : Nat} {s : ByteArray} {t t1 : RdS} {v : Value} {l : List S54} (h : VS w0 w W g s t v l) (hI : RI w0 W1 g s t1) (hk : KeepBut W W1 g none) : VS w0 w W1 g s t1 v l :=
  ⟨hI, h.row.step (fun k e => hk.2 k (Kd.R_lt h.row k e) (fun he => h.row.ne h.ri.1.1 (by decide) (he ▸ e)) (by simp)), keep_tr h.kept hk⟩
theorem VS.below {w0 w W W1 : World} {g : Nat} {s : ByteArray} {t : RdS} {v : Value} {l : List S54} (h : VS w0 w W g s t v l) (hb : Below W.heap.size W W1) : VS w0 w W1 g s t v l := h.rd (h.ri.below hb) (KeepBut.of_below hb g none)
theorem VS.start {w0 w : World} {g : Nat} {s : ByteArray} {t : RdS} (hI : RI w0 w g s t) : VS w0 w w g s t (.slice none 0 0) [] := ⟨hI, Kd.R_nil _ _ _ _ _, KeepBut.refl w g none⟩
theorem VB.start {w0 w W : World} {g : Nat} {s : ByteArray} {t : RdS} {v : Value} {l : List S54} (h : VS w0 w W g s t v l) (x : S54) : VB w0 w (W.alloc (.cells (vtC x) 54)) g s t v l W.heap.size x :=
  ⟨h.below (below_alloc (Below.refl _ _) _), Array.getElem?_push_size, h.kept.1, fun e => by have := Kd.R_lt h.row _ e; omega⟩
namespace VB
variable {w0 w W W1 : World} {g bx : Nat} {s : ByteArray} {t t1 : RdS} {v v1 : Value} {l : List S54} {x x1 : S54}
theorem gne (h : VB w0 w W g s t v l bx x) : bx ≠ g := fun e => h.vs.ri.1.ne_blk h.box (by decide) e.symm
theorem rd (h : VB w0 w W g s t v l bx x) (hI : RI w0 W1 g s t1) (hk : KeepBut W W1 g none) : VB w0 w W1 g s t1 v l bx x :=
  ⟨h.vs.rd hI hk, (hk.2 _ (blk_lt h.box) h.gne (by simp)).trans h.box, h.new, h.ne⟩
theorem below (h : VB w0 w W g s t v l bx x) (hb : Below W.heap.size W W1) : VB w0 w W1 g s t v l bx x := h.rd (h.vs.ri.below hb) (KeepBut.of_below hb g none)
theorem set (h : VB w0 w W g s t v l bx x) (hw : w0.heap.size ≤ w.heap.size) (j : Nat) (u : Value) (hx : (vtC x).setIfInBounds j u = vtC x1) : VB w0 w (W.setCell ⟨bx, j, none⟩ u) g s t v l bx x1 where
  vs := {
    ri := ⟨h.vs.ri.1.far (fun e => h.gne e.symm) u, h.vs.ri.2.setCell (p := ⟨bx, j, none⟩) (Nat.le_trans hw h.new) u⟩
    row := h.vs.row.step (fun k e => Below.heap_setCell W ⟨bx, j, none⟩ u k (fun he => h.ne (by rw [← show k = bx from he]; exact e)))
    kept := ⟨Nat.le_trans h.vs.kept.1 (by simp [World.setCell]), fun i hi hg hr => (Below.heap_setCell W ⟨bx, j, none⟩ u i (fun he => by have := h.new; have e1 : i = bx := he; omega)).trans (h.vs.kept.2 i hi hg hr)⟩ }
  box := by rw [← hx]; exact blk_set h.box j u
  new := h.new
  ne := h.ne
theorem app (h : VB w0 w W g s t v l bx x) (hw : w0.heap.size ≤ w.heap.size) {l1 : List S54} (hg : W.grownBy W1 v.ownBlock) (hr : VR W1 w.heap.size v1 l1) : VS w0 w W1 g s t v1 l1 where
  ri := ⟨h.vs.ri.1.grown hg (fun e => h.vs.row.ne h.vs.ri.1.1 (by decide) e.symm), pw_below_grown h.vs.ri.2 _ h.vs.ri.2.size hg (fun k hk => Nat.le_trans hw (Kd.R_base h.vs.row k hk))⟩
  row := hr
  kept := ⟨Nat.le_trans h.vs.kept.1 hg.size, fun i hi hgi hri => (hg.block i (Nat.lt_of_lt_of_le hi h.vs.kept.1) (fun e => by have := Kd.R_base h.vs.row i e.symm; omega)).trans (h.vs.kept.2 i hi hgi hri)⟩
theorem cells (h : VB w0 w W g s t v l bx x) : W.cell? ⟨bx, 0, none⟩ = some (.int .u8 x.f0) ∧ W.cell? ⟨bx, 1, none⟩ = some (.string x.f1) ∧ W.cell? ⟨bx, 2, none⟩ = some (.int .i64 x.f2) ∧ (∀ j, W.frozen? ⟨bx, j, none⟩ = false) :=
  ⟨blk_cell h.box 0, blk_cell h.box 1, blk_cell h.box 2, fun j => blk_frozen h.box j⟩
end VB
theorem index_any (w0 w : World) (g : Nat) (s : ByteArray) (t : RdS) (ht : OKR s t) (hI : RI w0 w g s t) :
    Calls Try.prog 98 #[.pointer (some ⟨g, 0, none⟩)] w (RPost w0 w g s (numR s t 2).2 (.int .u16 (numR s t 2).1)) := by
  refine (pool_Reader_Index.calls g s t.1 t.2.1 t.2.2 _ _ _ _ _ w0 w hI.1 hI.2 (index_f ht)).mono ?_
  rintro e w' ⟨h1, h2, h3, h4⟩
  exact ⟨h1, ⟨h2, h3⟩, h4⟩
end Go.Proofs.Ytfnjbmpolggdeaa.MD
end
section
namespace Go.Proofs.Ytfnjbmpolggdeaa.MD
open Go.RowKit Go.Lib Go.Proofs.YtfnjbmpolggdeaaW.PrintWords Go.Proofs.YtfnjbmpolggdeaaW.PrintLast Go.Proofs.YtfnjbmpolggdeaaW.PrintMore
set_option linter.unusedVariables false
set_option linter.unusedSimpArgs false
theorem ms_valD {k N : Nat} {v : Value} (h : k < N) (hv : v = .int .i64 ((k + 1 : Nat) : Int)) : N - (intOf v).toNat < N - (intOf (.int .i64 (k : Int))).toNat := by
  subst hv
  show N - (((k + 1 : Nat) : Int)).toNat < N - ((k : Int)).toNat
  rw [Int.toNat_natCast, Int.toNat_natCast]; omega
def VPost (w0 w : World) (g : Nat) (s : ByteArray) (p : List S37) (m : Nat) (t : RdS) (e : Ending) (w' : World) : Prop :=
  ∃ v lc, e = .returned v ∧ VS w0 w w' g s (valD s p m [] t).2 v lc ∧ lc.length ≤ m ∧ ((valD s p m [] t).2.2.1 = 0 → lc = (valD s p m [] t).1)
set_option maxHeartbeats 16000000 in
set_option maxRecDepth 100000 in
theorem values_any (w0 w : World) (g : Nat) (s : ByteArray) (t : RdS) (A1 : Option Addr) (c1 : Nat) (p : List S37) (m : Nat) (hm : m ≤ 65536) (ht : OKR s t) (hI : RI w0 w g s t) (hr1 : ∀ W_, KeepBut w W_ g none → Kd.C k37 W_ A1 p.length p) (hc1 : p.length ≤ c1) (hp : ∀ c ∈ p, okC39 c) :
    Calls Try.prog 114 #[.pointer (some ⟨g, 0, none⟩), .slice A1 p.length c1, .int .i64 (m : Int)] w (VPost w0 w g s p m t) := by
  have HP := Aside0.mk hp
  have HM := Aside0.mk hm
  have HR1 := Aside0.mk hr1
  have HC1 := Aside0.mk hc1
  have HWW := Aside0.mk hI.2.size
  have H0 := Aside0.mk (VS.start hI)
  have HT := Aside0.mk ht
  clear hp hm hr1 hc1 hI ht
  go_enter Try.func114, Try.ntmps114
  go_wp2_with fail
  go_loopw [7, 12] (fun v i wr => ∃ (j : Nat) (l : List S54) (t1 : RdS), j ≤ m ∧ i = .int .i64 (j : Int) ∧ Aside0 (VS w0 w wr g s t1 v l) ∧ Aside0 (OKR s t1 ∧ l.length = j) ∧ Aside0 (valD s p m [] t = valD s p (m - j) l t1)) (fun _ i _ => m - (intOf i).toNat)
  case atStart => exact ⟨0, [], t, Nat.zero_le _, rfl, H0, ⟨HT.out, rfl⟩, ⟨rfl⟩⟩
  case round =>
    clear H0 HT
    obtain ⟨j, l, t1, hj, rfl, HV, HO, HD⟩ := hrel
    obtain ⟨A7, c7, e7⟩ := Kd.R_slice HV.out.row
    subst e7
    by_cases hjm : j < m
    · have bj : decide ((j : Int) < (m : Int)) = true := decide_eq_true (by omega)
      have bjn : decide (j < m) = true := decide_eq_true hjm
      obtain ⟨q, hq⟩ : ∃ q, m - j = q + 1 := ⟨m - j - 1, by omega⟩
      have HQ := Aside0.mk (show m - (j + 1) = q by omega)
      have HJM := Aside0.mk hjm
      by_cases he : t1.2.1 = 0
      · have b1 : (t1.2.1 != 0) = false := bne_eq_false_iff_eq.2 he
        have HD1 : Aside0 (valD s p m [] t = valD s p (m - (j + 1)) (l ++ [(stepV s p t1).1]) (stepV s p t1).2) := ⟨by
          rw [HD.out, hq, HQ.out]
          show (if _ then _ else _) = _
          rw [if_neg (fun h => h he)]⟩
        have HLL := Aside0.mk (show (l.length + 1) * 32 ≤ 140737488355328 by have := HO.out.2; have := HM.out; omega)
        have wk : wrap64 ((j : Int) + 1) = ((j + 1 : Nat) : Int) := by rw [← i64_w, IntKind.wrap_i64]; have := HM.out; omega
        have WN := Aside0.mk (congrArg (Value.int IntKind.i64) wk)
        have WI := Aside0.mk wk
        have hu : IntKind.u8.wrap (numR s t1 1).1 = (numR s t1 1).1 := by rw [IntKind.wrap_u8]; have := num1_lt s t1; omega
        clear wk he hq HD
        go_upto_region 8 with (first | (go_at_call 70; refine (bad_any w0 _ g s t1 HV.out.ri).mono ?_; rintro e2 w2 ⟨rfl, hI2, hk2⟩; have HV2 := Aside0.mk (HV.out.rd hI2 hk2); clear hI2 hk2) | (go_at_call 66; refine (at_any w0 _ g s t1 HV2.out.ri).mono ?_; rintro e3 w3 ⟨rfl, hI3, hk3⟩; have HV3 := Aside0.mk (HV2.out.rd hI3 hk3); clear hI3 hk3) | (go_at_call 68; refine (num_any w0 _ g s t1 1 1 rfl (by decide) HO.out.1 HV3.out.ri).mono ?_; rintro e4 w4 ⟨rfl, hI4, hk4⟩; have HV4 := Aside0.mk (HV3.out.rd hI4 hk4); clear hI4 hk4) | go_in)
        have HO5 := Aside0.mk (HO.out.1.num 1)
        obtain ⟨a, ha⟩ : ∃ a, (numR s t1 1).1 = a := ⟨_, rfl⟩
        have HA := Aside0.mk ha
        rw [ha]
        clear ha hu
        have H5 : Aside0 (VB w0 w (w4.alloc (.cells #[.int .u8 a, .string ⟨#[]⟩, .int .i64 0] 54)) g s (numR s t1 1).2 (.slice A7 l.length c7) l w4.heap.size (⟨a, (⟨#[]⟩ : ByteArray), 0⟩ : S54)) := ⟨VB.start HV4.out (⟨a, (⟨#[]⟩ : ByteArray), 0⟩ : S54)⟩
        clear HV HV2 HV3 HV4
        generalize World.alloc _ _ = W5 at *
        generalize w4.heap.size = bx at *
        obtain ⟨d0_5, d1_5, d2_5, df_5⟩ := H5.out.cells
        dsimp only at d0_5 d1_5 d2_5
        by_cases h7 : a = 7
        · have q7 : (a == 7) = true := beq_iff_eq.2 h7
          have HA7 := Aside0.mk h7
          clear h7
          go_upto_region 10 with (first | (go_at_call 98; refine (index_any w0 _ g s (numR s t1 1).2 HO5.out H5.out.vs.ri).mono ?_; rintro e6 w6 ⟨rfl, hI6, hk6⟩; have H6 := Aside0.mk (H5.out.rd hI6 hk6); obtain ⟨d0_6, d1_6, d2_6, df_6⟩ := H6.out.cells; dsimp only at d0_6 d1_6 d2_6; clear hI6 hk6) | go_in)
          clear d0_5 d1_5 d2_5 df_5
          have HK := Aside0.mk (num2_lt s (numR s t1 1).2)
          have HO6 := Aside0.mk (HO5.out.num 2)
          by_cases hb : isB p (numR s (numR s t1 1).2 2).1 7 = true
          · have HB := Aside0.mk hb
            obtain ⟨r0, r1, _⟩ := isB_range hb
            obtain ⟨ad, ea, y0, y1, y2, y3, y4⟩ := at_T37 (HR1.out _ H6.out.vs.kept) (numR s (numR s t1 1).2 2).1 (by omega) r1
            have HIS := Aside0.mk ((pool_Is_eq p (numR s (numR s t1 1).2 2).1 7 HK.out.1 HK.out.2).trans (congrArg some hb))
            clear y0 y1 y2 y4
            subst ea
            have i0 : (0 ≤ (numR s (numR s t1 1).2 2).1) = True := eq_true (by omega)
            have i1 : ((numR s (numR s t1 1).2 2).1 < (p.length : Int)) = True := eq_true r1
            clear r0 r1
            go_upto_region 17 with (first | (go_at_call 133; refine (pool_Is.calls _ c1 p (numR s (numR s t1 1).2 2).1 7 true _ (HR1.out _ H6.out.vs.kept) HC1.out HIS.out).mono ?_; rintro e7 w7 ⟨rfl, hd7⟩; have H7 := Aside0.mk (H6.out.below hd7.below); obtain ⟨d0_7, d1_7, d2_7, df_7⟩ := H7.out.cells; dsimp only at d0_7 d1_7 d2_7; replace y3 := pw_cell_below hd7.below y3; clear hd7) | (go_at_call 134; refine (pool_String.calls _ c1 p _ (nameV p (numR s (numR s t1 1).2 2).1) _ (HR1.out _ H7.out.vs.kept) HC1.out (name_eq HP.out HB.out)).mono ?_; rintro e8 w8 ⟨rfl, hd8⟩; have H8 := Aside0.mk (H7.out.below hd8.below); obtain ⟨d0_8, d1_8, d2_8, df_8⟩ := H8.out.cells; dsimp only at d0_8 d1_8 d2_8; clear hd8) | go_in)
            have H10 := Aside0.mk (H8.out.set HWW.out 1 (.string (nameV p (numR s (numR s t1 1).2 2).1)) (x1 := (⟨a, nameV p (numR s (numR s t1 1).2 2).1, 0⟩ : S54)) rfl)
            clear d0_7 d1_7 d2_7 df_7
            clear d0_8 d1_8 d2_8 df_8
            generalize World.setCell _ ⟨bx, 1, none⟩ _ = W10 at *
            obtain ⟨d0_10, d1_10, d2_10, df_10⟩ := H10.out.cells
            dsimp only at d0_10 d1_10 d2_10
            have HS := Aside0.mk (show stepV s p t1 = ((⟨a, nameV p (numR s (numR s t1 1).2 2).1, 0⟩ : S54), (numR s (numR s t1 1).2 2).2) by unfold stepV; rw [HA.out, if_pos HA7.out, if_pos HB.out, HA7.out])
            go_wp2_with (first | ((with_reducible refine gate_builtin (b := .append) (xs := #[.tmp 57, .tmp 59]) rfl ?_); at_builtin; refine Kd.R_append k54 w.heap.size rfl (.tmp 57) (.tmp 59) 44 54 (.agg #[(.int .u8 0), (.string ⟨#[]⟩), (.int .i64 0)]) 32 rfl Try.underlying44 infoVT rfl (by decide) (by omega) (.slice A7 l.length c7) l (⟨a, nameV p (numR s (numR s t1 1).2 2).1, 0⟩ : S54) [.int .u8 ((⟨a, nameV p (numR s (numR s t1 1).2 2).1, 0⟩ : S54)).f0, .string ((⟨a, nameV p (numR s (numR s t1 1).2 2).1, 0⟩ : S54)).f1, .int .i64 ((⟨a, nameV p (numR s (numR s t1 1).2 2).1, 0⟩ : S54)).f2] (fun _ => True) (fun _ => False) rfl rfl (k54_mkM _ _ _ _) (fun _ hk => hk.elim) (fun _ _ => trivial) H10.out.vs.row (Below.refl _ _) H10.out.vs.kept.1 HLL.out ?_; intro v9 w9 hr9 hb9 hg9 hat9; have H9 := Aside0.mk (H10.out.app HWW.out hg9 hr9); obtain ⟨A9, c9, e9⟩ := Kd.R_slice hr9; subst e9; clear hr9 hb9 hg9 hat9) | go_in)
            go_roundw
            case rel => exact ⟨j + 1, _, (numR s (numR s t1 1).2 2).2, HJM.out, by first | exact WN.out | exact WI.out, by first | exact H9 | (simp only [List.length_append, List.length_singleton] at H9; exact H9), ⟨by have h := HO.out.1.step (p := p); rw [HS.out] at h; exact h, by rw [List.length_append, HO.out.2]; rfl⟩, ⟨by have h := HD1.out; rw [HS.out] at h; exact h⟩⟩
            case measure => exact ms_valD HJM.out WN.out
          · have hb2 : isB p (numR s (numR s t1 1).2 2).1 7 = false := Bool.eq_false_iff.2 hb
            have HB := Aside0.mk hb
            have HIS := Aside0.mk ((pool_Is_eq p (numR s (numR s t1 1).2 2).1 7 HK.out.1 HK.out.2).trans (congrArg some hb2))
            clear hb hb2
            go_upto_region 17 with (first | (go_at_call 133; refine (pool_Is.calls _ c1 p (numR s (numR s t1 1).2 2).1 7 false _ (HR1.out _ H6.out.vs.kept) HC1.out HIS.out).mono ?_; rintro e7 w7 ⟨rfl, hd7⟩; have H7 := Aside0.mk (H6.out.below hd7.below); obtain ⟨d0_7, d1_7, d2_7, df_7⟩ := H7.out.cells; dsimp only at d0_7 d1_7 d2_7; clear hd7) | (go_at_call 73; refine (fail_any w0 _ g s (numR s (numR s t1 1).2 2).2 7 t1.1 H7.out.vs.ri).mono ?_; rintro e8 w8 ⟨rfl, hI8, hk8⟩; have H8 := Aside0.mk (H7.out.rd hI8 hk8); obtain ⟨d0_8, d1_8, d2_8, df_8⟩ := H8.out.cells; dsimp only at d0_8 d1_8 d2_8; clear hI8 hk8) | go_in)
            clear d0_7 d1_7 d2_7 df_7
            have HS := Aside0.mk (show stepV s p t1 = ((⟨a, (⟨#[]⟩ : ByteArray), 0⟩ : S54), failR (numR s (numR s t1 1).2 2).2 7 t1.1) by unfold stepV; rw [HA.out, if_pos HA7.out, if_neg HB.out, HA7.out])
            go_wp2_with (first | ((with_reducible refine gate_builtin (b := .append) (xs := #[.tmp 57, .tmp 59]) rfl ?_); at_builtin; refine Kd.R_append k54 w.heap.size rfl (.tmp 57) (.tmp 59) 44 54 (.agg #[(.int .u8 0), (.string ⟨#[]⟩), (.int .i64 0)]) 32 rfl Try.underlying44 infoVT rfl (by decide) (by omega) (.slice A7 l.length c7) l (⟨a, (⟨#[]⟩ : ByteArray), 0⟩ : S54) [.int .u8 ((⟨a, (⟨#[]⟩ : ByteArray), 0⟩ : S54)).f0, .string ((⟨a, (⟨#[]⟩ : ByteArray), 0⟩ : S54)).f1, .int .i64 ((⟨a, (⟨#[]⟩ : ByteArray), 0⟩ : S54)).f2] (fun _ => True) (fun _ => False) rfl rfl (k54_mkM _ _ _ _) (fun _ hk => hk.elim) (fun _ _ => trivial) H8.out.vs.row (Below.refl _ _) H8.out.vs.kept.1 HLL.out ?_; intro v9 w9 hr9 hb9 hg9 hat9; have H9 := Aside0.mk (H8.out.app HWW.out hg9 hr9); obtain ⟨A9, c9, e9⟩ := Kd.R_slice hr9; subst e9; clear hr9 hb9 hg9 hat9) | go_in)
            go_roundw
            case rel => exact ⟨j + 1, _, failR (numR s (numR s t1 1).2 2).2 7 t1.1, HJM.out, by first | exact WN.out | exact WI.out, by first | exact H9 | (simp only [List.length_append, List.length_singleton] at H9; exact H9), ⟨by have h := HO.out.1.step (p := p); rw [HS.out] at h; exact h, by rw [List.length_append, HO.out.2]; rfl⟩, ⟨by have h := HD1.out; rw [HS.out] at h; exact h⟩⟩
            case measure => exact ms_valD HJM.out WN.out
        · have q7 : (a == 7) = false := beq_eq_false_iff_ne.2 h7
          by_cases h8 : a = 8
          · have q8 : (a == 8) = true := beq_iff_eq.2 h8
            have HA8 := Aside0.mk (And.intro h7 h8)
            clear h7 h8
            go_upto_region 17 with (first | (go_at_call 68; refine (num_any w0 _ g s (numR s t1 1).2 2 2 rfl (by decide) HO5.out H5.out.vs.ri).mono ?_; rintro e6 w6 ⟨rfl, hI6, hk6⟩; have H6 := Aside0.mk (H5.out.rd hI6 hk6); obtain ⟨d0_6, d1_6, d2_6, df_6⟩ := H6.out.cells; dsimp only at d0_6 d1_6 d2_6; clear hI6 hk6) | go_in)
            have H10 := Aside0.mk (H6.out.set HWW.out 2 (.int .i64 (numR s (numR s t1 1).2 2).1) (x1 := (⟨a, (⟨#[]⟩ : ByteArray), (numR s (numR s t1 1).2 2).1⟩ : S54)) rfl)
            clear d0_5 d1_5 d2_5 df_5
            clear d0_6 d1_6 d2_6 df_6
            generalize World.setCell _ ⟨bx, 2, none⟩ _ = W10 at *
            obtain ⟨d0_10, d1_10, d2_10, df_10⟩ := H10.out.cells
            dsimp only at d0_10 d1_10 d2_10
            have HS := Aside0.mk (show stepV s p t1 = ((⟨a, (⟨#[]⟩ : ByteArray), (numR s (numR s t1 1).2 2).1⟩ : S54), (numR s (numR s t1 1).2 2).2) by unfold stepV; rw [HA.out, if_neg HA8.out.1, if_pos HA8.out.2, HA8.out.2])
            go_wp2_with (first | ((with_reducible refine gate_builtin (b := .append) (xs := #[.tmp 57, .tmp 59]) rfl ?_); at_builtin; refine Kd.R_append k54 w.heap.size rfl (.tmp 57) (.tmp 59) 44 54 (.agg #[(.int .u8 0), (.string ⟨#[]⟩), (.int .i64 0)]) 32 rfl Try.underlying44 infoVT rfl (by decide) (by omega) (.slice A7 l.length c7) l (⟨a, (⟨#[]⟩ : ByteArray), (numR s (numR s t1 1).2 2).1⟩ : S54) [.int .u8 ((⟨a, (⟨#[]⟩ : ByteArray), (numR s (numR s t1 1).2 2).1⟩ : S54)).f0, .string ((⟨a, (⟨#[]⟩ : ByteArray), (numR s (numR s t1 1).2 2).1⟩ : S54)).f1, .int .i64 ((⟨a, (⟨#[]⟩ : ByteArray), (numR s (numR s t1 1).2 2).1⟩ : S54)).f2] (fun _ => True) (fun _ => False) rfl rfl (k54_mkM _ _ _ _) (fun _ hk => hk.elim) (fun _ _ => trivial) H10.out.vs.row (Below.refl _ _) H10.out.vs.kept.1 HLL.out ?_; intro v9 w9 hr9 hb9 hg9 hat9; have H9 := Aside0.mk (H10.out.app HWW.out hg9 hr9); obtain ⟨A9, c9, e9⟩ := Kd.R_slice hr9; subst e9; clear hr9 hb9 hg9 hat9) | go_in)
            go_roundw
            case rel => exact ⟨j + 1, _, (numR s (numR s t1 1).2 2).2, HJM.out, by first | exact WN.out | exact WI.out, by first | exact H9 | (simp only [List.length_append, List.length_singleton] at H9; exact H9), ⟨by have h := HO.out.1.step (p := p); rw [HS.out] at h; exact h, by rw [List.length_append, HO.out.2]; rfl⟩, ⟨by have h := HD1.out; rw [HS.out] at h; exact h⟩⟩
            case measure => exact ms_valD HJM.out WN.out
          · have q8 : (a == 8) = false := beq_eq_false_iff_ne.2 h8
            have HA8 := Aside0.mk (And.intro h7 h8)
            by_cases h9 : a > 8
            · have q9 : decide (a > 8) = true := decide_eq_true h9
              have q9b : decide (8 < a) = true := decide_eq_true h9
              have HA9 := Aside0.mk h9
              clear h7 h8 h9
              go_upto_region 17 with (first | (go_at_call 73; refine (fail_any w0 _ g s (numR s t1 1).2 17 t1.1 H5.out.vs.ri).mono ?_; rintro e6 w6 ⟨rfl, hI6, hk6⟩; have H6 := Aside0.mk (H5.out.rd hI6 hk6); obtain ⟨d0_6, d1_6, d2_6, df_6⟩ := H6.out.cells; dsimp only at d0_6 d1_6 d2_6; clear hI6 hk6) | go_in)
              clear d0_5 d1_5 d2_5 df_5
              have HS := Aside0.mk (show stepV s p t1 = ((⟨a, (⟨#[]⟩ : ByteArray), 0⟩ : S54), failR (numR s t1 1).2 17 t1.1) by unfold stepV; rw [HA.out, if_neg HA8.out.1, if_neg HA8.out.2, if_pos HA9.out])
              go_wp2_with (first | ((with_reducible refine gate_builtin (b := .append) (xs := #[.tmp 57, .tmp 59]) rfl ?_); at_builtin; refine Kd.R_append k54 w.heap.size rfl (.tmp 57) (.tmp 59) 44 54 (.agg #[(.int .u8 0), (.string ⟨#[]⟩), (.int .i64 0)]) 32 rfl Try.underlying44 infoVT rfl (by decide) (by omega) (.slice A7 l.length c7) l (⟨a, (⟨#[]⟩ : ByteArray), 0⟩ : S54) [.int .u8 ((⟨a, (⟨#[]⟩ : ByteArray), 0⟩ : S54)).f0, .string ((⟨a, (⟨#[]⟩ : ByteArray), 0⟩ : S54)).f1, .int .i64 ((⟨a, (⟨#[]⟩ : ByteArray), 0⟩ : S54)).f2] (fun _ => True) (fun _ => False) rfl rfl (k54_mkM _ _ _ _) (fun _ hk => hk.elim) (fun _ _ => trivial) H6.out.vs.row (Below.refl _ _) H6.out.vs.kept.1 HLL.out ?_; intro v9 w9 hr9 hb9 hg9 hat9; have H9 := Aside0.mk (H6.out.app HWW.out hg9 hr9); obtain ⟨A9, c9, e9⟩ := Kd.R_slice hr9; subst e9; clear hr9 hb9 hg9 hat9) | go_in)
              go_roundw
              case rel => exact ⟨j + 1, _, failR (numR s t1 1).2 17 t1.1, HJM.out, by first | exact WN.out | exact WI.out, by first | exact H9 | (simp only [List.length_append, List.length_singleton] at H9; exact H9), ⟨by have h := HO.out.1.step (p := p); rw [HS.out] at h; exact h, by rw [List.length_append, HO.out.2]; rfl⟩, ⟨by have h := HD1.out; rw [HS.out] at h; exact h⟩⟩
              case measure => exact ms_valD HJM.out WN.out
            · have q9 : decide (a > 8) = false := decide_eq_false h9
              have q9b : decide (8 < a) = false := decide_eq_false h9
              have HA9 := Aside0.mk h9
              clear h7 h8 h9
              have HS := Aside0.mk (show stepV s p t1 = ((⟨a, (⟨#[]⟩ : ByteArray), 0⟩ : S54), (numR s t1 1).2) by unfold stepV; rw [HA.out, if_neg HA8.out.1, if_neg HA8.out.2, if_neg HA9.out])
              go_wp2_with (first | ((with_reducible refine gate_builtin (b := .append) (xs := #[.tmp 57, .tmp 59]) rfl ?_); at_builtin; refine Kd.R_append k54 w.heap.size rfl (.tmp 57) (.tmp 59) 44 54 (.agg #[(.int .u8 0), (.string ⟨#[]⟩), (.int .i64 0)]) 32 rfl Try.underlying44 infoVT rfl (by decide) (by omega) (.slice A7 l.length c7) l (⟨a, (⟨#[]⟩ : ByteArray), 0⟩ : S54) [.int .u8 ((⟨a, (⟨#[]⟩ : ByteArray), 0⟩ : S54)).f0, .string ((⟨a, (⟨#[]⟩ : ByteArray), 0⟩ : S54)).f1, .int .i64 ((⟨a, (⟨#[]⟩ : ByteArray), 0⟩ : S54)).f2] (fun _ => True) (fun _ => False) rfl rfl (k54_mkM _ _ _ _) (fun _ hk => hk.elim) (fun _ _ => trivial) H5.out.vs.row (Below.refl _ _) H5.out.vs.kept.1 HLL.out ?_; intro v9 w9 hr9 hb9 hg9 hat9; have H9 := Aside0.mk (H5.out.app HWW.out hg9 hr9); obtain ⟨A9, c9, e9⟩ := Kd.R_slice hr9; subst e9; clear hr9 hb9 hg9 hat9) | go_in)
              go_roundw
              case rel => exact ⟨j + 1, _, (numR s t1 1).2, HJM.out, by first | exact WN.out | exact WI.out, by first | exact H9 | (simp only [List.length_append, List.length_singleton] at H9; exact H9), ⟨by have h := HO.out.1.step (p := p); rw [HS.out] at h; exact h, by rw [List.length_append, HO.out.2]; rfl⟩, ⟨by have h := HD1.out; rw [HS.out] at h; exact h⟩⟩
              case measure => exact ms_valD HJM.out WN.out
      · have b1 : (t1.2.1 != 0) = true := bne_iff_ne.2 he
        have HD1 : Aside0 (valD s p m [] t = (l, t1)) := ⟨by rw [HD.out]; exact val_stuck he⟩
        have HE := Aside0.mk he
        clear he hq HD
        go_wp2_with (first | (go_at_call 70; refine (bad_any w0 _ g s t1 HV.out.ri).mono ?_; rintro e2 w2 ⟨rfl, hI2, hk2⟩; have HV2 := Aside0.mk (HV.out.rd hI2 hk2); clear hI2 hk2) | go_in)
        go_ret
        refine ⟨_, [], rfl, ?_, Nat.zero_le _, ?_⟩
        · rw [HD1.out]
          exact ⟨HV2.out.ri, Kd.R_nil _ _ _ _ _, HV2.out.kept⟩
        · rw [HD1.out]
          exact fun h => absurd h HE.out
    · obtain rfl : j = m := by omega
      have bj : decide ((j : Int) < (j : Int)) = false := decide_eq_false (by omega)
      have bjn : decide (j < j) = false := decide_eq_false (by omega)
      have HD1 : Aside0 (valD s p j [] t = (l, t1)) := ⟨by have h := HD.out; rw [Nat.sub_self] at h; exact h⟩
      clear hjm hj HD
      go_wp2
      go_ret
      refine ⟨_, l, rfl, ?_, by rw [HO.out.2]; exact Nat.le_refl _, ?_⟩
      · rw [HD1.out]
        exact HV.out
      · rw [HD1.out]
        exact fun _ => rfl
end Go.Proofs.Ytfnjbmpolggdeaa.MD
end
section
namespace Go.Proofs.Ytfnjbmpolggdeaa.MD
open Go.RowKit Go.Lib Go.Proofs.YtfnjbmpolggdeaaW.PrintWords Go.Proofs.YtfnjbmpolggdeaaW.PrintLast Go.Proofs.YtfnjbmpolggdeaaW.PrintMore
set_option linter.unusedVariables false
set_option linter.unusedSimpArgs false
structure FrR where
  l1 : List S54
  l2 : List S54
  d : Int
  t : RdS
def oneM (s : ByteArray) (p : List S37) (l : List S54) (t : RdS) : FrR :=
  if (numR s t 1).1 < 64 then ⟨l, [], (numR s t 1).1, (numR s t 1).2⟩ else
  if (numR s t 1).1 < 128 then ⟨l, (valD s p 1 [] (numR s t 1).2).1, (numR s t 1).1 - 64, (valD s p 1 [] (numR s t 1).2).2⟩ else
  if (numR s t 1).1 < 247 then ⟨l, [], 0, failR (numR s t 1).2 17 t.1⟩ else
  if (numR s t 1).1 = 247 then ⟨l, (valD s p 1 [] (numR s (numR s t 1).2 2).2).1, (numR s (numR s t 1).2 2).1, (valD s p 1 [] (numR s (numR s t 1).2 2).2).2⟩ else
  if (numR s t 1).1 < 251 then
    (if (l.length : Int) - (251 - (numR s t 1).1) < 0 then ⟨l, [], 0, failR (numR s (numR s t 1).2 2).2 17 t.1⟩
     else ⟨l.take ((l.length : Int) - (251 - (numR s t 1).1)).toNat, [], (numR s (numR s t 1).2 2).1, (numR s (numR s t 1).2 2).2⟩) else
  if (numR s t 1).1 < 255 then ⟨l ++ (valD s p ((numR s t 1).1 - 251).toNat [] (numR s (numR s t 1).2 2).2).1, [], (numR s (numR s t 1).2 2).1, (valD s p ((numR s t 1).1 - 251).toNat [] (numR s (numR s t 1).2 2).2).2⟩
  else ⟨(valD s p (numR s (numR s (numR s t 1).2 2).2 2).1.toNat [] (numR s (numR s (numR s t 1).2 2).2 2).2).1,
    (valD s p (numR s (valD s p (numR s (numR s (numR s t 1).2 2).2 2).1.toNat [] (numR s (numR s (numR s t 1).2 2).2 2).2).2 2).1.toNat [] (numR s (valD s p (numR s (numR s (numR s t 1).2 2).2 2).1.toNat [] (numR s (numR s (numR s t 1).2 2).2 2).2).2 2).2).1,
    (numR s (numR s t 1).2 2).1,
    (valD s p (numR s (valD s p (numR s (numR s (numR s t 1).2 2).2 2).1.toNat [] (numR s (numR s (numR s t 1).2 2).2 2).2).2 2).1.toNat [] (numR s (valD s p (numR s (numR s (numR s t 1).2 2).2 2).1.toNat [] (numR s (numR s (numR s t 1).2 2).2 2).2).2 2).2).2⟩
def frC (v1 v2 : Value) : Array Value := #[.int .i64 0, v1, v2]
structure FS (w0 w W : World) (g : Nat) (s : ByteArray) (t : RdS) (bx : Nat) (v1 : Value) (l1 : List S54) (v2 : Value) (l2 : List S54) : Prop where
  ri : RI w0 W g s t
  res : W.heap[w.heap.size]? = some (.cells #[.int .i64 0, .slice none 0 0, .slice none 0 0] 80 (0, 0))
  box : W.heap[bx]? = some (.cells (frC v1 v2) 80 (0, 0))
  nb : w.heap.size < bx
  r1 : VR W w.heap.size v1 l1
  r2 : VR W w.heap.size v2 l2
  ap : ∀ k, v1.ownBlock = some k → v2.ownBlock ≠ some k
  kept : KeepBut w W g none
namespace FS
variable {w0 w W W1 : World} {g bx : Nat} {s : ByteArray} {t t1 : RdS} {v1 v2 u : Value} {l1 l2 l : List S54}
theorem gne (h : FS w0 w W g s t bx v1 l1 v2 l2) : bx ≠ g := fun e => h.ri.1.ne_blk h.box (by decide) e.symm
theorem rd (h : FS w0 w W g s t bx v1 l1 v2 l2) (hI : RI w0 W1 g s t1) (hk : KeepBut W W1 g none) : FS w0 w W1 g s t1 bx v1 l1 v2 l2 where
  ri := hI
  res := (hk.2 _ (blk_lt h.res) (fun e => h.ri.1.ne_blk h.res (by decide) e.symm) (by simp)).trans h.res
  box := (hk.2 _ (blk_lt h.box) h.gne (by simp)).trans h.box
  nb := h.nb
  r1 := h.r1.step (fun k e => hk.2 k (Kd.R_lt h.r1 k e) (fun he => h.r1.ne h.ri.1.1 (by decide) (he ▸ e)) (by simp))
  r2 := h.r2.step (fun k e => hk.2 k (Kd.R_lt h.r2 k e) (fun he => h.r2.ne h.ri.1.1 (by decide) (he ▸ e)) (by simp))
  ap := h.ap
  kept := keep_tr h.kept hk
theorem below (h : FS w0 w W g s t bx v1 l1 v2 l2) (hb : Below W.heap.size W W1) : FS w0 w W1 g s t bx v1 l1 v2 l2 := h.rd (h.ri.below hb) (KeepBut.of_below hb g none)
theorem drew (h : FS w0 w W g s t bx v1 l1 v2 l2) : FS w0 w W.drew g s t bx v1 l1 v2 l2 := h.below (below_drew (Below.refl _ _))
theorem put (h : FS w0 w W g s t bx v1 l1 v2 l2) (hw : w0.heap.size ≤ w.heap.size) (j : Nat) {u1 u2 : Value} {m1 m2 : List S54} (u : Value) (hx : (frC v1 v2).setIfInBounds j u = frC u1 u2) (h1 : VR W w.heap.size u1 m1) (h2 : VR W w.heap.size u2 m2) (ha : ∀ k, u1.ownBlock = some k → u2.ownBlock ≠ some k) : FS w0 w (W.setCell ⟨bx, j, none⟩ u) g s t bx u1 m1 u2 m2 where
  ri := ⟨h.ri.1.far (fun e => h.gne e.symm) u, h.ri.2.setCell (p := ⟨bx, j, none⟩) (by have := h.nb; show w0.heap.size ≤ bx; omega) u⟩
  res := (Below.heap_setCell W ⟨bx, j, none⟩ u _ (fun e => by have := h.nb; have e1 : w.heap.size = bx := e; omega)).trans h.res
  box := by rw [← hx]; exact blk_set h.box j u
  nb := h.nb
  r1 := h1.step (fun k e => Below.heap_setCell W ⟨bx, j, none⟩ u k (fun he => h1.ne h.box (by decide) (by rw [← show k = bx from he]; exact e)))
  r2 := h2.step (fun k e => Below.heap_setCell W ⟨bx, j, none⟩ u k (fun he => h2.ne h.box (by decide) (by rw [← show k = bx from he]; exact e)))
  ap := ha
  kept := ⟨Nat.le_trans h.kept.1 (by simp [World.setCell]), fun i hi hg hr => (Below.heap_setCell W ⟨bx, j, none⟩ u i (fun he => by have := h.nb; have e1 : i = bx := he; omega)).trans (h.kept.2 i hi hg hr)⟩
theorem cells (h : FS w0 w W g s t bx v1 l1 v2 l2) : W.cell? ⟨bx, 0, none⟩ = some (.int .i64 0) ∧ W.cell? ⟨bx, 1, none⟩ = some v1 ∧ W.cell? ⟨bx, 2, none⟩ = some v2 ∧ (∀ j, W.frozen? ⟨bx, j, none⟩ = false) :=
  ⟨blk_cell h.box 0, blk_cell h.box 1, blk_cell h.box 2, fun j => blk_frozen h.box j⟩
theorem rcells (h : FS w0 w W g s t bx v1 l1 v2 l2) : W.cell? ⟨w.heap.size, 0, none⟩ = some (.int .i64 0) ∧ W.cell? ⟨w.heap.size, 1, none⟩ = some (.slice none 0 0) ∧ W.cell? ⟨w.heap.size, 2, none⟩ = some (.slice none 0 0) ∧ (∀ j, W.frozen? ⟨w.heap.size, j, none⟩ = false) :=
  ⟨blk_cell h.res 0, blk_cell h.res 1, blk_cell h.res 2, fun j => blk_frozen h.res j⟩
theorem fin (h : FS w0 w W g s t bx v1 l1 v2 l2) (hw : w0.heap.size ≤ w.heap.size) :
    (((W.setCell ⟨w.heap.size, 0, none⟩ (.int .i64 0)).setCell ⟨w.heap.size, 1, none⟩ v1).setCell ⟨w.heap.size, 2, none⟩ v2).heap[w.heap.size]? = some (.cells (frC v1 v2) 80 (0, 0)) ∧ RI w0 (((W.setCell ⟨w.heap.size, 0, none⟩ (.int .i64 0)).setCell ⟨w.heap.size, 1, none⟩ v1).setCell ⟨w.heap.size, 2, none⟩ v2) g s t ∧ VR (((W.setCell ⟨w.heap.size, 0, none⟩ (.int .i64 0)).setCell ⟨w.heap.size, 1, none⟩ v1).setCell ⟨w.heap.size, 2, none⟩ v2) w.heap.size v1 l1 ∧ VR (((W.setCell ⟨w.heap.size, 0, none⟩ (.int .i64 0)).setCell ⟨w.heap.size, 1, none⟩ v1).setCell ⟨w.heap.size, 2, none⟩ v2) w.heap.size v2 l2 ∧ KeepBut w (((W.setCell ⟨w.heap.size, 0, none⟩ (.int .i64 0)).setCell ⟨w.heap.size, 1, none⟩ v1).setCell ⟨w.heap.size, 2, none⟩ v2) g none := by
  have s1 : (W.setCell ⟨w.heap.size, 0, none⟩ (.int .i64 0)).heap[w.heap.size]? = some (.cells #[.int .i64 0, .slice none 0 0, .slice none 0 0] 80 (0, 0)) := blk_set h.res 0 _
  have s2 : ((W.setCell ⟨w.heap.size, 0, none⟩ (.int .i64 0)).setCell ⟨w.heap.size, 1, none⟩ v1).heap[w.heap.size]? = some (.cells #[.int .i64 0, v1, .slice none 0 0] 80 (0, 0)) := blk_set s1 1 v1
  have s3 : (((W.setCell ⟨w.heap.size, 0, none⟩ (.int .i64 0)).setCell ⟨w.heap.size, 1, none⟩ v1).setCell ⟨w.heap.size, 2, none⟩ v2).heap[w.heap.size]? = some (.cells (frC v1 v2) 80 (0, 0)) := blk_set s2 2 v2
  have hg : g ≠ w.heap.size := fun e => h.ri.1.ne_blk h.res (by decide) e
  have e2 : ∀ k, k ≠ w.heap.size → (((W.setCell ⟨w.heap.size, 0, none⟩ (.int .i64 0)).setCell ⟨w.heap.size, 1, none⟩ v1).setCell ⟨w.heap.size, 2, none⟩ v2).heap[k]? = W.heap[k]? := fun k hk =>
    (Below.heap_setCell _ ⟨w.heap.size, 2, none⟩ v2 k hk).trans ((Below.heap_setCell _ ⟨w.heap.size, 1, none⟩ v1 k hk).trans (Below.heap_setCell W ⟨w.heap.size, 0, none⟩ _ k hk))
  refine ⟨s3, ⟨((h.ri.1.far hg _).far hg _).far hg _, ((h.ri.2.setCell (p := ⟨w.heap.size, 0, none⟩) hw _).setCell (p := ⟨w.heap.size, 1, none⟩) hw _).setCell (p := ⟨w.heap.size, 2, none⟩) hw _⟩, ?_, ?_, ?_⟩
  · exact h.r1.step (fun k e => e2 k (fun he => h.r1.ne h.res (by decide) (by rw [← he]; exact e)))
  · exact h.r2.step (fun k e => e2 k (fun he => h.r2.ne h.res (by decide) (by rw [← he]; exact e)))
  · exact ⟨Nat.le_trans h.kept.1 (by simp [World.setCell]), fun i hi hgi hr => (e2 i (by omega)).trans (h.kept.2 i hi hgi hr)⟩
theorem app1 (h : FS w0 w W g s t bx v1 l1 (.slice none 0 0) []) (hw : w0.heap.size ≤ w.heap.size) {m : List S54} (hg : W.grownBy W1 v1.ownBlock) (hr : VR W1 w.heap.size u m) : FS w0 w (W1.setCell ⟨bx, 1, none⟩ u) g s t bx u m (.slice none 0 0) [] := by
  have i1 : W1.heap[bx]? = some (.cells (frC v1 (.slice none 0 0)) 80 (0, 0)) := (hg.block _ (blk_lt h.box) (fun e => h.r1.ne h.box (by decide) e.symm)).trans h.box
  have i2 := (hg.block _ (blk_lt h.res) (fun e => h.r1.ne h.res (by decide) e.symm)).trans h.res
  exact {
    ri := ⟨(h.ri.1.grown hg (fun e => h.r1.ne h.ri.1.1 (by decide) e.symm)).far (fun e => h.gne e.symm) u, (pw_below_grown h.ri.2 _ h.ri.2.size hg (fun k hk => Nat.le_trans hw (Kd.R_base h.r1 k hk))).setCell (p := ⟨bx, 1, none⟩) (by have := h.nb; show w0.heap.size ≤ bx; omega) u⟩
    res := (Below.heap_setCell W1 ⟨bx, 1, none⟩ u _ (fun e => by have := h.nb; have e1 : w.heap.size = bx := e; omega)).trans i2
    box := blk_set i1 1 u
    nb := h.nb
    r1 := hr.step (fun k e => Below.heap_setCell W1 ⟨bx, 1, none⟩ u k (fun he => hr.ne i1 (by decide) (by rw [← show k = bx from he]; exact e)))
    r2 := Kd.R_nil _ _ _ _ _
    ap := fun k _ e => by cases e
    kept := ⟨Nat.le_trans (Nat.le_trans h.kept.1 hg.size) (by simp [World.setCell]), fun i hi hgi hri => (Below.heap_setCell W1 ⟨bx, 1, none⟩ u i (fun he => by have := h.nb; have e1 : i = bx := he; omega)).trans ((hg.block i (Nat.lt_of_lt_of_le hi h.kept.1) (fun e => by have := Kd.R_base h.r1 i e.symm; omega)).trans (h.kept.2 i hi hgi hri))⟩ }
theorem grown1 (h : FS w0 w W g s t bx v1 l1 v2 l2) (hg : W.grownBy W1 v1.ownBlock) : W1.cell? ⟨bx, 1, none⟩ = some v1 ∧ W1.frozen? ⟨bx, 1, none⟩ = false := by
  have i1 : W1.heap[bx]? = some (.cells (frC v1 v2) 80 (0, 0)) := (hg.block _ (blk_lt h.box) (fun e => h.r1.ne h.box (by decide) e.symm)).trans h.box
  exact ⟨blk_cell i1 1, blk_frozen i1 1⟩
end FS
def FPost (w0 w : World) (g : Nat) (s : ByteArray) (n : Nat) (r : FrR) (e : Ending) (w' : World) : Prop :=
  ∃ v1 v2 l1 l2 dl, e = .returned (.tuple #[.agg (frC v1 v2), .int .i64 dl]) ∧ RI w0 w' g s r.t ∧ VR w' w.heap.size v1 l1 ∧ VR w' w.heap.size v2 l2 ∧ (∀ k, v1.ownBlock = some k → v2.ownBlock ≠ some k) ∧ KeepBut w w' g none ∧ (l1.length ≤ n + 4 ∨ l1.length ≤ 65536) ∧ l2.length ≤ 65536 ∧ (0 ≤ dl ∧ dl ≤ 65536) ∧ (r.t.2.1 = 0 → l1 = r.l1 ∧ l2 = r.l2 ∧ dl = r.d)
end Go.Proofs.Ytfnjbmpolggdeaa.MD
end
section
namespace Go.Proofs.Ytfnjbmpolggdeaa.MD
open Go.RowKit Go.Lib Go.Proofs.YtfnjbmpolggdeaaW.PrintWords Go.Proofs.YtfnjbmpolggdeaaW.PrintLast Go.Proofs.YtfnjbmpolggdeaaW.PrintMore
set_option linter.unusedVariables false
set_option linter.unusedSimpArgs false
theorem FS.start {w0 w W W1 : World} {g c : Nat} {s : ByteArray} {t : RdS} {A : Option Addr} {l : List S54} (hgl : g < w.heap.size) (hI : RI w0 W g s t) (hz : KeepBut w (w.alloc (.cells #[.int .i64 0, .slice none 0 0, .slice none 0 0] 80)) g none) (hk : KeepBut (w.alloc (.cells #[.int .i64 0, .slice none 0 0, .slice none 0 0] 80)) W g none) (hr : Kd.R k54 54 W1 W.heap.size (fun _ => True) (.slice A l.length c) l) (hb : Below W.heap.size W W1) :
    FS w0 w (W1.alloc (.cells #[.int .i64 0, .slice A l.length c, .slice none 0 0] 80)) g s t W1.heap.size (.slice A l.length c) l (.slice none 0 0) [] := by
  have hb2 := below_alloc (Below.refl W1.heap.size W1) (.cells #[.int .i64 0, .slice A l.length c, .slice none 0 0] 80)
  have es : (w.alloc (.cells #[.int .i64 0, .slice none 0 0, .slice none 0 0] 80)).heap.size = w.heap.size + 1 := Array.size_push _
  have e1 : (w.alloc (.cells #[.int .i64 0, .slice none 0 0, .slice none 0 0] 80)).heap[w.heap.size]? = some (.cells #[.int .i64 0, .slice none 0 0, .slice none 0 0] 80 (0, 0)) := Array.getElem?_push_size
  have hs1 := hk.1
  have hs2 := hb.size
  have hgw : w.heap.size ≠ g := fun e => by omega
  have e2 : W.heap[w.heap.size]? = _ := (hk.2 _ (by omega) hgw (by simp)).trans e1
  have hr1 := (VR.step (W1 := W1.alloc (.cells #[.int .i64 0, .slice A l.length c, .slice none 0 0] 80)) hr (fun k e => hb2.block k (Kd.R_lt hr k e)))
  exact {
    ri := (hI.below hb).below hb2
    res := (hb2.block _ (by omega)).trans ((hb.block _ (by omega)).trans e2)
    box := Array.getElem?_push_size
    nb := by omega
    r1 := Kd.R_lower hr1 (by omega)
    r2 := Kd.R_nil _ _ _ _ _
    ap := fun k _ e => by cases e
    kept := keep_tr (keep_tr hz hk) (keep_tr (KeepBut.of_below hb g none) (KeepBut.of_below hb2 g none)) }
theorem val_clean {s : ByteArray} {p : List S37} {n : Nat} {t : RdS} (h : (valD s p n [] (numR s t 2).2).2.2.1 = 0) : t.2.1 = 0 := by
  by_cases e : t.2.1 = 0
  · exact e
  · have e1 : (numR s t 2).2 = t := by unfold numR; rw [if_pos e]
    rw [e1, val_stuck e] at h
    exact absurd h e
set_option maxHeartbeats 40000000 in
set_option maxRecDepth 100000 in
theorem mone_any (w0 w : World) (g : Nat) (s : ByteArray) (t : RdS) (A1 : Option Addr) (c1 : Nat) (p : List S37) (A2 : Option Addr) (c2 : Nat) (l : List S54) (ht : OKR s t) (hI : RI w0 w g s t) (hr1 : ∀ W_, KeepBut w W_ g none → Kd.C k37 W_ A1 p.length p) (hc1 : p.length ≤ c1) (hr2 : ∀ W_, KeepBut w W_ g none → Kd.C k54 W_ A2 l.length l) (hc2 : l.length ≤ c2) (hp : ∀ c ∈ p, okC39 c) (hl : l.length ≤ 1000000) :
    Calls Try.prog 71 #[.pointer (some ⟨g, 0, none⟩), .slice A1 p.length c1, .slice A2 l.length c2] w (FPost w0 w g s l.length (oneM s p l t)) := by
  have HP := Aside0.mk hp
  have HR1 := Aside0.mk hr1
  have HC1 := Aside0.mk hc1
  have HC2 := Aside0.mk (And.intro hr2 hc2)
  have HLN := Aside0.mk hl
  have HWW := Aside0.mk hI.2.size
  have HGL := Aside0.mk hI.lt
  have hbz := below_alloc (Below.refl w.heap.size w) (.cells #[.int .i64 0, .slice none 0 0, .slice none 0 0] 80)
  have HZ := Aside0.mk (show RI w0 (w.alloc (.cells #[.int .i64 0, .slice none 0 0, .slice none 0 0] 80)) g s t ∧ KeepBut w (w.alloc (.cells #[.int .i64 0, .slice none 0 0, .slice none 0 0] 80)) g none from ⟨hI.below hbz, KeepBut.of_below hbz g none⟩)
  have HT := Aside0.mk ht
  have HCL := Aside0.mk (show api_VType_69.f l = some l by unfold api_VType_69.f; rw [if_pos (by omega)])
  clear hp hr1 hc1 hr2 hc2 hI ht hbz hl
  go_enter Try.func71, Try.ntmps71
  go_upto_region 4 with (first | (go_at_call 66; refine (at_any w0 _ g s t HZ.out.1).mono ?_; rintro e1 w1 ⟨rfl, hI1, hk1⟩) | (go_at_call 68; refine (num_any w0 _ g s t 1 1 rfl (by decide) HT.out hI1).mono ?_; rintro e2 w2 ⟨rfl, hI2, hk2⟩; have HK2 := Aside0.mk (keep_tr hk1 hk2); have HI2 := Aside0.mk hI2; clear hI1 hk1 hI2 hk2) | (go_at_call 69; refine (api_VType_69.calls A2 c2 l l _ (HC2.out.1 _ (keep_tr HZ.out.2 HK2.out)) HC2.out.2 HCL.out).mono ?_; rintro e3 w3 ⟨v3, rfl, hR3, hb3⟩; obtain ⟨A4, c4, q3⟩ := Kd.R_slice hR3; subst q3) | go_in)
  have H4 := Aside0.mk (FS.start HGL.out HI2.out HZ.out.2 HK2.out hR3 hb3)
  clear hR3 hb3 HK2 HI2 HZ
  generalize World.alloc _ _ = W4 at *
  generalize w3.heap.size = bx at *
  obtain ⟨d0_4, d1_4, d2_4, df_4⟩ := H4.out.cells
  have HO4 := Aside0.mk (HT.out.num 1)
  obtain ⟨a, ha⟩ : ∃ a, (numR s t 1).1 = a := ⟨_, rfl⟩
  have HA := Aside0.mk ha
  have HRA := Aside0.mk (show 0 ≤ a ∧ a < 256 by rw [← ha]; exact num1_lt s t)
  rw [ha]
  clear ha
  by_cases h64 : a < 64
  · have HM := Aside0.mk (show oneM s p l t = ⟨l, [], a, (numR s t 1).2⟩ by unfold oneM; rw [HA.out, if_pos h64])
    have b1 : decide (a < 64) = true := decide_eq_true h64
    clear h64
    obtain ⟨x0, x1, x2, xf⟩ := H4.out.rcells
    have HFIN := Aside0.mk (H4.out.fin HWW.out)
    have HAP := Aside0.mk H4.out.ap
    go_wp2_with fail
    refine bodyPost_ret (results_ct rfl _ _ (w.heap.size) 80 _ (0, 0) _ rfl HFIN.out.1 Try.underlying80 rfl (by kernel_rfl)) rfl ?_
    have hM := HM.out
    rw [hM]
    refine ⟨_, _, l, [], a, rfl, HFIN.out.2.1, HFIN.out.2.2.1, HFIN.out.2.2.2.1, HAP.out, HFIN.out.2.2.2.2, ?_, ?_, ?_, fun h0 => ?_⟩
    · exact .inl (by omega)
    · exact Nat.zero_le _
    · have := HRA.out; exact ⟨this.1, by omega⟩
    · exact ⟨rfl, rfl, rfl⟩
  · by_cases h128 : a < 128
    · have HM := Aside0.mk (show oneM s p l t = ⟨l, (valD s p 1 [] (numR s t 1).2).1, a - 64, (valD s p 1 [] (numR s t 1).2).2⟩ by unfold oneM; rw [HA.out, if_neg h64, if_pos h128])
      have b1 : decide (a < 64) = false := decide_eq_false h64
      have b2 : decide (a < 128) = true := decide_eq_true h128
      have HE1 := Aside0.mk (show wrap64 (a - 64) = a - 64 by rw [← i64_w, IntKind.wrap_i64]; have := HRA.out; omega)
      have HR2 := Aside0.mk (show 0 ≤ a - 64 ∧ a - 64 ≤ 65536 by have := HRA.out; omega)
      clear h64 h128
      go_upto_region 8 with (first | (go_at_call 114; refine (values_any w0 _ g s (numR s t 1).2 A1 c1 p 1 (by decide) HO4.out H4.out.ri (fun W_ hk_ => HR1.out W_ (keep_tr H4.out.kept hk_)) HC1.out HP.out).mono ?_; rintro e5 w5 ⟨v5, lc5, rfl, hV5, hl5, hz5⟩; obtain ⟨A5, k5, q5⟩ := Kd.R_slice hV5.row; subst q5; have HV5 := Aside0.mk hV5; have HL5 := Aside0.mk (And.intro hl5 hz5); have H5 := Aside0.mk (H4.out.rd hV5.ri hV5.kept); obtain ⟨d0_5, d1_5, d2_5, df_5⟩ := H5.out.cells; clear hV5 hl5 hz5) | go_in)
      clear d0_4 d1_4 d2_4 df_4
      have H6 := Aside0.mk (H5.out.put HWW.out 2 (.slice A5 lc5.length k5) (u1 := (.slice A4 l.length c4)) (u2 := .slice A5 lc5.length k5) rfl H5.out.r1 (Kd.R_lower HV5.out.row H4.out.kept.1) (fun k_ e1 e2 => by have := Kd.R_lt H4.out.r1 k_ e1; have := Kd.R_base HV5.out.row k_ e2; omega))
      clear d0_5 d1_5 d2_5 df_5
      generalize World.setCell _ ⟨bx, 2, none⟩ _ = W6 at *
      obtain ⟨d0_6, d1_6, d2_6, df_6⟩ := H6.out.cells
      obtain ⟨x0, x1, x2, xf⟩ := H6.out.rcells
      have HFIN := Aside0.mk (H6.out.fin HWW.out)
      have HAP := Aside0.mk H6.out.ap
      go_wp2_with fail
      refine bodyPost_ret (results_ct rfl _ _ (w.heap.size) 80 _ (0, 0) _ rfl HFIN.out.1 Try.underlying80 rfl (by kernel_rfl)) rfl ?_
      have hM := HM.out
      rw [hM]
      refine ⟨_, _, l, lc5, (wrap64 (a - 64)), rfl, HFIN.out.2.1, HFIN.out.2.2.1, HFIN.out.2.2.2.1, HAP.out, HFIN.out.2.2.2.2, ?_, ?_, ?_, fun h0 => ?_⟩
      · exact .inl (by omega)
      · have := HL5.out.1; omega
      · rw [HE1.out]; exact HR2.out
      · exact ⟨rfl, HL5.out.2 h0, HE1.out⟩
    · by_cases h247 : a < 247
      · have HM := Aside0.mk (show oneM s p l t = ⟨l, [], 0, failR (numR s t 1).2 17 t.1⟩ by unfold oneM; rw [HA.out, if_neg h64, if_neg h128, if_pos h247])
        have b1 : decide (a < 64) = false := decide_eq_false h64
        have b2 : decide (a < 128) = false := decide_eq_false h128
        have b3 : decide (a < 247) = true := decide_eq_true h247
        clear h64 h128 h247
        go_upto_region 11 with (first | (go_at_call 73; refine (fail_any w0 _ g s (numR s t 1).2 17 t.1 H4.out.ri).mono ?_; rintro e5 w5 ⟨rfl, hI5, hk5⟩; have H5 := Aside0.mk (H4.out.rd hI5 hk5); obtain ⟨d0_5, d1_5, d2_5, df_5⟩ := H5.out.cells; clear hI5 hk5) | go_in)
        clear d0_4 d1_4 d2_4 df_4
        obtain ⟨x0, x1, x2, xf⟩ := H5.out.rcells
        have HFIN := Aside0.mk (H5.out.fin HWW.out)
        have HAP := Aside0.mk H5.out.ap
        go_wp2_with fail
        refine bodyPost_ret (results_ct rfl _ _ (w.heap.size) 80 _ (0, 0) _ rfl HFIN.out.1 Try.underlying80 rfl (by kernel_rfl)) rfl ?_
        have hM := HM.out
        rw [hM]
        refine ⟨_, _, l, [], 0, rfl, HFIN.out.2.1, HFIN.out.2.2.1, HFIN.out.2.2.2.1, HAP.out, HFIN.out.2.2.2.2, ?_, ?_, ?_, fun h0 => ?_⟩
        · exact .inl (by omega)
        · exact Nat.zero_le _
        · exact ⟨Int.le_refl _, by decide⟩
        · exact ⟨rfl, rfl, rfl⟩
      · have b1 : decide (a < 64) = false := decide_eq_false h64
        have b2 : decide (a < 128) = false := decide_eq_false h128
        have b3 : decide (a < 247) = false := decide_eq_false h247
        have HC := Aside0.mk (And.intro h64 (And.intro h128 h247))
        clear h64 h128 h247
        have HO5 := Aside0.mk (HO4.out.num 2)
        have HRD := Aside0.mk (num2_lt s (numR s t 1).2)
        go_upto_region 15 with (first | (go_at_call 68; refine (num_any w0 _ g s (numR s t 1).2 2 2 rfl (by decide) HO4.out H4.out.ri).mono ?_; rintro e5 w5 ⟨rfl, hI5, hk5⟩; have H5 := Aside0.mk (H4.out.rd hI5 hk5); obtain ⟨d0_5, d1_5, d2_5, df_5⟩ := H5.out.cells; clear hI5 hk5) | go_in)
        clear d0_4 d1_4 d2_4 df_4
        clear b1 b2 b3
        by_cases h4 : a = 247
        · have HM := Aside0.mk (show oneM s p l t = ⟨l, (valD s p 1 [] (numR s (numR s t 1).2 2).2).1, (numR s (numR s t 1).2 2).1, (valD s p 1 [] (numR s (numR s t 1).2 2).2).2⟩ by unfold oneM; rw [HA.out, if_neg (by have := HC.out; omega), if_neg (by have := HC.out; omega), if_neg (by have := HC.out; omega), if_pos h4])
          have b4 : (a == 247) = true := beq_iff_eq.2 h4
          clear h4
          go_upto_region 25 with (first | (go_at_call 114; refine (values_any w0 _ g s (numR s (numR s t 1).2 2).2 A1 c1 p 1 (by decide) HO5.out H5.out.ri (fun W_ hk_ => HR1.out W_ (keep_tr H5.out.kept hk_)) HC1.out HP.out).mono ?_; rintro e6 w6 ⟨v6, lc6, rfl, hV6, hl6, hz6⟩; obtain ⟨A6, k6, q6⟩ := Kd.R_slice hV6.row; subst q6; have HV6 := Aside0.mk hV6; have HL6 := Aside0.mk (And.intro hl6 hz6); have H6 := Aside0.mk (H5.out.rd hV6.ri hV6.kept); obtain ⟨d0_6, d1_6, d2_6, df_6⟩ := H6.out.cells; clear hV6 hl6 hz6) | go_in)
          clear d0_5 d1_5 d2_5 df_5
          have H7 := Aside0.mk (H6.out.put HWW.out 2 (.slice A6 lc6.length k6) (u1 := (.slice A4 l.length c4)) (u2 := .slice A6 lc6.length k6) rfl H6.out.r1 (Kd.R_lower HV6.out.row H5.out.kept.1) (fun k_ e1 e2 => by have := Kd.R_lt H5.out.r1 k_ e1; have := Kd.R_base HV6.out.row k_ e2; omega))
          clear d0_6 d1_6 d2_6 df_6
          generalize World.setCell _ ⟨bx, 2, none⟩ _ = W7 at *
          obtain ⟨d0_7, d1_7, d2_7, df_7⟩ := H7.out.cells
          obtain ⟨x0, x1, x2, xf⟩ := H7.out.rcells
          have HFIN := Aside0.mk (H7.out.fin HWW.out)
          have HAP := Aside0.mk H7.out.ap
          go_wp2_with fail
          refine bodyPost_ret (results_ct rfl _ _ (w.heap.size) 80 _ (0, 0) _ rfl HFIN.out.1 Try.underlying80 rfl (by kernel_rfl)) rfl ?_
          have hM := HM.out
          rw [hM]
          refine ⟨_, _, l, lc6, (numR s (numR s t 1).2 2).1, rfl, HFIN.out.2.1, HFIN.out.2.2.1, HFIN.out.2.2.2.1, HAP.out, HFIN.out.2.2.2.2, ?_, ?_, ?_, fun h0 => ?_⟩
          · exact .inl (by omega)
          · have := HL6.out.1; omega
          · have := HRD.out; exact ⟨this.1, by omega⟩
          · exact ⟨rfl, HL6.out.2 h0, rfl⟩
        · by_cases h5 : a < 251
          · have b4 : (a == 247) = false := beq_eq_false_iff_ne.2 h4
            have b5 : decide (a < 251) = true := decide_eq_true h5
            have e1 : wrap64 (251 - a) = 251 - a := by rw [← i64_w, IntKind.wrap_i64]; have := HRA.out; omega
            have e2 : wrap64 ((l.length : Int) - (251 - a)) = (l.length : Int) - (251 - a) := by rw [← i64_w, IntKind.wrap_i64]; have := HRA.out; have := HLN.out; omega
            by_cases hn : (l.length : Int) - (251 - a) < 0
            · have HM := Aside0.mk (show oneM s p l t = ⟨l, [], 0, failR (numR s (numR s t 1).2 2).2 17 t.1⟩ by unfold oneM; rw [HA.out, if_neg (by have := HC.out; omega), if_neg (by have := HC.out; omega), if_neg (by have := HC.out; omega), if_neg h4, if_pos h5, if_pos hn])
              have b6 : decide ((l.length : Int) - (251 - a) < 0) = true := decide_eq_true hn
              clear h4 h5
              go_upto_region 21 with (first | (go_at_call 73; refine (fail_any w0 _ g s (numR s (numR s t 1).2 2).2 17 t.1 H5.out.ri).mono ?_; rintro e6 w6 ⟨rfl, hI6, hk6⟩; have H6 := Aside0.mk (H5.out.rd hI6 hk6); obtain ⟨d0_6, d1_6, d2_6, df_6⟩ := H6.out.cells; clear hI6 hk6) | go_in)
              clear d0_5 d1_5 d2_5 df_5
              obtain ⟨x0, x1, x2, xf⟩ := H6.out.rcells
              have HFIN := Aside0.mk (H6.out.fin HWW.out)
              have HAP := Aside0.mk H6.out.ap
              go_wp2_with fail
              refine bodyPost_ret (results_ct rfl _ _ (w.heap.size) 80 _ (0, 0) _ rfl HFIN.out.1 Try.underlying80 rfl (by kernel_rfl)) rfl ?_
              have hM := HM.out
              rw [hM]
              refine ⟨_, _, l, [], 0, rfl, HFIN.out.2.1, HFIN.out.2.2.1, HFIN.out.2.2.2.1, HAP.out, HFIN.out.2.2.2.2, ?_, ?_, ?_, fun h0 => ?_⟩
              · exact .inl (by omega)
              · exact Nat.zero_le _
              · exact ⟨Int.le_refl _, by decide⟩
              · exact ⟨rfl, rfl, rfl⟩
            · obtain ⟨M, hM⟩ : ∃ M : Nat, (l.length : Int) - (251 - a) = (M : Int) := ⟨((l.length : Int) - (251 - a)).toNat, by omega⟩
              have e3 : wrap64 (M : Int) = (M : Int) := by rw [← i64_w, IntKind.wrap_i64]; have := HRA.out; have := HLN.out; omega
              have HML := Aside0.mk (show M ≤ l.length by have := HRA.out; omega)
              have HM := Aside0.mk (show oneM s p l t = ⟨l.take M, [], (numR s (numR s t 1).2 2).1, (numR s (numR s t 1).2 2).2⟩ by unfold oneM; rw [HA.out, if_neg (by have := HC.out; omega), if_neg (by have := HC.out; omega), if_neg (by have := HC.out; omega), if_neg h4, if_pos h5, if_neg hn, hM, Int.toNat_natCast])
              have b6 : decide ((l.length : Int) - (251 - a) < 0) = false := decide_eq_false hn
              go_upto_region 22 with (fail)
              first | rw [e3] | rw [e2, hM] | rw [hM]
              have HC4 := Aside0.mk (Kd.R_reads' H5.out.r1).2.1
              have m0 : ((0 : Int) ≤ (M : Int)) = True := eq_true (by omega)
              have m1 : (M ≤ c4) = True := eq_true (by have := HC4.out; have := HML.out; omega)
              have m2 : ((M : Int) ≤ (c4 : Int)) = True := eq_true (by have := HC4.out; have := HML.out; omega)
              clear h4 h5 hn hM b5 b6 e1 e2 e3
              go_upto_region 25 with (fail)
              have H6 := Aside0.mk (H5.out.put HWW.out 1 (.slice A4 M c4) (u1 := .slice A4 M c4) (u2 := (.slice none 0 0)) (m1 := l.take M) (m2 := []) rfl (Kd.R_take H5.out.r1 HML.out) H5.out.r2 (fun k_ e1 e2 => by cases e2))
              clear d0_5 d1_5 d2_5 df_5 m0 m1 m2
              generalize World.setCell _ ⟨bx, 1, none⟩ _ = W6 at *
              obtain ⟨d0_6, d1_6, d2_6, df_6⟩ := H6.out.cells
              obtain ⟨x0, x1, x2, xf⟩ := H6.out.rcells
              have HFIN := Aside0.mk (H6.out.fin HWW.out)
              have HAP := Aside0.mk H6.out.ap
              go_wp2_with fail
              refine bodyPost_ret (results_ct rfl _ _ (w.heap.size) 80 _ (0, 0) _ rfl HFIN.out.1 Try.underlying80 rfl (by kernel_rfl)) rfl ?_
              have hM := HM.out
              rw [hM]
              refine ⟨_, _, (l.take M), [], (numR s (numR s t 1).2 2).1, rfl, HFIN.out.2.1, HFIN.out.2.2.1, HFIN.out.2.2.2.1, HAP.out, HFIN.out.2.2.2.2, ?_, ?_, ?_, fun h0 => ?_⟩
              · exact .inl (by rw [List.length_take]; omega)
              · exact Nat.zero_le _
              · have := HRD.out; exact ⟨this.1, by omega⟩
              · exact ⟨rfl, rfl, rfl⟩
          · by_cases h6 : a < 255
            · obtain ⟨M, hM⟩ : ∃ M : Nat, a - 251 = (M : Int) := ⟨(a - 251).toNat, by omega⟩
              have HM3 := Aside0.mk (show M ≤ 3 by omega)
              have HM := Aside0.mk (show oneM s p l t = ⟨l ++ (valD s p M [] (numR s (numR s t 1).2 2).2).1, [], (numR s (numR s t 1).2 2).1, (valD s p M [] (numR s (numR s t 1).2 2).2).2⟩ by unfold oneM; rw [HA.out, if_neg (by have := HC.out; omega), if_neg (by have := HC.out; omega), if_neg (by have := HC.out; omega), if_neg h4, if_neg h5, if_pos h6, hM, Int.toNat_natCast])
              have HE1 := Aside0.mk (show wrap64 (a - 251) = (M : Int) by rw [← hM, ← i64_w, IntKind.wrap_i64]; have := HRA.out; omega)
              have b4 : (a == 247) = false := beq_eq_false_iff_ne.2 h4
              have b5 : decide (a < 251) = false := decide_eq_false h5
              have b6 : decide (a < 255) = true := decide_eq_true h6
              clear h4 h5 h6 hM
              go_upto_region 24 with (fail)
              have HD := Aside0.mk H5.out.drew
              clear d0_5 d1_5 d2_5 df_5
              refine start_ (n := 10) (S := fun w' => w'.cell? ⟨bx, 1, none⟩ = some (.slice A4 l.length c4)) (ds := [7, 9]) #[false, false, false, false, false, false, false, false, false, false] (by kernel_rfl) rfl rfl (HD.out.cells.2.1) (fun hHeld => ?_)
              refine pure_ (i := 0) (N := some 85) (v := ?_) (a' := ?_) #[true, false, false, false, false, false, false, false, false, false] rfl rfl (by kernel_rfl) (fun _ _ _ h => h) (Or.inl ⟨by rfl, ?_⟩) ?_ ?_
              rotate_left
              · intro w'
                go_simp
                with_reducible rfl
              rotate_left
              · simp only [Act.put, List.setIfInBounds_toArray, List.set_cons_zero, List.set_cons_succ, i64_w, i32_w]
                rfl
              refine pure_ (i := 2) (N := some 87) (v := ?_) (a' := ?_) #[true, false, true, false, false, false, false, false, false, false] rfl rfl (by kernel_rfl) (fun _ _ _ h => h) (Or.inl ⟨by rfl, ?_⟩) ?_ ?_
              rotate_left
              · intro w'
                go_simp
                with_reducible rfl
              rotate_left
              · simp only [Act.put, List.setIfInBounds_toArray, List.set_cons_zero, List.set_cons_succ, i64_w, i32_w]
                rfl
              refine pure_ (i := 3) (N := some 88) (v := ?_) (a' := ?_) #[true, false, true, true, false, false, false, false, false, false] rfl rfl (by kernel_rfl) (fun _ _ _ h => h) (Or.inl ⟨by rfl, ?_⟩) ?_ ?_
              rotate_left
              · intro w'
                go_simp
                with_reducible rfl
              rotate_left
              · simp only [Act.put, List.setIfInBounds_toArray, List.set_cons_zero, List.set_cons_succ, i64_w, i32_w]
                rfl
              refine pure_ (i := 4) (N := some 89) (v := ?_) (a' := ?_) #[true, false, true, true, true, false, false, false, false, false] rfl rfl (by kernel_rfl) (fun _ _ _ h => h) (Or.inl ⟨by rfl, ?_⟩) ?_ ?_
              rotate_left
              · intro w'
                go_simp
                with_reducible rfl
              rotate_left
              · simp only [Act.put, List.setIfInBounds_toArray, List.set_cons_zero, List.set_cons_succ, i64_w, i32_w]
                rfl
              refine pure_ (i := 5) (N := some 90) (v := ?_) (a' := ?_) #[true, false, true, true, true, true, false, false, false, false] rfl rfl (by kernel_rfl) (fun _ _ _ h => h) (Or.inl ⟨by rfl, ?_⟩) ?_ ?_
              rotate_left
              · intro w'
                go_simp
                with_reducible rfl
              rotate_left
              · simp only [Act.put, List.setIfInBounds_toArray, List.set_cons_zero, List.set_cons_succ, i64_w, i32_w]
                rfl
              refine take_ (i := 1) (N := some 86) (v := ?_) (a' := ?_) #[true, true, true, true, true, true, false, false, false, false] rfl rfl (by kernel_rfl) (fun _ _ _ h => h) (Or.inl ⟨by rfl, ?_⟩) hHeld ?_ ?_
              rotate_left
              · intro w' s0
                go_simp
                with_reducible rfl
              rotate_left
              · simp only [Act.put, List.setIfInBounds_toArray, List.set_cons_zero, List.set_cons_succ, i64_w, i32_w]
                rfl
              refine one_ (i := 6) (N := some 91) #[true, true, true, true, true, true, true, false, false, false] rfl rfl (by kernel_rfl) (by decide) (fun K hK => ?_)
              refine goes_ Try.func114 (by kernel_rfl) rfl #[.pointer (some ⟨g, 0, none⟩), .slice A1 p.length c1, .int .i64 (wrap64 (a - 251))] (by rfl) rfl rfl (by simp only [List.map_toArray, List.map_cons, List.map_nil]; rfl) ?_
              with_reducible refine (show Calls _ _ #[.pointer (some ⟨g, 0, none⟩), .slice A1 p.length c1, .int .i64 (wrap64 (a - 251))] _ (VPost w0 _ g s p M (numR s (numR s t 1).2 2).2) from by rw [HE1.out]; exact values_any w0 _ g s (numR s (numR s t 1).2 2).2 A1 c1 p M (by have := HM3.out; omega) HO5.out HD.out.ri (fun W_ hk_ => HR1.out W_ (keep_tr HD.out.kept hk_)) HC1.out HP.out).mono ?_
              rintro e7 w7 ⟨v7, lc7, rfl, hV7, hl7, hz7⟩
              refine ⟨_, rfl, ?_⟩
              obtain ⟨A7, k7, q7⟩ := Kd.R_slice hV7.row
              subst q7
              have HV7 := Aside0.mk hV7
              have HL7 := Aside0.mk (And.intro hl7 hz7)
              have HQ := Aside0.mk (HD.out.rd hV7.ri hV7.kept)
              have HLX := Aside0.mk (show (l.length + lc7.length) * 32 ≤ 140737488355328 by have := HL7.out.1; have := HM3.out; have := HLN.out; omega)
              clear hV7 hl7 hz7
              refine hK.out _ _ (HQ.out.cells.2.1) (fun hHeld => ?_)
              clear hK K
              refine norm_ (a' := ?_) ?_ ?_
              rotate_left
              · show Act.put _ (some 91) _ = _
                simp only [Act.put, List.setIfInBounds_toArray, List.set_cons_zero, List.set_cons_succ, i64_w, i32_w]
                rfl
              refine last_ (i := 7) (N := some 92) #[true, true, true, true, true, true, true, true, false, false] rfl rfl (by kernel_rfl) (by decide) (fun K hK => ?_)
              refine Kd.R_append_rows_step k54 (w0 := w7) w.heap.size (by rfl) (.tmp 86) (.tmp 91) 44 54 (.agg #[(.int .u8 0), (.string ⟨#[]⟩), (.int .i64 0)]) 32 rfl Try.underlying44 info54 rfl (by decide) (by omega) (.slice A4 l.length c4) l lc7 _ _ _ (fun _ => True) (fun _ => False) rfl rfl HQ.out.r1 (Kd.R_reads' HV7.out.row).2.2 (fun _ _ h => h) (fun _ h => h.elim) (fun _ _ => trivial) (Below.refl _ _) HQ.out.kept.1 HLX.out ?_
              intro v8 w8 hr8 hb8 hg8 hat8
              obtain ⟨A8, k8, hv8⟩ := Kd.R_slice hr8
              simp only [List.length_append] at hv8
              subst hv8
              refine hK.out _ _ ?_
              clear hK K
              refine norm_ (a' := ?_) ?_ ?_
              rotate_left
              · show Act.put _ (some 92) _ = _
                simp only [Act.put, List.setIfInBounds_toArray, List.set_cons_zero, List.set_cons_succ, i64_w, i32_w]
                rfl
              refine pure_ (i := 8) (N := some 93) (v := ?_) (a' := ?_) #[true, true, true, true, true, true, true, true, true, false] rfl rfl (by kernel_rfl) (fun _ _ _ h => h) (Or.inl ⟨by rfl, ?_⟩) ?_ ?_
              rotate_left
              · intro w'
                go_simp
                with_reducible rfl
              rotate_left
              · simp only [Act.put, List.setIfInBounds_toArray, List.set_cons_zero, List.set_cons_succ, i64_w, i32_w]
                rfl
              refine last_ (i := 9) (N := none) #[true, true, true, true, true, true, true, true, true, true] rfl rfl (by kernel_rfl) (by decide) (fun K hK => ?_)
              have cg1 := HQ.out.grown1 hg8
              have ca1 := cg1.1
              have cf1 := cg1.2
              have H9 := Aside0.mk (HQ.out.app1 HWW.out hg8 hr8)
              obtain ⟨d0_9, d1_9, d2_9, df_9⟩ := H9.out.cells
              refine skip_ (w1 := ?_) (by rfl) rfl ?_ ?_
              rotate_left
              · go_simp
                rfl
              refine hK.out _ _ ?_
              clear hK K
              refine done_ (by kernel_rfl) ?_
              clear cg1 ca1 cf1
              try clear hHeld
              generalize World.setCell _ ⟨bx, 1, none⟩ _ = W9 at *
              obtain ⟨x0, x1, x2, xf⟩ := H9.out.rcells
              have HFIN := Aside0.mk (H9.out.fin HWW.out)
              have HAP := Aside0.mk H9.out.ap
              go_wp2_with fail
              refine bodyPost_ret (results_ct rfl _ _ (w.heap.size) 80 _ (0, 0) _ rfl HFIN.out.1 Try.underlying80 rfl (by kernel_rfl)) rfl ?_
              have hM := HM.out
              rw [hM]
              refine ⟨_, _, (l ++ lc7), [], (numR s (numR s t 1).2 2).1, rfl, HFIN.out.2.1, HFIN.out.2.2.1, HFIN.out.2.2.2.1, HAP.out, HFIN.out.2.2.2.2, ?_, ?_, ?_, fun h0 => ?_⟩
              · exact .inl (by rw [List.length_append]; have := HL7.out.1; have := HM3.out; omega)
              · exact Nat.zero_le _
              · have := HRD.out; exact ⟨this.1, by omega⟩
              · exact ⟨by rw [HL7.out.2 h0], rfl, rfl⟩
            · have HC7 := Aside0.mk (And.intro h4 (And.intro h5 h6))
              have b4 : (a == 247) = false := beq_eq_false_iff_ne.2 h4
              have b5 : decide (a < 251) = false := decide_eq_false h5
              have b6 : decide (a < 255) = false := decide_eq_false h6
              clear h4 h5 h6
              go_upto_region 14 with (first | (go_at_call 68; refine (num_any w0 _ g s (numR s (numR s t 1).2 2).2 2 2 rfl (by decide) HO5.out H5.out.ri).mono ?_; rintro e6 w6 ⟨rfl, hI6, hk6⟩; have H6 := Aside0.mk (H5.out.rd hI6 hk6); obtain ⟨d0_6, d1_6, d2_6, df_6⟩ := H6.out.cells; clear hI6 hk6; have HRN6 := Aside0.mk (num2_lt s (numR s (numR s t 1).2 2).2); have HO6 := Aside0.mk (HO5.out.num 2); obtain ⟨m6, hm6⟩ : ∃ m : Nat, (numR s (numR s (numR s t 1).2 2).2 2).1 = (m : Int) := ⟨_, (Int.toNat_of_nonneg HRN6.out.1).symm⟩; rw [hm6]; have HMM6 := Aside0.mk hm6; have HML6 := Aside0.mk (show m6 ≤ 65536 by have := HRN6.out; omega); clear hm6) | (go_at_call 114; refine (values_any w0 _ g s (numR s (numR s (numR s t 1).2 2).2 2).2 A1 c1 p m6 HML6.out HO6.out H6.out.ri (fun W_ hk_ => HR1.out W_ (keep_tr H6.out.kept hk_)) HC1.out HP.out).mono ?_; rintro e7 w7 ⟨v7, lc7, rfl, hV7, hl7, hz7⟩; obtain ⟨A7, k7, q7⟩ := Kd.R_slice hV7.row; subst q7; have HV7 := Aside0.mk hV7; have HL7 := Aside0.mk (And.intro hl7 hz7); have H7 := Aside0.mk (H6.out.rd hV7.ri hV7.kept); obtain ⟨d0_7, d1_7, d2_7, df_7⟩ := H7.out.cells; clear hV7 hl7 hz7) | go_in)
              have H8 := Aside0.mk (H7.out.put HWW.out 1 (.slice A7 lc7.length k7) (u1 := .slice A7 lc7.length k7) (u2 := (.slice none 0 0)) rfl (Kd.R_lower HV7.out.row H6.out.kept.1) H7.out.r2 (fun k_ e1 e2 => by cases e2))
              clear d0_5 d1_5 d2_5 df_5
              clear d0_6 d1_6 d2_6 df_6
              clear d0_7 d1_7 d2_7 df_7
              generalize World.setCell _ ⟨bx, 1, none⟩ _ = W8 at *
              obtain ⟨d0_8, d1_8, d2_8, df_8⟩ := H8.out.cells
              have HO8 := Aside0.mk (OKR.val (p := p) m6 (l := []) HO6.out)
              clear H5 H6 H7 HV7
              go_upto_region 25 with (first | (go_at_call 68; refine (num_any w0 _ g s (valD s p m6 [] (numR s (numR s (numR s t 1).2 2).2 2).2).2 2 2 rfl (by decide) HO8.out H8.out.ri).mono ?_; rintro e9 w9 ⟨rfl, hI9, hk9⟩; have H9 := Aside0.mk (H8.out.rd hI9 hk9); obtain ⟨d0_9, d1_9, d2_9, df_9⟩ := H9.out.cells; clear hI9 hk9; have HRN9 := Aside0.mk (num2_lt s (valD s p m6 [] (numR s (numR s (numR s t 1).2 2).2 2).2).2); have HO9 := Aside0.mk (HO8.out.num 2); obtain ⟨m9, hm9⟩ : ∃ m : Nat, (numR s (valD s p m6 [] (numR s (numR s (numR s t 1).2 2).2 2).2).2 2).1 = (m : Int) := ⟨_, (Int.toNat_of_nonneg HRN9.out.1).symm⟩; rw [hm9]; have HMM9 := Aside0.mk hm9; have HML9 := Aside0.mk (show m9 ≤ 65536 by have := HRN9.out; omega); clear hm9) | (go_at_call 114; refine (values_any w0 _ g s (numR s (valD s p m6 [] (numR s (numR s (numR s t 1).2 2).2 2).2).2 2).2 A1 c1 p m9 HML9.out HO9.out H9.out.ri (fun W_ hk_ => HR1.out W_ (keep_tr H9.out.kept hk_)) HC1.out HP.out).mono ?_; rintro e10 w10 ⟨v10, lc10, rfl, hV10, hl10, hz10⟩; obtain ⟨A10, k10, q10⟩ := Kd.R_slice hV10.row; subst q10; have HV10 := Aside0.mk hV10; have HL10 := Aside0.mk (And.intro hl10 hz10); have H10 := Aside0.mk (H9.out.rd hV10.ri hV10.kept); obtain ⟨d0_10, d1_10, d2_10, df_10⟩ := H10.out.cells; clear hV10 hl10 hz10) | go_in)
              have H11 := Aside0.mk (H10.out.put HWW.out 2 (.slice A10 lc10.length k10) (u1 := .slice A7 lc7.length k7) (u2 := .slice A10 lc10.length k10) rfl H10.out.r1 (Kd.R_lower HV10.out.row H9.out.kept.1) (fun k_ e1 e2 => by have := Kd.R_lt H9.out.r1 k_ e1; have := Kd.R_base HV10.out.row k_ e2; omega))
              clear d0_8 d1_8 d2_8 df_8
              clear d0_9 d1_9 d2_9 df_9
              clear d0_10 d1_10 d2_10 df_10
              generalize World.setCell _ ⟨bx, 2, none⟩ _ = W11 at *
              obtain ⟨d0_11, d1_11, d2_11, df_11⟩ := H11.out.cells
              have HM := Aside0.mk (show oneM s p l t = ⟨(valD s p m6 [] (numR s (numR s (numR s t 1).2 2).2 2).2).1, (valD s p m9 [] (numR s (valD s p m6 [] (numR s (numR s (numR s t 1).2 2).2 2).2).2 2).2).1, (numR s (numR s t 1).2 2).1, (valD s p m9 [] (numR s (valD s p m6 [] (numR s (numR s (numR s t 1).2 2).2 2).2).2 2).2).2⟩ by unfold oneM; rw [HA.out, if_neg (by have := HC.out; omega), if_neg (by have := HC.out; omega), if_neg (by have := HC.out; omega), if_neg (by have := HC7.out; omega), if_neg (by have := HC7.out; omega), if_neg (by have := HC7.out; omega), HMM6.out, Int.toNat_natCast, HMM9.out, Int.toNat_natCast])
              obtain ⟨x0, x1, x2, xf⟩ := H11.out.rcells
              have HFIN := Aside0.mk (H11.out.fin HWW.out)
              have HAP := Aside0.mk H11.out.ap
              go_wp2_with fail
              refine bodyPost_ret (results_ct rfl _ _ (w.heap.size) 80 _ (0, 0) _ rfl HFIN.out.1 Try.underlying80 rfl (by kernel_rfl)) rfl ?_
              have hM := HM.out
              rw [hM]
              refine ⟨_, _, lc7, lc10, (numR s (numR s t 1).2 2).1, rfl, HFIN.out.2.1, HFIN.out.2.2.1, HFIN.out.2.2.2.1, HAP.out, HFIN.out.2.2.2.2, ?_, ?_, ?_, fun h0 => ?_⟩
              · exact .inr (by have := HL7.out.1; have := HML6.out; omega)
              · have := HL10.out.1; have := HML9.out; omega
              · have := HRD.out; exact ⟨this.1, by omega⟩
              · exact ⟨HL7.out.2 (val_clean h0), HL10.out.2 h0, rfl⟩
end Go.Proofs.Ytfnjbmpolggdeaa.MD
end
section
namespace Go.Proofs.Ytfnjbmpolggdeaa.MD
open Go.RowKit Go.Lib Go.Proofs.YtfnjbmpolggdeaaW.PrintWords Go.Proofs.YtfnjbmpolggdeaaW.PrintLast Go.Proofs.YtfnjbmpolggdeaaW.PrintMore
set_option linter.unusedVariables false
set_option linter.unusedSimpArgs false
def frmD (s : ByteArray) (p : List S37) : Nat → List S80 → List S54 → Int → RdS → List S80 × RdS
  | 0, L, l, pl, t => (L, t)
  | n + 1, L, l, pl, t => if t.2.1 ≠ 0 then (L, t) else frmD s p n (L ++ [⟨pl + ((oneM s p l t).d + 1), (oneM s p l t).l1, (oneM s p l t).l2⟩]) (oneM s p l t).l1 (pl + ((oneM s p l t).d + 1)) (oneM s p l t).t
def finR (s : ByteArray) (L : List S80) (t : RdS) : List S80 × Int × Int :=
  if t.1 < (s.size : Int) then (if (failR t 2 t.1).2.1 ≠ 0 then ([], (failR t 2 t.1).2.1, (failR t 2 t.1).2.2) else (L, 0, 0))
  else (if t.2.1 ≠ 0 then ([], t.2.1, t.2.2) else (L, 0, 0))
def readD (s : ByteArray) (p : List S37) (first : List S54) : List S80 × Int × Int :=
  finR s (frmD s p (numR s (0, 0, 0) 2).1.toNat [] first (-1) (numR s (0, 0, 0) 2).2).1 (frmD s p (numR s (0, 0, 0) 2).1.toNat [] first (-1) (numR s (0, 0, 0) 2).2).2
theorem frm_stuck {s : ByteArray} {p : List S37} {n : Nat} {L : List S80} {l : List S54} {pl : Int} {t : RdS} (h : t.2.1 ≠ 0) : frmD s p n L l pl t = (L, t) := by
  cases n with
  | zero => rfl
  | succ n => unfold frmD; rw [if_pos h]
theorem frm_step {s : ByteArray} {p : List S37} {n : Nat} {L : List S80} {l : List S54} {pl : Int} {t : RdS} (h : t.2.1 = 0) : frmD s p (n + 1) L l pl t = frmD s p n (L ++ [⟨pl + ((oneM s p l t).d + 1), (oneM s p l t).l1, (oneM s p l t).l2⟩]) (oneM s p l t).l1 (pl + ((oneM s p l t).d + 1)) (oneM s p l t).t := by
  show (if _ then _ else _) = _
  rw [if_neg (fun e => e h)]
theorem frr_ok {s : ByteArray} {c : Prop} [Decidable c] {a b : FrR} (h1 : OKR s a.t) (h2 : OKR s b.t) : OKR s (if c then a else b).t := by split <;> assumption
theorem OKR.one {s : ByteArray} {p : List S37} {l : List S54} {t : RdS} (h : OKR s t) : OKR s (oneM s p l t).t := by
  unfold oneM
  refine frr_ok (h.num 1) (frr_ok (OKR.val _ (h.num 1)) (frr_ok ((h.num 1).fail _ _) (frr_ok (OKR.val _ ((h.num 1).num 2)) (frr_ok (frr_ok (((h.num 1).num 2).fail _ _) ((h.num 1).num 2)) (frr_ok (OKR.val _ ((h.num 1).num 2)) ?_)))))
  exact OKR.val _ ((OKR.val _ (((h.num 1).num 2).num 2)).num 2)
def sharp {α : Type} (d : Kd α) (Q : List Value → Prop) : Kd α where
  sz := d.sz
  E := d.E
  K := d.K
  M := fun w base ok x cs => d.M w base ok x cs ∧ Q cs
  K_len := d.K_len
  K_one := d.K_one
  K_below := d.K_below
  K_of_M := fun h => d.K_of_M h.1
  M_mono := fun hok h => ⟨d.M_mono hok h.1, h.2⟩
  M_bound := fun h => ⟨d.M_bound h.1, h.2⟩
  M_move := fun hm h => ⟨d.M_move hm h.1, h.2⟩
  M_lower := fun hb h => ⟨d.M_lower hb h.1, h.2⟩
def ap12 (cs : List Value) : Prop := ∀ v1 v2, cs[1]? = some v1 → cs[2]? = some v2 → ∀ k, v1.ownBlock = some k → v2.ownBlock ≠ some k
def kF : Kd S80 := sharp k80 ap12
theorem kF_S {W : World} {B : Nat} {ok : Nat → Prop} {V : Value} {l : List S80} (h : Kd.S kF 80 W B ok V l) : Kd.S k80 80 W B ok V l := by
  obtain ⟨f, h0, inner, ho, hr⟩ := h
  exact ⟨f, h0, inner, ho, hr.1, fun j p hj => (hr.2 j p hj).1⟩
abbrev FR (W : World) (B : Nat) (V : Value) (l : List S80) : Prop := Kd.S kF 80 W B (fun _ => True) V l
theorem FR.keep {W W1 : World} {B g t : Nat} {V : Value} {l : List S80} {cells : Array Value} (h : FR W B V l) (hb : W.heap[g]? = some (.cells cells t (0, 0))) (ht : ∀ q, q ∈ 80 :: kF.E → q ≠ t) (hs : ∀ k, k < W.heap.size → k ≠ g → W1.heap[k]? = W.heap[k]?) : FR W1 B V l :=
  Kd.S_mono (Kd.S_step (Kd.S_types h hb ht) (fun k hk hlt => hs k hlt hk.2)) (fun _ _ => trivial)
theorem FR.elder {W W1 : World} {B g t : Nat} {V : Value} {l : List S80} {cells : Array Value} (h : FR W B V l) (hb : W.heap[g]? = some (.cells cells t (0, 0))) (ht : ∀ q, q ∈ 80 :: kF.E → q ≠ t) (hs : ∀ k, k < W.heap.size → k ≠ g → W1.heap[k]? = W.heap[k]?) : Kd.S kF 80 W1 B (fun k => True ∧ ¬ W.heap.size ≤ k) V l :=
  Kd.S_mono (Kd.S_step (Kd.S_bound (Kd.S_types h hb ht)) (fun k hk hlt => hs k hlt hk.1.2)) (fun k hk => ⟨trivial, by have := hk.2.2.1; omega⟩)
structure MS (w W : World) (g : Nat) (s : ByteArray) (t : RdS) (vl : Value) (l : List S54) (V : Value) (L : List S80) : Prop where
  ri : RI w W g s t
  loc : VR W w.heap.size vl l
  out : FR W w.heap.size V L
namespace MS
variable {w W W1 : World} {g : Nat} {s : ByteArray} {t t1 : RdS} {vl V V1 : Value} {l : List S54} {L : List S80}
theorem rd (h : MS w W g s t vl l V L) (hI : RI w W1 g s t1) (hk : KeepBut W W1 g none) : MS w W1 g s t1 vl l V L where
  ri := hI
  loc := h.loc.step (fun k e => hk.2 k (Kd.R_lt h.loc k e) (fun he => h.loc.ne h.ri.1.1 (by decide) (he ▸ e)) (by simp))
  out := h.out.keep h.ri.1.1 (by decide) (fun k hlt hne => hk.2 k hlt hne (by simp))
theorem below (h : MS w W g s t vl l V L) (hb : Below W.heap.size W W1) : MS w W1 g s t vl l V L := h.rd (h.ri.below hb) (KeepBut.of_below hb g none)
theorem keep (h : MS w W g s t vl l V L) (hk : KeepBut W W1 g none) : KeepBut w W1 g none := keep_tr (KeepBut.of_below h.ri.2 g none) hk
theorem locC {A : Option Addr} {m c : Nat} (h : MS w W g s t (.slice A m c) l V L) {W_ : World} (hk : KeepBut W W_ g none) : Kd.C k54 W_ A l.length l :=
  (Kd.R_reads' (VR.step h.loc (fun k e => hk.2 k (Kd.R_lt h.loc k e) (fun he => h.loc.ne h.ri.1.1 (by decide) (he ▸ e)) (by simp)))).2.2
end MS
structure MB (w wc W : World) (g : Nat) (s : ByteArray) (t : RdS) (V : Value) (L : List S80) (bx : Nat) (x : Int) (v1 : Value) (l1 : List S54) (v2 : Value) (l2 : List S54) : Prop where
  ri : RI w W g s t
  out : Kd.S kF 80 W w.heap.size (fun k => True ∧ ¬ wc.heap.size ≤ k) V L
  box : W.heap[bx]? = some (.cells #[.int .i64 x, v1, v2] 80 (0, 0))
  nb : wc.heap.size ≤ bx
  r1 : VR W wc.heap.size v1 l1
  r2 : VR W wc.heap.size v2 l2
  ap : ∀ k, v1.ownBlock = some k → v2.ownBlock ≠ some k
  wcs : w.heap.size ≤ wc.heap.size
  cur : ∀ k, V.ownBlock = some k → k < wc.heap.size
theorem MS.box {w wc W : World} {g : Nat} {s : ByteArray} {t t1 : RdS} {vl V v1 v2 : Value} {l l1 l2 : List S54} {L : List S80} (h : MS w wc g s t vl l V L) (hI : RI w W g s t1) (h1 : VR W wc.heap.size v1 l1) (h2 : VR W wc.heap.size v2 l2) (ha : ∀ k, v1.ownBlock = some k → v2.ownBlock ≠ some k) (hk : KeepBut wc W g none) :
    MB w wc (W.alloc (.cells #[.int .i64 0, v1, v2] 80)) g s t1 V L W.heap.size 0 v1 l1 v2 l2 := by
  have hb := below_alloc (Below.refl W.heap.size W) (.cells #[.int .i64 0, v1, v2] 80)
  exact {
    ri := hI.below hb
    out := Kd.S_below (h.out.elder h.ri.1.1 (by decide) (fun k hlt hne => hk.2 k hlt hne (by simp))) hb
    box := Array.getElem?_push_size
    nb := hk.1
    r1 := h1.step (fun k e => hb.block k (Kd.R_lt h1 k e))
    r2 := h2.step (fun k e => hb.block k (Kd.R_lt h2 k e))
    ap := ha
    wcs := h.ri.2.size
    cur := fun k e => Kd.S_lt h.out k e }
namespace MB
variable {w wc W W1 : World} {g bx : Nat} {s : ByteArray} {t t1 : RdS} {V V1 v1 v2 : Value} {l1 l2 : List S54} {L L1 : List S80} {x y : Int}
theorem gne (h : MB w wc W g s t V L bx x v1 l1 v2 l2) : bx ≠ g := fun e => h.ri.1.ne_blk h.box (by decide) e.symm
theorem cells (h : MB w wc W g s t V L bx x v1 l1 v2 l2) : W.cell? ⟨bx, 0, none⟩ = some (.int .i64 x) ∧ W.cell? ⟨bx, 1, none⟩ = some v1 ∧ W.cell? ⟨bx, 2, none⟩ = some v2 ∧ (∀ j, W.frozen? ⟨bx, j, none⟩ = false) :=
  ⟨blk_cell h.box 0, blk_cell h.box 1, blk_cell h.box 2, fun j => blk_frozen h.box j⟩
theorem keepv {v : Value} {m : List S54} {B : Nat} {u : Value} (h : MB w wc W g s t V L bx x v1 l1 v2 l2) (hv : VR W B v m) : VR (W.setCell ⟨bx, 0, none⟩ u) B v m :=
  hv.step (fun k e => Below.heap_setCell W ⟨bx, 0, none⟩ u k (fun he => hv.ne h.box (by decide) (by rw [← show k = bx from he]; exact e)))
theorem set0 (h : MB w wc W g s t V L bx x v1 l1 v2 l2) (y : Int) : MB w wc (W.setCell ⟨bx, 0, none⟩ (.int .i64 y)) g s t V L bx y v1 l1 v2 l2 where
  ri := ⟨h.ri.1.far (fun e => h.gne e.symm) _, h.ri.2.setCell (p := ⟨bx, 0, none⟩) (Nat.le_trans h.wcs h.nb) _⟩
  out := Kd.S_step h.out (fun k ho _ => Below.heap_setCell W ⟨bx, 0, none⟩ _ k (fun he => ho.2 (by rw [show k = bx from he]; exact h.nb)))
  box := blk_set h.box 0 _
  nb := h.nb
  r1 := h.keepv h.r1
  r2 := h.keepv h.r2
  ap := h.ap
  wcs := h.wcs
  cur := h.cur
theorem elem (h : MB w wc W g s t V L bx x v1 l1 v2 l2) : kF.M W w.heap.size (fun k => wc.heap.size ≤ k) (⟨x, l1, l2⟩ : S80) [.int .i64 x, v1, v2] := by
  have q1 : Kd.R k54 54 W w.heap.size (fun k => wc.heap.size ≤ k) v1 l1 := Kd.R_mono (Kd.R_lower (Kd.R_tight rfl h.r1) h.wcs) (fun k hk => Kd.R_base h.r1 k hk.symm)
  have q2 : Kd.R k54 54 W w.heap.size (fun k => wc.heap.size ≤ k) v2 l2 := Kd.R_mono (Kd.R_lower (Kd.R_tight rfl h.r2) h.wcs) (fun k hk => Kd.R_base h.r2 k hk.symm)
  refine ⟨k80_mkM W w.heap.size _ (⟨x, l1, l2⟩ : S80) q1 q2, fun u1 u2 e1 e2 => ?_⟩
  injection e1 with e1
  injection e2 with e2
  subst e1 e2
  exact h.ap
theorem app (h : MB w wc W g s t V L bx x v1 l1 v2 l2) (hg : W.grownBy W1 V.ownBlock) (hr : FR W1 w.heap.size V1 L1) : MS w W1 g s t v1 l1 V1 L1 where
  ri := ⟨h.ri.1.grown hg (fun e => Kd.S_ne h.out h.ri.1.1 (by decide) e), pw_below_grown h.ri.2 _ h.ri.2.size hg (fun k hk => Kd.S_base h.out k hk)⟩
  loc := VR.step (Kd.R_lower h.r1 h.wcs) (fun k e => hg.block k (Kd.R_lt h.r1 k e) (fun he => by
    obtain ⟨c1, e1⟩ := Kd.R_typed h.r1 k e
    exact Kd.S_ne h.out e1 (by decide) he))
  out := hr
end MB
end Go.Proofs.Ytfnjbmpolggdeaa.MD
end
section
namespace Go.Proofs.Ytfnjbmpolggdeaa.MD.RR
open Go.RowKit Go.Lib Go.Proofs.YtfnjbmpolggdeaaW.PrintWords Go.Proofs.YtfnjbmpolggdeaaW.PrintLast Go.Proofs.YtfnjbmpolggdeaaW.PrintMore
set_option linter.unusedVariables false
set_option linter.unusedSimpArgs false
def RI (w0 W : World) (g : Nat) (s : ByteArray) (t : RdS) : Prop := IsS110 w0 W g s t.1 t.2.1 t.2.2 ∧ Below w0.heap.size w0 W
theorem RI.below {w0 W W1 : World} {g : Nat} {s : ByteArray} {t : RdS} (h : RI w0 W g s t) (hb : Below W.heap.size W W1) : RI w0 W1 g s t := ⟨h.1.below hb, below_then h.2 h.2.size hb⟩
theorem RI.lt {w0 W : World} {g : Nat} {s : ByteArray} {t : RdS} (h : RI w0 W g s t) : g < W.heap.size := h.1.lt
theorem RI.ge {w0 W : World} {g : Nat} {s : ByteArray} {t : RdS} (h : RI w0 W g s t) : w0.heap.size ≤ g := h.1.ge
def RPost (w0 w : World) (g : Nat) (s : ByteArray) (t : RdS) (v : Value) (e : Ending) (w' : World) : Prop := e = .returned v ∧ RI w0 w' g s t ∧ KeepBut w w' g none
theorem RI.c1 {w0 W : World} {g : Nat} {s : ByteArray} {t : RdS} (h : RI w0 W g s t) : W.cell? ⟨g, 1, none⟩ = some (.int .i64 t.1) := blk_cell h.1.1 1
theorem RI.c2 {w0 W : World} {g : Nat} {s : ByteArray} {t : RdS} (h : RI w0 W g s t) : W.cell? ⟨g, 2, none⟩ = some (.int .i64 t.2.1) := blk_cell h.1.1 2
theorem RI.c3 {w0 W : World} {g : Nat} {s : ByteArray} {t : RdS} (h : RI w0 W g s t) : W.cell? ⟨g, 3, none⟩ = some (.int .i64 t.2.2) := blk_cell h.1.1 3
theorem bt_bs {b : ByteArray} {i : Nat} (h : i < b.size) : bt b (i : Int) = ((bs b)[i]'(by rw [bs_length]; exact h) : Nat) := by
  unfold bt
  rw [Int.toNat_natCast, dif_pos h]
  unfold bs
  rw [List.getElem_map]
  rfl
theorem u64_id (z : Int) (z0 : 0 ≤ z) (z1 : z < 18446744073709551616) : IntKind.u64.wrap z = z := by
  simp only [IntKind.wrap, IntKind.bits, IntKind.signed]
  simp
  omega
theorem acc_step {a c : Nat} (ha : a < 16777216) (hc : c < 256) : IntKind.u64.wrap (IntKind.u64.wrap ((a : Int) * 256) + IntKind.u64.wrap (c : Int)) = ((a * 256 + c : Nat) : Int) := by
  rw [u64_id ((a : Int) * 256) (by omega) (by omega), u64_id (c : Int) (by omega) (by omega), u64_id _ (by omega) (by omega)]
  omega
theorem take_lt {b : ByteArray} (hb : b.size ≤ 4) {i : Nat} (hi : i < b.size) : numB ((bs b).take i) < 16777216 := by
  have hlt := numB_lt ((bs b).take i) (fun c hc => bs_lt b c (List.mem_of_mem_take hc))
  have hlen := bs_length b
  rw [List.length_take, Nat.min_eq_left (by omega)] at hlt
  have hp : (256 : Nat) ^ i ≤ 256 ^ 3 := Nat.pow_le_pow_right (by decide) (by omega)
  exact Nat.lt_of_lt_of_le hlt hp
theorem num_l0 {b : ByteArray} (hb : b.size ≤ 4) : ∀ (k i : Nat), i ≤ b.size → b.size - i < k → jvmcoreref1_Num.l0 k b ((numB ((bs b).take i) : Nat) : Int) (i : Int) = some ((numB (bs b) : Nat) : Int) := by
  intro k
  induction k with
  | zero => intro i h0 h1; exact absurd h1 (Nat.not_lt_zero _)
  | succ k ih =>
    intro i h0 h1
    have hlen := bs_length b
    rw [jvmcoreref1_Num.l0]
    by_cases hc : i < b.size
    · have hl := take_lt hb hc
      have hil : i < (bs b).length := by omega
      have hbl := bs_lt b ((bs b)[i]'hil) (List.getElem_mem _)
      have hsn : numB ((bs b).take (i + 1)) = numB ((bs b).take i) * 256 + (bs b)[i]'hil := by rw [List.take_succ_eq_append_getElem hil, numB_snoc]
      have e2 : wrap64 ((i : Int) + 1) = ((i + 1 : Nat) : Int) := by rw [← i64_w, IntKind.wrap_i64]; omega
      have h2 := ih (i + 1) (by omega) (by omega)
      rw [hsn] at h2
      rw [if_pos (by omega), if_pos (by omega), bt_bs hc, acc_step hl hbl, e2]
      exact h2
    · obtain rfl : i = b.size := by omega
      rw [if_neg (by omega), List.take_of_length_le (by omega)]
theorem num_f (k : Nat) {b : ByteArray} (hb : b.size ≤ 4) : jvmcoreref1_Num.f (k + 5) b = some ((numB (bs b) : Nat) : Int) := num_l0 hb (k + 5) 0 (by omega) (by omega)
theorem take_f (k : Nat) {s : ByteArray} {t : RdS} (h : OKR s t) (n : Nat) (hn : n ≤ 4) : ∃ b : ByteArray, jvmcoreref3_cut_take.f (k + 5) s t.1 t.2.1 t.2.2 (n : Int) = some (b, s, (numR s t n).2.1, (numR s t n).2.2.1, (numR s t n).2.2.2) ∧ b.size ≤ 4 ∧ ((numB (bs b) : Nat) : Int) = (numR s t n).1 := by
  obtain ⟨h0, h1, h2⟩ := h
  obtain ⟨at_, er, es⟩ := t
  dsimp only at h0 h1
  have hz : (⟨#[]⟩ : ByteArray).size ≤ 4 := by decide
  have hnb : numB (bs (⟨#[]⟩ : ByteArray)) = 0 := by decide
  unfold jvmcoreref3_cut_take.f numR
  dsimp only
  have e3 : wrap64 (at_ + (n : Int)) = at_ + (n : Int) := by rw [← i64_w, IntKind.wrap_i64]; omega
  by_cases he : er = 0
  · subst he
    rw [if_pos rfl, if_neg (by omega), if_neg (fun h => h rfl), e3]
    by_cases hc : (n : Int) > (s.size : Int) - at_
    · rw [if_pos hc, decide_eq_true (by omega)]
      rw [jvmcoreref3_cut_take.j0]
      unfold jvmcoreref3_cut_fail.f
      rw [if_pos rfl, if_pos rfl, Option.bind_some]
      dsimp only
      rw [if_neg (by decide)]
      exact ⟨_, rfl, hz, by rw [hnb]; rfl⟩
    · rw [if_neg hc, decide_eq_false (by omega)]
      rw [jvmcoreref3_cut_take.j0]
      rw [if_neg (by decide), if_pos rfl, if_pos h0, e3, if_pos (by omega), if_pos (by omega)]
      have e4 : (at_ + (n : Int)).toNat - at_.toNat = n := by omega
      refine ⟨_, rfl, ?_, ?_⟩
      · rw [← bs_length, bs_ext, List.length_take, List.length_drop, bs_length]; omega
      · rw [bs_ext, e4]
  · rw [if_neg he, if_pos he]
    rw [jvmcoreref3_cut_take.j0]
    rw [if_neg (by decide), if_neg he]
    exact ⟨_, rfl, hz, by rw [hnb]; rfl⟩
theorem cut_num (k : Nat) {s : ByteArray} {t : RdS} (h : OKR s t) (n : Nat) (hn : n ≤ 4) : jvmcoreref3_cut_num.f (k + 5) s t.1 t.2.1 t.2.2 (n : Int) = some ((numR s t n).1, s, (numR s t n).2.1, (numR s t n).2.2.1, (numR s t n).2.2.2) := by
  obtain ⟨b, h1, h2, h3⟩ := take_f k h n hn
  have hr := num_range s t n hn
  have hp : (256 : Nat) ^ n ≤ 256 ^ 4 := Nat.pow_le_pow_right (by decide) hn
  have h4 : (256 : Nat) ^ 4 = 4294967296 := by decide
  unfold jvmcoreref3_cut_num.f
  rw [h1, Option.bind_some, num_f k (b := b) h2, Option.bind_some, h3]
  rw [wr (by omega) (by omega)]
theorem num_any (w0 w : World) (g : Nat) (s : ByteArray) (t : RdS) (n : Nat) (j : Int) (hj : j = n) (hn : n ≤ 4) (ht : OKR s t) (hI : RI w0 w g s t) :
    Calls Try.prog 74 #[.pointer (some ⟨g, 0, none⟩), .int .i64 j] w (RPost w0 w g s (numR s t n).2 (.int .i64 (numR s t n).1)) := by
  subst hj
  refine (jvmcoreref3_cut_num.calls 8 g s t.1 t.2.1 t.2.2 n _ _ _ _ _ w0 w hI.1 hI.2 (cut_num 3 ht n hn)).mono ?_
  rintro e w' ⟨h1, h2, h3, h4⟩
  exact ⟨h1, ⟨h2, h3⟩, h4⟩
theorem fail_any (w0 w : World) (g : Nat) (s : ByteArray) (t : RdS) (e p : Int) (hI : RI w0 w g s t) :
    Calls Try.prog 77 #[.pointer (some ⟨g, 0, none⟩), .int .i64 e, .int .i64 p] w (RPost w0 w g s (failR t e p) (.tuple #[])) := by
  have hf : jvmcoreref3_cut_fail.f s t.1 t.2.1 t.2.2 e p = some (s, (failR t e p).1, (failR t e p).2.1, (failR t e p).2.2) := by
    unfold jvmcoreref3_cut_fail.f failR
    split <;> rfl
  refine (jvmcoreref3_cut_fail.calls g s t.1 t.2.1 t.2.2 e p _ _ _ _ w0 w hI.1 hI.2 hf).mono ?_
  rintro e w' ⟨h1, h2, h3, h4⟩
  exact ⟨h1, ⟨h2, h3⟩, h4⟩
end Go.Proofs.Ytfnjbmpolggdeaa.MD.RR
end
section
namespace Go.Proofs.Ytfnjbmpolggdeaa.MD.RR
open Go.RowKit Go.Lib Go.Proofs.YtfnjbmpolggdeaaW.PrintWords Go.Proofs.YtfnjbmpolggdeaaW.PrintLast Go.Proofs.YtfnjbmpolggdeaaW.PrintMore
set_option linter.unusedVariables false
set_option linter.unusedSimpArgs false
structure VS (w0 w W : World) (g : Nat) (s : ByteArray) (t : RdS) (v : Value) (l : List S54) : Prop where
  ri : RI w0 W g s t
  row : VR W w.heap.size v l
  kept : KeepBut w W g none
structure VB (w0 w W : World) (g : Nat) (s : ByteArray) (t : RdS) (v : Value) (l : List S54) (bx : Nat) (x : S54) : Prop where
  vs : VS w0 w W g s t v l
  box : W.heap[bx]? = some (.cells (vtC x) 54 (0, 0))
  new : w.heap.size ≤ bx
  ne : v.ownBlock ≠ some bx
theorem VS.rd {w0 w W W1 : World} {g : Nat} {s : ByteArray} {t t1 : RdS} {v : Value} {l : List S54} (h : VS w0 w W g s t v l) (hI : RI w0 W1 g s t1) (hk : KeepBut W W1 g none) : VS w0 w W1 g s t1 v l :=
  ⟨hI, h.row.step (fun k e => hk.2 k (Kd.R_lt h.row k e) (fun he => h.row.ne h.ri.1.1 (by decide) (he ▸ e)) (by simp)), keep_tr h.kept hk⟩
theorem VS.below {w0 w W W1 : World} {g : Nat} {s : ByteArray} {t : RdS} {v : Value} {l : List S54} (h : VS w0 w W g s t v l) (hb : Below W.heap.size W W1) : VS w0 w W1 g s t v l := h.rd (h.ri.below hb) (KeepBut.of_below hb g none)
theorem VS.start {w0 w : World} {g : Nat} {s : ByteArray} {t : RdS} (hI : RI w0 w g s t) : VS w0 w w g s t (.slice none 0 0) [] := ⟨hI, Kd.R_nil _ _ _ _ _, KeepBut.refl w g none⟩
theorem VB.start {w0 w W : World} {g : Nat} {s : ByteArray} {t : RdS} {v : Value} {l : List S54} (h : VS w0 w W g s t v l) (x : S54) : VB w0 w (W.alloc (.cells (vtC x) 54)) g s t v l W.heap.size x :=
  ⟨h.below (below_alloc (Below.refl _ _) _), Array.getElem?_push_size, h.kept.1, fun e => by have := Kd.R_lt h.row _ e; omega⟩
namespace VB
variable {w0 w W W1 : World} {g bx : Nat} {s : ByteArray} {t t1 : RdS} {v v1 : Value} {l : List S54} {x x1 : S54}
theorem gne (h : VB w0 w W g s t v l bx x) : bx ≠ g := fun e => h.vs.ri.1.ne_blk h.box (by decide) e.symm
theorem rd (h : VB w0 w W g s t v l bx x) (hI : RI w0 W1 g s t1) (hk : KeepBut W W1 g none) : VB w0 w W1 g s t1 v l bx x :=
  ⟨h.vs.rd hI hk, (hk.2 _ (blk_lt h.box) h.gne (by simp)).trans h.box, h.new, h.ne⟩
theorem below (h : VB w0 w W g s t v l bx x) (hb : Below W.heap.size W W1) : VB w0 w W1 g s t v l bx x := h.rd (h.vs.ri.below hb) (KeepBut.of_below hb g none)
theorem set (h : VB w0 w W g s t v l bx x) (hw : w0.heap.size ≤ w.heap.size) (j : Nat) (u : Value) (hx : (vtC x).setIfInBounds j u = vtC x1) : VB w0 w (W.setCell ⟨bx, j, none⟩ u) g s t v l bx x1 where
  vs := {
    ri := ⟨h.vs.ri.1.far (fun e => h.gne e.symm) u, h.vs.ri.2.setCell (p := ⟨bx, j, none⟩) (Nat.le_trans hw h.new) u⟩
    row := h.vs.row.step (fun k e => Below.heap_setCell W ⟨bx, j, none⟩ u k (fun he => h.ne (by rw [← show k = bx from he]; exact e)))
    kept := ⟨Nat.le_trans h.vs.kept.1 (by simp [World.setCell]), fun i hi hg hr => (Below.heap_setCell W ⟨bx, j, none⟩ u i (fun he => by have := h.new; have e1 : i = bx := he; omega)).trans (h.vs.kept.2 i hi hg hr)⟩ }
  box := by rw [← hx]; exact blk_set h.box j u
  new := h.new
  ne := h.ne
theorem app (h : VB w0 w W g s t v l bx x) (hw : w0.heap.size ≤ w.heap.size) {l1 : List S54} (hg : W.grownBy W1 v.ownBlock) (hr : VR W1 w.heap.size v1 l1) : VS w0 w W1 g s t v1 l1 where
  ri := ⟨h.vs.ri.1.grown hg (fun e => h.vs.row.ne h.vs.ri.1.1 (by decide) e.symm), pw_below_grown h.vs.ri.2 _ h.vs.ri.2.size hg (fun k hk => Nat.le_trans hw (Kd.R_base h.vs.row k hk))⟩
  row := hr
  kept := ⟨Nat.le_trans h.vs.kept.1 hg.size, fun i hi hgi hri => (hg.block i (Nat.lt_of_lt_of_le hi h.vs.kept.1) (fun e => by have := Kd.R_base h.vs.row i e.symm; omega)).trans (h.vs.kept.2 i hi hgi hri)⟩
theorem cells (h : VB w0 w W g s t v l bx x) : W.cell? ⟨bx, 0, none⟩ = some (.int .u8 x.f0) ∧ W.cell? ⟨bx, 1, none⟩ = some (.string x.f1) ∧ W.cell? ⟨bx, 2, none⟩ = some (.int .i64 x.f2) ∧ (∀ j, W.frozen? ⟨bx, j, none⟩ = false) :=
  ⟨blk_cell h.box 0, blk_cell h.box 1, blk_cell h.box 2, fun j => blk_frozen h.box j⟩
end VB
end Go.Proofs.Ytfnjbmpolggdeaa.MD.RR
end
