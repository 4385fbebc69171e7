/-
  Texts that the proof in the last of these files needs: Any instructions as bytes, or the first that may not stand there: the code's answer is the document's, and they stay as they are; no condition.
-/
import Derived.Test.YtfnjbmpolggdeaaProg
import Derived.Below
import Derived.Deep.Draws
import Derived.Deep.AppendLies
import Derived.Maps.AppendAt
import Derived.OwnWalk
import Derived.Laws.BytesArg
import Derived.Laws.MakeOwn
import Derived.Laws.OwnMore
import Derived.Deep.OwnRows
import Derived.Tactics
import Derived.Lib.ConvBytes
import Derived.Laws.Slices
import Derived.WalkKit
import Derived.KernelRfl
import Derived.RowKit3
import Derived.Deep.LoopGhost
import Derived.Deep.QuietTactic
import Derived.BigQuiet
import Derived.WideLaws
import Derived.Deep.DeepCutAuto
import Derived.Deep.CutBlock
import Derived.Deep.RegionHeld3
import Derived.Laws.Rows
import Derived.Lib.AppendStr
import Derived.ArgAppend
import Derived.Laws.IdiomCopy
import Derived.OrdersHeld
import Derived.Laws.BitsLemmas
import Derived.RowKit
import Derived.WalkSpells
import Derived.WalkLawsBesides
import Derived.Laws.BitsAllLaws
import Derived.Laws.BytesString
import Derived.Lib.Hide
import Derived.Deep.RegionLaw
import Derived.BigRegion
import Derived.Test.YtfnjbmpolggdeaaQW1
section
namespace Go.Proofs.Ytfnjbmpolggdeaa.CW
open Go.RowKit Go.Proofs.YtfnjbmpolggdeaaW.PrintWords Go.Proofs.YtfnjbmpolggdeaaW.PrintLast Go.Proofs.YtfnjbmpolggdeaaW.PrintMore
attribute [local go_sem] max2_int min2_int max_two min_two max_three min_three max_four min_four   -- for this text's walks alone
set_option linter.unusedVariables false
set_option linter.unusedSimpArgs false
def errW : Option Int → Value
  | none => .nilIface
  | some c => .iface 0 (.int .i64 c)
theorem errW_none : errW none = .nilIface := rfl
theorem errW_some (c : Int) : errW (some c) = .iface 0 (.int .i64 c) := rfl
theorem info3 : (Try.prog.info? 3).map (fun i => (i.zero, i.size, i.bytes)) = some (some (.int .i64 0), 1, 8) := by kernel_rfl
theorem info4 : (Try.prog.info? 4).map (fun i => (i.zero, i.size, i.bytes)) = some (some (.bool false), 1, 1) := by kernel_rfl
theorem info82 : (Try.prog.info? 82).map (fun i => (i.zero, i.size, i.bytes)) = some (some (.agg #[(.int .i64 0), (.int .u8 0), (.bool false), (.int .i64 0), (.int .i64 0), (.int .i64 0), (.slice none 0 0), (.slice none 0 0)]), 8, 88) := by kernel_rfl
structure S82 where
  f0 : Int
  f1 : Int
  f2 : Bool
  f3 : Int
  f4 : Int
  f5 : Int
  f6 : (List Int)
  f7 : (List Int)
def z82 : S82 := ⟨(0 : Int), (0 : Int), false, (0 : Int), (0 : Int), (0 : Int), ([] : List Int), ([] : List Int)⟩
def k82 : Kd S82 := Kd.iso (Kd.pair (Kd.int .i64) (Kd.pair (Kd.int .u8) (Kd.pair Kd.bool (Kd.pair (Kd.int .i64) (Kd.pair (Kd.int .i64) (Kd.pair (Kd.int .i64) (Kd.pair (Kd.slice 3 (Kd.int .i64)) (Kd.slice 3 (Kd.int .i64))))))))) (fun x : S82 => (x.f0, x.f1, x.f2, x.f3, x.f4, x.f5, x.f6, x.f7))
theorem k82_open {w : World} {x : S82} {cs : List Value} (h : k82.K w x cs) : ∃ A6 c6 A7 c7, cs = [.int .i64 x.f0, .int .u8 x.f1, .bool x.f2, .int .i64 x.f3, .int .i64 x.f4, .int .i64 x.f5, .slice A6 x.f6.length c6, .slice A7 x.f7.length c7] ∧ x.f6.length ≤ c6 ∧ (Kd.int .i64).C w A6 x.f6.length x.f6 ∧ x.f7.length ≤ c7 ∧ (Kd.int .i64).C w A7 x.f7.length x.f7 := by
  obtain ⟨_, _, rfl, rfl, ⟨_, _, rfl, rfl, ⟨_, _, rfl, rfl, ⟨_, _, rfl, rfl, ⟨_, _, rfl, rfl, ⟨_, _, rfl, rfl, ⟨_, _, rfl, ⟨A6, c6, rfl, l6, g6⟩, ⟨A7, c7, rfl, l7, g7⟩⟩⟩⟩⟩⟩⟩⟩ := h
  exact ⟨A6, c6, A7, c7, rfl, l6, g6, l7, g7⟩
theorem k82_mkM (w : World) (base : Nat) (ok : Nat → Prop) (x : S82) {v6 : Value} (g6 : (Kd.int .i64).R 3 w base ok v6 x.f6) {v7 : Value} (g7 : (Kd.int .i64).R 3 w base ok v7 x.f7) : k82.M w base ok x [.int .i64 x.f0, .int .u8 x.f1, .bool x.f2, .int .i64 x.f3, .int .i64 x.f4, .int .i64 x.f5, v6, v7] := ⟨[.int .i64 x.f0], [.int .u8 x.f1, .bool x.f2, .int .i64 x.f3, .int .i64 x.f4, .int .i64 x.f5, v6, v7], rfl, rfl, ⟨[.int .u8 x.f1], [.bool x.f2, .int .i64 x.f3, .int .i64 x.f4, .int .i64 x.f5, v6, v7], rfl, rfl, ⟨[.bool x.f2], [.int .i64 x.f3, .int .i64 x.f4, .int .i64 x.f5, v6, v7], rfl, rfl, ⟨[.int .i64 x.f3], [.int .i64 x.f4, .int .i64 x.f5, v6, v7], rfl, rfl, ⟨[.int .i64 x.f4], [.int .i64 x.f5, v6, v7], rfl, rfl, ⟨[.int .i64 x.f5], [v6, v7], rfl, rfl, ⟨[v6], [v7], rfl, ⟨v6, rfl, g6⟩, ⟨v7, rfl, g7⟩⟩⟩⟩⟩⟩⟩⟩
def rd_T82 (xs : List S82) (i : Int) : S82 := xs.getD i.toNat z82
theorem at_T82 {w : World} {A : Option Addr} {n : Nat} {xs : List S82} (h : Kd.C k82 w A n xs) (i : Int) (h0 : 0 ≤ i) (h1 : i < n) : ∃ ad A6 c6 A7 c7, A = some ad ∧ w.cell? (ad.add (i.toNat * 8)) = some (.int .i64 (rd_T82 xs i).f0) ∧ w.cell? ⟨(ad.add (i.toNat * 8)).block, (ad.add (i.toNat * 8)).off + 1, none⟩ = some (.int .u8 (rd_T82 xs i).f1) ∧ w.cell? ⟨(ad.add (i.toNat * 8)).block, (ad.add (i.toNat * 8)).off + 2, none⟩ = some (.bool (rd_T82 xs i).f2) ∧ w.cell? ⟨(ad.add (i.toNat * 8)).block, (ad.add (i.toNat * 8)).off + 3, none⟩ = some (.int .i64 (rd_T82 xs i).f3) ∧ w.cell? ⟨(ad.add (i.toNat * 8)).block, (ad.add (i.toNat * 8)).off + 4, none⟩ = some (.int .i64 (rd_T82 xs i).f4) ∧ w.cell? ⟨(ad.add (i.toNat * 8)).block, (ad.add (i.toNat * 8)).off + 5, none⟩ = some (.int .i64 (rd_T82 xs i).f5) ∧ w.cell? ⟨(ad.add (i.toNat * 8)).block, (ad.add (i.toNat * 8)).off + 6, none⟩ = some (.slice A6 (rd_T82 xs i).f6.length c6) ∧ w.cell? ⟨(ad.add (i.toNat * 8)).block, (ad.add (i.toNat * 8)).off + 7, none⟩ = some (.slice A7 (rd_T82 xs i).f7.length c7) ∧ (rd_T82 xs i).f6.length ≤ c6 ∧ (Kd.int .i64).C w A6 (rd_T82 xs i).f6.length (rd_T82 xs i).f6 ∧ (rd_T82 xs i).f7.length ≤ c7 ∧ (Kd.int .i64).C w A7 (rd_T82 xs i).f7.length (rd_T82 xs i).f7 := by
  obtain ⟨ad, c, e, _, hK, hc0⟩ := Kd.C_get h z82 i h0 h1
  have hc : ∀ j u, c[j]? = some u → w.cell? (ad.add (i.toNat * 8 + j)) = some u := hc0
  obtain ⟨A6, c6, A7, c7, rfl, l6, g6, l7, g7⟩ := k82_open hK
  exact ⟨ad, A6, c6, A7, c7, e, hc 0 _ rfl, by rw [← add_field _ _ 1 (by omega)]; exact hc 1 _ rfl, by rw [← add_field _ _ 2 (by omega)]; exact hc 2 _ rfl, by rw [← add_field _ _ 3 (by omega)]; exact hc 3 _ rfl, by rw [← add_field _ _ 4 (by omega)]; exact hc 4 _ rfl, by rw [← add_field _ _ 5 (by omega)]; exact hc 5 _ rfl, by rw [← add_field _ _ 6 (by omega)]; exact hc 6 _ rfl, by rw [← add_field _ _ 7 (by omega)]; exact hc 7 _ rfl, l6, g6, l7, g7⟩
end Go.Proofs.Ytfnjbmpolggdeaa.CW
end
section
namespace Go.Proofs.Ytfnjbmpolggdeaa.CW
open Go.RowKit Go.Proofs.YtfnjbmpolggdeaaW.PrintWords Go.Proofs.YtfnjbmpolggdeaaW.PrintLast Go.Proofs.YtfnjbmpolggdeaaW.PrintMore
attribute [local go_sem] max2_int min2_int max_two min_two max_three min_three max_four min_four   -- for this text's walks alone
set_option linter.unusedVariables false
set_option linter.unusedSimpArgs false
def jvmcorelaw2_weight.l0 : Nat → Int → List (S82) → Int → Int → Option (Int)
  | 0, _, _, _, _ => none
  | k + 1, x3, x8, x9, x10 => if x10 < x9 then (if 0 ≤ x10 then (if x10 < (x8.length : Int) then (if (wrap64 (x3 + (wrap64 ((((rd_T82 x8 x10).f6).length : Int) + (((rd_T82 x8 x10).f7).length : Int))))) > 32768 then (some (wrap64 (x3 + (wrap64 ((((rd_T82 x8 x10).f6).length : Int) + (((rd_T82 x8 x10).f7).length : Int)))))) else (jvmcorelaw2_weight.l0 k (wrap64 (x3 + (wrap64 ((((rd_T82 x8 x10).f6).length : Int) + (((rd_T82 x8 x10).f7).length : Int))))) x8 x9 (wrap64 (x10 + 1)))) else (none)) else (none)) else (some x3)
def jvmcorelaw2_weight.f (k : Nat) (l0 : List (S82)) : Option (Int) := jvmcorelaw2_weight.l0 k (l0.length : Int) l0 (l0.length : Int) 0
theorem jvmcorelaw2_weight.mono_l : ∀ k, (∀ y0 y1 y2 y3, LeO (jvmcorelaw2_weight.l0 k y0 y1 y2 y3) (jvmcorelaw2_weight.l0 (k + 1) y0 y1 y2 y3))
  | 0 => fun _ _ _ _ r h => by simp [jvmcorelaw2_weight.l0] at h
  | k + 1 => by
    have ih0 := jvmcorelaw2_weight.mono_l k
    · intro y0 y1 y2 y3
      unfold jvmcorelaw2_weight.l0
      repeat' first
      | (with_reducible exact ih0 _ _ _ _)
      | (with_reducible exact LeO.refl _)
      | (with_reducible exact LeO.none _)
      | (with_reducible refine LeO.ite ?_ ?_)
      | (with_reducible refine LeO.bind ?_ (fun _ => ?_))
theorem jvmcorelaw2_weight.mono : ∀ a0 k, LeO (jvmcorelaw2_weight.f k a0) (jvmcorelaw2_weight.f (k + 1) a0) := by
  intro a0 k
  have ih0 := jvmcorelaw2_weight.mono_l k
  unfold jvmcorelaw2_weight.f
  repeat' first
      | (with_reducible exact ih0 _ _ _ _)
      | (with_reducible exact LeO.refl _)
      | (with_reducible exact LeO.none _)
      | (with_reducible refine LeO.ite ?_ ?_)
      | (with_reducible refine LeO.bind ?_ (fun _ => ?_))
set_option maxHeartbeats 8000000 in
set_option maxRecDepth 100000 in
theorem jvmcorelaw2_weight.calls (k : Nat) (A0 : Option Addr) (c0 : Nat) (l0 : List (S82)) (r : Int) (w : World) (hr0 : Kd.C k82 w A0 l0.length l0) (hc0 : l0.length ≤ c0) (h : jvmcorelaw2_weight.f k l0 = some r) :
    Calls Try.prog 37 #[.slice A0 l0.length c0] w fun e w' => e = .returned (.int .i64 r) ∧ Below w.heap.size w w' := by
  have hu82 := Try.underlying82
  have HR0 := Aside0.mk hr0
  have HC0 := Aside0.mk hc0
  clear hr0 hc0
  have HB := Aside0.mk (Below.refl w.heap.size w)
  have H : (jvmcorelaw2_weight.l0 k (l0.length : Int) l0 (l0.length : Int) 0) = some r := h
  clear h
  have H' := Aside0.mk H
  clear H
  go_enter Try.func37, Try.ntmps37
  go_wp2
  go_loopg [3, 10] k (fun kq v3 v10 w' => ∃ (x3_1 : Int) (x10_1 : Int), v3 = .int .i64 x3_1 ∧ v10 = .int .i64 x10_1 ∧ Aside0 (jvmcorelaw2_weight.l0 kq x3_1 l0 (l0.length : Int) x10_1 = some r) ∧ Aside0 (kq ≤ k) ∧ Aside0 (Below w.heap.size w w'))
  case atStart => exact ⟨((l0.length : Int)), (0), (by first | rfl | (simp; done) | (simp [*]; done)), (by first | rfl | (simp; done) | (simp [*]; done)), H', ⟨Nat.le_refl _⟩, ⟨by repeat (first | (with_reducible first | exact HB.out | apply below_alloc | apply pw_below_drewN | apply below_drew1) | exact HB.out)⟩⟩
  case round =>
    clear H'
    obtain ⟨x3_1, x10_1, rfl, rfl, HA, HK1, HB⟩ := hrel
    cases gk with
    | zero => exact absurd HA.out (by simp [jvmcorelaw2_weight.l0])
    | succ k1 =>
      have H := HA.out
      clear HA
      simp only [jvmcorelaw2_weight.l0] at H
      by_cases c2 : x10_1 < (l0.length : Int)
      · rw [if_pos c2] at H
        have c2b0 : decide (x10_1 < (l0.length : Int)) = true := decide_eq_true c2
        clear c2
        by_cases c3 : 0 ≤ x10_1
        · rw [if_pos c3] at H
          have c3b0 : decide (0 ≤ x10_1) = true := decide_eq_true c3
          clear c3
          by_cases c4 : x10_1 < (l0.length : Int)
          · rw [if_pos c4] at H
            have c4b0 : decide (x10_1 < (l0.length : Int)) = true := decide_eq_true c4
            clear c4
            by_cases c5 : (wrap64 (x3_1 + (wrap64 ((((rd_T82 l0 x10_1).f6).length : Int) + (((rd_T82 l0 x10_1).f7).length : Int))))) > 32768
            · rw [if_pos c5] at H
              have c5b0 : decide (32768 < (wrap64 (x3_1 + (wrap64 ((((rd_T82 l0 x10_1).f6).length : Int) + (((rd_T82 l0 x10_1).f7).length : Int)))))) = true := decide_eq_true c5
              clear c5
              obtain rfl := Option.some.inj H
              have p101 : 0 ≤ (x10_1 : Int) := of_decide_eq_true (by first | (with_reducible assumption) | assumption)
              have q101 : x10_1 < (l0.length : Int) := of_decide_eq_true (by first | (with_reducible assumption) | assumption)
              obtain ⟨ad101, A101_6, c101_6, A101_7, c101_7, e101, hx101_0, hx101_1, hx101_2, hx101_3, hx101_4, hx101_5, hx101_6, hx101_7, hl101_6, hi101_6, hl101_7, hi101_7⟩ := at_T82 HR0.out x10_1 p101 q101
              cases e101
              replace hx101_0 := (HB.out.cell (World.block_lt_of_cell? w _ hx101_0)).trans hx101_0
              replace hx101_1 := (HB.out.cell (World.block_lt_of_cell? w _ hx101_1)).trans hx101_1
              replace hx101_2 := (HB.out.cell (World.block_lt_of_cell? w _ hx101_2)).trans hx101_2
              replace hx101_3 := (HB.out.cell (World.block_lt_of_cell? w _ hx101_3)).trans hx101_3
              replace hx101_4 := (HB.out.cell (World.block_lt_of_cell? w _ hx101_4)).trans hx101_4
              replace hx101_5 := (HB.out.cell (World.block_lt_of_cell? w _ hx101_5)).trans hx101_5
              replace hx101_6 := (HB.out.cell (World.block_lt_of_cell? w _ hx101_6)).trans hx101_6
              replace hx101_7 := (HB.out.cell (World.block_lt_of_cell? w _ hx101_7)).trans hx101_7
              have HR101_6 := Aside0.mk hi101_6
              have HC101_6 := Aside0.mk hl101_6
              clear hi101_6 hl101_6
              have HR101_7 := Aside0.mk hi101_7
              have HC101_7 := Aside0.mk hl101_7
              clear hi101_7 hl101_7
              replace p101 := eq_true p101
              replace q101 := eq_true q101
              go_wp2_with (first | ((with_reducible refine gate_dst (N := 5) rfl ?_); refine box_event ?hg (N := 5) ?hd (cs := #[.int .i64 0, .int .u8 0, .bool false, .int .i64 0, .int .i64 0, .int .i64 0, .slice none 0 0, .slice none 0 0]) (t := 82) ?hr ?_; (case hd => rfl); (case hg => rfl); (case hr => first | (go_simp; done) | (go_simp; rfl)); intro gb102 hg w6 hbox hb; have n0_ := Aside0.mk (below_step (by repeat (first | (with_reducible first | exact HB.out | apply below_alloc | apply pw_below_drewN | apply below_drew1) | exact HB.out)) hb); have n1_ := Aside0.mk (hbox); have n2_ := Aside0.mk ((by rw [hg]; exact (below_size (by repeat (first | (with_reducible first | exact HB.out | apply below_alloc | apply pw_below_drewN | apply below_drew1) | exact HB.out))) : w.heap.size ≤ gb102)); have n3_ := Aside0.mk ((by rw [hg]; exact (below_size (by repeat (first | (with_reducible first | exact HB.out | apply below_alloc | apply pw_below_drewN | apply below_drew1) | exact HB.out))) : w.heap.size ≤ gb102)); clear HB; have HB := n0_; have BK102 := n1_; have GW102 := n2_; have GE102 := n3_; clear n0_ n1_ n2_ n3_; clear hb hbox hg; have hcz7_0 : w6.cell? ⟨gb102, 0, none⟩ = some (.int .i64 0) := (blk_cell BK102.out 0).trans rfl; have hcz7_1 : w6.cell? ⟨gb102, 1, none⟩ = some (.int .u8 0) := (blk_cell BK102.out 1).trans rfl; have hcz7_2 : w6.cell? ⟨gb102, 2, none⟩ = some (.bool false) := (blk_cell BK102.out 2).trans rfl; have hcz7_3 : w6.cell? ⟨gb102, 3, none⟩ = some (.int .i64 0) := (blk_cell BK102.out 3).trans rfl; have hcz7_4 : w6.cell? ⟨gb102, 4, none⟩ = some (.int .i64 0) := (blk_cell BK102.out 4).trans rfl; have hcz7_5 : w6.cell? ⟨gb102, 5, none⟩ = some (.int .i64 0) := (blk_cell BK102.out 5).trans rfl; have hcz7_6 : w6.cell? ⟨gb102, 6, none⟩ = some (.slice none 0 0) := (blk_cell BK102.out 6).trans rfl; have hcz7_7 : w6.cell? ⟨gb102, 7, none⟩ = some (.slice none 0 0) := (blk_cell BK102.out 7).trans rfl; have hfz7_0 := blk_frozen BK102.out 0; have hfz7_1 := blk_frozen BK102.out 1; have hfz7_2 := blk_frozen BK102.out 2; have hfz7_3 := blk_frozen BK102.out 3; have hfz7_4 := blk_frozen BK102.out 4; have hfz7_5 := blk_frozen BK102.out 5; have hfz7_6 := blk_frozen BK102.out 6; have hfz7_7 := blk_frozen BK102.out 7))
              go_ret
              exact ⟨by first | rfl | (simp [errW_none, errW_some] <;> rfl) | (simp [*, errW_none, errW_some] <;> rfl), by repeat (first | (with_reducible first | exact HB.out | apply below_alloc | apply pw_below_drewN | apply below_drew1 | refine below_set ?_ GE102.out) | exact HB.out)⟩
            · rw [if_neg c5] at H
              have c5b0 : decide (32768 < (wrap64 (x3_1 + (wrap64 ((((rd_T82 l0 x10_1).f6).length : Int) + (((rd_T82 l0 x10_1).f7).length : Int)))))) = false := decide_eq_false c5
              clear c5
              have H' := Aside0.mk H
              clear H
              have p101 : 0 ≤ (x10_1 : Int) := of_decide_eq_true (by first | (with_reducible assumption) | assumption)
              have q101 : x10_1 < (l0.length : Int) := of_decide_eq_true (by first | (with_reducible assumption) | assumption)
              obtain ⟨ad101, A101_6, c101_6, A101_7, c101_7, e101, hx101_0, hx101_1, hx101_2, hx101_3, hx101_4, hx101_5, hx101_6, hx101_7, hl101_6, hi101_6, hl101_7, hi101_7⟩ := at_T82 HR0.out x10_1 p101 q101
              cases e101
              replace hx101_0 := (HB.out.cell (World.block_lt_of_cell? w _ hx101_0)).trans hx101_0
              replace hx101_1 := (HB.out.cell (World.block_lt_of_cell? w _ hx101_1)).trans hx101_1
              replace hx101_2 := (HB.out.cell (World.block_lt_of_cell? w _ hx101_2)).trans hx101_2
              replace hx101_3 := (HB.out.cell (World.block_lt_of_cell? w _ hx101_3)).trans hx101_3
              replace hx101_4 := (HB.out.cell (World.block_lt_of_cell? w _ hx101_4)).trans hx101_4
              replace hx101_5 := (HB.out.cell (World.block_lt_of_cell? w _ hx101_5)).trans hx101_5
              replace hx101_6 := (HB.out.cell (World.block_lt_of_cell? w _ hx101_6)).trans hx101_6
              replace hx101_7 := (HB.out.cell (World.block_lt_of_cell? w _ hx101_7)).trans hx101_7
              have HR101_6 := Aside0.mk hi101_6
              have HC101_6 := Aside0.mk hl101_6
              clear hi101_6 hl101_6
              have HR101_7 := Aside0.mk hi101_7
              have HC101_7 := Aside0.mk hl101_7
              clear hi101_7 hl101_7
              replace p101 := eq_true p101
              replace q101 := eq_true q101
              go_wp2_with (first | ((with_reducible refine gate_dst (N := 5) rfl ?_); refine box_event ?hg (N := 5) ?hd (cs := #[.int .i64 0, .int .u8 0, .bool false, .int .i64 0, .int .i64 0, .int .i64 0, .slice none 0 0, .slice none 0 0]) (t := 82) ?hr ?_; (case hd => rfl); (case hg => rfl); (case hr => first | (go_simp; done) | (go_simp; rfl)); intro gb102 hg w8 hbox hb; have n0_ := Aside0.mk (below_step (by repeat (first | (with_reducible first | exact HB.out | apply below_alloc | apply pw_below_drewN | apply below_drew1) | exact HB.out)) hb); have n1_ := Aside0.mk (hbox); have n2_ := Aside0.mk ((by rw [hg]; exact (below_size (by repeat (first | (with_reducible first | exact HB.out | apply below_alloc | apply pw_below_drewN | apply below_drew1) | exact HB.out))) : w.heap.size ≤ gb102)); have n3_ := Aside0.mk ((by rw [hg]; exact (below_size (by repeat (first | (with_reducible first | exact HB.out | apply below_alloc | apply pw_below_drewN | apply below_drew1) | exact HB.out))) : w.heap.size ≤ gb102)); clear HB; have HB := n0_; have BK102 := n1_; have GW102 := n2_; have GE102 := n3_; clear n0_ n1_ n2_ n3_; clear hb hbox hg; have hcz9_0 : w8.cell? ⟨gb102, 0, none⟩ = some (.int .i64 0) := (blk_cell BK102.out 0).trans rfl; have hcz9_1 : w8.cell? ⟨gb102, 1, none⟩ = some (.int .u8 0) := (blk_cell BK102.out 1).trans rfl; have hcz9_2 : w8.cell? ⟨gb102, 2, none⟩ = some (.bool false) := (blk_cell BK102.out 2).trans rfl; have hcz9_3 : w8.cell? ⟨gb102, 3, none⟩ = some (.int .i64 0) := (blk_cell BK102.out 3).trans rfl; have hcz9_4 : w8.cell? ⟨gb102, 4, none⟩ = some (.int .i64 0) := (blk_cell BK102.out 4).trans rfl; have hcz9_5 : w8.cell? ⟨gb102, 5, none⟩ = some (.int .i64 0) := (blk_cell BK102.out 5).trans rfl; have hcz9_6 : w8.cell? ⟨gb102, 6, none⟩ = some (.slice none 0 0) := (blk_cell BK102.out 6).trans rfl; have hcz9_7 : w8.cell? ⟨gb102, 7, none⟩ = some (.slice none 0 0) := (blk_cell BK102.out 7).trans rfl; have hfz9_0 := blk_frozen BK102.out 0; have hfz9_1 := blk_frozen BK102.out 1; have hfz9_2 := blk_frozen BK102.out 2; have hfz9_3 := blk_frozen BK102.out 3; have hfz9_4 := blk_frozen BK102.out 4; have hfz9_5 := blk_frozen BK102.out 5; have hfz9_6 := blk_frozen BK102.out 6; have hfz9_7 := blk_frozen BK102.out 7))
              go_roundg k1
              case measure => have := HK1.out; omega
              case rel => exact ⟨(wrap64 (x3_1 + (wrap64 ((((rd_T82 l0 x10_1).f6).length : Int) + (((rd_T82 l0 x10_1).f7).length : Int))))), (wrap64 (x10_1 + 1)), (by first | rfl | (simp; done) | (simp [*]; done)), (by first | rfl | (simp; done) | (simp [*]; done)), H', ⟨by have := HK1.out; omega⟩, ⟨by repeat (first | (with_reducible first | exact HB.out | apply below_alloc | apply pw_below_drewN | apply below_drew1 | refine below_set ?_ GE102.out) | exact HB.out)⟩⟩
          · rw [if_neg c4] at H
            exact absurd H (by simp)
        · rw [if_neg c3] at H
          exact absurd H (by simp)
      · rw [if_neg c2] at H
        have c2b0 : decide (x10_1 < (l0.length : Int)) = false := decide_eq_false c2
        clear c2
        obtain rfl := Option.some.inj H
        go_wp2
        go_ret
        exact ⟨by first | rfl | (simp [errW_none, errW_some] <;> rfl) | (simp [*, errW_none, errW_some] <;> rfl), by repeat (first | (with_reducible first | exact HB.out | apply below_alloc | apply pw_below_drewN | apply below_drew1) | exact HB.out)⟩
end Go.Proofs.Ytfnjbmpolggdeaa.CW
end
section
namespace Go.Proofs.Ytfnjbmpolggdeaa.CW
open Go.RowKit Go.Proofs.YtfnjbmpolggdeaaW.PrintWords Go.Proofs.YtfnjbmpolggdeaaW.PrintLast Go.Proofs.YtfnjbmpolggdeaaW.PrintMore
attribute [local go_sem] max2_int min2_int max_two min_two max_three min_three max_four min_four   -- for this text's walks alone
set_option linter.unusedVariables false
set_option linter.unusedSimpArgs false
def jvmcorelaw2_twin.l0 : Nat → List (S82) → List (S82) → Int → Int → Option ((List (S82)))
  | 0, _, _, _, _ => none
  | k + 1, x3, x6, x7, x8 => if x8 < x7 then (if 0 ≤ x8 then (if x8 < (x6.length : Int) then (if ([] : List Int).length + ((rd_T82 x6 x8).f6).length < 17592186044416 then (if ([] : List Int).length + ((rd_T82 x6 x8).f7).length < 17592186044416 then (if x3.length < 1599289640401 then (jvmcorelaw2_twin.l0 k (x3 ++ [(⟨(rd_T82 x6 x8).f0, (rd_T82 x6 x8).f1, (rd_T82 x6 x8).f2, (rd_T82 x6 x8).f3, (rd_T82 x6 x8).f4, (rd_T82 x6 x8).f5, (([] : List Int) ++ ((rd_T82 x6 x8).f6)), (([] : List Int) ++ ((rd_T82 x6 x8).f7))⟩ : S82)]) x6 x7 (wrap64 (x8 + 1))) else (none)) else (none)) else (none)) else (none)) else (none)) else (some x3)
def jvmcorelaw2_twin.f (k : Nat) (l0 : List (S82)) : Option ((List (S82))) := jvmcorelaw2_twin.l0 k ([] : List (S82)) l0 (l0.length : Int) 0
theorem jvmcorelaw2_twin.mono_l : ∀ k, (∀ y0 y1 y2 y3, LeO (jvmcorelaw2_twin.l0 k y0 y1 y2 y3) (jvmcorelaw2_twin.l0 (k + 1) y0 y1 y2 y3))
  | 0 => fun _ _ _ _ r h => by simp [jvmcorelaw2_twin.l0] at h
  | k + 1 => by
    have ih0 := jvmcorelaw2_twin.mono_l k
    · intro y0 y1 y2 y3
      unfold jvmcorelaw2_twin.l0
      repeat' first
      | (with_reducible exact ih0 _ _ _ _)
      | (with_reducible exact LeO.refl _)
      | (with_reducible exact LeO.none _)
      | (with_reducible refine LeO.ite ?_ ?_)
      | (with_reducible refine LeO.bind ?_ (fun _ => ?_))
theorem jvmcorelaw2_twin.mono : ∀ a0 k, LeO (jvmcorelaw2_twin.f k a0) (jvmcorelaw2_twin.f (k + 1) a0) := by
  intro a0 k
  have ih0 := jvmcorelaw2_twin.mono_l k
  unfold jvmcorelaw2_twin.f
  repeat' first
      | (with_reducible exact ih0 _ _ _ _)
      | (with_reducible exact LeO.refl _)
      | (with_reducible exact LeO.none _)
      | (with_reducible refine LeO.ite ?_ ?_)
      | (with_reducible refine LeO.bind ?_ (fun _ => ?_))
set_option maxHeartbeats 8000000 in
set_option maxRecDepth 100000 in
theorem jvmcorelaw2_twin.calls (k : Nat) (A0 : Option Addr) (c0 : Nat) (l0 : List (S82)) (r : List (S82)) (w : World) (hr0 : Kd.C k82 w A0 l0.length l0) (hc0 : l0.length ≤ c0) (h : jvmcorelaw2_twin.f k l0 = some r) :
    Calls Try.prog 38 #[.slice A0 l0.length c0] w fun e w' => ∃ v0_ : Value, e = .returned (v0_) ∧ Kd.S k82 82 w' w.heap.size (fun _ => True) v0_ r ∧ Below w.heap.size w w' := by
  have hu82 := Try.underlying82
  have HR0 := Aside0.mk hr0
  have HC0 := Aside0.mk hc0
  clear hr0 hc0
  have HB := Aside0.mk (Below.refl w.heap.size w)
  have H : (jvmcorelaw2_twin.l0 k ([] : List (S82)) l0 (l0.length : Int) 0) = some r := h
  clear h
  have H' := Aside0.mk H
  clear H
  go_enter Try.func38, Try.ntmps38
  go_wp2
  go_loopg [3, 8] k (fun kq v3 v8 w' => ∃ (x3_1 : List (S82)) (x8_1 : Int), v8 = .int .i64 x8_1 ∧ Aside0 (jvmcorelaw2_twin.l0 kq x3_1 l0 (l0.length : Int) x8_1 = some r) ∧ Aside0 (kq ≤ k) ∧ Aside0 (Kd.S k82 82 w' w.heap.size (fun _ => True) v3 x3_1) ∧ Aside0 (Below w.heap.size w w'))
  case atStart => exact ⟨(([] : List (S82))), (0), (by first | rfl | (simp; done) | (simp [*]; done)), H', ⟨Nat.le_refl _⟩, ⟨by first | exact Kd.S_nil _ _ _ _ _ | exact Kd.N_nil _ _ _ _ _ | exact Kd.V_nil _ _ _ _ _ | exact Kd.Q_nil _ _ _ _ _ | exact Kd.R_nil _ _ _ _ _⟩, ⟨by repeat (first | (with_reducible first | exact HB.out | apply below_alloc | apply pw_below_drewN | apply below_drew1) | exact HB.out)⟩⟩
  case round =>
    clear H'
    obtain ⟨x3_1, x8_1, rfl, HA, HK1, HO_3, HB⟩ := hrel
    cases gk with
    | zero => exact absurd HA.out (by simp [jvmcorelaw2_twin.l0])
    | succ k1 =>
      have H := HA.out
      clear HA
      simp only [jvmcorelaw2_twin.l0] at H
      by_cases c2 : x8_1 < (l0.length : Int)
      · rw [if_pos c2] at H
        have c2b0 : decide (x8_1 < (l0.length : Int)) = true := decide_eq_true c2
        clear c2
        by_cases c3 : 0 ≤ x8_1
        · rw [if_pos c3] at H
          have c3b0 : decide (0 ≤ x8_1) = true := decide_eq_true c3
          clear c3
          by_cases c4 : x8_1 < (l0.length : Int)
          · rw [if_pos c4] at H
            have c4b0 : decide (x8_1 < (l0.length : Int)) = true := decide_eq_true c4
            clear c4
            by_cases c5 : ([] : List Int).length + ((rd_T82 l0 x8_1).f6).length < 17592186044416
            · rw [if_pos c5] at H
              have LMc5 := Aside0.mk c5
              clear c5
              obtain ⟨y105, hy105⟩ : ∃ y_ : List Int, y_ = (([] : List Int) ++ ((rd_T82 l0 x8_1).f6)) := ⟨_, rfl⟩
              replace H : (if ([] : List Int).length + ((rd_T82 l0 x8_1).f7).length < 17592186044416 then (if x3_1.length < 1599289640401 then (jvmcorelaw2_twin.l0 k1 (x3_1 ++ [(⟨(rd_T82 l0 x8_1).f0, (rd_T82 l0 x8_1).f1, (rd_T82 l0 x8_1).f2, (rd_T82 l0 x8_1).f3, (rd_T82 l0 x8_1).f4, (rd_T82 l0 x8_1).f5, y105, (([] : List Int) ++ ((rd_T82 l0 x8_1).f7))⟩ : S82)]) l0 (l0.length : Int) (wrap64 (x8_1 + 1))) else (none)) else (none)) = some r := by first | (rw [hy105]; with_reducible exact H) | (have H2_ := (Option.bind_some _ _).symm.trans H; rw [hy105]; with_reducible exact H2_) | (have H2_ := (Option.bind_some _ _).symm.trans H; with_reducible exact H2_) | with_reducible exact H | (rw [hy105]; exact H) | exact H
              have Ny105 := Aside0.mk hy105
              clear hy105
              by_cases c6 : ([] : List Int).length + ((rd_T82 l0 x8_1).f7).length < 17592186044416
              · rw [if_pos c6] at H
                have LMc6 := Aside0.mk c6
                clear c6
                obtain ⟨y108, hy108⟩ : ∃ y_ : List Int, y_ = (([] : List Int) ++ ((rd_T82 l0 x8_1).f7)) := ⟨_, rfl⟩
                replace H : (if x3_1.length < 1599289640401 then (jvmcorelaw2_twin.l0 k1 (x3_1 ++ [(⟨(rd_T82 l0 x8_1).f0, (rd_T82 l0 x8_1).f1, (rd_T82 l0 x8_1).f2, (rd_T82 l0 x8_1).f3, (rd_T82 l0 x8_1).f4, (rd_T82 l0 x8_1).f5, y105, y108⟩ : S82)]) l0 (l0.length : Int) (wrap64 (x8_1 + 1))) else (none)) = some r := by first | (rw [hy108]; with_reducible exact H) | (have H2_ := (Option.bind_some _ _).symm.trans H; rw [hy108]; with_reducible exact H2_) | (have H2_ := (Option.bind_some _ _).symm.trans H; with_reducible exact H2_) | with_reducible exact H | (rw [hy108]; exact H) | exact H
                have Ny108 := Aside0.mk hy108
                clear hy108
                by_cases c7 : x3_1.length < 1599289640401
                · rw [if_pos c7] at H
                  have LMc7 := Aside0.mk c7
                  clear c7
                  obtain ⟨y111, hy111⟩ : ∃ y_ : List (S82), y_ = (x3_1 ++ [(⟨(rd_T82 l0 x8_1).f0, (rd_T82 l0 x8_1).f1, (rd_T82 l0 x8_1).f2, (rd_T82 l0 x8_1).f3, (rd_T82 l0 x8_1).f4, (rd_T82 l0 x8_1).f5, y105, y108⟩ : S82)]) := ⟨_, rfl⟩
                  replace H : (jvmcorelaw2_twin.l0 k1 y111 l0 (l0.length : Int) (wrap64 (x8_1 + 1))) = some r := by first | (rw [hy111]; with_reducible exact H) | (have H2_ := (Option.bind_some _ _).symm.trans H; rw [hy111]; with_reducible exact H2_) | (have H2_ := (Option.bind_some _ _).symm.trans H; with_reducible exact H2_) | with_reducible exact H | (rw [hy111]; exact H) | exact H
                  have Ny111 := Aside0.mk hy111
                  clear hy111
                  have H' := Aside0.mk H
                  clear H
                  have p103 : 0 ≤ (x8_1 : Int) := of_decide_eq_true (by first | (with_reducible assumption) | assumption)
                  have q103 : x8_1 < (l0.length : Int) := of_decide_eq_true (by first | (with_reducible assumption) | assumption)
                  obtain ⟨ad103, A103_6, c103_6, A103_7, c103_7, e103, hx103_0, hx103_1, hx103_2, hx103_3, hx103_4, hx103_5, hx103_6, hx103_7, hl103_6, hi103_6, hl103_7, hi103_7⟩ := at_T82 HR0.out x8_1 p103 q103
                  cases e103
                  replace hx103_0 := (HB.out.cell (World.block_lt_of_cell? w _ hx103_0)).trans hx103_0
                  replace hx103_1 := (HB.out.cell (World.block_lt_of_cell? w _ hx103_1)).trans hx103_1
                  replace hx103_2 := (HB.out.cell (World.block_lt_of_cell? w _ hx103_2)).trans hx103_2
                  replace hx103_3 := (HB.out.cell (World.block_lt_of_cell? w _ hx103_3)).trans hx103_3
                  replace hx103_4 := (HB.out.cell (World.block_lt_of_cell? w _ hx103_4)).trans hx103_4
                  replace hx103_5 := (HB.out.cell (World.block_lt_of_cell? w _ hx103_5)).trans hx103_5
                  replace hx103_6 := (HB.out.cell (World.block_lt_of_cell? w _ hx103_6)).trans hx103_6
                  replace hx103_7 := (HB.out.cell (World.block_lt_of_cell? w _ hx103_7)).trans hx103_7
                  have HR103_6 := Aside0.mk hi103_6
                  have HC103_6 := Aside0.mk hl103_6
                  clear hi103_6 hl103_6
                  have HR103_7 := Aside0.mk hi103_7
                  have HC103_7 := Aside0.mk hl103_7
                  clear hi103_7 hl103_7
                  replace p103 := eq_true p103
                  replace q103 := eq_true q103
                  go_wp2_with (first | ((with_reducible refine gate_dst (N := 5) rfl ?_); refine box_event ?hg (N := 5) ?hd (cs := #[.int .i64 0, .int .u8 0, .bool false, .int .i64 0, .int .i64 0, .int .i64 0, .slice none 0 0, .slice none 0 0]) (t := 82) ?hr ?_; (case hd => rfl); (case hg => rfl); (case hr => first | (go_simp; done) | (go_simp; rfl)); intro gb104 hg w8 hbox hb; have n0_ := Aside0.mk (Kd.S_below (Kd.S_elderB (by (with_reducible repeat (first | apply Kd.S_alloc | apply Kd.S_drewN | apply Kd.S_drew)); exact HO_3.out) gb104 (Nat.le_of_eq hg.symm)) hb); have n1_ := Aside0.mk (below_step (by repeat (first | (with_reducible first | exact HB.out | apply below_alloc | apply pw_below_drewN | apply below_drew1) | exact HB.out)) hb); have n2_ := Aside0.mk (hbox); have n3_ := Aside0.mk ((by rw [hg]; exact (below_size (by repeat (first | (with_reducible first | exact HB.out | apply below_alloc | apply pw_below_drewN | apply below_drew1) | exact HB.out))) : w.heap.size ≤ gb104)); have n4_ := Aside0.mk ((by rw [hg]; exact (below_size (by repeat (first | (with_reducible first | exact HB.out | apply below_alloc | apply pw_below_drewN | apply below_drew1) | exact HB.out))) : w.heap.size ≤ gb104)); clear HO_3; clear HB; have HO_3 := n0_; have HB := n1_; have BK104 := n2_; have GW104 := n3_; have GE104 := n4_; clear n0_ n1_ n2_ n3_ n4_; clear hb hbox hg; have hcz9_0 : w8.cell? ⟨gb104, 0, none⟩ = some (.int .i64 0) := (blk_cell BK104.out 0).trans rfl; have hcz9_1 : w8.cell? ⟨gb104, 1, none⟩ = some (.int .u8 0) := (blk_cell BK104.out 1).trans rfl; have hcz9_2 : w8.cell? ⟨gb104, 2, none⟩ = some (.bool false) := (blk_cell BK104.out 2).trans rfl; have hcz9_3 : w8.cell? ⟨gb104, 3, none⟩ = some (.int .i64 0) := (blk_cell BK104.out 3).trans rfl; have hcz9_4 : w8.cell? ⟨gb104, 4, none⟩ = some (.int .i64 0) := (blk_cell BK104.out 4).trans rfl; have hcz9_5 : w8.cell? ⟨gb104, 5, none⟩ = some (.int .i64 0) := (blk_cell BK104.out 5).trans rfl; have hcz9_6 : w8.cell? ⟨gb104, 6, none⟩ = some (.slice none 0 0) := (blk_cell BK104.out 6).trans rfl; have hcz9_7 : w8.cell? ⟨gb104, 7, none⟩ = some (.slice none 0 0) := (blk_cell BK104.out 7).trans rfl; have hfz9_0 := blk_frozen BK104.out 0; have hfz9_1 := blk_frozen BK104.out 1; have hfz9_2 := blk_frozen BK104.out 2; have hfz9_3 := blk_frozen BK104.out 3; have hfz9_4 := blk_frozen BK104.out 4; have hfz9_5 := blk_frozen BK104.out 5; have hfz9_6 := blk_frozen BK104.out 6; have hfz9_7 := blk_frozen BK104.out 7) | ((with_reducible refine gate_builtin (b := .append) (xs := #[.const (.slice none 0 0), .tmp 13]) rfl ?_); at_builtin; refine Kd.R_append_rows (Kd.int .i64) (w0 := w) w.heap.size rfl (.const (.slice none 0 0)) (.tmp 13) 22 3 (.int .i64 0) 8 rfl Try.underlying22 info3 rfl (by decide) (by omega) (.slice none 0 0) ([] : List Int) ((rd_T82 l0 x8_1).f6) _ _ _ (fun _ => True) (fun _ => False) rfl rfl ?aO ?aR (fun _ _ h => h) (fun _ h => h.elim) ?aF ?aB ?aS ?aL ?_; (case aR => exact Kd.C_below HR103_6.out (by repeat (first | (with_reducible first | exact HB.out | apply below_alloc | apply pw_below_drewN | apply below_drew1 | refine below_set ?_ GE104.out) | exact HB.out))); (case aB => exact (by repeat (first | (with_reducible first | exact HB.out | apply below_alloc | apply pw_below_drewN | apply below_drew1 | refine below_set ?_ GE104.out) | exact HB.out))); (case aF => exact (fun _ _ => trivial)); (case aO => exact ((Kd.R_nil _ _ _ _ (fun _ => True)))); (case aS => exact (below_size (by repeat (first | (with_reducible first | exact HB.out | apply below_alloc | apply pw_below_drewN | apply below_drew1 | refine below_set ?_ GE104.out) | exact HB.out)))); (case aL => have := LMc5.out; omega); intro v106 w10 ho hb hg hat; rw [← Ny105.out] at ho; have n0_ := Aside0.mk (Kd.S_after (Kd.S_apart_nil (by (with_reducible repeat (first | apply Kd.S_alloc | apply Kd.S_drewN | apply Kd.S_drew)); exact (Kd.S_mono (Kd.S_far (p := ⟨gb104, 7, none⟩) (Kd.S_far (p := ⟨gb104, 6, none⟩) (Kd.S_far (p := ⟨gb104, 5, none⟩) (Kd.S_far (p := ⟨gb104, 4, none⟩) (Kd.S_far (p := ⟨gb104, 3, none⟩) (Kd.S_far (p := ⟨gb104, 2, none⟩) (Kd.S_far (p := ⟨gb104, 1, none⟩) (Kd.S_far (p := ⟨gb104, 0, none⟩) (Kd.S_mono HO_3.out (fun k_ hk => (⟨hk, hk.2⟩ : _ ∧ k_ ≠ gb104))) (fun _ hk => hk.2) (.int .i64 ((rd_T82 l0 x8_1).f0))) (fun _ hk => hk.2) (.int .u8 ((rd_T82 l0 x8_1).f1))) (fun _ hk => hk.2) (.bool ((rd_T82 l0 x8_1).f2))) (fun _ hk => hk.2) (.int .i64 ((rd_T82 l0 x8_1).f3))) (fun _ hk => hk.2) (.int .i64 ((rd_T82 l0 x8_1).f4))) (fun _ hk => hk.2) (.int .i64 ((rd_T82 l0 x8_1).f5))) (fun _ hk => hk.2) (.slice A103_6 ((rd_T82 l0 x8_1).f6).length c103_6)) (fun _ hk => hk.2) (.slice A103_7 ((rd_T82 l0 x8_1).f7).length c103_7)) (fun _ h_ => h_.1)))) hg hat); have n1_ := Aside0.mk (blk_grown (g := gb104) (o := .cells #[.int .i64 ((rd_T82 l0 x8_1).f0), .int .u8 ((rd_T82 l0 x8_1).f1), .bool ((rd_T82 l0 x8_1).f2), .int .i64 ((rd_T82 l0 x8_1).f3), .int .i64 ((rd_T82 l0 x8_1).f4), .int .i64 ((rd_T82 l0 x8_1).f5), .slice A103_6 ((rd_T82 l0 x8_1).f6).length c103_6, .slice A103_7 ((rd_T82 l0 x8_1).f7).length c103_7] 82 (0, 0)) (by (with_reducible repeat (first | refine blk_drewN ?_ _ | refine blk_drew ?_ | refine blk_alloc ?_ _)); refine blk_put (cs := #[.int .i64 ((rd_T82 l0 x8_1).f0), .int .u8 ((rd_T82 l0 x8_1).f1), .bool ((rd_T82 l0 x8_1).f2), .int .i64 ((rd_T82 l0 x8_1).f3), .int .i64 ((rd_T82 l0 x8_1).f4), .int .i64 ((rd_T82 l0 x8_1).f5), .slice A103_6 ((rd_T82 l0 x8_1).f6).length c103_6, .slice none 0 0]) ?_ 7 _ rfl; (with_reducible repeat (first | refine blk_drewN ?_ _ | refine blk_drew ?_ | refine blk_alloc ?_ _)); refine blk_put (cs := #[.int .i64 ((rd_T82 l0 x8_1).f0), .int .u8 ((rd_T82 l0 x8_1).f1), .bool ((rd_T82 l0 x8_1).f2), .int .i64 ((rd_T82 l0 x8_1).f3), .int .i64 ((rd_T82 l0 x8_1).f4), .int .i64 ((rd_T82 l0 x8_1).f5), .slice none 0 0, .slice none 0 0]) ?_ 6 _ rfl; (with_reducible repeat (first | refine blk_drewN ?_ _ | refine blk_drew ?_ | refine blk_alloc ?_ _)); refine blk_put (cs := #[.int .i64 ((rd_T82 l0 x8_1).f0), .int .u8 ((rd_T82 l0 x8_1).f1), .bool ((rd_T82 l0 x8_1).f2), .int .i64 ((rd_T82 l0 x8_1).f3), .int .i64 ((rd_T82 l0 x8_1).f4), .int .i64 0, .slice none 0 0, .slice none 0 0]) ?_ 5 _ rfl; (with_reducible repeat (first | refine blk_drewN ?_ _ | refine blk_drew ?_ | refine blk_alloc ?_ _)); refine blk_put (cs := #[.int .i64 ((rd_T82 l0 x8_1).f0), .int .u8 ((rd_T82 l0 x8_1).f1), .bool ((rd_T82 l0 x8_1).f2), .int .i64 ((rd_T82 l0 x8_1).f3), .int .i64 0, .int .i64 0, .slice none 0 0, .slice none 0 0]) ?_ 4 _ rfl; (with_reducible repeat (first | refine blk_drewN ?_ _ | refine blk_drew ?_ | refine blk_alloc ?_ _)); refine blk_put (cs := #[.int .i64 ((rd_T82 l0 x8_1).f0), .int .u8 ((rd_T82 l0 x8_1).f1), .bool ((rd_T82 l0 x8_1).f2), .int .i64 0, .int .i64 0, .int .i64 0, .slice none 0 0, .slice none 0 0]) ?_ 3 _ rfl; (with_reducible repeat (first | refine blk_drewN ?_ _ | refine blk_drew ?_ | refine blk_alloc ?_ _)); refine blk_put (cs := #[.int .i64 ((rd_T82 l0 x8_1).f0), .int .u8 ((rd_T82 l0 x8_1).f1), .bool false, .int .i64 0, .int .i64 0, .int .i64 0, .slice none 0 0, .slice none 0 0]) ?_ 2 _ rfl; (with_reducible repeat (first | refine blk_drewN ?_ _ | refine blk_drew ?_ | refine blk_alloc ?_ _)); refine blk_put (cs := #[.int .i64 ((rd_T82 l0 x8_1).f0), .int .u8 0, .bool false, .int .i64 0, .int .i64 0, .int .i64 0, .slice none 0 0, .slice none 0 0]) ?_ 1 _ rfl; (with_reducible repeat (first | refine blk_drewN ?_ _ | refine blk_drew ?_ | refine blk_alloc ?_ _)); refine blk_put (cs := #[.int .i64 0, .int .u8 0, .bool false, .int .i64 0, .int .i64 0, .int .i64 0, .slice none 0 0, .slice none 0 0]) ?_ 0 _ rfl; (with_reducible repeat (first | refine blk_drewN ?_ _ | refine blk_drew ?_ | refine blk_alloc ?_ _)); exact BK104.out) hg (by simp [Value.ownBlock])); have n2_ := Aside0.mk (hb); have n3_ := Aside0.mk (ho); clear HO_3; clear BK104; clear HB; have HO_3 := n0_; have BK104 := n1_; have HB := n2_; have HO107 := n3_; clear n0_ n1_ n2_ n3_; clear ho hb hg hat; obtain ⟨Ao11, co11, eo11⟩ := Kd.R_slice HO107.out; subst eo11; have hcz12_0 : w10.cell? ⟨gb104, 0, none⟩ = some (.int .i64 ((rd_T82 l0 x8_1).f0)) := (blk_cell BK104.out 0).trans rfl; have hcz12_1 : w10.cell? ⟨gb104, 1, none⟩ = some (.int .u8 ((rd_T82 l0 x8_1).f1)) := (blk_cell BK104.out 1).trans rfl; have hcz12_2 : w10.cell? ⟨gb104, 2, none⟩ = some (.bool ((rd_T82 l0 x8_1).f2)) := (blk_cell BK104.out 2).trans rfl; have hcz12_3 : w10.cell? ⟨gb104, 3, none⟩ = some (.int .i64 ((rd_T82 l0 x8_1).f3)) := (blk_cell BK104.out 3).trans rfl; have hcz12_4 : w10.cell? ⟨gb104, 4, none⟩ = some (.int .i64 ((rd_T82 l0 x8_1).f4)) := (blk_cell BK104.out 4).trans rfl; have hcz12_5 : w10.cell? ⟨gb104, 5, none⟩ = some (.int .i64 ((rd_T82 l0 x8_1).f5)) := (blk_cell BK104.out 5).trans rfl; have hcz12_6 : w10.cell? ⟨gb104, 6, none⟩ = some (.slice A103_6 ((rd_T82 l0 x8_1).f6).length c103_6) := (blk_cell BK104.out 6).trans rfl; have hcz12_7 : w10.cell? ⟨gb104, 7, none⟩ = some (.slice A103_7 ((rd_T82 l0 x8_1).f7).length c103_7) := (blk_cell BK104.out 7).trans rfl; have hfz12_0 := blk_frozen BK104.out 0; have hfz12_1 := blk_frozen BK104.out 1; have hfz12_2 := blk_frozen BK104.out 2; have hfz12_3 := blk_frozen BK104.out 3; have hfz12_4 := blk_frozen BK104.out 4; have hfz12_5 := blk_frozen BK104.out 5; have hfz12_6 := blk_frozen BK104.out 6; have hfz12_7 := blk_frozen BK104.out 7) | ((with_reducible refine gate_builtin (b := .append) (xs := #[.const (.slice none 0 0), .tmp 17]) rfl ?_); at_builtin; refine Kd.R_append_rows (Kd.int .i64) (w0 := w) w.heap.size rfl (.const (.slice none 0 0)) (.tmp 17) 22 3 (.int .i64 0) 8 rfl Try.underlying22 info3 rfl (by decide) (by omega) (.slice none 0 0) ([] : List Int) ((rd_T82 l0 x8_1).f7) _ _ _ (fun k_ => some k_ ≠ (.slice Ao11 y105.length co11 : Value).ownBlock) (fun _ => False) rfl rfl ?aO ?aR (fun _ _ h => h) (fun _ h => h.elim) ?aF ?aB ?aS ?aL ?_; (case aR => exact Kd.C_below HR103_7.out (by repeat (first | (with_reducible first | exact HB.out | apply below_alloc | apply pw_below_drewN | apply below_drew1 | refine below_set ?_ GE104.out) | exact HB.out))); (case aB => exact (by repeat (first | (with_reducible first | exact HB.out | apply below_alloc | apply pw_below_drewN | apply below_drew1 | refine below_set ?_ GE104.out) | exact HB.out))); (case aF => exact (fun k_ hk => Kd.fresh' (Kd.R_lt (by (with_reducible repeat (first | apply Kd.R_alloc | apply Kd.R_drewN | apply Kd.R_drew)); exact (Kd.R_mono (Kd.R_far (p := ⟨gb104, 6, none⟩) (Kd.R_types HO107.out BK104.out (by decide)) (fun _ hk => hk.2) (.slice Ao11 y105.length co11)) (fun _ h_ => h_.1)))) k_ hk)); (case aO => exact ((Kd.R_nil _ _ _ _ (fun k_ => some k_ ≠ (.slice Ao11 y105.length co11 : Value).ownBlock)))); (case aS => exact (below_size (by repeat (first | (with_reducible first | exact HB.out | apply below_alloc | apply pw_below_drewN | apply below_drew1 | refine below_set ?_ GE104.out) | exact HB.out)))); (case aL => have := LMc6.out; omega); intro v109 w13 ho hb hg hat; rw [← Ny108.out] at ho; have n0_ := Aside0.mk (Kd.S_after (Kd.S_apart_nil (by (with_reducible repeat (first | apply Kd.S_alloc | apply Kd.S_drewN | apply Kd.S_drew)); exact (Kd.S_mono (Kd.S_far (p := ⟨gb104, 6, none⟩) (Kd.S_mono HO_3.out (fun k_ hk => (⟨hk, hk.1.2⟩ : _ ∧ k_ ≠ gb104))) (fun _ hk => hk.2) (.slice Ao11 y105.length co11)) (fun _ h_ => h_.1)))) hg hat); have n1_ := Aside0.mk (blk_grown (g := gb104) (o := .cells #[.int .i64 ((rd_T82 l0 x8_1).f0), .int .u8 ((rd_T82 l0 x8_1).f1), .bool ((rd_T82 l0 x8_1).f2), .int .i64 ((rd_T82 l0 x8_1).f3), .int .i64 ((rd_T82 l0 x8_1).f4), .int .i64 ((rd_T82 l0 x8_1).f5), .slice Ao11 y105.length co11, .slice A103_7 ((rd_T82 l0 x8_1).f7).length c103_7] 82 (0, 0)) (by (with_reducible repeat (first | refine blk_drewN ?_ _ | refine blk_drew ?_ | refine blk_alloc ?_ _)); refine blk_put (cs := #[.int .i64 ((rd_T82 l0 x8_1).f0), .int .u8 ((rd_T82 l0 x8_1).f1), .bool ((rd_T82 l0 x8_1).f2), .int .i64 ((rd_T82 l0 x8_1).f3), .int .i64 ((rd_T82 l0 x8_1).f4), .int .i64 ((rd_T82 l0 x8_1).f5), .slice A103_6 ((rd_T82 l0 x8_1).f6).length c103_6, .slice A103_7 ((rd_T82 l0 x8_1).f7).length c103_7]) ?_ 6 _ rfl; (with_reducible repeat (first | refine blk_drewN ?_ _ | refine blk_drew ?_ | refine blk_alloc ?_ _)); exact BK104.out) hg (by simp [Value.ownBlock])); have n2_ := Aside0.mk (Kd.R_after (Kd.R_apart_nil (by (with_reducible repeat (first | apply Kd.R_alloc | apply Kd.R_drewN | apply Kd.R_drew)); exact (Kd.R_mono (Kd.R_far (p := ⟨gb104, 6, none⟩) (Kd.R_types HO107.out BK104.out (by decide)) (fun _ hk => hk.2) (.slice Ao11 y105.length co11)) (fun _ h_ => h_.1)))) hg hat); have n3_ := Aside0.mk (hb); have n4_ := Aside0.mk (ho); clear HO_3; clear BK104; clear HO107; clear HB; have HO_3 := n0_; have BK104 := n1_; have HO107 := n2_; have HB := n3_; have HO110 := n4_; clear n0_ n1_ n2_ n3_ n4_; clear ho hb hg hat; obtain ⟨Ao14, co14, eo14⟩ := Kd.R_slice HO110.out; subst eo14; have hcz15_0 : w13.cell? ⟨gb104, 0, none⟩ = some (.int .i64 ((rd_T82 l0 x8_1).f0)) := (blk_cell BK104.out 0).trans rfl; have hcz15_1 : w13.cell? ⟨gb104, 1, none⟩ = some (.int .u8 ((rd_T82 l0 x8_1).f1)) := (blk_cell BK104.out 1).trans rfl; have hcz15_2 : w13.cell? ⟨gb104, 2, none⟩ = some (.bool ((rd_T82 l0 x8_1).f2)) := (blk_cell BK104.out 2).trans rfl; have hcz15_3 : w13.cell? ⟨gb104, 3, none⟩ = some (.int .i64 ((rd_T82 l0 x8_1).f3)) := (blk_cell BK104.out 3).trans rfl; have hcz15_4 : w13.cell? ⟨gb104, 4, none⟩ = some (.int .i64 ((rd_T82 l0 x8_1).f4)) := (blk_cell BK104.out 4).trans rfl; have hcz15_5 : w13.cell? ⟨gb104, 5, none⟩ = some (.int .i64 ((rd_T82 l0 x8_1).f5)) := (blk_cell BK104.out 5).trans rfl; have hcz15_6 : w13.cell? ⟨gb104, 6, none⟩ = some (.slice Ao11 y105.length co11) := (blk_cell BK104.out 6).trans rfl; have hcz15_7 : w13.cell? ⟨gb104, 7, none⟩ = some (.slice A103_7 ((rd_T82 l0 x8_1).f7).length c103_7) := (blk_cell BK104.out 7).trans rfl; have hfz15_0 := blk_frozen BK104.out 0; have hfz15_1 := blk_frozen BK104.out 1; have hfz15_2 := blk_frozen BK104.out 2; have hfz15_3 := blk_frozen BK104.out 3; have hfz15_4 := blk_frozen BK104.out 4; have hfz15_5 := blk_frozen BK104.out 5; have hfz15_6 := blk_frozen BK104.out 6; have hfz15_7 := blk_frozen BK104.out 7) | ((with_reducible refine gate_store (t := 22) (p := 19) rfl ?_); refine store_event (t := 22) (p := 19) (v := ?vo_w16) (w1 := (w13.setCell ⟨gb104, 7, none⟩ (.slice Ao14 y108.length co14))) ?hg ?ho ?hn ?hr ?_; (case ho => rfl); (case hg => rfl); (case hn => rfl); (case hr => first | (go_simp; done) | (go_simp; rfl)); intro w16 hw; have n0_ : Aside0 (Kd.S k82 82 w16 w.heap.size (fun k_ => some k_ ≠ (.slice Ao11 y105.length co11 : Value).ownBlock ∧ some k_ ≠ (.slice Ao14 y108.length co14 : Value).ownBlock ∧ k_ ≠ gb104) u3 x3_1) := ⟨(by rw [hw]; exact (by (with_reducible repeat (first | apply Kd.S_alloc | apply Kd.S_drewN | apply Kd.S_drew)); exact Kd.S_mono (Kd.S_far (p := ⟨gb104, 7, none⟩) (Kd.S_mono HO_3.out (fun k_ hk => (⟨hk, hk.1.1.2⟩ : _ ∧ k_ ≠ gb104))) (fun _ hk => hk.2) (.slice Ao14 y108.length co14)) (fun _ hk => ⟨hk.1.1.2, ⟨hk.1.2, hk.1.1.1.2⟩⟩)))⟩; have n1_ : Aside0 (Kd.R (Kd.int .i64) 3 w16 w.heap.size (fun k_ => some k_ ≠ (.slice Ao14 y108.length co14 : Value).ownBlock) (.slice Ao11 y105.length co11) y105) := ⟨(by rw [hw]; exact (by (with_reducible repeat (first | apply Kd.R_alloc | apply Kd.R_drewN | apply Kd.R_drew)); exact Kd.R_mono (Kd.R_far (p := ⟨gb104, 7, none⟩) (Kd.R_types HO107.out BK104.out (by decide)) (fun _ hk => hk.2) (.slice Ao14 y108.length co14)) (fun _ hk => hk.1.2)))⟩; have n2_ : Aside0 (Kd.R (Kd.int .i64) 3 w16 w.heap.size (fun k_ => some k_ ≠ (.slice Ao11 y105.length co11 : Value).ownBlock) (.slice Ao14 y108.length co14) y108) := ⟨(by rw [hw]; exact (by (with_reducible repeat (first | apply Kd.R_alloc | apply Kd.R_drewN | apply Kd.R_drew)); exact Kd.R_mono (Kd.R_far (p := ⟨gb104, 7, none⟩) (Kd.R_types HO110.out BK104.out (by decide)) (fun _ hk => hk.2) (.slice Ao14 y108.length co14)) (fun _ hk => hk.1)))⟩; have n3_ : Aside0 (w16.heap[gb104]? = some (.cells #[.int .i64 ((rd_T82 l0 x8_1).f0), .int .u8 ((rd_T82 l0 x8_1).f1), .bool ((rd_T82 l0 x8_1).f2), .int .i64 ((rd_T82 l0 x8_1).f3), .int .i64 ((rd_T82 l0 x8_1).f4), .int .i64 ((rd_T82 l0 x8_1).f5), .slice Ao11 y105.length co11, .slice Ao14 y108.length co14] 82 (0, 0))) := ⟨(by rw [hw]; exact (by (with_reducible repeat (first | refine blk_drewN ?_ _ | refine blk_drew ?_ | refine blk_alloc ?_ _)); refine blk_put (cs := #[.int .i64 ((rd_T82 l0 x8_1).f0), .int .u8 ((rd_T82 l0 x8_1).f1), .bool ((rd_T82 l0 x8_1).f2), .int .i64 ((rd_T82 l0 x8_1).f3), .int .i64 ((rd_T82 l0 x8_1).f4), .int .i64 ((rd_T82 l0 x8_1).f5), .slice Ao11 y105.length co11, .slice A103_7 ((rd_T82 l0 x8_1).f7).length c103_7]) ?_ 7 _ rfl; (with_reducible repeat (first | refine blk_drewN ?_ _ | refine blk_drew ?_ | refine blk_alloc ?_ _)); exact BK104.out))⟩; have n4_ : Aside0 (Below w.heap.size w w16) := ⟨(by rw [hw]; exact (by repeat (first | (with_reducible first | exact HB.out | apply below_alloc | apply pw_below_drewN | apply below_drew1 | refine below_set ?_ GE104.out) | exact HB.out)))⟩; clear hw; clear HO_3; clear HO107; clear HO110; clear BK104; clear HB; have HO_3 := n0_; have HO107 := n1_; have HO110 := n2_; have BK104 := n3_; have HB := n4_; clear n0_ n1_ n2_ n3_ n4_; have hcz17_0 : w16.cell? ⟨gb104, 0, none⟩ = some (.int .i64 ((rd_T82 l0 x8_1).f0)) := (blk_cell BK104.out 0).trans rfl; have hcz17_1 : w16.cell? ⟨gb104, 1, none⟩ = some (.int .u8 ((rd_T82 l0 x8_1).f1)) := (blk_cell BK104.out 1).trans rfl; have hcz17_2 : w16.cell? ⟨gb104, 2, none⟩ = some (.bool ((rd_T82 l0 x8_1).f2)) := (blk_cell BK104.out 2).trans rfl; have hcz17_3 : w16.cell? ⟨gb104, 3, none⟩ = some (.int .i64 ((rd_T82 l0 x8_1).f3)) := (blk_cell BK104.out 3).trans rfl; have hcz17_4 : w16.cell? ⟨gb104, 4, none⟩ = some (.int .i64 ((rd_T82 l0 x8_1).f4)) := (blk_cell BK104.out 4).trans rfl; have hcz17_5 : w16.cell? ⟨gb104, 5, none⟩ = some (.int .i64 ((rd_T82 l0 x8_1).f5)) := (blk_cell BK104.out 5).trans rfl; have hcz17_6 : w16.cell? ⟨gb104, 6, none⟩ = some (.slice Ao11 y105.length co11) := (blk_cell BK104.out 6).trans rfl; have hcz17_7 : w16.cell? ⟨gb104, 7, none⟩ = some (.slice Ao14 y108.length co14) := (blk_cell BK104.out 7).trans rfl; have hfz17_0 := blk_frozen BK104.out 0; have hfz17_1 := blk_frozen BK104.out 1; have hfz17_2 := blk_frozen BK104.out 2; have hfz17_3 := blk_frozen BK104.out 3; have hfz17_4 := blk_frozen BK104.out 4; have hfz17_5 := blk_frozen BK104.out 5; have hfz17_6 := blk_frozen BK104.out 6; have hfz17_7 := blk_frozen BK104.out 7) | ((with_reducible refine gate_builtin (b := .append) (xs := #[.tmp 20, .tmp 22]) rfl ?_); at_builtin; refine Kd.S_append k82 (w0 := w) w.heap.size rfl (.tmp 20) (.tmp 22) 59 82 (.agg #[(.int .i64 0), (.int .u8 0), (.bool false), (.int .i64 0), (.int .i64 0), (.int .i64 0), (.slice none 0 0), (.slice none 0 0)]) 88 rfl Try.underlying59 info82 rfl (by decide) (by omega) u3 x3_1 (⟨(rd_T82 l0 x8_1).f0, (rd_T82 l0 x8_1).f1, (rd_T82 l0 x8_1).f2, (rd_T82 l0 x8_1).f3, (rd_T82 l0 x8_1).f4, (rd_T82 l0 x8_1).f5, y105, y108⟩ : S82) [.int .i64 ((rd_T82 l0 x8_1).f0), .int .u8 ((rd_T82 l0 x8_1).f1), .bool ((rd_T82 l0 x8_1).f2), .int .i64 ((rd_T82 l0 x8_1).f3), .int .i64 ((rd_T82 l0 x8_1).f4), .int .i64 ((rd_T82 l0 x8_1).f5), .slice Ao11 y105.length co11, .slice Ao14 y108.length co14] (fun k_ => k_ ≠ gb104) (fun k_ => some k_ = (.slice Ao11 y105.length co11 : Value).ownBlock ∨ some k_ = (.slice Ao14 y108.length co14 : Value).ownBlock) rfl rfl ?aP (fun k_ hk_ => hk_.elim (fun h_ => ((Kd.R_mono (ok' := fun k_ => ((fun k_ => k_ ≠ gb104)) k_ ∧ some k_ ≠ (u3 : Value).ownBlock) (Kd.R_types (Kd.R_apart' (HO107.out) (Kd.S_typed HO_3.out) (by decide)) BK104.out (by decide)) (fun k_ hk => ⟨hk.2, hk.1.2⟩))).1 k_ h_.symm) (fun h_ => ((Kd.R_mono (ok' := fun k_ => ((fun k_ => k_ ≠ gb104)) k_ ∧ some k_ ≠ (u3 : Value).ownBlock) (Kd.R_types (Kd.R_apart' (HO110.out) (Kd.S_typed HO_3.out) (by decide)) BK104.out (by decide)) (fun k_ hk => ⟨hk.2, hk.1.2⟩))).1 k_ h_.symm)) ?aF ?aO ?aB ?aS ?aL ?_; (case aP => exact k82_mkM _ _ _ (⟨(rd_T82 l0 x8_1).f0, (rd_T82 l0 x8_1).f1, (rd_T82 l0 x8_1).f2, (rd_T82 l0 x8_1).f3, (rd_T82 l0 x8_1).f4, (rd_T82 l0 x8_1).f5, y105, y108⟩ : S82) (Kd.R_mono (Kd.R_tight rfl (Kd.R_mono (ok' := fun k_ => ((fun k_ => k_ ≠ gb104)) k_ ∧ some k_ ≠ (u3 : Value).ownBlock) (Kd.R_types (Kd.R_apart' (HO107.out) (Kd.S_typed HO_3.out) (by decide)) BK104.out (by decide)) (fun k_ hk => ⟨hk.2, hk.1.2⟩))) (fun _ h_ => Or.inl h_)) (Kd.R_mono (Kd.R_tight rfl (Kd.R_mono (ok' := fun k_ => ((fun k_ => k_ ≠ gb104)) k_ ∧ some k_ ≠ (u3 : Value).ownBlock) (Kd.R_types (Kd.R_apart' (HO110.out) (Kd.S_typed HO_3.out) (by decide)) BK104.out (by decide)) (fun k_ hk => ⟨hk.2, hk.1.2⟩))) (fun _ h_ => Or.inr (h_)))); (case aB => exact (by repeat (first | (with_reducible first | exact HB.out | apply below_alloc | apply pw_below_drewN | apply below_drew1 | refine below_set ?_ GE104.out) | exact HB.out))); (case aF => exact (fun k_ hk => Kd.freshB (g := gb104) (o := .cells #[.int .i64 ((rd_T82 l0 x8_1).f0), .int .u8 ((rd_T82 l0 x8_1).f1), .bool ((rd_T82 l0 x8_1).f2), .int .i64 ((rd_T82 l0 x8_1).f3), .int .i64 ((rd_T82 l0 x8_1).f4), .int .i64 ((rd_T82 l0 x8_1).f5), .slice Ao11 y105.length co11, .slice Ao14 y108.length co14] 82 (0, 0)) (by (with_reducible repeat (first | refine blk_drewN ?_ _ | refine blk_drew ?_ | refine blk_alloc ?_ _)); exact BK104.out) k_ hk)); (case aO => exact (by (with_reducible repeat (first | apply Kd.S_alloc | apply Kd.S_drewN | apply Kd.S_drew)); exact Kd.S_mono HO_3.out (fun k_ hk => ⟨hk.2.2, fun e_ => e_.elim (fun h_ => hk.1 h_) (fun h_ => hk.2.1 h_)⟩))); (case aS => exact (below_size (by repeat (first | (with_reducible first | exact HB.out | apply below_alloc | apply pw_below_drewN | apply below_drew1 | refine below_set ?_ GE104.out) | exact HB.out)))); (case aL => have := LMc7.out; omega); intro v112 w18 ho hb hg hat; rw [← Ny111.out] at ho; have n0_ := Aside0.mk (blk_grown (g := gb104) (o := .cells #[.int .i64 ((rd_T82 l0 x8_1).f0), .int .u8 ((rd_T82 l0 x8_1).f1), .bool ((rd_T82 l0 x8_1).f2), .int .i64 ((rd_T82 l0 x8_1).f3), .int .i64 ((rd_T82 l0 x8_1).f4), .int .i64 ((rd_T82 l0 x8_1).f5), .slice Ao11 y105.length co11, .slice Ao14 y108.length co14] 82 (0, 0)) (by (with_reducible repeat (first | refine blk_drewN ?_ _ | refine blk_drew ?_ | refine blk_alloc ?_ _)); exact BK104.out) hg (Kd.S_away HO_3.out (fun _ hk => hk.2.2))); have n1_ := Aside0.mk (hb); have n2_ := Aside0.mk (ho); clear BK104; clear HB; clear HO_3; clear HO107; clear HO110; have BK104 := n0_; have HB := n1_; have HO113 := n2_; clear n0_ n1_ n2_; clear ho hb hg hat))
                  go_roundg k1
                  case measure => have := HK1.out; omega
                  case rel => exact ⟨(y111), (wrap64 (x8_1 + 1)), (by first | rfl | (simp; done) | (simp [*]; done)), H', ⟨by have := HK1.out; omega⟩, ⟨by (with_reducible repeat (first | apply Kd.S_alloc | apply Kd.S_drewN | apply Kd.S_drew)); exact Kd.S_mono HO113.out (fun _ hk => trivial)⟩, ⟨by repeat (first | (with_reducible first | exact HB.out | apply below_alloc | apply pw_below_drewN | apply below_drew1 | refine below_set ?_ GE104.out) | exact HB.out)⟩⟩
                · rw [if_neg c7] at H
                  exact absurd H (by simp)
              · rw [if_neg c6] at H
                exact absurd H (by simp)
            · rw [if_neg c5] at H
              exact absurd H (by simp)
          · rw [if_neg c4] at H
            exact absurd H (by simp)
        · rw [if_neg c3] at H
          exact absurd H (by simp)
      · rw [if_neg c2] at H
        have c2b0 : decide (x8_1 < (l0.length : Int)) = false := decide_eq_false c2
        clear c2
        obtain rfl := Option.some.inj H
        go_wp2
        go_ret
        exact ⟨_, by first | rfl | (simp [errW_none, errW_some] <;> rfl) | (simp [*, errW_none, errW_some] <;> rfl), by (with_reducible repeat (first | apply Kd.S_alloc | apply Kd.S_drewN | apply Kd.S_drew)); exact HO_3.out, by repeat (first | (with_reducible first | exact HB.out | apply below_alloc | apply pw_below_drewN | apply below_drew1) | exact HB.out)⟩
end Go.Proofs.Ytfnjbmpolggdeaa.CW
end
section
namespace Go.Proofs.Ytfnjbmpolggdeaa.CW
open Go.RowKit Go.Proofs.YtfnjbmpolggdeaaW.PrintWords Go.Proofs.YtfnjbmpolggdeaaW.PrintLast Go.Proofs.YtfnjbmpolggdeaaW.PrintMore
attribute [local go_sem] max2_int min2_int max_two min_two max_three min_three max_four min_four   -- for this text's walks alone
set_option linter.unusedVariables false
set_option linter.unusedSimpArgs false
mutual
def code_form.j0 : Nat → Int → Bool → Option (Int)
  | 0, _, _ => none
  | k + 1, x0, x12 => if x12 = true then (some 5) else (if x0 ≥ 21 then (if x0 ≤ 25 then (code_form.j1 k x0 true) else (if x0 ≥ 54 then (code_form.j1 k x0 (decide (x0 ≤ 58))) else (code_form.j1 k x0 false))) else (if x0 ≥ 54 then (code_form.j1 k x0 (decide (x0 ≤ 58))) else (code_form.j1 k x0 false)))
def code_form.j1 : Nat → Int → Bool → Option (Int)
  | 0, _, _ => none
  | k + 1, x0, x43 => if x43 = true then (some 6) else (if x0 = 132 then (some 7) else (if x0 ≥ 153 then (if x0 ≤ 167 then (code_form.j2 k x0 true) else (if x0 = 198 then (code_form.j2 k x0 true) else (code_form.j2 k x0 (x0 == 199)))) else (if x0 = 198 then (code_form.j2 k x0 true) else (code_form.j2 k x0 (x0 == 199)))))
def code_form.j2 : Nat → Int → Bool → Option (Int)
  | 0, _, _ => none
  | k + 1, x0, x61 => if x61 = true then (some 8) else (if x0 = 200 then (some 9) else (if x0 = 170 then (some 10) else (if x0 = 171 then (some 11) else (if x0 = 185 then (some 12) else (if x0 = 188 then (some 13) else (if x0 = 197 then (some 14) else (if x0 = 196 then (some 15) else (if x0 = 168 then (some 1) else (if x0 = 169 then (some 1) else (if x0 = 186 then (some 1) else (if x0 > 200 then (some 1) else (some 0))))))))))))
end
def code_form.f (k : Nat) (a0 : Int) : Option (Int) := if a0 = 16 then (some 2) else (if a0 = 17 then (some 3) else (if a0 = 18 then (some 4) else (if a0 = 19 then (code_form.j0 k a0 true) else (if a0 = 20 then (code_form.j0 k a0 true) else (if a0 ≥ 178 then (if a0 ≤ 184 then (code_form.j0 k a0 true) else (if a0 = 187 then (code_form.j0 k a0 true) else (if a0 = 189 then (code_form.j0 k a0 true) else (if a0 = 192 then (code_form.j0 k a0 true) else (code_form.j0 k a0 (a0 == 193)))))) else (if a0 = 187 then (code_form.j0 k a0 true) else (if a0 = 189 then (code_form.j0 k a0 true) else (if a0 = 192 then (code_form.j0 k a0 true) else (code_form.j0 k a0 (a0 == 193))))))))))
theorem code_form.mono_l : ∀ k, (∀ y0 y1, LeO (code_form.j0 k y0 y1) (code_form.j0 (k + 1) y0 y1)) ∧ (∀ y0 y1, LeO (code_form.j1 k y0 y1) (code_form.j1 (k + 1) y0 y1)) ∧ (∀ y0 y1, LeO (code_form.j2 k y0 y1) (code_form.j2 (k + 1) y0 y1))
  | 0 => ⟨fun _ _ r h => by simp [code_form.j0] at h, fun _ _ r h => by simp [code_form.j1] at h, fun _ _ r h => by simp [code_form.j2] at h⟩
  | k + 1 => by
    obtain ⟨ih0, ih1, ih2⟩ := code_form.mono_l k
    refine ⟨?_, ?_, ?_⟩
    · intro y0 y1
      unfold code_form.j0
      repeat' first
      | (with_reducible exact ih0 _ _)
      | (with_reducible exact ih1 _ _)
      | (with_reducible exact ih2 _ _)
      | (with_reducible exact LeO.refl _)
      | (with_reducible exact LeO.none _)
      | (with_reducible refine LeO.ite ?_ ?_)
      | (with_reducible refine LeO.bind ?_ (fun _ => ?_))
    · intro y0 y1
      unfold code_form.j1
      repeat' first
      | (with_reducible exact ih0 _ _)
      | (with_reducible exact ih1 _ _)
      | (with_reducible exact ih2 _ _)
      | (with_reducible exact LeO.refl _)
      | (with_reducible exact LeO.none _)
      | (with_reducible refine LeO.ite ?_ ?_)
      | (with_reducible refine LeO.bind ?_ (fun _ => ?_))
    · intro y0 y1
      unfold code_form.j2
      repeat' first
      | (with_reducible exact ih0 _ _)
      | (with_reducible exact ih1 _ _)
      | (with_reducible exact ih2 _ _)
      | (with_reducible exact LeO.refl _)
      | (with_reducible exact LeO.none _)
      | (with_reducible refine LeO.ite ?_ ?_)
      | (with_reducible refine LeO.bind ?_ (fun _ => ?_))
theorem code_form.mono : ∀ a0 k, LeO (code_form.f k a0) (code_form.f (k + 1) a0) := by
  intro a0 k
  obtain ⟨ih0, ih1, ih2⟩ := code_form.mono_l k
  unfold code_form.f
  repeat' first
      | (with_reducible exact ih0 _ _)
      | (with_reducible exact ih1 _ _)
      | (with_reducible exact ih2 _ _)
      | (with_reducible exact LeO.refl _)
      | (with_reducible exact LeO.none _)
      | (with_reducible refine LeO.ite ?_ ?_)
      | (with_reducible refine LeO.bind ?_ (fun _ => ?_))
set_option maxHeartbeats 8000000 in
set_option maxRecDepth 100000 in
theorem code_form.calls (k : Nat) (a0 : Int) (r : Int) (w : World) (h : code_form.f k a0 = some r) :
    Calls Try.prog 78 #[.int .u8 a0] w fun e w' => e = .returned (.int .i64 r) ∧ Drawn0 w w' := by
  have H : (if a0 = 16 then (some 2) else (if a0 = 17 then (some 3) else (if a0 = 18 then (some 4) else (if a0 = 19 then (code_form.j0 k a0 true) else (if a0 = 20 then (code_form.j0 k a0 true) else (if a0 ≥ 178 then (if a0 ≤ 184 then (code_form.j0 k a0 true) else (if a0 = 187 then (code_form.j0 k a0 true) else (if a0 = 189 then (code_form.j0 k a0 true) else (if a0 = 192 then (code_form.j0 k a0 true) else (code_form.j0 k a0 (a0 == 193)))))) else (if a0 = 187 then (code_form.j0 k a0 true) else (if a0 = 189 then (code_form.j0 k a0 true) else (if a0 = 192 then (code_form.j0 k a0 true) else (code_form.j0 k a0 (a0 == 193))))))))))) = some r := h
  clear h
  by_cases c2 : a0 = 16
  · rw [if_pos c2] at H
    have c2b0 : (a0 == 16) = true := beq_iff_eq.mpr c2
    have c2b1 : (a0 != 16) = false := bne_eq_false_iff_eq.mpr c2
    clear c2
    obtain rfl := Option.some.inj H
    go_enter Try.func78, Try.ntmps78
    go_wp2
    go_ret
    exact ⟨by first | rfl | (simp; done) | (simp [*]; done), by repeat (first | exact Drawn0.refl _ | apply Drawn0.step)⟩
  · rw [if_neg c2] at H
    have c2b0 : (a0 == 16) = false := beq_eq_false_iff_ne.mpr c2
    have c2b1 : (a0 != 16) = true := bne_iff_ne.mpr c2
    by_cases c3 : a0 = 17
    · rw [if_pos c3] at H
      have c3b0 : (a0 == 17) = true := beq_iff_eq.mpr c3
      have c3b1 : (a0 != 17) = false := bne_eq_false_iff_eq.mpr c3
      clear c3
      obtain rfl := Option.some.inj H
      go_enter Try.func78, Try.ntmps78
      go_wp2
      go_ret
      exact ⟨by first | rfl | (simp; done) | (simp [*]; done), by repeat (first | exact Drawn0.refl _ | apply Drawn0.step)⟩
    · rw [if_neg c3] at H
      have c3b0 : (a0 == 17) = false := beq_eq_false_iff_ne.mpr c3
      have c3b1 : (a0 != 17) = true := bne_iff_ne.mpr c3
      by_cases c4 : a0 = 18
      · rw [if_pos c4] at H
        have c4b0 : (a0 == 18) = true := beq_iff_eq.mpr c4
        have c4b1 : (a0 != 18) = false := bne_eq_false_iff_eq.mpr c4
        clear c4
        obtain rfl := Option.some.inj H
        go_enter Try.func78, Try.ntmps78
        go_wp2
        go_ret
        exact ⟨by first | rfl | (simp; done) | (simp [*]; done), by repeat (first | exact Drawn0.refl _ | apply Drawn0.step)⟩
      · rw [if_neg c4] at H
        have c4b0 : (a0 == 18) = false := beq_eq_false_iff_ne.mpr c4
        have c4b1 : (a0 != 18) = true := bne_iff_ne.mpr c4
        have HC5 := Aside0.mk H
        clear H
        go_enter Try.func78, Try.ntmps78
        go_upto_region 7 with (fail)
        go_cut [12] (fun v12 wc => ∃ (kq : Nat) (x12_4 : Bool), v12 = .bool x12_4 ∧ Aside0 (code_form.j0 kq a0 x12_4 = some r) ∧ Aside0 (kq ≤ k) ∧ Drawn0 w wc)
        case first =>
          have H := HC5.out
          clear HC5
          by_cases c6 : a0 = 19
          · rw [if_pos c6] at H
            have c6b0 : (a0 == 19) = true := beq_iff_eq.mpr c6
            have c6b1 : (a0 != 19) = false := bne_eq_false_iff_eq.mpr c6
            clear c6
            (first | rw [c6b0] | (simp only [i64_w, i32_w]; rw [c6b0]) | skip)
            have H' := Aside0.mk H
            clear H
            go_wp2
            go_meet
            case rel => exact ⟨_, (true), (by first | rfl | (simp; done) | (simp [*]; done)), H', ⟨by first | omega | exact Nat.le_refl _⟩, by repeat (first | exact Drawn0.refl _ | apply Drawn0.step)⟩
          · rw [if_neg c6] at H
            have c6b0 : (a0 == 19) = false := beq_eq_false_iff_ne.mpr c6
            have c6b1 : (a0 != 19) = true := bne_iff_ne.mpr c6
            (first | rw [c6b0] | (simp only [i64_w, i32_w]; rw [c6b0]) | skip)
            by_cases c7 : a0 = 20
            · rw [if_pos c7] at H
              have c7b0 : (a0 == 20) = true := beq_iff_eq.mpr c7
              have c7b1 : (a0 != 20) = false := bne_eq_false_iff_eq.mpr c7
              clear c7
              have H' := Aside0.mk H
              clear H
              go_wp2
              go_meet
              case rel => exact ⟨_, (true), (by first | rfl | (simp; done) | (simp [*]; done)), H', ⟨by first | omega | exact Nat.le_refl _⟩, by repeat (first | exact Drawn0.refl _ | apply Drawn0.step)⟩
            · rw [if_neg c7] at H
              have c7b0 : (a0 == 20) = false := beq_eq_false_iff_ne.mpr c7
              have c7b1 : (a0 != 20) = true := bne_iff_ne.mpr c7
              by_cases c8 : a0 ≥ 178
              · rw [if_pos c8] at H
                have c8b0 : decide (178 ≤ a0) = true := decide_eq_true c8
                clear c8
                by_cases c9 : a0 ≤ 184
                · rw [if_pos c9] at H
                  have c9b0 : decide (a0 ≤ 184) = true := decide_eq_true c9
                  clear c9
                  have H' := Aside0.mk H
                  clear H
                  go_wp2
                  go_meet
                  case rel => exact ⟨_, (true), (by first | rfl | (simp; done) | (simp [*]; done)), H', ⟨by first | omega | exact Nat.le_refl _⟩, by repeat (first | exact Drawn0.refl _ | apply Drawn0.step)⟩
                · rw [if_neg c9] at H
                  have c9b0 : decide (a0 ≤ 184) = false := decide_eq_false c9
                  clear c9
                  by_cases c10 : a0 = 187
                  · rw [if_pos c10] at H
                    have c10b0 : (a0 == 187) = true := beq_iff_eq.mpr c10
                    have c10b1 : (a0 != 187) = false := bne_eq_false_iff_eq.mpr c10
                    clear c10
                    have H' := Aside0.mk H
                    clear H
                    go_wp2
                    go_meet
                    case rel => exact ⟨_, (true), (by first | rfl | (simp; done) | (simp [*]; done)), H', ⟨by first | omega | exact Nat.le_refl _⟩, by repeat (first | exact Drawn0.refl _ | apply Drawn0.step)⟩
                  · rw [if_neg c10] at H
                    have c10b0 : (a0 == 187) = false := beq_eq_false_iff_ne.mpr c10
                    have c10b1 : (a0 != 187) = true := bne_iff_ne.mpr c10
                    by_cases c11 : a0 = 189
                    · rw [if_pos c11] at H
                      have c11b0 : (a0 == 189) = true := beq_iff_eq.mpr c11
                      have c11b1 : (a0 != 189) = false := bne_eq_false_iff_eq.mpr c11
                      clear c11
                      have H' := Aside0.mk H
                      clear H
                      go_wp2
                      go_meet
                      case rel => exact ⟨_, (true), (by first | rfl | (simp; done) | (simp [*]; done)), H', ⟨by first | omega | exact Nat.le_refl _⟩, by repeat (first | exact Drawn0.refl _ | apply Drawn0.step)⟩
                    · rw [if_neg c11] at H
                      have c11b0 : (a0 == 189) = false := beq_eq_false_iff_ne.mpr c11
                      have c11b1 : (a0 != 189) = true := bne_iff_ne.mpr c11
                      by_cases c12 : a0 = 192
                      · rw [if_pos c12] at H
                        have c12b0 : (a0 == 192) = true := beq_iff_eq.mpr c12
                        have c12b1 : (a0 != 192) = false := bne_eq_false_iff_eq.mpr c12
                        clear c12
                        have H' := Aside0.mk H
                        clear H
                        go_wp2
                        go_meet
                        case rel => exact ⟨_, (true), (by first | rfl | (simp; done) | (simp [*]; done)), H', ⟨by first | omega | exact Nat.le_refl _⟩, by repeat (first | exact Drawn0.refl _ | apply Drawn0.step)⟩
                      · rw [if_neg c12] at H
                        have c12b0 : (a0 == 192) = false := beq_eq_false_iff_ne.mpr c12
                        have c12b1 : (a0 != 192) = true := bne_iff_ne.mpr c12
                        have H' := Aside0.mk H
                        clear H
                        go_wp2
                        go_meet
                        case rel => exact ⟨_, ((a0 == 193)), (by first | rfl | (simp; done) | (simp [*]; done)), H', ⟨by first | omega | exact Nat.le_refl _⟩, by repeat (first | exact Drawn0.refl _ | apply Drawn0.step)⟩
              · rw [if_neg c8] at H
                have c8b0 : decide (178 ≤ a0) = false := decide_eq_false c8
                clear c8
                by_cases c13 : a0 = 187
                · rw [if_pos c13] at H
                  have c13b0 : (a0 == 187) = true := beq_iff_eq.mpr c13
                  have c13b1 : (a0 != 187) = false := bne_eq_false_iff_eq.mpr c13
                  clear c13
                  have H' := Aside0.mk H
                  clear H
                  go_wp2
                  go_meet
                  case rel => exact ⟨_, (true), (by first | rfl | (simp; done) | (simp [*]; done)), H', ⟨by first | omega | exact Nat.le_refl _⟩, by repeat (first | exact Drawn0.refl _ | apply Drawn0.step)⟩
                · rw [if_neg c13] at H
                  have c13b0 : (a0 == 187) = false := beq_eq_false_iff_ne.mpr c13
                  have c13b1 : (a0 != 187) = true := bne_iff_ne.mpr c13
                  by_cases c14 : a0 = 189
                  · rw [if_pos c14] at H
                    have c14b0 : (a0 == 189) = true := beq_iff_eq.mpr c14
                    have c14b1 : (a0 != 189) = false := bne_eq_false_iff_eq.mpr c14
                    clear c14
                    have H' := Aside0.mk H
                    clear H
                    go_wp2
                    go_meet
                    case rel => exact ⟨_, (true), (by first | rfl | (simp; done) | (simp [*]; done)), H', ⟨by first | omega | exact Nat.le_refl _⟩, by repeat (first | exact Drawn0.refl _ | apply Drawn0.step)⟩
                  · rw [if_neg c14] at H
                    have c14b0 : (a0 == 189) = false := beq_eq_false_iff_ne.mpr c14
                    have c14b1 : (a0 != 189) = true := bne_iff_ne.mpr c14
                    by_cases c15 : a0 = 192
                    · rw [if_pos c15] at H
                      have c15b0 : (a0 == 192) = true := beq_iff_eq.mpr c15
                      have c15b1 : (a0 != 192) = false := bne_eq_false_iff_eq.mpr c15
                      clear c15
                      have H' := Aside0.mk H
                      clear H
                      go_wp2
                      go_meet
                      case rel => exact ⟨_, (true), (by first | rfl | (simp; done) | (simp [*]; done)), H', ⟨by first | omega | exact Nat.le_refl _⟩, by repeat (first | exact Drawn0.refl _ | apply Drawn0.step)⟩
                    · rw [if_neg c15] at H
                      have c15b0 : (a0 == 192) = false := beq_eq_false_iff_ne.mpr c15
                      have c15b1 : (a0 != 192) = true := bne_iff_ne.mpr c15
                      have H' := Aside0.mk H
                      clear H
                      go_wp2
                      go_meet
                      case rel => exact ⟨_, ((a0 == 193)), (by first | rfl | (simp; done) | (simp [*]; done)), H', ⟨by first | omega | exact Nat.le_refl _⟩, by repeat (first | exact Drawn0.refl _ | apply Drawn0.step)⟩
        case rest =>
          clear HC5
          try clear c1
          try clear c2
          try clear c2b0
          try clear c2b1
          try clear p2
          try clear c3
          try clear c3b0
          try clear c3b1
          try clear c4
          try clear c4b0
          try clear c4b1
          try clear c6
          try clear c6b0
          try clear c6b1
          try clear c7
          try clear c7b0
          try clear c7b1
          try clear c8
          try clear c8b0
          try clear c9
          try clear c9b0
          try clear c10
          try clear c10b0
          try clear c10b1
          try clear c11
          try clear c11b0
          try clear c11b1
          try clear c12
          try clear c12b0
          try clear c12b1
          try clear c13
          try clear c13b0
          try clear c13b1
          try clear c14
          try clear c14b0
          try clear c14b1
          try clear c15
          try clear c15b0
          try clear c15b1
          obtain ⟨kq, x12_4, rfl, HA, HJ4, ⟨mc4, rfl⟩⟩ := hcut
          cases kq with
          | zero => exact absurd HA.out (by simp [code_form.j0])
          | succ kj4 =>
            have H := HA.out
            clear HA
            simp only [code_form.j0] at H
            by_cases c16 : x12_4 = true
            · subst c16
              have H1 : (some 5) = some r := by rw [if_pos rfl] at H; exact H
              clear H
              have H := H1
              clear H1
              obtain rfl := Option.some.inj H
              go_wp2
              go_ret
              exact ⟨by first | rfl | (simp; done) | (simp [*]; done), by repeat (first | exact Drawn0.refl _ | apply Drawn0.step)⟩
            · replace c16 := Bool.eq_false_iff.mpr c16
              subst c16
              have H1 : (if a0 ≥ 21 then (if a0 ≤ 25 then (code_form.j1 kj4 a0 true) else (if a0 ≥ 54 then (code_form.j1 kj4 a0 (decide (a0 ≤ 58))) else (code_form.j1 kj4 a0 false))) else (if a0 ≥ 54 then (code_form.j1 kj4 a0 (decide (a0 ≤ 58))) else (code_form.j1 kj4 a0 false))) = some r := by rw [if_neg (show ¬ (false = true) by decide)] at H; exact H
              clear H
              have H := H1
              clear H1
              have HC17 := Aside0.mk H
              clear H
              go_upto_region 9 with (fail)
              go_cut [43] (fun v43 wc => ∃ (kq : Nat) (x43_16 : Bool), v43 = .bool x43_16 ∧ Aside0 (code_form.j1 kq a0 x43_16 = some r) ∧ Aside0 (kq ≤ kj4) ∧ Drawn0 w wc)
              case first =>
                have H := HC17.out
                clear HC17
                by_cases c18 : a0 ≥ 21
                · rw [if_pos c18] at H
                  have c18b0 : decide (21 ≤ a0) = true := decide_eq_true c18
                  clear c18
                  (first | rw [c18b0] | (simp only [i64_w, i32_w]; rw [c18b0]) | skip)
                  by_cases c19 : a0 ≤ 25
                  · rw [if_pos c19] at H
                    have c19b0 : decide (a0 ≤ 25) = true := decide_eq_true c19
                    clear c19
                    have H' := Aside0.mk H
                    clear H
                    go_wp2
                    go_meet
                    case rel => exact ⟨_, (true), (by first | rfl | (simp; done) | (simp [*]; done)), H', ⟨by have := HJ4.out; first | omega | exact Nat.le_refl _⟩, by repeat (first | exact Drawn0.refl _ | apply Drawn0.step)⟩
                  · rw [if_neg c19] at H
                    have c19b0 : decide (a0 ≤ 25) = false := decide_eq_false c19
                    clear c19
                    by_cases c20 : a0 ≥ 54
                    · rw [if_pos c20] at H
                      have c20b0 : decide (54 ≤ a0) = true := decide_eq_true c20
                      clear c20
                      have H' := Aside0.mk H
                      clear H
                      go_wp2
                      go_meet
                      case rel => exact ⟨_, (decide (a0 ≤ 58)), (by first | rfl | (simp; done) | (simp [*]; done)), H', ⟨by have := HJ4.out; first | omega | exact Nat.le_refl _⟩, by repeat (first | exact Drawn0.refl _ | apply Drawn0.step)⟩
                    · rw [if_neg c20] at H
                      have c20b0 : decide (54 ≤ a0) = false := decide_eq_false c20
                      clear c20
                      have H' := Aside0.mk H
                      clear H
                      go_wp2
                      go_meet
                      case rel => exact ⟨_, (false), (by first | rfl | (simp; done) | (simp [*]; done)), H', ⟨by have := HJ4.out; first | omega | exact Nat.le_refl _⟩, by repeat (first | exact Drawn0.refl _ | apply Drawn0.step)⟩
                · rw [if_neg c18] at H
                  have c18b0 : decide (21 ≤ a0) = false := decide_eq_false c18
                  clear c18
                  (first | rw [c18b0] | (simp only [i64_w, i32_w]; rw [c18b0]) | skip)
                  by_cases c21 : a0 ≥ 54
                  · rw [if_pos c21] at H
                    have c21b0 : decide (54 ≤ a0) = true := decide_eq_true c21
                    clear c21
                    have H' := Aside0.mk H
                    clear H
                    go_wp2
                    go_meet
                    case rel => exact ⟨_, (decide (a0 ≤ 58)), (by first | rfl | (simp; done) | (simp [*]; done)), H', ⟨by have := HJ4.out; first | omega | exact Nat.le_refl _⟩, by repeat (first | exact Drawn0.refl _ | apply Drawn0.step)⟩
                  · rw [if_neg c21] at H
                    have c21b0 : decide (54 ≤ a0) = false := decide_eq_false c21
                    clear c21
                    have H' := Aside0.mk H
                    clear H
                    go_wp2
                    go_meet
                    case rel => exact ⟨_, (false), (by first | rfl | (simp; done) | (simp [*]; done)), H', ⟨by have := HJ4.out; first | omega | exact Nat.le_refl _⟩, by repeat (first | exact Drawn0.refl _ | apply Drawn0.step)⟩
              case rest =>
                clear HC17
                try clear c1
                try clear c2
                try clear c2b0
                try clear c2b1
                try clear p2
                try clear c3
                try clear c3b0
                try clear c3b1
                try clear c4
                try clear c4b0
                try clear c4b1
                try clear c6
                try clear c6b0
                try clear c6b1
                try clear c7
                try clear c7b0
                try clear c7b1
                try clear c8
                try clear c8b0
                try clear c9
                try clear c9b0
                try clear c10
                try clear c10b0
                try clear c10b1
                try clear c11
                try clear c11b0
                try clear c11b1
                try clear c12
                try clear c12b0
                try clear c12b1
                try clear c13
                try clear c13b0
                try clear c13b1
                try clear c14
                try clear c14b0
                try clear c14b1
                try clear c15
                try clear c15b0
                try clear c15b1
                try clear c16
                try clear c18
                try clear c18b0
                try clear c19
                try clear c19b0
                try clear c20
                try clear c20b0
                try clear c21
                try clear c21b0
                try clear p2
                obtain ⟨kq, x43_16, rfl, HA, HJ16, ⟨mc16, rfl⟩⟩ := hcut
                cases kq with
                | zero => exact absurd HA.out (by simp [code_form.j1])
                | succ kj16 =>
                  have H := HA.out
                  clear HA
                  simp only [code_form.j1] at H
                  by_cases c22 : x43_16 = true
                  · subst c22
                    have H1 : (some 6) = some r := by rw [if_pos rfl] at H; exact H
                    clear H
                    have H := H1
                    clear H1
                    obtain rfl := Option.some.inj H
                    go_wp2
                    go_ret
                    exact ⟨by first | rfl | (simp; done) | (simp [*]; done), by repeat (first | exact Drawn0.refl _ | apply Drawn0.step)⟩
                  · replace c22 := Bool.eq_false_iff.mpr c22
                    subst c22
                    have H1 : (if a0 = 132 then (some 7) else (if a0 ≥ 153 then (if a0 ≤ 167 then (code_form.j2 kj16 a0 true) else (if a0 = 198 then (code_form.j2 kj16 a0 true) else (code_form.j2 kj16 a0 (a0 == 199)))) else (if a0 = 198 then (code_form.j2 kj16 a0 true) else (code_form.j2 kj16 a0 (a0 == 199))))) = some r := by rw [if_neg (show ¬ (false = true) by decide)] at H; exact H
                    clear H
                    have H := H1
                    clear H1
                    by_cases c23 : a0 = 132
                    · rw [if_pos c23] at H
                      have c23b0 : (a0 == 132) = true := beq_iff_eq.mpr c23
                      have c23b1 : (a0 != 132) = false := bne_eq_false_iff_eq.mpr c23
                      clear c23
                      obtain rfl := Option.some.inj H
                      go_wp2
                      go_ret
                      exact ⟨by first | rfl | (simp; done) | (simp [*]; done), by repeat (first | exact Drawn0.refl _ | apply Drawn0.step)⟩
                    · rw [if_neg c23] at H
                      have c23b0 : (a0 == 132) = false := beq_eq_false_iff_ne.mpr c23
                      have c23b1 : (a0 != 132) = true := bne_iff_ne.mpr c23
                      have HC24 := Aside0.mk H
                      clear H
                      go_upto_region 13 with (fail)
                      go_cut [61] (fun v61 wc => ∃ (kq : Nat) (x61_23 : Bool), v61 = .bool x61_23 ∧ Aside0 (code_form.j2 kq a0 x61_23 = some r) ∧ Aside0 (kq ≤ kj16) ∧ Drawn0 w wc)
                      case first =>
                        have H := HC24.out
                        clear HC24
                        by_cases c25 : a0 ≥ 153
                        · rw [if_pos c25] at H
                          have c25b0 : decide (153 ≤ a0) = true := decide_eq_true c25
                          clear c25
                          (first | rw [c25b0] | (simp only [i64_w, i32_w]; rw [c25b0]) | skip)
                          by_cases c26 : a0 ≤ 167
                          · rw [if_pos c26] at H
                            have c26b0 : decide (a0 ≤ 167) = true := decide_eq_true c26
                            clear c26
                            have H' := Aside0.mk H
                            clear H
                            go_wp2
                            go_meet
                            case rel => exact ⟨_, (true), (by first | rfl | (simp; done) | (simp [*]; done)), H', ⟨by have := HJ4.out; have := HJ16.out; first | omega | exact Nat.le_refl _⟩, by repeat (first | exact Drawn0.refl _ | apply Drawn0.step)⟩
                          · rw [if_neg c26] at H
                            have c26b0 : decide (a0 ≤ 167) = false := decide_eq_false c26
                            clear c26
                            by_cases c27 : a0 = 198
                            · rw [if_pos c27] at H
                              have c27b0 : (a0 == 198) = true := beq_iff_eq.mpr c27
                              have c27b1 : (a0 != 198) = false := bne_eq_false_iff_eq.mpr c27
                              clear c27
                              have H' := Aside0.mk H
                              clear H
                              go_wp2
                              go_meet
                              case rel => exact ⟨_, (true), (by first | rfl | (simp; done) | (simp [*]; done)), H', ⟨by have := HJ4.out; have := HJ16.out; first | omega | exact Nat.le_refl _⟩, by repeat (first | exact Drawn0.refl _ | apply Drawn0.step)⟩
                            · rw [if_neg c27] at H
                              have c27b0 : (a0 == 198) = false := beq_eq_false_iff_ne.mpr c27
                              have c27b1 : (a0 != 198) = true := bne_iff_ne.mpr c27
                              have H' := Aside0.mk H
                              clear H
                              go_wp2
                              go_meet
                              case rel => exact ⟨_, ((a0 == 199)), (by first | rfl | (simp; done) | (simp [*]; done)), H', ⟨by have := HJ4.out; have := HJ16.out; first | omega | exact Nat.le_refl _⟩, by repeat (first | exact Drawn0.refl _ | apply Drawn0.step)⟩
                        · rw [if_neg c25] at H
                          have c25b0 : decide (153 ≤ a0) = false := decide_eq_false c25
                          clear c25
                          (first | rw [c25b0] | (simp only [i64_w, i32_w]; rw [c25b0]) | skip)
                          by_cases c28 : a0 = 198
                          · rw [if_pos c28] at H
                            have c28b0 : (a0 == 198) = true := beq_iff_eq.mpr c28
                            have c28b1 : (a0 != 198) = false := bne_eq_false_iff_eq.mpr c28
                            clear c28
                            have H' := Aside0.mk H
                            clear H
                            go_wp2
                            go_meet
                            case rel => exact ⟨_, (true), (by first | rfl | (simp; done) | (simp [*]; done)), H', ⟨by have := HJ4.out; have := HJ16.out; first | omega | exact Nat.le_refl _⟩, by repeat (first | exact Drawn0.refl _ | apply Drawn0.step)⟩
                          · rw [if_neg c28] at H
                            have c28b0 : (a0 == 198) = false := beq_eq_false_iff_ne.mpr c28
                            have c28b1 : (a0 != 198) = true := bne_iff_ne.mpr c28
                            have H' := Aside0.mk H
                            clear H
                            go_wp2
                            go_meet
                            case rel => exact ⟨_, ((a0 == 199)), (by first | rfl | (simp; done) | (simp [*]; done)), H', ⟨by have := HJ4.out; have := HJ16.out; first | omega | exact Nat.le_refl _⟩, by repeat (first | exact Drawn0.refl _ | apply Drawn0.step)⟩
                      case rest =>
                        clear HC24
                        try clear c1
                        try clear c2
                        try clear c2b0
                        try clear c2b1
                        try clear p2
                        try clear c3
                        try clear c3b0
                        try clear c3b1
                        try clear c4
                        try clear c4b0
                        try clear c4b1
                        try clear c6
                        try clear c6b0
                        try clear c6b1
                        try clear c7
                        try clear c7b0
                        try clear c7b1
                        try clear c8
                        try clear c8b0
                        try clear c9
                        try clear c9b0
                        try clear c10
                        try clear c10b0
                        try clear c10b1
                        try clear c11
                        try clear c11b0
                        try clear c11b1
                        try clear c12
                        try clear c12b0
                        try clear c12b1
                        try clear c13
                        try clear c13b0
                        try clear c13b1
                        try clear c14
                        try clear c14b0
                        try clear c14b1
                        try clear c15
                        try clear c15b0
                        try clear c15b1
                        try clear c16
                        try clear c18
                        try clear c18b0
                        try clear c19
                        try clear c19b0
                        try clear c20
                        try clear c20b0
                        try clear c21
                        try clear c21b0
                        try clear c22
                        try clear c23
                        try clear c23b0
                        try clear c23b1
                        try clear c25
                        try clear c25b0
                        try clear c26
                        try clear c26b0
                        try clear c27
                        try clear c27b0
                        try clear c27b1
                        try clear c28
                        try clear c28b0
                        try clear c28b1
                        try clear p2
                        obtain ⟨kq, x61_23, rfl, HA, HJ23, ⟨mc23, rfl⟩⟩ := hcut
                        cases kq with
                        | zero => exact absurd HA.out (by simp [code_form.j2])
                        | succ kj23 =>
                          have H := HA.out
                          clear HA
                          simp only [code_form.j2] at H
                          by_cases c29 : x61_23 = true
                          · subst c29
                            have H1 : (some 8) = some r := by rw [if_pos rfl] at H; exact H
                            clear H
                            have H := H1
                            clear H1
                            obtain rfl := Option.some.inj H
                            go_wp2
                            go_ret
                            exact ⟨by first | rfl | (simp; done) | (simp [*]; done), by repeat (first | exact Drawn0.refl _ | apply Drawn0.step)⟩
                          · replace c29 := Bool.eq_false_iff.mpr c29
                            subst c29
                            have H1 : (if a0 = 200 then (some 9) else (if a0 = 170 then (some 10) else (if a0 = 171 then (some 11) else (if a0 = 185 then (some 12) else (if a0 = 188 then (some 13) else (if a0 = 197 then (some 14) else (if a0 = 196 then (some 15) else (if a0 = 168 then (some 1) else (if a0 = 169 then (some 1) else (if a0 = 186 then (some 1) else (if a0 > 200 then (some 1) else (some 0)))))))))))) = some r := by rw [if_neg (show ¬ (false = true) by decide)] at H; exact H
                            clear H
                            have H := H1
                            clear H1
                            by_cases c30 : a0 = 200
                            · rw [if_pos c30] at H
                              have c30b0 : (a0 == 200) = true := beq_iff_eq.mpr c30
                              have c30b1 : (a0 != 200) = false := bne_eq_false_iff_eq.mpr c30
                              clear c30
                              obtain rfl := Option.some.inj H
                              go_wp2
                              go_ret
                              exact ⟨by first | rfl | (simp; done) | (simp [*]; done), by repeat (first | exact Drawn0.refl _ | apply Drawn0.step)⟩
                            · rw [if_neg c30] at H
                              have c30b0 : (a0 == 200) = false := beq_eq_false_iff_ne.mpr c30
                              have c30b1 : (a0 != 200) = true := bne_iff_ne.mpr c30
                              by_cases c31 : a0 = 170
                              · rw [if_pos c31] at H
                                have c31b0 : (a0 == 170) = true := beq_iff_eq.mpr c31
                                have c31b1 : (a0 != 170) = false := bne_eq_false_iff_eq.mpr c31
                                clear c31
                                obtain rfl := Option.some.inj H
                                go_wp2
                                go_ret
                                exact ⟨by first | rfl | (simp; done) | (simp [*]; done), by repeat (first | exact Drawn0.refl _ | apply Drawn0.step)⟩
                              · rw [if_neg c31] at H
                                have c31b0 : (a0 == 170) = false := beq_eq_false_iff_ne.mpr c31
                                have c31b1 : (a0 != 170) = true := bne_iff_ne.mpr c31
                                by_cases c32 : a0 = 171
                                · rw [if_pos c32] at H
                                  have c32b0 : (a0 == 171) = true := beq_iff_eq.mpr c32
                                  have c32b1 : (a0 != 171) = false := bne_eq_false_iff_eq.mpr c32
                                  clear c32
                                  obtain rfl := Option.some.inj H
                                  go_wp2
                                  go_ret
                                  exact ⟨by first | rfl | (simp; done) | (simp [*]; done), by repeat (first | exact Drawn0.refl _ | apply Drawn0.step)⟩
                                · rw [if_neg c32] at H
                                  have c32b0 : (a0 == 171) = false := beq_eq_false_iff_ne.mpr c32
                                  have c32b1 : (a0 != 171) = true := bne_iff_ne.mpr c32
                                  by_cases c33 : a0 = 185
                                  · rw [if_pos c33] at H
                                    have c33b0 : (a0 == 185) = true := beq_iff_eq.mpr c33
                                    have c33b1 : (a0 != 185) = false := bne_eq_false_iff_eq.mpr c33
                                    clear c33
                                    obtain rfl := Option.some.inj H
                                    go_wp2
                                    go_ret
                                    exact ⟨by first | rfl | (simp; done) | (simp [*]; done), by repeat (first | exact Drawn0.refl _ | apply Drawn0.step)⟩
                                  · rw [if_neg c33] at H
                                    have c33b0 : (a0 == 185) = false := beq_eq_false_iff_ne.mpr c33
                                    have c33b1 : (a0 != 185) = true := bne_iff_ne.mpr c33
                                    by_cases c34 : a0 = 188
                                    · rw [if_pos c34] at H
                                      have c34b0 : (a0 == 188) = true := beq_iff_eq.mpr c34
                                      have c34b1 : (a0 != 188) = false := bne_eq_false_iff_eq.mpr c34
                                      clear c34
                                      obtain rfl := Option.some.inj H
                                      go_wp2
                                      go_ret
                                      exact ⟨by first | rfl | (simp; done) | (simp [*]; done), by repeat (first | exact Drawn0.refl _ | apply Drawn0.step)⟩
                                    · rw [if_neg c34] at H
                                      have c34b0 : (a0 == 188) = false := beq_eq_false_iff_ne.mpr c34
                                      have c34b1 : (a0 != 188) = true := bne_iff_ne.mpr c34
                                      by_cases c35 : a0 = 197
                                      · rw [if_pos c35] at H
                                        have c35b0 : (a0 == 197) = true := beq_iff_eq.mpr c35
                                        have c35b1 : (a0 != 197) = false := bne_eq_false_iff_eq.mpr c35
                                        clear c35
                                        obtain rfl := Option.some.inj H
                                        go_wp2
                                        go_ret
                                        exact ⟨by first | rfl | (simp; done) | (simp [*]; done), by repeat (first | exact Drawn0.refl _ | apply Drawn0.step)⟩
                                      · rw [if_neg c35] at H
                                        have c35b0 : (a0 == 197) = false := beq_eq_false_iff_ne.mpr c35
                                        have c35b1 : (a0 != 197) = true := bne_iff_ne.mpr c35
                                        by_cases c36 : a0 = 196
                                        · rw [if_pos c36] at H
                                          have c36b0 : (a0 == 196) = true := beq_iff_eq.mpr c36
                                          have c36b1 : (a0 != 196) = false := bne_eq_false_iff_eq.mpr c36
                                          clear c36
                                          obtain rfl := Option.some.inj H
                                          go_wp2
                                          go_ret
                                          exact ⟨by first | rfl | (simp; done) | (simp [*]; done), by repeat (first | exact Drawn0.refl _ | apply Drawn0.step)⟩
                                        · rw [if_neg c36] at H
                                          have c36b0 : (a0 == 196) = false := beq_eq_false_iff_ne.mpr c36
                                          have c36b1 : (a0 != 196) = true := bne_iff_ne.mpr c36
                                          by_cases c37 : a0 = 168
                                          · rw [if_pos c37] at H
                                            have c37b0 : (a0 == 168) = true := beq_iff_eq.mpr c37
                                            have c37b1 : (a0 != 168) = false := bne_eq_false_iff_eq.mpr c37
                                            clear c37
                                            obtain rfl := Option.some.inj H
                                            go_wp2
                                            go_ret
                                            exact ⟨by first | rfl | (simp; done) | (simp [*]; done), by repeat (first | exact Drawn0.refl _ | apply Drawn0.step)⟩
                                          · rw [if_neg c37] at H
                                            have c37b0 : (a0 == 168) = false := beq_eq_false_iff_ne.mpr c37
                                            have c37b1 : (a0 != 168) = true := bne_iff_ne.mpr c37
                                            by_cases c38 : a0 = 169
                                            · rw [if_pos c38] at H
                                              have c38b0 : (a0 == 169) = true := beq_iff_eq.mpr c38
                                              have c38b1 : (a0 != 169) = false := bne_eq_false_iff_eq.mpr c38
                                              clear c38
                                              obtain rfl := Option.some.inj H
                                              go_wp2
                                              go_ret
                                              exact ⟨by first | rfl | (simp; done) | (simp [*]; done), by repeat (first | exact Drawn0.refl _ | apply Drawn0.step)⟩
                                            · rw [if_neg c38] at H
                                              have c38b0 : (a0 == 169) = false := beq_eq_false_iff_ne.mpr c38
                                              have c38b1 : (a0 != 169) = true := bne_iff_ne.mpr c38
                                              by_cases c39 : a0 = 186
                                              · rw [if_pos c39] at H
                                                have c39b0 : (a0 == 186) = true := beq_iff_eq.mpr c39
                                                have c39b1 : (a0 != 186) = false := bne_eq_false_iff_eq.mpr c39
                                                clear c39
                                                obtain rfl := Option.some.inj H
                                                go_wp2
                                                go_ret
                                                exact ⟨by first | rfl | (simp; done) | (simp [*]; done), by repeat (first | exact Drawn0.refl _ | apply Drawn0.step)⟩
                                              · rw [if_neg c39] at H
                                                have c39b0 : (a0 == 186) = false := beq_eq_false_iff_ne.mpr c39
                                                have c39b1 : (a0 != 186) = true := bne_iff_ne.mpr c39
                                                by_cases c40 : a0 > 200
                                                · rw [if_pos c40] at H
                                                  have c40b0 : decide (200 < a0) = true := decide_eq_true c40
                                                  clear c40
                                                  obtain rfl := Option.some.inj H
                                                  go_wp2
                                                  go_ret
                                                  exact ⟨by first | rfl | (simp; done) | (simp [*]; done), by repeat (first | exact Drawn0.refl _ | apply Drawn0.step)⟩
                                                · rw [if_neg c40] at H
                                                  have c40b0 : decide (200 < a0) = false := decide_eq_false c40
                                                  clear c40
                                                  obtain rfl := Option.some.inj H
                                                  go_wp2
                                                  go_ret
                                                  exact ⟨by first | rfl | (simp; done) | (simp [*]; done), by repeat (first | exact Drawn0.refl _ | apply Drawn0.step)⟩
end Go.Proofs.Ytfnjbmpolggdeaa.CW
end
section
namespace Go.Proofs.Ytfnjbmpolggdeaa
open Go.RowKit
set_option linter.unusedVariables false
set_option linter.unusedSimpArgs false
def bs (s : ByteArray) : List Nat := s.data.toList.map UInt8.toNat
theorem bs_length (s : ByteArray) : (bs s).length = s.size := by simp [bs]
def sb (l : List Nat) : ByteArray := ⟨(l.map UInt8.ofNat).toArray⟩
theorem sb_bs (s : ByteArray) : sb (bs s) = s := by
  have : (List.map UInt8.ofNat (List.map UInt8.toNat s.data.toList)) = s.data.toList := by
    rw [List.map_map]; exact (List.map_congr_left (fun c _ => by simp)).trans (List.map_id _)
  unfold sb bs; rw [this]
theorem bs_sb {l : List Nat} (h : ∀ x ∈ l, x < 256) : bs (sb l) = l := by
  unfold sb bs; simp only [List.map_map]
  exact (List.map_congr_left (fun x hx => by simp [Nat.mod_eq_of_lt (h x hx)])).trans (List.map_id _)
theorem bs_inj {s t : ByteArray} (h : bs s = bs t) : s = t := by rw [← sb_bs s, h, sb_bs]
theorem sb_size (l : List Nat) : (sb l).size = l.length := by simp [sb, ByteArray.size]
theorem ret_s {a b : ByteArray} (h : a = b) : Ending.returned (.string a) = .returned (.string b) := by rw [h]
section
variable {P : Program} {w w0 : World}
theorem cells_new {w : World} {cs : List Value} {e : TypeId} : ∀ j u, cs[j]? = some u → (w.alloc (.cells cs.toArray e)).cell? ((⟨w.heap.size, 0, none⟩ : Addr).add j) = some u := by
  intro j u hu
  have h1 : ((⟨w.heap.size, 0, none⟩ : Addr).add j) = ⟨w.heap.size, j, none⟩ := by
    unfold Addr.add; split <;> simp_all
  rw [h1]
  have h2 : (w.alloc (.cells cs.toArray e)).heap[w.heap.size]? = some (.cells cs.toArray e) := heap_alloc_new w _
  simp only [World.cell?]; rw [h2]; simp [hu]
end
def u8s (l : List Nat) : List Value := l.map fun x : Nat => Value.int .u8 (x : Int)
theorem u8s_append (a b : List Nat) : u8s (a ++ b) = u8s a ++ u8s b := by simp [u8s]
theorem u8s_length (a : List Nat) : (u8s a).length = a.length := by simp [u8s]
theorem strOfNums_nats (l : List Nat) : strOfNums (l.map fun x : Nat => (x : Int)) = sb l := by
  simp [strOfNums, sb]
theorem lit_str {P : Program} {src dst e : TypeId} (hs : P.underlying src = some (.slice e)) (he : P.underlying e = some (.int .u8)) (hd : P.underlying dst = some .string) (w : World) (l : List Int) (n c : Nat) (hl : l.length = n) :
    (convert src dst (.slice (some ⟨w.heap.size, 0, none⟩) n c)).run P (w.alloc (.cells (l.map (Value.int .u8)).toArray e)) = .ok (.string (strOfNums l)) (w.alloc (.cells (l.map (Value.int .u8)).toArray e)) := by
  refine run_convert_bytes_arg _ src e hs he w.heap.size 0 n c l hl (fun i hi => ?_) dst hd
  have hc := cells_new (w := w) (cs := l.map (Value.int .u8)) (e := e) i (.int .u8 (l.getD i 0)) (by simp [List.getElem?_eq_getElem (show i < l.length by omega), List.getD_eq_getElem?_getD])
  have ha : (⟨w.heap.size, 0, none⟩ : Addr).add i = ⟨w.heap.size, 0 + i, none⟩ := by unfold Addr.add; split <;> simp_all
  rwa [ha] at hc
theorem lit_str1 {P : Program} {src dst e : TypeId} (hs : P.underlying src = some (.slice e)) (he : P.underlying e = some (.int .u8)) (hd : P.underlying dst = some .string) : ∀ (w : World) (a : Int),
    (convert src dst (.slice (some ⟨w.heap.size, 0, none⟩) 1 1)).run P (w.alloc (.cells #[.int .u8 a] e)) = .ok (.string (strOfNums [a])) (w.alloc (.cells #[.int .u8 a] e)) := fun w a => lit_str hs he hd w [a] 1 1 rfl
theorem own_str {P : Program} {w : World} {base n : Nat} {e' src dst e : TypeId} {v : Value} {l : List Nat} (hs : P.underlying src = some (.slice e)) (he : P.underlying e = some (.int .u8)) (hd : P.underlying dst = some .string)
    (h : w.ownsRow base e' 1 v n (u8s l)) : (convert src dst v).run P w = .ok (.string (sb l)) w := by
  have hl : l.length = n := by have := h.1; simp [u8s] at this; exact this
  rcases h.2 with ⟨rfl, rfl⟩ | ⟨g, cap, cur, rfl, _⟩
  · obtain rfl : l = [] := List.eq_nil_of_length_eq_zero hl
    exact run_convert_bytes_nil w src e hs he 0 0 dst hd
  · rw [← strOfNums_nats]
    refine run_convert_bytes_arg w src e hs he g 0 n cap (l.map fun x : Nat => (x : Int)) (by simpa using hl) (fun i hi => ?_) dst hd
    have hc := h.cells (g := g) rfl i (.int .u8 ((l.map fun x : Nat => (x : Int)).getD i 0)) (by simp [u8s, List.getElem?_eq_getElem (show i < l.length by omega), List.getD_eq_getElem?_getD])
    have ha : (⟨g, 0, none⟩ : Addr).add i = ⟨g, 0 + i, none⟩ := by unfold Addr.add; split <;> simp_all
    rwa [ha] at hc
end Go.Proofs.Ytfnjbmpolggdeaa
end
section
namespace Go.Proofs.Ytfnjbmpolggdeaa
open Go.RowKit
set_option linter.unusedVariables false
set_option linter.unusedSimpArgs false
def Rd (B : Nat) (w : World) (v : Value) (n : Nat) (xs : List Value) : Prop :=
  ∃ a c, v = .slice a n c ∧ (xs = [] ∨ ∃ b o, a = some ⟨b, o, none⟩ ∧ b < B ∧ ∀ j u, xs[j]? = some u → w.cell? ⟨b, o + j, none⟩ = some u)
theorem Rd.below {B B' : Nat} {w w' : World} {v n xs} (h : Rd B w v n xs) (hb : Below B' w w') (hB : B ≤ B') : Rd B w' v n xs := by
  obtain ⟨a, c, hv, h⟩ := h
  refine ⟨a, c, hv, ?_⟩
  rcases h with h | ⟨b, o, ha, hlt, hc⟩
  · exact .inl h
  · exact .inr ⟨b, o, ha, hlt, fun j u hj => by rw [hb.cell (by simpa using by omega)]; exact hc j u hj⟩
theorem Rd.mono {B B' : Nat} {w : World} {v n xs} (h : Rd B w v n xs) (hB : B ≤ B') : Rd B' w v n xs := by
  obtain ⟨a, c, hv, h⟩ := h
  refine ⟨a, c, hv, ?_⟩
  rcases h with h | ⟨b, o, ha, hlt, hc⟩
  · exact .inl h
  · exact .inr ⟨b, o, ha, by omega, hc⟩
theorem Rd.own {w : World} {base e size n} {v : Value} {xs : List Value} (h : w.ownsRow base e size v n xs) : Rd w.heap.size w v n xs := by
  rcases h.2 with ⟨rfl, rfl⟩ | ⟨g, cap, cur, rfl, hb, hg, _⟩
  · exact ⟨none, 0, rfl, .inl (List.eq_nil_of_length_eq_zero (by have := h.1; omega))⟩
  · refine ⟨_, cap, rfl, .inr ⟨g, 0, rfl, (Array.getElem?_eq_some_iff.1 hg).1, fun j u hj => ?_⟩⟩
    have := h.cells (g := g) rfl j u hj
    have ha : (⟨g, 0, none⟩ : Addr).add j = ⟨g, 0 + j, none⟩ := by unfold Addr.add; split <;> simp_all
    rwa [ha] at this
theorem Rd.nil {B : Nat} {w : World} : Rd B w (.slice none 0 0) 0 [] := ⟨none, 0, rfl, .inl rfl⟩
theorem grown_below {w w' : World} (hb : Below w.heap.size w w') (row : Option Nat) : w.grownBy w' row := ⟨hb.os, hb.tape, hb.output, hb.size, fun k hk _ => hb.block k hk⟩
end Go.Proofs.Ytfnjbmpolggdeaa
end
section
namespace Go.Proofs.Ytfnjbmpolggdeaa
open Go.RowKit Go.Lib
set_option linter.unusedVariables false
set_option linter.unusedSimpArgs false
def mrow (w : World) (base : Nat) (e : TypeId) (v : Value) (n : Nat) (xs : List Value) : Prop :=
  xs.length = n ∧ ((v = .slice none 0 0 ∧ n = 0) ∨
    ∃ g cap cur fr, v = .slice (some ⟨g, 0, none⟩) n cap ∧ base ≤ g ∧ w.heap[g]? = some (.cells cur e fr) ∧ n ≤ cap ∧ cap ≤ maxLen ∧ cur.size = cap ∧ cur.toList.take n = xs ∧ (fr.2 ≤ fr.1 ∨ cap ≤ fr.1))
theorem mrow.nil (w : World) (base : Nat) (e : TypeId) : mrow w base e (.slice none 0 0) 0 [] := ⟨rfl, .inl ⟨rfl, rfl⟩⟩
theorem mrow.mono {w : World} {base base' e n} {v : Value} {xs : List Value} (h : mrow w base e v n xs) (hb : base' ≤ base) : mrow w base' e v n xs := by
  refine ⟨h.1, ?_⟩
  rcases h.2 with h2 | ⟨g, cap, cur, fr, hv, hbg, r⟩
  · exact .inl h2
  · exact .inr ⟨g, cap, cur, fr, hv, Nat.le_trans hb hbg, r⟩
theorem mrow.ge {w : World} {base e n} {v : Value} {xs : List Value} (h : mrow w base e v n xs) : ∀ k, v.ownBlock = some k → base ≤ k ∧ k < w.heap.size := by
  intro k hk
  rcases h.2 with ⟨rfl, _⟩ | ⟨g, cap, cur, fr, rfl, hb, hg, _⟩
  · simp [Value.ownBlock] at hk
  · simp [Value.ownBlock] at hk
    subst hk
    exact ⟨hb, (Array.getElem?_eq_some_iff.1 hg).1⟩
theorem mrow.kept {w w' : World} {row : Option Nat} {base e n} {v : Value} {xs : List Value} (h : mrow w base e v n xs) (hg : w.grownBy w' row) (hne : v.ownBlock = none ∨ v.ownBlock ≠ row) : mrow w' base e v n xs := by
  refine ⟨h.1, ?_⟩
  rcases h.2 with hn | ⟨g, cap, cur, fr, rfl, hb, hgg, rest⟩
  · exact .inl hn
  · refine .inr ⟨g, cap, cur, fr, rfl, hb, ?_, rest⟩
    rw [hg.block g (Array.getElem?_eq_some_iff.1 hgg).1 (by simpa [Value.ownBlock] using hne)]
    exact hgg
theorem mrow.below {w w' : World} {base e n} {v : Value} {xs : List Value} (h : mrow w base e v n xs) (hb : Below w.heap.size w w') : mrow w' base e v n xs :=
  h.kept (grown_below hb none) (by cases v.ownBlock <;> simp)
theorem mrow.rd {w : World} {base e n} {v : Value} {xs : List Value} (h : mrow w base e v n xs) : Rd w.heap.size w v n xs := by
  rcases h.2 with ⟨rfl, rfl⟩ | ⟨g, cap, cur, fr, rfl, hb, hg, _, _, _, ht, _⟩
  · exact ⟨none, 0, rfl, .inl (List.eq_nil_of_length_eq_zero h.1)⟩
  · refine ⟨_, cap, rfl, .inr ⟨g, 0, rfl, (Array.getElem?_eq_some_iff.1 hg).1, fun j u hj => ?_⟩⟩
    rw [← ht, List.getElem?_take] at hj
    split at hj
    · rw [Nat.zero_add, cell_of_row w g j cur e fr hg]; simpa using hj
    · cases hj
theorem rd_str {P : Program} {w : World} {B n : Nat} {src dst e : TypeId} {v : Value} {l : List Nat} (hs : P.underlying src = some (.slice e)) (he : P.underlying e = some (.int .u8)) (hd : P.underlying dst = some .string)
    (h : Rd B w v n (u8s l)) (hn : n = l.length) : (convert src dst v).run P w = .ok (.string (sb l)) w := by
  obtain ⟨a, c, rfl, hr⟩ := h
  rcases hr with hr | ⟨b, o, rfl, _, hc⟩
  · have hl : l = [] := by simpa [u8s] using hr
    subst hl; subst hn
    have : (convert src dst (.slice a 0 c)).run P w = .ok (.string ByteArray.empty) w := by
      cases a with
      | none => exact run_convert_bytes_nil w src e hs he 0 c dst hd
      | some a => 
        rw [run_convert_bytes_string w src dst e _ 0 c hs he hd, run_bytesToString w a 0 c [] (by simp [loadCells, loadCellsFrom])]
        rfl
    exact this
  · rw [← strOfNums_nats]
    refine run_convert_bytes_arg w src e hs he b o n c (l.map fun x : Nat => (x : Int)) (by simp [hn]) (fun i hi => ?_) dst hd
    exact hc i _ (by simp [u8s, List.getElem?_eq_getElem (show i < l.length by omega), List.getD_eq_getElem?_getD])
section
variable {P : Program}
theorem run_storeCells_m (g o : Nat) (t : TypeId) : ∀ (vs : List Value) (i : Nat) (cur : Array Value) (fr : Nat × Nat) (w : World), w.heap[g]? = some (.cells cur t fr) → o + i + vs.length ≤ cur.size → (fr.2 ≤ fr.1 ∨ cur.size ≤ fr.1) → (∀ v ∈ vs, v.oneCell' = true) →
    (storeCells ⟨g, o, none⟩ vs i).run P w = .ok () (w.setRow g (cur.toList.take (o + i) ++ vs ++ cur.toList.drop (o + i + vs.length)).toArray)
  | [], i, cur, fr, w, hg, _, _, _ => by
    simp only [storeCells, List.append_nil, List.length_nil, Nat.add_zero, List.take_append_drop, Array.toArray_toList]
    rw [setRow_self w g cur t fr hg]
    rfl
  | v :: rest, i, cur, fr, w, hg, hl, hfr, h1 => by
    have hi : o + i < cur.size := by simp at hl; omega
    have hadd : (⟨g, o, none⟩ : Addr).add i = ⟨g, o + i, none⟩ := by unfold Addr.add; split <;> simp_all
    have hcell : w.cell? ⟨g, o + i, none⟩ = some cur[o + i] := by simp [World.cell?, hg, hi]
    have hfro : w.frozen? ⟨g, o + i, none⟩ = false := by simp only [World.frozen?, hg]; simp; omega
    have hst : (store ((⟨g, o, none⟩ : Addr).add i) v).run P w = .ok () (w.setRow g (cur.setIfInBounds (o + i) v)) := by
      rw [hadd, run_store P w _ v _ (h1 v (by simp)), hcell]
      simp [hfro, setCell_eq_setRow w g (o + i) cur t fr v hg]
    have ih := run_storeCells_m g o t rest (i + 1) (cur.setIfInBounds (o + i) v) fr (w.setRow g (cur.setIfInBounds (o + i) v)) (setRow_heap w g cur _ t _ hg) (by simp at hl ⊢; omega) (by simpa using hfr) (fun x hx => h1 x (by simp [hx]))
    simp only [storeCells, Sem.run_bind, hst, Result.andThen_ok, ih, setRow_setRow]
    congr 3
    have e := list_seg_step cur.toList (o + i) v rest (by simp at hl ⊢; omega)
    simpa [Array.toList_setIfInBounds, Nat.add_assoc] using e
theorem grow_m {w : World} {base : Nat} {e : TypeId} {z : Value} (hz1 : z.cells.size = 1) {xs news : List Value} {n m : Nat} (hxl : xs.length = n) (hnl : news.length = m) (h63 : n + m ≤ maxLen) (hbase : base ≤ w.heap.size) (old : Nat) (row : Option Nat) :
    mrow (w.drew.alloc (.cells (xs.toArray ++ news.toArray ++ Builtin.zeroCells z.cells (grownCap w (n + m) old e - (n + m))) e)) base e (.slice (some ⟨w.heap.size, 0, none⟩) (n + m) (grownCap w (n + m) old e)) (n + m) (xs ++ news) ∧
      w.grownBy (w.drew.alloc (.cells (xs.toArray ++ news.toArray ++ Builtin.zeroCells z.cells (grownCap w (n + m) old e - (n + m))) e)) row := by
  have hge := grownCap_ge w (n + m) old e
  have hcm : grownCap w (n + m) old e ≤ maxLen := grownCap_le_maxLen w (n + m) old e h63
  have hlen : (xs ++ news).length = n + m := by rw [List.length_append, hxl, hnl]
  refine ⟨⟨hlen, .inr ⟨w.heap.size, _, _, (0, 0), rfl, hbase, heap_alloc_new w.drew _, hge, hcm, ?_, ?_, .inl (Nat.le_refl _)⟩⟩, ⟨rfl, rfl, rfl, by simp, fun k hk hne => (World.grownBy_alloc w.drew _ row).block k hk hne⟩⟩
  · simp only [Array.size_append, List.size_toArray, size_zeroCells, hz1, hxl, hnl]; omega
  · simp only [Array.toList_append, List.append_assoc]
    rw [← List.append_assoc, ← hlen]
    exact List.take_left
theorem room_m {w : World} {base g n m cap : Nat} {e : TypeId} {cur : Array Value} {fr : Nat × Nat} {xs news : List Value} (hxl : xs.length = n) (hnl : news.length = m) (hbg : base ≤ g) (hg : w.heap[g]? = some (.cells cur e fr)) (hroom : n + m ≤ cap) (hcm : cap ≤ maxLen) (hcs : cur.size = cap) (htake : cur.toList.take n = xs) (hfr : fr.2 ≤ fr.1 ∨ cap ≤ fr.1) :
    mrow (w.setRow g (cur.toList.take n ++ news ++ cur.toList.drop (n + m)).toArray) base e (.slice (some ⟨g, 0, none⟩) (n + m) cap) (n + m) (xs ++ news) ∧
      w.grownBy (w.setRow g (cur.toList.take n ++ news ++ cur.toList.drop (n + m)).toArray) (some g) := by
  have hlen : (xs ++ news).length = n + m := by rw [List.length_append, hxl, hnl]
  refine ⟨⟨hlen, .inr ⟨g, cap, _, fr, rfl, hbg, setRow_heap w g cur _ e _ hg, hroom, hcm, ?_, ?_, hfr⟩⟩, ⟨rfl, rfl, rfl, by simp, fun k _ hk => setRow_other w g k _ (fun e => hk (by simp [e]))⟩⟩
  · simp only [List.size_toArray, List.length_append, List.length_take, List.length_drop, Array.length_toList]; omega
  · rw [htake, ← hlen]
    exact List.take_left
theorem run_append_mrow {w : World} (base : Nat) (t ty e : TypeId) (i : TypeInfo) (z : Value) (bytes : Nat) (ht : P.underlying t = some (.slice e)) (hi : P.info? e = some i) (hz : i.zero = some z)
    (hsize : i.size = 1) (hby : i.bytes = bytes) (hzs : z.cells.size = 1)
    (v : Value) (n : Nat) (xs : List Value) (hown : mrow w base e v n xs)
    (a : Addr) (m c : Nat) (news : List Value) (hl : news.length = m) (hnews : ∀ j u, news[j]? = some u → w.cell? (a.add j) = some u) (h1 : ∀ u ∈ news, u.oneCell' = true)
    (h63 : n + m ≤ maxLen) (hbytes : (n + m) * bytes ≤ 140737488355328) (hbase : base ≤ w.heap.size) :
    ∃ v' w', (Builtin.append_ #[t, t] ty #[v, .slice (some a) m c]).run P w = .ok v' w' ∧ mrow w' base e v' (n + m) (xs ++ news) ∧ w.grownBy w' v.ownBlock ∧ (v'.ownBlock = v.ownBlock ∨ v'.ownBlock = some w.heap.size) := by
  subst hby
  have hsmall : n + m ≤ 9223372036854775807 := by simp only [maxLen] at h63; omega
  have hxl := hown.1
  rcases hown.2 with ⟨rfl, rfl⟩ | ⟨g, cap, cur, fr, rfl, hbg, hg, hnc, hcm, hcs, htake, hfr⟩
  · have hx : xs = [] := List.eq_nil_of_length_eq_zero hxl
    subst hx
    by_cases hm : m = 0
    · subst hm
      have hn : news = [] := List.eq_nil_of_length_eq_zero hl
      subst hn
      refine ⟨.slice none 0 0, w, ?_, mrow.nil w base e, ⟨rfl, rfl, rfl, Nat.le_refl _, fun _ _ _ => rfl⟩, .inl rfl⟩
      simp [Builtin.append_, run_underlying ht, sizeOf, typeInfo, hi, Builtin.lenOf, Builtin.firstCells, loadCells, loadCellsFrom]
    · have hr := run_append_nil (P := P) w t ty e i z ht hi hz a m c news (by rw [hsize]; simpa using hl) hnews (by omega) (by omega) (by have hb := hbytes; simp only [Nat.zero_add] at hb; omega)
      have hgr := grow_m (w := w) (base := base) (e := e) (xs := []) (n := 0) hzs rfl hl h63 hbase 0 (Value.ownBlock (.slice none 0 0))
      simp only [Nat.zero_add, List.nil_append, Array.empty_append] at hgr ⊢
      exact ⟨_, _, hr, hgr.1, hgr.2, .inr rfl⟩
  · by_cases hroom : n + m ≤ cap
    · have hf := run_firstCells_some (P := P) w i.size m a m c news (by rw [hsize]; simpa using hl) hnews
      have hst := run_storeCells_m (P := P) g (n * i.size) e news 0 cur fr w hg (by rw [hsize]; omega) (by rw [hcs]; exact hfr) h1
      simp only [Nat.add_zero, hsize, Nat.mul_one, hl] at hst
      have hr : (Builtin.append_ #[t, t] ty #[.slice (some ⟨g, 0, none⟩) n cap, .slice (some a) m c]).run P w =
          .ok (.slice (some ⟨g, 0, none⟩) (n + m) cap) (w.setRow g (cur.toList.take n ++ news ++ cur.toList.drop (n + m)).toArray) := by
        simp [Builtin.append_, run_underlying ht, sizeOf, typeInfo, hi, Builtin.lenOf, hroom, hf, Addr.add_lit, hsize, hst]
        rw [hsize] at hf; simp [hf, hst]
      obtain ⟨h2, h3⟩ := room_m (base := base) hxl hl hbg hg hroom hcm hcs htake hfr
      exact ⟨_, _, hr, h2, h3, .inl rfl⟩
    · have holds : ∀ j u, xs[j]? = some u → w.cell? ((⟨g, 0, none⟩ : Addr).add j) = some u := by
        intro j u hu
        have hadd : (⟨g, 0, none⟩ : Addr).add j = ⟨g, j, none⟩ := by unfold Addr.add; split <;> simp_all
        rw [hadd, cell_of_row w g j cur e fr hg]
        rw [← htake, List.getElem?_take] at hu
        split at hu
        · simpa using hu
        · cases hu
      have hr := run_append_grow (P := P) w t ty e i z ht hi hz ⟨g, 0, none⟩ n cap xs (by rw [hsize]; simpa using hxl) holds a m c news (by rw [hsize]; simpa using hl) hnews (by omega) (by omega) (growslice_fits (by omega) hbytes)
      obtain ⟨h2, h3⟩ := grow_m (w := w) (base := base) (e := e) hzs hxl hl h63 hbase cap (Value.ownBlock (.slice (some ⟨g, 0, none⟩) n cap))
      exact ⟨_, _, hr, h2, h3, .inr rfl⟩
theorem run_append_mrow_str {w : World} (base : Nat) (t u ty e : TypeId) (i : TypeInfo) (ht : P.underlying t = some (.slice e)) (hu : P.underlying u = some .string) (hi : P.info? e = some i) (hz : i.zero = some (.int .u8 0))
    (hsize : i.size = 1) (hby : i.bytes = 1)
    (v : Value) (n : Nat) (xs : List Value) (hown : mrow w base e v n xs) (s : ByteArray)
    (h63 : n + s.size ≤ maxLen) (hbytes : n + s.size ≤ 140737488355328) (hbase : base ≤ w.heap.size) :
    ∃ v' w', (Builtin.append_ #[t, u] ty #[v, .string s]).run P w = .ok v' w' ∧ mrow w' base e v' (n + s.size) (xs ++ strCells s) ∧ w.grownBy w' v.ownBlock ∧ (v'.ownBlock = v.ownBlock ∨ v'.ownBlock = some w.heap.size) := by
  have hsmall : n + s.size ≤ 9223372036854775807 := by simp only [maxLen] at h63; omega
  have hxl := hown.1
  rcases hown.2 with ⟨rfl, rfl⟩ | ⟨g, cap, cur, fr, rfl, hbg, hg, hnc, hcm, hcs, htake, hfr⟩
  · have hx : xs = [] := List.eq_nil_of_length_eq_zero hxl
    subst hx
    by_cases hm : s.size = 0
    · have hn : strCells s = [] := List.eq_nil_of_length_eq_zero (by rw [strCells_length]; exact hm)
      refine ⟨.slice none 0 0, w, ?_, by rw [hm, hn]; exact mrow.nil w base e, ⟨rfl, rfl, rfl, Nat.le_refl _, fun _ _ _ => rfl⟩, .inl rfl⟩
      have hf := run_firstCells_string (P := P) w 1 s
      rw [hm] at hf
      simp [Builtin.append_, run_underlying ht, run_underlying hu, sizeOf, typeInfo, hi, hsize, Builtin.lenOf, hm, hf]
    · have hr := run_append_nil_string (P := P) w t u ty e i (.int .u8 0) ht hu hi hz s (by omega) (by omega) (by rw [hby]; omega)
      have hgr := grow_m (w := w) (base := base) (e := e) (z := .int .u8 0) (xs := []) (n := 0) rfl rfl (strCells_length s) h63 hbase 0 (Value.ownBlock (.slice none 0 0))
      simp only [Nat.zero_add, List.nil_append, Array.empty_append] at hgr ⊢
      have e1 : (s.data.map fun b => Value.int .u8 b.toNat) = (strCells s).toArray := by
        apply Array.ext'
        simp [strCells]
      rw [e1] at hr
      exact ⟨_, _, hr, hgr.1, hgr.2, .inr rfl⟩
  · by_cases hroom : n + s.size ≤ cap
    · have hf := run_firstCells_string (P := P) w 1 s
      have hst := run_storeCells_m (P := P) g n e (strCells s) 0 cur fr w hg (by rw [strCells_length]; omega) (by rw [hcs]; exact hfr) (strCells_oneCell s)
      simp only [Nat.add_zero, strCells_length] at hst
      have hr : (Builtin.append_ #[t, u] ty #[.slice (some ⟨g, 0, none⟩) n cap, .string s]).run P w =
          .ok (.slice (some ⟨g, 0, none⟩) (n + s.size) cap) (w.setRow g (cur.toList.take n ++ strCells s ++ cur.toList.drop (n + s.size)).toArray) := by
        simp [Builtin.append_, run_underlying ht, run_underlying hu, sizeOf, typeInfo, hi, hsize, Builtin.lenOf, hroom, hf, Addr.add_lit, hst]
      obtain ⟨h2, h3⟩ := room_m (base := base) hxl (strCells_length s) hbg hg hroom hcm hcs htake hfr
      exact ⟨_, _, hr, h2, h3, .inl rfl⟩
    · have holds : ∀ j u, xs[j]? = some u → w.cell? ((⟨g, 0, none⟩ : Addr).add j) = some u := by
        intro j u hu
        have hadd : (⟨g, 0, none⟩ : Addr).add j = ⟨g, j, none⟩ := by unfold Addr.add; split <;> simp_all
        rw [hadd, cell_of_row w g j cur e fr hg]
        rw [← htake, List.getElem?_take] at hu
        split at hu
        · simpa using hu
        · cases hu
      have hr := run_append_grow_string (P := P) w t u ty e i (.int .u8 0) ht hu hi hz ⟨g, 0, none⟩ n cap xs (by rw [hsize]; simpa using hxl) holds s (by omega) (by omega) (by rw [hby]; exact growslice_fits (by omega) (by omega))
      obtain ⟨h2, h3⟩ := grow_m (w := w) (base := base) (e := e) (z := .int .u8 0) rfl hxl (strCells_length s) h63 hbase cap (Value.ownBlock (.slice (some ⟨g, 0, none⟩) n cap))
      exact ⟨_, _, hr, h2, h3, .inr rfl⟩
end
end Go.Proofs.Ytfnjbmpolggdeaa
end
section
namespace Go.Proofs.Ytfnjbmpolggdeaa
open Go.RowKit Go.Lib
set_option linter.unusedVariables false
set_option linter.unusedSimpArgs false
def bigB (x : Nat) : Nat → List Nat
  | 0 => []
  | n + 1 => bigB (x / 256) n ++ [x % 256]
theorem bigB_length (n : Nat) : ∀ x, (bigB x n).length = n := by
  induction n with
  | zero => intro x; rfl
  | succ n ih => intro x; simp [bigB, ih]
theorem bigB_lt (n : Nat) : ∀ x, ∀ b ∈ bigB x n, b < 256 := by
  induction n with
  | zero => intro x b hb; simp [bigB] at hb
  | succ n ih =>
    intro x b hb
    simp only [bigB, List.mem_append, List.mem_singleton] at hb
    rcases hb with hb | rfl
    · exact ih _ b hb
    · omega
theorem bigB_get (n : Nat) : ∀ x k, k < n → (bigB x n)[k]? = some (x / 2 ^ (8 * (n - 1 - k)) % 256) := by
  induction n with
  | zero => intro x k hk; omega
  | succ n ih =>
    intro x k hk
    simp only [bigB]
    by_cases h : k < n
    · rw [List.getElem?_append_left (by rw [bigB_length]; exact h), ih _ k h]
      have e : 8 * (n + 1 - 1 - k) = 8 + 8 * (n - 1 - k) := by omega
      rw [e, Nat.pow_add, ← Nat.div_div_eq_div_mul]
    · obtain rfl : k = n := by omega
      rw [List.getElem?_append_right (by rw [bigB_length]; exact Nat.le_refl _), bigB_length]
      simp
theorem strCells_bs (s : ByteArray) : strCells s = u8s (bs s) := by
  unfold strCells u8s bs; rw [List.map_map]; rfl
section
variable {P : Program} {w w0 : World}
theorem app_ms {ops : Array Oper} {rest : List Oper} {o : Oper} {a : Act} {Q : Exit → Act → World → Prop} (hgd : o.guard = none) (s x : Operand) (t u : TypeId)
    (ho : o.op = .call { callee := .builtin .append, args := #[s, x], argTypes := #[t, u] })
    (e : TypeId) (ht : P.underlying t = some (.slice e)) (hu : P.underlying u = some .string) (hI : (P.info? e).map (fun i => (i.zero, i.size, i.bytes)) = some (some (.int .u8 0), 1, 1))
    (B base : Nat) (hbel : Below B w0 w) {v : Value} {n : Nat} {xs : List Value} (hown : mrow w base e v n xs) (hs : a.eval s = v)
    (str : ByteArray) (hx : a.eval x = .string str)
    (hn : n + str.size ≤ 140737488355328) (hbase : base ≤ w.heap.size) (hB : B ≤ base)
    (h : ∀ v' w', mrow w' base e v' (n + str.size) (xs ++ u8s (bs str)) → Below B w0 w' → w.grownBy w' v.ownBlock → (∀ q, q < w.heap.size → v.ownBlock ≠ some q → v'.ownBlock ≠ some q) → wpList P ops Q rest (a.put o.dst v') w') : wpList P ops Q (o :: rest) a w := by
  obtain ⟨i, hi, hz, hsize, hby⟩ := info_parts hI
  obtain ⟨v', w', hr, h2, hg, h4⟩ := run_append_mrow_str (P := P) base t u o.type e i ht hu hi hz hsize hby v n xs hown str (by unfold maxLen; omega) hn hbase
  rw [strCells_bs] at h2
  refine wpList_plain hgd fun K hK => ?_
  unfold Oper.wp execOp
  simp only [ho, resolve, invoke, builtin, Sem.run_bind, Sem.run_pure, Result.andThen_ok, List.map_toArray, List.map_cons, List.map_nil, hs, hx, hr]
  have hsz' := hbel.size
  refine hK _ _ (h v' w' h2 ?_ hg (fun q hq hne => by rcases h4 with h4 | h4 <;> rw [h4] <;> first | exact hne | (simp; omega)))
  refine ⟨hg.os.trans hbel.os, hg.tape.trans hbel.tape, hg.output.trans hbel.output, Nat.le_trans hbel.size hg.size, fun k hk => ?_⟩
  rw [hg.block k (by omega) (fun hk2 => by have := (hown.ge k hk2.symm).1; omega), hbel.block k hk]
theorem conv_bytes {ops : Array Oper} {rest : List Oper} {o : Oper} {a : Act} {Q : Exit → Act → World → Prop} (hgd : o.guard = none) (src dst : TypeId) (x : Operand)
    (ho : o.op = .convert src dst x) (e : TypeId) (hs : P.underlying src = some .string) (hd : P.underlying dst = some (.slice e)) (he : P.underlying e = some (.int .u8))
    (B : Nat) (hbel : Below B w0 w) (str : ByteArray) (hx : a.eval x = .string str) (hn : str.size ≤ 140737488355328) (hB : B ≤ w.heap.size)
    (h : ∀ v' w', mrow w' w.heap.size e v' str.size (u8s (bs str)) → Below B w0 w' → Below w.heap.size w w' → wpList P ops Q rest (a.put o.dst v') w') : wpList P ops Q (o :: rest) a w := by
  have hr := Lib.run_convert_string_bytes (P := P) w src dst e str (u := .string) hs hd he
  have hge := grownCap_ge w str.size 0 e
  have hcm : grownCap w str.size 0 e ≤ maxLen := grownCap_le_maxLen w str.size 0 e (by unfold maxLen; omega)
  have hcs : (Lib.bytesCells w e str).size = grownCap w str.size 0 e := by
    have : str.data.size = str.size := rfl
    simp [Lib.bytesCells, this]; omega
  have hrow : mrow (Lib.bytesWorld w e str) w.heap.size e (.slice (some ⟨w.heap.size, 0, none⟩) str.size (grownCap w str.size 0 e)) str.size (u8s (bs str)) := by
    refine ⟨by rw [u8s_length, bs_length], .inr ⟨w.heap.size, _, _, _, rfl, Nat.le_refl _, Lib.bytesWorld_at_new w e str, hge, hcm, hcs, ?_, .inr (by rw [hcs]; exact Nat.le_refl _)⟩⟩
    rw [← strCells_bs]
    have hl : (strCells str).length = str.size := strCells_length str
    have : (Lib.bytesCells w e str).toList = strCells str ++ List.replicate (grownCap w str.size 0 e - str.size) (.int .u8 0) := by
      simp [Lib.bytesCells, strCells]
    rw [this, ← hl]; exact List.take_left
  have hb : Below w.heap.size w (Lib.bytesWorld w e str) :=
    ⟨by simp [Lib.bytesWorld, World.freeze]; rfl, by simp [Lib.bytesWorld, World.freeze], by simp [Lib.bytesWorld, World.freeze]; rfl, by rw [Lib.bytesWorld_size]; omega, fun k hk => Lib.bytesWorld_at_old w e str k hk⟩
  refine wpList_plain hgd fun K hK => ?_
  unfold Oper.wp execOp
  simp only [ho, hx, Sem.run_bind, hr, Result.andThen_ok, Sem.run_pure]
  exact hK _ _ (h _ _ hrow (hbel.trans (hb.mono hB)) hb)
end
theorem Try.infoB : (Try.prog.info? 5).map (fun i => (i.zero, i.size, i.bytes)) = some (some (.int .u8 0), 1, 1) := by kernel_rfl
set_option maxHeartbeats 1000000 in
set_option maxRecDepth 100000 in
theorem Big_any (x n : Nat) (i : Int) (hi : i = x) (j : Int) (hj : j = n) (w : World) (hx : x < 18446744073709551616) (hn : n ≤ 8) :
    Calls Try.prog 56 #[.int .u64 i, .int .i64 j] w fun e w' => e = .returned (.string (sb (bigB x n))) ∧ Below w.heap.size w w' := by
  subst hi hj
  obtain ⟨i0, hi, hz0, hz1, hz2⟩ := info_parts Try.infoB
  go_enter Try.func56, Try.ntmps56
  go_wp2_with (with_reducible refine wpList_make_full _ rfl _ _ 87 rfl w.heap.size 5 i0 (.int .u8 0) 1 Try.underlying87 hi hz0 hz1 .i64 .i64 n n n rfl rfl rfl rfl (by rw [hz2]; omega) (by unfold maxLen; omega) (Nat.le_refl _) ?_; intro w1 hown hg1)
  have hb1 : Below w.heap.size w w1 := ⟨hg1.os, hg1.tape, hg1.output, hg1.size, fun k hk => hg1.block k hk (by simp)⟩
  have hown0 : w1.ownsRow w.heap.size 5 1 (.slice (some ⟨w.heap.size, 0, none⟩) n n) n (u8s ((bigB x n).take 0) ++ List.replicate (n - 0) (.int .u8 0)) := by
    have e : (madeCells (Value.int IntKind.u8 0).cells (n * 1)).toList = List.replicate n (.int .u8 0) := by rw [Nat.mul_one]; exact toList_madeCells_one _ _
    rw [e] at hown; simpa [u8s] using hown
  clear hown hg1
  go_loopw [11] (fun i wr => ∃ k : Nat, k ≤ n ∧ i = .int .i64 k ∧ wr.ownsRow w.heap.size 5 1 (.slice (some ⟨w.heap.size, 0, none⟩) n n) n (u8s ((bigB x n).take k) ++ List.replicate (n - k) (.int .u8 0)) ∧ Below w.heap.size w wr) (fun i _ => n - (intOf i).toNat)
  case atStart => exact ⟨0, by omega, rfl, hown0, hb1⟩
  case round =>
    obtain ⟨k, hk, rfl, hown, hbel⟩ := hrel
    by_cases hlt : k < n
    · have hlen : (u8s ((bigB x n).take k)).length = k := by rw [u8s_length, List.length_take, bigB_length]; omega
      have hc : wr.cell? ⟨w.heap.size, k, none⟩ = some (.int .u8 0) := by
        rw [hown.cellAt k (by omega), List.getElem?_append_right (by omega), hlen, Nat.sub_self, show n - k = (n - (k + 1)) + 1 by omega, List.replicate_succ]
        rfl
      have hf : wr.frozen? ⟨w.heap.size, k, none⟩ = false := hown.frozenAt k
      obtain ⟨u, hu⟩ : ∃ u, u = x / 2 ^ (8 * (n - 1 - k)) % 256 := ⟨_, rfl⟩
      have hst := hown.stored k (.int .u8 (u : Int))
      have hset : (u8s ((bigB x n).take k) ++ List.replicate (n - k) (Value.int .u8 0)).set k (Value.int .u8 (u : Int)) = u8s ((bigB x n).take (k + 1)) ++ List.replicate (n - (k + 1)) (.int .u8 0) := by
        have e1 : (bigB x n).take (k + 1) = (bigB x n).take k ++ [u] := by
          have hkl : k < (bigB x n).length := by rw [bigB_length]; exact hlt
          rw [List.take_succ_eq_append_getElem hkl]
          have := bigB_get n x k hlt
          rw [List.getElem?_eq_getElem hkl] at this
          rw [Option.some.inj this, hu]
        rw [e1, u8s_append]
        have e2 : List.replicate (n - k) (Value.int .u8 0) = .int .u8 0 :: List.replicate (n - (k + 1)) (.int .u8 0) := by
          rw [show n - k = (n - (k + 1)) + 1 by omega, List.replicate_succ]
        rw [e2, List.set_append_right _ _ (by omega), hlen, Nat.sub_self]
        simp [u8s]
      have HST := Lib.hid hst.1
      have HSET := Lib.hid hset
      have hbel2 : Below w.heap.size w (wr.setCell ⟨w.heap.size, k, none⟩ (.int .u8 (u : Int))) := hbel.setCell (Nat.le_refl _) _
      have hval : ((x : Int) / 2 ^ (8 * (n - 1 - k))) % 256 = (u : Int) := by rw [hu]; simp
      clear hst hset hlen hu
      go_wp2
      go_roundw
      case rel => exact ⟨k + 1, by omega, by go_num, by rw [← HSET.out]; exact HST.out, hbel2⟩
      case measure => simp [intOf]; omega
    · obtain rfl : k = n := by omega
      have hfull : u8s ((bigB x k).take k) ++ List.replicate (k - k) (Value.int .u8 0) = u8s (bigB x k) := by
        rw [List.take_of_length_le (by rw [bigB_length]; exact Nat.le_refl _)]; simp
      rw [hfull] at hown
      have hs := own_str (P := Try.prog) Try.underlying87 Try.underlying5 Try.underlying9 hown
      go_wp2
      go_ret
      exact ⟨rfl, hbel⟩
set_option maxHeartbeats 1000000 in
set_option maxRecDepth 100000 in
theorem RefBig_any (x n : Nat) (i : Int) (hi : i = x) (j : Int) (hj : j = n) (w : World) (hx : x < 18446744073709551616) (hn : n ≤ 8) :
    Calls Try.prog 57 #[.int .u64 i, .int .i64 j] w fun e w' => e = .returned (.string (sb (bigB x n))) ∧ Below w.heap.size w w' := by
  subst hi hj
  have h1 := lit_str1 (P := Try.prog) Try.underlying87 Try.underlying5 Try.underlying9
  go_enter Try.func57, Try.ntmps57
  go_wp2
  go_loopw [0, 1, 5] (fun v0 i s wr => ∃ (y k : Nat) (acc : List Nat), k ≤ n ∧ v0 = .int .u64 y ∧ i = .int .i64 k ∧ s = .string (sb acc) ∧ y < 18446744073709551616 ∧ acc.length + k = n ∧ Hid (bigB x n = bigB y k ++ acc) ∧ Below w.heap.size w wr) (fun _ i _ _ => (intOf i).toNat)
  case atStart => exact ⟨x, n, [], Nat.le_refl _, rfl, rfl, rfl, hx, by simp, by simp [Hid], Below.refl _ _⟩
  case round =>
    obtain ⟨y, k, acc, hk, rfl, rfl, rfl, hy, hlen, hB, hbel⟩ := hrel
    have hws := hbel.size
    have hsz : (sb acc).size ≤ 8 := by rw [sb_size]; omega
    by_cases h0 : k = 0
    · have a1 : (k : Int) ≤ 0 := by omega
      have hB2 : bigB x n = acc := by have := hB.out; rw [this, h0]; rfl
      have HB2 := Lib.hid hB2
      clear h0 hB2
      go_wp2
      go_ret
      exact ⟨ret_s (by rw [HB2.out]), hbel⟩
    · have a1 : (0 : Int) < k := by omega
      have hs1 : strOfNums [(y : Int) % 256] = sb [y % 256] := strOfNums_nats [y % 256]
      have hsa : sb [y % 256] ++ sb acc = sb (y % 256 :: acc) := by
        apply bs_inj; unfold sb bs; rw [ByteArray.data_append]; simp
      have hs1z : (sb [y % 256]).size ≤ 1 := by rw [sb_size]; simp
      have hstep : bigB y k = bigB (y / 256) (k - 1) ++ [y % 256] := by
        rw [show k = (k - 1) + 1 by omega]; rfl
      have HST := Lib.hid hstep
      clear h0 hstep
      go_wp2
      go_roundw
      case rel => exact ⟨y / 256, k - 1, y % 256 :: acc, by omega, by simp, by simp; omega, by simp [hsa], by omega, by simp; omega, by have := hB.out; unfold Hid; rw [this, HST.out]; simp, hbel.alloc hws _⟩
      case measure => simp [intOf]; omega
end Go.Proofs.Ytfnjbmpolggdeaa
end
section
namespace Go.Proofs.Ytfnjbmpolggdeaa
open Go.RowKit Go.Lib Go.Proofs.YtfnjbmpolggdeaaW.PrintWords
set_option linter.unusedVariables false
set_option linter.unusedSimpArgs false
theorem mrow.step {w w' : World} {base e n} {v : Value} {xs : List Value} (h : mrow w base e v n xs) (hm : ∀ k, v.ownBlock = some k → w'.heap[k]? = w.heap[k]?) : mrow w' base e v n xs := by
  refine ⟨h.1, ?_⟩
  rcases h.2 with h2 | ⟨g, cap, cur, fr, hv, hbg, hg, r⟩
  · exact .inl h2
  · exact .inr ⟨g, cap, cur, fr, hv, hbg, (hm g (by rw [hv]; rfl)).trans hg, r⟩
theorem mrow.typed {w : World} {base e n} {v : Value} {xs : List Value} (h : mrow w base e v n xs) : ∀ k, v.ownBlock = some k → ∃ cur fr, w.heap[k]? = some (.cells cur e fr) := by
  intro k hk
  rcases h.2 with ⟨rfl, _⟩ | ⟨g, cap, cur, fr, rfl, hb, hg, _⟩
  · simp [Value.ownBlock] at hk
  · simp [Value.ownBlock] at hk
    subst hk
    exact ⟨cur, fr, hg⟩
theorem str_step {P : Program} {ops : Array Oper} {o : Oper} {a : Act} {Q : Exit → Act → World → Prop} {K : Act → World → Prop} {w : World} (hw : Region.wanted o (yielded ops a.tmps) = true) (s x : Operand) (t u : TypeId)
    (ho : o.op = .call { callee := .builtin .append, args := #[s, x], argTypes := #[t, u] })
    (e : TypeId) (ht : P.underlying t = some (.slice e)) (hu : P.underlying u = some .string) (hI : (P.info? e).map (fun i => (i.zero, i.size, i.bytes)) = some (some (.int .u8 0), 1, 1))
    (base : Nat) {v : Value} {n : Nat} {xs : List Value} (hown : mrow w base e v n xs) (hs : a.eval s = v)
    (str : ByteArray) (hx : a.eval x = .string str) (hn : n + str.size ≤ 140737488355328) (hbase : base ≤ w.heap.size)
    (h : ∀ v' w', mrow w' base e v' (n + str.size) (xs ++ u8s (bs str)) → w.grownBy w' v.ownBlock → (v'.ownBlock = v.ownBlock ∨ v'.ownBlock = some w.heap.size) → K (a.put o.dst v') w') :
    if Region.wanted o (yielded ops a.tmps) = true then Oper.wp P o a w K Q else K (a.put o.dst undef) w := by
  obtain ⟨i, hi, hz, hsize, hby⟩ := info_parts hI
  obtain ⟨v', w', hr, h2, hg, h4⟩ := run_append_mrow_str (P := P) base t u o.type e i ht hu hi hz hsize hby v n xs hown str (by unfold maxLen; omega) hn hbase
  rw [strCells_bs] at h2
  rw [if_pos hw]
  unfold Oper.wp execOp
  simp only [ho, resolve, invoke, builtin, Sem.run_bind, Sem.run_pure, Result.andThen_ok, List.map_toArray, List.map_cons, List.map_nil, hs, hx, hr]
  exact h v' w' h2 hg h4
def BW (base : Nat) (W : World) (g : Nat) (T : TypeId) (cells : Value → Array Value) (v : Value) (l : List Nat) : Prop :=
  W.heap[g]? = some (.cells (cells v) T (0, 0)) ∧ base ≤ g ∧ mrow W base 5 v l.length (u8s l)
def BS (w : World) (g : Nat) (v : Value) (w' : World) (v' : Value) : Prop :=
  Kept w w' (fun k => k = g ∨ v.ownBlock = some k) ∧ (v'.ownBlock = v.ownBlock ∨ ∃ b, v'.ownBlock = some b ∧ w.heap.size ≤ b)
theorem BS.trans {w w1 w2 : World} {g : Nat} {v v1 v2 : Value} (h : BS w g v w1 v1) (k : BS w1 g v1 w2 v2) : BS w g v w2 v2 := by
  refine ⟨h.1.then_ k.1 (fun q hq => ?_), ?_⟩
  · rcases hq with rfl | hq
    · exact .inl (.inl rfl)
    · rcases h.2 with h2 | ⟨b, hb, hbs⟩
      · exact .inl (.inr (h2 ▸ hq))
      · rw [hb] at hq; injection hq with hq; exact .inr (by omega)
  · rcases k.2 with k2 | ⟨b, hb, hbs⟩
    · rcases h.2 with h2 | h2
      · exact .inl (k2.trans h2)
      · rw [k2]; exact .inr h2
    · exact .inr ⟨b, hb, Nat.le_trans h.1.1 hbs⟩
theorem BS.below {w w1 : World} {g : Nat} {v : Value} (hb : Below w.heap.size w w1) : BS w g v w1 v := ⟨Kept.of_below hb _, .inl rfl⟩
theorem BS.blk {w w' : World} {g k : Nat} {v v' : Value} {o : Obj} (h : BS w g v w' v') (hk : w.heap[k]? = some o) (h1 : k ≠ g) (h2 : v.ownBlock ≠ some k) : w'.heap[k]? = some o :=
  blk_kept hk h.1 (fun hh => hh.elim h1 h2)
section
variable {base : Nat} {W W1 : World} {g : Nat} {T : TypeId} {cells : Value → Array Value} {v : Value} {l : List Nat}
theorem BW.ne (h : BW base W g T cells v l) (hT : T ≠ 5) : v.ownBlock ≠ some g := fun he => by
  obtain ⟨cur, fr, hc⟩ := h.2.2.typed g he
  rw [h.1] at hc
  injection hc with hc
  injection hc with _ ht
  exact hT ht
theorem BW.below (h : BW base W g T cells v l) (hb : Below W.heap.size W W1) : BW base W1 g T cells v l :=
  ⟨(hb.block g (blk_lt h.1)).trans h.1, h.2.1, h.2.2.below hb⟩
theorem BW.lt (h : BW base W g T cells v l) : g < W.heap.size := blk_lt h.1
theorem BW.ge (h : BW base W g T cells v l) : ∀ k, v.ownBlock = some k → base ≤ k := fun k hk => (h.2.2.ge k hk).1
theorem BW.old (h : BW base W g T cells v l) {k : Nat} (hk : k < base) : k ≠ g ∧ v.ownBlock ≠ some k :=
  ⟨fun e => by have := h.2.1; omega, fun e => by have := h.ge k e; omega⟩
theorem BW.put (h : BW base W g T cells v l) (hT : T ≠ 5) {v1 : Value} {l1 : List Nat} (hg : W.grownBy W1 v.ownBlock) (hm : mrow W1 base 5 v1 l1.length (u8s l1)) (hat : v1.ownBlock = v.ownBlock ∨ ∃ b, v1.ownBlock = some b ∧ W.heap.size ≤ b) (hc : ∀ u, (cells u).size = (cells v).size ∧ ((cells v).setIfInBounds 0 u) = cells u) :
    BW base (W1.setCell ⟨g, 0, none⟩ v1) g T cells v1 l1 ∧ BS W g v (W1.setCell ⟨g, 0, none⟩ v1) v1 := by
  have hgg : W1.heap[g]? = some (.cells (cells v) T (0, 0)) := (hg.block g (blk_lt h.1) (fun e => h.ne hT e.symm)).trans h.1
  have hne : v1.ownBlock ≠ some g := by
    rcases hat with e | ⟨b, e, hb⟩
    · rw [e]; exact h.ne hT
    · rw [e]; intro he; injection he with he; have := blk_lt h.1; omega
  refine ⟨⟨?_, h.2.1, hm.step (fun k hk => Below.heap_setCell W1 _ v1 k (fun e => hne (by rw [hk]; exact congrArg some e)))⟩, ?_, hat⟩
  · have := blk_set hgg 0 v1
    rw [this, (hc v1).2]
  · exact ((Kept.refl W _).of_grown hg (fun k hk => .inl (.inr hk))).setCell (.inl (.inl rfl)) v1
end
end Go.Proofs.Ytfnjbmpolggdeaa
end
section
namespace Go.Proofs.Ytfnjbmpolggdeaa
open Go.RowKit Go.Lib Go.Proofs.YtfnjbmpolggdeaaW.PrintWords
set_option linter.unusedVariables false
set_option linter.unusedSimpArgs false
def U64 (x : Int) : Nat := (IntKind.u64.wrap x).toNat
theorem u64_nat (x : Int) : IntKind.u64.wrap x = (U64 x : Nat) := by
  unfold U64
  have : 0 ≤ IntKind.u64.wrap x := by simp only [IntKind.wrap, IntKind.bits, IntKind.signed]; simp; omega
  omega
theorem u64_lt (x : Int) : U64 x < 18446744073709551616 := by
  unfold U64
  have : IntKind.u64.wrap x < 18446744073709551616 := by simp only [IntKind.wrap, IntKind.bits, IntKind.signed]; simp; omega
  omega
theorem below_drew0 {w w1 : World} (h : Below w.drew.heap.size w.drew w1) : Below w.heap.size w w1 := ⟨h.os, h.tape, h.output, h.size, h.block⟩
theorem mrow_slice {w : World} {base e n} {v : Value} {xs : List Value} (h : mrow w base e v n xs) : ∃ A c, v = .slice A n c := by
  rcases h.2 with ⟨rfl, rfl⟩ | ⟨g, cap, cur, fr, rfl, _⟩
  · exact ⟨_, _, rfl⟩
  · exact ⟨_, _, rfl⟩
def NumPost (w0 w : World) (g : Nat) (v : Value) (cells : Value → Array Value) (T : TypeId) (l1 : List Nat) (e : Ending) (w' : World) : Prop :=
  e = .returned (.tuple #[]) ∧ Below w0.heap.size w0 w' ∧ ∃ v', BW w0.heap.size w' g T cells v' l1 ∧ BS w g v w' v'
end Go.Proofs.Ytfnjbmpolggdeaa
end
section
namespace Go.Proofs.Ytfnjbmpolggdeaa
open Go.RowKit Go.Lib Go.Proofs.YtfnjbmpolggdeaaW.PrintWords
set_option linter.unusedVariables false
set_option linter.unusedSimpArgs false
def ewC (ok : Bool) (v : Value) : Array Value := #[v, .bool ok]
abbrev EncPost (w0 w : World) (g : Nat) (v : Value) (s : List Nat × Bool) : Ending → World → Prop := NumPost w0 w g v (ewC s.2) 114 s.1
def putS (x : Int) (m : Nat) (lo hi : Int) (s : List Nat × Bool) : List Nat × Bool := (s.1 ++ bigB (U64 x) m, s.2 && (decide (lo ≤ x) && decide (x ≤ hi)))
theorem ew_grown {base : Nat} {W W1 : World} {g : Nat} {ok : Bool} {v : Value} {l : List Nat} (hg : W.grownBy W1 v.ownBlock) (h : BW base W g 114 (ewC ok) v l) : W1.heap[g]? = some (.cells (ewC ok v) 114 (0, 0)) :=
  (hg.block g (blk_lt h.1) (fun e => h.ne (by decide) e.symm)).trans h.1
theorem ew_cell {base : Nat} {W W1 : World} {g : Nat} {ok : Bool} {v : Value} {l : List Nat} (hg : W.grownBy W1 v.ownBlock) (h : BW base W g 114 (ewC ok) v l) : W1.cell? ⟨g, 0, none⟩ = some v := blk_cell (ew_grown hg h) 0
theorem ew_frozen {base : Nat} {W W1 : World} {g : Nat} {ok : Bool} {v : Value} {l : List Nat} (hg : W.grownBy W1 v.ownBlock) (h : BW base W g 114 (ewC ok) v l) : W1.frozen? ⟨g, 0, none⟩ = false := blk_frozen (ew_grown hg h) 0
theorem ew_set {base : Nat} {W : World} {g : Nat} {ok : Bool} {v : Value} {l : List Nat} (h : BW base W g 114 (ewC ok) v l) (b : Bool) : BW base (W.setCell ⟨g, 1, none⟩ (.bool b)) g 114 (ewC b) v l ∧ BS W g v (W.setCell ⟨g, 1, none⟩ (.bool b)) v := by
  refine ⟨⟨(blk_set h.1 1 _).trans rfl, h.2.1, h.2.2.step (fun k hk => Below.heap_setCell W _ _ k (fun e => h.ne (by decide) (by rw [hk]; exact congrArg some e)))⟩, (Kept.refl W _).setCell (.inl (.inl rfl)) _, .inl rfl⟩
theorem put_end {w0 w1 w2 : World} {g : Nat} {ok : Bool} {v v' : Value} {l : List Nat} {x : Int} {m : Nat} (h1 : BW w0.heap.size w1 g 114 (ewC ok) v l) (hB1 : Below w0.heap.size w0 w1) (hg' : w1.grownBy w2 v.ownBlock)
    (hm' : mrow w2 w0.heap.size 5 v' (l.length + (sb (bigB (U64 x) m)).size) (u8s l ++ u8s (bs (sb (bigB (U64 x) m))))) (hat' : v'.ownBlock = v.ownBlock ∨ v'.ownBlock = some w1.heap.size) :
    Below w0.heap.size w0 (w2.setCell ⟨g, 0, none⟩ v') ∧ BW w0.heap.size (w2.setCell ⟨g, 0, none⟩ v') g 114 (ewC ok) v' (l ++ bigB (U64 x) m) ∧ BS w1 g v (w2.setCell ⟨g, 0, none⟩ v') v' := by
  have hlen : l.length + (sb (bigB (U64 x) m)).size = (l ++ bigB (U64 x) m).length := by rw [sb_size, List.length_append]
  rw [hlen, bs_sb (bigB_lt m _), ← u8s_append] at hm'
  have hP := h1.put (by decide) hg' hm' (by rcases hat' with h | h; exact .inl h; exact .inr ⟨_, h, Nat.le_refl _⟩) (fun u => ⟨rfl, rfl⟩)
  exact ⟨(pw_below_grown hB1 _ hB1.size hg' (fun k hk => h1.ge k hk)).setCell h1.2.1 _, hP.1, hP.2⟩
set_option maxHeartbeats 4000000 in
set_option maxRecDepth 100000 in
theorem put_any (w0 w : World) (g : Nat) (v : Value) (s : List Nat × Bool) (x : Int) (j : Int) (m : Nat) (hj : j = m) (hm : m ≤ 8) (lo hi : Int) (hW : BW w0.heap.size w g 114 (ewC s.2) v s.1) (hB : Below w0.heap.size w0 w) (hl : s.1.length + 8 ≤ 140737488355328) :
    Calls Try.prog 120 #[.pointer (some ⟨g, 0, none⟩), .int .i64 x, .int .i64 j, .int .i64 lo, .int .i64 hi] w (EncPost w0 w g v (putS x m lo hi s)) := by
  obtain ⟨l, ok⟩ := s
  dsimp only [putS, EncPost] at *
  have hc1 : w.cell? ⟨g, 1, none⟩ = some (.bool ok) := blk_cell hW.1 1
  have hf1 : w.frozen? ⟨g, 1, none⟩ = false := blk_frozen hW.1 1
  have HM := Lib.hid hW
  have HB := Lib.hid hB
  have HL := Lib.hid hl
  have HJ := Lib.hid hj
  have HMM := Lib.hid hm
  clear hW hB hl hj hm
  cases ok with
  | false =>
    have hW1 := Lib.hid (ew_set HM.out false).1
    have hS1 := Lib.hid (ew_set HM.out false).2
    have hB1 := Lib.hid (HB.out.setCell (p := ⟨g, 1, none⟩) HM.out.2.1 (.bool false))
    have hc0 : (w.setCell ⟨g, 1, none⟩ (.bool false)).cell? ⟨g, 0, none⟩ = some v := blk_cell hW1.out.1 0
    have HR : Aside0 ((false && (decide (lo ≤ x) && decide (x ≤ hi))) = false) := ⟨by simp [Bool.false_and]⟩
    go_enter Try.func120, Try.ntmps120
    go_wp2_with fail
    generalize w.setCell ⟨g, 1, none⟩ (.bool false) = w1 at *
    go_region_law (first
      | (refine str_step (by rfl) (.tmp 31) (.tmp 35) 87 9 rfl 5 Try.underlying87 Try.underlying9 Try.infoB w0.heap.size (hW1.out.below (below_drew0 hbx)).2.2 rfl (sb (bigB (U64 x) m)) rfl (by rw [sb_size, bigB_length]; have := HL.out; have := HMM.out; omega) (by have := hB1.out.size; have := (below_drew0 hbx).size; omega) ?_; intro v' w2 hm' hg' hat'; obtain ⟨A', c', rfl⟩ := mrow_slice hm'; have hc2 := ew_cell hg' (hW1.out.below (below_drew0 hbx)); have hf2 := ew_frozen hg' (hW1.out.below (below_drew0 hbx)))
      | (go_simp; refine (Big_any (U64 x) m _ (u64_nat x) j HJ.out _ (u64_lt x) HMM.out).mono ?_; rintro e w' ⟨rfl, hbx⟩; dsimp only; have hcx := pw_cell_below (below_drew0 hbx) hc0))
    all_goals
      go_end0
      have hE := put_end (hW1.out.below (below_drew0 hbx)) (below_then hB1.out hB1.out.size (below_drew0 hbx)) hg' hm' hat'
      rw [HR.out]
      have hlen : l.length + (sb (bigB (U64 x) m)).size = (l ++ bigB (U64 x) m).length := by rw [sb_size, List.length_append]
      rw [← hlen] at *
      exact ⟨rfl, hE.1, _, hE.2.1, hS1.out.trans ((BS.below (below_drew0 hbx)).trans hE.2.2)⟩
  | true =>
    by_cases h1 : lo ≤ x
    · have b1 : decide (lo ≤ x) = true := decide_eq_true h1
      have b1' : decide (x ≥ lo) = true := decide_eq_true h1
      by_cases h2 : x ≤ hi
      · have b2 : decide (x ≤ hi) = true := decide_eq_true h2
        clear h1 h2

        have hW1 := Lib.hid (ew_set HM.out true).1
        have hS1 := Lib.hid (ew_set HM.out true).2
        have hB1 := Lib.hid (HB.out.setCell (p := ⟨g, 1, none⟩) HM.out.2.1 (.bool true))
        have hc0 : (w.setCell ⟨g, 1, none⟩ (.bool true)).cell? ⟨g, 0, none⟩ = some v := blk_cell hW1.out.1 0
        have HR : Aside0 ((true && (decide (lo ≤ x) && decide (x ≤ hi))) = true) := ⟨by simp [b1, b2]⟩
        go_enter Try.func120, Try.ntmps120
        go_wp2_with fail
        generalize w.setCell ⟨g, 1, none⟩ (.bool true) = w1 at *
        go_region_law (first
          | (refine str_step (by rfl) (.tmp 31) (.tmp 35) 87 9 rfl 5 Try.underlying87 Try.underlying9 Try.infoB w0.heap.size (hW1.out.below (below_drew0 hbx)).2.2 rfl (sb (bigB (U64 x) m)) rfl (by rw [sb_size, bigB_length]; have := HL.out; have := HMM.out; omega) (by have := hB1.out.size; have := (below_drew0 hbx).size; omega) ?_; intro v' w2 hm' hg' hat'; obtain ⟨A', c', rfl⟩ := mrow_slice hm'; have hc2 := ew_cell hg' (hW1.out.below (below_drew0 hbx)); have hf2 := ew_frozen hg' (hW1.out.below (below_drew0 hbx)))
          | (go_simp; refine (Big_any (U64 x) m _ (u64_nat x) j HJ.out _ (u64_lt x) HMM.out).mono ?_; rintro e w' ⟨rfl, hbx⟩; dsimp only; have hcx := pw_cell_below (below_drew0 hbx) hc0))
        all_goals
          go_end0
          have hE := put_end (hW1.out.below (below_drew0 hbx)) (below_then hB1.out hB1.out.size (below_drew0 hbx)) hg' hm' hat'
          rw [HR.out]
          have hlen : l.length + (sb (bigB (U64 x) m)).size = (l ++ bigB (U64 x) m).length := by rw [sb_size, List.length_append]
          rw [← hlen] at *
          exact ⟨rfl, hE.1, _, hE.2.1, hS1.out.trans ((BS.below (below_drew0 hbx)).trans hE.2.2)⟩

      · have b2 : decide (x ≤ hi) = false := decide_eq_false h2
        clear h1 h2

        have hW1 := Lib.hid (ew_set HM.out false).1
        have hS1 := Lib.hid (ew_set HM.out false).2
        have hB1 := Lib.hid (HB.out.setCell (p := ⟨g, 1, none⟩) HM.out.2.1 (.bool false))
        have hc0 : (w.setCell ⟨g, 1, none⟩ (.bool false)).cell? ⟨g, 0, none⟩ = some v := blk_cell hW1.out.1 0
        have HR : Aside0 ((true && (decide (lo ≤ x) && decide (x ≤ hi))) = false) := ⟨by simp [b1, b2]⟩
        go_enter Try.func120, Try.ntmps120
        go_wp2_with fail
        generalize w.setCell ⟨g, 1, none⟩ (.bool false) = w1 at *
        go_region_law (first
          | (refine str_step (by rfl) (.tmp 31) (.tmp 35) 87 9 rfl 5 Try.underlying87 Try.underlying9 Try.infoB w0.heap.size (hW1.out.below (below_drew0 hbx)).2.2 rfl (sb (bigB (U64 x) m)) rfl (by rw [sb_size, bigB_length]; have := HL.out; have := HMM.out; omega) (by have := hB1.out.size; have := (below_drew0 hbx).size; omega) ?_; intro v' w2 hm' hg' hat'; obtain ⟨A', c', rfl⟩ := mrow_slice hm'; have hc2 := ew_cell hg' (hW1.out.below (below_drew0 hbx)); have hf2 := ew_frozen hg' (hW1.out.below (below_drew0 hbx)))
          | (go_simp; refine (Big_any (U64 x) m _ (u64_nat x) j HJ.out _ (u64_lt x) HMM.out).mono ?_; rintro e w' ⟨rfl, hbx⟩; dsimp only; have hcx := pw_cell_below (below_drew0 hbx) hc0))
        all_goals
          go_end0
          have hE := put_end (hW1.out.below (below_drew0 hbx)) (below_then hB1.out hB1.out.size (below_drew0 hbx)) hg' hm' hat'
          rw [HR.out]
          have hlen : l.length + (sb (bigB (U64 x) m)).size = (l ++ bigB (U64 x) m).length := by rw [sb_size, List.length_append]
          rw [← hlen] at *
          exact ⟨rfl, hE.1, _, hE.2.1, hS1.out.trans ((BS.below (below_drew0 hbx)).trans hE.2.2)⟩

    · have b1 : decide (lo ≤ x) = false := decide_eq_false h1
      have b1' : decide (x ≥ lo) = false := decide_eq_false h1
      clear h1

      have hW1 := Lib.hid (ew_set HM.out false).1
      have hS1 := Lib.hid (ew_set HM.out false).2
      have hB1 := Lib.hid (HB.out.setCell (p := ⟨g, 1, none⟩) HM.out.2.1 (.bool false))
      have hc0 : (w.setCell ⟨g, 1, none⟩ (.bool false)).cell? ⟨g, 0, none⟩ = some v := blk_cell hW1.out.1 0
      have HR : Aside0 ((true && (decide (lo ≤ x) && decide (x ≤ hi))) = false) := ⟨by simp [b1]⟩
      go_enter Try.func120, Try.ntmps120
      go_wp2_with fail
      generalize w.setCell ⟨g, 1, none⟩ (.bool false) = w1 at *
      go_region_law (first
        | (refine str_step (by rfl) (.tmp 31) (.tmp 35) 87 9 rfl 5 Try.underlying87 Try.underlying9 Try.infoB w0.heap.size (hW1.out.below (below_drew0 hbx)).2.2 rfl (sb (bigB (U64 x) m)) rfl (by rw [sb_size, bigB_length]; have := HL.out; have := HMM.out; omega) (by have := hB1.out.size; have := (below_drew0 hbx).size; omega) ?_; intro v' w2 hm' hg' hat'; obtain ⟨A', c', rfl⟩ := mrow_slice hm'; have hc2 := ew_cell hg' (hW1.out.below (below_drew0 hbx)); have hf2 := ew_frozen hg' (hW1.out.below (below_drew0 hbx)))
        | (go_simp; refine (Big_any (U64 x) m _ (u64_nat x) j HJ.out _ (u64_lt x) HMM.out).mono ?_; rintro e w' ⟨rfl, hbx⟩; dsimp only; have hcx := pw_cell_below (below_drew0 hbx) hc0))
      all_goals
        go_end0
        have hE := put_end (hW1.out.below (below_drew0 hbx)) (below_then hB1.out hB1.out.size (below_drew0 hbx)) hg' hm' hat'
        rw [HR.out]
        have hlen : l.length + (sb (bigB (U64 x) m)).size = (l ++ bigB (U64 x) m).length := by rw [sb_size, List.length_append]
        rw [← hlen] at *
        exact ⟨rfl, hE.1, _, hE.2.1, hS1.out.trans ((BS.below (below_drew0 hbx)).trans hE.2.2)⟩
end Go.Proofs.Ytfnjbmpolggdeaa
end
section
namespace Go.Proofs.Ytfnjbmpolggdeaa
open Go.RowKit Go.Lib Go.Proofs.YtfnjbmpolggdeaaW.PrintWords
set_option linter.unusedVariables false
set_option linter.unusedSimpArgs false
def sgnS (x : Int) (m : Nat) (s : List Nat × Bool) : List Nat × Bool := putS x m (-(2 ^ (8 * m - 1) : Nat)) ((2 ^ (8 * m - 1) : Nat) - 1) s
def unsS (x : Int) (m : Nat) (s : List Nat × Bool) : List Nat × Bool := putS x m 0 ((2 ^ (8 * m) : Nat) - 1) s
set_option maxHeartbeats 4000000 in
set_option maxRecDepth 100000 in
theorem signed_any (w0 w : World) (g : Nat) (v : Value) (s : List Nat × Bool) (x : Int) (j : Int) (m : Nat) (hj : j = m) (hm : m = 1 ∨ m = 2 ∨ m = 4) (hW : BW w0.heap.size w g 114 (ewC s.2) v s.1) (hB : Below w0.heap.size w0 w) (hl : s.1.length + 8 ≤ 140737488355328) :
    Calls Try.prog 117 #[.pointer (some ⟨g, 0, none⟩), .int .i64 x, .int .i64 j] w (EncPost w0 w g v (sgnS x m s)) := by
  have HM := Lib.hid hW
  have HB := Lib.hid hB
  have HL := Lib.hid hl
  clear hW hB hl
  rcases hm with rfl | rfl | rfl
  · obtain rfl : j = 1 := hj
    have wa : IntKind.i64.wrap (8 * 1) = 8 := by decide
    have wa' : IntKind.i64.wrap 8 = 8 := by decide
    have wb : IntKind.i64.wrap (8 - 1) = 7 := by decide
    have wb' : IntKind.i64.wrap 7 = 7 := by decide
    have s1 : ∀ W : World, (Op.shift BinOp.shl IntKind.i64 (-1) IntKind.i64 7).run Try.prog W = .ok (.int .i64 (-128)) W := fun W => by rfl
    have s2 : ∀ W : World, (Op.shift BinOp.shl IntKind.i64 1 IntKind.i64 7).run Try.prog W = .ok (.int .i64 128) W := fun W => by rfl
    have wd : IntKind.i64.wrap (128 - 1) = 127 := by decide
    have we : IntKind.i64.wrap 128 = 128 := by decide
    have we' : IntKind.i64.wrap (-128) = -128 := by decide
    have wd' : IntKind.i64.wrap 127 = 127 := by decide
    go_enter Try.func117, Try.ntmps117
    go_region_law (first | (go_simp; refine (put_any w0 _ g v s x 1 1 rfl (by omega) (-128) 127 (HM.out.below (below_drew0 (Below.refl _ _))) (pw_below_drewN HB.out 1) HL.out).mono ?_; rintro e w' ⟨rfl, hb, v', h1, h2⟩; dsimp only))
    all_goals
      go_end0
      exact ⟨rfl, hb, v', h1, (BS.below (below_drew0 (Below.refl _ _))).trans h2⟩
  · obtain rfl : j = 2 := hj
    have wa : IntKind.i64.wrap (8 * 2) = 16 := by decide
    have wa' : IntKind.i64.wrap 16 = 16 := by decide
    have wb : IntKind.i64.wrap (16 - 1) = 15 := by decide
    have wb' : IntKind.i64.wrap 15 = 15 := by decide
    have s1 : ∀ W : World, (Op.shift BinOp.shl IntKind.i64 (-1) IntKind.i64 15).run Try.prog W = .ok (.int .i64 (-32768)) W := fun W => by rfl
    have s2 : ∀ W : World, (Op.shift BinOp.shl IntKind.i64 1 IntKind.i64 15).run Try.prog W = .ok (.int .i64 32768) W := fun W => by rfl
    have wd : IntKind.i64.wrap (32768 - 1) = 32767 := by decide
    have we : IntKind.i64.wrap 32768 = 32768 := by decide
    have we' : IntKind.i64.wrap (-32768) = -32768 := by decide
    have wd' : IntKind.i64.wrap 32767 = 32767 := by decide
    go_enter Try.func117, Try.ntmps117
    go_region_law (first | (go_simp; refine (put_any w0 _ g v s x 2 2 rfl (by omega) (-32768) 32767 (HM.out.below (below_drew0 (Below.refl _ _))) (pw_below_drewN HB.out 1) HL.out).mono ?_; rintro e w' ⟨rfl, hb, v', h1, h2⟩; dsimp only))
    all_goals
      go_end0
      exact ⟨rfl, hb, v', h1, (BS.below (below_drew0 (Below.refl _ _))).trans h2⟩
  · obtain rfl : j = 4 := hj
    have wa : IntKind.i64.wrap (8 * 4) = 32 := by decide
    have wa' : IntKind.i64.wrap 32 = 32 := by decide
    have wb : IntKind.i64.wrap (32 - 1) = 31 := by decide
    have wb' : IntKind.i64.wrap 31 = 31 := by decide
    have s1 : ∀ W : World, (Op.shift BinOp.shl IntKind.i64 (-1) IntKind.i64 31).run Try.prog W = .ok (.int .i64 (-2147483648)) W := fun W => by rfl
    have s2 : ∀ W : World, (Op.shift BinOp.shl IntKind.i64 1 IntKind.i64 31).run Try.prog W = .ok (.int .i64 2147483648) W := fun W => by rfl
    have wd : IntKind.i64.wrap (2147483648 - 1) = 2147483647 := by decide
    have we : IntKind.i64.wrap 2147483648 = 2147483648 := by decide
    have we' : IntKind.i64.wrap (-2147483648) = -2147483648 := by decide
    have wd' : IntKind.i64.wrap 2147483647 = 2147483647 := by decide
    go_enter Try.func117, Try.ntmps117
    go_region_law (first | (go_simp; refine (put_any w0 _ g v s x 4 4 rfl (by omega) (-2147483648) 2147483647 (HM.out.below (below_drew0 (Below.refl _ _))) (pw_below_drewN HB.out 1) HL.out).mono ?_; rintro e w' ⟨rfl, hb, v', h1, h2⟩; dsimp only))
    all_goals
      go_end0
      exact ⟨rfl, hb, v', h1, (BS.below (below_drew0 (Below.refl _ _))).trans h2⟩
set_option maxHeartbeats 4000000 in
set_option maxRecDepth 100000 in
theorem unsigned_any (w0 w : World) (g : Nat) (v : Value) (s : List Nat × Bool) (x : Int) (j : Int) (m : Nat) (hj : j = m) (hm : m = 1 ∨ m = 2) (hW : BW w0.heap.size w g 114 (ewC s.2) v s.1) (hB : Below w0.heap.size w0 w) (hl : s.1.length + 8 ≤ 140737488355328) :
    Calls Try.prog 118 #[.pointer (some ⟨g, 0, none⟩), .int .i64 x, .int .i64 j] w (EncPost w0 w g v (unsS x m s)) := by
  have HM := Lib.hid hW
  have HB := Lib.hid hB
  have HL := Lib.hid hl
  clear hW hB hl
  rcases hm with rfl | rfl
  · obtain rfl : j = 1 := hj
    have wa : IntKind.i64.wrap (8 * 1) = 8 := by decide
    have wa' : IntKind.i64.wrap 8 = 8 := by decide
    have s2 : ∀ W : World, (Op.shift BinOp.shl IntKind.i64 1 IntKind.i64 8).run Try.prog W = .ok (.int .i64 256) W := fun W => by rfl
    have wd : IntKind.i64.wrap (256 - 1) = 255 := by decide
    have we : IntKind.i64.wrap 256 = 256 := by decide
    have we' : IntKind.i64.wrap (-256) = -256 := by decide
    have wd' : IntKind.i64.wrap 255 = 255 := by decide
    go_enter Try.func118, Try.ntmps118
    go_wp2_with fail
    refine (put_any w0 _ g v s x 1 1 rfl (by omega) 0 255 HM.out HB.out HL.out).mono ?_
    rintro e w' ⟨rfl, hb, v', h1, h2⟩
    go_wp2
    go_end0
    exact ⟨rfl, hb, v', h1, h2⟩
  · obtain rfl : j = 2 := hj
    have wa : IntKind.i64.wrap (8 * 2) = 16 := by decide
    have wa' : IntKind.i64.wrap 16 = 16 := by decide
    have s2 : ∀ W : World, (Op.shift BinOp.shl IntKind.i64 1 IntKind.i64 16).run Try.prog W = .ok (.int .i64 65536) W := fun W => by rfl
    have wd : IntKind.i64.wrap (65536 - 1) = 65535 := by decide
    have we : IntKind.i64.wrap 65536 = 65536 := by decide
    have we' : IntKind.i64.wrap (-65536) = -65536 := by decide
    have wd' : IntKind.i64.wrap 65535 = 65535 := by decide
    go_enter Try.func118, Try.ntmps118
    go_wp2_with fail
    refine (put_any w0 _ g v s x 2 2 rfl (by omega) 0 65535 HM.out HB.out HL.out).mono ?_
    rintro e w' ⟨rfl, hb, v', h1, h2⟩
    go_wp2
    go_end0
    exact ⟨rfl, hb, v', h1, h2⟩
end Go.Proofs.Ytfnjbmpolggdeaa
end
section
namespace Go.Proofs.Ytfnjbmpolggdeaa
open Go.RowKit Go.Lib Go.Proofs.YtfnjbmpolggdeaaW.PrintWords
set_option linter.unusedVariables false
set_option linter.unusedSimpArgs false
theorem grown_of_alloc {w w' : World} {o : Obj} {r : Option Nat} (h3 : (w.alloc o).grownBy w' r) : w.grownBy w' r := by
  have ha := World.grownBy_alloc w o r
  refine ⟨h3.os.trans ha.os, h3.tape.trans ha.tape, h3.output.trans ha.output, Nat.le_trans ha.size h3.size, fun k hk hne => ?_⟩
  rw [h3.block k (by simp; omega) hne, ha.block k hk hne]
theorem run_app_e {w : World} (base : Nat) (t ty : TypeId) (ht : Try.prog.underlying t = some (.slice 5)) (v : Value) (n : Nat) (xs : List Value) (hown : mrow w base 5 v n xs) (b : Int) (cap : Nat)
    (hn : n + 1 ≤ 140737488355328) (hbase : base ≤ w.heap.size) :
    ∃ v' w', (Builtin.append_ #[t, t] ty #[v, .slice (some ⟨w.heap.size, 0, none⟩) 1 cap]).run Try.prog (w.alloc (.cells #[.int .u8 b] 5)) = .ok v' w' ∧ mrow w' base 5 v' (n + 1) (xs ++ [.int .u8 b]) ∧ w.grownBy w' v.ownBlock ∧ (v'.ownBlock = v.ownBlock ∨ ∃ k, v'.ownBlock = some k ∧ w.heap.size ≤ k) := by
  obtain ⟨i, hi, hz, hsize, hby⟩ := info_parts Try.infoB
  have hown' : mrow (w.alloc (.cells #[.int .u8 b] 5)) base 5 v n xs := hown.kept (row := none) (World.grownBy_alloc w _ none) (by cases v.ownBlock <;> simp)
  obtain ⟨v', w', hr, h2, h3, h4⟩ := run_append_mrow (P := Try.prog) base t ty 5 i (.int .u8 0) 1 ht hi hz hsize hby rfl v n xs hown' ⟨w.heap.size, 0, none⟩ 1 cap [.int .u8 b] rfl (cells_new (w := w) (cs := [.int .u8 b])) (by simp [Value.oneCell']) (by unfold maxLen; omega) (by omega) (by simp; omega)
  refine ⟨v', w', hr, h2, grown_of_alloc h3, ?_⟩
  rcases h4 with h | h
  · exact .inl h
  · exact .inr ⟨_, h, by simp⟩
theorem app_e {w w1 : World} {ops : Array Oper} {rest : List Oper} {o : Oper} {a : Act} {Q : Exit → Act → World → Prop} (hgd : o.guard = none) (s x : Operand) (t : TypeId)
    (ho : o.op = .call { callee := .builtin .append, args := #[s, x], argTypes := #[t, t] }) (ht : Try.prog.underlying t = some (.slice 5)) (base : Nat) {v : Value} {n : Nat} {xs : List Value} (hown : mrow w base 5 v n xs) (hs : a.eval s = v)
    (b : Int) (cap : Nat) (hx : a.eval x = .slice (some ⟨w.heap.size, 0, none⟩) 1 cap) (hn : n + 1 ≤ 140737488355328) (hbase : base ≤ w.heap.size)
    (h : ∀ v' w', mrow w' base 5 v' (n + 1) (xs ++ [.int .u8 b]) → w.grownBy w' v.ownBlock → (v'.ownBlock = v.ownBlock ∨ ∃ k, v'.ownBlock = some k ∧ w.heap.size ≤ k) → wpList Try.prog ops Q rest (a.put o.dst v') w') (hw1 : w1 = w.alloc (.cells #[.int .u8 b] 5)) :
    wpList Try.prog ops Q (o :: rest) a w1 := by
  subst hw1
  obtain ⟨v', w', hr, h2, h3, h4⟩ := run_app_e base t o.type ht v n xs hown b cap hn hbase
  refine wpList_plain hgd fun K hK => ?_
  unfold Oper.wp execOp
  simp only [ho, resolve, invoke, builtin, Sem.run_bind, Sem.run_pure, Result.andThen_ok, List.map_toArray, List.map_cons, List.map_nil, hs, hx, hr]
  exact hK _ _ (h v' w' h2 h3 h4)
theorem elem_step {ops : Array Oper} {o : Oper} {a : Act} {Q : Exit → Act → World → Prop} {K : Act → World → Prop} {w w1 : World} (hw : Region.wanted o (yielded ops a.tmps) = true) (s x : Operand) (t : TypeId)
    (ho : o.op = .call { callee := .builtin .append, args := #[s, x], argTypes := #[t, t] }) (ht : Try.prog.underlying t = some (.slice 5)) (base : Nat) {v : Value} {n : Nat} {xs : List Value} (hown : mrow w base 5 v n xs) (hs : a.eval s = v)
    (b : Int) (cap : Nat) (hx : a.eval x = .slice (some ⟨w.heap.size, 0, none⟩) 1 cap) (hn : n + 1 ≤ 140737488355328) (hbase : base ≤ w.heap.size)
    (h : ∀ v' w', mrow w' base 5 v' (n + 1) (xs ++ [.int .u8 b]) → w.grownBy w' v.ownBlock → (v'.ownBlock = v.ownBlock ∨ ∃ k, v'.ownBlock = some k ∧ w.heap.size ≤ k) → K (a.put o.dst v') w') (hw1 : w1 = w.alloc (.cells #[.int .u8 b] 5)) :
    if Region.wanted o (yielded ops a.tmps) = true then Oper.wp Try.prog o a w1 K Q else K (a.put o.dst undef) w1 := by
  subst hw1
  obtain ⟨v', w', hr, h2, h3, h4⟩ := run_app_e base t o.type ht v n xs hown b cap hn hbase
  rw [if_pos hw]
  unfold Oper.wp execOp
  simp only [ho, resolve, invoke, builtin, Sem.run_bind, Sem.run_pure, Result.andThen_ok, List.map_toArray, List.map_cons, List.map_nil, hs, hx, hr]
  exact h v' w' h2 h3 h4
theorem byte_put {w0 w w' : World} {g : Nat} {ok : Bool} {v v' : Value} {l : List Nat} {b : Nat} {i : Int} (hi : i = b) (h : BW w0.heap.size w g 114 (ewC ok) v l) (hB : Below w0.heap.size w0 w) (hm : mrow w' w0.heap.size 5 v' (l.length + 1) (u8s l ++ [.int .u8 i])) (hg : w.grownBy w' v.ownBlock) (hat : v'.ownBlock = v.ownBlock ∨ ∃ k, v'.ownBlock = some k ∧ w.heap.size ≤ k) :
    BW w0.heap.size (w'.setCell ⟨g, 0, none⟩ v') g 114 (ewC ok) v' (l ++ [b]) ∧ BS w g v (w'.setCell ⟨g, 0, none⟩ v') v' ∧ Below w0.heap.size w0 (w'.setCell ⟨g, 0, none⟩ v') := by
  subst hi
  have hl : (l ++ [b]).length = l.length + 1 := by simp
  have hP := h.put (by decide) hg (l1 := l ++ [b]) (by rw [hl, u8s_append]; exact hm) hat (fun u => ⟨rfl, rfl⟩)
  exact ⟨hP.1, hP.2, (pw_below_grown hB _ hB.size hg (fun k hk => h.ge k hk)).setCell h.2.1 _⟩
theorem mrow_nb {w : World} {base e n} {v : Value} {xs : List Value} {b : Nat} {c : Array Value} {T : TypeId} {fr : Nat × Nat} (h : mrow w base e v n xs) (hb : w.heap[b]? = some (.cells c T fr)) (hT : e ≠ T) : v.ownBlock ≠ some b := fun he => by
  obtain ⟨cur, fr', hc⟩ := h.typed b he
  rw [hb] at hc
  injection hc with hc
  injection hc with _ ht
  exact hT ht.symm
end Go.Proofs.Ytfnjbmpolggdeaa
end
section
namespace Go.Proofs.Ytfnjbmpolggdeaa.CW
open Go.RowKit Go.Lib Go.Proofs.YtfnjbmpolggdeaaW.PrintWords Go.Proofs.YtfnjbmpolggdeaaW.PrintLast Go.Proofs.YtfnjbmpolggdeaaW.PrintMore
set_option linter.unusedVariables false
set_option linter.unusedSimpArgs false
def tgtS (x7 : List Int) (n : Int) (s : List Nat × Bool) : List Nat × Bool := (s.1, s.2 && ((x7.length : Int) == n))
def TgtPost (w0 w : World) (g : Nat) (v : Value) (s : List Nat × Bool) (e : Ending) (w' : World) : Prop :=
  e = .returned (.bool s.2) ∧ Below w0.heap.size w0 w' ∧ BW w0.heap.size w' g 114 (ewC s.2) v s.1 ∧ BS w g v w' v
set_option maxHeartbeats 4000000 in
set_option maxRecDepth 100000 in
theorem targets_any (w0 w : World) (g : Nat) (v : Value) (s : List Nat × Bool) (x0 x1 : Int) (x2 : Bool) (x3 x4 x5 : Int) (A6 : Option Addr) (c6 : Nat) (x6 : List Int) (A7 : Option Addr) (c7 : Nat) (x7 : List Int) (n : Int) (hW : BW w0.heap.size w g 114 (ewC s.2) v s.1) (hB : Below w0.heap.size w0 w) :
    Calls Try.prog 116 #[.pointer (some ⟨g, 0, none⟩), .agg #[.int .i64 x0, .int .u8 x1, .bool x2, .int .i64 x3, .int .i64 x4, .int .i64 x5, .slice A6 x6.length c6, .slice A7 x7.length c7], .int .i64 n] w (TgtPost w0 w g v (tgtS x7 n s)) := by
  obtain ⟨l, ok⟩ := s
  dsimp only [tgtS] at *
  have hbx := below_alloc (Below.refl w.heap.size w) (.cells #[.int .i64 x0, .int .u8 x1, .bool x2, .int .i64 x3, .int .i64 x4, .int .i64 x5, .slice A6 x6.length c6, .slice A7 x7.length c7] 82)
  have hW1 := hW.below hbx
  have hc1 : (w.alloc (.cells #[.int .i64 x0, .int .u8 x1, .bool x2, .int .i64 x3, .int .i64 x4, .int .i64 x5, .slice A6 x6.length c6, .slice A7 x7.length c7] 82)).cell? ⟨g, 1, none⟩ = some (.bool ok) := blk_cell hW1.1 1
  have hf1 : (w.alloc (.cells #[.int .i64 x0, .int .u8 x1, .bool x2, .int .i64 x3, .int .i64 x4, .int .i64 x5, .slice A6 x6.length c6, .slice A7 x7.length c7] 82)).frozen? ⟨g, 1, none⟩ = false := blk_frozen hW1.1 1
  have HW := Lib.hid hW1
  have HB := Lib.hid (below_then hB hB.size hbx)
  have HX := Lib.hid hbx
  clear hW hB hW1 hbx
  cases ok with
  | false =>
    have hS := Lib.hid (ew_set HW.out false)
    have hc2 : ((w.alloc (.cells #[.int .i64 x0, .int .u8 x1, .bool x2, .int .i64 x3, .int .i64 x4, .int .i64 x5, .slice A6 x6.length c6, .slice A7 x7.length c7] 82)).setCell ⟨g, 1, none⟩ (.bool false)).cell? ⟨g, 1, none⟩ = some (.bool false) := blk_cell hS.out.1.1 1
    go_enter Try.func116, Try.ntmps116
    go_wp2
    go_ret
    exact ⟨by simp, HB.out.setCell (p := ⟨g, 1, none⟩) HW.out.2.1 _, by simpa using hS.out.1, (BS.below HX.out).trans hS.out.2⟩
  | true =>
    have hS := Lib.hid (ew_set HW.out ((x7.length : Int) == n))
    have hc2 : ((w.alloc (.cells #[.int .i64 x0, .int .u8 x1, .bool x2, .int .i64 x3, .int .i64 x4, .int .i64 x5, .slice A6 x6.length c6, .slice A7 x7.length c7] 82)).setCell ⟨g, 1, none⟩ (.bool ((x7.length : Int) == n))).cell? ⟨g, 1, none⟩ = some (.bool ((x7.length : Int) == n)) := blk_cell hS.out.1.1 1
    go_enter Try.func116, Try.ntmps116
    go_wp2
    go_ret
    exact ⟨by simp, HB.out.setCell (p := ⟨g, 1, none⟩) HW.out.2.1 _, by simpa using hS.out.1, (BS.below HX.out).trans hS.out.2⟩
end Go.Proofs.Ytfnjbmpolggdeaa.CW
end
section
namespace Go.Proofs.Ytfnjbmpolggdeaa.CW
open Go.RowKit Go.Lib Go.Proofs.YtfnjbmpolggdeaaW.PrintWords Go.Proofs.YtfnjbmpolggdeaaW.PrintLast Go.Proofs.YtfnjbmpolggdeaaW.PrintMore
set_option linter.unusedVariables false
set_option linter.unusedSimpArgs false
theorem box8 {W : World} {b : Nat} {x0 x1 : Int} {x2 : Bool} {x3 x4 x5 : Int} {A6 : Option Addr} {c6 : Nat} {x6 : List Int} {A7 : Option Addr} {c7 : Nat} {x7 : List Int} (h : W.heap[b]? = some (.cells #[.int .i64 x0, .int .u8 x1, .bool x2, .int .i64 x3, .int .i64 x4, .int .i64 x5, .slice A6 x6.length c6, .slice A7 x7.length c7] 82 (0, 0))) :
    W.cell? ⟨b, 0, none⟩ = some (.int .i64 x0) ∧ W.cell? ⟨b, 1, none⟩ = some (.int .u8 x1) ∧ W.cell? ⟨b, 2, none⟩ = some (.bool x2) ∧ W.cell? ⟨b, 3, none⟩ = some (.int .i64 x3) ∧ W.cell? ⟨b, 4, none⟩ = some (.int .i64 x4) ∧ W.cell? ⟨b, 5, none⟩ = some (.int .i64 x5) ∧
    W.cell? ⟨b, 6, none⟩ = some (.slice A6 x6.length c6) ∧ W.cell? ⟨b, 7, none⟩ = some (.slice A7 x7.length c7) :=
  ⟨blk_cell h 0, blk_cell h 1, blk_cell h 2, blk_cell h 3, blk_cell h 4, blk_cell h 5, blk_cell h 6, blk_cell h 7⟩
def szI (x2 : Bool) : Nat := if x2 = true then 2 else 1
def opS (x1 : Int) (x2 : Bool) (s : List Nat × Bool) : List Nat × Bool := ((if x2 = true then s.1 ++ [196] else s.1) ++ [x1.toNat], s.2)
def St (w0 w : World) (g : Nat) (v : Value) (bx : Nat) (o : Obj) (s : List Nat × Bool) (W : World) (V : Value) : Prop :=
  BW w0.heap.size W g 114 (ewC s.2) V s.1 ∧ Below w0.heap.size w0 W ∧ BS w g v W V ∧ W.heap[bx]? = some o
theorem St.call {w0 w W W1 : World} {g bx : Nat} {v V V1 : Value} {c : Array Value} {s s1 : List Nat × Bool} (h : St w0 w g v bx (.cells c 82 (0, 0)) s W V) (hbx : bx ≠ g)
    (h1 : BW w0.heap.size W1 g 114 (ewC s1.2) V1 s1.1) (h2 : Below w0.heap.size w0 W1) (h3 : BS W g V W1 V1) : St w0 w g v bx (.cells c 82 (0, 0)) s1 W1 V1 :=
  ⟨h1, h2, h.2.2.1.trans h3, h3.blk h.2.2.2 hbx (mrow_nb h.1.2.2 h.2.2.2 (by decide))⟩
theorem St.quiet {w0 w W W1 : World} {g bx : Nat} {v V : Value} {c : Array Value} {s : List Nat × Bool} (h : St w0 w g v bx (.cells c 82 (0, 0)) s W V) (hbx : bx ≠ g) (hb : Below W.heap.size W W1) : St w0 w g v bx (.cells c 82 (0, 0)) s W1 V :=
  h.call hbx (h.1.below hb) (below_then h.2.1 h.2.1.size hb) (BS.below hb)
theorem St.start {w0 w : World} {g : Nat} {v : Value} {c : Array Value} {s : List Nat × Bool} (hW : BW w0.heap.size w g 114 (ewC s.2) v s.1) (hB : Below w0.heap.size w0 w) : St w0 w g v w.heap.size (.cells c 82 (0, 0)) s (w.alloc (.cells c 82)) v :=
  ⟨hW.below (below_alloc (Below.refl _ _) _), below_then hB hB.size (below_alloc (Below.refl _ _) _), BS.below (below_alloc (Below.refl _ _) _), Array.getElem?_push_size⟩
theorem St.post {w0 w W : World} {g bx : Nat} {v V : Value} {o : Obj} {s : List Nat × Bool} (h : St w0 w g v bx o s W V) : EncPost w0 w g v s (.returned (.tuple #[])) W := ⟨rfl, h.2.1, V, h.1, h.2.2.1⟩
theorem St.byte {w0 w W W1 : World} {g bx : Nat} {v V V1 : Value} {c : Array Value} {s : List Nat × Bool} (h : St w0 w g v bx (.cells c 82 (0, 0)) s W V) (hbx : bx ≠ g) {b : Nat} {i : Int} (hi : i = b)
    (hm : mrow W1 w0.heap.size 5 V1 (s.1.length + 1) (u8s s.1 ++ [.int .u8 i])) (hg : W.grownBy W1 V.ownBlock) (hat : V1.ownBlock = V.ownBlock ∨ ∃ k, V1.ownBlock = some k ∧ W.heap.size ≤ k) :
    St w0 w g v bx (.cells c 82 (0, 0)) (s.1 ++ [b], s.2) (W1.setCell ⟨g, 0, none⟩ V1) V1 := by
  have hP := byte_put hi h.1 h.2.1 hm hg hat
  exact h.call hbx (s1 := (s.1 ++ [b], s.2)) hP.1 hP.2.2 hP.2.1
theorem St.c0 {w0 w W : World} {g bx : Nat} {v V : Value} {o : Obj} {s : List Nat × Bool} (h : St w0 w g v bx o s W V) : W.cell? ⟨g, 0, none⟩ = some V := blk_cell h.1.1 0
theorem St.c1 {w0 w W : World} {g bx : Nat} {v V : Value} {o : Obj} {s : List Nat × Bool} (h : St w0 w g v bx o s W V) : W.cell? ⟨g, 1, none⟩ = some (.bool s.2) := blk_cell h.1.1 1
theorem St.f0 {w0 w W : World} {g bx : Nat} {v V : Value} {o : Obj} {s : List Nat × Bool} (h : St w0 w g v bx o s W V) : W.frozen? ⟨g, 0, none⟩ = false := blk_frozen h.1.1 0
theorem mrow_sl {w : World} {base e n} {v : Value} {xs : List Value} (h : mrow w base e v n xs) : ∃ A m c, v = .slice A m c := by
  obtain ⟨A, c, h⟩ := mrow_slice h
  exact ⟨A, n, c, h⟩
theorem drewB (W : World) : Below W.heap.size W W.drew := below_drew0 (Below.refl _ _)
theorem drewNB (W : World) (n : Nat) : Below W.heap.size W (W.drewN n) := pw_below_drewN (Below.refl _ _) n
end Go.Proofs.Ytfnjbmpolggdeaa.CW
end
section
namespace Go.Proofs.Ytfnjbmpolggdeaa.CW
open Go.RowKit Go.Lib Go.Proofs.YtfnjbmpolggdeaaW.PrintWords Go.Proofs.YtfnjbmpolggdeaaW.PrintLast Go.Proofs.YtfnjbmpolggdeaaW.PrintMore
set_option linter.unusedVariables false
set_option linter.unusedSimpArgs false
attribute [local go_sem] max2_int min2_int max_two min_two max_three min_three max_four min_four
def oneF2 (x0 x1 : Int) (x2 : Bool) (x3 x4 x5 : Int) (x6 x7 : List Int) (s : List Nat × Bool) : List Nat × Bool := sgnS x3 1 (tgtS x7 0 (opS x1 x2 s))
set_option maxHeartbeats 8000000 in
set_option maxRecDepth 100000 in
theorem one_f2 (w0 w : World) (g : Nat) (v : Value) (s : List Nat × Bool) (x0 x1 : Int) (x2 : Bool) (x3 x4 x5 : Int) (A6 : Option Addr) (c6 : Nat) (x6 : List Int) (A7 : Option Addr) (c7 : Nat) (x7 : List Int) (hx1 : 0 ≤ x1 ∧ x1 < 256) (hW : BW w0.heap.size w g 114 (ewC s.2) v s.1) (hB : Below w0.heap.size w0 w) (hl : s.1.length + 100 ≤ 140737488355328) :
    Calls Try.prog 79 #[.pointer (some ⟨g, 0, none⟩), .agg #[.int .i64 x0, .int .u8 x1, .bool x2, .int .i64 x3, .int .i64 x4, .int .i64 x5, .slice A6 x6.length c6, .slice A7 x7.length c7], .int .i64 2] w (EncPost w0 w g v (oneF2 x0 x1 x2 x3 x4 x5 x6 x7 s)) := by
  unfold oneF2
  have HX1 := Lib.hid hx1
  have HW := Lib.hid hW
  have HB := Lib.hid hB
  have HL := Lib.hid hl
  clear hx1 hW hB hl
  cases x2 with
  | false =>
    have H0 := Lib.hid (St.start (c := #[.int .i64 x0, .int .u8 x1, .bool false, .int .i64 x3, .int .i64 x4, .int .i64 x5, .slice A6 x6.length c6, .slice A7 x7.length c7]) HW.out HB.out)
    have HG := Lib.hid (show w.heap.size ≠ g by have := HW.out.lt; omega)
    obtain ⟨b0_0, b1_0, b2_0, b3_0, b4_0, b5_0, b6_0, b7_0⟩ := box8 H0.out.2.2.2
    have c0_0 := H0.out.c0
    have c1_0 := H0.out.c1
    have f0_0 := H0.out.f0
    go_enter Try.func79, Try.ntmps79
    go_wp2_with fail
    generalize w.alloc (.cells #[.int .i64 x0, .int .u8 x1, .bool false, .int .i64 x3, .int .i64 x4, .int .i64 x5, .slice A6 x6.length c6, .slice A7 x7.length c7] 82) = W0 at *
    have ca : ∀ o, (W0.alloc o).cell? ⟨g, 0, none⟩ = some _ := fun o => pw_cell_below (below_alloc (Below.refl _ _) o) c0_0
    have cb : ∀ o, (W0.alloc o).cell? ⟨w.heap.size, 1, none⟩ = some _ := fun o => pw_cell_below (below_alloc (Below.refl _ _) o) b1_0
    go_region_law (first | (refine elem_step (by rfl) (.tmp 22) (.tmp 25) 87 rfl Try.underlying87 w0.heap.size (H0.out.1.below (drewB _)).2.2 rfl x1 1 (by first | rfl | (go_simp; done) | (simp [World.alloc]; done)) (by have := HL.out; omega) (Nat.le_trans H0.out.2.1.size (drewB _).size) ?_ rfl; intro v9 w9 hm9 hg9 hat9; obtain ⟨A9, m9, c9, rfl⟩ := mrow_sl hm9; have k9 := ew_cell hg9 (H0.out.1.below (drewB _)); have k8 := ew_frozen hg9 (H0.out.1.below (drewB _))))
    all_goals
      have H9 := Lib.hid ((H0.out.quiet HG.out (drewB _)).byte HG.out (b := x1.toNat) (by have := HX1.out; omega) hm9 hg9 hat9)
      clear b0_0 b1_0 b2_0 b3_0 b4_0 b5_0 b6_0 b7_0 c0_0 c1_0 f0_0
      clear hm9 hg9 hat9 k9 k8 ca cb H0
      generalize w9.setCell ⟨g, 0, none⟩ _ = W9 at *
      obtain ⟨b0_9, b1_9, b2_9, b3_9, b4_9, b5_9, b6_9, b7_9⟩ := box8 H9.out.2.2.2
      have c0_9 := H9.out.c0
      have c1_9 := H9.out.c1
      have f0_9 := H9.out.f0
      go_wp2_with fail
      refine (targets_any w0 _ g _ (opS x1 false s) x0 x1 false x3 x4 x5 A6 c6 x6 A7 c7 x7 0 H9.out.1 H9.out.2.1).mono ?_
      rintro e10 w10 ⟨rfl, hb10, hw10, hs10⟩
      have H10 := Lib.hid (H9.out.call HG.out hw10 hb10 hs10)
      clear b0_9 b1_9 b2_9 b3_9 b4_9 b5_9 b6_9 b7_9 c0_9 c1_9 f0_9
      clear hb10 hw10 hs10 H9
      obtain ⟨b0_10, b1_10, b2_10, b3_10, b4_10, b5_10, b6_10, b7_10⟩ := box8 H10.out.2.2.2
      have c0_10 := H10.out.c0
      have c1_10 := H10.out.c1
      have f0_10 := H10.out.f0
      go_wp2_with fail
      refine (signed_any w0 _ g _ (tgtS x7 0 (opS x1 false s)) x3 1 1 rfl (by omega) H10.out.1 H10.out.2.1 (by have := HL.out; simp only [opS, tgtS, sgnS, unsS, putS, Bool.false_eq_true, ↓reduceIte, List.length_append, List.length_cons, List.length_nil, bigB_length]; omega)).mono ?_
      rintro e11 w11 ⟨rfl, hb11, v11, hw11, hs11⟩
      have H11 := Lib.hid (H10.out.call HG.out hw11 hb11 hs11)
      clear b0_10 b1_10 b2_10 b3_10 b4_10 b5_10 b6_10 b7_10 c0_10 c1_10 f0_10
      clear hb11 hw11 hs11 H10
      obtain ⟨b0_11, b1_11, b2_11, b3_11, b4_11, b5_11, b6_11, b7_11⟩ := box8 H11.out.2.2.2
      have c0_11 := H11.out.c0
      have c1_11 := H11.out.c1
      have f0_11 := H11.out.f0
      go_wp2
      go_end0
      exact H11.out.post
  | true =>
    have H0 := Lib.hid (St.start (c := #[.int .i64 x0, .int .u8 x1, .bool true, .int .i64 x3, .int .i64 x4, .int .i64 x5, .slice A6 x6.length c6, .slice A7 x7.length c7]) HW.out HB.out)
    have HG := Lib.hid (show w.heap.size ≠ g by have := HW.out.lt; omega)
    obtain ⟨b0_0, b1_0, b2_0, b3_0, b4_0, b5_0, b6_0, b7_0⟩ := box8 H0.out.2.2.2
    have c0_0 := H0.out.c0
    have c1_0 := H0.out.c1
    have f0_0 := H0.out.f0
    go_enter Try.func79, Try.ntmps79
    go_wp2_with (at_builtin; refine app_e rfl _ _ 87 rfl Try.underlying87 w0.heap.size H0.out.1.2.2 rfl 196 1 (by first | rfl | (go_simp; done) | (simp [World.alloc]; done)) (by have := HL.out; omega) H0.out.2.1.size ?_ rfl; intro v1 w1 hm1 hg1 hat1; obtain ⟨A1, m1, c1, rfl⟩ := mrow_sl hm1; have k0 := ew_cell hg1 H0.out.1; have k1 := ew_frozen hg1 H0.out.1)
    have H1 := Lib.hid (H0.out.byte HG.out (b := 196) rfl hm1 hg1 hat1)
    clear b0_0 b1_0 b2_0 b3_0 b4_0 b5_0 b6_0 b7_0 c0_0 c1_0 f0_0
    clear hm1 hg1 hat1 k0 k1 H0
    generalize w1.setCell ⟨g, 0, none⟩ _ = W1 at *
    obtain ⟨b0_1, b1_1, b2_1, b3_1, b4_1, b5_1, b6_1, b7_1⟩ := box8 H1.out.2.2.2
    have c0_1 := H1.out.c0
    have c1_1 := H1.out.c1
    have f0_1 := H1.out.f0
    have ca : ∀ o, (W1.alloc o).cell? ⟨g, 0, none⟩ = some _ := fun o => pw_cell_below (below_alloc (Below.refl _ _) o) c0_1
    have cb : ∀ o, (W1.alloc o).cell? ⟨w.heap.size, 1, none⟩ = some _ := fun o => pw_cell_below (below_alloc (Below.refl _ _) o) b1_1
    go_region_law (first | (refine elem_step (by rfl) (.tmp 22) (.tmp 25) 87 rfl Try.underlying87 w0.heap.size (H1.out.1.below (drewB _)).2.2 rfl x1 1 (by first | rfl | (go_simp; done) | (simp [World.alloc]; done)) (by have := HL.out; simp only [List.length_append, List.length_cons, List.length_nil]; omega) (Nat.le_trans H1.out.2.1.size (drewB _).size) ?_ rfl; intro v9 w9 hm9 hg9 hat9; obtain ⟨A9, m9, c9, rfl⟩ := mrow_sl hm9; have k9 := ew_cell hg9 (H1.out.1.below (drewB _)); have k8 := ew_frozen hg9 (H1.out.1.below (drewB _))))
    all_goals
      have H9 := Lib.hid ((H1.out.quiet HG.out (drewB _)).byte HG.out (b := x1.toNat) (by have := HX1.out; omega) hm9 hg9 hat9)
      clear b0_1 b1_1 b2_1 b3_1 b4_1 b5_1 b6_1 b7_1 c0_1 c1_1 f0_1
      clear hm9 hg9 hat9 k9 k8 ca cb H1
      generalize w9.setCell ⟨g, 0, none⟩ _ = W9 at *
      obtain ⟨b0_9, b1_9, b2_9, b3_9, b4_9, b5_9, b6_9, b7_9⟩ := box8 H9.out.2.2.2
      have c0_9 := H9.out.c0
      have c1_9 := H9.out.c1
      have f0_9 := H9.out.f0
      go_wp2_with fail
      refine (targets_any w0 _ g _ (opS x1 true s) x0 x1 true x3 x4 x5 A6 c6 x6 A7 c7 x7 0 H9.out.1 H9.out.2.1).mono ?_
      rintro e10 w10 ⟨rfl, hb10, hw10, hs10⟩
      have H10 := Lib.hid (H9.out.call HG.out hw10 hb10 hs10)
      clear b0_9 b1_9 b2_9 b3_9 b4_9 b5_9 b6_9 b7_9 c0_9 c1_9 f0_9
      clear hb10 hw10 hs10 H9
      obtain ⟨b0_10, b1_10, b2_10, b3_10, b4_10, b5_10, b6_10, b7_10⟩ := box8 H10.out.2.2.2
      have c0_10 := H10.out.c0
      have c1_10 := H10.out.c1
      have f0_10 := H10.out.f0
      go_wp2_with fail
      refine (signed_any w0 _ g _ (tgtS x7 0 (opS x1 true s)) x3 1 1 rfl (by omega) H10.out.1 H10.out.2.1 (by have := HL.out; simp only [opS, tgtS, sgnS, unsS, putS, Bool.false_eq_true, ↓reduceIte, List.length_append, List.length_cons, List.length_nil, bigB_length]; omega)).mono ?_
      rintro e11 w11 ⟨rfl, hb11, v11, hw11, hs11⟩
      have H11 := Lib.hid (H10.out.call HG.out hw11 hb11 hs11)
      clear b0_10 b1_10 b2_10 b3_10 b4_10 b5_10 b6_10 b7_10 c0_10 c1_10 f0_10
      clear hb11 hw11 hs11 H10
      obtain ⟨b0_11, b1_11, b2_11, b3_11, b4_11, b5_11, b6_11, b7_11⟩ := box8 H11.out.2.2.2
      have c0_11 := H11.out.c0
      have c1_11 := H11.out.c1
      have f0_11 := H11.out.f0
      go_wp2
      go_end0
      exact H11.out.post
def oneF3 (x0 x1 : Int) (x2 : Bool) (x3 x4 x5 : Int) (x6 x7 : List Int) (s : List Nat × Bool) : List Nat × Bool := sgnS x3 2 (tgtS x7 0 (opS x1 x2 s))
set_option maxHeartbeats 8000000 in
set_option maxRecDepth 100000 in
theorem one_f3 (w0 w : World) (g : Nat) (v : Value) (s : List Nat × Bool) (x0 x1 : Int) (x2 : Bool) (x3 x4 x5 : Int) (A6 : Option Addr) (c6 : Nat) (x6 : List Int) (A7 : Option Addr) (c7 : Nat) (x7 : List Int) (hx1 : 0 ≤ x1 ∧ x1 < 256) (hW : BW w0.heap.size w g 114 (ewC s.2) v s.1) (hB : Below w0.heap.size w0 w) (hl : s.1.length + 100 ≤ 140737488355328) :
    Calls Try.prog 79 #[.pointer (some ⟨g, 0, none⟩), .agg #[.int .i64 x0, .int .u8 x1, .bool x2, .int .i64 x3, .int .i64 x4, .int .i64 x5, .slice A6 x6.length c6, .slice A7 x7.length c7], .int .i64 3] w (EncPost w0 w g v (oneF3 x0 x1 x2 x3 x4 x5 x6 x7 s)) := by
  unfold oneF3
  have HX1 := Lib.hid hx1
  have HW := Lib.hid hW
  have HB := Lib.hid hB
  have HL := Lib.hid hl
  clear hx1 hW hB hl
  cases x2 with
  | false =>
    have H0 := Lib.hid (St.start (c := #[.int .i64 x0, .int .u8 x1, .bool false, .int .i64 x3, .int .i64 x4, .int .i64 x5, .slice A6 x6.length c6, .slice A7 x7.length c7]) HW.out HB.out)
    have HG := Lib.hid (show w.heap.size ≠ g by have := HW.out.lt; omega)
    obtain ⟨b0_0, b1_0, b2_0, b3_0, b4_0, b5_0, b6_0, b7_0⟩ := box8 H0.out.2.2.2
    have c0_0 := H0.out.c0
    have c1_0 := H0.out.c1
    have f0_0 := H0.out.f0
    go_enter Try.func79, Try.ntmps79
    go_wp2_with fail
    generalize w.alloc (.cells #[.int .i64 x0, .int .u8 x1, .bool false, .int .i64 x3, .int .i64 x4, .int .i64 x5, .slice A6 x6.length c6, .slice A7 x7.length c7] 82) = W0 at *
    have ca : ∀ o, (W0.alloc o).cell? ⟨g, 0, none⟩ = some _ := fun o => pw_cell_below (below_alloc (Below.refl _ _) o) c0_0
    have cb : ∀ o, (W0.alloc o).cell? ⟨w.heap.size, 1, none⟩ = some _ := fun o => pw_cell_below (below_alloc (Below.refl _ _) o) b1_0
    go_region_law (first | (refine elem_step (by rfl) (.tmp 22) (.tmp 25) 87 rfl Try.underlying87 w0.heap.size (H0.out.1.below (drewB _)).2.2 rfl x1 1 (by first | rfl | (go_simp; done) | (simp [World.alloc]; done)) (by have := HL.out; omega) (Nat.le_trans H0.out.2.1.size (drewB _).size) ?_ rfl; intro v9 w9 hm9 hg9 hat9; obtain ⟨A9, m9, c9, rfl⟩ := mrow_sl hm9; have k9 := ew_cell hg9 (H0.out.1.below (drewB _)); have k8 := ew_frozen hg9 (H0.out.1.below (drewB _))))
    all_goals
      have H9 := Lib.hid ((H0.out.quiet HG.out (drewB _)).byte HG.out (b := x1.toNat) (by have := HX1.out; omega) hm9 hg9 hat9)
      clear b0_0 b1_0 b2_0 b3_0 b4_0 b5_0 b6_0 b7_0 c0_0 c1_0 f0_0
      clear hm9 hg9 hat9 k9 k8 ca cb H0
      generalize w9.setCell ⟨g, 0, none⟩ _ = W9 at *
      obtain ⟨b0_9, b1_9, b2_9, b3_9, b4_9, b5_9, b6_9, b7_9⟩ := box8 H9.out.2.2.2
      have c0_9 := H9.out.c0
      have c1_9 := H9.out.c1
      have f0_9 := H9.out.f0
      go_wp2_with fail
      refine (targets_any w0 _ g _ (opS x1 false s) x0 x1 false x3 x4 x5 A6 c6 x6 A7 c7 x7 0 H9.out.1 H9.out.2.1).mono ?_
      rintro e10 w10 ⟨rfl, hb10, hw10, hs10⟩
      have H10 := Lib.hid (H9.out.call HG.out hw10 hb10 hs10)
      clear b0_9 b1_9 b2_9 b3_9 b4_9 b5_9 b6_9 b7_9 c0_9 c1_9 f0_9
      clear hb10 hw10 hs10 H9
      obtain ⟨b0_10, b1_10, b2_10, b3_10, b4_10, b5_10, b6_10, b7_10⟩ := box8 H10.out.2.2.2
      have c0_10 := H10.out.c0
      have c1_10 := H10.out.c1
      have f0_10 := H10.out.f0
      go_wp2_with fail
      refine (signed_any w0 _ g _ (tgtS x7 0 (opS x1 false s)) x3 2 2 rfl (by omega) H10.out.1 H10.out.2.1 (by have := HL.out; simp only [opS, tgtS, sgnS, unsS, putS, Bool.false_eq_true, ↓reduceIte, List.length_append, List.length_cons, List.length_nil, bigB_length]; omega)).mono ?_
      rintro e11 w11 ⟨rfl, hb11, v11, hw11, hs11⟩
      have H11 := Lib.hid (H10.out.call HG.out hw11 hb11 hs11)
      clear b0_10 b1_10 b2_10 b3_10 b4_10 b5_10 b6_10 b7_10 c0_10 c1_10 f0_10
      clear hb11 hw11 hs11 H10
      obtain ⟨b0_11, b1_11, b2_11, b3_11, b4_11, b5_11, b6_11, b7_11⟩ := box8 H11.out.2.2.2
      have c0_11 := H11.out.c0
      have c1_11 := H11.out.c1
      have f0_11 := H11.out.f0
      go_wp2
      go_end0
      exact H11.out.post
  | true =>
    have H0 := Lib.hid (St.start (c := #[.int .i64 x0, .int .u8 x1, .bool true, .int .i64 x3, .int .i64 x4, .int .i64 x5, .slice A6 x6.length c6, .slice A7 x7.length c7]) HW.out HB.out)
    have HG := Lib.hid (show w.heap.size ≠ g by have := HW.out.lt; omega)
    obtain ⟨b0_0, b1_0, b2_0, b3_0, b4_0, b5_0, b6_0, b7_0⟩ := box8 H0.out.2.2.2
    have c0_0 := H0.out.c0
    have c1_0 := H0.out.c1
    have f0_0 := H0.out.f0
    go_enter Try.func79, Try.ntmps79
    go_wp2_with (at_builtin; refine app_e rfl _ _ 87 rfl Try.underlying87 w0.heap.size H0.out.1.2.2 rfl 196 1 (by first | rfl | (go_simp; done) | (simp [World.alloc]; done)) (by have := HL.out; omega) H0.out.2.1.size ?_ rfl; intro v1 w1 hm1 hg1 hat1; obtain ⟨A1, m1, c1, rfl⟩ := mrow_sl hm1; have k0 := ew_cell hg1 H0.out.1; have k1 := ew_frozen hg1 H0.out.1)
    have H1 := Lib.hid (H0.out.byte HG.out (b := 196) rfl hm1 hg1 hat1)
    clear b0_0 b1_0 b2_0 b3_0 b4_0 b5_0 b6_0 b7_0 c0_0 c1_0 f0_0
    clear hm1 hg1 hat1 k0 k1 H0
    generalize w1.setCell ⟨g, 0, none⟩ _ = W1 at *
    obtain ⟨b0_1, b1_1, b2_1, b3_1, b4_1, b5_1, b6_1, b7_1⟩ := box8 H1.out.2.2.2
    have c0_1 := H1.out.c0
    have c1_1 := H1.out.c1
    have f0_1 := H1.out.f0
    have ca : ∀ o, (W1.alloc o).cell? ⟨g, 0, none⟩ = some _ := fun o => pw_cell_below (below_alloc (Below.refl _ _) o) c0_1
    have cb : ∀ o, (W1.alloc o).cell? ⟨w.heap.size, 1, none⟩ = some _ := fun o => pw_cell_below (below_alloc (Below.refl _ _) o) b1_1
    go_region_law (first | (refine elem_step (by rfl) (.tmp 22) (.tmp 25) 87 rfl Try.underlying87 w0.heap.size (H1.out.1.below (drewB _)).2.2 rfl x1 1 (by first | rfl | (go_simp; done) | (simp [World.alloc]; done)) (by have := HL.out; simp only [List.length_append, List.length_cons, List.length_nil]; omega) (Nat.le_trans H1.out.2.1.size (drewB _).size) ?_ rfl; intro v9 w9 hm9 hg9 hat9; obtain ⟨A9, m9, c9, rfl⟩ := mrow_sl hm9; have k9 := ew_cell hg9 (H1.out.1.below (drewB _)); have k8 := ew_frozen hg9 (H1.out.1.below (drewB _))))
    all_goals
      have H9 := Lib.hid ((H1.out.quiet HG.out (drewB _)).byte HG.out (b := x1.toNat) (by have := HX1.out; omega) hm9 hg9 hat9)
      clear b0_1 b1_1 b2_1 b3_1 b4_1 b5_1 b6_1 b7_1 c0_1 c1_1 f0_1
      clear hm9 hg9 hat9 k9 k8 ca cb H1
      generalize w9.setCell ⟨g, 0, none⟩ _ = W9 at *
      obtain ⟨b0_9, b1_9, b2_9, b3_9, b4_9, b5_9, b6_9, b7_9⟩ := box8 H9.out.2.2.2
      have c0_9 := H9.out.c0
      have c1_9 := H9.out.c1
      have f0_9 := H9.out.f0
      go_wp2_with fail
      refine (targets_any w0 _ g _ (opS x1 true s) x0 x1 true x3 x4 x5 A6 c6 x6 A7 c7 x7 0 H9.out.1 H9.out.2.1).mono ?_
      rintro e10 w10 ⟨rfl, hb10, hw10, hs10⟩
      have H10 := Lib.hid (H9.out.call HG.out hw10 hb10 hs10)
      clear b0_9 b1_9 b2_9 b3_9 b4_9 b5_9 b6_9 b7_9 c0_9 c1_9 f0_9
      clear hb10 hw10 hs10 H9
      obtain ⟨b0_10, b1_10, b2_10, b3_10, b4_10, b5_10, b6_10, b7_10⟩ := box8 H10.out.2.2.2
      have c0_10 := H10.out.c0
      have c1_10 := H10.out.c1
      have f0_10 := H10.out.f0
      go_wp2_with fail
      refine (signed_any w0 _ g _ (tgtS x7 0 (opS x1 true s)) x3 2 2 rfl (by omega) H10.out.1 H10.out.2.1 (by have := HL.out; simp only [opS, tgtS, sgnS, unsS, putS, Bool.false_eq_true, ↓reduceIte, List.length_append, List.length_cons, List.length_nil, bigB_length]; omega)).mono ?_
      rintro e11 w11 ⟨rfl, hb11, v11, hw11, hs11⟩
      have H11 := Lib.hid (H10.out.call HG.out hw11 hb11 hs11)
      clear b0_10 b1_10 b2_10 b3_10 b4_10 b5_10 b6_10 b7_10 c0_10 c1_10 f0_10
      clear hb11 hw11 hs11 H10
      obtain ⟨b0_11, b1_11, b2_11, b3_11, b4_11, b5_11, b6_11, b7_11⟩ := box8 H11.out.2.2.2
      have c0_11 := H11.out.c0
      have c1_11 := H11.out.c1
      have f0_11 := H11.out.f0
      go_wp2
      go_end0
      exact H11.out.post
def oneF4 (x0 x1 : Int) (x2 : Bool) (x3 x4 x5 : Int) (x6 x7 : List Int) (s : List Nat × Bool) : List Nat × Bool := unsS x3 1 (tgtS x7 0 (opS x1 x2 s))
set_option maxHeartbeats 8000000 in
set_option maxRecDepth 100000 in
theorem one_f4 (w0 w : World) (g : Nat) (v : Value) (s : List Nat × Bool) (x0 x1 : Int) (x2 : Bool) (x3 x4 x5 : Int) (A6 : Option Addr) (c6 : Nat) (x6 : List Int) (A7 : Option Addr) (c7 : Nat) (x7 : List Int) (hx1 : 0 ≤ x1 ∧ x1 < 256) (hW : BW w0.heap.size w g 114 (ewC s.2) v s.1) (hB : Below w0.heap.size w0 w) (hl : s.1.length + 100 ≤ 140737488355328) :
    Calls Try.prog 79 #[.pointer (some ⟨g, 0, none⟩), .agg #[.int .i64 x0, .int .u8 x1, .bool x2, .int .i64 x3, .int .i64 x4, .int .i64 x5, .slice A6 x6.length c6, .slice A7 x7.length c7], .int .i64 4] w (EncPost w0 w g v (oneF4 x0 x1 x2 x3 x4 x5 x6 x7 s)) := by
  unfold oneF4
  have HX1 := Lib.hid hx1
  have HW := Lib.hid hW
  have HB := Lib.hid hB
  have HL := Lib.hid hl
  clear hx1 hW hB hl
  cases x2 with
  | false =>
    have H0 := Lib.hid (St.start (c := #[.int .i64 x0, .int .u8 x1, .bool false, .int .i64 x3, .int .i64 x4, .int .i64 x5, .slice A6 x6.length c6, .slice A7 x7.length c7]) HW.out HB.out)
    have HG := Lib.hid (show w.heap.size ≠ g by have := HW.out.lt; omega)
    obtain ⟨b0_0, b1_0, b2_0, b3_0, b4_0, b5_0, b6_0, b7_0⟩ := box8 H0.out.2.2.2
    have c0_0 := H0.out.c0
    have c1_0 := H0.out.c1
    have f0_0 := H0.out.f0
    go_enter Try.func79, Try.ntmps79
    go_wp2_with fail
    generalize w.alloc (.cells #[.int .i64 x0, .int .u8 x1, .bool false, .int .i64 x3, .int .i64 x4, .int .i64 x5, .slice A6 x6.length c6, .slice A7 x7.length c7] 82) = W0 at *
    have ca : ∀ o, (W0.alloc o).cell? ⟨g, 0, none⟩ = some _ := fun o => pw_cell_below (below_alloc (Below.refl _ _) o) c0_0
    have cb : ∀ o, (W0.alloc o).cell? ⟨w.heap.size, 1, none⟩ = some _ := fun o => pw_cell_below (below_alloc (Below.refl _ _) o) b1_0
    go_region_law (first | (refine elem_step (by rfl) (.tmp 22) (.tmp 25) 87 rfl Try.underlying87 w0.heap.size (H0.out.1.below (drewB _)).2.2 rfl x1 1 (by first | rfl | (go_simp; done) | (simp [World.alloc]; done)) (by have := HL.out; omega) (Nat.le_trans H0.out.2.1.size (drewB _).size) ?_ rfl; intro v9 w9 hm9 hg9 hat9; obtain ⟨A9, m9, c9, rfl⟩ := mrow_sl hm9; have k9 := ew_cell hg9 (H0.out.1.below (drewB _)); have k8 := ew_frozen hg9 (H0.out.1.below (drewB _))))
    all_goals
      have H9 := Lib.hid ((H0.out.quiet HG.out (drewB _)).byte HG.out (b := x1.toNat) (by have := HX1.out; omega) hm9 hg9 hat9)
      clear b0_0 b1_0 b2_0 b3_0 b4_0 b5_0 b6_0 b7_0 c0_0 c1_0 f0_0
      clear hm9 hg9 hat9 k9 k8 ca cb H0
      generalize w9.setCell ⟨g, 0, none⟩ _ = W9 at *
      obtain ⟨b0_9, b1_9, b2_9, b3_9, b4_9, b5_9, b6_9, b7_9⟩ := box8 H9.out.2.2.2
      have c0_9 := H9.out.c0
      have c1_9 := H9.out.c1
      have f0_9 := H9.out.f0
      go_wp2_with fail
      refine (targets_any w0 _ g _ (opS x1 false s) x0 x1 false x3 x4 x5 A6 c6 x6 A7 c7 x7 0 H9.out.1 H9.out.2.1).mono ?_
      rintro e10 w10 ⟨rfl, hb10, hw10, hs10⟩
      have H10 := Lib.hid (H9.out.call HG.out hw10 hb10 hs10)
      clear b0_9 b1_9 b2_9 b3_9 b4_9 b5_9 b6_9 b7_9 c0_9 c1_9 f0_9
      clear hb10 hw10 hs10 H9
      obtain ⟨b0_10, b1_10, b2_10, b3_10, b4_10, b5_10, b6_10, b7_10⟩ := box8 H10.out.2.2.2
      have c0_10 := H10.out.c0
      have c1_10 := H10.out.c1
      have f0_10 := H10.out.f0
      go_wp2_with fail
      refine (unsigned_any w0 _ g _ (tgtS x7 0 (opS x1 false s)) x3 1 1 rfl (by omega) H10.out.1 H10.out.2.1 (by have := HL.out; simp only [opS, tgtS, sgnS, unsS, putS, Bool.false_eq_true, ↓reduceIte, List.length_append, List.length_cons, List.length_nil, bigB_length]; omega)).mono ?_
      rintro e11 w11 ⟨rfl, hb11, v11, hw11, hs11⟩
      have H11 := Lib.hid (H10.out.call HG.out hw11 hb11 hs11)
      clear b0_10 b1_10 b2_10 b3_10 b4_10 b5_10 b6_10 b7_10 c0_10 c1_10 f0_10
      clear hb11 hw11 hs11 H10
      obtain ⟨b0_11, b1_11, b2_11, b3_11, b4_11, b5_11, b6_11, b7_11⟩ := box8 H11.out.2.2.2
      have c0_11 := H11.out.c0
      have c1_11 := H11.out.c1
      have f0_11 := H11.out.f0
      go_wp2
      go_end0
      exact H11.out.post
  | true =>
    have H0 := Lib.hid (St.start (c := #[.int .i64 x0, .int .u8 x1, .bool true, .int .i64 x3, .int .i64 x4, .int .i64 x5, .slice A6 x6.length c6, .slice A7 x7.length c7]) HW.out HB.out)
    have HG := Lib.hid (show w.heap.size ≠ g by have := HW.out.lt; omega)
    obtain ⟨b0_0, b1_0, b2_0, b3_0, b4_0, b5_0, b6_0, b7_0⟩ := box8 H0.out.2.2.2
    have c0_0 := H0.out.c0
    have c1_0 := H0.out.c1
    have f0_0 := H0.out.f0
    go_enter Try.func79, Try.ntmps79
    go_wp2_with (at_builtin; refine app_e rfl _ _ 87 rfl Try.underlying87 w0.heap.size H0.out.1.2.2 rfl 196 1 (by first | rfl | (go_simp; done) | (simp [World.alloc]; done)) (by have := HL.out; omega) H0.out.2.1.size ?_ rfl; intro v1 w1 hm1 hg1 hat1; obtain ⟨A1, m1, c1, rfl⟩ := mrow_sl hm1; have k0 := ew_cell hg1 H0.out.1; have k1 := ew_frozen hg1 H0.out.1)
    have H1 := Lib.hid (H0.out.byte HG.out (b := 196) rfl hm1 hg1 hat1)
    clear b0_0 b1_0 b2_0 b3_0 b4_0 b5_0 b6_0 b7_0 c0_0 c1_0 f0_0
    clear hm1 hg1 hat1 k0 k1 H0
    generalize w1.setCell ⟨g, 0, none⟩ _ = W1 at *
    obtain ⟨b0_1, b1_1, b2_1, b3_1, b4_1, b5_1, b6_1, b7_1⟩ := box8 H1.out.2.2.2
    have c0_1 := H1.out.c0
    have c1_1 := H1.out.c1
    have f0_1 := H1.out.f0
    have ca : ∀ o, (W1.alloc o).cell? ⟨g, 0, none⟩ = some _ := fun o => pw_cell_below (below_alloc (Below.refl _ _) o) c0_1
    have cb : ∀ o, (W1.alloc o).cell? ⟨w.heap.size, 1, none⟩ = some _ := fun o => pw_cell_below (below_alloc (Below.refl _ _) o) b1_1
    go_region_law (first | (refine elem_step (by rfl) (.tmp 22) (.tmp 25) 87 rfl Try.underlying87 w0.heap.size (H1.out.1.below (drewB _)).2.2 rfl x1 1 (by first | rfl | (go_simp; done) | (simp [World.alloc]; done)) (by have := HL.out; simp only [List.length_append, List.length_cons, List.length_nil]; omega) (Nat.le_trans H1.out.2.1.size (drewB _).size) ?_ rfl; intro v9 w9 hm9 hg9 hat9; obtain ⟨A9, m9, c9, rfl⟩ := mrow_sl hm9; have k9 := ew_cell hg9 (H1.out.1.below (drewB _)); have k8 := ew_frozen hg9 (H1.out.1.below (drewB _))))
    all_goals
      have H9 := Lib.hid ((H1.out.quiet HG.out (drewB _)).byte HG.out (b := x1.toNat) (by have := HX1.out; omega) hm9 hg9 hat9)
      clear b0_1 b1_1 b2_1 b3_1 b4_1 b5_1 b6_1 b7_1 c0_1 c1_1 f0_1
      clear hm9 hg9 hat9 k9 k8 ca cb H1
      generalize w9.setCell ⟨g, 0, none⟩ _ = W9 at *
      obtain ⟨b0_9, b1_9, b2_9, b3_9, b4_9, b5_9, b6_9, b7_9⟩ := box8 H9.out.2.2.2
      have c0_9 := H9.out.c0
      have c1_9 := H9.out.c1
      have f0_9 := H9.out.f0
      go_wp2_with fail
      refine (targets_any w0 _ g _ (opS x1 true s) x0 x1 true x3 x4 x5 A6 c6 x6 A7 c7 x7 0 H9.out.1 H9.out.2.1).mono ?_
      rintro e10 w10 ⟨rfl, hb10, hw10, hs10⟩
      have H10 := Lib.hid (H9.out.call HG.out hw10 hb10 hs10)
      clear b0_9 b1_9 b2_9 b3_9 b4_9 b5_9 b6_9 b7_9 c0_9 c1_9 f0_9
      clear hb10 hw10 hs10 H9
      obtain ⟨b0_10, b1_10, b2_10, b3_10, b4_10, b5_10, b6_10, b7_10⟩ := box8 H10.out.2.2.2
      have c0_10 := H10.out.c0
      have c1_10 := H10.out.c1
      have f0_10 := H10.out.f0
      go_wp2_with fail
      refine (unsigned_any w0 _ g _ (tgtS x7 0 (opS x1 true s)) x3 1 1 rfl (by omega) H10.out.1 H10.out.2.1 (by have := HL.out; simp only [opS, tgtS, sgnS, unsS, putS, Bool.false_eq_true, ↓reduceIte, List.length_append, List.length_cons, List.length_nil, bigB_length]; omega)).mono ?_
      rintro e11 w11 ⟨rfl, hb11, v11, hw11, hs11⟩
      have H11 := Lib.hid (H10.out.call HG.out hw11 hb11 hs11)
      clear b0_10 b1_10 b2_10 b3_10 b4_10 b5_10 b6_10 b7_10 c0_10 c1_10 f0_10
      clear hb11 hw11 hs11 H10
      obtain ⟨b0_11, b1_11, b2_11, b3_11, b4_11, b5_11, b6_11, b7_11⟩ := box8 H11.out.2.2.2
      have c0_11 := H11.out.c0
      have c1_11 := H11.out.c1
      have f0_11 := H11.out.f0
      go_wp2
      go_end0
      exact H11.out.post
def oneF5 (x0 x1 : Int) (x2 : Bool) (x3 x4 x5 : Int) (x6 x7 : List Int) (s : List Nat × Bool) : List Nat × Bool := unsS x3 2 (tgtS x7 0 (opS x1 x2 s))
set_option maxHeartbeats 8000000 in
set_option maxRecDepth 100000 in
theorem one_f5 (w0 w : World) (g : Nat) (v : Value) (s : List Nat × Bool) (x0 x1 : Int) (x2 : Bool) (x3 x4 x5 : Int) (A6 : Option Addr) (c6 : Nat) (x6 : List Int) (A7 : Option Addr) (c7 : Nat) (x7 : List Int) (hx1 : 0 ≤ x1 ∧ x1 < 256) (hW : BW w0.heap.size w g 114 (ewC s.2) v s.1) (hB : Below w0.heap.size w0 w) (hl : s.1.length + 100 ≤ 140737488355328) :
    Calls Try.prog 79 #[.pointer (some ⟨g, 0, none⟩), .agg #[.int .i64 x0, .int .u8 x1, .bool x2, .int .i64 x3, .int .i64 x4, .int .i64 x5, .slice A6 x6.length c6, .slice A7 x7.length c7], .int .i64 5] w (EncPost w0 w g v (oneF5 x0 x1 x2 x3 x4 x5 x6 x7 s)) := by
  unfold oneF5
  have HX1 := Lib.hid hx1
  have HW := Lib.hid hW
  have HB := Lib.hid hB
  have HL := Lib.hid hl
  clear hx1 hW hB hl
  cases x2 with
  | false =>
    have H0 := Lib.hid (St.start (c := #[.int .i64 x0, .int .u8 x1, .bool false, .int .i64 x3, .int .i64 x4, .int .i64 x5, .slice A6 x6.length c6, .slice A7 x7.length c7]) HW.out HB.out)
    have HG := Lib.hid (show w.heap.size ≠ g by have := HW.out.lt; omega)
    obtain ⟨b0_0, b1_0, b2_0, b3_0, b4_0, b5_0, b6_0, b7_0⟩ := box8 H0.out.2.2.2
    have c0_0 := H0.out.c0
    have c1_0 := H0.out.c1
    have f0_0 := H0.out.f0
    go_enter Try.func79, Try.ntmps79
    go_wp2_with fail
    generalize w.alloc (.cells #[.int .i64 x0, .int .u8 x1, .bool false, .int .i64 x3, .int .i64 x4, .int .i64 x5, .slice A6 x6.length c6, .slice A7 x7.length c7] 82) = W0 at *
    have ca : ∀ o, (W0.alloc o).cell? ⟨g, 0, none⟩ = some _ := fun o => pw_cell_below (below_alloc (Below.refl _ _) o) c0_0
    have cb : ∀ o, (W0.alloc o).cell? ⟨w.heap.size, 1, none⟩ = some _ := fun o => pw_cell_below (below_alloc (Below.refl _ _) o) b1_0
    go_region_law (first | (refine elem_step (by rfl) (.tmp 22) (.tmp 25) 87 rfl Try.underlying87 w0.heap.size (H0.out.1.below (drewB _)).2.2 rfl x1 1 (by first | rfl | (go_simp; done) | (simp [World.alloc]; done)) (by have := HL.out; omega) (Nat.le_trans H0.out.2.1.size (drewB _).size) ?_ rfl; intro v9 w9 hm9 hg9 hat9; obtain ⟨A9, m9, c9, rfl⟩ := mrow_sl hm9; have k9 := ew_cell hg9 (H0.out.1.below (drewB _)); have k8 := ew_frozen hg9 (H0.out.1.below (drewB _))))
    all_goals
      have H9 := Lib.hid ((H0.out.quiet HG.out (drewB _)).byte HG.out (b := x1.toNat) (by have := HX1.out; omega) hm9 hg9 hat9)
      clear b0_0 b1_0 b2_0 b3_0 b4_0 b5_0 b6_0 b7_0 c0_0 c1_0 f0_0
      clear hm9 hg9 hat9 k9 k8 ca cb H0
      generalize w9.setCell ⟨g, 0, none⟩ _ = W9 at *
      obtain ⟨b0_9, b1_9, b2_9, b3_9, b4_9, b5_9, b6_9, b7_9⟩ := box8 H9.out.2.2.2
      have c0_9 := H9.out.c0
      have c1_9 := H9.out.c1
      have f0_9 := H9.out.f0
      go_wp2_with fail
      refine (targets_any w0 _ g _ (opS x1 false s) x0 x1 false x3 x4 x5 A6 c6 x6 A7 c7 x7 0 H9.out.1 H9.out.2.1).mono ?_
      rintro e10 w10 ⟨rfl, hb10, hw10, hs10⟩
      have H10 := Lib.hid (H9.out.call HG.out hw10 hb10 hs10)
      clear b0_9 b1_9 b2_9 b3_9 b4_9 b5_9 b6_9 b7_9 c0_9 c1_9 f0_9
      clear hb10 hw10 hs10 H9
      obtain ⟨b0_10, b1_10, b2_10, b3_10, b4_10, b5_10, b6_10, b7_10⟩ := box8 H10.out.2.2.2
      have c0_10 := H10.out.c0
      have c1_10 := H10.out.c1
      have f0_10 := H10.out.f0
      go_wp2_with fail
      refine (unsigned_any w0 _ g _ (tgtS x7 0 (opS x1 false s)) x3 2 2 rfl (by omega) H10.out.1 H10.out.2.1 (by have := HL.out; simp only [opS, tgtS, sgnS, unsS, putS, Bool.false_eq_true, ↓reduceIte, List.length_append, List.length_cons, List.length_nil, bigB_length]; omega)).mono ?_
      rintro e11 w11 ⟨rfl, hb11, v11, hw11, hs11⟩
      have H11 := Lib.hid (H10.out.call HG.out hw11 hb11 hs11)
      clear b0_10 b1_10 b2_10 b3_10 b4_10 b5_10 b6_10 b7_10 c0_10 c1_10 f0_10
      clear hb11 hw11 hs11 H10
      obtain ⟨b0_11, b1_11, b2_11, b3_11, b4_11, b5_11, b6_11, b7_11⟩ := box8 H11.out.2.2.2
      have c0_11 := H11.out.c0
      have c1_11 := H11.out.c1
      have f0_11 := H11.out.f0
      go_wp2
      go_end0
      exact H11.out.post
  | true =>
    have H0 := Lib.hid (St.start (c := #[.int .i64 x0, .int .u8 x1, .bool true, .int .i64 x3, .int .i64 x4, .int .i64 x5, .slice A6 x6.length c6, .slice A7 x7.length c7]) HW.out HB.out)
    have HG := Lib.hid (show w.heap.size ≠ g by have := HW.out.lt; omega)
    obtain ⟨b0_0, b1_0, b2_0, b3_0, b4_0, b5_0, b6_0, b7_0⟩ := box8 H0.out.2.2.2
    have c0_0 := H0.out.c0
    have c1_0 := H0.out.c1
    have f0_0 := H0.out.f0
    go_enter Try.func79, Try.ntmps79
    go_wp2_with (at_builtin; refine app_e rfl _ _ 87 rfl Try.underlying87 w0.heap.size H0.out.1.2.2 rfl 196 1 (by first | rfl | (go_simp; done) | (simp [World.alloc]; done)) (by have := HL.out; omega) H0.out.2.1.size ?_ rfl; intro v1 w1 hm1 hg1 hat1; obtain ⟨A1, m1, c1, rfl⟩ := mrow_sl hm1; have k0 := ew_cell hg1 H0.out.1; have k1 := ew_frozen hg1 H0.out.1)
    have H1 := Lib.hid (H0.out.byte HG.out (b := 196) rfl hm1 hg1 hat1)
    clear b0_0 b1_0 b2_0 b3_0 b4_0 b5_0 b6_0 b7_0 c0_0 c1_0 f0_0
    clear hm1 hg1 hat1 k0 k1 H0
    generalize w1.setCell ⟨g, 0, none⟩ _ = W1 at *
    obtain ⟨b0_1, b1_1, b2_1, b3_1, b4_1, b5_1, b6_1, b7_1⟩ := box8 H1.out.2.2.2
    have c0_1 := H1.out.c0
    have c1_1 := H1.out.c1
    have f0_1 := H1.out.f0
    have ca : ∀ o, (W1.alloc o).cell? ⟨g, 0, none⟩ = some _ := fun o => pw_cell_below (below_alloc (Below.refl _ _) o) c0_1
    have cb : ∀ o, (W1.alloc o).cell? ⟨w.heap.size, 1, none⟩ = some _ := fun o => pw_cell_below (below_alloc (Below.refl _ _) o) b1_1
    go_region_law (first | (refine elem_step (by rfl) (.tmp 22) (.tmp 25) 87 rfl Try.underlying87 w0.heap.size (H1.out.1.below (drewB _)).2.2 rfl x1 1 (by first | rfl | (go_simp; done) | (simp [World.alloc]; done)) (by have := HL.out; simp only [List.length_append, List.length_cons, List.length_nil]; omega) (Nat.le_trans H1.out.2.1.size (drewB _).size) ?_ rfl; intro v9 w9 hm9 hg9 hat9; obtain ⟨A9, m9, c9, rfl⟩ := mrow_sl hm9; have k9 := ew_cell hg9 (H1.out.1.below (drewB _)); have k8 := ew_frozen hg9 (H1.out.1.below (drewB _))))
    all_goals
      have H9 := Lib.hid ((H1.out.quiet HG.out (drewB _)).byte HG.out (b := x1.toNat) (by have := HX1.out; omega) hm9 hg9 hat9)
      clear b0_1 b1_1 b2_1 b3_1 b4_1 b5_1 b6_1 b7_1 c0_1 c1_1 f0_1
      clear hm9 hg9 hat9 k9 k8 ca cb H1
      generalize w9.setCell ⟨g, 0, none⟩ _ = W9 at *
      obtain ⟨b0_9, b1_9, b2_9, b3_9, b4_9, b5_9, b6_9, b7_9⟩ := box8 H9.out.2.2.2
      have c0_9 := H9.out.c0
      have c1_9 := H9.out.c1
      have f0_9 := H9.out.f0
      go_wp2_with fail
      refine (targets_any w0 _ g _ (opS x1 true s) x0 x1 true x3 x4 x5 A6 c6 x6 A7 c7 x7 0 H9.out.1 H9.out.2.1).mono ?_
      rintro e10 w10 ⟨rfl, hb10, hw10, hs10⟩
      have H10 := Lib.hid (H9.out.call HG.out hw10 hb10 hs10)
      clear b0_9 b1_9 b2_9 b3_9 b4_9 b5_9 b6_9 b7_9 c0_9 c1_9 f0_9
      clear hb10 hw10 hs10 H9
      obtain ⟨b0_10, b1_10, b2_10, b3_10, b4_10, b5_10, b6_10, b7_10⟩ := box8 H10.out.2.2.2
      have c0_10 := H10.out.c0
      have c1_10 := H10.out.c1
      have f0_10 := H10.out.f0
      go_wp2_with fail
      refine (unsigned_any w0 _ g _ (tgtS x7 0 (opS x1 true s)) x3 2 2 rfl (by omega) H10.out.1 H10.out.2.1 (by have := HL.out; simp only [opS, tgtS, sgnS, unsS, putS, Bool.false_eq_true, ↓reduceIte, List.length_append, List.length_cons, List.length_nil, bigB_length]; omega)).mono ?_
      rintro e11 w11 ⟨rfl, hb11, v11, hw11, hs11⟩
      have H11 := Lib.hid (H10.out.call HG.out hw11 hb11 hs11)
      clear b0_10 b1_10 b2_10 b3_10 b4_10 b5_10 b6_10 b7_10 c0_10 c1_10 f0_10
      clear hb11 hw11 hs11 H10
      obtain ⟨b0_11, b1_11, b2_11, b3_11, b4_11, b5_11, b6_11, b7_11⟩ := box8 H11.out.2.2.2
      have c0_11 := H11.out.c0
      have c1_11 := H11.out.c1
      have f0_11 := H11.out.f0
      go_wp2
      go_end0
      exact H11.out.post
end Go.Proofs.Ytfnjbmpolggdeaa.CW
end
section
namespace Go.Proofs.Ytfnjbmpolggdeaa.CW
open Go.RowKit Go.Lib Go.Proofs.YtfnjbmpolggdeaaW.PrintWords Go.Proofs.YtfnjbmpolggdeaaW.PrintLast Go.Proofs.YtfnjbmpolggdeaaW.PrintMore
set_option linter.unusedVariables false
set_option linter.unusedSimpArgs false
attribute [local go_sem] max2_int min2_int max_two min_two max_three min_three max_four min_four
def oneF6 (x0 x1 : Int) (x2 : Bool) (x3 x4 x5 : Int) (x6 x7 : List Int) (s : List Nat × Bool) : List Nat × Bool := unsS x3 (szI x2) (tgtS x7 0 (opS x1 x2 s))
set_option maxHeartbeats 8000000 in
set_option maxRecDepth 100000 in
theorem one_f6 (w0 w : World) (g : Nat) (v : Value) (s : List Nat × Bool) (x0 x1 : Int) (x2 : Bool) (x3 x4 x5 : Int) (A6 : Option Addr) (c6 : Nat) (x6 : List Int) (A7 : Option Addr) (c7 : Nat) (x7 : List Int) (hx1 : 0 ≤ x1 ∧ x1 < 256) (hW : BW w0.heap.size w g 114 (ewC s.2) v s.1) (hB : Below w0.heap.size w0 w) (hl : s.1.length + 100 ≤ 140737488355328) :
    Calls Try.prog 79 #[.pointer (some ⟨g, 0, none⟩), .agg #[.int .i64 x0, .int .u8 x1, .bool x2, .int .i64 x3, .int .i64 x4, .int .i64 x5, .slice A6 x6.length c6, .slice A7 x7.length c7], .int .i64 6] w (EncPost w0 w g v (oneF6 x0 x1 x2 x3 x4 x5 x6 x7 s)) := by
  unfold oneF6
  have HX1 := Lib.hid hx1
  have HW := Lib.hid hW
  have HB := Lib.hid hB
  have HL := Lib.hid hl
  clear hx1 hW hB hl
  cases x2 with
  | false =>
    have H0 := Lib.hid (St.start (c := #[.int .i64 x0, .int .u8 x1, .bool false, .int .i64 x3, .int .i64 x4, .int .i64 x5, .slice A6 x6.length c6, .slice A7 x7.length c7]) HW.out HB.out)
    have HG := Lib.hid (show w.heap.size ≠ g by have := HW.out.lt; omega)
    obtain ⟨b0_0, b1_0, b2_0, b3_0, b4_0, b5_0, b6_0, b7_0⟩ := box8 H0.out.2.2.2
    have c0_0 := H0.out.c0
    have c1_0 := H0.out.c1
    have f0_0 := H0.out.f0
    go_enter Try.func79, Try.ntmps79
    go_wp2_with fail
    generalize w.alloc (.cells #[.int .i64 x0, .int .u8 x1, .bool false, .int .i64 x3, .int .i64 x4, .int .i64 x5, .slice A6 x6.length c6, .slice A7 x7.length c7] 82) = W0 at *
    have ca : ∀ o, (W0.alloc o).cell? ⟨g, 0, none⟩ = some _ := fun o => pw_cell_below (below_alloc (Below.refl _ _) o) c0_0
    have cb : ∀ o, (W0.alloc o).cell? ⟨w.heap.size, 1, none⟩ = some _ := fun o => pw_cell_below (below_alloc (Below.refl _ _) o) b1_0
    go_region_law (first | (refine elem_step (by rfl) (.tmp 22) (.tmp 25) 87 rfl Try.underlying87 w0.heap.size (H0.out.1.below (drewB _)).2.2 rfl x1 1 (by first | rfl | (go_simp; done) | (simp [World.alloc]; done)) (by have := HL.out; omega) (Nat.le_trans H0.out.2.1.size (drewB _).size) ?_ rfl; intro v9 w9 hm9 hg9 hat9; obtain ⟨A9, m9, c9, rfl⟩ := mrow_sl hm9; have k9 := ew_cell hg9 (H0.out.1.below (drewB _)); have k8 := ew_frozen hg9 (H0.out.1.below (drewB _))))
    all_goals
      have H9 := Lib.hid ((H0.out.quiet HG.out (drewB _)).byte HG.out (b := x1.toNat) (by have := HX1.out; omega) hm9 hg9 hat9)
      clear b0_0 b1_0 b2_0 b3_0 b4_0 b5_0 b6_0 b7_0 c0_0 c1_0 f0_0
      clear hm9 hg9 hat9 k9 k8 ca cb H0
      generalize w9.setCell ⟨g, 0, none⟩ _ = W9 at *
      obtain ⟨b0_9, b1_9, b2_9, b3_9, b4_9, b5_9, b6_9, b7_9⟩ := box8 H9.out.2.2.2
      have c0_9 := H9.out.c0
      have c1_9 := H9.out.c1
      have f0_9 := H9.out.f0
      go_wp2_with fail
      refine (targets_any w0 _ g _ (opS x1 false s) x0 x1 false x3 x4 x5 A6 c6 x6 A7 c7 x7 0 H9.out.1 H9.out.2.1).mono ?_
      rintro e10 w10 ⟨rfl, hb10, hw10, hs10⟩
      have H10 := Lib.hid (H9.out.call HG.out hw10 hb10 hs10)
      clear b0_9 b1_9 b2_9 b3_9 b4_9 b5_9 b6_9 b7_9 c0_9 c1_9 f0_9
      clear hb10 hw10 hs10 H9
      obtain ⟨b0_10, b1_10, b2_10, b3_10, b4_10, b5_10, b6_10, b7_10⟩ := box8 H10.out.2.2.2
      have c0_10 := H10.out.c0
      have c1_10 := H10.out.c1
      have f0_10 := H10.out.f0
      go_wp2_with fail
      refine (unsigned_any w0 _ g _ (tgtS x7 0 (opS x1 false s)) x3 1 1 rfl (by omega) H10.out.1 H10.out.2.1 (by have := HL.out; simp only [opS, tgtS, sgnS, unsS, putS, Bool.false_eq_true, ↓reduceIte, List.length_append, List.length_cons, List.length_nil, bigB_length]; omega)).mono ?_
      rintro e11 w11 ⟨rfl, hb11, v11, hw11, hs11⟩
      have H11 := Lib.hid (H10.out.call HG.out hw11 hb11 hs11)
      clear b0_10 b1_10 b2_10 b3_10 b4_10 b5_10 b6_10 b7_10 c0_10 c1_10 f0_10
      clear hb11 hw11 hs11 H10
      obtain ⟨b0_11, b1_11, b2_11, b3_11, b4_11, b5_11, b6_11, b7_11⟩ := box8 H11.out.2.2.2
      have c0_11 := H11.out.c0
      have c1_11 := H11.out.c1
      have f0_11 := H11.out.f0
      go_wp2
      go_end0
      exact H11.out.post
  | true =>
    have H0 := Lib.hid (St.start (c := #[.int .i64 x0, .int .u8 x1, .bool true, .int .i64 x3, .int .i64 x4, .int .i64 x5, .slice A6 x6.length c6, .slice A7 x7.length c7]) HW.out HB.out)
    have HG := Lib.hid (show w.heap.size ≠ g by have := HW.out.lt; omega)
    obtain ⟨b0_0, b1_0, b2_0, b3_0, b4_0, b5_0, b6_0, b7_0⟩ := box8 H0.out.2.2.2
    have c0_0 := H0.out.c0
    have c1_0 := H0.out.c1
    have f0_0 := H0.out.f0
    go_enter Try.func79, Try.ntmps79
    go_wp2_with (at_builtin; refine app_e rfl _ _ 87 rfl Try.underlying87 w0.heap.size H0.out.1.2.2 rfl 196 1 (by first | rfl | (go_simp; done) | (simp [World.alloc]; done)) (by have := HL.out; omega) H0.out.2.1.size ?_ rfl; intro v1 w1 hm1 hg1 hat1; obtain ⟨A1, m1, c1, rfl⟩ := mrow_sl hm1; have k0 := ew_cell hg1 H0.out.1; have k1 := ew_frozen hg1 H0.out.1)
    have H1 := Lib.hid (H0.out.byte HG.out (b := 196) rfl hm1 hg1 hat1)
    clear b0_0 b1_0 b2_0 b3_0 b4_0 b5_0 b6_0 b7_0 c0_0 c1_0 f0_0
    clear hm1 hg1 hat1 k0 k1 H0
    generalize w1.setCell ⟨g, 0, none⟩ _ = W1 at *
    obtain ⟨b0_1, b1_1, b2_1, b3_1, b4_1, b5_1, b6_1, b7_1⟩ := box8 H1.out.2.2.2
    have c0_1 := H1.out.c0
    have c1_1 := H1.out.c1
    have f0_1 := H1.out.f0
    have ca : ∀ o, (W1.alloc o).cell? ⟨g, 0, none⟩ = some _ := fun o => pw_cell_below (below_alloc (Below.refl _ _) o) c0_1
    have cb : ∀ o, (W1.alloc o).cell? ⟨w.heap.size, 1, none⟩ = some _ := fun o => pw_cell_below (below_alloc (Below.refl _ _) o) b1_1
    go_region_law (first | (refine elem_step (by rfl) (.tmp 22) (.tmp 25) 87 rfl Try.underlying87 w0.heap.size (H1.out.1.below (drewB _)).2.2 rfl x1 1 (by first | rfl | (go_simp; done) | (simp [World.alloc]; done)) (by have := HL.out; simp only [List.length_append, List.length_cons, List.length_nil]; omega) (Nat.le_trans H1.out.2.1.size (drewB _).size) ?_ rfl; intro v9 w9 hm9 hg9 hat9; obtain ⟨A9, m9, c9, rfl⟩ := mrow_sl hm9; have k9 := ew_cell hg9 (H1.out.1.below (drewB _)); have k8 := ew_frozen hg9 (H1.out.1.below (drewB _))))
    all_goals
      have H9 := Lib.hid ((H1.out.quiet HG.out (drewB _)).byte HG.out (b := x1.toNat) (by have := HX1.out; omega) hm9 hg9 hat9)
      clear b0_1 b1_1 b2_1 b3_1 b4_1 b5_1 b6_1 b7_1 c0_1 c1_1 f0_1
      clear hm9 hg9 hat9 k9 k8 ca cb H1
      generalize w9.setCell ⟨g, 0, none⟩ _ = W9 at *
      obtain ⟨b0_9, b1_9, b2_9, b3_9, b4_9, b5_9, b6_9, b7_9⟩ := box8 H9.out.2.2.2
      have c0_9 := H9.out.c0
      have c1_9 := H9.out.c1
      have f0_9 := H9.out.f0
      go_wp2_with fail
      refine (targets_any w0 _ g _ (opS x1 true s) x0 x1 true x3 x4 x5 A6 c6 x6 A7 c7 x7 0 H9.out.1 H9.out.2.1).mono ?_
      rintro e10 w10 ⟨rfl, hb10, hw10, hs10⟩
      have H10 := Lib.hid (H9.out.call HG.out hw10 hb10 hs10)
      clear b0_9 b1_9 b2_9 b3_9 b4_9 b5_9 b6_9 b7_9 c0_9 c1_9 f0_9
      clear hb10 hw10 hs10 H9
      obtain ⟨b0_10, b1_10, b2_10, b3_10, b4_10, b5_10, b6_10, b7_10⟩ := box8 H10.out.2.2.2
      have c0_10 := H10.out.c0
      have c1_10 := H10.out.c1
      have f0_10 := H10.out.f0
      go_wp2_with fail
      refine (unsigned_any w0 _ g _ (tgtS x7 0 (opS x1 true s)) x3 2 2 rfl (by omega) H10.out.1 H10.out.2.1 (by have := HL.out; simp only [opS, tgtS, sgnS, unsS, putS, Bool.false_eq_true, ↓reduceIte, List.length_append, List.length_cons, List.length_nil, bigB_length]; omega)).mono ?_
      rintro e11 w11 ⟨rfl, hb11, v11, hw11, hs11⟩
      have H11 := Lib.hid (H10.out.call HG.out hw11 hb11 hs11)
      clear b0_10 b1_10 b2_10 b3_10 b4_10 b5_10 b6_10 b7_10 c0_10 c1_10 f0_10
      clear hb11 hw11 hs11 H10
      obtain ⟨b0_11, b1_11, b2_11, b3_11, b4_11, b5_11, b6_11, b7_11⟩ := box8 H11.out.2.2.2
      have c0_11 := H11.out.c0
      have c1_11 := H11.out.c1
      have f0_11 := H11.out.f0
      go_wp2
      go_end0
      exact H11.out.post
def oneF7 (x0 x1 : Int) (x2 : Bool) (x3 x4 x5 : Int) (x6 x7 : List Int) (s : List Nat × Bool) : List Nat × Bool := sgnS x4 (szI x2) (unsS x3 (szI x2) (tgtS x7 0 (opS x1 x2 s)))
set_option maxHeartbeats 8000000 in
set_option maxRecDepth 100000 in
theorem one_f7 (w0 w : World) (g : Nat) (v : Value) (s : List Nat × Bool) (x0 x1 : Int) (x2 : Bool) (x3 x4 x5 : Int) (A6 : Option Addr) (c6 : Nat) (x6 : List Int) (A7 : Option Addr) (c7 : Nat) (x7 : List Int) (hx1 : 0 ≤ x1 ∧ x1 < 256) (hW : BW w0.heap.size w g 114 (ewC s.2) v s.1) (hB : Below w0.heap.size w0 w) (hl : s.1.length + 100 ≤ 140737488355328) :
    Calls Try.prog 79 #[.pointer (some ⟨g, 0, none⟩), .agg #[.int .i64 x0, .int .u8 x1, .bool x2, .int .i64 x3, .int .i64 x4, .int .i64 x5, .slice A6 x6.length c6, .slice A7 x7.length c7], .int .i64 7] w (EncPost w0 w g v (oneF7 x0 x1 x2 x3 x4 x5 x6 x7 s)) := by
  unfold oneF7
  have HX1 := Lib.hid hx1
  have HW := Lib.hid hW
  have HB := Lib.hid hB
  have HL := Lib.hid hl
  clear hx1 hW hB hl
  cases x2 with
  | false =>
    have H0 := Lib.hid (St.start (c := #[.int .i64 x0, .int .u8 x1, .bool false, .int .i64 x3, .int .i64 x4, .int .i64 x5, .slice A6 x6.length c6, .slice A7 x7.length c7]) HW.out HB.out)
    have HG := Lib.hid (show w.heap.size ≠ g by have := HW.out.lt; omega)
    obtain ⟨b0_0, b1_0, b2_0, b3_0, b4_0, b5_0, b6_0, b7_0⟩ := box8 H0.out.2.2.2
    have c0_0 := H0.out.c0
    have c1_0 := H0.out.c1
    have f0_0 := H0.out.f0
    go_enter Try.func79, Try.ntmps79
    go_wp2_with fail
    generalize w.alloc (.cells #[.int .i64 x0, .int .u8 x1, .bool false, .int .i64 x3, .int .i64 x4, .int .i64 x5, .slice A6 x6.length c6, .slice A7 x7.length c7] 82) = W0 at *
    have ca : ∀ o, (W0.alloc o).cell? ⟨g, 0, none⟩ = some _ := fun o => pw_cell_below (below_alloc (Below.refl _ _) o) c0_0
    have cb : ∀ o, (W0.alloc o).cell? ⟨w.heap.size, 1, none⟩ = some _ := fun o => pw_cell_below (below_alloc (Below.refl _ _) o) b1_0
    go_region_law (first | (refine elem_step (by rfl) (.tmp 22) (.tmp 25) 87 rfl Try.underlying87 w0.heap.size (H0.out.1.below (drewB _)).2.2 rfl x1 1 (by first | rfl | (go_simp; done) | (simp [World.alloc]; done)) (by have := HL.out; omega) (Nat.le_trans H0.out.2.1.size (drewB _).size) ?_ rfl; intro v9 w9 hm9 hg9 hat9; obtain ⟨A9, m9, c9, rfl⟩ := mrow_sl hm9; have k9 := ew_cell hg9 (H0.out.1.below (drewB _)); have k8 := ew_frozen hg9 (H0.out.1.below (drewB _))))
    all_goals
      have H9 := Lib.hid ((H0.out.quiet HG.out (drewB _)).byte HG.out (b := x1.toNat) (by have := HX1.out; omega) hm9 hg9 hat9)
      clear b0_0 b1_0 b2_0 b3_0 b4_0 b5_0 b6_0 b7_0 c0_0 c1_0 f0_0
      clear hm9 hg9 hat9 k9 k8 ca cb H0
      generalize w9.setCell ⟨g, 0, none⟩ _ = W9 at *
      obtain ⟨b0_9, b1_9, b2_9, b3_9, b4_9, b5_9, b6_9, b7_9⟩ := box8 H9.out.2.2.2
      have c0_9 := H9.out.c0
      have c1_9 := H9.out.c1
      have f0_9 := H9.out.f0
      go_wp2_with fail
      refine (targets_any w0 _ g _ (opS x1 false s) x0 x1 false x3 x4 x5 A6 c6 x6 A7 c7 x7 0 H9.out.1 H9.out.2.1).mono ?_
      rintro e10 w10 ⟨rfl, hb10, hw10, hs10⟩
      have H10 := Lib.hid (H9.out.call HG.out hw10 hb10 hs10)
      clear b0_9 b1_9 b2_9 b3_9 b4_9 b5_9 b6_9 b7_9 c0_9 c1_9 f0_9
      clear hb10 hw10 hs10 H9
      obtain ⟨b0_10, b1_10, b2_10, b3_10, b4_10, b5_10, b6_10, b7_10⟩ := box8 H10.out.2.2.2
      have c0_10 := H10.out.c0
      have c1_10 := H10.out.c1
      have f0_10 := H10.out.f0
      go_wp2_with fail
      refine (unsigned_any w0 _ g _ (tgtS x7 0 (opS x1 false s)) x3 1 1 rfl (by omega) H10.out.1 H10.out.2.1 (by have := HL.out; simp only [opS, tgtS, sgnS, unsS, putS, Bool.false_eq_true, ↓reduceIte, List.length_append, List.length_cons, List.length_nil, bigB_length]; omega)).mono ?_
      rintro e11 w11 ⟨rfl, hb11, v11, hw11, hs11⟩
      have H11 := Lib.hid (H10.out.call HG.out hw11 hb11 hs11)
      clear b0_10 b1_10 b2_10 b3_10 b4_10 b5_10 b6_10 b7_10 c0_10 c1_10 f0_10
      clear hb11 hw11 hs11 H10
      obtain ⟨b0_11, b1_11, b2_11, b3_11, b4_11, b5_11, b6_11, b7_11⟩ := box8 H11.out.2.2.2
      have c0_11 := H11.out.c0
      have c1_11 := H11.out.c1
      have f0_11 := H11.out.f0
      go_wp2_with fail
      refine (signed_any w0 _ g _ (unsS x3 1 (tgtS x7 0 (opS x1 false s))) x4 1 1 rfl (by omega) H11.out.1 H11.out.2.1 (by have := HL.out; simp only [opS, tgtS, sgnS, unsS, putS, Bool.false_eq_true, ↓reduceIte, List.length_append, List.length_cons, List.length_nil, bigB_length]; omega)).mono ?_
      rintro e12 w12 ⟨rfl, hb12, v12, hw12, hs12⟩
      have H12 := Lib.hid (H11.out.call HG.out hw12 hb12 hs12)
      clear b0_11 b1_11 b2_11 b3_11 b4_11 b5_11 b6_11 b7_11 c0_11 c1_11 f0_11
      clear hb12 hw12 hs12 H11
      obtain ⟨b0_12, b1_12, b2_12, b3_12, b4_12, b5_12, b6_12, b7_12⟩ := box8 H12.out.2.2.2
      have c0_12 := H12.out.c0
      have c1_12 := H12.out.c1
      have f0_12 := H12.out.f0
      go_wp2
      go_end0
      exact H12.out.post
  | true =>
    have H0 := Lib.hid (St.start (c := #[.int .i64 x0, .int .u8 x1, .bool true, .int .i64 x3, .int .i64 x4, .int .i64 x5, .slice A6 x6.length c6, .slice A7 x7.length c7]) HW.out HB.out)
    have HG := Lib.hid (show w.heap.size ≠ g by have := HW.out.lt; omega)
    obtain ⟨b0_0, b1_0, b2_0, b3_0, b4_0, b5_0, b6_0, b7_0⟩ := box8 H0.out.2.2.2
    have c0_0 := H0.out.c0
    have c1_0 := H0.out.c1
    have f0_0 := H0.out.f0
    go_enter Try.func79, Try.ntmps79
    go_wp2_with (at_builtin; refine app_e rfl _ _ 87 rfl Try.underlying87 w0.heap.size H0.out.1.2.2 rfl 196 1 (by first | rfl | (go_simp; done) | (simp [World.alloc]; done)) (by have := HL.out; omega) H0.out.2.1.size ?_ rfl; intro v1 w1 hm1 hg1 hat1; obtain ⟨A1, m1, c1, rfl⟩ := mrow_sl hm1; have k0 := ew_cell hg1 H0.out.1; have k1 := ew_frozen hg1 H0.out.1)
    have H1 := Lib.hid (H0.out.byte HG.out (b := 196) rfl hm1 hg1 hat1)
    clear b0_0 b1_0 b2_0 b3_0 b4_0 b5_0 b6_0 b7_0 c0_0 c1_0 f0_0
    clear hm1 hg1 hat1 k0 k1 H0
    generalize w1.setCell ⟨g, 0, none⟩ _ = W1 at *
    obtain ⟨b0_1, b1_1, b2_1, b3_1, b4_1, b5_1, b6_1, b7_1⟩ := box8 H1.out.2.2.2
    have c0_1 := H1.out.c0
    have c1_1 := H1.out.c1
    have f0_1 := H1.out.f0
    have ca : ∀ o, (W1.alloc o).cell? ⟨g, 0, none⟩ = some _ := fun o => pw_cell_below (below_alloc (Below.refl _ _) o) c0_1
    have cb : ∀ o, (W1.alloc o).cell? ⟨w.heap.size, 1, none⟩ = some _ := fun o => pw_cell_below (below_alloc (Below.refl _ _) o) b1_1
    go_region_law (first | (refine elem_step (by rfl) (.tmp 22) (.tmp 25) 87 rfl Try.underlying87 w0.heap.size (H1.out.1.below (drewB _)).2.2 rfl x1 1 (by first | rfl | (go_simp; done) | (simp [World.alloc]; done)) (by have := HL.out; simp only [List.length_append, List.length_cons, List.length_nil]; omega) (Nat.le_trans H1.out.2.1.size (drewB _).size) ?_ rfl; intro v9 w9 hm9 hg9 hat9; obtain ⟨A9, m9, c9, rfl⟩ := mrow_sl hm9; have k9 := ew_cell hg9 (H1.out.1.below (drewB _)); have k8 := ew_frozen hg9 (H1.out.1.below (drewB _))))
    all_goals
      have H9 := Lib.hid ((H1.out.quiet HG.out (drewB _)).byte HG.out (b := x1.toNat) (by have := HX1.out; omega) hm9 hg9 hat9)
      clear b0_1 b1_1 b2_1 b3_1 b4_1 b5_1 b6_1 b7_1 c0_1 c1_1 f0_1
      clear hm9 hg9 hat9 k9 k8 ca cb H1
      generalize w9.setCell ⟨g, 0, none⟩ _ = W9 at *
      obtain ⟨b0_9, b1_9, b2_9, b3_9, b4_9, b5_9, b6_9, b7_9⟩ := box8 H9.out.2.2.2
      have c0_9 := H9.out.c0
      have c1_9 := H9.out.c1
      have f0_9 := H9.out.f0
      go_wp2_with fail
      refine (targets_any w0 _ g _ (opS x1 true s) x0 x1 true x3 x4 x5 A6 c6 x6 A7 c7 x7 0 H9.out.1 H9.out.2.1).mono ?_
      rintro e10 w10 ⟨rfl, hb10, hw10, hs10⟩
      have H10 := Lib.hid (H9.out.call HG.out hw10 hb10 hs10)
      clear b0_9 b1_9 b2_9 b3_9 b4_9 b5_9 b6_9 b7_9 c0_9 c1_9 f0_9
      clear hb10 hw10 hs10 H9
      obtain ⟨b0_10, b1_10, b2_10, b3_10, b4_10, b5_10, b6_10, b7_10⟩ := box8 H10.out.2.2.2
      have c0_10 := H10.out.c0
      have c1_10 := H10.out.c1
      have f0_10 := H10.out.f0
      go_wp2_with fail
      refine (unsigned_any w0 _ g _ (tgtS x7 0 (opS x1 true s)) x3 2 2 rfl (by omega) H10.out.1 H10.out.2.1 (by have := HL.out; simp only [opS, tgtS, sgnS, unsS, putS, Bool.false_eq_true, ↓reduceIte, List.length_append, List.length_cons, List.length_nil, bigB_length]; omega)).mono ?_
      rintro e11 w11 ⟨rfl, hb11, v11, hw11, hs11⟩
      have H11 := Lib.hid (H10.out.call HG.out hw11 hb11 hs11)
      clear b0_10 b1_10 b2_10 b3_10 b4_10 b5_10 b6_10 b7_10 c0_10 c1_10 f0_10
      clear hb11 hw11 hs11 H10
      obtain ⟨b0_11, b1_11, b2_11, b3_11, b4_11, b5_11, b6_11, b7_11⟩ := box8 H11.out.2.2.2
      have c0_11 := H11.out.c0
      have c1_11 := H11.out.c1
      have f0_11 := H11.out.f0
      go_wp2_with fail
      refine (signed_any w0 _ g _ (unsS x3 2 (tgtS x7 0 (opS x1 true s))) x4 2 2 rfl (by omega) H11.out.1 H11.out.2.1 (by have := HL.out; simp only [opS, tgtS, sgnS, unsS, putS, Bool.false_eq_true, ↓reduceIte, List.length_append, List.length_cons, List.length_nil, bigB_length]; omega)).mono ?_
      rintro e12 w12 ⟨rfl, hb12, v12, hw12, hs12⟩
      have H12 := Lib.hid (H11.out.call HG.out hw12 hb12 hs12)
      clear b0_11 b1_11 b2_11 b3_11 b4_11 b5_11 b6_11 b7_11 c0_11 c1_11 f0_11
      clear hb12 hw12 hs12 H11
      obtain ⟨b0_12, b1_12, b2_12, b3_12, b4_12, b5_12, b6_12, b7_12⟩ := box8 H12.out.2.2.2
      have c0_12 := H12.out.c0
      have c1_12 := H12.out.c1
      have f0_12 := H12.out.f0
      go_wp2
      go_end0
      exact H12.out.post
def oneF13 (x0 x1 : Int) (x2 : Bool) (x3 x4 x5 : Int) (x6 x7 : List Int) (s : List Nat × Bool) : List Nat × Bool := putS x3 1 4 11 (tgtS x7 0 (opS x1 x2 s))
set_option maxHeartbeats 8000000 in
set_option maxRecDepth 100000 in
theorem one_f13 (w0 w : World) (g : Nat) (v : Value) (s : List Nat × Bool) (x0 x1 : Int) (x2 : Bool) (x3 x4 x5 : Int) (A6 : Option Addr) (c6 : Nat) (x6 : List Int) (A7 : Option Addr) (c7 : Nat) (x7 : List Int) (hx1 : 0 ≤ x1 ∧ x1 < 256) (hW : BW w0.heap.size w g 114 (ewC s.2) v s.1) (hB : Below w0.heap.size w0 w) (hl : s.1.length + 100 ≤ 140737488355328) :
    Calls Try.prog 79 #[.pointer (some ⟨g, 0, none⟩), .agg #[.int .i64 x0, .int .u8 x1, .bool x2, .int .i64 x3, .int .i64 x4, .int .i64 x5, .slice A6 x6.length c6, .slice A7 x7.length c7], .int .i64 13] w (EncPost w0 w g v (oneF13 x0 x1 x2 x3 x4 x5 x6 x7 s)) := by
  unfold oneF13
  have HX1 := Lib.hid hx1
  have HW := Lib.hid hW
  have HB := Lib.hid hB
  have HL := Lib.hid hl
  clear hx1 hW hB hl
  cases x2 with
  | false =>
    have H0 := Lib.hid (St.start (c := #[.int .i64 x0, .int .u8 x1, .bool false, .int .i64 x3, .int .i64 x4, .int .i64 x5, .slice A6 x6.length c6, .slice A7 x7.length c7]) HW.out HB.out)
    have HG := Lib.hid (show w.heap.size ≠ g by have := HW.out.lt; omega)
    obtain ⟨b0_0, b1_0, b2_0, b3_0, b4_0, b5_0, b6_0, b7_0⟩ := box8 H0.out.2.2.2
    have c0_0 := H0.out.c0
    have c1_0 := H0.out.c1
    have f0_0 := H0.out.f0
    go_enter Try.func79, Try.ntmps79
    go_wp2_with fail
    generalize w.alloc (.cells #[.int .i64 x0, .int .u8 x1, .bool false, .int .i64 x3, .int .i64 x4, .int .i64 x5, .slice A6 x6.length c6, .slice A7 x7.length c7] 82) = W0 at *
    have ca : ∀ o, (W0.alloc o).cell? ⟨g, 0, none⟩ = some _ := fun o => pw_cell_below (below_alloc (Below.refl _ _) o) c0_0
    have cb : ∀ o, (W0.alloc o).cell? ⟨w.heap.size, 1, none⟩ = some _ := fun o => pw_cell_below (below_alloc (Below.refl _ _) o) b1_0
    go_region_law (first | (refine elem_step (by rfl) (.tmp 22) (.tmp 25) 87 rfl Try.underlying87 w0.heap.size (H0.out.1.below (drewB _)).2.2 rfl x1 1 (by first | rfl | (go_simp; done) | (simp [World.alloc]; done)) (by have := HL.out; omega) (Nat.le_trans H0.out.2.1.size (drewB _).size) ?_ rfl; intro v9 w9 hm9 hg9 hat9; obtain ⟨A9, m9, c9, rfl⟩ := mrow_sl hm9; have k9 := ew_cell hg9 (H0.out.1.below (drewB _)); have k8 := ew_frozen hg9 (H0.out.1.below (drewB _))))
    all_goals
      have H9 := Lib.hid ((H0.out.quiet HG.out (drewB _)).byte HG.out (b := x1.toNat) (by have := HX1.out; omega) hm9 hg9 hat9)
      clear b0_0 b1_0 b2_0 b3_0 b4_0 b5_0 b6_0 b7_0 c0_0 c1_0 f0_0
      clear hm9 hg9 hat9 k9 k8 ca cb H0
      generalize w9.setCell ⟨g, 0, none⟩ _ = W9 at *
      obtain ⟨b0_9, b1_9, b2_9, b3_9, b4_9, b5_9, b6_9, b7_9⟩ := box8 H9.out.2.2.2
      have c0_9 := H9.out.c0
      have c1_9 := H9.out.c1
      have f0_9 := H9.out.f0
      go_wp2_with fail
      refine (targets_any w0 _ g _ (opS x1 false s) x0 x1 false x3 x4 x5 A6 c6 x6 A7 c7 x7 0 H9.out.1 H9.out.2.1).mono ?_
      rintro e10 w10 ⟨rfl, hb10, hw10, hs10⟩
      have H10 := Lib.hid (H9.out.call HG.out hw10 hb10 hs10)
      clear b0_9 b1_9 b2_9 b3_9 b4_9 b5_9 b6_9 b7_9 c0_9 c1_9 f0_9
      clear hb10 hw10 hs10 H9
      obtain ⟨b0_10, b1_10, b2_10, b3_10, b4_10, b5_10, b6_10, b7_10⟩ := box8 H10.out.2.2.2
      have c0_10 := H10.out.c0
      have c1_10 := H10.out.c1
      have f0_10 := H10.out.f0
      go_wp2_with fail
      refine (put_any w0 _ g _ (tgtS x7 0 (opS x1 false s)) x3 1 1 rfl (by omega) 4 11 H10.out.1 H10.out.2.1 (by have := HL.out; simp only [opS, tgtS, sgnS, unsS, putS, Bool.false_eq_true, ↓reduceIte, List.length_append, List.length_cons, List.length_nil, bigB_length]; omega)).mono ?_
      rintro e11 w11 ⟨rfl, hb11, v11, hw11, hs11⟩
      have H11 := Lib.hid (H10.out.call HG.out hw11 hb11 hs11)
      clear b0_10 b1_10 b2_10 b3_10 b4_10 b5_10 b6_10 b7_10 c0_10 c1_10 f0_10
      clear hb11 hw11 hs11 H10
      obtain ⟨b0_11, b1_11, b2_11, b3_11, b4_11, b5_11, b6_11, b7_11⟩ := box8 H11.out.2.2.2
      have c0_11 := H11.out.c0
      have c1_11 := H11.out.c1
      have f0_11 := H11.out.f0
      go_wp2
      go_end0
      exact H11.out.post
  | true =>
    have H0 := Lib.hid (St.start (c := #[.int .i64 x0, .int .u8 x1, .bool true, .int .i64 x3, .int .i64 x4, .int .i64 x5, .slice A6 x6.length c6, .slice A7 x7.length c7]) HW.out HB.out)
    have HG := Lib.hid (show w.heap.size ≠ g by have := HW.out.lt; omega)
    obtain ⟨b0_0, b1_0, b2_0, b3_0, b4_0, b5_0, b6_0, b7_0⟩ := box8 H0.out.2.2.2
    have c0_0 := H0.out.c0
    have c1_0 := H0.out.c1
    have f0_0 := H0.out.f0
    go_enter Try.func79, Try.ntmps79
    go_wp2_with (at_builtin; refine app_e rfl _ _ 87 rfl Try.underlying87 w0.heap.size H0.out.1.2.2 rfl 196 1 (by first | rfl | (go_simp; done) | (simp [World.alloc]; done)) (by have := HL.out; omega) H0.out.2.1.size ?_ rfl; intro v1 w1 hm1 hg1 hat1; obtain ⟨A1, m1, c1, rfl⟩ := mrow_sl hm1; have k0 := ew_cell hg1 H0.out.1; have k1 := ew_frozen hg1 H0.out.1)
    have H1 := Lib.hid (H0.out.byte HG.out (b := 196) rfl hm1 hg1 hat1)
    clear b0_0 b1_0 b2_0 b3_0 b4_0 b5_0 b6_0 b7_0 c0_0 c1_0 f0_0
    clear hm1 hg1 hat1 k0 k1 H0
    generalize w1.setCell ⟨g, 0, none⟩ _ = W1 at *
    obtain ⟨b0_1, b1_1, b2_1, b3_1, b4_1, b5_1, b6_1, b7_1⟩ := box8 H1.out.2.2.2
    have c0_1 := H1.out.c0
    have c1_1 := H1.out.c1
    have f0_1 := H1.out.f0
    have ca : ∀ o, (W1.alloc o).cell? ⟨g, 0, none⟩ = some _ := fun o => pw_cell_below (below_alloc (Below.refl _ _) o) c0_1
    have cb : ∀ o, (W1.alloc o).cell? ⟨w.heap.size, 1, none⟩ = some _ := fun o => pw_cell_below (below_alloc (Below.refl _ _) o) b1_1
    go_region_law (first | (refine elem_step (by rfl) (.tmp 22) (.tmp 25) 87 rfl Try.underlying87 w0.heap.size (H1.out.1.below (drewB _)).2.2 rfl x1 1 (by first | rfl | (go_simp; done) | (simp [World.alloc]; done)) (by have := HL.out; simp only [List.length_append, List.length_cons, List.length_nil]; omega) (Nat.le_trans H1.out.2.1.size (drewB _).size) ?_ rfl; intro v9 w9 hm9 hg9 hat9; obtain ⟨A9, m9, c9, rfl⟩ := mrow_sl hm9; have k9 := ew_cell hg9 (H1.out.1.below (drewB _)); have k8 := ew_frozen hg9 (H1.out.1.below (drewB _))))
    all_goals
      have H9 := Lib.hid ((H1.out.quiet HG.out (drewB _)).byte HG.out (b := x1.toNat) (by have := HX1.out; omega) hm9 hg9 hat9)
      clear b0_1 b1_1 b2_1 b3_1 b4_1 b5_1 b6_1 b7_1 c0_1 c1_1 f0_1
      clear hm9 hg9 hat9 k9 k8 ca cb H1
      generalize w9.setCell ⟨g, 0, none⟩ _ = W9 at *
      obtain ⟨b0_9, b1_9, b2_9, b3_9, b4_9, b5_9, b6_9, b7_9⟩ := box8 H9.out.2.2.2
      have c0_9 := H9.out.c0
      have c1_9 := H9.out.c1
      have f0_9 := H9.out.f0
      go_wp2_with fail
      refine (targets_any w0 _ g _ (opS x1 true s) x0 x1 true x3 x4 x5 A6 c6 x6 A7 c7 x7 0 H9.out.1 H9.out.2.1).mono ?_
      rintro e10 w10 ⟨rfl, hb10, hw10, hs10⟩
      have H10 := Lib.hid (H9.out.call HG.out hw10 hb10 hs10)
      clear b0_9 b1_9 b2_9 b3_9 b4_9 b5_9 b6_9 b7_9 c0_9 c1_9 f0_9
      clear hb10 hw10 hs10 H9
      obtain ⟨b0_10, b1_10, b2_10, b3_10, b4_10, b5_10, b6_10, b7_10⟩ := box8 H10.out.2.2.2
      have c0_10 := H10.out.c0
      have c1_10 := H10.out.c1
      have f0_10 := H10.out.f0
      go_wp2_with fail
      refine (put_any w0 _ g _ (tgtS x7 0 (opS x1 true s)) x3 1 1 rfl (by omega) 4 11 H10.out.1 H10.out.2.1 (by have := HL.out; simp only [opS, tgtS, sgnS, unsS, putS, Bool.false_eq_true, ↓reduceIte, List.length_append, List.length_cons, List.length_nil, bigB_length]; omega)).mono ?_
      rintro e11 w11 ⟨rfl, hb11, v11, hw11, hs11⟩
      have H11 := Lib.hid (H10.out.call HG.out hw11 hb11 hs11)
      clear b0_10 b1_10 b2_10 b3_10 b4_10 b5_10 b6_10 b7_10 c0_10 c1_10 f0_10
      clear hb11 hw11 hs11 H10
      obtain ⟨b0_11, b1_11, b2_11, b3_11, b4_11, b5_11, b6_11, b7_11⟩ := box8 H11.out.2.2.2
      have c0_11 := H11.out.c0
      have c1_11 := H11.out.c1
      have f0_11 := H11.out.f0
      go_wp2
      go_end0
      exact H11.out.post
def oneF0 (x0 x1 : Int) (x2 : Bool) (x3 x4 x5 : Int) (x6 x7 : List Int) (s : List Nat × Bool) : List Nat × Bool := tgtS x7 0 (opS x1 x2 s)
set_option maxHeartbeats 8000000 in
set_option maxRecDepth 100000 in
theorem one_f0 (w0 w : World) (g : Nat) (v : Value) (s : List Nat × Bool) (x0 x1 : Int) (x2 : Bool) (x3 x4 x5 : Int) (A6 : Option Addr) (c6 : Nat) (x6 : List Int) (A7 : Option Addr) (c7 : Nat) (x7 : List Int) (hx1 : 0 ≤ x1 ∧ x1 < 256) (hW : BW w0.heap.size w g 114 (ewC s.2) v s.1) (hB : Below w0.heap.size w0 w) (hl : s.1.length + 100 ≤ 140737488355328) :
    Calls Try.prog 79 #[.pointer (some ⟨g, 0, none⟩), .agg #[.int .i64 x0, .int .u8 x1, .bool x2, .int .i64 x3, .int .i64 x4, .int .i64 x5, .slice A6 x6.length c6, .slice A7 x7.length c7], .int .i64 0] w (EncPost w0 w g v (oneF0 x0 x1 x2 x3 x4 x5 x6 x7 s)) := by
  unfold oneF0
  have HX1 := Lib.hid hx1
  have HW := Lib.hid hW
  have HB := Lib.hid hB
  have HL := Lib.hid hl
  clear hx1 hW hB hl
  cases x2 with
  | false =>
    have H0 := Lib.hid (St.start (c := #[.int .i64 x0, .int .u8 x1, .bool false, .int .i64 x3, .int .i64 x4, .int .i64 x5, .slice A6 x6.length c6, .slice A7 x7.length c7]) HW.out HB.out)
    have HG := Lib.hid (show w.heap.size ≠ g by have := HW.out.lt; omega)
    obtain ⟨b0_0, b1_0, b2_0, b3_0, b4_0, b5_0, b6_0, b7_0⟩ := box8 H0.out.2.2.2
    have c0_0 := H0.out.c0
    have c1_0 := H0.out.c1
    have f0_0 := H0.out.f0
    go_enter Try.func79, Try.ntmps79
    go_wp2_with fail
    generalize w.alloc (.cells #[.int .i64 x0, .int .u8 x1, .bool false, .int .i64 x3, .int .i64 x4, .int .i64 x5, .slice A6 x6.length c6, .slice A7 x7.length c7] 82) = W0 at *
    have ca : ∀ o, (W0.alloc o).cell? ⟨g, 0, none⟩ = some _ := fun o => pw_cell_below (below_alloc (Below.refl _ _) o) c0_0
    have cb : ∀ o, (W0.alloc o).cell? ⟨w.heap.size, 1, none⟩ = some _ := fun o => pw_cell_below (below_alloc (Below.refl _ _) o) b1_0
    go_region_law (first | (refine elem_step (by rfl) (.tmp 22) (.tmp 25) 87 rfl Try.underlying87 w0.heap.size (H0.out.1.below (drewB _)).2.2 rfl x1 1 (by first | rfl | (go_simp; done) | (simp [World.alloc]; done)) (by have := HL.out; omega) (Nat.le_trans H0.out.2.1.size (drewB _).size) ?_ rfl; intro v9 w9 hm9 hg9 hat9; obtain ⟨A9, m9, c9, rfl⟩ := mrow_sl hm9; have k9 := ew_cell hg9 (H0.out.1.below (drewB _)); have k8 := ew_frozen hg9 (H0.out.1.below (drewB _))))
    all_goals
      have H9 := Lib.hid ((H0.out.quiet HG.out (drewB _)).byte HG.out (b := x1.toNat) (by have := HX1.out; omega) hm9 hg9 hat9)
      clear b0_0 b1_0 b2_0 b3_0 b4_0 b5_0 b6_0 b7_0 c0_0 c1_0 f0_0
      clear hm9 hg9 hat9 k9 k8 ca cb H0
      generalize w9.setCell ⟨g, 0, none⟩ _ = W9 at *
      obtain ⟨b0_9, b1_9, b2_9, b3_9, b4_9, b5_9, b6_9, b7_9⟩ := box8 H9.out.2.2.2
      have c0_9 := H9.out.c0
      have c1_9 := H9.out.c1
      have f0_9 := H9.out.f0
      go_wp2_with fail
      refine (targets_any w0 _ g _ (opS x1 false s) x0 x1 false x3 x4 x5 A6 c6 x6 A7 c7 x7 0 H9.out.1 H9.out.2.1).mono ?_
      rintro e10 w10 ⟨rfl, hb10, hw10, hs10⟩
      have H10 := Lib.hid (H9.out.call HG.out hw10 hb10 hs10)
      clear b0_9 b1_9 b2_9 b3_9 b4_9 b5_9 b6_9 b7_9 c0_9 c1_9 f0_9
      clear hb10 hw10 hs10 H9
      obtain ⟨b0_10, b1_10, b2_10, b3_10, b4_10, b5_10, b6_10, b7_10⟩ := box8 H10.out.2.2.2
      have c0_10 := H10.out.c0
      have c1_10 := H10.out.c1
      have f0_10 := H10.out.f0
      go_wp2
      go_end0
      exact H10.out.post
  | true =>
    have H0 := Lib.hid (St.start (c := #[.int .i64 x0, .int .u8 x1, .bool true, .int .i64 x3, .int .i64 x4, .int .i64 x5, .slice A6 x6.length c6, .slice A7 x7.length c7]) HW.out HB.out)
    have HG := Lib.hid (show w.heap.size ≠ g by have := HW.out.lt; omega)
    obtain ⟨b0_0, b1_0, b2_0, b3_0, b4_0, b5_0, b6_0, b7_0⟩ := box8 H0.out.2.2.2
    have c0_0 := H0.out.c0
    have c1_0 := H0.out.c1
    have f0_0 := H0.out.f0
    go_enter Try.func79, Try.ntmps79
    go_wp2_with (at_builtin; refine app_e rfl _ _ 87 rfl Try.underlying87 w0.heap.size H0.out.1.2.2 rfl 196 1 (by first | rfl | (go_simp; done) | (simp [World.alloc]; done)) (by have := HL.out; omega) H0.out.2.1.size ?_ rfl; intro v1 w1 hm1 hg1 hat1; obtain ⟨A1, m1, c1, rfl⟩ := mrow_sl hm1; have k0 := ew_cell hg1 H0.out.1; have k1 := ew_frozen hg1 H0.out.1)
    have H1 := Lib.hid (H0.out.byte HG.out (b := 196) rfl hm1 hg1 hat1)
    clear b0_0 b1_0 b2_0 b3_0 b4_0 b5_0 b6_0 b7_0 c0_0 c1_0 f0_0
    clear hm1 hg1 hat1 k0 k1 H0
    generalize w1.setCell ⟨g, 0, none⟩ _ = W1 at *
    obtain ⟨b0_1, b1_1, b2_1, b3_1, b4_1, b5_1, b6_1, b7_1⟩ := box8 H1.out.2.2.2
    have c0_1 := H1.out.c0
    have c1_1 := H1.out.c1
    have f0_1 := H1.out.f0
    have ca : ∀ o, (W1.alloc o).cell? ⟨g, 0, none⟩ = some _ := fun o => pw_cell_below (below_alloc (Below.refl _ _) o) c0_1
    have cb : ∀ o, (W1.alloc o).cell? ⟨w.heap.size, 1, none⟩ = some _ := fun o => pw_cell_below (below_alloc (Below.refl _ _) o) b1_1
    go_region_law (first | (refine elem_step (by rfl) (.tmp 22) (.tmp 25) 87 rfl Try.underlying87 w0.heap.size (H1.out.1.below (drewB _)).2.2 rfl x1 1 (by first | rfl | (go_simp; done) | (simp [World.alloc]; done)) (by have := HL.out; simp only [List.length_append, List.length_cons, List.length_nil]; omega) (Nat.le_trans H1.out.2.1.size (drewB _).size) ?_ rfl; intro v9 w9 hm9 hg9 hat9; obtain ⟨A9, m9, c9, rfl⟩ := mrow_sl hm9; have k9 := ew_cell hg9 (H1.out.1.below (drewB _)); have k8 := ew_frozen hg9 (H1.out.1.below (drewB _))))
    all_goals
      have H9 := Lib.hid ((H1.out.quiet HG.out (drewB _)).byte HG.out (b := x1.toNat) (by have := HX1.out; omega) hm9 hg9 hat9)
      clear b0_1 b1_1 b2_1 b3_1 b4_1 b5_1 b6_1 b7_1 c0_1 c1_1 f0_1
      clear hm9 hg9 hat9 k9 k8 ca cb H1
      generalize w9.setCell ⟨g, 0, none⟩ _ = W9 at *
      obtain ⟨b0_9, b1_9, b2_9, b3_9, b4_9, b5_9, b6_9, b7_9⟩ := box8 H9.out.2.2.2
      have c0_9 := H9.out.c0
      have c1_9 := H9.out.c1
      have f0_9 := H9.out.f0
      go_wp2_with fail
      refine (targets_any w0 _ g _ (opS x1 true s) x0 x1 true x3 x4 x5 A6 c6 x6 A7 c7 x7 0 H9.out.1 H9.out.2.1).mono ?_
      rintro e10 w10 ⟨rfl, hb10, hw10, hs10⟩
      have H10 := Lib.hid (H9.out.call HG.out hw10 hb10 hs10)
      clear b0_9 b1_9 b2_9 b3_9 b4_9 b5_9 b6_9 b7_9 c0_9 c1_9 f0_9
      clear hb10 hw10 hs10 H9
      obtain ⟨b0_10, b1_10, b2_10, b3_10, b4_10, b5_10, b6_10, b7_10⟩ := box8 H10.out.2.2.2
      have c0_10 := H10.out.c0
      have c1_10 := H10.out.c1
      have f0_10 := H10.out.f0
      go_wp2
      go_end0
      exact H10.out.post
end Go.Proofs.Ytfnjbmpolggdeaa.CW
end
section
namespace Go.Proofs.Ytfnjbmpolggdeaa.CW
open Go.RowKit Go.Lib Go.Proofs.YtfnjbmpolggdeaaW.PrintWords Go.Proofs.YtfnjbmpolggdeaaW.PrintLast Go.Proofs.YtfnjbmpolggdeaaW.PrintMore
set_option linter.unusedVariables false
set_option linter.unusedSimpArgs false
attribute [local go_sem] max2_int min2_int max_two min_two max_three min_three max_four min_four
def oneF12 (x0 x1 : Int) (x2 : Bool) (x3 x4 x5 : Int) (x6 x7 : List Int) (s : List Nat × Bool) : List Nat × Bool := ((putS x4 1 1 255 (unsS x3 2 (tgtS x7 0 (opS x1 x2 s)))).1 ++ [0], (putS x4 1 1 255 (unsS x3 2 (tgtS x7 0 (opS x1 x2 s)))).2)
set_option maxHeartbeats 8000000 in
set_option maxRecDepth 100000 in
theorem one_f12 (w0 w : World) (g : Nat) (v : Value) (s : List Nat × Bool) (x0 x1 : Int) (x2 : Bool) (x3 x4 x5 : Int) (A6 : Option Addr) (c6 : Nat) (x6 : List Int) (A7 : Option Addr) (c7 : Nat) (x7 : List Int) (hx1 : 0 ≤ x1 ∧ x1 < 256) (hW : BW w0.heap.size w g 114 (ewC s.2) v s.1) (hB : Below w0.heap.size w0 w) (hl : s.1.length + 100 ≤ 140737488355328) :
    Calls Try.prog 79 #[.pointer (some ⟨g, 0, none⟩), .agg #[.int .i64 x0, .int .u8 x1, .bool x2, .int .i64 x3, .int .i64 x4, .int .i64 x5, .slice A6 x6.length c6, .slice A7 x7.length c7], .int .i64 12] w (EncPost w0 w g v (oneF12 x0 x1 x2 x3 x4 x5 x6 x7 s)) := by
  unfold oneF12
  have HX1 := Lib.hid hx1
  have HW := Lib.hid hW
  have HB := Lib.hid hB
  have HL := Lib.hid hl
  clear hx1 hW hB hl
  cases x2 with
  | false =>
    have H0 := Lib.hid (St.start (c := #[.int .i64 x0, .int .u8 x1, .bool false, .int .i64 x3, .int .i64 x4, .int .i64 x5, .slice A6 x6.length c6, .slice A7 x7.length c7]) HW.out HB.out)
    have HG := Lib.hid (show w.heap.size ≠ g by have := HW.out.lt; omega)
    obtain ⟨b0_0, b1_0, b2_0, b3_0, b4_0, b5_0, b6_0, b7_0⟩ := box8 H0.out.2.2.2
    have c0_0 := H0.out.c0
    have c1_0 := H0.out.c1
    have f0_0 := H0.out.f0
    go_enter Try.func79, Try.ntmps79
    go_wp2_with fail
    generalize w.alloc (.cells #[.int .i64 x0, .int .u8 x1, .bool false, .int .i64 x3, .int .i64 x4, .int .i64 x5, .slice A6 x6.length c6, .slice A7 x7.length c7] 82) = W0 at *
    have ca : ∀ o, (W0.alloc o).cell? ⟨g, 0, none⟩ = some _ := fun o => pw_cell_below (below_alloc (Below.refl _ _) o) c0_0
    have cb : ∀ o, (W0.alloc o).cell? ⟨w.heap.size, 1, none⟩ = some _ := fun o => pw_cell_below (below_alloc (Below.refl _ _) o) b1_0
    go_region_law (first | (refine elem_step (by rfl) (.tmp 22) (.tmp 25) 87 rfl Try.underlying87 w0.heap.size (H0.out.1.below (drewB _)).2.2 rfl x1 1 (by first | rfl | (go_simp; done) | (simp [World.alloc]; done)) (by have := HL.out; omega) (Nat.le_trans H0.out.2.1.size (drewB _).size) ?_ rfl; intro v9 w9 hm9 hg9 hat9; obtain ⟨A9, m9, c9, rfl⟩ := mrow_sl hm9; have k9 := ew_cell hg9 (H0.out.1.below (drewB _)); have k8 := ew_frozen hg9 (H0.out.1.below (drewB _))))
    all_goals
      have H9 := Lib.hid ((H0.out.quiet HG.out (drewB _)).byte HG.out (b := x1.toNat) (by have := HX1.out; omega) hm9 hg9 hat9)
      clear b0_0 b1_0 b2_0 b3_0 b4_0 b5_0 b6_0 b7_0 c0_0 c1_0 f0_0
      clear hm9 hg9 hat9 k9 k8 ca cb H0
      generalize w9.setCell ⟨g, 0, none⟩ _ = W9 at *
      obtain ⟨b0_9, b1_9, b2_9, b3_9, b4_9, b5_9, b6_9, b7_9⟩ := box8 H9.out.2.2.2
      have c0_9 := H9.out.c0
      have c1_9 := H9.out.c1
      have f0_9 := H9.out.f0
      go_wp2_with fail
      refine (targets_any w0 _ g _ (opS x1 false s) x0 x1 false x3 x4 x5 A6 c6 x6 A7 c7 x7 0 H9.out.1 H9.out.2.1).mono ?_
      rintro e10 w10 ⟨rfl, hb10, hw10, hs10⟩
      have H10 := Lib.hid (H9.out.call HG.out hw10 hb10 hs10)
      clear b0_9 b1_9 b2_9 b3_9 b4_9 b5_9 b6_9 b7_9 c0_9 c1_9 f0_9
      clear hb10 hw10 hs10 H9
      obtain ⟨b0_10, b1_10, b2_10, b3_10, b4_10, b5_10, b6_10, b7_10⟩ := box8 H10.out.2.2.2
      have c0_10 := H10.out.c0
      have c1_10 := H10.out.c1
      have f0_10 := H10.out.f0
      go_wp2_with fail
      refine (unsigned_any w0 _ g _ (tgtS x7 0 (opS x1 false s)) x3 2 2 rfl (by omega) H10.out.1 H10.out.2.1 (by have := HL.out; simp only [opS, tgtS, sgnS, unsS, putS, Bool.false_eq_true, ↓reduceIte, List.length_append, List.length_cons, List.length_nil, bigB_length]; omega)).mono ?_
      rintro e11 w11 ⟨rfl, hb11, v11, hw11, hs11⟩
      have H11 := Lib.hid (H10.out.call HG.out hw11 hb11 hs11)
      clear b0_10 b1_10 b2_10 b3_10 b4_10 b5_10 b6_10 b7_10 c0_10 c1_10 f0_10
      clear hb11 hw11 hs11 H10
      obtain ⟨b0_11, b1_11, b2_11, b3_11, b4_11, b5_11, b6_11, b7_11⟩ := box8 H11.out.2.2.2
      have c0_11 := H11.out.c0
      have c1_11 := H11.out.c1
      have f0_11 := H11.out.f0
      go_wp2_with fail
      refine (put_any w0 _ g _ (unsS x3 2 (tgtS x7 0 (opS x1 false s))) x4 1 1 rfl (by omega) 1 255 H11.out.1 H11.out.2.1 (by have := HL.out; simp only [opS, tgtS, sgnS, unsS, putS, Bool.false_eq_true, ↓reduceIte, List.length_append, List.length_cons, List.length_nil, bigB_length]; omega)).mono ?_
      rintro e12 w12 ⟨rfl, hb12, v12, hw12, hs12⟩
      have H12 := Lib.hid (H11.out.call HG.out hw12 hb12 hs12)
      clear b0_11 b1_11 b2_11 b3_11 b4_11 b5_11 b6_11 b7_11 c0_11 c1_11 f0_11
      clear hb12 hw12 hs12 H11
      obtain ⟨b0_12, b1_12, b2_12, b3_12, b4_12, b5_12, b6_12, b7_12⟩ := box8 H12.out.2.2.2
      have c0_12 := H12.out.c0
      have c1_12 := H12.out.c1
      have f0_12 := H12.out.f0
      go_wp2_with (at_builtin; refine app_e rfl _ _ 87 rfl Try.underlying87 w0.heap.size H12.out.1.2.2 rfl 0 _ rfl (by have := HL.out; simp only [opS, tgtS, sgnS, unsS, putS, Bool.false_eq_true, ↓reduceIte, List.length_append, List.length_cons, List.length_nil, bigB_length]; omega) H12.out.2.1.size ?_ rfl; intro v13 w13 hm13 hg13 hat13; obtain ⟨A13, m13, c13, rfl⟩ := mrow_sl hm13; have k0 := ew_cell hg13 H12.out.1; have k1 := ew_frozen hg13 H12.out.1)
      have H13 := Lib.hid (H12.out.byte HG.out (b := 0) rfl hm13 hg13 hat13)
      go_end0
      exact H13.out.post
  | true =>
    have H0 := Lib.hid (St.start (c := #[.int .i64 x0, .int .u8 x1, .bool true, .int .i64 x3, .int .i64 x4, .int .i64 x5, .slice A6 x6.length c6, .slice A7 x7.length c7]) HW.out HB.out)
    have HG := Lib.hid (show w.heap.size ≠ g by have := HW.out.lt; omega)
    obtain ⟨b0_0, b1_0, b2_0, b3_0, b4_0, b5_0, b6_0, b7_0⟩ := box8 H0.out.2.2.2
    have c0_0 := H0.out.c0
    have c1_0 := H0.out.c1
    have f0_0 := H0.out.f0
    go_enter Try.func79, Try.ntmps79
    go_wp2_with (at_builtin; refine app_e rfl _ _ 87 rfl Try.underlying87 w0.heap.size H0.out.1.2.2 rfl 196 1 (by first | rfl | (go_simp; done) | (simp [World.alloc]; done)) (by have := HL.out; omega) H0.out.2.1.size ?_ rfl; intro v1 w1 hm1 hg1 hat1; obtain ⟨A1, m1, c1, rfl⟩ := mrow_sl hm1; have k0 := ew_cell hg1 H0.out.1; have k1 := ew_frozen hg1 H0.out.1)
    have H1 := Lib.hid (H0.out.byte HG.out (b := 196) rfl hm1 hg1 hat1)
    clear b0_0 b1_0 b2_0 b3_0 b4_0 b5_0 b6_0 b7_0 c0_0 c1_0 f0_0
    clear hm1 hg1 hat1 k0 k1 H0
    generalize w1.setCell ⟨g, 0, none⟩ _ = W1 at *
    obtain ⟨b0_1, b1_1, b2_1, b3_1, b4_1, b5_1, b6_1, b7_1⟩ := box8 H1.out.2.2.2
    have c0_1 := H1.out.c0
    have c1_1 := H1.out.c1
    have f0_1 := H1.out.f0
    have ca : ∀ o, (W1.alloc o).cell? ⟨g, 0, none⟩ = some _ := fun o => pw_cell_below (below_alloc (Below.refl _ _) o) c0_1
    have cb : ∀ o, (W1.alloc o).cell? ⟨w.heap.size, 1, none⟩ = some _ := fun o => pw_cell_below (below_alloc (Below.refl _ _) o) b1_1
    go_region_law (first | (refine elem_step (by rfl) (.tmp 22) (.tmp 25) 87 rfl Try.underlying87 w0.heap.size (H1.out.1.below (drewB _)).2.2 rfl x1 1 (by first | rfl | (go_simp; done) | (simp [World.alloc]; done)) (by have := HL.out; simp only [List.length_append, List.length_cons, List.length_nil]; omega) (Nat.le_trans H1.out.2.1.size (drewB _).size) ?_ rfl; intro v9 w9 hm9 hg9 hat9; obtain ⟨A9, m9, c9, rfl⟩ := mrow_sl hm9; have k9 := ew_cell hg9 (H1.out.1.below (drewB _)); have k8 := ew_frozen hg9 (H1.out.1.below (drewB _))))
    all_goals
      have H9 := Lib.hid ((H1.out.quiet HG.out (drewB _)).byte HG.out (b := x1.toNat) (by have := HX1.out; omega) hm9 hg9 hat9)
      clear b0_1 b1_1 b2_1 b3_1 b4_1 b5_1 b6_1 b7_1 c0_1 c1_1 f0_1
      clear hm9 hg9 hat9 k9 k8 ca cb H1
      generalize w9.setCell ⟨g, 0, none⟩ _ = W9 at *
      obtain ⟨b0_9, b1_9, b2_9, b3_9, b4_9, b5_9, b6_9, b7_9⟩ := box8 H9.out.2.2.2
      have c0_9 := H9.out.c0
      have c1_9 := H9.out.c1
      have f0_9 := H9.out.f0
      go_wp2_with fail
      refine (targets_any w0 _ g _ (opS x1 true s) x0 x1 true x3 x4 x5 A6 c6 x6 A7 c7 x7 0 H9.out.1 H9.out.2.1).mono ?_
      rintro e10 w10 ⟨rfl, hb10, hw10, hs10⟩
      have H10 := Lib.hid (H9.out.call HG.out hw10 hb10 hs10)
      clear b0_9 b1_9 b2_9 b3_9 b4_9 b5_9 b6_9 b7_9 c0_9 c1_9 f0_9
      clear hb10 hw10 hs10 H9
      obtain ⟨b0_10, b1_10, b2_10, b3_10, b4_10, b5_10, b6_10, b7_10⟩ := box8 H10.out.2.2.2
      have c0_10 := H10.out.c0
      have c1_10 := H10.out.c1
      have f0_10 := H10.out.f0
      go_wp2_with fail
      refine (unsigned_any w0 _ g _ (tgtS x7 0 (opS x1 true s)) x3 2 2 rfl (by omega) H10.out.1 H10.out.2.1 (by have := HL.out; simp only [opS, tgtS, sgnS, unsS, putS, Bool.false_eq_true, ↓reduceIte, List.length_append, List.length_cons, List.length_nil, bigB_length]; omega)).mono ?_
      rintro e11 w11 ⟨rfl, hb11, v11, hw11, hs11⟩
      have H11 := Lib.hid (H10.out.call HG.out hw11 hb11 hs11)
      clear b0_10 b1_10 b2_10 b3_10 b4_10 b5_10 b6_10 b7_10 c0_10 c1_10 f0_10
      clear hb11 hw11 hs11 H10
      obtain ⟨b0_11, b1_11, b2_11, b3_11, b4_11, b5_11, b6_11, b7_11⟩ := box8 H11.out.2.2.2
      have c0_11 := H11.out.c0
      have c1_11 := H11.out.c1
      have f0_11 := H11.out.f0
      go_wp2_with fail
      refine (put_any w0 _ g _ (unsS x3 2 (tgtS x7 0 (opS x1 true s))) x4 1 1 rfl (by omega) 1 255 H11.out.1 H11.out.2.1 (by have := HL.out; simp only [opS, tgtS, sgnS, unsS, putS, Bool.false_eq_true, ↓reduceIte, List.length_append, List.length_cons, List.length_nil, bigB_length]; omega)).mono ?_
      rintro e12 w12 ⟨rfl, hb12, v12, hw12, hs12⟩
      have H12 := Lib.hid (H11.out.call HG.out hw12 hb12 hs12)
      clear b0_11 b1_11 b2_11 b3_11 b4_11 b5_11 b6_11 b7_11 c0_11 c1_11 f0_11
      clear hb12 hw12 hs12 H11
      obtain ⟨b0_12, b1_12, b2_12, b3_12, b4_12, b5_12, b6_12, b7_12⟩ := box8 H12.out.2.2.2
      have c0_12 := H12.out.c0
      have c1_12 := H12.out.c1
      have f0_12 := H12.out.f0
      go_wp2_with (at_builtin; refine app_e rfl _ _ 87 rfl Try.underlying87 w0.heap.size H12.out.1.2.2 rfl 0 _ rfl (by have := HL.out; simp only [opS, tgtS, sgnS, unsS, putS, Bool.false_eq_true, ↓reduceIte, List.length_append, List.length_cons, List.length_nil, bigB_length]; omega) H12.out.2.1.size ?_ rfl; intro v13 w13 hm13 hg13 hat13; obtain ⟨A13, m13, c13, rfl⟩ := mrow_sl hm13; have k0 := ew_cell hg13 H12.out.1; have k1 := ew_frozen hg13 H12.out.1)
      have H13 := Lib.hid (H12.out.byte HG.out (b := 0) rfl hm13 hg13 hat13)
      go_end0
      exact H13.out.post
def oneF14 (x0 x1 : Int) (x2 : Bool) (x3 x4 x5 : Int) (x6 x7 : List Int) (s : List Nat × Bool) : List Nat × Bool := putS x4 1 1 255 (unsS x3 2 (tgtS x7 0 (opS x1 x2 s)))
set_option maxHeartbeats 8000000 in
set_option maxRecDepth 100000 in
theorem one_f14 (w0 w : World) (g : Nat) (v : Value) (s : List Nat × Bool) (x0 x1 : Int) (x2 : Bool) (x3 x4 x5 : Int) (A6 : Option Addr) (c6 : Nat) (x6 : List Int) (A7 : Option Addr) (c7 : Nat) (x7 : List Int) (hx1 : 0 ≤ x1 ∧ x1 < 256) (hW : BW w0.heap.size w g 114 (ewC s.2) v s.1) (hB : Below w0.heap.size w0 w) (hl : s.1.length + 100 ≤ 140737488355328) :
    Calls Try.prog 79 #[.pointer (some ⟨g, 0, none⟩), .agg #[.int .i64 x0, .int .u8 x1, .bool x2, .int .i64 x3, .int .i64 x4, .int .i64 x5, .slice A6 x6.length c6, .slice A7 x7.length c7], .int .i64 14] w (EncPost w0 w g v (oneF14 x0 x1 x2 x3 x4 x5 x6 x7 s)) := by
  unfold oneF14
  have HX1 := Lib.hid hx1
  have HW := Lib.hid hW
  have HB := Lib.hid hB
  have HL := Lib.hid hl
  clear hx1 hW hB hl
  cases x2 with
  | false =>
    have H0 := Lib.hid (St.start (c := #[.int .i64 x0, .int .u8 x1, .bool false, .int .i64 x3, .int .i64 x4, .int .i64 x5, .slice A6 x6.length c6, .slice A7 x7.length c7]) HW.out HB.out)
    have HG := Lib.hid (show w.heap.size ≠ g by have := HW.out.lt; omega)
    obtain ⟨b0_0, b1_0, b2_0, b3_0, b4_0, b5_0, b6_0, b7_0⟩ := box8 H0.out.2.2.2
    have c0_0 := H0.out.c0
    have c1_0 := H0.out.c1
    have f0_0 := H0.out.f0
    go_enter Try.func79, Try.ntmps79
    go_wp2_with fail
    generalize w.alloc (.cells #[.int .i64 x0, .int .u8 x1, .bool false, .int .i64 x3, .int .i64 x4, .int .i64 x5, .slice A6 x6.length c6, .slice A7 x7.length c7] 82) = W0 at *
    have ca : ∀ o, (W0.alloc o).cell? ⟨g, 0, none⟩ = some _ := fun o => pw_cell_below (below_alloc (Below.refl _ _) o) c0_0
    have cb : ∀ o, (W0.alloc o).cell? ⟨w.heap.size, 1, none⟩ = some _ := fun o => pw_cell_below (below_alloc (Below.refl _ _) o) b1_0
    go_region_law (first | (refine elem_step (by rfl) (.tmp 22) (.tmp 25) 87 rfl Try.underlying87 w0.heap.size (H0.out.1.below (drewB _)).2.2 rfl x1 1 (by first | rfl | (go_simp; done) | (simp [World.alloc]; done)) (by have := HL.out; omega) (Nat.le_trans H0.out.2.1.size (drewB _).size) ?_ rfl; intro v9 w9 hm9 hg9 hat9; obtain ⟨A9, m9, c9, rfl⟩ := mrow_sl hm9; have k9 := ew_cell hg9 (H0.out.1.below (drewB _)); have k8 := ew_frozen hg9 (H0.out.1.below (drewB _))))
    all_goals
      have H9 := Lib.hid ((H0.out.quiet HG.out (drewB _)).byte HG.out (b := x1.toNat) (by have := HX1.out; omega) hm9 hg9 hat9)
      clear b0_0 b1_0 b2_0 b3_0 b4_0 b5_0 b6_0 b7_0 c0_0 c1_0 f0_0
      clear hm9 hg9 hat9 k9 k8 ca cb H0
      generalize w9.setCell ⟨g, 0, none⟩ _ = W9 at *
      obtain ⟨b0_9, b1_9, b2_9, b3_9, b4_9, b5_9, b6_9, b7_9⟩ := box8 H9.out.2.2.2
      have c0_9 := H9.out.c0
      have c1_9 := H9.out.c1
      have f0_9 := H9.out.f0
      go_wp2_with fail
      refine (targets_any w0 _ g _ (opS x1 false s) x0 x1 false x3 x4 x5 A6 c6 x6 A7 c7 x7 0 H9.out.1 H9.out.2.1).mono ?_
      rintro e10 w10 ⟨rfl, hb10, hw10, hs10⟩
      have H10 := Lib.hid (H9.out.call HG.out hw10 hb10 hs10)
      clear b0_9 b1_9 b2_9 b3_9 b4_9 b5_9 b6_9 b7_9 c0_9 c1_9 f0_9
      clear hb10 hw10 hs10 H9
      obtain ⟨b0_10, b1_10, b2_10, b3_10, b4_10, b5_10, b6_10, b7_10⟩ := box8 H10.out.2.2.2
      have c0_10 := H10.out.c0
      have c1_10 := H10.out.c1
      have f0_10 := H10.out.f0
      go_wp2_with fail
      refine (unsigned_any w0 _ g _ (tgtS x7 0 (opS x1 false s)) x3 2 2 rfl (by omega) H10.out.1 H10.out.2.1 (by have := HL.out; simp only [opS, tgtS, sgnS, unsS, putS, Bool.false_eq_true, ↓reduceIte, List.length_append, List.length_cons, List.length_nil, bigB_length]; omega)).mono ?_
      rintro e11 w11 ⟨rfl, hb11, v11, hw11, hs11⟩
      have H11 := Lib.hid (H10.out.call HG.out hw11 hb11 hs11)
      clear b0_10 b1_10 b2_10 b3_10 b4_10 b5_10 b6_10 b7_10 c0_10 c1_10 f0_10
      clear hb11 hw11 hs11 H10
      obtain ⟨b0_11, b1_11, b2_11, b3_11, b4_11, b5_11, b6_11, b7_11⟩ := box8 H11.out.2.2.2
      have c0_11 := H11.out.c0
      have c1_11 := H11.out.c1
      have f0_11 := H11.out.f0
      go_wp2_with fail
      refine (put_any w0 _ g _ (unsS x3 2 (tgtS x7 0 (opS x1 false s))) x4 1 1 rfl (by omega) 1 255 H11.out.1 H11.out.2.1 (by have := HL.out; simp only [opS, tgtS, sgnS, unsS, putS, Bool.false_eq_true, ↓reduceIte, List.length_append, List.length_cons, List.length_nil, bigB_length]; omega)).mono ?_
      rintro e12 w12 ⟨rfl, hb12, v12, hw12, hs12⟩
      have H12 := Lib.hid (H11.out.call HG.out hw12 hb12 hs12)
      clear b0_11 b1_11 b2_11 b3_11 b4_11 b5_11 b6_11 b7_11 c0_11 c1_11 f0_11
      clear hb12 hw12 hs12 H11
      obtain ⟨b0_12, b1_12, b2_12, b3_12, b4_12, b5_12, b6_12, b7_12⟩ := box8 H12.out.2.2.2
      have c0_12 := H12.out.c0
      have c1_12 := H12.out.c1
      have f0_12 := H12.out.f0
      go_wp2
      go_end0
      exact H12.out.post
  | true =>
    have H0 := Lib.hid (St.start (c := #[.int .i64 x0, .int .u8 x1, .bool true, .int .i64 x3, .int .i64 x4, .int .i64 x5, .slice A6 x6.length c6, .slice A7 x7.length c7]) HW.out HB.out)
    have HG := Lib.hid (show w.heap.size ≠ g by have := HW.out.lt; omega)
    obtain ⟨b0_0, b1_0, b2_0, b3_0, b4_0, b5_0, b6_0, b7_0⟩ := box8 H0.out.2.2.2
    have c0_0 := H0.out.c0
    have c1_0 := H0.out.c1
    have f0_0 := H0.out.f0
    go_enter Try.func79, Try.ntmps79
    go_wp2_with (at_builtin; refine app_e rfl _ _ 87 rfl Try.underlying87 w0.heap.size H0.out.1.2.2 rfl 196 1 (by first | rfl | (go_simp; done) | (simp [World.alloc]; done)) (by have := HL.out; omega) H0.out.2.1.size ?_ rfl; intro v1 w1 hm1 hg1 hat1; obtain ⟨A1, m1, c1, rfl⟩ := mrow_sl hm1; have k0 := ew_cell hg1 H0.out.1; have k1 := ew_frozen hg1 H0.out.1)
    have H1 := Lib.hid (H0.out.byte HG.out (b := 196) rfl hm1 hg1 hat1)
    clear b0_0 b1_0 b2_0 b3_0 b4_0 b5_0 b6_0 b7_0 c0_0 c1_0 f0_0
    clear hm1 hg1 hat1 k0 k1 H0
    generalize w1.setCell ⟨g, 0, none⟩ _ = W1 at *
    obtain ⟨b0_1, b1_1, b2_1, b3_1, b4_1, b5_1, b6_1, b7_1⟩ := box8 H1.out.2.2.2
    have c0_1 := H1.out.c0
    have c1_1 := H1.out.c1
    have f0_1 := H1.out.f0
    have ca : ∀ o, (W1.alloc o).cell? ⟨g, 0, none⟩ = some _ := fun o => pw_cell_below (below_alloc (Below.refl _ _) o) c0_1
    have cb : ∀ o, (W1.alloc o).cell? ⟨w.heap.size, 1, none⟩ = some _ := fun o => pw_cell_below (below_alloc (Below.refl _ _) o) b1_1
    go_region_law (first | (refine elem_step (by rfl) (.tmp 22) (.tmp 25) 87 rfl Try.underlying87 w0.heap.size (H1.out.1.below (drewB _)).2.2 rfl x1 1 (by first | rfl | (go_simp; done) | (simp [World.alloc]; done)) (by have := HL.out; simp only [List.length_append, List.length_cons, List.length_nil]; omega) (Nat.le_trans H1.out.2.1.size (drewB _).size) ?_ rfl; intro v9 w9 hm9 hg9 hat9; obtain ⟨A9, m9, c9, rfl⟩ := mrow_sl hm9; have k9 := ew_cell hg9 (H1.out.1.below (drewB _)); have k8 := ew_frozen hg9 (H1.out.1.below (drewB _))))
    all_goals
      have H9 := Lib.hid ((H1.out.quiet HG.out (drewB _)).byte HG.out (b := x1.toNat) (by have := HX1.out; omega) hm9 hg9 hat9)
      clear b0_1 b1_1 b2_1 b3_1 b4_1 b5_1 b6_1 b7_1 c0_1 c1_1 f0_1
      clear hm9 hg9 hat9 k9 k8 ca cb H1
      generalize w9.setCell ⟨g, 0, none⟩ _ = W9 at *
      obtain ⟨b0_9, b1_9, b2_9, b3_9, b4_9, b5_9, b6_9, b7_9⟩ := box8 H9.out.2.2.2
      have c0_9 := H9.out.c0
      have c1_9 := H9.out.c1
      have f0_9 := H9.out.f0
      go_wp2_with fail
      refine (targets_any w0 _ g _ (opS x1 true s) x0 x1 true x3 x4 x5 A6 c6 x6 A7 c7 x7 0 H9.out.1 H9.out.2.1).mono ?_
      rintro e10 w10 ⟨rfl, hb10, hw10, hs10⟩
      have H10 := Lib.hid (H9.out.call HG.out hw10 hb10 hs10)
      clear b0_9 b1_9 b2_9 b3_9 b4_9 b5_9 b6_9 b7_9 c0_9 c1_9 f0_9
      clear hb10 hw10 hs10 H9
      obtain ⟨b0_10, b1_10, b2_10, b3_10, b4_10, b5_10, b6_10, b7_10⟩ := box8 H10.out.2.2.2
      have c0_10 := H10.out.c0
      have c1_10 := H10.out.c1
      have f0_10 := H10.out.f0
      go_wp2_with fail
      refine (unsigned_any w0 _ g _ (tgtS x7 0 (opS x1 true s)) x3 2 2 rfl (by omega) H10.out.1 H10.out.2.1 (by have := HL.out; simp only [opS, tgtS, sgnS, unsS, putS, Bool.false_eq_true, ↓reduceIte, List.length_append, List.length_cons, List.length_nil, bigB_length]; omega)).mono ?_
      rintro e11 w11 ⟨rfl, hb11, v11, hw11, hs11⟩
      have H11 := Lib.hid (H10.out.call HG.out hw11 hb11 hs11)
      clear b0_10 b1_10 b2_10 b3_10 b4_10 b5_10 b6_10 b7_10 c0_10 c1_10 f0_10
      clear hb11 hw11 hs11 H10
      obtain ⟨b0_11, b1_11, b2_11, b3_11, b4_11, b5_11, b6_11, b7_11⟩ := box8 H11.out.2.2.2
      have c0_11 := H11.out.c0
      have c1_11 := H11.out.c1
      have f0_11 := H11.out.f0
      go_wp2_with fail
      refine (put_any w0 _ g _ (unsS x3 2 (tgtS x7 0 (opS x1 true s))) x4 1 1 rfl (by omega) 1 255 H11.out.1 H11.out.2.1 (by have := HL.out; simp only [opS, tgtS, sgnS, unsS, putS, Bool.false_eq_true, ↓reduceIte, List.length_append, List.length_cons, List.length_nil, bigB_length]; omega)).mono ?_
      rintro e12 w12 ⟨rfl, hb12, v12, hw12, hs12⟩
      have H12 := Lib.hid (H11.out.call HG.out hw12 hb12 hs12)
      clear b0_11 b1_11 b2_11 b3_11 b4_11 b5_11 b6_11 b7_11 c0_11 c1_11 f0_11
      clear hb12 hw12 hs12 H11
      obtain ⟨b0_12, b1_12, b2_12, b3_12, b4_12, b5_12, b6_12, b7_12⟩ := box8 H12.out.2.2.2
      have c0_12 := H12.out.c0
      have c1_12 := H12.out.c1
      have f0_12 := H12.out.f0
      go_wp2
      go_end0
      exact H12.out.post
end Go.Proofs.Ytfnjbmpolggdeaa.CW
end
section
namespace Go.Proofs.Ytfnjbmpolggdeaa.CW
open Go.RowKit Go.Lib Go.Proofs.YtfnjbmpolggdeaaW.PrintWords Go.Proofs.YtfnjbmpolggdeaaW.PrintLast Go.Proofs.YtfnjbmpolggdeaaW.PrintMore
set_option linter.unusedVariables false
set_option linter.unusedSimpArgs false
attribute [local go_sem] max2_int min2_int max_two min_two max_three min_three max_four min_four
def oneF8 (x0 x1 : Int) (x2 : Bool) (x3 x4 x5 : Int) (x6 x7 : List Int) (s : List Nat × Bool) : List Nat × Bool := if (tgtS x7 1 (opS x1 x2 s)).2 = true then sgnS (IntKind.i64.wrap (rd x7 0 - x0)) 2 (tgtS x7 1 (opS x1 x2 s)) else tgtS x7 1 (opS x1 x2 s)
set_option maxHeartbeats 8000000 in
set_option maxRecDepth 100000 in
theorem one_f8 (w0 w : World) (g : Nat) (v : Value) (s : List Nat × Bool) (x0 x1 : Int) (x2 : Bool) (x3 x4 x5 : Int) (A6 : Option Addr) (c6 : Nat) (x6 : List Int) (A7 : Option Addr) (c7 : Nat) (x7 : List Int) (hx1 : 0 ≤ x1 ∧ x1 < 256) (hr7 : Kd.C (Kd.int .i64) w0 A7 x7.length x7) (hW : BW w0.heap.size w g 114 (ewC s.2) v s.1) (hB : Below w0.heap.size w0 w) (hl : s.1.length + 100 ≤ 140737488355328) :
    Calls Try.prog 79 #[.pointer (some ⟨g, 0, none⟩), .agg #[.int .i64 x0, .int .u8 x1, .bool x2, .int .i64 x3, .int .i64 x4, .int .i64 x5, .slice A6 x6.length c6, .slice A7 x7.length c7], .int .i64 8] w (EncPost w0 w g v (oneF8 x0 x1 x2 x3 x4 x5 x6 x7 s)) := by

  have HX1 := Lib.hid hx1
  have HW := Lib.hid hW
  have HB := Lib.hid hB
  have HL := Lib.hid hl
  clear hx1 hW hB hl
  have H7 := Lib.hid hr7
  clear hr7
  cases x2 with
  | false =>
    have H0 := Lib.hid (St.start (c := #[.int .i64 x0, .int .u8 x1, .bool false, .int .i64 x3, .int .i64 x4, .int .i64 x5, .slice A6 x6.length c6, .slice A7 x7.length c7]) HW.out HB.out)
    have HG := Lib.hid (show w.heap.size ≠ g by have := HW.out.lt; omega)
    obtain ⟨b0_0, b1_0, b2_0, b3_0, b4_0, b5_0, b6_0, b7_0⟩ := box8 H0.out.2.2.2
    have c0_0 := H0.out.c0
    have c1_0 := H0.out.c1
    have f0_0 := H0.out.f0
    go_enter Try.func79, Try.ntmps79
    go_wp2_with fail
    generalize w.alloc (.cells #[.int .i64 x0, .int .u8 x1, .bool false, .int .i64 x3, .int .i64 x4, .int .i64 x5, .slice A6 x6.length c6, .slice A7 x7.length c7] 82) = W0 at *
    have ca : ∀ o, (W0.alloc o).cell? ⟨g, 0, none⟩ = some _ := fun o => pw_cell_below (below_alloc (Below.refl _ _) o) c0_0
    have cb : ∀ o, (W0.alloc o).cell? ⟨w.heap.size, 1, none⟩ = some _ := fun o => pw_cell_below (below_alloc (Below.refl _ _) o) b1_0
    go_region_law (first | (refine elem_step (by rfl) (.tmp 22) (.tmp 25) 87 rfl Try.underlying87 w0.heap.size (H0.out.1.below (drewB _)).2.2 rfl x1 1 (by first | rfl | (go_simp; done) | (simp [World.alloc]; done)) (by have := HL.out; omega) (Nat.le_trans H0.out.2.1.size (drewB _).size) ?_ rfl; intro v9 w9 hm9 hg9 hat9; obtain ⟨A9, m9, c9, rfl⟩ := mrow_sl hm9; have k9 := ew_cell hg9 (H0.out.1.below (drewB _)); have k8 := ew_frozen hg9 (H0.out.1.below (drewB _))))
    all_goals
      have H9 := Lib.hid ((H0.out.quiet HG.out (drewB _)).byte HG.out (b := x1.toNat) (by have := HX1.out; omega) hm9 hg9 hat9)
      clear b0_0 b1_0 b2_0 b3_0 b4_0 b5_0 b6_0 b7_0 c0_0 c1_0 f0_0
      clear hm9 hg9 hat9 k9 k8 ca cb H0
      generalize w9.setCell ⟨g, 0, none⟩ _ = W9 at *
      obtain ⟨b0_9, b1_9, b2_9, b3_9, b4_9, b5_9, b6_9, b7_9⟩ := box8 H9.out.2.2.2
      have c0_9 := H9.out.c0
      have c1_9 := H9.out.c1
      have f0_9 := H9.out.f0
      go_wp2_with fail
      refine (targets_any w0 _ g _ (opS x1 false s) x0 x1 false x3 x4 x5 A6 c6 x6 A7 c7 x7 1 H9.out.1 H9.out.2.1).mono ?_
      rintro e10 w10 ⟨rfl, hb10, hw10, hs10⟩
      have H10 := Lib.hid (H9.out.call HG.out hw10 hb10 hs10)
      clear b0_9 b1_9 b2_9 b3_9 b4_9 b5_9 b6_9 b7_9 c0_9 c1_9 f0_9
      clear hb10 hw10 hs10 H9
      obtain ⟨b0_10, b1_10, b2_10, b3_10, b4_10, b5_10, b6_10, b7_10⟩ := box8 H10.out.2.2.2
      have c0_10 := H10.out.c0
      have c1_10 := H10.out.c1
      have f0_10 := H10.out.f0
      cases hq : (tgtS x7 1 (opS x1 false s)).2 with
      | false =>
        have HQ := Lib.hid hq
        clear hq
        go_wp2
        go_end0
        unfold oneF8
        rw [if_neg (by rw [HQ.out]; simp)]
        exact H10.out.post
      | true =>
        have hlen : x7.length = 1 := by have := hq; simp only [tgtS, Bool.and_eq_true, beq_iff_eq] at this; omega
        obtain ⟨ad, e7, y0⟩ := Kd.at_int H7.out 0 (by omega) (by omega)
        subst e7
        have y1 := pw_cell_below H10.out.2.1 y0
        have y2 := pw_cell_below (drewB _) y1
        have e0 : ad.add 0 = ad := by cases ad; unfold Addr.add; split <;> simp_all
        simp only [Int.toNat_zero, e0] at y1 y2
        have z0 : (0 : Int) < (x7.length : Int) := by omega
        have z1 : 0 < x7.length := by omega
        have HQ := Lib.hid hq
        clear y0 hlen hq
        go_wp2_with fail
        go_region_law (first | (go_simp; refine (signed_any w0 _ g _ (tgtS x7 1 (opS x1 false s)) (IntKind.i64.wrap (rd x7 0 - x0)) 2 2 rfl (by omega) (H10.out.1.below (drewB _)) (below_then H10.out.2.1 H10.out.2.1.size (drewB _)) (by have := HL.out; simp only [opS, tgtS, Bool.false_eq_true, ↓reduceIte, List.length_append, List.length_cons, List.length_nil]; omega)).mono ?_; rintro e11 w11 ⟨rfl, hb11, v11, hw11, hs11⟩; dsimp only))
        all_goals
          go_wp2
          go_end0
          unfold oneF8
          rw [if_pos HQ.out]
          exact ((H10.out.quiet HG.out (drewB _)).call HG.out hw11 hb11 hs11).post
  | true =>
    have H0 := Lib.hid (St.start (c := #[.int .i64 x0, .int .u8 x1, .bool true, .int .i64 x3, .int .i64 x4, .int .i64 x5, .slice A6 x6.length c6, .slice A7 x7.length c7]) HW.out HB.out)
    have HG := Lib.hid (show w.heap.size ≠ g by have := HW.out.lt; omega)
    obtain ⟨b0_0, b1_0, b2_0, b3_0, b4_0, b5_0, b6_0, b7_0⟩ := box8 H0.out.2.2.2
    have c0_0 := H0.out.c0
    have c1_0 := H0.out.c1
    have f0_0 := H0.out.f0
    go_enter Try.func79, Try.ntmps79
    go_wp2_with (at_builtin; refine app_e rfl _ _ 87 rfl Try.underlying87 w0.heap.size H0.out.1.2.2 rfl 196 1 (by first | rfl | (go_simp; done) | (simp [World.alloc]; done)) (by have := HL.out; omega) H0.out.2.1.size ?_ rfl; intro v1 w1 hm1 hg1 hat1; obtain ⟨A1, m1, c1, rfl⟩ := mrow_sl hm1; have k0 := ew_cell hg1 H0.out.1; have k1 := ew_frozen hg1 H0.out.1)
    have H1 := Lib.hid (H0.out.byte HG.out (b := 196) rfl hm1 hg1 hat1)
    clear b0_0 b1_0 b2_0 b3_0 b4_0 b5_0 b6_0 b7_0 c0_0 c1_0 f0_0
    clear hm1 hg1 hat1 k0 k1 H0
    generalize w1.setCell ⟨g, 0, none⟩ _ = W1 at *
    obtain ⟨b0_1, b1_1, b2_1, b3_1, b4_1, b5_1, b6_1, b7_1⟩ := box8 H1.out.2.2.2
    have c0_1 := H1.out.c0
    have c1_1 := H1.out.c1
    have f0_1 := H1.out.f0
    have ca : ∀ o, (W1.alloc o).cell? ⟨g, 0, none⟩ = some _ := fun o => pw_cell_below (below_alloc (Below.refl _ _) o) c0_1
    have cb : ∀ o, (W1.alloc o).cell? ⟨w.heap.size, 1, none⟩ = some _ := fun o => pw_cell_below (below_alloc (Below.refl _ _) o) b1_1
    go_region_law (first | (refine elem_step (by rfl) (.tmp 22) (.tmp 25) 87 rfl Try.underlying87 w0.heap.size (H1.out.1.below (drewB _)).2.2 rfl x1 1 (by first | rfl | (go_simp; done) | (simp [World.alloc]; done)) (by have := HL.out; simp only [List.length_append, List.length_cons, List.length_nil]; omega) (Nat.le_trans H1.out.2.1.size (drewB _).size) ?_ rfl; intro v9 w9 hm9 hg9 hat9; obtain ⟨A9, m9, c9, rfl⟩ := mrow_sl hm9; have k9 := ew_cell hg9 (H1.out.1.below (drewB _)); have k8 := ew_frozen hg9 (H1.out.1.below (drewB _))))
    all_goals
      have H9 := Lib.hid ((H1.out.quiet HG.out (drewB _)).byte HG.out (b := x1.toNat) (by have := HX1.out; omega) hm9 hg9 hat9)
      clear b0_1 b1_1 b2_1 b3_1 b4_1 b5_1 b6_1 b7_1 c0_1 c1_1 f0_1
      clear hm9 hg9 hat9 k9 k8 ca cb H1
      generalize w9.setCell ⟨g, 0, none⟩ _ = W9 at *
      obtain ⟨b0_9, b1_9, b2_9, b3_9, b4_9, b5_9, b6_9, b7_9⟩ := box8 H9.out.2.2.2
      have c0_9 := H9.out.c0
      have c1_9 := H9.out.c1
      have f0_9 := H9.out.f0
      go_wp2_with fail
      refine (targets_any w0 _ g _ (opS x1 true s) x0 x1 true x3 x4 x5 A6 c6 x6 A7 c7 x7 1 H9.out.1 H9.out.2.1).mono ?_
      rintro e10 w10 ⟨rfl, hb10, hw10, hs10⟩
      have H10 := Lib.hid (H9.out.call HG.out hw10 hb10 hs10)
      clear b0_9 b1_9 b2_9 b3_9 b4_9 b5_9 b6_9 b7_9 c0_9 c1_9 f0_9
      clear hb10 hw10 hs10 H9
      obtain ⟨b0_10, b1_10, b2_10, b3_10, b4_10, b5_10, b6_10, b7_10⟩ := box8 H10.out.2.2.2
      have c0_10 := H10.out.c0
      have c1_10 := H10.out.c1
      have f0_10 := H10.out.f0
      cases hq : (tgtS x7 1 (opS x1 true s)).2 with
      | false =>
        have HQ := Lib.hid hq
        clear hq
        go_wp2
        go_end0
        unfold oneF8
        rw [if_neg (by rw [HQ.out]; simp)]
        exact H10.out.post
      | true =>
        have hlen : x7.length = 1 := by have := hq; simp only [tgtS, Bool.and_eq_true, beq_iff_eq] at this; omega
        obtain ⟨ad, e7, y0⟩ := Kd.at_int H7.out 0 (by omega) (by omega)
        subst e7
        have y1 := pw_cell_below H10.out.2.1 y0
        have y2 := pw_cell_below (drewB _) y1
        have e0 : ad.add 0 = ad := by cases ad; unfold Addr.add; split <;> simp_all
        simp only [Int.toNat_zero, e0] at y1 y2
        have z0 : (0 : Int) < (x7.length : Int) := by omega
        have z1 : 0 < x7.length := by omega
        have HQ := Lib.hid hq
        clear y0 hlen hq
        go_wp2_with fail
        go_region_law (first | (go_simp; refine (signed_any w0 _ g _ (tgtS x7 1 (opS x1 true s)) (IntKind.i64.wrap (rd x7 0 - x0)) 2 2 rfl (by omega) (H10.out.1.below (drewB _)) (below_then H10.out.2.1 H10.out.2.1.size (drewB _)) (by have := HL.out; simp only [opS, tgtS, Bool.false_eq_true, ↓reduceIte, List.length_append, List.length_cons, List.length_nil]; omega)).mono ?_; rintro e11 w11 ⟨rfl, hb11, v11, hw11, hs11⟩; dsimp only))
        all_goals
          go_wp2
          go_end0
          unfold oneF8
          rw [if_pos HQ.out]
          exact ((H10.out.quiet HG.out (drewB _)).call HG.out hw11 hb11 hs11).post
def oneF9 (x0 x1 : Int) (x2 : Bool) (x3 x4 x5 : Int) (x6 x7 : List Int) (s : List Nat × Bool) : List Nat × Bool := if (tgtS x7 1 (opS x1 x2 s)).2 = true then sgnS (IntKind.i64.wrap (rd x7 0 - x0)) 4 (tgtS x7 1 (opS x1 x2 s)) else tgtS x7 1 (opS x1 x2 s)
set_option maxHeartbeats 8000000 in
set_option maxRecDepth 100000 in
theorem one_f9 (w0 w : World) (g : Nat) (v : Value) (s : List Nat × Bool) (x0 x1 : Int) (x2 : Bool) (x3 x4 x5 : Int) (A6 : Option Addr) (c6 : Nat) (x6 : List Int) (A7 : Option Addr) (c7 : Nat) (x7 : List Int) (hx1 : 0 ≤ x1 ∧ x1 < 256) (hr7 : Kd.C (Kd.int .i64) w0 A7 x7.length x7) (hW : BW w0.heap.size w g 114 (ewC s.2) v s.1) (hB : Below w0.heap.size w0 w) (hl : s.1.length + 100 ≤ 140737488355328) :
    Calls Try.prog 79 #[.pointer (some ⟨g, 0, none⟩), .agg #[.int .i64 x0, .int .u8 x1, .bool x2, .int .i64 x3, .int .i64 x4, .int .i64 x5, .slice A6 x6.length c6, .slice A7 x7.length c7], .int .i64 9] w (EncPost w0 w g v (oneF9 x0 x1 x2 x3 x4 x5 x6 x7 s)) := by

  have HX1 := Lib.hid hx1
  have HW := Lib.hid hW
  have HB := Lib.hid hB
  have HL := Lib.hid hl
  clear hx1 hW hB hl
  have H7 := Lib.hid hr7
  clear hr7
  cases x2 with
  | false =>
    have H0 := Lib.hid (St.start (c := #[.int .i64 x0, .int .u8 x1, .bool false, .int .i64 x3, .int .i64 x4, .int .i64 x5, .slice A6 x6.length c6, .slice A7 x7.length c7]) HW.out HB.out)
    have HG := Lib.hid (show w.heap.size ≠ g by have := HW.out.lt; omega)
    obtain ⟨b0_0, b1_0, b2_0, b3_0, b4_0, b5_0, b6_0, b7_0⟩ := box8 H0.out.2.2.2
    have c0_0 := H0.out.c0
    have c1_0 := H0.out.c1
    have f0_0 := H0.out.f0
    go_enter Try.func79, Try.ntmps79
    go_wp2_with fail
    generalize w.alloc (.cells #[.int .i64 x0, .int .u8 x1, .bool false, .int .i64 x3, .int .i64 x4, .int .i64 x5, .slice A6 x6.length c6, .slice A7 x7.length c7] 82) = W0 at *
    have ca : ∀ o, (W0.alloc o).cell? ⟨g, 0, none⟩ = some _ := fun o => pw_cell_below (below_alloc (Below.refl _ _) o) c0_0
    have cb : ∀ o, (W0.alloc o).cell? ⟨w.heap.size, 1, none⟩ = some _ := fun o => pw_cell_below (below_alloc (Below.refl _ _) o) b1_0
    go_region_law (first | (refine elem_step (by rfl) (.tmp 22) (.tmp 25) 87 rfl Try.underlying87 w0.heap.size (H0.out.1.below (drewB _)).2.2 rfl x1 1 (by first | rfl | (go_simp; done) | (simp [World.alloc]; done)) (by have := HL.out; omega) (Nat.le_trans H0.out.2.1.size (drewB _).size) ?_ rfl; intro v9 w9 hm9 hg9 hat9; obtain ⟨A9, m9, c9, rfl⟩ := mrow_sl hm9; have k9 := ew_cell hg9 (H0.out.1.below (drewB _)); have k8 := ew_frozen hg9 (H0.out.1.below (drewB _))))
    all_goals
      have H9 := Lib.hid ((H0.out.quiet HG.out (drewB _)).byte HG.out (b := x1.toNat) (by have := HX1.out; omega) hm9 hg9 hat9)
      clear b0_0 b1_0 b2_0 b3_0 b4_0 b5_0 b6_0 b7_0 c0_0 c1_0 f0_0
      clear hm9 hg9 hat9 k9 k8 ca cb H0
      generalize w9.setCell ⟨g, 0, none⟩ _ = W9 at *
      obtain ⟨b0_9, b1_9, b2_9, b3_9, b4_9, b5_9, b6_9, b7_9⟩ := box8 H9.out.2.2.2
      have c0_9 := H9.out.c0
      have c1_9 := H9.out.c1
      have f0_9 := H9.out.f0
      go_wp2_with fail
      refine (targets_any w0 _ g _ (opS x1 false s) x0 x1 false x3 x4 x5 A6 c6 x6 A7 c7 x7 1 H9.out.1 H9.out.2.1).mono ?_
      rintro e10 w10 ⟨rfl, hb10, hw10, hs10⟩
      have H10 := Lib.hid (H9.out.call HG.out hw10 hb10 hs10)
      clear b0_9 b1_9 b2_9 b3_9 b4_9 b5_9 b6_9 b7_9 c0_9 c1_9 f0_9
      clear hb10 hw10 hs10 H9
      obtain ⟨b0_10, b1_10, b2_10, b3_10, b4_10, b5_10, b6_10, b7_10⟩ := box8 H10.out.2.2.2
      have c0_10 := H10.out.c0
      have c1_10 := H10.out.c1
      have f0_10 := H10.out.f0
      cases hq : (tgtS x7 1 (opS x1 false s)).2 with
      | false =>
        have HQ := Lib.hid hq
        clear hq
        go_wp2
        go_end0
        unfold oneF9
        rw [if_neg (by rw [HQ.out]; simp)]
        exact H10.out.post
      | true =>
        have hlen : x7.length = 1 := by have := hq; simp only [tgtS, Bool.and_eq_true, beq_iff_eq] at this; omega
        obtain ⟨ad, e7, y0⟩ := Kd.at_int H7.out 0 (by omega) (by omega)
        subst e7
        have y1 := pw_cell_below H10.out.2.1 y0
        have y2 := pw_cell_below (drewB _) y1
        have e0 : ad.add 0 = ad := by cases ad; unfold Addr.add; split <;> simp_all
        simp only [Int.toNat_zero, e0] at y1 y2
        have z0 : (0 : Int) < (x7.length : Int) := by omega
        have z1 : 0 < x7.length := by omega
        have HQ := Lib.hid hq
        clear y0 hlen hq
        go_wp2_with fail
        go_region_law (first | (go_simp; refine (signed_any w0 _ g _ (tgtS x7 1 (opS x1 false s)) (IntKind.i64.wrap (rd x7 0 - x0)) 4 4 rfl (by omega) (H10.out.1.below (drewB _)) (below_then H10.out.2.1 H10.out.2.1.size (drewB _)) (by have := HL.out; simp only [opS, tgtS, Bool.false_eq_true, ↓reduceIte, List.length_append, List.length_cons, List.length_nil]; omega)).mono ?_; rintro e11 w11 ⟨rfl, hb11, v11, hw11, hs11⟩; dsimp only))
        all_goals
          go_wp2
          go_end0
          unfold oneF9
          rw [if_pos HQ.out]
          exact ((H10.out.quiet HG.out (drewB _)).call HG.out hw11 hb11 hs11).post
  | true =>
    have H0 := Lib.hid (St.start (c := #[.int .i64 x0, .int .u8 x1, .bool true, .int .i64 x3, .int .i64 x4, .int .i64 x5, .slice A6 x6.length c6, .slice A7 x7.length c7]) HW.out HB.out)
    have HG := Lib.hid (show w.heap.size ≠ g by have := HW.out.lt; omega)
    obtain ⟨b0_0, b1_0, b2_0, b3_0, b4_0, b5_0, b6_0, b7_0⟩ := box8 H0.out.2.2.2
    have c0_0 := H0.out.c0
    have c1_0 := H0.out.c1
    have f0_0 := H0.out.f0
    go_enter Try.func79, Try.ntmps79
    go_wp2_with (at_builtin; refine app_e rfl _ _ 87 rfl Try.underlying87 w0.heap.size H0.out.1.2.2 rfl 196 1 (by first | rfl | (go_simp; done) | (simp [World.alloc]; done)) (by have := HL.out; omega) H0.out.2.1.size ?_ rfl; intro v1 w1 hm1 hg1 hat1; obtain ⟨A1, m1, c1, rfl⟩ := mrow_sl hm1; have k0 := ew_cell hg1 H0.out.1; have k1 := ew_frozen hg1 H0.out.1)
    have H1 := Lib.hid (H0.out.byte HG.out (b := 196) rfl hm1 hg1 hat1)
    clear b0_0 b1_0 b2_0 b3_0 b4_0 b5_0 b6_0 b7_0 c0_0 c1_0 f0_0
    clear hm1 hg1 hat1 k0 k1 H0
    generalize w1.setCell ⟨g, 0, none⟩ _ = W1 at *
    obtain ⟨b0_1, b1_1, b2_1, b3_1, b4_1, b5_1, b6_1, b7_1⟩ := box8 H1.out.2.2.2
    have c0_1 := H1.out.c0
    have c1_1 := H1.out.c1
    have f0_1 := H1.out.f0
    have ca : ∀ o, (W1.alloc o).cell? ⟨g, 0, none⟩ = some _ := fun o => pw_cell_below (below_alloc (Below.refl _ _) o) c0_1
    have cb : ∀ o, (W1.alloc o).cell? ⟨w.heap.size, 1, none⟩ = some _ := fun o => pw_cell_below (below_alloc (Below.refl _ _) o) b1_1
    go_region_law (first | (refine elem_step (by rfl) (.tmp 22) (.tmp 25) 87 rfl Try.underlying87 w0.heap.size (H1.out.1.below (drewB _)).2.2 rfl x1 1 (by first | rfl | (go_simp; done) | (simp [World.alloc]; done)) (by have := HL.out; simp only [List.length_append, List.length_cons, List.length_nil]; omega) (Nat.le_trans H1.out.2.1.size (drewB _).size) ?_ rfl; intro v9 w9 hm9 hg9 hat9; obtain ⟨A9, m9, c9, rfl⟩ := mrow_sl hm9; have k9 := ew_cell hg9 (H1.out.1.below (drewB _)); have k8 := ew_frozen hg9 (H1.out.1.below (drewB _))))
    all_goals
      have H9 := Lib.hid ((H1.out.quiet HG.out (drewB _)).byte HG.out (b := x1.toNat) (by have := HX1.out; omega) hm9 hg9 hat9)
      clear b0_1 b1_1 b2_1 b3_1 b4_1 b5_1 b6_1 b7_1 c0_1 c1_1 f0_1
      clear hm9 hg9 hat9 k9 k8 ca cb H1
      generalize w9.setCell ⟨g, 0, none⟩ _ = W9 at *
      obtain ⟨b0_9, b1_9, b2_9, b3_9, b4_9, b5_9, b6_9, b7_9⟩ := box8 H9.out.2.2.2
      have c0_9 := H9.out.c0
      have c1_9 := H9.out.c1
      have f0_9 := H9.out.f0
      go_wp2_with fail
      refine (targets_any w0 _ g _ (opS x1 true s) x0 x1 true x3 x4 x5 A6 c6 x6 A7 c7 x7 1 H9.out.1 H9.out.2.1).mono ?_
      rintro e10 w10 ⟨rfl, hb10, hw10, hs10⟩
      have H10 := Lib.hid (H9.out.call HG.out hw10 hb10 hs10)
      clear b0_9 b1_9 b2_9 b3_9 b4_9 b5_9 b6_9 b7_9 c0_9 c1_9 f0_9
      clear hb10 hw10 hs10 H9
      obtain ⟨b0_10, b1_10, b2_10, b3_10, b4_10, b5_10, b6_10, b7_10⟩ := box8 H10.out.2.2.2
      have c0_10 := H10.out.c0
      have c1_10 := H10.out.c1
      have f0_10 := H10.out.f0
      cases hq : (tgtS x7 1 (opS x1 true s)).2 with
      | false =>
        have HQ := Lib.hid hq
        clear hq
        go_wp2
        go_end0
        unfold oneF9
        rw [if_neg (by rw [HQ.out]; simp)]
        exact H10.out.post
      | true =>
        have hlen : x7.length = 1 := by have := hq; simp only [tgtS, Bool.and_eq_true, beq_iff_eq] at this; omega
        obtain ⟨ad, e7, y0⟩ := Kd.at_int H7.out 0 (by omega) (by omega)
        subst e7
        have y1 := pw_cell_below H10.out.2.1 y0
        have y2 := pw_cell_below (drewB _) y1
        have e0 : ad.add 0 = ad := by cases ad; unfold Addr.add; split <;> simp_all
        simp only [Int.toNat_zero, e0] at y1 y2
        have z0 : (0 : Int) < (x7.length : Int) := by omega
        have z1 : 0 < x7.length := by omega
        have HQ := Lib.hid hq
        clear y0 hlen hq
        go_wp2_with fail
        go_region_law (first | (go_simp; refine (signed_any w0 _ g _ (tgtS x7 1 (opS x1 true s)) (IntKind.i64.wrap (rd x7 0 - x0)) 4 4 rfl (by omega) (H10.out.1.below (drewB _)) (below_then H10.out.2.1 H10.out.2.1.size (drewB _)) (by have := HL.out; simp only [opS, tgtS, Bool.false_eq_true, ↓reduceIte, List.length_append, List.length_cons, List.length_nil]; omega)).mono ?_; rintro e11 w11 ⟨rfl, hb11, v11, hw11, hs11⟩; dsimp only))
        all_goals
          go_wp2
          go_end0
          unfold oneF9
          rw [if_pos HQ.out]
          exact ((H10.out.quiet HG.out (drewB _)).call HG.out hw11 hb11 hs11).post
end Go.Proofs.Ytfnjbmpolggdeaa.CW
end
section
namespace Go.Proofs.Ytfnjbmpolggdeaa.CW
open Go.RowKit Go.Lib Go.Proofs.YtfnjbmpolggdeaaW.PrintWords Go.Proofs.YtfnjbmpolggdeaaW.PrintLast Go.Proofs.YtfnjbmpolggdeaaW.PrintMore
set_option linter.unusedVariables false
set_option linter.unusedSimpArgs false
def padN (n : Nat) : Nat := (4 - n % 4) % 4
def padB (l : List Nat) : List Nat := l ++ List.replicate (padN l.length) 0
def rndS (x0 : Int) (x6 x7 : List Int) (f : Int) (k : Nat) (s : List Nat × Bool) : List Nat × Bool :=
  sgnS (wrap64 (rd x7 ((k : Int) + 1) - x0)) 4 (if f = 11 then sgnS (rd x6 k) 4 (s.1, s.2 && ((k : Int) == 0 || decide (rd x6 ((k : Int) - 1) < rd x6 k))) else s)
def rowsS (x0 : Int) (x6 x7 : List Int) (f : Int) : Nat → List Nat × Bool → List Nat × Bool
  | 0, s => s
  | k + 1, s => rndS x0 x6 x7 f k (rowsS x0 x6 x7 f k s)
def headS (x0 x5 : Int) (x7 : List Int) (f : Int) (s : List Nat × Bool) : List Nat × Bool :=
  if f = 10 then sgnS (wrap64 (wrap64 (x5 + ((x7.length : Int) - 1)) - 1)) 4 (sgnS x5 4 (sgnS (wrap64 (rd x7 0 - x0)) 4 (padB s.1, s.2)))
  else sgnS ((x7.length : Int) - 1) 4 (sgnS (wrap64 (rd x7 0 - x0)) 4 (padB s.1, s.2))
def choS (x0 x5 : Int) (x6 x7 : List Int) (f : Int) (s : List Nat × Bool) : List Nat × Bool :=
  if x7.length = 0 ∨ (f = 10 ∧ x7.length = 1) ∨ (f = 11 ∧ x7.length ≠ x6.length + 1) then (padB s.1, false) else rowsS x0 x6 x7 f (x7.length - 1) (headS x0 x5 x7 f s)
theorem sgn_len (x : Int) (m : Nat) (s : List Nat × Bool) : (sgnS x m s).1.length = s.1.length + m := by simp [sgnS, putS, bigB_length]
theorem rnd_len (x0 : Int) (x6 x7 : List Int) (f : Int) (k : Nat) (s : List Nat × Bool) : (rndS x0 x6 x7 f k s).1.length ≤ s.1.length + 8 := by
  unfold rndS
  rw [sgn_len]
  split
  · rw [sgn_len]; show s.1.length + 4 + 4 ≤ _; omega
  · omega
theorem wk_of {k N n m : Nat} (h1 : k < N) (h2 : n = N + 1) (h3 : m + 103 + 8 * n ≤ 140737488355328) : wrap64 ((k : Int) + 1) = ((k + 1 : Nat) : Int) := by unfold wrap64; omega
theorem ms_of {k N : Nat} (h : k < N) : N - (k + 1) < N - k := by omega
theorem ms_val {k N : Nat} {v : Value} (h : k < N) (hv : v = .int .i64 ((k + 1 : Nat) : Int)) : N - (intOf v).toNat < N - (intOf (.int .i64 (k : Int))).toNat := by
  subst hv
  show N - (((k + 1 : Nat) : Int)).toNat < N - ((k : Int)).toNat
  rw [Int.toNat_natCast, Int.toNat_natCast]; omega
theorem rows10 (x0 : Int) (x6 x7 : List Int) (k : Nat) (t : List Nat × Bool) : rowsS x0 x6 x7 10 (k + 1) t = sgnS (wrap64 (rd x7 ((k : Int) + 1) - x0)) 4 (rowsS x0 x6 x7 10 k t) := by
  simp only [rowsS, rndS]
  rw [if_neg (by decide)]
theorem rows11 (x0 : Int) (x6 x7 : List Int) (k : Nat) (t : List Nat × Bool) : rowsS x0 x6 x7 11 (k + 1) t = sgnS (wrap64 (rd x7 ((k : Int) + 1) - x0)) 4 (sgnS (rd x6 k) 4 ((rowsS x0 x6 x7 11 k t).1, (rowsS x0 x6 x7 11 k t).2 && ((k : Int) == 0 || decide (rd x6 ((k : Int) - 1) < rd x6 k)))) := by
  simp only [rowsS, rndS, if_true]
theorem rows_len (x0 : Int) (x6 x7 : List Int) (f : Int) : ∀ (k : Nat) (s : List Nat × Bool), (rowsS x0 x6 x7 f k s).1.length ≤ s.1.length + 8 * k
  | 0, s => by simp [rowsS]
  | k + 1, s => by
    have := rnd_len x0 x6 x7 f k (rowsS x0 x6 x7 f k s)
    have := rows_len x0 x6 x7 f k s
    simp only [rowsS]
    omega
theorem pad_len (l : List Nat) : (padB l).length ≤ l.length + 3 := by unfold padB padN; rw [List.length_append, List.length_replicate]; omega
theorem head_len (x0 x5 : Int) (x7 : List Int) (f : Int) (s : List Nat × Bool) : (headS x0 x5 x7 f s).1.length ≤ s.1.length + 15 := by
  have := pad_len s.1
  unfold headS
  split
  · simp only [sgn_len]; omega
  · simp only [sgn_len]; omega
theorem St.f1 {w0 w W : World} {g bx : Nat} {v V : Value} {o : Obj} {s : List Nat × Bool} (h : St w0 w g v bx o s W V) : W.frozen? ⟨g, 1, none⟩ = false := blk_frozen h.1.1 1
theorem St.setok {w0 w W : World} {g bx : Nat} {v V : Value} {c : Array Value} {s : List Nat × Bool} (h : St w0 w g v bx (.cells c 82 (0, 0)) s W V) (hbx : bx ≠ g) (b : Bool) : St w0 w g v bx (.cells c 82 (0, 0)) (s.1, b) (W.setCell ⟨g, 1, none⟩ (.bool b)) V :=
  h.call hbx (s1 := (s.1, b)) (ew_set h.1 b).1 (h.2.1.setCell (p := ⟨g, 1, none⟩) h.1.2.1 _) (ew_set h.1 b).2
def padM (g : Nat) (W : World) : Nat := match W.cell? ⟨g, 0, none⟩ with | some (.slice _ n _) => padN n | _ => 0
theorem padM_at {g : Nat} {W : World} {A : Option Addr} {n c : Nat} (h : W.cell? ⟨g, 0, none⟩ = some (.slice A n c)) : padM g W = padN n := by unfold padM; rw [h]
theorem St.sl {w0 w W : World} {g bx : Nat} {v V : Value} {o : Obj} {s : List Nat × Bool} (h : St w0 w g v bx o s W V) (n : Nat) (hn : s.1.length = n) : ∃ A c, V = .slice A n c := by subst hn; exact mrow_slice h.1.2.2
end Go.Proofs.Ytfnjbmpolggdeaa.CW
end
