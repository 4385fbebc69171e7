/-
  maps.writer.fail, the closure of maps.writer.values, slices.IndexFunc with it, and values.
-/
import Derived.Test.YtfnjbmpolggdeaaMRx16
import Derived.Test.YtfnjbmpolggdeaaMapNum
import Derived.Test.YtfnjbmpolggdeaaMRGMPool
namespace Go.Proofs.Ytfnjbmpolggdeaa.MR
open Go.RowKit Go.Proofs.YtfnjbmpolggdeaaW.PrintWords Go.Proofs.YtfnjbmpolggdeaaW.PrintLast Go.Proofs.YtfnjbmpolggdeaaW.PrintMore
set_option linter.unusedVariables false
set_option linter.unusedSimpArgs false
def failE (er x : Int) : Int := if er = 0 then x else er
def FailPost (w0 w : World) (g : Nat) (v : Value) (A : Option Addr) (n c : Nat) (er : Int) (l : List Nat) (e : Ending) (w' : World) : Prop :=
  e = .returned (.tuple #[]) ∧ Below w0.heap.size w0 w' ∧ BW w0.heap.size w' g 92 (mwC A n c er) v l ∧ BS w g v w' v
set_option maxHeartbeats 2000000 in
set_option maxRecDepth 100000 in
theorem mapFail_any (w0 w : World) (g : Nat) (A : Option Addr) (n c : Nat) (er : Int) (v : Value) (l : List Nat) (x : Int) (hW : BW w0.heap.size w g 92 (mwC A n c er) v l) (hB : Below w0.heap.size w0 w) :
    Calls Try.prog 139 #[.pointer (some ⟨g, 0, none⟩), .int .i64 x] w (FailPost w0 w g v A n c (failE er x) l) := by
  have hc2 : w.cell? ⟨g, 2, none⟩ = some (.int .i64 er) := blk_cell hW.1 2
  have hf2 : w.frozen? ⟨g, 2, none⟩ = false := blk_frozen hW.1 2
  have HM := Lib.hid hW
  have HB := Lib.hid hB
  clear hW hB
  by_cases h : er = 0
  · have hb : (er == 0) = true := beq_iff_eq.2 h
    have HE : Aside0 (failE er x = x) := ⟨if_pos h⟩
    clear h
    go_enter Try.func139, Try.ntmps139
    go_wp2
    go_end0
    rw [HE.out]
    refine ⟨rfl, HB.out.setCell HM.out.2.1 _, ⟨?_, HM.out.2.1, HM.out.2.2.step (fun k hk => Below.heap_setCell w _ _ k (fun e => HM.out.ne (by decide) (by rw [hk]; exact congrArg some e)))⟩, (Kept.refl w _).setCell (.inl (.inl rfl)) _, .inl rfl⟩
    exact (blk_set HM.out.1 2 _).trans rfl
  · have hb : (er == 0) = false := beq_eq_false_iff_ne.2 h
    have HE : Aside0 (failE er x = er) := ⟨if_neg h⟩
    clear h
    go_enter Try.func139, Try.ntmps139
    go_wp2
    go_end0
    rw [HE.out]
    exact ⟨rfl, HB.out, HM.out, BS.refl _ _ _⟩

def cloB (l1 : List S37) (nm : ByteArray) (c : S37) : Bool := (c.f0 == 7) && (isB l1 c.f3 1 && ((strV l1 c.f3).toList == nm.toList))
set_option maxHeartbeats 4000000 in
set_option maxRecDepth 100000 in
theorem clo_any (A : Option Addr) (c1 : Nat) (l1 : List S37) (c : S37) (nm : ByteArray) (wb g vb : Nat) (w : World) (hr : Kd.C k37 w A l1.length l1) (hc : l1.length ≤ c1) (h3 : 0 ≤ c.f3 ∧ c.f3 < 65536)
    (hwb : w.cell? ⟨wb, 0, none⟩ = some (.pointer (some ⟨g, 0, none⟩))) (hp : w.cell? ⟨g, 1, none⟩ = some (.slice A l1.length c1)) (hn : w.cell? ⟨vb, 1, none⟩ = some (.string nm)) :
    Calls Try.prog 138 #[.agg #[.int .u8 c.f0, .string c.f1, .int .u64 c.f2, .int .u16 c.f3, .int .u16 c.f4], .pointer (some ⟨wb, 0, none⟩), .pointer (some ⟨vb, 0, none⟩)] w fun e w' => e = .returned (.bool (cloB l1 nm c)) ∧ Below w.heap.size w w' := by
  have hbel := below_alloc (Below.refl w.heap.size w) (.cells #[.int .u8 c.f0, .string c.f1, .int .u64 c.f2, .int .u16 c.f3, .int .u16 c.f4] 37)
  have a1 := pw_cell_below hbel hwb
  have a2 := pw_cell_below hbel hp
  have a3 := pw_cell_below hbel hn
  have HR := Aside0.mk (Kd.C_below hr hbel)
  have HC := Aside0.mk hc
  have HBL := Aside0.mk hbel
  have HI := Aside0.mk (pool_Is_eq l1 c.f3 1 h3.1 h3.2)
  have HS := Aside0.mk (poolStr_eq l1 h3.1 h3.2)
  clear hr hc hbel hwb hp hn h3
  by_cases h7 : c.f0 = 7
  · have b7 : (c.f0 == 7) = true := beq_iff_eq.2 h7
    clear h7
    cases hi : isB l1 c.f3 1 with
    | false =>
      have HF : Aside0 (cloB l1 nm c = false) := ⟨by unfold cloB; rw [hi, Bool.false_and, Bool.and_false]⟩
      rw [hi] at HI
      clear hi
      go_enter Try.func138, Try.ntmps138
      go_wp2
      go_quiet ((go_at_call 133; exact Calls.quiet_of ((pool_Is.calls A c1 l1 c.f3 1 false _ (Kd.C_below HR.out (by repeat (first | exact Below.refl _ _ | apply pw_below_drewN | apply below_drew1))) HC.out HI.out).mono fun e w' h => ⟨h.1, h.2.out⟩)))
      go_wp2
      go_ret
      exact ⟨by rw [HF.out]; rfl, by repeat (first | exact HBL.out | apply pw_below_drewN | apply below_drew1)⟩
    | true =>
      have HF : Aside0 (cloB l1 nm c = ((strV l1 c.f3).toList == nm.toList)) := ⟨by unfold cloB; rw [b7, hi, Bool.true_and, Bool.true_and]⟩
      rw [hi] at HI
      clear hi
      go_enter Try.func138, Try.ntmps138
      go_wp2
      go_quiet ((first | (go_at_call 133; exact Calls.quiet_of ((pool_Is.calls A c1 l1 c.f3 1 true _ (Kd.C_below HR.out (by repeat (first | exact Below.refl _ _ | apply pw_below_drewN | apply below_drew1))) HC.out HI.out).mono fun e w' h => ⟨h.1, h.2.out⟩)) | (go_at_call 134; exact Calls.quiet_of ((pool_String.calls A c1 l1 c.f3 (strV l1 c.f3) _ (Kd.C_below HR.out (by repeat (first | exact Below.refl _ _ | apply pw_below_drewN | apply below_drew1))) HC.out HS.out).mono fun e w' h => ⟨h.1, h.2.out⟩))))
      go_wp2
      go_ret
      exact ⟨by rw [HF.out]; rfl, by repeat (first | exact HBL.out | apply pw_below_drewN | apply below_drew1)⟩
  · have b7 : (c.f0 == 7) = false := beq_eq_false_iff_ne.2 h7
    have HF : Aside0 (cloB l1 nm c = false) := ⟨by unfold cloB; rw [b7, Bool.false_and]⟩
    clear h7
    go_enter Try.func138, Try.ntmps138
    go_wp2
    go_quiet (fail)
    go_wp2
    go_ret
    exact ⟨by rw [HF.out]; rfl, by repeat (first | exact HBL.out | apply pw_below_drewN | apply below_drew1)⟩
/-- where the first is of which it is so; -1: nowhere. -/
def idxF (p : S37 → Bool) (L : List S37) : Int := match L.findIdx? p with | some i => (i : Int) | none => -1
end Go.Proofs.Ytfnjbmpolggdeaa.MR
