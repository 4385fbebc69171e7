/-
  jvmcorelaw1.same: of a pool and itself.
-/
import Derived.Test.YtfnjbmpolggdeaaPoolW
import Derived.Deep.QuietTactic
import Derived.BigQuiet
namespace Go.Proofs.Ytfnjbmpolggdeaa
open Go.RowKit Go.Lib
set_option linter.unusedVariables false
set_option linter.unusedSimpArgs false
theorem Rd.cells {l : List K} {w : World} {B : Nat} {a : Option Addr} {c k : Nat} (hr : Rd B w (.slice a l.length c) l.length (kcs l)) (hlt : k < l.length) :
    ∃ b o, a = some ⟨b, o, none⟩ ∧ w.cell? ⟨b, o + k * 5, none⟩ = some (.int .u8 (l[k].tag : Nat)) ∧ w.cell? ⟨b, o + k * 5 + 1, none⟩ = some (.string l[k].text) ∧ w.cell? ⟨b, o + k * 5 + 2, none⟩ = some (.int .u64 (l[k].bits : Nat)) ∧
      w.cell? ⟨b, o + k * 5 + 3, none⟩ = some (.int .u16 (l[k].a : Nat)) ∧ w.cell? ⟨b, o + k * 5 + 4, none⟩ = some (.int .u16 (l[k].b : Nat)) := by
  obtain ⟨_, _, he, hr2⟩ := hr
  simp only [Value.slice.injEq] at he
  obtain ⟨rfl, _, rfl⟩ := he
  rcases hr2 with hr2 | ⟨b, o, rfl, hbB, hcell⟩
  · have : (kcs l)[k * 5 + 0]? = _ := kcs_get hlt 0 (by decide)
    rw [hr2] at this; simp [kc] at this
  exact ⟨b, o, rfl, hcell (k * 5 + 0) _ (kcs_get hlt 0 (by decide)), hcell (k * 5 + 1) _ (kcs_get hlt 1 (by decide)), hcell (k * 5 + 2) _ (kcs_get hlt 2 (by decide)), hcell (k * 5 + 3) _ (kcs_get hlt 3 (by decide)), hcell (k * 5 + 4) _ (kcs_get hlt 4 (by decide))⟩

set_option maxHeartbeats 2000000 in
set_option maxRecDepth 100000 in
theorem same_eq (l : List K) (v v' : Value) (w : World) (B B' : Nat) (hr : Rd B w v l.length (kcs l)) (hr' : Rd B' w v' l.length (kcs l)) (hB : B ≤ w.heap.size) (hB' : B' ≤ w.heap.size) (hn : l.length ≤ 9223372036854775807) :
    Calls Try.prog 24 #[v, v'] w fun e w' => e = .returned (.bool true) ∧ Below w.heap.size w w' := by
  obtain ⟨a, c, rfl, _⟩ := id hr
  obtain ⟨a', c', rfl, _⟩ := id hr'
  go_enter Try.func24, Try.ntmps24
  go_wp2_with fail
  go_loopw [13] (fun i wr => ∃ (k : Nat), k ≤ l.length ∧ i = .int .i64 k ∧ Below w.heap.size w wr) (fun i _ => l.length - (intOf i).toNat)
  case atStart => exact ⟨0, by omega, rfl, Below.refl _ _⟩
  case round =>
    obtain ⟨k, hk, rfl, hbel⟩ := hrel
    have hws := hbel.size
    by_cases hlt : k < l.length
    · have hrw := hr.below (hbel.mono hB) (Nat.le_refl _)
      have hrw' := hr'.below (hbel.mono hB') (Nat.le_refl _)
      obtain ⟨b, o, rfl, c0, c1, c2, c3, c4⟩ := Rd.cells hrw hlt
      obtain ⟨b', o', rfl, d0, d1, d2, d3, d4⟩ := Rd.cells hrw' hlt
      clear hr hr' hrw hrw'
      generalize l[k] = cc at *
      obtain ⟨tag, text, bits, ca, cb⟩ := cc
      simp only [] at c0 c1 c2 c3 c4 d0 d1 d2 d3 d4
      have ht : (text.toList == text.toList) = true := by simp
      go_upto_region 6 with (fail)
      go_quiet (fail)
      go_wp2
      go_roundw
      case rel => exact ⟨k + 1, by omega, by go_num, below_drewN hbel _⟩
      case measure => simp [intOf]; omega
    · obtain rfl : k = l.length := by omega
      clear hr hr'
      go_wp2
      go_ret
      exact ⟨rfl, hbel⟩
end Go.Proofs.Ytfnjbmpolggdeaa
