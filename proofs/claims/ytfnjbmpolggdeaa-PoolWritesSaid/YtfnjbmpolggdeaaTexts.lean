/-
  pool.Text and jvmcoreref1.Text: units as a text.
-/
import Derived.Test.YtfnjbmpolggdeaaBase2
import Derived.Test.YtfnjbmpolggdeaaRefUnits
namespace Go.Proofs.Ytfnjbmpolggdeaa
open Go.RowKit
set_option linter.unusedVariables false
set_option linter.unusedSimpArgs false

theorem Try.infoU8 : (Try.prog.info? 5).map (fun i => (i.zero, i.size, i.bytes)) = some (some (.int .u8 0), 1, 1) := by kernel_rfl
def textB (l : List Nat) : List Nat := l.flatMap unitB
theorem textB_le (l : List Nat) : (textB l).length ≤ 3 * l.length := by
  induction l with
  | nil => simp [textB]
  | cons u l ih =>
    have : (unitB u).length ≤ 3 := by unfold unitB; split; simp; split <;> simp
    simp only [textB, List.flatMap_cons, List.length_append, List.length_cons] at ih ⊢; omega

theorem textB_snoc {l : List Nat} {k : Nat} (h : k < l.length) : textB (l.take (k + 1)) = textB (l.take k) ++ unitB l[k] := by
  unfold textB; rw [List.take_succ_eq_append_getElem h, List.flatMap_append]; simp

set_option maxHeartbeats 1000000 in
set_option maxRecDepth 100000 in
theorem Text_any (l : List Nat) (hl : ∀ x ∈ l, x < 65536) (v : Value) (w : World) (B : Nat) (hr : Rd B w v l.length (u16s l)) (hB : B ≤ w.heap.size) (hn : l.length ≤ 140737488355327 / 8) :
    Calls Try.prog 20 #[v] w fun e w' => e = .returned (.string (sb (textB l))) ∧ Below w.heap.size w w' := by
  obtain ⟨a, c, rfl, hr'⟩ := id hr
  have hstr' := fun (wr : World) (n : Nat) (v : Value) (m : List Nat) (h : wr.ownsRow w.heap.size 5 1 v n (u8s m)) => own_str (P := Try.prog) Try.underlying87 Try.underlying5 Try.underlying9 h
  go_enter Try.func20, Try.ntmps20
  go_wp2
  go_loopw [3, 8] (fun v i wr => ∃ (k : Nat), k ≤ l.length ∧ i = .int .i64 k ∧ wr.ownsRow w.heap.size 5 1 v (textB (l.take k)).length (u8s (textB (l.take k))) ∧ Below w.heap.size w wr) (fun _ i _ => l.length - (intOf i).toNat)
  case atStart => exact ⟨0, by omega, rfl, by simpa [textB, u8s] using World.ownsRow_nil _ _ _ _, Below.refl _ _⟩
  case round =>
    obtain ⟨k, hk, rfl, hown, hbel⟩ := hrel
    have hws := hbel.size
    by_cases hlt : k < l.length
    · have hrw := hr.below (hbel.mono hB) (Nat.le_refl _)
      obtain ⟨_, _, he, hr2⟩ := hrw
      simp only [Value.slice.injEq] at he
      obtain ⟨rfl, _, rfl⟩ := he
      have hu := hl l[k] (List.getElem_mem _)
      have ht := textB_le (l.take k)
      have hlk : (l.take k).length ≤ k := List.length_take_le _ _
      rcases hr2 with hr2 | ⟨b, o, rfl, hbB, hcell⟩
      · simp [u16s] at hr2; rw [hr2] at hlt; simp at hlt
      · have hc : wr.cell? ⟨b, o + k, none⟩ = some (.int .u16 (l[k] : Nat)) := hcell k _ (by simp [u16s, hlt])
        have HTS := Lib.hid (textB_snoc hlt)
        clear hcell hr'
        generalize l[k] = u at *
        generalize textB (l.take k) = tx at *
        by_cases h1 : 0 < u ∧ u < 128
        · have a1 : (0 : Int) < u := by omega
          have a2 : (u : Int) < 128 := by omega
          go_wp2_with (at_builtin; refine app_many rfl _ _ 87 rfl 5 (.int .u8 0) 1 1 Try.underlying87 Try.infoU8 rfl (by decide) w.heap.size w.heap.size hbel hown rfl 1 [.int .u8 u] rfl (by simp [Value.oneCell']) _ rfl (by omega) (by omega) (by omega) (by omega) ?_ rfl; intro v' w2 hown4 hbel5 _)
          go_wp2
          go_roundw
          case rel => exact ⟨k + 1, by omega, by go_num, by rw [HTS.out, unitB, if_pos h1]; simpa [u8s] using hown4, hbel5⟩
          case measure => simp [intOf]; omega
        · have an1 := and63_u16 u hu
          have an2 : bits BinOp.and IntKind.u16 ((u : Int) / 64) 63 = (u : Int) / 64 % 64 := and63_u16' u 64 hu
          have or1 : bits BinOp.or IntKind.u8 128 ((u : Int) % 64) = 128 + (u : Int) % 64 := u8_or128 _ (by omega) (by omega)
          have H1 := Lib.hid h1
          by_cases h2 : u < 2048
          · have or2 : bits BinOp.or IntKind.u8 192 ((u : Int) / 64) = 192 + (u : Int) / 64 := u8_or192 _ (by omega) (by omega)
            have a2 : (u : Int) < 2048 := by omega
            by_cases h0 : u = 0
            · have a1 : (u : Int) ≤ 0 := by omega
              clear h0 h1
              go_wp2_with (at_builtin; refine app_many rfl _ _ 87 rfl 5 (.int .u8 0) 1 1 Try.underlying87 Try.infoU8 rfl (by decide) w.heap.size w.heap.size hbel hown rfl 2 [.int .u8 (192 + (u : Int) / 64), .int .u8 (128 + (u : Int) % 64)] rfl (by simp [Value.oneCell']) _ rfl (by omega) (by omega) (by omega) (by omega) ?_ rfl; intro v' w2 hown4 hbel5 _)
              go_wp2
              go_roundw
              case rel => exact ⟨k + 1, by omega, by go_num, by rw [HTS.out, unitB, if_neg H1.out, if_pos h2]; simpa [u8s] using hown4, hbel5⟩
              case measure => simp [intOf]; omega
            · have a1 : (128 : Int) ≤ u := by omega
              clear h0 h1
              go_wp2_with (at_builtin; refine app_many rfl _ _ 87 rfl 5 (.int .u8 0) 1 1 Try.underlying87 Try.infoU8 rfl (by decide) w.heap.size w.heap.size hbel hown rfl 2 [.int .u8 (192 + (u : Int) / 64), .int .u8 (128 + (u : Int) % 64)] rfl (by simp [Value.oneCell']) _ rfl (by omega) (by omega) (by omega) (by omega) ?_ rfl; intro v' w2 hown4 hbel5 _)
              go_wp2
              go_roundw
              case rel => exact ⟨k + 1, by omega, by go_num, by rw [HTS.out, unitB, if_neg H1.out, if_pos h2]; simpa [u8s] using hown4, hbel5⟩
              case measure => simp [intOf]; omega
          · have or2 : bits BinOp.or IntKind.u8 224 ((u : Int) / 4096) = 224 + (u : Int) / 4096 := u8_or224 _ (by omega) (by omega)
            have or3 : bits BinOp.or IntKind.u8 128 ((u : Int) / 64 % 64) = 128 + (u : Int) / 64 % 64 := u8_or128 _ (by omega) (by omega)
            have a2 : (2048 : Int) ≤ u := by omega
            clear h1
            go_wp2_with (at_builtin; refine app_many rfl _ _ 87 rfl 5 (.int .u8 0) 1 1 Try.underlying87 Try.infoU8 rfl (by decide) w.heap.size w.heap.size hbel hown rfl 3 [.int .u8 (224 + (u : Int) / 4096), .int .u8 (128 + (u : Int) / 64 % 64), .int .u8 (128 + (u : Int) % 64)] rfl (by simp [Value.oneCell']) _ rfl (by omega) (by omega) (by omega) (by omega) ?_ rfl; intro v' w2 hown4 hbel5 _)
            go_wp2
            go_roundw
            case rel => exact ⟨k + 1, by omega, by go_num, by rw [HTS.out, unitB, if_neg H1.out, if_neg h2]; simpa [u8s] using hown4, hbel5⟩
            case measure => simp [intOf]; omega
    · have hs := hstr' wr _ _ _ hown
      obtain rfl : k = l.length := by omega
      go_wp2
      go_ret
      exact ⟨by simp, hbel⟩

theorem sb_append (a b : List Nat) : sb a ++ sb b = sb (a ++ b) := by
  apply bs_inj
  unfold sb bs
  rw [ByteArray.data_append]
  simp

set_option maxHeartbeats 1000000 in
set_option maxRecDepth 100000 in
theorem RefText_any (l : List Nat) (hl : ∀ x ∈ l, x < 65536) (v : Value) (w : World) (B : Nat) (hr : Rd B w v l.length (i64s l)) (hB : B ≤ w.heap.size) (hn : l.length ≤ 140737488355327 / 8) :
    Calls Try.prog 21 #[v] w fun e w' => e = .returned (.string (sb (textB l))) ∧ Below w.heap.size w w' := by
  obtain ⟨a, c, rfl, hr'⟩ := id hr
  go_enter Try.func21, Try.ntmps21
  go_wp2
  go_loopw [3, 8] (fun v i wr => ∃ (k : Nat), k ≤ l.length ∧ i = .int .i64 k ∧ v = .string (sb (textB (l.take k))) ∧ Below w.heap.size w wr) (fun _ i _ => l.length - (intOf i).toNat)
  case atStart => exact ⟨0, by omega, rfl, rfl, Below.refl _ _⟩
  case round =>
    obtain ⟨k, hk, rfl, rfl, hbel⟩ := hrel
    have hws := hbel.size
    by_cases hlt : k < l.length
    · have hrw := hr.below (hbel.mono hB) (Nat.le_refl _)
      obtain ⟨_, _, he, hr2⟩ := hrw
      simp only [Value.slice.injEq] at he
      obtain ⟨rfl, _, rfl⟩ := he
      have hu := hl l[k] (List.getElem_mem _)
      have ht := textB_le (l.take k)
      have hlk : (l.take k).length ≤ k := List.length_take_le _ _
      rcases hr2 with hr2 | ⟨b, o, rfl, hbB, hcell⟩
      · simp [i64s] at hr2; rw [hr2] at hlt; simp at hlt
      · have hc : wr.cell? ⟨b, o + k, none⟩ = some (.int .i64 (l[k] : Nat)) := hcell k _ (by simp [i64s, hlt])
        have HTS := Lib.hid (textB_snoc hlt)
        clear hcell hr'
        generalize l[k] = u at *
        generalize textB (l.take k) = tx at *
        have hub : (unitB u).length ≤ 3 := by unfold unitB; split; simp; split <;> simp
        have hsz := sb_size tx
        have hsz2 := sb_size (unitB u)
        have hsa : (sb tx).size ≤ 3 * l.length := by omega
        have hsb : (sb (unitB u)).size ≤ 3 := by omega
        clear hsz hsz2
        go_wp2_with (go_at_call 55; refine (unit_any _ u rfl _ hu).mono ?_; rintro e w1 ⟨rfl, hb1⟩)
        go_roundw
        case rel => exact ⟨k + 1, by omega, by go_num, by rw [HTS.out, sb_append], hbel.trans (hb1.mono hws)⟩
        case measure => simp [intOf]; omega
    · obtain rfl : k = l.length := by omega
      go_wp2
      go_ret
      exact ⟨by simp, hbel⟩
end Go.Proofs.Ytfnjbmpolggdeaa
