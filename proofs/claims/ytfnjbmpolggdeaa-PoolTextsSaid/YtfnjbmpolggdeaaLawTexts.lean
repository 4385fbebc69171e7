/-
  PoolTexts: the walk of the statement.
-/
import Derived.Test.YtfnjbmpolggdeaaLawUnits
namespace Go.Proofs.Ytfnjbmpolggdeaa
open Go.RowKit
set_option linter.unusedVariables false
set_option linter.unusedSimpArgs false

set_option maxHeartbeats 2000000 in
set_option maxRecDepth 100000 in
theorem PoolTexts_walk (l : List Nat) (hl : ∀ x ∈ l, x < 65536) (v : Value) (w : World) (hr : Rd w.heap.size w v l.length (u16s l)) (hn : l.length ≤ maxLen) :
    Calls Try.prog 5 #[v] w fun e w' => e = .returned (.bool true) ∧ Below w.heap.size w w' := by
  unfold maxLen at hn
  obtain ⟨a0, c0, rfl, hr'⟩ := id hr
  by_cases hbig : 32768 < l.length
  · have : (32768 : Int) < l.length := by omega
    go_enter Try.func5, Try.ntmps5
    go_wp2
    go_ret
    exact ⟨rfl, Below.refl _ _⟩
  · have hsz : (l.length : Int) ≤ 32768 := by omega
    have hT := units_textB l hl
    have hTl : bs (sb (textB l)) = textB l := bs_sb (textB_lt l hl)
    have hUs : units (bs (sb (textB l))) = some l := by rw [hTl, hT]
    have HUs := Lib.hid hUs
    have hTs : (sb (textB l)).size ≤ 3 * 32768 := by rw [sb_size]; have := textB_le l; omega
    clear hT hTl hUs
    go_enter Try.func5, Try.ntmps5
    go_wp2_with fail
    go_loopw [3, 15] (fun v i wr => ∃ (k : Nat), k ≤ l.length ∧ i = .int .i64 k ∧ wr.ownsRow w.heap.size 3 1 v k (i64s (l.take k)) ∧ Below w.heap.size w wr) (fun _ i _ => l.length - (intOf i).toNat)
    case atStart => exact ⟨0, by omega, rfl, by simpa [i64s] using World.ownsRow_nil _ _ _ _, Below.refl _ _⟩
    case round =>
      obtain ⟨k, hk, rfl, hown, hbel⟩ := hrel
      have hws := hbel.size
      by_cases hlt : k < l.length
      · have hrw := hr.below hbel (Nat.le_refl _)
        obtain ⟨_, _, he, hr2⟩ := hrw
        simp only [Value.slice.injEq] at he
        obtain ⟨rfl, _, rfl⟩ := he
        rcases hr2 with hr2 | ⟨b, o, rfl, hbB, hcell⟩
        · simp [u16s] at hr2; rw [hr2] at hlt; simp at hlt
        have hc : wr.cell? ⟨b, o + k, none⟩ = some (.int .u16 (l[k] : Nat)) := hcell k _ (by simp [u16s, hlt])
        have hsn : i64s (l.take (k + 1)) = i64s (l.take k) ++ [.int .i64 (l[k] : Nat)] := by
          unfold i64s; rw [List.take_succ_eq_append_getElem hlt, List.map_append]; rfl
        have HSN := Lib.hid hsn
        have hu := hl l[k] (List.getElem_mem _)
        clear hcell hr' hsn
        generalize l[k] = u at *
        go_wp2_with (at_builtin; refine app_many rfl _ _ 22 rfl 3 (.int .i64 0) 1 8 Try.underlying22 Try.info3 rfl (by decide) w.heap.size w.heap.size hbel hown rfl 1 [.int .i64 u] rfl (by simp [Value.oneCell']) _ rfl (by omega) (by omega) (by omega) (by omega) ?_ rfl; intro v' w2 hown4 hbel5 _)
        go_wp2
        go_roundw
        case rel => exact ⟨k + 1, by omega, by go_num, by rw [HSN.out]; exact hown4, hbel5⟩
        case measure => simp [intOf]; omega
      · obtain rfl : k = l.length := by omega
        rw [List.take_of_length_le (Nat.le_refl _)] at hown
        clear hr'
        have hr1 := hr.below hbel (Nat.le_refl _)
        go_wp2_with fail
        refine (Text_any l hl _ _ w.heap.size hr1 hws (by omega)).mono ?_
        rintro e w1 ⟨rfl, hb1⟩
        go_wp2_with fail
        refine (Units_any _ _ (by omega)).mono ?_
        rintro e w2 ⟨v2, b2, rfl, rfl, hown2, hb2⟩
        rw [HUs.out] at hown2 ⊢
        simp only [Option.isSome_some, Option.getD_some] at hown2 ⊢
        go_wp2_with fail
        refine (RefText_any l hl _ _ w1.heap.size ?_ hb2.size (by omega)).mono ?_
        · exact (((Rd.own hown).below hb1 (Nat.le_refl _)).mono hb1.size).below hb2 (Nat.le_refl _)
        rintro e w3 ⟨rfl, hb3⟩
        have s1 := hb1.size
        have s2 := hb2.size
        have s3 := hb3.size
        have hbw : Below w.heap.size w w3 := ((hbel.trans (hb1.mono hws)).trans (hb2.mono (by omega))).trans (hb3.mono (by omega))
        have r0 := hr.below hbw (Nat.le_refl _)
        have r2 := (Rd.own hown2).below hb3 (Nat.le_refl _)
        obtain ⟨a2, c2, rfl, hr2⟩ := id r2
        have hcmp : ((sb (textB l)).toList == (sb (textB l)).toList) = true := beq_iff_eq.2 rfl
        go_wp2_with fail
        go_loopw [49] (fun i wx => ∃ k : Nat, k ≤ l.length ∧ i = .int .i64 k ∧ Below w3.heap.size w3 wx) (fun i _ => l.length - (intOf i).toNat)
        case atStart => exact ⟨0, by omega, rfl, Below.refl _ _⟩
        case round =>
          obtain ⟨k, hk, rfl, hbr⟩ := hrel
          have hsr := hbr.size
          by_cases hlt : k < l.length
          · have r1' := r0.below hbr (by omega)
            have r2' := r2.below hbr (by omega)
            obtain ⟨_, _, he1, hr1'⟩ := r1'
            obtain ⟨_, _, he2, hr2'⟩ := r2'
            simp only [Value.slice.injEq] at he1 he2
            obtain ⟨rfl, _, rfl⟩ := he1
            obtain ⟨rfl, _, rfl⟩ := he2
            rcases hr1' with hr1' | ⟨b1, o1, rfl, hbB1, hcell1⟩
            · simp [u16s] at hr1'; rw [hr1'] at hlt; simp at hlt
            rcases hr2' with hr2' | ⟨b2, o2, rfl, hbB2, hcell2⟩
            · simp [u16s] at hr2'; rw [hr2'] at hlt; simp at hlt
            have hc1 := hcell1 k (.int .u16 (l[k] : Nat)) (by simp [u16s, hlt])
            have hc2 := hcell2 k (.int .u16 (l[k] : Nat)) (by simp [u16s, hlt])
            clear hcell1 hcell2 hr2
            generalize l[k] = u at *
            have i1 : (k : Int) < (l.length : Int) := by omega
            go_wp2_with fail
            go_quiet (fail)
            go_wp2
            go_roundw
            case rel => exact ⟨k + 1, by omega, by go_num, below_drewN hbr _⟩
            case measure => simp [intOf]; omega
          · go_wp2
            go_ret
            exact ⟨rfl, hbw.trans (hbr.mono (by omega))⟩
end Go.Proofs.Ytfnjbmpolggdeaa
