/-
  slices.IndexFunc, as maps.writer.values calls it.
-/
import Derived.Test.YtfnjbmpolggdeaaMRGMVal
namespace Go.Proofs.Ytfnjbmpolggdeaa.MR
open Go.RowKit Go.Proofs.YtfnjbmpolggdeaaW.PrintWords Go.Proofs.YtfnjbmpolggdeaaW.PrintLast Go.Proofs.YtfnjbmpolggdeaaW.PrintMore
set_option linter.unusedVariables false
set_option linter.unusedSimpArgs false
theorem idxF_some {p : S37 → Bool} {L : List S37} {k : Nat} (hk : k < L.length) (h : ∀ (j : Nat) (hj : j < k), p (L[j]'(by omega)) = false) (hp : p L[k] = true) : idxF p L = k := by
  unfold idxF
  rw [show L.findIdx? p = some k from List.findIdx?_eq_some_iff_getElem.2 ⟨hk, hp, fun j hj => by simpa using h j hj⟩]
theorem idxF_none {p : S37 → Bool} {L : List S37} (h : ∀ (j : Nat) (hj : j < L.length), p L[j] = false) : idxF p L = -1 := by
  unfold idxF
  rw [show L.findIdx? p = none from List.findIdx?_eq_none_iff.2 (fun x hx => by obtain ⟨j, hj, rfl⟩ := List.mem_iff_getElem.1 hx; exact h j hj)]
theorem idxF_range (p : S37 → Bool) (L : List S37) : -1 ≤ idxF p L ∧ idxF p L < (L.length : Int) := by
  unfold idxF
  cases h : L.findIdx? p with
  | none => exact ⟨Int.le_refl _, by show (-1 : Int) < _; omega⟩
  | some i => obtain ⟨hi, _⟩ := List.findIdx?_eq_some_iff_getElem.1 h; exact ⟨by show (-1 : Int) ≤ (i : Int); omega, by show (i : Int) < _; omega⟩
theorem rdC_at {L : List S37} {k : Nat} (h : k < L.length) : rd_T37 L (k : Int) = L[k] := by
  unfold rd_T37
  rw [List.getD_eq_getElem?_getD, Int.toNat_natCast, List.getElem?_eq_getElem h]; rfl
set_option maxHeartbeats 4000000 in
set_option maxRecDepth 100000 in
theorem idx_any (A0 : Option Addr) (c0 : Nat) (L : List S37) (A : Option Addr) (c1 : Nat) (l1 : List S37) (nm : ByteArray) (wb g vb : Nat) (w : World) (hL : Kd.C k37 w A0 L.length L) (hc0 : L.length ≤ c0) (hl : L.length ≤ 4611686018427387904)
    (hr : Kd.C k37 w A l1.length l1) (hc : l1.length ≤ c1) (h3 : ∀ c ∈ L, 0 ≤ c.f3 ∧ c.f3 < 65536)
    (hwb : w.cell? ⟨wb, 0, none⟩ = some (.pointer (some ⟨g, 0, none⟩))) (hp : w.cell? ⟨g, 1, none⟩ = some (.slice A l1.length c1)) (hn : w.cell? ⟨vb, 1, none⟩ = some (.string nm)) :
    Calls Try.prog 137 #[.slice A0 L.length c0, .func (.func 138) #[] #[.pointer (some ⟨wb, 0, none⟩), .pointer (some ⟨vb, 0, none⟩)]] w fun e w' => e = .returned (.int .i64 (idxF (cloB l1 nm) L)) ∧ Below w.heap.size w w' := by
  have HL := Aside0.mk hL
  have HR := Aside0.mk hr
  have HC := Aside0.mk hc
  have H3 := Aside0.mk h3
  have HWB := Aside0.mk hwb
  have HP := Aside0.mk hp
  have HN := Aside0.mk hn
  clear hL hr hc h3 hwb hp hn
  go_enter Try.func137, Try.ntmps137
  go_wp2_with fail
  go_loopw [8] (fun i wr => ∃ (k : Nat), k ≤ L.length ∧ i = .int .i64 k ∧ Aside0 (∀ (j : Nat) (hj : j < L.length), j < k → cloB l1 nm L[j] = false) ∧ Aside0 (Below w.heap.size w wr)) (fun i _ => L.length - (intOf i).toNat)
  case atStart => exact ⟨0, by omega, rfl, ⟨fun j _ hj => absurd hj (Nat.not_lt_zero _)⟩, ⟨Below.refl _ _⟩⟩
  case round =>
    obtain ⟨k, hk, rfl, HALL, HBL⟩ := hrel
    by_cases hlt : k < L.length
    · obtain ⟨ad0, e0, x0, x1, x2, x3, x4⟩ := at_T37 HL.out (k : Int) (by omega) (by omega)
      subst e0
      rw [rdC_at hlt] at x0 x1 x2 x3 x4
      simp only [Int.toNat_natCast] at x0 x1 x2 x3 x4
      have y0 := pw_cell_below HBL.out x0
      have y1 := pw_cell_below HBL.out x1
      have y2 := pw_cell_below HBL.out x2
      have y3 := pw_cell_below HBL.out x3
      have y4 := pw_cell_below HBL.out x4
      have HK3 := Aside0.mk (H3.out _ (List.getElem_mem hlt))
      have HKB : Aside0 (∀ b, cloB l1 nm L[k] = b → cloB l1 nm L[k] = b) := ⟨fun _ h => h⟩
      clear x0 x1 x2 x3 x4
      have HA : ∀ b, cloB l1 nm L[k] = b → Aside0 (cloB l1 nm L[k] = b) := fun b h => ⟨h⟩
      cases hb : cloB l1 nm L[k] with
      | true =>
        have HF := Aside0.mk (idxF_some hlt (fun j hj => HALL.out j (by omega) hj) hb)
        have HV := HA true hb
        clear HA HKB hb
        go_wp2_with fail
        refine (clo_any A c1 l1 L[k] nm wb g vb _ (Kd.C_below HR.out HBL.out) HC.out HK3.out (pw_cell_below HBL.out HWB.out) (pw_cell_below HBL.out HP.out) (pw_cell_below HBL.out HN.out)).mono ?_
        rintro e w2 ⟨rfl, hb2⟩
        rw [HV.out]
        have HB2 := Aside0.mk (below_then HBL.out HBL.out.size hb2)
        clear hb2
        go_wp2
        go_ret
        exact ⟨by rw [HF.out]; rfl, HB2.out⟩
      | false =>
        have HV := HA false hb
        clear HA HKB hb
        go_wp2_with fail
        refine (clo_any A c1 l1 L[k] nm wb g vb _ (Kd.C_below HR.out HBL.out) HC.out HK3.out (pw_cell_below HBL.out HWB.out) (pw_cell_below HBL.out HP.out) (pw_cell_below HBL.out HN.out)).mono ?_
        rintro e w2 ⟨rfl, hb2⟩
        rw [HV.out]
        have HB2 := Aside0.mk (below_then HBL.out HBL.out.size hb2)
        clear hb2
        go_wp2
        go_roundw
        case rel => exact ⟨k + 1, by omega, by go_num, ⟨fun j hj hjk => by rcases Nat.lt_or_ge j k with h | h; exact HALL.out j hj h; obtain rfl : j = k := (by omega); exact HV.out⟩, HB2⟩
        case measure => simp [intOf]; omega
    · obtain rfl : k = L.length := by omega
      have HF := Aside0.mk (idxF_none (p := cloB l1 nm) (fun j hj => HALL.out j hj hj))
      go_wp2
      go_ret
      exact ⟨by rw [HF.out]; rfl, HBL.out⟩
end Go.Proofs.Ytfnjbmpolggdeaa.MR
