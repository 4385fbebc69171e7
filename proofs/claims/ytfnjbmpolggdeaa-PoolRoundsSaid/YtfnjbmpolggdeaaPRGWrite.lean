/-
  pool.Write as the print's contract.
-/
import Derived.Test.YtfnjbmpolggdeaaPRGConst
namespace Go.Proofs.Ytfnjbmpolggdeaa.PR
open Go.RowKit Go.Proofs.YtfnjbmpolggdeaaW.PrintWords
set_option linter.unusedVariables false
set_option linter.unusedSimpArgs false
instance (l : List (S37)) : Decidable (∀ c ∈ l, okC c) := inferInstance
def pool_Write.f (l0 : List (S37)) : Option (ByteArray × Int × Int) :=
  if ∀ c ∈ l0, okC c then some ((poolR (l0.map ofS)).1, ((poolR (l0.map ofS)).2.1 : Nat), ((poolR (l0.map ofS)).2.2 : Nat)) else none
theorem pool_Write.calls (A0 : Option Addr) (c0 : Nat) (l0 : List (S37)) (r1 : ByteArray) (r2 : Int) (r3 : Int) (w : World) (hr0 : Kd.C k37 w A0 l0.length l0) (hc0 : l0.length ≤ c0) (h : pool_Write.f l0 = some (r1, r2, r3)) :
    Calls Try.prog 22 #[.slice A0 l0.length c0] w fun e w' => e = .returned (.tuple #[.string r1, .int .i64 r2, .int .i64 r3]) ∧ Below w.heap.size w w' := by
  unfold pool_Write.f at h
  split at h
  · rename_i hok
    injection h with h; injection h with h1 h; injection h with h2 h3
    subst h1 h2 h3
    have hm : (l0.map ofS).map toS = l0 := by
      rw [List.map_map]; exact (List.map_congr_left (fun c hc => toS_ofS (hok c hc))).trans (List.map_id _)
    have hl : (l0.map ofS).length = l0.length := List.length_map ..
    have hn := hr0.2.1
    have hr := rd_C (c := c0) (l := l0.map ofS) (by rw [hm, hl]; exact hr0)
    rw [hl] at hr
    have := Write_any (l0.map ofS) (fun c hc => by obtain ⟨d, hd, rfl⟩ := List.mem_map.1 hc; exact okC_ok (hok d hd)) (.slice A0 l0.length c0) w w.heap.size (by rw [hl]; exact hr) (Nat.le_refl _) (by omega)
    refine this.mono ?_
    rintro e w' ⟨rfl, hb⟩
    exact ⟨rfl, hb⟩
  · cases h
end Go.Proofs.Ytfnjbmpolggdeaa.PR
