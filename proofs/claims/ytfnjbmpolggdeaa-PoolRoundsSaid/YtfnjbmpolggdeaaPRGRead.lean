/-
  pool.Read, jvmcoreref1.Read and pool.Write as the print's contracts.
-/
import Derived.Test.YtfnjbmpolggdeaaPRGConst
import Derived.Test.YtfnjbmpolggdeaaRefPoolR
namespace Go.Proofs.Ytfnjbmpolggdeaa.PR
open Go.RowKit Go.Proofs.YtfnjbmpolggdeaaW.PrintWords
set_option linter.unusedVariables false
set_option linter.unusedSimpArgs false
def readI (s : ByteArray) : Option (List (S37) × Int × Int × Int) :=
  if s.size ≤ 1099511627776 then some ((readS s).1.map toS, ((readS s).2.1 : Nat), ((readS s).2.2.1 : Nat), ((readS s).2.2.2 : Nat)) else none
def pool_Read.f (a0 : ByteArray) : Option (List (S37) × Int × Int × Int) := readI a0
def jvmcoreref1_Read.f (a0 : ByteArray) : Option (List (S37) × Int × Int × Int) := readI a0
theorem readI_eq {s : ByteArray} (hs : s.size ≤ 1099511627776) : readI s = some ((readS s).1.map toS, (((readS s).2.1 : Nat) : Int), (((readS s).2.2.1 : Nat) : Int), (((readS s).2.2.2 : Nat) : Int)) := by
  unfold readI; rw [if_pos hs]
theorem readI_some {s : ByteArray} {r1 : List (S37)} {r2 r3 r4 : Int} (h : readI s = some (r1, r2, r3, r4)) :
    s.size ≤ 1099511627776 ∧ (readS s).1.map toS = r1 ∧ (((readS s).2.1 : Nat) : Int) = r2 ∧ (((readS s).2.2.1 : Nat) : Int) = r3 ∧ (((readS s).2.2.2 : Nat) : Int) = r4 := by
  unfold readI at h
  split at h
  · injection h with h; injection h with h1 h; injection h with h2 h; injection h with h3 h4; exact ⟨‹_›, h1, h2, h3, h4⟩
  · cases h

theorem pool_Read.calls (a0 : ByteArray) (r1 : List (S37)) (r2 : Int) (r3 : Int) (r4 : Int) (w : World) (h : pool_Read.f a0 = some (r1, r2, r3, r4)) :
    Calls Try.prog 32 #[.string a0] w fun e w' => ∃ v0_ : Value, e = .returned (.tuple #[v0_, .int .i64 r2, .int .i64 r3, .int .i64 r4]) ∧ Kd.R k37 37 w' w.heap.size (fun _ => True) v0_ r1 ∧ Below w.heap.size w w' := by
  obtain ⟨hs, rfl, rfl, rfl, rfl⟩ := readI_some h
  refine (Read_any a0 hs w).mono ?_
  rintro e w' ⟨v, rfl, hown, hbel⟩
  exact ⟨v, rfl, R_kcs hown, hbel⟩
theorem jvmcoreref1_Read.calls (a0 : ByteArray) (r1 : List (S37)) (r2 : Int) (r3 : Int) (r4 : Int) (w : World) (h : jvmcoreref1_Read.f a0 = some (r1, r2, r3, r4)) :
    Calls Try.prog 33 #[.string a0] w fun e w' => ∃ v0_ : Value, e = .returned (.tuple #[v0_, .int .i64 r2, .int .i64 r3, .int .i64 r4]) ∧ Kd.R k37 37 w' w.heap.size (fun _ => True) v0_ r1 ∧ Below w.heap.size w w' := by
  obtain ⟨hs, rfl, rfl, rfl, rfl⟩ := readI_some h
  refine (RefRead_any a0 hs w).mono ?_
  rintro e w' ⟨v, rfl, hown, hbel⟩
  exact ⟨v, rfl, R_kcs hown, hbel⟩
end Go.Proofs.Ytfnjbmpolggdeaa.PR
