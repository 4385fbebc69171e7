/-
  strings.IndexByte, Count, Index and explode as the print's contracts (Count and Index for one slash alone; explode is never reached).
-/
import Derived.Test.YtfnjbmpolggdeaaDoorDRx0
import Derived.Test.YtfnjbmpolggdeaaDoorShelf
namespace Go.Proofs.YtfnjbmpolggdeaaDoor.DR
open Go.RowKit Go.Proofs.YtfnjbmpolggdeaaDoorW.PrintWords
set_option linter.unusedVariables false
set_option linter.unusedSimpArgs false
def strings_IndexByte.f (a0 : ByteArray) (a1 : Int) : Option (Int) := some (Lib.indexByte a0.data.toList a1.toNat.toUInt8)
theorem strings_IndexByte.calls (a0 : ByteArray) (a1 : Int) (r : Int) (w : World) (h : strings_IndexByte.f a0 a1 = some r) :
    Calls Tryd.prog 37 #[.string a0, .int .u8 a1] w fun e w' => e = .returned (.int .i64 r) ∧ Below w.heap.size w w' := by
  obtain rfl := Option.some.inj h
  refine (Tryd.strings_IndexByte a0 a1 w).mono ?_
  rintro e w' ⟨rfl, rfl⟩
  exact ⟨rfl, Below.refl _ _⟩
theorem slash_eq {a : ByteArray} (h : a.data.toList = [47]) : a = ⟨#[47]⟩ := by
  cases a with
  | mk d =>
  cases d with
  | mk l => simp only [] at h; rw [h]
def strings_Count.f (a0 : ByteArray) (a1 : ByteArray) : Option (Int) := if a1.data.toList = [47] then some ((Lib.countByte a0.data.toList 47 : Nat) : Int) else none
theorem strings_Count.calls (a0 : ByteArray) (a1 : ByteArray) (r : Int) (w : World) (h : strings_Count.f a0 a1 = some r) :
    Calls Tryd.prog 64 #[.string a0, .string a1] w fun e w' => e = .returned (.int .i64 r) ∧ Below w.heap.size w w' := by
  unfold strings_Count.f at h
  split at h
  · rename_i hh
    obtain rfl := slash_eq hh
    obtain rfl := Option.some.inj h
    refine (Tryd.strings_Count_one a0 47 w).mono ?_
    rintro e w' ⟨rfl, rfl⟩
    exact ⟨rfl, Below.refl _ _⟩
  · cases h
def strings_Index.f (a0 : ByteArray) (a1 : ByteArray) : Option (Int) := if a1.data.toList = [47] then some (Lib.indexByte a0.data.toList 47) else none
theorem strings_Index.calls (a0 : ByteArray) (a1 : ByteArray) (r : Int) (w : World) (h : strings_Index.f a0 a1 = some r) :
    Calls Tryd.prog 65 #[.string a0, .string a1] w fun e w' => e = .returned (.int .i64 r) ∧ Below w.heap.size w w' := by
  unfold strings_Index.f at h
  split at h
  · rename_i hh
    obtain rfl := slash_eq hh
    obtain rfl := Option.some.inj h
    refine (Tryd.strings_Index_one a0 47 w).mono ?_
    rintro e w' ⟨rfl, rfl⟩
    exact ⟨rfl, Below.refl _ _⟩
  · cases h
theorem toList_slash : (⟨#[47]⟩ : ByteArray).data.toList = [47] := rfl
theorem indexB_slash (x : ByteArray) : Lib.indexB x ⟨#[47]⟩ = Lib.indexByte x.data.toList 47 := Lib.index_one x.data.toList 47
theorem countB_slash (x : ByteArray) : Lib.countB x ⟨#[47]⟩ = Lib.countByte x.data.toList 47 := Lib.count_one 47 x.data.toList
theorem countB_le_size (x : ByteArray) : Lib.countB x ⟨#[47]⟩ ≤ x.size := by
  rw [countB_slash]
  exact Nat.le_trans List.count_le_length (by rw [← Lib.size_eq]; exact Nat.le_refl _)
def slashes (s : ByteArray) : List ByteArray := Lib.splitB ⟨#[47]⟩ 0 (Lib.countB s ⟨#[47]⟩) s
theorem slashes_le (s : ByteArray) : (slashes s).length ≤ Lib.countB s ⟨#[47]⟩ + 1 := Lib.splitB_length_le _ _ _ _
theorem reps_strs {w : World} {base : Nat} {ok : Nat → Prop} (l : List ByteArray) : Reps (Kd.string.M w base ok) 1 l (l.map Value.string) := by
  refine ⟨by simp, fun j p hp => ?_⟩
  have hj : j < l.length := (List.getElem?_eq_some_iff.1 hp).1
  show ((l.map Value.string).drop (j * 1)).take 1 = [Value.string p]
  rw [Nat.mul_one, List.drop_eq_getElem_cons (by simpa using hj), List.take_succ_cons, List.take_zero]
  have : l[j] = p := by simpa [List.getElem?_eq_getElem hj] using hp
  simp [this]
def strings_genSplit.f (a0 : ByteArray) (a1 : ByteArray) (a2 : Int) (a3 : Int) : Option (List ByteArray) :=
  if a0.size < 4294967281 ∧ a1.data.toList = [47] ∧ a2 = 0 ∧ a3 = -1 then some (slashes a0) else none
theorem strings_genSplit.calls (a0 : ByteArray) (a1 : ByteArray) (a2 : Int) (a3 : Int) (r : List ByteArray) (w : World) (h : strings_genSplit.f a0 a1 a2 a3 = some r) :
    Calls Tryd.prog 56 #[.string a0, .string a1, .int .i64 a2, .int .i64 a3] w fun e w' => ∃ v0_ : Value, e = .returned (v0_) ∧ Kd.R Kd.string 9 w' w.heap.size (fun _ => True) v0_ r ∧ Below w.heap.size w w' := by
  unfold strings_genSplit.f at h
  split at h
  · rename_i hh
    obtain ⟨hs, h1, rfl, rfl⟩ := hh
    obtain rfl := slash_eq h1
    obtain rfl := Option.some.inj h
    have hcl := countB_le_size a0
    have key := Any.strings_genSplit_core Tryd.lays221 (by kernel_rfl) a0 ⟨#[47]⟩ 0 (-1) (Lib.countB a0 ⟨#[47]⟩ + 1) w hs (by decide) (by decide)
      (fun x c _ => by rw [indexB_slash]; exact Tryd.strings_Index_one x 47 _)
      (by rw [countB_slash]; exact Tryd.strings_Count_one a0 47 w) (by decide) (by decide) (by rw [if_pos (by decide)]; omega)
    refine key.mono ?_
    rintro e w' ⟨rfl, rfl⟩
    refine ⟨_, rfl, ⟨fun _ _ => trivial, (slashes a0).map Value.string, ⟨by rw [List.length_map]; exact (Nat.mul_one _).symm, .inr ⟨w.heap.size, _, _, rfl, Nat.le_refl _, heap_alloc_new w _, ?_⟩⟩, reps_strs _⟩, (Below.refl _ w).alloc (Nat.le_refl _) _⟩
    have hl := slashes_le a0
    rw [Nat.add_sub_cancel]
    refine ⟨hl, ?_, ?_, ?_⟩
    · unfold maxLen; omega
    · exact (Lib.cellsOf_size (done := slashes a0) (N := Lib.countB a0 ⟨#[47]⟩ + 1) hl).trans (Nat.mul_one _).symm
    · show (Lib.cellsOf (slashes a0) (Lib.countB a0 ⟨#[47]⟩ + 1)).toList.take ((slashes a0).length * 1) = _
      unfold Lib.cellsOf
      rw [Nat.mul_one, List.take_append_of_le_length (by simp), List.take_of_length_le (by simp)]
  · cases h
end Go.Proofs.YtfnjbmpolggdeaaDoor.DR
