/-
  Texts that the proof in the last of these files needs: Any instructions as bytes, or the first that may not stand there: the code's answer is the document's, and they stay as they are; no condition.
-/
import Derived.Test.YtfnjbmpolggdeaaQW3
section
namespace Go.Proofs.Ytfnjbmpolggdeaa.CW
open Go.RowKit Go.Proofs.YtfnjbmpolggdeaaW.PrintWords Go.Proofs.YtfnjbmpolggdeaaW.PrintLast Go.Proofs.YtfnjbmpolggdeaaW.PrintMore
attribute [local go_sem] max2_int min2_int max_two min_two max_three min_three max_four min_four   -- for this text's walks alone
set_option linter.unusedVariables false
set_option linter.unusedSimpArgs false
mutual
def jvmcoreref2_encode.j0 : Nat → ByteArray → ByteArray → Int → Int → Int → Bool → Int → Int → Int → List Int → List Int → Option (ByteArray × Bool)
  | 0, _, _, _, _, _, _, _, _, _, _, _ => none
  | k + 1, x1, x6, x7, x126000, x126001, x126002, x126003, x126004, x126005, x126006, x126007 => if x1.toList = ([116] : List UInt8) then (jvmcoreref2_encode.j1 k x1 x6 x7 true x126000 x126001 x126002 x126003 x126004 x126005 x126006 x126007) else (jvmcoreref2_encode.j1 k x1 x6 x7 (x1.toList == ([107] : List UInt8)) x126000 x126001 x126002 x126003 x126004 x126005 x126006 x126007)
def jvmcoreref2_encode.j1 : Nat → ByteArray → ByteArray → Int → Bool → Int → Int → Bool → Int → Int → Int → List Int → List Int → Option (ByteArray × Bool)
  | 0, _, _, _, _, _, _, _, _, _, _, _, _ => none
  | k + 1, x1, x6, x7, x26, x126000, x126001, x126002, x126003, x126004, x126005, x126006, x126007 => if x26 = true then ((jvmcoreref2_choice.f x126000 x126001 x126002 x126003 x126004 x126005 x126006 x126007 (x1.toList == ([107] : List UInt8))).bind fun bt129 => (some (bt129.1, bt129.2))) else (if x1.toList = ([106] : List UInt8) then (jvmcoreref2_encode.j2 k x1 x6 x7 0 true x126000 x126001 x126002 x126003 x126004 x126005 x126006 x126007) else (jvmcoreref2_encode.j2 k x1 x6 x7 0 (x1.toList == ([74] : List UInt8)) x126000 x126001 x126002 x126003 x126004 x126005 x126006 x126007))
def jvmcoreref2_encode.j2 : Nat → ByteArray → ByteArray → Int → Int → Bool → Int → Int → Bool → Int → Int → Int → List Int → List Int → Option (ByteArray × Bool)
  | 0, _, _, _, _, _, _, _, _, _, _, _, _, _ => none
  | k + 1, x1, x6, x7, x8, x38, x126000, x126001, x126002, x126003, x126004, x126005, x126006, x126007 => if x38 = true then (jvmcoreref2_encode.j3 k x1 x6 x7 1 x126000 x126001 x126002 x126003 x126004 x126005 x126006 x126007) else (jvmcoreref2_encode.j3 k x1 x6 x7 x8 x126000 x126001 x126002 x126003 x126004 x126005 x126006 x126007)
def jvmcoreref2_encode.j3 : Nat → ByteArray → ByteArray → Int → Int → Int → Int → Bool → Int → Int → Int → List Int → List Int → Option (ByteArray × Bool)
  | 0, _, _, _, _, _, _, _, _, _, _, _, _ => none
  | k + 1, x1, x6, x7, x8, x126000, x126001, x126002, x126003, x126004, x126005, x126006, x126007 => if (x126007.length : Int) = x8 then (if x1.toList = ([98] : List UInt8) then ((jvmcoreref2_bytes.f x126003 1 true).bind fun bt131 => (if x6.size + bt131.1.size ≤ 9223372036854775807 then (if (x6 ++ bt131.1).size + 0 ≤ 9223372036854775807 then (if bt131.2 = true then (some ((x6 ++ bt131.1) ++ (⟨#[]⟩ : ByteArray), true)) else (some ((x6 ++ bt131.1) ++ (⟨#[]⟩ : ByteArray), false))) else (none)) else (none))) else (if x1.toList = ([115] : List UInt8) then ((jvmcoreref2_bytes.f x126003 2 true).bind fun bt133 => (if x6.size + bt133.1.size ≤ 9223372036854775807 then (if (x6 ++ bt133.1).size + 0 ≤ 9223372036854775807 then (if bt133.2 = true then (some ((x6 ++ bt133.1) ++ (⟨#[]⟩ : ByteArray), true)) else (some ((x6 ++ bt133.1) ++ (⟨#[]⟩ : ByteArray), false))) else (none)) else (none))) else (if x1.toList = ([99] : List UInt8) then ((jvmcoreref2_bytes.f x126003 1 false).bind fun bt135 => (if x6.size + bt135.1.size ≤ 9223372036854775807 then (if (x6 ++ bt135.1).size + 0 ≤ 9223372036854775807 then (if bt135.2 = true then (some ((x6 ++ bt135.1) ++ (⟨#[]⟩ : ByteArray), true)) else (some ((x6 ++ bt135.1) ++ (⟨#[]⟩ : ByteArray), false))) else (none)) else (none))) else (if x1.toList = ([97] : List UInt8) then ((jvmcoreref2_bytes.f x126003 1 false).bind fun bt137 => (if x126003 ≥ 4 then (if x6.size + bt137.1.size ≤ 9223372036854775807 then (if (x6 ++ bt137.1).size + 0 ≤ 9223372036854775807 then (if bt137.2 = true then (some ((x6 ++ bt137.1) ++ (⟨#[]⟩ : ByteArray), decide (x126003 ≤ 11))) else (some ((x6 ++ bt137.1) ++ (⟨#[]⟩ : ByteArray), false))) else (none)) else (none)) else (if x6.size + bt137.1.size ≤ 9223372036854775807 then (if (x6 ++ bt137.1).size + 0 ≤ 9223372036854775807 then (if bt137.2 = true then (some ((x6 ++ bt137.1) ++ (⟨#[]⟩ : ByteArray), false)) else (some ((x6 ++ bt137.1) ++ (⟨#[]⟩ : ByteArray), false))) else (none)) else (none)))) else (if x1.toList = ([105] : List UInt8) then ((jvmcoreref2_bytes.f x126003 2 false).bind fun bt139 => (if x6.size + bt139.1.size ≤ 9223372036854775807 then (if (x6 ++ bt139.1).size + 0 ≤ 9223372036854775807 then (if bt139.2 = true then (some ((x6 ++ bt139.1) ++ (⟨#[]⟩ : ByteArray), true)) else (some ((x6 ++ bt139.1) ++ (⟨#[]⟩ : ByteArray), false))) else (none)) else (none))) else (if x1.toList = ([108] : List UInt8) then ((jvmcoreref2_bytes.f x126003 x7 false).bind fun bt141 => (if x6.size + bt141.1.size ≤ 9223372036854775807 then (if (x6 ++ bt141.1).size + 0 ≤ 9223372036854775807 then (if bt141.2 = true then (some ((x6 ++ bt141.1) ++ (⟨#[]⟩ : ByteArray), true)) else (some ((x6 ++ bt141.1) ++ (⟨#[]⟩ : ByteArray), false))) else (none)) else (none))) else (if x1.toList = ([110] : List UInt8) then ((jvmcoreref2_bytes.f x126003 x7 false).bind fun bt143 => ((jvmcoreref2_bytes.f x126004 x7 true).bind fun bt145 => (if x6.size + bt143.1.size ≤ 9223372036854775807 then (if (x6 ++ bt143.1).size + bt145.1.size ≤ 9223372036854775807 then (if bt143.2 = true then (some ((x6 ++ bt143.1) ++ bt145.1, bt145.2)) else (some ((x6 ++ bt143.1) ++ bt145.1, false))) else (none)) else (none)))) else (if x1.toList = ([106] : List UInt8) then (if 0 < (x126007.length : Int) then ((jvmcoreref2_bytes.f (wrap64 ((rd x126007 0) - x126000)) 2 true).bind fun bt148 => (if x6.size + bt148.1.size ≤ 9223372036854775807 then (if (x6 ++ bt148.1).size + 0 ≤ 9223372036854775807 then (if bt148.2 = true then (some ((x6 ++ bt148.1) ++ (⟨#[]⟩ : ByteArray), true)) else (some ((x6 ++ bt148.1) ++ (⟨#[]⟩ : ByteArray), false))) else (none)) else (none))) else (none)) else (if x1.toList = ([74] : List UInt8) then (if 0 < (x126007.length : Int) then ((jvmcoreref2_bytes.f (wrap64 ((rd x126007 0) - x126000)) 4 true).bind fun bt151 => (if x6.size + bt151.1.size ≤ 9223372036854775807 then (if (x6 ++ bt151.1).size + 0 ≤ 9223372036854775807 then (if bt151.2 = true then (some ((x6 ++ bt151.1) ++ (⟨#[]⟩ : ByteArray), true)) else (some ((x6 ++ bt151.1) ++ (⟨#[]⟩ : ByteArray), false))) else (none)) else (none))) else (none)) else (if x1.toList = ([102] : List UInt8) then (jvmcoreref2_encode.j4 k x1 x6 (⟨#[]⟩ : ByteArray) (⟨#[]⟩ : ByteArray) true true (x1.toList == ([102] : List UInt8)) x126000 x126001 x126002 x126003 x126004 x126005 x126006 x126007) else (jvmcoreref2_encode.j4 k x1 x6 (⟨#[]⟩ : ByteArray) (⟨#[]⟩ : ByteArray) true true (x1.toList == ([109] : List UInt8)) x126000 x126001 x126002 x126003 x126004 x126005 x126006 x126007))))))))))) else (some ((⟨#[]⟩ : ByteArray), false))
def jvmcoreref2_encode.j4 : Nat → ByteArray → ByteArray → ByteArray → ByteArray → Bool → Bool → Bool → Int → Int → Bool → Int → Int → Int → List Int → List Int → Option (ByteArray × Bool)
  | 0, _, _, _, _, _, _, _, _, _, _, _, _, _, _, _ => none
  | k + 1, x1, x6, x9, x10, x11, x12, x144, x126000, x126001, x126002, x126003, x126004, x126005, x126006, x126007 => if x144 = true then ((jvmcoreref2_bytes.f x126003 2 false).bind fun bt153 => ((jvmcoreref2_bytes.f x126004 1 false).bind fun bt155 => (if bt155.2 = true then (if x1.toList = ([102] : List UInt8) then (if bt155.1.size + 1 ≤ 9223372036854775807 then (if x6.size + bt153.1.size ≤ 9223372036854775807 then (if (x6 ++ bt153.1).size + (bt155.1 ++ (⟨#[0]⟩ : ByteArray)).size ≤ 9223372036854775807 then (if bt153.2 = true then (some ((x6 ++ bt153.1) ++ (bt155.1 ++ (⟨#[0]⟩ : ByteArray)), decide (x126004 > 0))) else (some ((x6 ++ bt153.1) ++ (bt155.1 ++ (⟨#[0]⟩ : ByteArray)), false))) else (none)) else (none)) else (none)) else (if x6.size + bt153.1.size ≤ 9223372036854775807 then (if (x6 ++ bt153.1).size + bt155.1.size ≤ 9223372036854775807 then (if bt153.2 = true then (some ((x6 ++ bt153.1) ++ bt155.1, decide (x126004 > 0))) else (some ((x6 ++ bt153.1) ++ bt155.1, false))) else (none)) else (none))) else (if x1.toList = ([102] : List UInt8) then (if bt155.1.size + 1 ≤ 9223372036854775807 then (if x6.size + bt153.1.size ≤ 9223372036854775807 then (if (x6 ++ bt153.1).size + (bt155.1 ++ (⟨#[0]⟩ : ByteArray)).size ≤ 9223372036854775807 then (if bt153.2 = true then (some ((x6 ++ bt153.1) ++ (bt155.1 ++ (⟨#[0]⟩ : ByteArray)), false)) else (some ((x6 ++ bt153.1) ++ (bt155.1 ++ (⟨#[0]⟩ : ByteArray)), false))) else (none)) else (none)) else (none)) else (if x6.size + bt153.1.size ≤ 9223372036854775807 then (if (x6 ++ bt153.1).size + bt155.1.size ≤ 9223372036854775807 then (if bt153.2 = true then (some ((x6 ++ bt153.1) ++ bt155.1, false)) else (some ((x6 ++ bt153.1) ++ bt155.1, false))) else (none)) else (none)))))) else (if x6.size + x9.size ≤ 9223372036854775807 then (if (x6 ++ x9).size + x10.size ≤ 9223372036854775807 then (if x11 = true then (some ((x6 ++ x9) ++ x10, x12)) else (some ((x6 ++ x9) ++ x10, false))) else (none)) else (none))
end
def jvmcoreref2_encode.f (k : Nat) (a0_0 : Int) (a0_1 : Int) (a0_2 : Bool) (a0_3 : Int) (a0_4 : Int) (a0_5 : Int) (l0_6 : List Int) (l0_7 : List Int) (a1 : ByteArray) : Option (ByteArray × Bool) := (some (([a0_1] : List Int) : List Int)).bind fun y126 => (if a0_2 = true then (if 1 + (strOfNums y126).size ≤ 9223372036854775807 then (jvmcoreref2_encode.j0 k a1 ((⟨#[196]⟩ : ByteArray) ++ (strOfNums y126)) 2 a0_0 a0_1 a0_2 a0_3 a0_4 a0_5 l0_6 l0_7) else (none)) else (jvmcoreref2_encode.j0 k a1 (strOfNums y126) 1 a0_0 a0_1 a0_2 a0_3 a0_4 a0_5 l0_6 l0_7))
theorem jvmcoreref2_encode.mono_l : ∀ k, (∀ y0 y1 y2 y3 y4 y5 y6 y7 y8 y9 y10, LeO (jvmcoreref2_encode.j0 k y0 y1 y2 y3 y4 y5 y6 y7 y8 y9 y10) (jvmcoreref2_encode.j0 (k + 1) y0 y1 y2 y3 y4 y5 y6 y7 y8 y9 y10)) ∧ (∀ y0 y1 y2 y3 y4 y5 y6 y7 y8 y9 y10 y11, LeO (jvmcoreref2_encode.j1 k y0 y1 y2 y3 y4 y5 y6 y7 y8 y9 y10 y11) (jvmcoreref2_encode.j1 (k + 1) y0 y1 y2 y3 y4 y5 y6 y7 y8 y9 y10 y11)) ∧ (∀ y0 y1 y2 y3 y4 y5 y6 y7 y8 y9 y10 y11 y12, LeO (jvmcoreref2_encode.j2 k y0 y1 y2 y3 y4 y5 y6 y7 y8 y9 y10 y11 y12) (jvmcoreref2_encode.j2 (k + 1) y0 y1 y2 y3 y4 y5 y6 y7 y8 y9 y10 y11 y12)) ∧ (∀ y0 y1 y2 y3 y4 y5 y6 y7 y8 y9 y10 y11, LeO (jvmcoreref2_encode.j3 k y0 y1 y2 y3 y4 y5 y6 y7 y8 y9 y10 y11) (jvmcoreref2_encode.j3 (k + 1) y0 y1 y2 y3 y4 y5 y6 y7 y8 y9 y10 y11)) ∧ (∀ y0 y1 y2 y3 y4 y5 y6 y7 y8 y9 y10 y11 y12 y13 y14, LeO (jvmcoreref2_encode.j4 k y0 y1 y2 y3 y4 y5 y6 y7 y8 y9 y10 y11 y12 y13 y14) (jvmcoreref2_encode.j4 (k + 1) y0 y1 y2 y3 y4 y5 y6 y7 y8 y9 y10 y11 y12 y13 y14))
  | 0 => ⟨fun _ _ _ _ _ _ _ _ _ _ _ r h => by simp [jvmcoreref2_encode.j0] at h, fun _ _ _ _ _ _ _ _ _ _ _ _ r h => by simp [jvmcoreref2_encode.j1] at h, fun _ _ _ _ _ _ _ _ _ _ _ _ _ r h => by simp [jvmcoreref2_encode.j2] at h, fun _ _ _ _ _ _ _ _ _ _ _ _ r h => by simp [jvmcoreref2_encode.j3] at h, fun _ _ _ _ _ _ _ _ _ _ _ _ _ _ _ r h => by simp [jvmcoreref2_encode.j4] at h⟩
  | k + 1 => by
    obtain ⟨ih0, ih1, ih2, ih3, ih4⟩ := jvmcoreref2_encode.mono_l k
    refine ⟨?_, ?_, ?_, ?_, ?_⟩
    · intro y0 y1 y2 y3 y4 y5 y6 y7 y8 y9 y10
      unfold jvmcoreref2_encode.j0
      repeat' first
      | (with_reducible exact ih0 _ _ _ _ _ _ _ _ _ _ _)
      | (with_reducible exact ih1 _ _ _ _ _ _ _ _ _ _ _ _)
      | (with_reducible exact ih2 _ _ _ _ _ _ _ _ _ _ _ _ _)
      | (with_reducible exact ih3 _ _ _ _ _ _ _ _ _ _ _ _)
      | (with_reducible exact ih4 _ _ _ _ _ _ _ _ _ _ _ _ _ _ _)
      | (with_reducible exact LeO.refl _)
      | (with_reducible exact LeO.none _)
      | (with_reducible refine LeO.ite ?_ ?_)
      | (with_reducible refine LeO.bind ?_ (fun _ => ?_))
    · intro y0 y1 y2 y3 y4 y5 y6 y7 y8 y9 y10 y11
      unfold jvmcoreref2_encode.j1
      repeat' first
      | (with_reducible exact ih0 _ _ _ _ _ _ _ _ _ _ _)
      | (with_reducible exact ih1 _ _ _ _ _ _ _ _ _ _ _ _)
      | (with_reducible exact ih2 _ _ _ _ _ _ _ _ _ _ _ _ _)
      | (with_reducible exact ih3 _ _ _ _ _ _ _ _ _ _ _ _)
      | (with_reducible exact ih4 _ _ _ _ _ _ _ _ _ _ _ _ _ _ _)
      | (with_reducible exact LeO.refl _)
      | (with_reducible exact LeO.none _)
      | (with_reducible refine LeO.ite ?_ ?_)
      | (with_reducible refine LeO.bind ?_ (fun _ => ?_))
    · intro y0 y1 y2 y3 y4 y5 y6 y7 y8 y9 y10 y11 y12
      unfold jvmcoreref2_encode.j2
      repeat' first
      | (with_reducible exact ih0 _ _ _ _ _ _ _ _ _ _ _)
      | (with_reducible exact ih1 _ _ _ _ _ _ _ _ _ _ _ _)
      | (with_reducible exact ih2 _ _ _ _ _ _ _ _ _ _ _ _ _)
      | (with_reducible exact ih3 _ _ _ _ _ _ _ _ _ _ _ _)
      | (with_reducible exact ih4 _ _ _ _ _ _ _ _ _ _ _ _ _ _ _)
      | (with_reducible exact LeO.refl _)
      | (with_reducible exact LeO.none _)
      | (with_reducible refine LeO.ite ?_ ?_)
      | (with_reducible refine LeO.bind ?_ (fun _ => ?_))
    · intro y0 y1 y2 y3 y4 y5 y6 y7 y8 y9 y10 y11
      unfold jvmcoreref2_encode.j3
      repeat' first
      | (with_reducible exact ih0 _ _ _ _ _ _ _ _ _ _ _)
      | (with_reducible exact ih1 _ _ _ _ _ _ _ _ _ _ _ _)
      | (with_reducible exact ih2 _ _ _ _ _ _ _ _ _ _ _ _ _)
      | (with_reducible exact ih3 _ _ _ _ _ _ _ _ _ _ _ _)
      | (with_reducible exact ih4 _ _ _ _ _ _ _ _ _ _ _ _ _ _ _)
      | (with_reducible exact LeO.refl _)
      | (with_reducible exact LeO.none _)
      | (with_reducible refine LeO.ite ?_ ?_)
      | (with_reducible refine LeO.bind ?_ (fun _ => ?_))
    · intro y0 y1 y2 y3 y4 y5 y6 y7 y8 y9 y10 y11 y12 y13 y14
      unfold jvmcoreref2_encode.j4
      repeat' first
      | (with_reducible exact ih0 _ _ _ _ _ _ _ _ _ _ _)
      | (with_reducible exact ih1 _ _ _ _ _ _ _ _ _ _ _ _)
      | (with_reducible exact ih2 _ _ _ _ _ _ _ _ _ _ _ _ _)
      | (with_reducible exact ih3 _ _ _ _ _ _ _ _ _ _ _ _)
      | (with_reducible exact ih4 _ _ _ _ _ _ _ _ _ _ _ _ _ _ _)
      | (with_reducible exact LeO.refl _)
      | (with_reducible exact LeO.none _)
      | (with_reducible refine LeO.ite ?_ ?_)
      | (with_reducible refine LeO.bind ?_ (fun _ => ?_))
theorem jvmcoreref2_encode.mono : ∀ a0 a1 a2 a3 a4 a5 a6 a7 a8 k, LeO (jvmcoreref2_encode.f k a0 a1 a2 a3 a4 a5 a6 a7 a8) (jvmcoreref2_encode.f (k + 1) a0 a1 a2 a3 a4 a5 a6 a7 a8) := by
  intro a0 a1 a2 a3 a4 a5 a6 a7 a8 k
  obtain ⟨ih0, ih1, ih2, ih3, ih4⟩ := jvmcoreref2_encode.mono_l k
  unfold jvmcoreref2_encode.f
  repeat' first
      | (with_reducible exact ih0 _ _ _ _ _ _ _ _ _ _ _)
      | (with_reducible exact ih1 _ _ _ _ _ _ _ _ _ _ _ _)
      | (with_reducible exact ih2 _ _ _ _ _ _ _ _ _ _ _ _ _)
      | (with_reducible exact ih3 _ _ _ _ _ _ _ _ _ _ _ _)
      | (with_reducible exact ih4 _ _ _ _ _ _ _ _ _ _ _ _ _ _ _)
      | (with_reducible exact LeO.refl _)
      | (with_reducible exact LeO.none _)
      | (with_reducible refine LeO.ite ?_ ?_)
      | (with_reducible refine LeO.bind ?_ (fun _ => ?_))
def jvmcoreref2_encode.T35 : Bool × List (List Nat × List Nat) := (true, [([], []), ([0], [0]), ([1], [1]), ([2], [2]), ([], []), ([4], [4]), ([3, 5], [3, 5]), ([6], [6]), ([7], [7]), ([8], [8]), ([8], [8]), ([9, 7, 0, 1, 2, 3, 4, 5, 6, 7, 8, 9], [9]), ([10, 11, 0, 1, 2, 3, 4, 5, 6, 7, 8, 9, 10, 11], [10])])
def jvmcoreref2_encode.B35 : List Nat := [0, 1, 3, 7, 0, 16, 63, 127, 255, 511, 511, 1023, 4095]
theorem jvmcoreref2_encode.tab35 : rtab .any (opsOf Try.f81 35) = jvmcoreref2_encode.T35 := by kernel_rfl
theorem jvmcoreref2_encode.bits35 : waitsOk jvmcoreref2_encode.T35.2 jvmcoreref2_encode.B35 = true := by kernel_rfl
def jvmcoreref2_encode.T37 : Bool × List (List Nat × List Nat) := (true, [([], []), ([0], [0]), ([1], [1]), ([2], [2]), ([], []), ([4], [4]), ([3, 5], [3, 5]), ([6], [6]), ([7], [7]), ([8], [8]), ([8], [8]), ([9, 7, 0, 1, 2, 3, 4, 5, 6, 7, 8, 9], [9]), ([10, 11, 0, 1, 2, 3, 4, 5, 6, 7, 8, 9, 10, 11], [10])])
def jvmcoreref2_encode.B37 : List Nat := [0, 1, 3, 7, 0, 16, 63, 127, 255, 511, 511, 1023, 4095]
theorem jvmcoreref2_encode.tab37 : rtab .any (opsOf Try.f81 37) = jvmcoreref2_encode.T37 := by kernel_rfl
theorem jvmcoreref2_encode.bits37 : waitsOk jvmcoreref2_encode.T37.2 jvmcoreref2_encode.B37 = true := by kernel_rfl
set_option maxHeartbeats 8000000 in
set_option maxRecDepth 100000 in
theorem jvmcoreref2_encode.calls (k : Nat) (a0_0 : Int) (a0_1 : Int) (a0_2 : Bool) (a0_3 : Int) (a0_4 : Int) (a0_5 : Int) (A0_6 : Option Addr) (c0_6 : Nat) (l0_6 : List Int) (A0_7 : Option Addr) (c0_7 : Nat) (l0_7 : List Int) (a1 : ByteArray) (r1 : ByteArray) (r2 : Bool) (w : World) (hr0_6 : Kd.C (Kd.int .i64) w A0_6 l0_6.length l0_6) (hc0_6 : l0_6.length ≤ c0_6) (hr0_7 : Kd.C (Kd.int .i64) w A0_7 l0_7.length l0_7) (hc0_7 : l0_7.length ≤ c0_7) (h : jvmcoreref2_encode.f k a0_0 a0_1 a0_2 a0_3 a0_4 a0_5 l0_6 l0_7 a1 = some (r1, r2)) :
    Calls Try.prog 81 #[.agg #[.int .i64 a0_0, .int .u8 a0_1, .bool a0_2, .int .i64 a0_3, .int .i64 a0_4, .int .i64 a0_5, .slice A0_6 l0_6.length c0_6, .slice A0_7 l0_7.length c0_7], .string a1] w fun e w' => e = .returned (.tuple #[.string r1, .bool r2]) ∧ Below w.heap.size w w' := by
  have hu82 := Try.underlying82
  have HR0_6 := Aside0.mk hr0_6
  have HC0_6 := Aside0.mk hc0_6
  clear hr0_6 hc0_6
  have HR0_7 := Aside0.mk hr0_7
  have HC0_7 := Aside0.mk hc0_7
  clear hr0_7 hc0_7
  have HB := Aside0.mk (Below.refl w.heap.size w)
  have H : ((some (([a0_1] : List Int) : List Int)).bind fun y126 => (if a0_2 = true then (if 1 + (strOfNums y126).size ≤ 9223372036854775807 then (jvmcoreref2_encode.j0 k a1 ((⟨#[196]⟩ : ByteArray) ++ (strOfNums y126)) 2 a0_0 a0_1 a0_2 a0_3 a0_4 a0_5 l0_6 l0_7) else (none)) else (jvmcoreref2_encode.j0 k a1 (strOfNums y126) 1 a0_0 a0_1 a0_2 a0_3 a0_4 a0_5 l0_6 l0_7))) = some (r1, r2) := h
  clear h
  obtain ⟨y126, hy126⟩ : ∃ y_ : List Int, y_ = (([a0_1] : List Int)) := ⟨_, rfl⟩
  replace H : (if a0_2 = true then (if 1 + (strOfNums y126).size ≤ 9223372036854775807 then (jvmcoreref2_encode.j0 k a1 ((⟨#[196]⟩ : ByteArray) ++ (strOfNums y126)) 2 a0_0 a0_1 a0_2 a0_3 a0_4 a0_5 l0_6 l0_7) else (none)) else (jvmcoreref2_encode.j0 k a1 (strOfNums y126) 1 a0_0 a0_1 a0_2 a0_3 a0_4 a0_5 l0_6 l0_7)) = some (r1, r2) := by first | (rw [hy126]; with_reducible exact H) | (have H2_ := (Option.bind_some _ _).symm.trans H; rw [hy126]; with_reducible exact H2_) | (have H2_ := (Option.bind_some _ _).symm.trans H; with_reducible exact H2_) | with_reducible exact H | (rw [hy126]; exact H) | exact H
  have Ny126 := Aside0.mk hy126
  clear hy126
  have HC3 := Aside0.mk H
  clear H
  go_enter Try.func81, Try.ntmps81
  go_upto_if 18 with (first | ((with_reducible refine gate_dst (N := 2) rfl ?_); refine box_event ?hg (N := 2) ?hd (cs := #[.int .i64 a0_0, .int .u8 a0_1, .bool a0_2, .int .i64 a0_3, .int .i64 a0_4, .int .i64 a0_5, .slice A0_6 l0_6.length c0_6, .slice A0_7 l0_7.length c0_7]) (t := 82) ?hr ?_; (case hd => rfl); (case hg => rfl); (case hr => first | (go_simp; done) | (go_simp; rfl)); intro gb125 hg w4 hbox hb; have n0_ := Aside0.mk (below_step (by repeat (first | (with_reducible first | exact HB.out | apply below_alloc | apply pw_below_drewN | apply below_drew1) | exact HB.out)) hb); have n1_ := Aside0.mk (hbox); have n2_ := Aside0.mk ((by rw [hg]; exact (below_size (by repeat (first | (with_reducible first | exact HB.out | apply below_alloc | apply pw_below_drewN | apply below_drew1) | exact HB.out))) : w.heap.size ≤ gb125)); have n3_ := Aside0.mk ((by rw [hg]; exact (below_size (by repeat (first | (with_reducible first | exact HB.out | apply below_alloc | apply pw_below_drewN | apply below_drew1) | exact HB.out))) : w.heap.size ≤ gb125)); clear HB; have HB := n0_; have BK125 := n1_; have GW125 := n2_; have GE125 := n3_; clear n0_ n1_ n2_ n3_; clear hb hbox hg; obtain ⟨hcz5_0, hcz5_1, hcz5_2, hcz5_3, hcz5_4, hcz5_5, hcz5_6, hcz5_7⟩ := box8 BK125.out; have hfz5_0 := blk_frozen BK125.out 0; have hfz5_1 := blk_frozen BK125.out 1; have hfz5_2 := blk_frozen BK125.out 2; have hfz5_3 := blk_frozen BK125.out 3; have hfz5_4 := blk_frozen BK125.out 4; have hfz5_5 := blk_frozen BK125.out 5; have hfz5_6 := blk_frozen BK125.out 6; have hfz5_7 := blk_frozen BK125.out 7) | ((with_reducible refine gate_dst (N := 15) rfl ?_); refine Kd.R_lit (Kd.int .u8) _ 5 ?hg (N := 15) ?hd (xs := ([a0_1] : List Int)) (inner := [.int .u8 a0_1]) (ok := fun _ => True) (okp := fun _ => True) ?hr ?hp (fun _ hk => hk) trivial (Below.refl _ _) (Nat.le_refl _) (by simp) ?_; (case hd => rfl); (case hg => rfl); (case hr => first | (go_simp; done) | (go_simp; rfl)); (case hp => exact (Reps.one (show Kd.M (Kd.int .u8) _ _ _ a0_1 [.int .u8 a0_1] from rfl) (Reps.none _ _))); intro v127 w6 ho7 hb hg_ hnew_; clear hg_ hnew_; (first | rw [← Ny126.out] at ho7 | (simp only [Int.reduceToNat] at ho7; rw [← Ny126.out] at ho7)); have n0_ := Aside0.mk (Kd.R_lower ho7 (below_size (by repeat (first | (with_reducible first | exact HB.out | apply below_alloc | apply pw_below_drewN | apply below_drew1 | refine below_set ?_ GE125.out) | exact HB.out)))); have n1_ := Aside0.mk (blk_below (g := gb125) (o := .cells #[.int .i64 a0_0, .int .u8 a0_1, .bool a0_2, .int .i64 a0_3, .int .i64 a0_4, .int .i64 a0_5, .slice A0_6 l0_6.length c0_6, .slice A0_7 l0_7.length c0_7] 82 (0, 0)) (by (with_reducible repeat (first | refine blk_drewN ?_ _ | refine blk_drew ?_ | refine blk_alloc ?_ _)); exact BK125.out) hb); have n2_ := Aside0.mk (below_step (by repeat (first | (with_reducible first | exact HB.out | apply below_alloc | apply pw_below_drewN | apply below_drew1 | refine below_set ?_ GE125.out) | exact HB.out)) hb); clear BK125; clear HB; have HO128 := n0_; have BK125 := n1_; have HB := n2_; clear n0_ n1_ n2_; clear hb ho7; have hcv8 := own_string (P := Try.prog) Try.underlying87 Try.underlying5 Try.underlying9 (Kd.own_of_R HO128.out); obtain ⟨hcz9_0, hcz9_1, hcz9_2, hcz9_3, hcz9_4, hcz9_5, hcz9_6, hcz9_7⟩ := box8 BK125.out; have hfz9_0 := blk_frozen BK125.out 0; have hfz9_1 := blk_frozen BK125.out 1; have hfz9_2 := blk_frozen BK125.out 2; have hfz9_3 := blk_frozen BK125.out 3; have hfz9_4 := blk_frozen BK125.out 4; have hfz9_5 := blk_frozen BK125.out 5; have hfz9_6 := blk_frozen BK125.out 6; have hfz9_7 := blk_frozen BK125.out 7))
  (try simp only [Act.put, List.setIfInBounds_toArray, List.set_cons_zero, List.set_cons_succ])
  go_cut [6, 7] (fun v6 v7 wc => ∃ (kq : Nat) (x6_2 : ByteArray) (x7_2 : Int), v6 = .string x6_2 ∧ v7 = .int .i64 x7_2 ∧ Aside0 (jvmcoreref2_encode.j0 kq a1 x6_2 x7_2 a0_0 a0_1 a0_2 a0_3 a0_4 a0_5 l0_6 l0_7 = some (r1, r2)) ∧ Aside0 (kq ≤ k) ∧ Aside0 (wc.heap[gb125]? = some (.cells #[.int .i64 a0_0, .int .u8 a0_1, .bool a0_2, .int .i64 a0_3, .int .i64 a0_4, .int .i64 a0_5, (.slice A0_6 l0_6.length c0_6), (.slice A0_7 l0_7.length c0_7)] 82 (0, 0))) ∧ Aside0 (Below w.heap.size w wc))
  case first =>
    have H := HC3.out
    clear HC3
    by_cases c10 : a0_2 = true
    · subst c10
      have H1 : (if 1 + (strOfNums y126).size ≤ 9223372036854775807 then (jvmcoreref2_encode.j0 k a1 ((⟨#[196]⟩ : ByteArray) ++ (strOfNums y126)) 2 a0_0 a0_1 true a0_3 a0_4 a0_5 l0_6 l0_7) else (none)) = some (r1, r2) := by rw [if_pos rfl] at H; exact H
      clear H
      have H := H1
      clear H1
      by_cases c11 : 1 + (strOfNums y126).size ≤ 9223372036854775807
      · rw [if_pos c11] at H
        have c11b0 := eq_true c11
        have c11b1 : decide (1 + (strOfNums y126).size ≤ 9223372036854775807) = true := decide_eq_true c11
        try have c11b2 : (9223372036854775807 < 1 + (strOfNums y126).size) = False := eq_false (Nat.not_lt.2 c11)
        have H' := Aside0.mk H
        clear H
        go_wp2
        go_meet
        case rel => exact ⟨_, ((⟨#[196]⟩ : ByteArray) ++ (strOfNums y126)), (2), (by first | rfl | (simp; done) | (simp [*]; done)), (by first | rfl | (simp; done) | (simp [*]; done)), H', ⟨by first | omega | exact Nat.le_refl _⟩, ⟨by (with_reducible repeat (first | refine blk_drewN ?_ _ | refine blk_drew ?_ | refine blk_alloc ?_ _)); exact BK125.out⟩, ⟨by repeat (first | (with_reducible first | exact HB.out | apply below_alloc | apply pw_below_drewN | apply below_drew1 | refine below_set ?_ GE125.out) | exact HB.out)⟩⟩
      · rw [if_neg c11] at H
        exact absurd H (by simp)
    · replace c10 := Bool.eq_false_iff.mpr c10
      subst c10
      have H1 : (jvmcoreref2_encode.j0 k a1 (strOfNums y126) 1 a0_0 a0_1 false a0_3 a0_4 a0_5 l0_6 l0_7) = some (r1, r2) := by rw [if_neg (show ¬ (false = true) by decide)] at H; exact H
      clear H
      have H := H1
      clear H1
      have H' := Aside0.mk H
      clear H
      go_wp2
      go_meet
      case rel => exact ⟨_, (strOfNums y126), (1), (by first | rfl | (simp; done) | (simp [*]; done)), (by first | rfl | (simp; done) | (simp [*]; done)), H', ⟨by first | omega | exact Nat.le_refl _⟩, ⟨by (with_reducible repeat (first | refine blk_drewN ?_ _ | refine blk_drew ?_ | refine blk_alloc ?_ _)); exact BK125.out⟩, ⟨by repeat (first | (with_reducible first | exact HB.out | apply below_alloc | apply pw_below_drewN | apply below_drew1 | refine below_set ?_ GE125.out) | exact HB.out)⟩⟩
  case rest =>
    clear HC3
    try clear c1
    try clear p2
    try clear c8
    try clear hcv8
    try clear c10
    try clear c11
    try clear c11b0
    try clear c11b1
    try clear c11b2
    try clear hcz5_0
    try clear hcz5_1
    try clear hcz5_2
    try clear hcz5_3
    try clear hcz5_4
    try clear hcz5_5
    try clear hcz5_6
    try clear hcz5_7
    try clear hcz9_0
    try clear hcz9_1
    try clear hcz9_2
    try clear hcz9_3
    try clear hcz9_4
    try clear hcz9_5
    try clear hcz9_6
    try clear hcz9_7
    try clear hfz5_0
    try clear hfz5_1
    try clear hfz5_2
    try clear hfz5_3
    try clear hfz5_4
    try clear hfz5_5
    try clear hfz5_6
    try clear hfz5_7
    try clear hfz9_0
    try clear hfz9_1
    try clear hfz9_2
    try clear hfz9_3
    try clear hfz9_4
    try clear hfz9_5
    try clear hfz9_6
    try clear hfz9_7
    obtain ⟨kq, x6_2, x7_2, rfl, rfl, HA, HJ2, BK125, HB⟩ := hcut
    cases kq with
    | zero => exact absurd HA.out (by simp [jvmcoreref2_encode.j0])
    | succ kj2 =>
      have H := HA.out
      clear HA
      simp only [jvmcoreref2_encode.j0] at H
      have HC12 := Aside0.mk H
      clear H
      go_upto_region 6 with (fail)
      go_cut [26] (fun v26 wc => ∃ (kq : Nat) (x26_11 : Bool), v26 = .bool x26_11 ∧ Aside0 (jvmcoreref2_encode.j1 kq a1 x6_2 x7_2 x26_11 a0_0 a0_1 a0_2 a0_3 a0_4 a0_5 l0_6 l0_7 = some (r1, r2)) ∧ Aside0 (kq ≤ kj2) ∧ Aside0 (wc.heap[gb125]? = some (.cells #[.int .i64 a0_0, .int .u8 a0_1, .bool a0_2, .int .i64 a0_3, .int .i64 a0_4, .int .i64 a0_5, (.slice A0_6 l0_6.length c0_6), (.slice A0_7 l0_7.length c0_7)] 82 (0, 0))) ∧ Aside0 (Below w.heap.size w wc))
      case first =>
        have H := HC12.out
        clear HC12
        by_cases c13 : a1.toList = ([116] : List UInt8)
        · rw [if_pos c13] at H
          have c13b0 : (a1.toList == ([116] : List UInt8)) = true := beq_iff_eq.mpr c13
          have c13b1 : (a1.toList != ([116] : List UInt8)) = false := bne_eq_false_iff_eq.mpr c13
          clear c13
          (first | rw [c13b0] | (simp only [i64_w, i32_w]; rw [c13b0]) | skip)
          have H' := Aside0.mk H
          clear H
          go_wp2
          go_meet
          case rel => exact ⟨_, (true), (by first | rfl | (simp; done) | (simp [*]; done)), H', ⟨by have := HJ2.out; first | omega | exact Nat.le_refl _⟩, ⟨by (with_reducible repeat (first | refine blk_drewN ?_ _ | refine blk_drew ?_ | refine blk_alloc ?_ _)); exact BK125.out⟩, ⟨by repeat (first | (with_reducible first | exact HB.out | apply below_alloc | apply pw_below_drewN | apply below_drew1 | refine below_set ?_ GE125.out) | exact HB.out)⟩⟩
        · rw [if_neg c13] at H
          have c13b0 : (a1.toList == ([116] : List UInt8)) = false := beq_eq_false_iff_ne.mpr c13
          have c13b1 : (a1.toList != ([116] : List UInt8)) = true := bne_iff_ne.mpr c13
          (first | rw [c13b0] | (simp only [i64_w, i32_w]; rw [c13b0]) | skip)
          have H' := Aside0.mk H
          clear H
          go_wp2
          go_meet
          case rel => exact ⟨_, ((a1.toList == ([107] : List UInt8))), (by first | rfl | (simp; done) | (simp [*]; done)), H', ⟨by have := HJ2.out; first | omega | exact Nat.le_refl _⟩, ⟨by (with_reducible repeat (first | refine blk_drewN ?_ _ | refine blk_drew ?_ | refine blk_alloc ?_ _)); exact BK125.out⟩, ⟨by repeat (first | (with_reducible first | exact HB.out | apply below_alloc | apply pw_below_drewN | apply below_drew1 | refine below_set ?_ GE125.out) | exact HB.out)⟩⟩
      case rest =>
        clear HC12
        try clear c1
        try clear p2
        try clear c8
        try clear hcv8
        try clear c10
        try clear c11
        try clear c11b0
        try clear c11b1
        try clear c11b2
        try clear c13
        try clear c13b0
        try clear c13b1
        try clear hcz5_0
        try clear hcz5_1
        try clear hcz5_2
        try clear hcz5_3
        try clear hcz5_4
        try clear hcz5_5
        try clear hcz5_6
        try clear hcz5_7
        try clear hcz9_0
        try clear hcz9_1
        try clear hcz9_2
        try clear hcz9_3
        try clear hcz9_4
        try clear hcz9_5
        try clear hcz9_6
        try clear hcz9_7
        try clear hfz5_0
        try clear hfz5_1
        try clear hfz5_2
        try clear hfz5_3
        try clear hfz5_4
        try clear hfz5_5
        try clear hfz5_6
        try clear hfz5_7
        try clear hfz9_0
        try clear hfz9_1
        try clear hfz9_2
        try clear hfz9_3
        try clear hfz9_4
        try clear hfz9_5
        try clear hfz9_6
        try clear hfz9_7
        try clear p2
        obtain ⟨kq, x26_11, rfl, HA, HJ11, BK125, HB⟩ := hcut
        cases kq with
        | zero => exact absurd HA.out (by simp [jvmcoreref2_encode.j1])
        | succ kj11 =>
          have H := HA.out
          clear HA
          simp only [jvmcoreref2_encode.j1] at H
          by_cases c14 : x26_11 = true
          · subst c14
            have H1 : ((jvmcoreref2_choice.f a0_0 a0_1 a0_2 a0_3 a0_4 a0_5 l0_6 l0_7 (a1.toList == ([107] : List UInt8))).bind fun bt129 => (some (bt129.1, bt129.2))) = some (r1, r2) := by rw [if_pos rfl] at H; exact H
            clear H
            have H := H1
            clear H1
            replace H := Option.bind_eq_some_iff.mp H
            obtain ⟨⟨t129, t130⟩, A150, H⟩ := H
            replace H : (some (t129, t130)) = some (r1, r2) := H
            have A15 := Aside0.mk A150
            clear A150
            simp only [Option.some.injEq, Prod.mk.injEq] at H
            obtain ⟨rfl, rfl⟩ := H
            obtain ⟨hcz16_0, hcz16_1, hcz16_2, hcz16_3, hcz16_4, hcz16_5, hcz16_6, hcz16_7⟩ := box8 BK125.out
            have hfz16_0 := blk_frozen BK125.out 0
            have hfz16_1 := blk_frozen BK125.out 1
            have hfz16_2 := blk_frozen BK125.out 2
            have hfz16_3 := blk_frozen BK125.out 3
            have hfz16_4 := blk_frozen BK125.out 4
            have hfz16_5 := blk_frozen BK125.out 5
            have hfz16_6 := blk_frozen BK125.out 6
            have hfz16_7 := blk_frozen BK125.out 7
            go_wp2_with (first | ((with_reducible refine gate_callee (f := 121) rfl ?_); refine goesL_ (some 30) rfl rfl Try.func121 (by kernel_rfl) rfl #[.agg #[.int .i64 a0_0, .int .u8 a0_1, .bool a0_2, .int .i64 a0_3, .int .i64 a0_4, .int .i64 a0_5, .slice A0_6 l0_6.length c0_6, .slice A0_7 l0_7.length c0_7], .bool (a1.toList == ([107] : List UInt8))] rfl (by (try simp only [List.map_toArray, List.map_cons, List.map_nil]); first | done | rfl | (simp only [List.length_drop, List.length_take]; rfl)) ?_; (with_reducible refine (jvmcoreref2_choice.calls a0_0 a0_1 a0_2 a0_3 a0_4 a0_5 _ _ l0_6 _ _ l0_7 (a1.toList == ([107] : List UInt8)) t129 t130 _ ?side1 ?side2 ?side3 ?side4 A15.out).mono ?_); (case side1 => repeat (first | exact (Kd.C_below HR0_6.out HB.out) | (with_reducible refine Kd.C_alloc ?_ _) | (with_reducible refine Kd.C_drewN ?_ _) | (with_reducible refine Kd.C_drew ?_))); (case side2 => exact HC0_6.out); (case side3 => repeat (first | exact (Kd.C_below HR0_7.out HB.out) | (with_reducible refine Kd.C_alloc ?_ _) | (with_reducible refine Kd.C_drewN ?_ _) | (with_reducible refine Kd.C_drew ?_))); (case side4 => exact HC0_7.out); rintro e w17 ⟨rfl, hb⟩; refine ⟨_, rfl, ?_⟩; have n0_ := Aside0.mk (blk_below (g := gb125) (o := .cells #[.int .i64 a0_0, .int .u8 a0_1, .bool a0_2, .int .i64 a0_3, .int .i64 a0_4, .int .i64 a0_5, .slice A0_6 l0_6.length c0_6, .slice A0_7 l0_7.length c0_7] 82 (0, 0)) (by (with_reducible repeat (first | refine blk_drewN ?_ _ | refine blk_drew ?_ | refine blk_alloc ?_ _)); exact BK125.out) hb); have n1_ := Aside0.mk (below_step (by repeat (first | (with_reducible first | exact HB.out | apply below_alloc | apply pw_below_drewN | apply below_drew1 | refine below_set ?_ GE125.out) | exact HB.out)) hb); clear BK125; clear HB; have BK125 := n0_; have HB := n1_; clear n0_ n1_; (try clear hb); (try clear hb2); (try clear hk); (try clear hi)))
            go_ret2
            exact ⟨by first | rfl | (simp [errW_none, errW_some] <;> rfl) | (simp [*, errW_none, errW_some] <;> rfl), by repeat (first | (with_reducible first | exact HB.out | apply below_alloc | apply pw_below_drewN | apply below_drew1 | refine below_set ?_ GE125.out) | exact HB.out)⟩
          · replace c14 := Bool.eq_false_iff.mpr c14
            subst c14
            have H1 : (if a1.toList = ([106] : List UInt8) then (jvmcoreref2_encode.j2 kj11 a1 x6_2 x7_2 0 true a0_0 a0_1 a0_2 a0_3 a0_4 a0_5 l0_6 l0_7) else (jvmcoreref2_encode.j2 kj11 a1 x6_2 x7_2 0 (a1.toList == ([74] : List UInt8)) a0_0 a0_1 a0_2 a0_3 a0_4 a0_5 l0_6 l0_7)) = some (r1, r2) := by rw [if_neg (show ¬ (false = true) by decide)] at H; exact H
            clear H
            have H := H1
            clear H1
            have HC18 := Aside0.mk H
            clear H
            go_upto_region 9 with (fail)
            go_cut [38] (fun v38 wc => ∃ (kq : Nat) (x38_17 : Bool), v38 = .bool x38_17 ∧ Aside0 (jvmcoreref2_encode.j2 kq a1 x6_2 x7_2 0 x38_17 a0_0 a0_1 a0_2 a0_3 a0_4 a0_5 l0_6 l0_7 = some (r1, r2)) ∧ Aside0 (kq ≤ kj11) ∧ Aside0 (wc.heap[gb125]? = some (.cells #[.int .i64 a0_0, .int .u8 a0_1, .bool a0_2, .int .i64 a0_3, .int .i64 a0_4, .int .i64 a0_5, (.slice A0_6 l0_6.length c0_6), (.slice A0_7 l0_7.length c0_7)] 82 (0, 0))) ∧ Aside0 (Below w.heap.size w wc))
            case first =>
              have H := HC18.out
              clear HC18
              by_cases c19 : a1.toList = ([106] : List UInt8)
              · rw [if_pos c19] at H
                have c19b0 : (a1.toList == ([106] : List UInt8)) = true := beq_iff_eq.mpr c19
                have c19b1 : (a1.toList != ([106] : List UInt8)) = false := bne_eq_false_iff_eq.mpr c19
                clear c19
                (first | rw [c19b0] | (simp only [i64_w, i32_w]; rw [c19b0]) | skip)
                have H' := Aside0.mk H
                clear H
                go_wp2
                go_meet
                case rel => exact ⟨_, (true), (by first | rfl | (simp; done) | (simp [*]; done)), H', ⟨by have := HJ2.out; have := HJ11.out; first | omega | exact Nat.le_refl _⟩, ⟨by (with_reducible repeat (first | refine blk_drewN ?_ _ | refine blk_drew ?_ | refine blk_alloc ?_ _)); exact BK125.out⟩, ⟨by repeat (first | (with_reducible first | exact HB.out | apply below_alloc | apply pw_below_drewN | apply below_drew1 | refine below_set ?_ GE125.out) | exact HB.out)⟩⟩
              · rw [if_neg c19] at H
                have c19b0 : (a1.toList == ([106] : List UInt8)) = false := beq_eq_false_iff_ne.mpr c19
                have c19b1 : (a1.toList != ([106] : List UInt8)) = true := bne_iff_ne.mpr c19
                (first | rw [c19b0] | (simp only [i64_w, i32_w]; rw [c19b0]) | skip)
                have H' := Aside0.mk H
                clear H
                go_wp2
                go_meet
                case rel => exact ⟨_, ((a1.toList == ([74] : List UInt8))), (by first | rfl | (simp; done) | (simp [*]; done)), H', ⟨by have := HJ2.out; have := HJ11.out; first | omega | exact Nat.le_refl _⟩, ⟨by (with_reducible repeat (first | refine blk_drewN ?_ _ | refine blk_drew ?_ | refine blk_alloc ?_ _)); exact BK125.out⟩, ⟨by repeat (first | (with_reducible first | exact HB.out | apply below_alloc | apply pw_below_drewN | apply below_drew1 | refine below_set ?_ GE125.out) | exact HB.out)⟩⟩
            case rest =>
              clear HC18
              try clear c1
              try clear p2
              try clear c8
              try clear hcv8
              try clear c10
              try clear c11
              try clear c11b0
              try clear c11b1
              try clear c11b2
              try clear c12
              try clear c13
              try clear c13b0
              try clear c13b1
              try clear c14
              try clear c19
              try clear c19b0
              try clear c19b1
              try clear hcz16_0
              try clear hcz16_1
              try clear hcz16_2
              try clear hcz16_3
              try clear hcz16_4
              try clear hcz16_5
              try clear hcz16_6
              try clear hcz16_7
              try clear hcz5_0
              try clear hcz5_1
              try clear hcz5_2
              try clear hcz5_3
              try clear hcz5_4
              try clear hcz5_5
              try clear hcz5_6
              try clear hcz5_7
              try clear hcz9_0
              try clear hcz9_1
              try clear hcz9_2
              try clear hcz9_3
              try clear hcz9_4
              try clear hcz9_5
              try clear hcz9_6
              try clear hcz9_7
              try clear hfz16_0
              try clear hfz16_1
              try clear hfz16_2
              try clear hfz16_3
              try clear hfz16_4
              try clear hfz16_5
              try clear hfz16_6
              try clear hfz16_7
              try clear hfz5_0
              try clear hfz5_1
              try clear hfz5_2
              try clear hfz5_3
              try clear hfz5_4
              try clear hfz5_5
              try clear hfz5_6
              try clear hfz5_7
              try clear hfz9_0
              try clear hfz9_1
              try clear hfz9_2
              try clear hfz9_3
              try clear hfz9_4
              try clear hfz9_5
              try clear hfz9_6
              try clear hfz9_7
              try clear p2
              obtain ⟨kq, x38_17, rfl, HA, HJ17, BK125, HB⟩ := hcut
              cases kq with
              | zero => exact absurd HA.out (by simp [jvmcoreref2_encode.j2])
              | succ kj17 =>
                have H := HA.out
                clear HA
                simp only [jvmcoreref2_encode.j2] at H
                have HC20 := Aside0.mk H
                clear H
                go_upto_if 38 with (fail)
                go_cut [8] (fun v8 wc => ∃ (kq : Nat) (x8_19 : Int), v8 = .int .i64 x8_19 ∧ Aside0 (jvmcoreref2_encode.j3 kq a1 x6_2 x7_2 x8_19 a0_0 a0_1 a0_2 a0_3 a0_4 a0_5 l0_6 l0_7 = some (r1, r2)) ∧ Aside0 (kq ≤ kj17) ∧ Aside0 (wc.heap[gb125]? = some (.cells #[.int .i64 a0_0, .int .u8 a0_1, .bool a0_2, .int .i64 a0_3, .int .i64 a0_4, .int .i64 a0_5, (.slice A0_6 l0_6.length c0_6), (.slice A0_7 l0_7.length c0_7)] 82 (0, 0))) ∧ Aside0 (Below w.heap.size w wc))
                case first =>
                  have H := HC20.out
                  clear HC20
                  by_cases c21 : x38_17 = true
                  · subst c21
                    have H1 : (jvmcoreref2_encode.j3 kj17 a1 x6_2 x7_2 1 a0_0 a0_1 a0_2 a0_3 a0_4 a0_5 l0_6 l0_7) = some (r1, r2) := by rw [if_pos rfl] at H; exact H
                    clear H
                    have H := H1
                    clear H1
                    have H' := Aside0.mk H
                    clear H
                    go_wp2
                    go_meet
                    case rel => exact ⟨_, (1), (by first | rfl | (simp; done) | (simp [*]; done)), H', ⟨by have := HJ2.out; have := HJ11.out; have := HJ17.out; first | omega | exact Nat.le_refl _⟩, ⟨by (with_reducible repeat (first | refine blk_drewN ?_ _ | refine blk_drew ?_ | refine blk_alloc ?_ _)); exact BK125.out⟩, ⟨by repeat (first | (with_reducible first | exact HB.out | apply below_alloc | apply pw_below_drewN | apply below_drew1 | refine below_set ?_ GE125.out) | exact HB.out)⟩⟩
                  · replace c21 := Bool.eq_false_iff.mpr c21
                    subst c21
                    have H1 : (jvmcoreref2_encode.j3 kj17 a1 x6_2 x7_2 0 a0_0 a0_1 a0_2 a0_3 a0_4 a0_5 l0_6 l0_7) = some (r1, r2) := by rw [if_neg (show ¬ (false = true) by decide)] at H; exact H
                    clear H
                    have H := H1
                    clear H1
                    have H' := Aside0.mk H
                    clear H
                    go_wp2
                    go_meet
                    case rel => exact ⟨_, (0), (by first | rfl | (simp; done) | (simp [*]; done)), H', ⟨by have := HJ2.out; have := HJ11.out; have := HJ17.out; first | omega | exact Nat.le_refl _⟩, ⟨by (with_reducible repeat (first | refine blk_drewN ?_ _ | refine blk_drew ?_ | refine blk_alloc ?_ _)); exact BK125.out⟩, ⟨by repeat (first | (with_reducible first | exact HB.out | apply below_alloc | apply pw_below_drewN | apply below_drew1 | refine below_set ?_ GE125.out) | exact HB.out)⟩⟩
                case rest =>
                  clear HC20
                  try clear c1
                  try clear c2
                  try clear p2
                  try clear c8
                  try clear hcv8
                  try clear c10
                  try clear c11
                  try clear c11b0
                  try clear c11b1
                  try clear c11b2
                  try clear c12
                  try clear c13
                  try clear c13b0
                  try clear c13b1
                  try clear c14
                  try clear c19
                  try clear c19b0
                  try clear c19b1
                  try clear c21
                  try clear hcz16_0
                  try clear hcz16_1
                  try clear hcz16_2
                  try clear hcz16_3
                  try clear hcz16_4
                  try clear hcz16_5
                  try clear hcz16_6
                  try clear hcz16_7
                  try clear hcz5_0
                  try clear hcz5_1
                  try clear hcz5_2
                  try clear hcz5_3
                  try clear hcz5_4
                  try clear hcz5_5
                  try clear hcz5_6
                  try clear hcz5_7
                  try clear hcz9_0
                  try clear hcz9_1
                  try clear hcz9_2
                  try clear hcz9_3
                  try clear hcz9_4
                  try clear hcz9_5
                  try clear hcz9_6
                  try clear hcz9_7
                  try clear hfz16_0
                  try clear hfz16_1
                  try clear hfz16_2
                  try clear hfz16_3
                  try clear hfz16_4
                  try clear hfz16_5
                  try clear hfz16_6
                  try clear hfz16_7
                  try clear hfz5_0
                  try clear hfz5_1
                  try clear hfz5_2
                  try clear hfz5_3
                  try clear hfz5_4
                  try clear hfz5_5
                  try clear hfz5_6
                  try clear hfz5_7
                  try clear hfz9_0
                  try clear hfz9_1
                  try clear hfz9_2
                  try clear hfz9_3
                  try clear hfz9_4
                  try clear hfz9_5
                  try clear hfz9_6
                  try clear hfz9_7
                  try clear p2
                  obtain ⟨kq, x8_19, rfl, HA, HJ19, BK125, HB⟩ := hcut
                  cases kq with
                  | zero => exact absurd HA.out (by simp [jvmcoreref2_encode.j3])
                  | succ kj19 =>
                    have H := HA.out
                    clear HA
                    simp only [jvmcoreref2_encode.j3] at H
                    by_cases c22 : (l0_7.length : Int) = x8_19
                    · rw [if_pos c22] at H
                      have c22b0 : ((l0_7.length : Int) == x8_19) = true := beq_iff_eq.mpr c22
                      have c22b1 : ((l0_7.length : Int) != x8_19) = false := bne_eq_false_iff_eq.mpr c22
                      clear c22
                      by_cases c23 : a1.toList = ([98] : List UInt8)
                      · rw [if_pos c23] at H
                        have c23b0 : (a1.toList == ([98] : List UInt8)) = true := beq_iff_eq.mpr c23
                        have c23b1 : (a1.toList != ([98] : List UInt8)) = false := bne_eq_false_iff_eq.mpr c23
                        clear c23
                        replace H := Option.bind_eq_some_iff.mp H
                        obtain ⟨⟨t131, t132⟩, A240, H⟩ := H
                        replace H : (if x6_2.size + t131.size ≤ 9223372036854775807 then (if (x6_2 ++ t131).size + 0 ≤ 9223372036854775807 then (if t132 = true then (some ((x6_2 ++ t131) ++ (⟨#[]⟩ : ByteArray), true)) else (some ((x6_2 ++ t131) ++ (⟨#[]⟩ : ByteArray), false))) else (none)) else (none)) = some (r1, r2) := H
                        have A24 := Aside0.mk A240
                        clear A240
                        by_cases c25 : x6_2.size + t131.size ≤ 9223372036854775807
                        · rw [if_pos c25] at H
                          have c25b0 := eq_true c25
                          have c25b1 : decide (x6_2.size + t131.size ≤ 9223372036854775807) = true := decide_eq_true c25
                          try have c25b2 : (9223372036854775807 < x6_2.size + t131.size) = False := eq_false (Nat.not_lt.2 c25)
                          by_cases c26 : (x6_2 ++ t131).size + 0 ≤ 9223372036854775807
                          · rw [if_pos c26] at H
                            have c26b0 := eq_true c26
                            have c26b1 : decide ((x6_2 ++ t131).size + 0 ≤ 9223372036854775807) = true := decide_eq_true c26
                            try have c26b2 : (9223372036854775807 < (x6_2 ++ t131).size + 0) = False := eq_false (Nat.not_lt.2 c26)
                            by_cases c27 : t132 = true
                            · subst c27
                              have H1 : (some ((x6_2 ++ t131) ++ (⟨#[]⟩ : ByteArray), true)) = some (r1, r2) := by rw [if_pos rfl] at H; exact H
                              clear H
                              have H := H1
                              clear H1
                              simp only [Option.some.injEq, Prod.mk.injEq] at H
                              obtain ⟨rfl, rfl⟩ := H
                              obtain ⟨hcz28_0, hcz28_1, hcz28_2, hcz28_3, hcz28_4, hcz28_5, hcz28_6, hcz28_7⟩ := box8 BK125.out
                              have hfz28_0 := blk_frozen BK125.out 0
                              have hfz28_1 := blk_frozen BK125.out 1
                              have hfz28_2 := blk_frozen BK125.out 2
                              have hfz28_3 := blk_frozen BK125.out 3
                              have hfz28_4 := blk_frozen BK125.out 4
                              have hfz28_5 := blk_frozen BK125.out 5
                              have hfz28_6 := blk_frozen BK125.out 6
                              have hfz28_7 := blk_frozen BK125.out 7
                              go_wp2_with (first | ((with_reducible refine gate_callee (f := 122) rfl ?_); refine goesL_ (some 50) rfl rfl Try.func122 (by kernel_rfl) rfl #[.int .i64 a0_3, .int .i64 1, .bool true] rfl (by (try simp only [List.map_toArray, List.map_cons, List.map_nil]); first | done | rfl | (simp only [List.length_drop, List.length_take]; rfl)) ?_; (with_reducible refine (jvmcoreref2_bytes.calls a0_3 1 true t131 true _ A24.out).mono ?_); rintro e w29 ⟨rfl, hb⟩; refine ⟨_, rfl, ?_⟩; have n0_ := Aside0.mk (blk_below (g := gb125) (o := .cells #[.int .i64 a0_0, .int .u8 a0_1, .bool a0_2, .int .i64 a0_3, .int .i64 a0_4, .int .i64 a0_5, .slice A0_6 l0_6.length c0_6, .slice A0_7 l0_7.length c0_7] 82 (0, 0)) (by (with_reducible repeat (first | refine blk_drewN ?_ _ | refine blk_drew ?_ | refine blk_alloc ?_ _)); exact BK125.out) hb); have n1_ := Aside0.mk (below_step (by repeat (first | (with_reducible first | exact HB.out | apply below_alloc | apply pw_below_drewN | apply below_drew1 | refine below_set ?_ GE125.out) | exact HB.out)) hb); clear BK125; clear HB; have BK125 := n0_; have HB := n1_; clear n0_ n1_; (try clear hb); (try clear hb2); (try clear hk); (try clear hi)))
                              go_ret2
                              exact ⟨by first | rfl | (simp [errW_none, errW_some] <;> rfl) | (simp [*, errW_none, errW_some] <;> rfl), by repeat (first | (with_reducible first | exact HB.out | apply below_alloc | apply pw_below_drewN | apply below_drew1 | refine below_set ?_ GE125.out) | exact HB.out)⟩
                            · replace c27 := Bool.eq_false_iff.mpr c27
                              subst c27
                              have H1 : (some ((x6_2 ++ t131) ++ (⟨#[]⟩ : ByteArray), false)) = some (r1, r2) := by rw [if_neg (show ¬ (false = true) by decide)] at H; exact H
                              clear H
                              have H := H1
                              clear H1
                              simp only [Option.some.injEq, Prod.mk.injEq] at H
                              obtain ⟨rfl, rfl⟩ := H
                              obtain ⟨hcz30_0, hcz30_1, hcz30_2, hcz30_3, hcz30_4, hcz30_5, hcz30_6, hcz30_7⟩ := box8 BK125.out
                              have hfz30_0 := blk_frozen BK125.out 0
                              have hfz30_1 := blk_frozen BK125.out 1
                              have hfz30_2 := blk_frozen BK125.out 2
                              have hfz30_3 := blk_frozen BK125.out 3
                              have hfz30_4 := blk_frozen BK125.out 4
                              have hfz30_5 := blk_frozen BK125.out 5
                              have hfz30_6 := blk_frozen BK125.out 6
                              have hfz30_7 := blk_frozen BK125.out 7
                              go_wp2_with (first | ((with_reducible refine gate_callee (f := 122) rfl ?_); refine goesL_ (some 50) rfl rfl Try.func122 (by kernel_rfl) rfl #[.int .i64 a0_3, .int .i64 1, .bool true] rfl (by (try simp only [List.map_toArray, List.map_cons, List.map_nil]); first | done | rfl | (simp only [List.length_drop, List.length_take]; rfl)) ?_; (with_reducible refine (jvmcoreref2_bytes.calls a0_3 1 true t131 false _ A24.out).mono ?_); rintro e w31 ⟨rfl, hb⟩; refine ⟨_, rfl, ?_⟩; have n0_ := Aside0.mk (blk_below (g := gb125) (o := .cells #[.int .i64 a0_0, .int .u8 a0_1, .bool a0_2, .int .i64 a0_3, .int .i64 a0_4, .int .i64 a0_5, .slice A0_6 l0_6.length c0_6, .slice A0_7 l0_7.length c0_7] 82 (0, 0)) (by (with_reducible repeat (first | refine blk_drewN ?_ _ | refine blk_drew ?_ | refine blk_alloc ?_ _)); exact BK125.out) hb); have n1_ := Aside0.mk (below_step (by repeat (first | (with_reducible first | exact HB.out | apply below_alloc | apply pw_below_drewN | apply below_drew1 | refine below_set ?_ GE125.out) | exact HB.out)) hb); clear BK125; clear HB; have BK125 := n0_; have HB := n1_; clear n0_ n1_; (try clear hb); (try clear hb2); (try clear hk); (try clear hi)))
                              go_ret2
                              exact ⟨by first | rfl | (simp [errW_none, errW_some] <;> rfl) | (simp [*, errW_none, errW_some] <;> rfl), by repeat (first | (with_reducible first | exact HB.out | apply below_alloc | apply pw_below_drewN | apply below_drew1 | refine below_set ?_ GE125.out) | exact HB.out)⟩
                          · rw [if_neg c26] at H
                            exact absurd H (by simp)
                        · rw [if_neg c25] at H
                          exact absurd H (by simp)
                      · rw [if_neg c23] at H
                        have c23b0 : (a1.toList == ([98] : List UInt8)) = false := beq_eq_false_iff_ne.mpr c23
                        have c23b1 : (a1.toList != ([98] : List UInt8)) = true := bne_iff_ne.mpr c23
                        by_cases c32 : a1.toList = ([115] : List UInt8)
                        · rw [if_pos c32] at H
                          have c32b0 : (a1.toList == ([115] : List UInt8)) = true := beq_iff_eq.mpr c32
                          have c32b1 : (a1.toList != ([115] : List UInt8)) = false := bne_eq_false_iff_eq.mpr c32
                          clear c32
                          replace H := Option.bind_eq_some_iff.mp H
                          obtain ⟨⟨t133, t134⟩, A330, H⟩ := H
                          replace H : (if x6_2.size + t133.size ≤ 9223372036854775807 then (if (x6_2 ++ t133).size + 0 ≤ 9223372036854775807 then (if t134 = true then (some ((x6_2 ++ t133) ++ (⟨#[]⟩ : ByteArray), true)) else (some ((x6_2 ++ t133) ++ (⟨#[]⟩ : ByteArray), false))) else (none)) else (none)) = some (r1, r2) := H
                          have A33 := Aside0.mk A330
                          clear A330
                          by_cases c34 : x6_2.size + t133.size ≤ 9223372036854775807
                          · rw [if_pos c34] at H
                            have c34b0 := eq_true c34
                            have c34b1 : decide (x6_2.size + t133.size ≤ 9223372036854775807) = true := decide_eq_true c34
                            try have c34b2 : (9223372036854775807 < x6_2.size + t133.size) = False := eq_false (Nat.not_lt.2 c34)
                            by_cases c35 : (x6_2 ++ t133).size + 0 ≤ 9223372036854775807
                            · rw [if_pos c35] at H
                              have c35b0 := eq_true c35
                              have c35b1 : decide ((x6_2 ++ t133).size + 0 ≤ 9223372036854775807) = true := decide_eq_true c35
                              try have c35b2 : (9223372036854775807 < (x6_2 ++ t133).size + 0) = False := eq_false (Nat.not_lt.2 c35)
                              by_cases c36 : t134 = true
                              · subst c36
                                have H1 : (some ((x6_2 ++ t133) ++ (⟨#[]⟩ : ByteArray), true)) = some (r1, r2) := by rw [if_pos rfl] at H; exact H
                                clear H
                                have H := H1
                                clear H1
                                simp only [Option.some.injEq, Prod.mk.injEq] at H
                                obtain ⟨rfl, rfl⟩ := H
                                obtain ⟨hcz37_0, hcz37_1, hcz37_2, hcz37_3, hcz37_4, hcz37_5, hcz37_6, hcz37_7⟩ := box8 BK125.out
                                have hfz37_0 := blk_frozen BK125.out 0
                                have hfz37_1 := blk_frozen BK125.out 1
                                have hfz37_2 := blk_frozen BK125.out 2
                                have hfz37_3 := blk_frozen BK125.out 3
                                have hfz37_4 := blk_frozen BK125.out 4
                                have hfz37_5 := blk_frozen BK125.out 5
                                have hfz37_6 := blk_frozen BK125.out 6
                                have hfz37_7 := blk_frozen BK125.out 7
                                go_wp2_with (first | ((with_reducible refine gate_callee (f := 122) rfl ?_); refine goesL_ (some 58) rfl rfl Try.func122 (by kernel_rfl) rfl #[.int .i64 a0_3, .int .i64 2, .bool true] rfl (by (try simp only [List.map_toArray, List.map_cons, List.map_nil]); first | done | rfl | (simp only [List.length_drop, List.length_take]; rfl)) ?_; (with_reducible refine (jvmcoreref2_bytes.calls a0_3 2 true t133 true _ A33.out).mono ?_); rintro e w38 ⟨rfl, hb⟩; refine ⟨_, rfl, ?_⟩; have n0_ := Aside0.mk (blk_below (g := gb125) (o := .cells #[.int .i64 a0_0, .int .u8 a0_1, .bool a0_2, .int .i64 a0_3, .int .i64 a0_4, .int .i64 a0_5, .slice A0_6 l0_6.length c0_6, .slice A0_7 l0_7.length c0_7] 82 (0, 0)) (by (with_reducible repeat (first | refine blk_drewN ?_ _ | refine blk_drew ?_ | refine blk_alloc ?_ _)); exact BK125.out) hb); have n1_ := Aside0.mk (below_step (by repeat (first | (with_reducible first | exact HB.out | apply below_alloc | apply pw_below_drewN | apply below_drew1 | refine below_set ?_ GE125.out) | exact HB.out)) hb); clear BK125; clear HB; have BK125 := n0_; have HB := n1_; clear n0_ n1_; (try clear hb); (try clear hb2); (try clear hk); (try clear hi)))
                                go_ret2
                                exact ⟨by first | rfl | (simp [errW_none, errW_some] <;> rfl) | (simp [*, errW_none, errW_some] <;> rfl), by repeat (first | (with_reducible first | exact HB.out | apply below_alloc | apply pw_below_drewN | apply below_drew1 | refine below_set ?_ GE125.out) | exact HB.out)⟩
                              · replace c36 := Bool.eq_false_iff.mpr c36
                                subst c36
                                have H1 : (some ((x6_2 ++ t133) ++ (⟨#[]⟩ : ByteArray), false)) = some (r1, r2) := by rw [if_neg (show ¬ (false = true) by decide)] at H; exact H
                                clear H
                                have H := H1
                                clear H1
                                simp only [Option.some.injEq, Prod.mk.injEq] at H
                                obtain ⟨rfl, rfl⟩ := H
                                obtain ⟨hcz39_0, hcz39_1, hcz39_2, hcz39_3, hcz39_4, hcz39_5, hcz39_6, hcz39_7⟩ := box8 BK125.out
                                have hfz39_0 := blk_frozen BK125.out 0
                                have hfz39_1 := blk_frozen BK125.out 1
                                have hfz39_2 := blk_frozen BK125.out 2
                                have hfz39_3 := blk_frozen BK125.out 3
                                have hfz39_4 := blk_frozen BK125.out 4
                                have hfz39_5 := blk_frozen BK125.out 5
                                have hfz39_6 := blk_frozen BK125.out 6
                                have hfz39_7 := blk_frozen BK125.out 7
                                go_wp2_with (first | ((with_reducible refine gate_callee (f := 122) rfl ?_); refine goesL_ (some 58) rfl rfl Try.func122 (by kernel_rfl) rfl #[.int .i64 a0_3, .int .i64 2, .bool true] rfl (by (try simp only [List.map_toArray, List.map_cons, List.map_nil]); first | done | rfl | (simp only [List.length_drop, List.length_take]; rfl)) ?_; (with_reducible refine (jvmcoreref2_bytes.calls a0_3 2 true t133 false _ A33.out).mono ?_); rintro e w40 ⟨rfl, hb⟩; refine ⟨_, rfl, ?_⟩; have n0_ := Aside0.mk (blk_below (g := gb125) (o := .cells #[.int .i64 a0_0, .int .u8 a0_1, .bool a0_2, .int .i64 a0_3, .int .i64 a0_4, .int .i64 a0_5, .slice A0_6 l0_6.length c0_6, .slice A0_7 l0_7.length c0_7] 82 (0, 0)) (by (with_reducible repeat (first | refine blk_drewN ?_ _ | refine blk_drew ?_ | refine blk_alloc ?_ _)); exact BK125.out) hb); have n1_ := Aside0.mk (below_step (by repeat (first | (with_reducible first | exact HB.out | apply below_alloc | apply pw_below_drewN | apply below_drew1 | refine below_set ?_ GE125.out) | exact HB.out)) hb); clear BK125; clear HB; have BK125 := n0_; have HB := n1_; clear n0_ n1_; (try clear hb); (try clear hb2); (try clear hk); (try clear hi)))
                                go_ret2
                                exact ⟨by first | rfl | (simp [errW_none, errW_some] <;> rfl) | (simp [*, errW_none, errW_some] <;> rfl), by repeat (first | (with_reducible first | exact HB.out | apply below_alloc | apply pw_below_drewN | apply below_drew1 | refine below_set ?_ GE125.out) | exact HB.out)⟩
                            · rw [if_neg c35] at H
                              exact absurd H (by simp)
                          · rw [if_neg c34] at H
                            exact absurd H (by simp)
                        · rw [if_neg c32] at H
                          have c32b0 : (a1.toList == ([115] : List UInt8)) = false := beq_eq_false_iff_ne.mpr c32
                          have c32b1 : (a1.toList != ([115] : List UInt8)) = true := bne_iff_ne.mpr c32
                          by_cases c41 : a1.toList = ([99] : List UInt8)
                          · rw [if_pos c41] at H
                            have c41b0 : (a1.toList == ([99] : List UInt8)) = true := beq_iff_eq.mpr c41
                            have c41b1 : (a1.toList != ([99] : List UInt8)) = false := bne_eq_false_iff_eq.mpr c41
                            clear c41
                            replace H := Option.bind_eq_some_iff.mp H
                            obtain ⟨⟨t135, t136⟩, A420, H⟩ := H
                            replace H : (if x6_2.size + t135.size ≤ 9223372036854775807 then (if (x6_2 ++ t135).size + 0 ≤ 9223372036854775807 then (if t136 = true then (some ((x6_2 ++ t135) ++ (⟨#[]⟩ : ByteArray), true)) else (some ((x6_2 ++ t135) ++ (⟨#[]⟩ : ByteArray), false))) else (none)) else (none)) = some (r1, r2) := H
                            have A42 := Aside0.mk A420
                            clear A420
                            by_cases c43 : x6_2.size + t135.size ≤ 9223372036854775807
                            · rw [if_pos c43] at H
                              have c43b0 := eq_true c43
                              have c43b1 : decide (x6_2.size + t135.size ≤ 9223372036854775807) = true := decide_eq_true c43
                              try have c43b2 : (9223372036854775807 < x6_2.size + t135.size) = False := eq_false (Nat.not_lt.2 c43)
                              by_cases c44 : (x6_2 ++ t135).size + 0 ≤ 9223372036854775807
                              · rw [if_pos c44] at H
                                have c44b0 := eq_true c44
                                have c44b1 : decide ((x6_2 ++ t135).size + 0 ≤ 9223372036854775807) = true := decide_eq_true c44
                                try have c44b2 : (9223372036854775807 < (x6_2 ++ t135).size + 0) = False := eq_false (Nat.not_lt.2 c44)
                                by_cases c45 : t136 = true
                                · subst c45
                                  have H1 : (some ((x6_2 ++ t135) ++ (⟨#[]⟩ : ByteArray), true)) = some (r1, r2) := by rw [if_pos rfl] at H; exact H
                                  clear H
                                  have H := H1
                                  clear H1
                                  simp only [Option.some.injEq, Prod.mk.injEq] at H
                                  obtain ⟨rfl, rfl⟩ := H
                                  obtain ⟨hcz46_0, hcz46_1, hcz46_2, hcz46_3, hcz46_4, hcz46_5, hcz46_6, hcz46_7⟩ := box8 BK125.out
                                  have hfz46_0 := blk_frozen BK125.out 0
                                  have hfz46_1 := blk_frozen BK125.out 1
                                  have hfz46_2 := blk_frozen BK125.out 2
                                  have hfz46_3 := blk_frozen BK125.out 3
                                  have hfz46_4 := blk_frozen BK125.out 4
                                  have hfz46_5 := blk_frozen BK125.out 5
                                  have hfz46_6 := blk_frozen BK125.out 6
                                  have hfz46_7 := blk_frozen BK125.out 7
                                  go_wp2_with (first | ((with_reducible refine gate_callee (f := 122) rfl ?_); refine goesL_ (some 66) rfl rfl Try.func122 (by kernel_rfl) rfl #[.int .i64 a0_3, .int .i64 1, .bool false] rfl (by (try simp only [List.map_toArray, List.map_cons, List.map_nil]); first | done | rfl | (simp only [List.length_drop, List.length_take]; rfl)) ?_; (with_reducible refine (jvmcoreref2_bytes.calls a0_3 1 false t135 true _ A42.out).mono ?_); rintro e w47 ⟨rfl, hb⟩; refine ⟨_, rfl, ?_⟩; have n0_ := Aside0.mk (blk_below (g := gb125) (o := .cells #[.int .i64 a0_0, .int .u8 a0_1, .bool a0_2, .int .i64 a0_3, .int .i64 a0_4, .int .i64 a0_5, .slice A0_6 l0_6.length c0_6, .slice A0_7 l0_7.length c0_7] 82 (0, 0)) (by (with_reducible repeat (first | refine blk_drewN ?_ _ | refine blk_drew ?_ | refine blk_alloc ?_ _)); exact BK125.out) hb); have n1_ := Aside0.mk (below_step (by repeat (first | (with_reducible first | exact HB.out | apply below_alloc | apply pw_below_drewN | apply below_drew1 | refine below_set ?_ GE125.out) | exact HB.out)) hb); clear BK125; clear HB; have BK125 := n0_; have HB := n1_; clear n0_ n1_; (try clear hb); (try clear hb2); (try clear hk); (try clear hi)))
                                  go_ret2
                                  exact ⟨by first | rfl | (simp [errW_none, errW_some] <;> rfl) | (simp [*, errW_none, errW_some] <;> rfl), by repeat (first | (with_reducible first | exact HB.out | apply below_alloc | apply pw_below_drewN | apply below_drew1 | refine below_set ?_ GE125.out) | exact HB.out)⟩
                                · replace c45 := Bool.eq_false_iff.mpr c45
                                  subst c45
                                  have H1 : (some ((x6_2 ++ t135) ++ (⟨#[]⟩ : ByteArray), false)) = some (r1, r2) := by rw [if_neg (show ¬ (false = true) by decide)] at H; exact H
                                  clear H
                                  have H := H1
                                  clear H1
                                  simp only [Option.some.injEq, Prod.mk.injEq] at H
                                  obtain ⟨rfl, rfl⟩ := H
                                  obtain ⟨hcz48_0, hcz48_1, hcz48_2, hcz48_3, hcz48_4, hcz48_5, hcz48_6, hcz48_7⟩ := box8 BK125.out
                                  have hfz48_0 := blk_frozen BK125.out 0
                                  have hfz48_1 := blk_frozen BK125.out 1
                                  have hfz48_2 := blk_frozen BK125.out 2
                                  have hfz48_3 := blk_frozen BK125.out 3
                                  have hfz48_4 := blk_frozen BK125.out 4
                                  have hfz48_5 := blk_frozen BK125.out 5
                                  have hfz48_6 := blk_frozen BK125.out 6
                                  have hfz48_7 := blk_frozen BK125.out 7
                                  go_wp2_with (first | ((with_reducible refine gate_callee (f := 122) rfl ?_); refine goesL_ (some 66) rfl rfl Try.func122 (by kernel_rfl) rfl #[.int .i64 a0_3, .int .i64 1, .bool false] rfl (by (try simp only [List.map_toArray, List.map_cons, List.map_nil]); first | done | rfl | (simp only [List.length_drop, List.length_take]; rfl)) ?_; (with_reducible refine (jvmcoreref2_bytes.calls a0_3 1 false t135 false _ A42.out).mono ?_); rintro e w49 ⟨rfl, hb⟩; refine ⟨_, rfl, ?_⟩; have n0_ := Aside0.mk (blk_below (g := gb125) (o := .cells #[.int .i64 a0_0, .int .u8 a0_1, .bool a0_2, .int .i64 a0_3, .int .i64 a0_4, .int .i64 a0_5, .slice A0_6 l0_6.length c0_6, .slice A0_7 l0_7.length c0_7] 82 (0, 0)) (by (with_reducible repeat (first | refine blk_drewN ?_ _ | refine blk_drew ?_ | refine blk_alloc ?_ _)); exact BK125.out) hb); have n1_ := Aside0.mk (below_step (by repeat (first | (with_reducible first | exact HB.out | apply below_alloc | apply pw_below_drewN | apply below_drew1 | refine below_set ?_ GE125.out) | exact HB.out)) hb); clear BK125; clear HB; have BK125 := n0_; have HB := n1_; clear n0_ n1_; (try clear hb); (try clear hb2); (try clear hk); (try clear hi)))
                                  go_ret2
                                  exact ⟨by first | rfl | (simp [errW_none, errW_some] <;> rfl) | (simp [*, errW_none, errW_some] <;> rfl), by repeat (first | (with_reducible first | exact HB.out | apply below_alloc | apply pw_below_drewN | apply below_drew1 | refine below_set ?_ GE125.out) | exact HB.out)⟩
                              · rw [if_neg c44] at H
                                exact absurd H (by simp)
                            · rw [if_neg c43] at H
                              exact absurd H (by simp)
                          · rw [if_neg c41] at H
                            have c41b0 : (a1.toList == ([99] : List UInt8)) = false := beq_eq_false_iff_ne.mpr c41
                            have c41b1 : (a1.toList != ([99] : List UInt8)) = true := bne_iff_ne.mpr c41
                            by_cases c50 : a1.toList = ([97] : List UInt8)
                            · rw [if_pos c50] at H
                              have c50b0 : (a1.toList == ([97] : List UInt8)) = true := beq_iff_eq.mpr c50
                              have c50b1 : (a1.toList != ([97] : List UInt8)) = false := bne_eq_false_iff_eq.mpr c50
                              clear c50
                              replace H := Option.bind_eq_some_iff.mp H
                              obtain ⟨⟨t137, t138⟩, A510, H⟩ := H
                              replace H : (if a0_3 ≥ 4 then (if x6_2.size + t137.size ≤ 9223372036854775807 then (if (x6_2 ++ t137).size + 0 ≤ 9223372036854775807 then (if t138 = true then (some ((x6_2 ++ t137) ++ (⟨#[]⟩ : ByteArray), decide (a0_3 ≤ 11))) else (some ((x6_2 ++ t137) ++ (⟨#[]⟩ : ByteArray), false))) else (none)) else (none)) else (if x6_2.size + t137.size ≤ 9223372036854775807 then (if (x6_2 ++ t137).size + 0 ≤ 9223372036854775807 then (if t138 = true then (some ((x6_2 ++ t137) ++ (⟨#[]⟩ : ByteArray), false)) else (some ((x6_2 ++ t137) ++ (⟨#[]⟩ : ByteArray), false))) else (none)) else (none))) = some (r1, r2) := H
                              have A51 := Aside0.mk A510
                              clear A510
                              by_cases c52 : a0_3 ≥ 4
                              · rw [if_pos c52] at H
                                have c52b0 : decide (4 ≤ a0_3) = true := decide_eq_true c52
                                clear c52
                                by_cases c53 : x6_2.size + t137.size ≤ 9223372036854775807
                                · rw [if_pos c53] at H
                                  have c53b0 := eq_true c53
                                  have c53b1 : decide (x6_2.size + t137.size ≤ 9223372036854775807) = true := decide_eq_true c53
                                  try have c53b2 : (9223372036854775807 < x6_2.size + t137.size) = False := eq_false (Nat.not_lt.2 c53)
                                  by_cases c54 : (x6_2 ++ t137).size + 0 ≤ 9223372036854775807
                                  · rw [if_pos c54] at H
                                    have c54b0 := eq_true c54
                                    have c54b1 : decide ((x6_2 ++ t137).size + 0 ≤ 9223372036854775807) = true := decide_eq_true c54
                                    try have c54b2 : (9223372036854775807 < (x6_2 ++ t137).size + 0) = False := eq_false (Nat.not_lt.2 c54)
                                    by_cases c55 : t138 = true
                                    · subst c55
                                      have H1 : (some ((x6_2 ++ t137) ++ (⟨#[]⟩ : ByteArray), decide (a0_3 ≤ 11))) = some (r1, r2) := by rw [if_pos rfl] at H; exact H
                                      clear H
                                      have H := H1
                                      clear H1
                                      simp only [Option.some.injEq, Prod.mk.injEq] at H
                                      obtain ⟨rfl, rfl⟩ := H
                                      obtain ⟨hcz56_0, hcz56_1, hcz56_2, hcz56_3, hcz56_4, hcz56_5, hcz56_6, hcz56_7⟩ := box8 BK125.out
                                      have hfz56_0 := blk_frozen BK125.out 0
                                      have hfz56_1 := blk_frozen BK125.out 1
                                      have hfz56_2 := blk_frozen BK125.out 2
                                      have hfz56_3 := blk_frozen BK125.out 3
                                      have hfz56_4 := blk_frozen BK125.out 4
                                      have hfz56_5 := blk_frozen BK125.out 5
                                      have hfz56_6 := blk_frozen BK125.out 6
                                      have hfz56_7 := blk_frozen BK125.out 7
                                      go_wp2_with (first | ((with_reducible refine gate_callee (f := 122) rfl ?_); refine goesL_ (some 74) rfl rfl Try.func122 (by kernel_rfl) rfl #[.int .i64 a0_3, .int .i64 1, .bool false] rfl (by (try simp only [List.map_toArray, List.map_cons, List.map_nil]); first | done | rfl | (simp only [List.length_drop, List.length_take]; rfl)) ?_; (with_reducible refine (jvmcoreref2_bytes.calls a0_3 1 false t137 true _ A51.out).mono ?_); rintro e w57 ⟨rfl, hb⟩; refine ⟨_, rfl, ?_⟩; have n0_ := Aside0.mk (blk_below (g := gb125) (o := .cells #[.int .i64 a0_0, .int .u8 a0_1, .bool a0_2, .int .i64 a0_3, .int .i64 a0_4, .int .i64 a0_5, .slice A0_6 l0_6.length c0_6, .slice A0_7 l0_7.length c0_7] 82 (0, 0)) (by (with_reducible repeat (first | refine blk_drewN ?_ _ | refine blk_drew ?_ | refine blk_alloc ?_ _)); exact BK125.out) hb); have n1_ := Aside0.mk (below_step (by repeat (first | (with_reducible first | exact HB.out | apply below_alloc | apply pw_below_drewN | apply below_drew1 | refine below_set ?_ GE125.out) | exact HB.out)) hb); clear BK125; clear HB; have BK125 := n0_; have HB := n1_; clear n0_ n1_; (try clear hb); (try clear hb2); (try clear hk); (try clear hi); obtain ⟨hcz58_0, hcz58_1, hcz58_2, hcz58_3, hcz58_4, hcz58_5, hcz58_6, hcz58_7⟩ := box8 BK125.out; have hfz58_0 := blk_frozen BK125.out 0; have hfz58_1 := blk_frozen BK125.out 1; have hfz58_2 := blk_frozen BK125.out 2; have hfz58_3 := blk_frozen BK125.out 3; have hfz58_4 := blk_frozen BK125.out 4; have hfz58_5 := blk_frozen BK125.out 5; have hfz58_6 := blk_frozen BK125.out 6; have hfz58_7 := blk_frozen BK125.out 7))
                                      go_ret2
                                      exact ⟨by first | rfl | (simp [errW_none, errW_some] <;> rfl) | (simp [*, errW_none, errW_some] <;> rfl), by repeat (first | (with_reducible first | exact HB.out | apply below_alloc | apply pw_below_drewN | apply below_drew1 | refine below_set ?_ GE125.out) | exact HB.out)⟩
                                    · replace c55 := Bool.eq_false_iff.mpr c55
                                      subst c55
                                      have H1 : (some ((x6_2 ++ t137) ++ (⟨#[]⟩ : ByteArray), false)) = some (r1, r2) := by rw [if_neg (show ¬ (false = true) by decide)] at H; exact H
                                      clear H
                                      have H := H1
                                      clear H1
                                      simp only [Option.some.injEq, Prod.mk.injEq] at H
                                      obtain ⟨rfl, rfl⟩ := H
                                      obtain ⟨hcz59_0, hcz59_1, hcz59_2, hcz59_3, hcz59_4, hcz59_5, hcz59_6, hcz59_7⟩ := box8 BK125.out
                                      have hfz59_0 := blk_frozen BK125.out 0
                                      have hfz59_1 := blk_frozen BK125.out 1
                                      have hfz59_2 := blk_frozen BK125.out 2
                                      have hfz59_3 := blk_frozen BK125.out 3
                                      have hfz59_4 := blk_frozen BK125.out 4
                                      have hfz59_5 := blk_frozen BK125.out 5
                                      have hfz59_6 := blk_frozen BK125.out 6
                                      have hfz59_7 := blk_frozen BK125.out 7
                                      go_wp2_with (first | ((with_reducible refine gate_callee (f := 122) rfl ?_); refine goesL_ (some 74) rfl rfl Try.func122 (by kernel_rfl) rfl #[.int .i64 a0_3, .int .i64 1, .bool false] rfl (by (try simp only [List.map_toArray, List.map_cons, List.map_nil]); first | done | rfl | (simp only [List.length_drop, List.length_take]; rfl)) ?_; (with_reducible refine (jvmcoreref2_bytes.calls a0_3 1 false t137 false _ A51.out).mono ?_); rintro e w60 ⟨rfl, hb⟩; refine ⟨_, rfl, ?_⟩; have n0_ := Aside0.mk (blk_below (g := gb125) (o := .cells #[.int .i64 a0_0, .int .u8 a0_1, .bool a0_2, .int .i64 a0_3, .int .i64 a0_4, .int .i64 a0_5, .slice A0_6 l0_6.length c0_6, .slice A0_7 l0_7.length c0_7] 82 (0, 0)) (by (with_reducible repeat (first | refine blk_drewN ?_ _ | refine blk_drew ?_ | refine blk_alloc ?_ _)); exact BK125.out) hb); have n1_ := Aside0.mk (below_step (by repeat (first | (with_reducible first | exact HB.out | apply below_alloc | apply pw_below_drewN | apply below_drew1 | refine below_set ?_ GE125.out) | exact HB.out)) hb); clear BK125; clear HB; have BK125 := n0_; have HB := n1_; clear n0_ n1_; (try clear hb); (try clear hb2); (try clear hk); (try clear hi); obtain ⟨hcz61_0, hcz61_1, hcz61_2, hcz61_3, hcz61_4, hcz61_5, hcz61_6, hcz61_7⟩ := box8 BK125.out; have hfz61_0 := blk_frozen BK125.out 0; have hfz61_1 := blk_frozen BK125.out 1; have hfz61_2 := blk_frozen BK125.out 2; have hfz61_3 := blk_frozen BK125.out 3; have hfz61_4 := blk_frozen BK125.out 4; have hfz61_5 := blk_frozen BK125.out 5; have hfz61_6 := blk_frozen BK125.out 6; have hfz61_7 := blk_frozen BK125.out 7))
                                      go_ret2
                                      exact ⟨by first | rfl | (simp [errW_none, errW_some] <;> rfl) | (simp [*, errW_none, errW_some] <;> rfl), by repeat (first | (with_reducible first | exact HB.out | apply below_alloc | apply pw_below_drewN | apply below_drew1 | refine below_set ?_ GE125.out) | exact HB.out)⟩
                                  · rw [if_neg c54] at H
                                    exact absurd H (by simp)
                                · rw [if_neg c53] at H
                                  exact absurd H (by simp)
                              · rw [if_neg c52] at H
                                have c52b0 : decide (4 ≤ a0_3) = false := decide_eq_false c52
                                clear c52
                                by_cases c62 : x6_2.size + t137.size ≤ 9223372036854775807
                                · rw [if_pos c62] at H
                                  have c62b0 := eq_true c62
                                  have c62b1 : decide (x6_2.size + t137.size ≤ 9223372036854775807) = true := decide_eq_true c62
                                  try have c62b2 : (9223372036854775807 < x6_2.size + t137.size) = False := eq_false (Nat.not_lt.2 c62)
                                  by_cases c63 : (x6_2 ++ t137).size + 0 ≤ 9223372036854775807
                                  · rw [if_pos c63] at H
                                    have c63b0 := eq_true c63
                                    have c63b1 : decide ((x6_2 ++ t137).size + 0 ≤ 9223372036854775807) = true := decide_eq_true c63
                                    try have c63b2 : (9223372036854775807 < (x6_2 ++ t137).size + 0) = False := eq_false (Nat.not_lt.2 c63)
                                    by_cases c64 : t138 = true
                                    · subst c64
                                      have H1 : (some ((x6_2 ++ t137) ++ (⟨#[]⟩ : ByteArray), false)) = some (r1, r2) := by rw [if_pos rfl] at H; exact H
                                      clear H
                                      have H := H1
                                      clear H1
                                      simp only [Option.some.injEq, Prod.mk.injEq] at H
                                      obtain ⟨rfl, rfl⟩ := H
                                      obtain ⟨hcz65_0, hcz65_1, hcz65_2, hcz65_3, hcz65_4, hcz65_5, hcz65_6, hcz65_7⟩ := box8 BK125.out
                                      have hfz65_0 := blk_frozen BK125.out 0
                                      have hfz65_1 := blk_frozen BK125.out 1
                                      have hfz65_2 := blk_frozen BK125.out 2
                                      have hfz65_3 := blk_frozen BK125.out 3
                                      have hfz65_4 := blk_frozen BK125.out 4
                                      have hfz65_5 := blk_frozen BK125.out 5
                                      have hfz65_6 := blk_frozen BK125.out 6
                                      have hfz65_7 := blk_frozen BK125.out 7
                                      go_wp2_with (first | ((with_reducible refine gate_callee (f := 122) rfl ?_); refine goesL_ (some 74) rfl rfl Try.func122 (by kernel_rfl) rfl #[.int .i64 a0_3, .int .i64 1, .bool false] rfl (by (try simp only [List.map_toArray, List.map_cons, List.map_nil]); first | done | rfl | (simp only [List.length_drop, List.length_take]; rfl)) ?_; (with_reducible refine (jvmcoreref2_bytes.calls a0_3 1 false t137 true _ A51.out).mono ?_); rintro e w66 ⟨rfl, hb⟩; refine ⟨_, rfl, ?_⟩; have n0_ := Aside0.mk (blk_below (g := gb125) (o := .cells #[.int .i64 a0_0, .int .u8 a0_1, .bool a0_2, .int .i64 a0_3, .int .i64 a0_4, .int .i64 a0_5, .slice A0_6 l0_6.length c0_6, .slice A0_7 l0_7.length c0_7] 82 (0, 0)) (by (with_reducible repeat (first | refine blk_drewN ?_ _ | refine blk_drew ?_ | refine blk_alloc ?_ _)); exact BK125.out) hb); have n1_ := Aside0.mk (below_step (by repeat (first | (with_reducible first | exact HB.out | apply below_alloc | apply pw_below_drewN | apply below_drew1 | refine below_set ?_ GE125.out) | exact HB.out)) hb); clear BK125; clear HB; have BK125 := n0_; have HB := n1_; clear n0_ n1_; (try clear hb); (try clear hb2); (try clear hk); (try clear hi); obtain ⟨hcz67_0, hcz67_1, hcz67_2, hcz67_3, hcz67_4, hcz67_5, hcz67_6, hcz67_7⟩ := box8 BK125.out; have hfz67_0 := blk_frozen BK125.out 0; have hfz67_1 := blk_frozen BK125.out 1; have hfz67_2 := blk_frozen BK125.out 2; have hfz67_3 := blk_frozen BK125.out 3; have hfz67_4 := blk_frozen BK125.out 4; have hfz67_5 := blk_frozen BK125.out 5; have hfz67_6 := blk_frozen BK125.out 6; have hfz67_7 := blk_frozen BK125.out 7))
                                      go_ret2
                                      exact ⟨by first | rfl | (simp [errW_none, errW_some] <;> rfl) | (simp [*, errW_none, errW_some] <;> rfl), by repeat (first | (with_reducible first | exact HB.out | apply below_alloc | apply pw_below_drewN | apply below_drew1 | refine below_set ?_ GE125.out) | exact HB.out)⟩
                                    · replace c64 := Bool.eq_false_iff.mpr c64
                                      subst c64
                                      have H1 : (some ((x6_2 ++ t137) ++ (⟨#[]⟩ : ByteArray), false)) = some (r1, r2) := by rw [if_neg (show ¬ (false = true) by decide)] at H; exact H
                                      clear H
                                      have H := H1
                                      clear H1
                                      simp only [Option.some.injEq, Prod.mk.injEq] at H
                                      obtain ⟨rfl, rfl⟩ := H
                                      obtain ⟨hcz68_0, hcz68_1, hcz68_2, hcz68_3, hcz68_4, hcz68_5, hcz68_6, hcz68_7⟩ := box8 BK125.out
                                      have hfz68_0 := blk_frozen BK125.out 0
                                      have hfz68_1 := blk_frozen BK125.out 1
                                      have hfz68_2 := blk_frozen BK125.out 2
                                      have hfz68_3 := blk_frozen BK125.out 3
                                      have hfz68_4 := blk_frozen BK125.out 4
                                      have hfz68_5 := blk_frozen BK125.out 5
                                      have hfz68_6 := blk_frozen BK125.out 6
                                      have hfz68_7 := blk_frozen BK125.out 7
                                      go_wp2_with (first | ((with_reducible refine gate_callee (f := 122) rfl ?_); refine goesL_ (some 74) rfl rfl Try.func122 (by kernel_rfl) rfl #[.int .i64 a0_3, .int .i64 1, .bool false] rfl (by (try simp only [List.map_toArray, List.map_cons, List.map_nil]); first | done | rfl | (simp only [List.length_drop, List.length_take]; rfl)) ?_; (with_reducible refine (jvmcoreref2_bytes.calls a0_3 1 false t137 false _ A51.out).mono ?_); rintro e w69 ⟨rfl, hb⟩; refine ⟨_, rfl, ?_⟩; have n0_ := Aside0.mk (blk_below (g := gb125) (o := .cells #[.int .i64 a0_0, .int .u8 a0_1, .bool a0_2, .int .i64 a0_3, .int .i64 a0_4, .int .i64 a0_5, .slice A0_6 l0_6.length c0_6, .slice A0_7 l0_7.length c0_7] 82 (0, 0)) (by (with_reducible repeat (first | refine blk_drewN ?_ _ | refine blk_drew ?_ | refine blk_alloc ?_ _)); exact BK125.out) hb); have n1_ := Aside0.mk (below_step (by repeat (first | (with_reducible first | exact HB.out | apply below_alloc | apply pw_below_drewN | apply below_drew1 | refine below_set ?_ GE125.out) | exact HB.out)) hb); clear BK125; clear HB; have BK125 := n0_; have HB := n1_; clear n0_ n1_; (try clear hb); (try clear hb2); (try clear hk); (try clear hi); obtain ⟨hcz70_0, hcz70_1, hcz70_2, hcz70_3, hcz70_4, hcz70_5, hcz70_6, hcz70_7⟩ := box8 BK125.out; have hfz70_0 := blk_frozen BK125.out 0; have hfz70_1 := blk_frozen BK125.out 1; have hfz70_2 := blk_frozen BK125.out 2; have hfz70_3 := blk_frozen BK125.out 3; have hfz70_4 := blk_frozen BK125.out 4; have hfz70_5 := blk_frozen BK125.out 5; have hfz70_6 := blk_frozen BK125.out 6; have hfz70_7 := blk_frozen BK125.out 7))
                                      go_ret2
                                      exact ⟨by first | rfl | (simp [errW_none, errW_some] <;> rfl) | (simp [*, errW_none, errW_some] <;> rfl), by repeat (first | (with_reducible first | exact HB.out | apply below_alloc | apply pw_below_drewN | apply below_drew1 | refine below_set ?_ GE125.out) | exact HB.out)⟩
                                  · rw [if_neg c63] at H
                                    exact absurd H (by simp)
                                · rw [if_neg c62] at H
                                  exact absurd H (by simp)
                            · rw [if_neg c50] at H
                              have c50b0 : (a1.toList == ([97] : List UInt8)) = false := beq_eq_false_iff_ne.mpr c50
                              have c50b1 : (a1.toList != ([97] : List UInt8)) = true := bne_iff_ne.mpr c50
                              by_cases c71 : a1.toList = ([105] : List UInt8)
                              · rw [if_pos c71] at H
                                have c71b0 : (a1.toList == ([105] : List UInt8)) = true := beq_iff_eq.mpr c71
                                have c71b1 : (a1.toList != ([105] : List UInt8)) = false := bne_eq_false_iff_eq.mpr c71
                                clear c71
                                replace H := Option.bind_eq_some_iff.mp H
                                obtain ⟨⟨t139, t140⟩, A720, H⟩ := H
                                replace H : (if x6_2.size + t139.size ≤ 9223372036854775807 then (if (x6_2 ++ t139).size + 0 ≤ 9223372036854775807 then (if t140 = true then (some ((x6_2 ++ t139) ++ (⟨#[]⟩ : ByteArray), true)) else (some ((x6_2 ++ t139) ++ (⟨#[]⟩ : ByteArray), false))) else (none)) else (none)) = some (r1, r2) := H
                                have A72 := Aside0.mk A720
                                clear A720
                                by_cases c73 : x6_2.size + t139.size ≤ 9223372036854775807
                                · rw [if_pos c73] at H
                                  have c73b0 := eq_true c73
                                  have c73b1 : decide (x6_2.size + t139.size ≤ 9223372036854775807) = true := decide_eq_true c73
                                  try have c73b2 : (9223372036854775807 < x6_2.size + t139.size) = False := eq_false (Nat.not_lt.2 c73)
                                  by_cases c74 : (x6_2 ++ t139).size + 0 ≤ 9223372036854775807
                                  · rw [if_pos c74] at H
                                    have c74b0 := eq_true c74
                                    have c74b1 : decide ((x6_2 ++ t139).size + 0 ≤ 9223372036854775807) = true := decide_eq_true c74
                                    try have c74b2 : (9223372036854775807 < (x6_2 ++ t139).size + 0) = False := eq_false (Nat.not_lt.2 c74)
                                    by_cases c75 : t140 = true
                                    · subst c75
                                      have H1 : (some ((x6_2 ++ t139) ++ (⟨#[]⟩ : ByteArray), true)) = some (r1, r2) := by rw [if_pos rfl] at H; exact H
                                      clear H
                                      have H := H1
                                      clear H1
                                      simp only [Option.some.injEq, Prod.mk.injEq] at H
                                      obtain ⟨rfl, rfl⟩ := H
                                      obtain ⟨hcz76_0, hcz76_1, hcz76_2, hcz76_3, hcz76_4, hcz76_5, hcz76_6, hcz76_7⟩ := box8 BK125.out
                                      have hfz76_0 := blk_frozen BK125.out 0
                                      have hfz76_1 := blk_frozen BK125.out 1
                                      have hfz76_2 := blk_frozen BK125.out 2
                                      have hfz76_3 := blk_frozen BK125.out 3
                                      have hfz76_4 := blk_frozen BK125.out 4
                                      have hfz76_5 := blk_frozen BK125.out 5
                                      have hfz76_6 := blk_frozen BK125.out 6
                                      have hfz76_7 := blk_frozen BK125.out 7
                                      go_wp2_with (first | ((with_reducible refine gate_callee (f := 122) rfl ?_); refine goesL_ (some 90) rfl rfl Try.func122 (by kernel_rfl) rfl #[.int .i64 a0_3, .int .i64 2, .bool false] rfl (by (try simp only [List.map_toArray, List.map_cons, List.map_nil]); first | done | rfl | (simp only [List.length_drop, List.length_take]; rfl)) ?_; (with_reducible refine (jvmcoreref2_bytes.calls a0_3 2 false t139 true _ A72.out).mono ?_); rintro e w77 ⟨rfl, hb⟩; refine ⟨_, rfl, ?_⟩; have n0_ := Aside0.mk (blk_below (g := gb125) (o := .cells #[.int .i64 a0_0, .int .u8 a0_1, .bool a0_2, .int .i64 a0_3, .int .i64 a0_4, .int .i64 a0_5, .slice A0_6 l0_6.length c0_6, .slice A0_7 l0_7.length c0_7] 82 (0, 0)) (by (with_reducible repeat (first | refine blk_drewN ?_ _ | refine blk_drew ?_ | refine blk_alloc ?_ _)); exact BK125.out) hb); have n1_ := Aside0.mk (below_step (by repeat (first | (with_reducible first | exact HB.out | apply below_alloc | apply pw_below_drewN | apply below_drew1 | refine below_set ?_ GE125.out) | exact HB.out)) hb); clear BK125; clear HB; have BK125 := n0_; have HB := n1_; clear n0_ n1_; (try clear hb); (try clear hb2); (try clear hk); (try clear hi)))
                                      go_ret2
                                      exact ⟨by first | rfl | (simp [errW_none, errW_some] <;> rfl) | (simp [*, errW_none, errW_some] <;> rfl), by repeat (first | (with_reducible first | exact HB.out | apply below_alloc | apply pw_below_drewN | apply below_drew1 | refine below_set ?_ GE125.out) | exact HB.out)⟩
                                    · replace c75 := Bool.eq_false_iff.mpr c75
                                      subst c75
                                      have H1 : (some ((x6_2 ++ t139) ++ (⟨#[]⟩ : ByteArray), false)) = some (r1, r2) := by rw [if_neg (show ¬ (false = true) by decide)] at H; exact H
                                      clear H
                                      have H := H1
                                      clear H1
                                      simp only [Option.some.injEq, Prod.mk.injEq] at H
                                      obtain ⟨rfl, rfl⟩ := H
                                      obtain ⟨hcz78_0, hcz78_1, hcz78_2, hcz78_3, hcz78_4, hcz78_5, hcz78_6, hcz78_7⟩ := box8 BK125.out
                                      have hfz78_0 := blk_frozen BK125.out 0
                                      have hfz78_1 := blk_frozen BK125.out 1
                                      have hfz78_2 := blk_frozen BK125.out 2
                                      have hfz78_3 := blk_frozen BK125.out 3
                                      have hfz78_4 := blk_frozen BK125.out 4
                                      have hfz78_5 := blk_frozen BK125.out 5
                                      have hfz78_6 := blk_frozen BK125.out 6
                                      have hfz78_7 := blk_frozen BK125.out 7
                                      go_wp2_with (first | ((with_reducible refine gate_callee (f := 122) rfl ?_); refine goesL_ (some 90) rfl rfl Try.func122 (by kernel_rfl) rfl #[.int .i64 a0_3, .int .i64 2, .bool false] rfl (by (try simp only [List.map_toArray, List.map_cons, List.map_nil]); first | done | rfl | (simp only [List.length_drop, List.length_take]; rfl)) ?_; (with_reducible refine (jvmcoreref2_bytes.calls a0_3 2 false t139 false _ A72.out).mono ?_); rintro e w79 ⟨rfl, hb⟩; refine ⟨_, rfl, ?_⟩; have n0_ := Aside0.mk (blk_below (g := gb125) (o := .cells #[.int .i64 a0_0, .int .u8 a0_1, .bool a0_2, .int .i64 a0_3, .int .i64 a0_4, .int .i64 a0_5, .slice A0_6 l0_6.length c0_6, .slice A0_7 l0_7.length c0_7] 82 (0, 0)) (by (with_reducible repeat (first | refine blk_drewN ?_ _ | refine blk_drew ?_ | refine blk_alloc ?_ _)); exact BK125.out) hb); have n1_ := Aside0.mk (below_step (by repeat (first | (with_reducible first | exact HB.out | apply below_alloc | apply pw_below_drewN | apply below_drew1 | refine below_set ?_ GE125.out) | exact HB.out)) hb); clear BK125; clear HB; have BK125 := n0_; have HB := n1_; clear n0_ n1_; (try clear hb); (try clear hb2); (try clear hk); (try clear hi)))
                                      go_ret2
                                      exact ⟨by first | rfl | (simp [errW_none, errW_some] <;> rfl) | (simp [*, errW_none, errW_some] <;> rfl), by repeat (first | (with_reducible first | exact HB.out | apply below_alloc | apply pw_below_drewN | apply below_drew1 | refine below_set ?_ GE125.out) | exact HB.out)⟩
                                  · rw [if_neg c74] at H
                                    exact absurd H (by simp)
                                · rw [if_neg c73] at H
                                  exact absurd H (by simp)
                              · rw [if_neg c71] at H
                                have c71b0 : (a1.toList == ([105] : List UInt8)) = false := beq_eq_false_iff_ne.mpr c71
                                have c71b1 : (a1.toList != ([105] : List UInt8)) = true := bne_iff_ne.mpr c71
                                by_cases c80 : a1.toList = ([108] : List UInt8)
                                · rw [if_pos c80] at H
                                  have c80b0 : (a1.toList == ([108] : List UInt8)) = true := beq_iff_eq.mpr c80
                                  have c80b1 : (a1.toList != ([108] : List UInt8)) = false := bne_eq_false_iff_eq.mpr c80
                                  clear c80
                                  replace H := Option.bind_eq_some_iff.mp H
                                  obtain ⟨⟨t141, t142⟩, A810, H⟩ := H
                                  replace H : (if x6_2.size + t141.size ≤ 9223372036854775807 then (if (x6_2 ++ t141).size + 0 ≤ 9223372036854775807 then (if t142 = true then (some ((x6_2 ++ t141) ++ (⟨#[]⟩ : ByteArray), true)) else (some ((x6_2 ++ t141) ++ (⟨#[]⟩ : ByteArray), false))) else (none)) else (none)) = some (r1, r2) := H
                                  have A81 := Aside0.mk A810
                                  clear A810
                                  by_cases c82 : x6_2.size + t141.size ≤ 9223372036854775807
                                  · rw [if_pos c82] at H
                                    have c82b0 := eq_true c82
                                    have c82b1 : decide (x6_2.size + t141.size ≤ 9223372036854775807) = true := decide_eq_true c82
                                    try have c82b2 : (9223372036854775807 < x6_2.size + t141.size) = False := eq_false (Nat.not_lt.2 c82)
                                    by_cases c83 : (x6_2 ++ t141).size + 0 ≤ 9223372036854775807
                                    · rw [if_pos c83] at H
                                      have c83b0 := eq_true c83
                                      have c83b1 : decide ((x6_2 ++ t141).size + 0 ≤ 9223372036854775807) = true := decide_eq_true c83
                                      try have c83b2 : (9223372036854775807 < (x6_2 ++ t141).size + 0) = False := eq_false (Nat.not_lt.2 c83)
                                      by_cases c84 : t142 = true
                                      · subst c84
                                        have H1 : (some ((x6_2 ++ t141) ++ (⟨#[]⟩ : ByteArray), true)) = some (r1, r2) := by rw [if_pos rfl] at H; exact H
                                        clear H
                                        have H := H1
                                        clear H1
                                        simp only [Option.some.injEq, Prod.mk.injEq] at H
                                        obtain ⟨rfl, rfl⟩ := H
                                        obtain ⟨hcz85_0, hcz85_1, hcz85_2, hcz85_3, hcz85_4, hcz85_5, hcz85_6, hcz85_7⟩ := box8 BK125.out
                                        have hfz85_0 := blk_frozen BK125.out 0
                                        have hfz85_1 := blk_frozen BK125.out 1
                                        have hfz85_2 := blk_frozen BK125.out 2
                                        have hfz85_3 := blk_frozen BK125.out 3
                                        have hfz85_4 := blk_frozen BK125.out 4
                                        have hfz85_5 := blk_frozen BK125.out 5
                                        have hfz85_6 := blk_frozen BK125.out 6
                                        have hfz85_7 := blk_frozen BK125.out 7
                                        go_wp2_with (first | ((with_reducible refine gate_callee (f := 122) rfl ?_); refine goesL_ (some 99) rfl rfl Try.func122 (by kernel_rfl) rfl #[.int .i64 a0_3, .int .i64 x7_2, .bool false] rfl (by (try simp only [List.map_toArray, List.map_cons, List.map_nil]); first | done | rfl | (simp only [List.length_drop, List.length_take]; rfl)) ?_; (with_reducible refine (jvmcoreref2_bytes.calls a0_3 x7_2 false t141 true _ A81.out).mono ?_); rintro e w86 ⟨rfl, hb⟩; refine ⟨_, rfl, ?_⟩; have n0_ := Aside0.mk (blk_below (g := gb125) (o := .cells #[.int .i64 a0_0, .int .u8 a0_1, .bool a0_2, .int .i64 a0_3, .int .i64 a0_4, .int .i64 a0_5, .slice A0_6 l0_6.length c0_6, .slice A0_7 l0_7.length c0_7] 82 (0, 0)) (by (with_reducible repeat (first | refine blk_drewN ?_ _ | refine blk_drew ?_ | refine blk_alloc ?_ _)); exact BK125.out) hb); have n1_ := Aside0.mk (below_step (by repeat (first | (with_reducible first | exact HB.out | apply below_alloc | apply pw_below_drewN | apply below_drew1 | refine below_set ?_ GE125.out) | exact HB.out)) hb); clear BK125; clear HB; have BK125 := n0_; have HB := n1_; clear n0_ n1_; (try clear hb); (try clear hb2); (try clear hk); (try clear hi)))
                                        go_ret2
                                        exact ⟨by first | rfl | (simp [errW_none, errW_some] <;> rfl) | (simp [*, errW_none, errW_some] <;> rfl), by repeat (first | (with_reducible first | exact HB.out | apply below_alloc | apply pw_below_drewN | apply below_drew1 | refine below_set ?_ GE125.out) | exact HB.out)⟩
                                      · replace c84 := Bool.eq_false_iff.mpr c84
                                        subst c84
                                        have H1 : (some ((x6_2 ++ t141) ++ (⟨#[]⟩ : ByteArray), false)) = some (r1, r2) := by rw [if_neg (show ¬ (false = true) by decide)] at H; exact H
                                        clear H
                                        have H := H1
                                        clear H1
                                        simp only [Option.some.injEq, Prod.mk.injEq] at H
                                        obtain ⟨rfl, rfl⟩ := H
                                        obtain ⟨hcz87_0, hcz87_1, hcz87_2, hcz87_3, hcz87_4, hcz87_5, hcz87_6, hcz87_7⟩ := box8 BK125.out
                                        have hfz87_0 := blk_frozen BK125.out 0
                                        have hfz87_1 := blk_frozen BK125.out 1
                                        have hfz87_2 := blk_frozen BK125.out 2
                                        have hfz87_3 := blk_frozen BK125.out 3
                                        have hfz87_4 := blk_frozen BK125.out 4
                                        have hfz87_5 := blk_frozen BK125.out 5
                                        have hfz87_6 := blk_frozen BK125.out 6
                                        have hfz87_7 := blk_frozen BK125.out 7
                                        go_wp2_with (first | ((with_reducible refine gate_callee (f := 122) rfl ?_); refine goesL_ (some 99) rfl rfl Try.func122 (by kernel_rfl) rfl #[.int .i64 a0_3, .int .i64 x7_2, .bool false] rfl (by (try simp only [List.map_toArray, List.map_cons, List.map_nil]); first | done | rfl | (simp only [List.length_drop, List.length_take]; rfl)) ?_; (with_reducible refine (jvmcoreref2_bytes.calls a0_3 x7_2 false t141 false _ A81.out).mono ?_); rintro e w88 ⟨rfl, hb⟩; refine ⟨_, rfl, ?_⟩; have n0_ := Aside0.mk (blk_below (g := gb125) (o := .cells #[.int .i64 a0_0, .int .u8 a0_1, .bool a0_2, .int .i64 a0_3, .int .i64 a0_4, .int .i64 a0_5, .slice A0_6 l0_6.length c0_6, .slice A0_7 l0_7.length c0_7] 82 (0, 0)) (by (with_reducible repeat (first | refine blk_drewN ?_ _ | refine blk_drew ?_ | refine blk_alloc ?_ _)); exact BK125.out) hb); have n1_ := Aside0.mk (below_step (by repeat (first | (with_reducible first | exact HB.out | apply below_alloc | apply pw_below_drewN | apply below_drew1 | refine below_set ?_ GE125.out) | exact HB.out)) hb); clear BK125; clear HB; have BK125 := n0_; have HB := n1_; clear n0_ n1_; (try clear hb); (try clear hb2); (try clear hk); (try clear hi)))
                                        go_ret2
                                        exact ⟨by first | rfl | (simp [errW_none, errW_some] <;> rfl) | (simp [*, errW_none, errW_some] <;> rfl), by repeat (first | (with_reducible first | exact HB.out | apply below_alloc | apply pw_below_drewN | apply below_drew1 | refine below_set ?_ GE125.out) | exact HB.out)⟩
                                    · rw [if_neg c83] at H
                                      exact absurd H (by simp)
                                  · rw [if_neg c82] at H
                                    exact absurd H (by simp)
                                · rw [if_neg c80] at H
                                  have c80b0 : (a1.toList == ([108] : List UInt8)) = false := beq_eq_false_iff_ne.mpr c80
                                  have c80b1 : (a1.toList != ([108] : List UInt8)) = true := bne_iff_ne.mpr c80
                                  by_cases c89 : a1.toList = ([110] : List UInt8)
                                  · rw [if_pos c89] at H
                                    have c89b0 : (a1.toList == ([110] : List UInt8)) = true := beq_iff_eq.mpr c89
                                    have c89b1 : (a1.toList != ([110] : List UInt8)) = false := bne_eq_false_iff_eq.mpr c89
                                    clear c89
                                    replace H := Option.bind_eq_some_iff.mp H
                                    obtain ⟨⟨t143, t144⟩, A900, H⟩ := H
                                    replace H : ((jvmcoreref2_bytes.f a0_4 x7_2 true).bind fun bt145 => (if x6_2.size + t143.size ≤ 9223372036854775807 then (if (x6_2 ++ t143).size + bt145.1.size ≤ 9223372036854775807 then (if t144 = true then (some ((x6_2 ++ t143) ++ bt145.1, bt145.2)) else (some ((x6_2 ++ t143) ++ bt145.1, false))) else (none)) else (none))) = some (r1, r2) := H
                                    have A90 := Aside0.mk A900
                                    clear A900
                                    replace H := Option.bind_eq_some_iff.mp H
                                    obtain ⟨⟨t145, t146⟩, A910, H⟩ := H
                                    replace H : (if x6_2.size + t143.size ≤ 9223372036854775807 then (if (x6_2 ++ t143).size + t145.size ≤ 9223372036854775807 then (if t144 = true then (some ((x6_2 ++ t143) ++ t145, t146)) else (some ((x6_2 ++ t143) ++ t145, false))) else (none)) else (none)) = some (r1, r2) := H
                                    have A91 := Aside0.mk A910
                                    clear A910
                                    by_cases c92 : x6_2.size + t143.size ≤ 9223372036854775807
                                    · rw [if_pos c92] at H
                                      have c92b0 := eq_true c92
                                      have c92b1 : decide (x6_2.size + t143.size ≤ 9223372036854775807) = true := decide_eq_true c92
                                      try have c92b2 : (9223372036854775807 < x6_2.size + t143.size) = False := eq_false (Nat.not_lt.2 c92)
                                      by_cases c93 : (x6_2 ++ t143).size + t145.size ≤ 9223372036854775807
                                      · rw [if_pos c93] at H
                                        have c93b0 := eq_true c93
                                        have c93b1 : decide ((x6_2 ++ t143).size + t145.size ≤ 9223372036854775807) = true := decide_eq_true c93
                                        try have c93b2 : (9223372036854775807 < (x6_2 ++ t143).size + t145.size) = False := eq_false (Nat.not_lt.2 c93)
                                        by_cases c94 : t144 = true
                                        · subst c94
                                          have H1 : (some ((x6_2 ++ t143) ++ t145, t146)) = some (r1, r2) := by rw [if_pos rfl] at H; exact H
                                          clear H
                                          have H := H1
                                          clear H1
                                          simp only [Option.some.injEq, Prod.mk.injEq] at H
                                          obtain ⟨rfl, rfl⟩ := H
                                          obtain ⟨hcz95_0, hcz95_1, hcz95_2, hcz95_3, hcz95_4, hcz95_5, hcz95_6, hcz95_7⟩ := box8 BK125.out
                                          have hfz95_0 := blk_frozen BK125.out 0
                                          have hfz95_1 := blk_frozen BK125.out 1
                                          have hfz95_2 := blk_frozen BK125.out 2
                                          have hfz95_3 := blk_frozen BK125.out 3
                                          have hfz95_4 := blk_frozen BK125.out 4
                                          have hfz95_5 := blk_frozen BK125.out 5
                                          have hfz95_6 := blk_frozen BK125.out 6
                                          have hfz95_7 := blk_frozen BK125.out 7
                                          go_wp2_with (first | ((with_reducible refine gate_callee (f := 122) rfl ?_); refine goesL_ (some 108) rfl rfl Try.func122 (by kernel_rfl) rfl #[.int .i64 a0_3, .int .i64 x7_2, .bool false] rfl (by (try simp only [List.map_toArray, List.map_cons, List.map_nil]); first | done | rfl | (simp only [List.length_drop, List.length_take]; rfl)) ?_; (with_reducible refine (jvmcoreref2_bytes.calls a0_3 x7_2 false t143 true _ A90.out).mono ?_); rintro e w96 ⟨rfl, hb⟩; refine ⟨_, rfl, ?_⟩; have n0_ := Aside0.mk (blk_below (g := gb125) (o := .cells #[.int .i64 a0_0, .int .u8 a0_1, .bool a0_2, .int .i64 a0_3, .int .i64 a0_4, .int .i64 a0_5, .slice A0_6 l0_6.length c0_6, .slice A0_7 l0_7.length c0_7] 82 (0, 0)) (by (with_reducible repeat (first | refine blk_drewN ?_ _ | refine blk_drew ?_ | refine blk_alloc ?_ _)); exact BK125.out) hb); have n1_ := Aside0.mk (below_step (by repeat (first | (with_reducible first | exact HB.out | apply below_alloc | apply pw_below_drewN | apply below_drew1 | refine below_set ?_ GE125.out) | exact HB.out)) hb); clear BK125; clear HB; have BK125 := n0_; have HB := n1_; clear n0_ n1_; (try clear hb); (try clear hb2); (try clear hk); (try clear hi); obtain ⟨hcz97_0, hcz97_1, hcz97_2, hcz97_3, hcz97_4, hcz97_5, hcz97_6, hcz97_7⟩ := box8 BK125.out; have hfz97_0 := blk_frozen BK125.out 0; have hfz97_1 := blk_frozen BK125.out 1; have hfz97_2 := blk_frozen BK125.out 2; have hfz97_3 := blk_frozen BK125.out 3; have hfz97_4 := blk_frozen BK125.out 4; have hfz97_5 := blk_frozen BK125.out 5; have hfz97_6 := blk_frozen BK125.out 6; have hfz97_7 := blk_frozen BK125.out 7) | ((with_reducible refine gate_callee (f := 122) rfl ?_); refine goesL_ (some 115) rfl rfl Try.func122 (by kernel_rfl) rfl #[.int .i64 a0_4, .int .i64 x7_2, .bool true] rfl (by (try simp only [List.map_toArray, List.map_cons, List.map_nil]); first | done | rfl | (simp only [List.length_drop, List.length_take]; rfl)) ?_; (with_reducible refine (jvmcoreref2_bytes.calls a0_4 x7_2 true t145 t146 _ A91.out).mono ?_); rintro e w98 ⟨rfl, hb⟩; refine ⟨_, rfl, ?_⟩; have n0_ := Aside0.mk (blk_below (g := gb125) (o := .cells #[.int .i64 a0_0, .int .u8 a0_1, .bool a0_2, .int .i64 a0_3, .int .i64 a0_4, .int .i64 a0_5, .slice A0_6 l0_6.length c0_6, .slice A0_7 l0_7.length c0_7] 82 (0, 0)) (by (with_reducible repeat (first | refine blk_drewN ?_ _ | refine blk_drew ?_ | refine blk_alloc ?_ _)); exact BK125.out) hb); have n1_ := Aside0.mk (below_step (by repeat (first | (with_reducible first | exact HB.out | apply below_alloc | apply pw_below_drewN | apply below_drew1 | refine below_set ?_ GE125.out) | exact HB.out)) hb); clear BK125; clear HB; have BK125 := n0_; have HB := n1_; clear n0_ n1_; (try clear hb); (try clear hb2); (try clear hk); (try clear hi)))
                                          go_ret2
                                          exact ⟨by first | rfl | (simp [errW_none, errW_some] <;> rfl) | (simp [*, errW_none, errW_some] <;> rfl), by repeat (first | (with_reducible first | exact HB.out | apply below_alloc | apply pw_below_drewN | apply below_drew1 | refine below_set ?_ GE125.out) | exact HB.out)⟩
                                        · replace c94 := Bool.eq_false_iff.mpr c94
                                          subst c94
                                          have H1 : (some ((x6_2 ++ t143) ++ t145, false)) = some (r1, r2) := by rw [if_neg (show ¬ (false = true) by decide)] at H; exact H
                                          clear H
                                          have H := H1
                                          clear H1
                                          simp only [Option.some.injEq, Prod.mk.injEq] at H
                                          obtain ⟨rfl, rfl⟩ := H
                                          obtain ⟨hcz99_0, hcz99_1, hcz99_2, hcz99_3, hcz99_4, hcz99_5, hcz99_6, hcz99_7⟩ := box8 BK125.out
                                          have hfz99_0 := blk_frozen BK125.out 0
                                          have hfz99_1 := blk_frozen BK125.out 1
                                          have hfz99_2 := blk_frozen BK125.out 2
                                          have hfz99_3 := blk_frozen BK125.out 3
                                          have hfz99_4 := blk_frozen BK125.out 4
                                          have hfz99_5 := blk_frozen BK125.out 5
                                          have hfz99_6 := blk_frozen BK125.out 6
                                          have hfz99_7 := blk_frozen BK125.out 7
                                          go_wp2_with (first | ((with_reducible refine gate_callee (f := 122) rfl ?_); refine goesL_ (some 108) rfl rfl Try.func122 (by kernel_rfl) rfl #[.int .i64 a0_3, .int .i64 x7_2, .bool false] rfl (by (try simp only [List.map_toArray, List.map_cons, List.map_nil]); first | done | rfl | (simp only [List.length_drop, List.length_take]; rfl)) ?_; (with_reducible refine (jvmcoreref2_bytes.calls a0_3 x7_2 false t143 false _ A90.out).mono ?_); rintro e w100 ⟨rfl, hb⟩; refine ⟨_, rfl, ?_⟩; have n0_ := Aside0.mk (blk_below (g := gb125) (o := .cells #[.int .i64 a0_0, .int .u8 a0_1, .bool a0_2, .int .i64 a0_3, .int .i64 a0_4, .int .i64 a0_5, .slice A0_6 l0_6.length c0_6, .slice A0_7 l0_7.length c0_7] 82 (0, 0)) (by (with_reducible repeat (first | refine blk_drewN ?_ _ | refine blk_drew ?_ | refine blk_alloc ?_ _)); exact BK125.out) hb); have n1_ := Aside0.mk (below_step (by repeat (first | (with_reducible first | exact HB.out | apply below_alloc | apply pw_below_drewN | apply below_drew1 | refine below_set ?_ GE125.out) | exact HB.out)) hb); clear BK125; clear HB; have BK125 := n0_; have HB := n1_; clear n0_ n1_; (try clear hb); (try clear hb2); (try clear hk); (try clear hi); obtain ⟨hcz101_0, hcz101_1, hcz101_2, hcz101_3, hcz101_4, hcz101_5, hcz101_6, hcz101_7⟩ := box8 BK125.out; have hfz101_0 := blk_frozen BK125.out 0; have hfz101_1 := blk_frozen BK125.out 1; have hfz101_2 := blk_frozen BK125.out 2; have hfz101_3 := blk_frozen BK125.out 3; have hfz101_4 := blk_frozen BK125.out 4; have hfz101_5 := blk_frozen BK125.out 5; have hfz101_6 := blk_frozen BK125.out 6; have hfz101_7 := blk_frozen BK125.out 7) | ((with_reducible refine gate_callee (f := 122) rfl ?_); refine goesL_ (some 115) rfl rfl Try.func122 (by kernel_rfl) rfl #[.int .i64 a0_4, .int .i64 x7_2, .bool true] rfl (by (try simp only [List.map_toArray, List.map_cons, List.map_nil]); first | done | rfl | (simp only [List.length_drop, List.length_take]; rfl)) ?_; (with_reducible refine (jvmcoreref2_bytes.calls a0_4 x7_2 true t145 t146 _ A91.out).mono ?_); rintro e w102 ⟨rfl, hb⟩; refine ⟨_, rfl, ?_⟩; have n0_ := Aside0.mk (blk_below (g := gb125) (o := .cells #[.int .i64 a0_0, .int .u8 a0_1, .bool a0_2, .int .i64 a0_3, .int .i64 a0_4, .int .i64 a0_5, .slice A0_6 l0_6.length c0_6, .slice A0_7 l0_7.length c0_7] 82 (0, 0)) (by (with_reducible repeat (first | refine blk_drewN ?_ _ | refine blk_drew ?_ | refine blk_alloc ?_ _)); exact BK125.out) hb); have n1_ := Aside0.mk (below_step (by repeat (first | (with_reducible first | exact HB.out | apply below_alloc | apply pw_below_drewN | apply below_drew1 | refine below_set ?_ GE125.out) | exact HB.out)) hb); clear BK125; clear HB; have BK125 := n0_; have HB := n1_; clear n0_ n1_; (try clear hb); (try clear hb2); (try clear hk); (try clear hi)))
                                          go_ret2
                                          exact ⟨by first | rfl | (simp [errW_none, errW_some] <;> rfl) | (simp [*, errW_none, errW_some] <;> rfl), by repeat (first | (with_reducible first | exact HB.out | apply below_alloc | apply pw_below_drewN | apply below_drew1 | refine below_set ?_ GE125.out) | exact HB.out)⟩
                                      · rw [if_neg c93] at H
                                        exact absurd H (by simp)
                                    · rw [if_neg c92] at H
                                      exact absurd H (by simp)
                                  · rw [if_neg c89] at H
                                    have c89b0 : (a1.toList == ([110] : List UInt8)) = false := beq_eq_false_iff_ne.mpr c89
                                    have c89b1 : (a1.toList != ([110] : List UInt8)) = true := bne_iff_ne.mpr c89
                                    by_cases c103 : a1.toList = ([106] : List UInt8)
                                    · rw [if_pos c103] at H
                                      have c103b0 : (a1.toList == ([106] : List UInt8)) = true := beq_iff_eq.mpr c103
                                      have c103b1 : (a1.toList != ([106] : List UInt8)) = false := bne_eq_false_iff_eq.mpr c103
                                      clear c103
                                      by_cases c104 : 0 < (l0_7.length : Int)
                                      · rw [if_pos c104] at H
                                        have c104b0 : decide (0 < (l0_7.length : Int)) = true := decide_eq_true c104
                                        have c104b1 : decide (0 < l0_7.length) = true := decide_eq_true (by omega)
                                        clear c104
                                        replace H := Option.bind_eq_some_iff.mp H
                                        obtain ⟨⟨t148, t149⟩, A1050, H⟩ := H
                                        replace H : (if x6_2.size + t148.size ≤ 9223372036854775807 then (if (x6_2 ++ t148).size + 0 ≤ 9223372036854775807 then (if t149 = true then (some ((x6_2 ++ t148) ++ (⟨#[]⟩ : ByteArray), true)) else (some ((x6_2 ++ t148) ++ (⟨#[]⟩ : ByteArray), false))) else (none)) else (none)) = some (r1, r2) := H
                                        have A105 := Aside0.mk A1050
                                        clear A1050
                                        by_cases c106 : x6_2.size + t148.size ≤ 9223372036854775807
                                        · rw [if_pos c106] at H
                                          have c106b0 := eq_true c106
                                          have c106b1 : decide (x6_2.size + t148.size ≤ 9223372036854775807) = true := decide_eq_true c106
                                          try have c106b2 : (9223372036854775807 < x6_2.size + t148.size) = False := eq_false (Nat.not_lt.2 c106)
                                          by_cases c107 : (x6_2 ++ t148).size + 0 ≤ 9223372036854775807
                                          · rw [if_pos c107] at H
                                            have c107b0 := eq_true c107
                                            have c107b1 : decide ((x6_2 ++ t148).size + 0 ≤ 9223372036854775807) = true := decide_eq_true c107
                                            try have c107b2 : (9223372036854775807 < (x6_2 ++ t148).size + 0) = False := eq_false (Nat.not_lt.2 c107)
                                            by_cases c108 : t149 = true
                                            · subst c108
                                              have H1 : (some ((x6_2 ++ t148) ++ (⟨#[]⟩ : ByteArray), true)) = some (r1, r2) := by rw [if_pos rfl] at H; exact H
                                              clear H
                                              have H := H1
                                              clear H1
                                              simp only [Option.some.injEq, Prod.mk.injEq] at H
                                              obtain ⟨rfl, rfl⟩ := H
                                              obtain ⟨hcz109_0, hcz109_1, hcz109_2, hcz109_3, hcz109_4, hcz109_5, hcz109_6, hcz109_7⟩ := box8 BK125.out
                                              have hfz109_0 := blk_frozen BK125.out 0
                                              have hfz109_1 := blk_frozen BK125.out 1
                                              have hfz109_2 := blk_frozen BK125.out 2
                                              have hfz109_3 := blk_frozen BK125.out 3
                                              have hfz109_4 := blk_frozen BK125.out 4
                                              have hfz109_5 := blk_frozen BK125.out 5
                                              have hfz109_6 := blk_frozen BK125.out 6
                                              have hfz109_7 := blk_frozen BK125.out 7
                                              try go_wp2
                                              have n0_ := Aside0.mk (blk_drew BK125.out)
                                              have n1_ := Aside0.mk (below_drew1 HB.out)
                                              clear BK125
                                              clear HB
                                              have BK125 := n0_
                                              have HB := n1_
                                              clear n0_ n1_
                                              have p147 : 0 ≤ (0 : Int) := (by omega)
                                              have q147 : 0 < (l0_7.length : Int) := of_decide_eq_true (by first | (with_reducible assumption) | assumption)
                                              obtain ⟨ad147, e147, hx147_0⟩ := Kd.at_int HR0_7.out 0 p147 q147
                                              have hw147_0 := hx147_0
                                              (try rw [show ((0 : Int)).toNat = 0 from rfl] at hw147_0)
                                              (try rw [show 0 * 1 = 0 from rfl] at hw147_0)
                                              (try rw [Addr.add_zero'] at hw147_0)
                                              cases e147
                                              have qi147 : (0 < l0_7.length) = True := eq_true (by omega)
                                              (try rw [show ((0 : Int)).toNat = 0 from rfl] at hx147_0)
                                              (try rw [Addr.add_zero'] at hx147_0)
                                              replace hx147_0 := (HB.out.cell (World.block_lt_of_cell? w _ hx147_0)).trans hx147_0
                                              replace p147 := eq_true p147
                                              replace q147 := eq_true q147
                                              refine start_ (n := 13) (S := fun w' => w'.cell? ⟨gb125, 0, none⟩ = some (.int .i64 a0_0) ∧ w'.cell? ⟨gb125, 1, none⟩ = some (.int .u8 a0_1) ∧ w'.cell? ⟨gb125, 2, none⟩ = some (.bool a0_2) ∧ w'.cell? ⟨gb125, 3, none⟩ = some (.int .i64 a0_3) ∧ w'.cell? ⟨gb125, 4, none⟩ = some (.int .i64 a0_4) ∧ w'.cell? ⟨gb125, 5, none⟩ = some (.int .i64 a0_5) ∧ w'.cell? ⟨gb125, 6, none⟩ = some (.slice A0_6 l0_6.length c0_6) ∧ w'.cell? ⟨gb125, 7, none⟩ = some (.slice (some ad147) l0_7.length c0_7) ∧ w'.cell? ad147 = some (.int .i64 (rd l0_7 0))) (ds := []) #[false, false, false, false, false, false, false, false, false, false, false, false, false] (by kernel_rfl) rfl rfl ⟨(blk_cell BK125.out 0).trans rfl, (blk_cell BK125.out 1).trans rfl, (blk_cell BK125.out 2).trans rfl, (blk_cell BK125.out 3).trans rfl, (blk_cell BK125.out 4).trans rfl, (blk_cell BK125.out 5).trans rfl, (blk_cell BK125.out 6).trans rfl, (blk_cell BK125.out 7).trans rfl, ((HB.out.cell (World.block_lt_of_cell? w _ hw147_0)).trans hw147_0)⟩ (fun hHeld => ?_); refine with_tabW jvmcoreref2_encode.tab35 jvmcoreref2_encode.bits35 (fun HT_ HW_ => ?_)
                                              generalize wc.drew = w110 at BK125 HB hx147_0 hHeld ⊢
                                              refine pure_ (i := 0) (N := some 121) (v := ?_) (a' := ?_) #[true, false, false, false, false, false, false, false, false, false, false, false, false] rfl rfl (any_of HT_.out (by kernel_rfl)) (fun _ _ _ h => h) (Or.inl ⟨by rfl, ?_⟩) ?_ ?_
                                              rotate_left
                                              · intro w'
                                                go_simp
                                                with_reducible rfl
                                              rotate_left
                                              · simp only [Act.put, List.setIfInBounds_toArray, List.set_cons_zero, List.set_cons_succ, i64_w, i32_w]
                                                rfl
                                              refine pure_ (i := 4) (N := some 125) (v := ?_) (a' := ?_) #[true, false, false, false, true, false, false, false, false, false, false, false, false] rfl rfl (any_of HT_.out (by kernel_rfl)) (fun _ _ _ h => h) (Or.inl ⟨by rfl, ?_⟩) ?_ ?_
                                              rotate_left
                                              · intro w'
                                                go_simp
                                                with_reducible rfl
                                              rotate_left
                                              · simp only [Act.put, List.setIfInBounds_toArray, List.set_cons_zero, List.set_cons_succ, i64_w, i32_w]
                                                rfl
                                              refine take_ (i := 1) (N := some 122) (v := ?_) (a' := ?_) #[true, true, false, false, true, false, false, false, false, false, false, false, false] rfl rfl (take_ofW HT_.out HW_.out (by kernel_rfl)) (fun _ _ _ h => h) (Or.inl ⟨by rfl, ?_⟩) hHeld ?_ ?_
                                              rotate_left
                                              · rintro w' ⟨s0, s1, s2, s3, s4, s5, s6, s7, s8⟩
                                                go_simp
                                                with_reducible rfl
                                              rotate_left
                                              · simp only [Act.put, List.setIfInBounds_toArray, List.set_cons_zero, List.set_cons_succ, i64_w, i32_w]
                                                rfl
                                              refine pure_ (i := 2) (N := some 123) (v := ?_) (a' := ?_) #[true, true, true, false, true, false, false, false, false, false, false, false, false] rfl rfl (any_of HT_.out (by kernel_rfl)) (fun _ _ _ h => h) (Or.inl ⟨by rfl, ?_⟩) ?_ ?_
                                              rotate_left
                                              · intro w'
                                                go_simp
                                                with_reducible rfl
                                              rotate_left
                                              · simp only [Act.put, List.setIfInBounds_toArray, List.set_cons_zero, List.set_cons_succ, i64_w, i32_w]
                                                rfl
                                              refine take_ (i := 3) (N := some 124) (v := ?_) (a' := ?_) #[true, true, true, true, true, false, false, false, false, false, false, false, false] rfl rfl (take_ofW HT_.out HW_.out (by kernel_rfl)) (fun _ _ _ h => h) (Or.inl ⟨by rfl, ?_⟩) hHeld ?_ ?_
                                              rotate_left
                                              · rintro w' ⟨s0, s1, s2, s3, s4, s5, s6, s7, s8⟩
                                                go_simp
                                                with_reducible rfl
                                              rotate_left
                                              · simp only [Act.put, List.setIfInBounds_toArray, List.set_cons_zero, List.set_cons_succ, i64_w, i32_w]
                                                rfl
                                              refine take_ (i := 5) (N := some 126) (v := ?_) (a' := ?_) #[true, true, true, true, true, true, false, false, false, false, false, false, false] rfl rfl (take_ofW HT_.out HW_.out (by kernel_rfl)) (fun _ _ _ h => h) (Or.inl ⟨by rfl, ?_⟩) hHeld ?_ ?_
                                              rotate_left
                                              · rintro w' ⟨s0, s1, s2, s3, s4, s5, s6, s7, s8⟩
                                                go_simp
                                                with_reducible rfl
                                              rotate_left
                                              · simp only [Act.put, List.setIfInBounds_toArray, List.set_cons_zero, List.set_cons_succ, i64_w, i32_w]
                                                rfl
                                              refine pure_ (i := 6) (N := some 127) (v := ?_) (a' := ?_) #[true, true, true, true, true, true, true, false, false, false, false, false, false] rfl rfl (any_of HT_.out (by kernel_rfl)) (fun _ _ _ h => h) (Or.inl ⟨by rfl, ?_⟩) ?_ ?_
                                              rotate_left
                                              · intro w'
                                                go_simp
                                                with_reducible rfl
                                              rotate_left
                                              · simp only [Act.put, List.setIfInBounds_toArray, List.set_cons_zero, List.set_cons_succ, i64_w, i32_w]
                                                rfl
                                              refine one_ (i := 7) (N := some 128) #[true, true, true, true, true, true, true, true, false, false, false, false, false] rfl rfl (one_of HT_.out (by kernel_rfl)) (by decide) (fun K hK => ?_)
                                              refine goes_ Try.func122 (by kernel_rfl) rfl #[.int .i64 (wrap64 ((rd l0_7 0) - a0_0)), .int .i64 2, .bool true] (by rfl) rfl rfl (by (try simp only [List.map_toArray, List.map_cons, List.map_nil]); first | done | rfl | (simp only [List.length_drop, List.length_take]; rfl)) ?_
                                              with_reducible refine (jvmcoreref2_bytes.calls (wrap64 ((rd l0_7 0) - a0_0)) 2 true t148 true _ A105.out).mono ?_
                                              rintro e w111 ⟨rfl, hb⟩
                                              refine ⟨_, rfl, ?_⟩
                                              have n0_ := Aside0.mk (blk_below (g := gb125) (o := .cells #[.int .i64 a0_0, .int .u8 a0_1, .bool a0_2, .int .i64 a0_3, .int .i64 a0_4, .int .i64 a0_5, .slice A0_6 l0_6.length c0_6, .slice (some ad147) l0_7.length c0_7] 82 (0, 0)) (by (with_reducible repeat (first | refine blk_drewN ?_ _ | refine blk_drew ?_ | refine blk_alloc ?_ _)); exact BK125.out) hb)
                                              have n1_ := Aside0.mk (below_step (by repeat (first | (with_reducible first | exact HB.out | apply below_alloc | apply pw_below_drewN | apply below_drew1 | refine below_set ?_ GE125.out) | exact HB.out)) hb)
                                              clear BK125
                                              clear HB
                                              have BK125 := n0_
                                              have HB := n1_
                                              clear n0_ n1_
                                              (try clear hb)
                                              (try clear hb2)
                                              (try clear hk)
                                              (try clear hi)
                                              refine hK.out _ _ ⟨(blk_cell BK125.out 0).trans rfl, (blk_cell BK125.out 1).trans rfl, (blk_cell BK125.out 2).trans rfl, (blk_cell BK125.out 3).trans rfl, (blk_cell BK125.out 4).trans rfl, (blk_cell BK125.out 5).trans rfl, (blk_cell BK125.out 6).trans rfl, (blk_cell BK125.out 7).trans rfl, ((HB.out.cell (World.block_lt_of_cell? w _ hw147_0)).trans hw147_0)⟩ (fun hHeld => ?_)
                                              clear hK K
                                              refine norm_ (a' := ?_) ?_ ?_
                                              rotate_left
                                              · show Act.put _ (some 128) _ = _
                                                simp only [Act.put, List.setIfInBounds_toArray, List.set_cons_zero, List.set_cons_succ, i64_w, i32_w]
                                                rfl
                                              refine pure_ (i := 8) (N := some 120) (v := ?_) (a' := ?_) #[true, true, true, true, true, true, true, true, true, false, false, false, false] rfl rfl (any_of HT_.out (by kernel_rfl)) (fun _ _ _ h => h) (Or.inl ⟨by rfl, ?_⟩) ?_ ?_
                                              rotate_left
                                              · intro w'
                                                go_simp
                                                with_reducible rfl
                                              rotate_left
                                              · simp only [Act.put, List.setIfInBounds_toArray, List.set_cons_zero, List.set_cons_succ, i64_w, i32_w]
                                                rfl
                                              refine pure_ (i := 9) (N := some 129) (v := ?_) (a' := ?_) #[true, true, true, true, true, true, true, true, true, true, false, false, false] rfl rfl (any_of HT_.out (by kernel_rfl)) (fun _ _ _ h => h) (Or.inl ⟨by rfl, ?_⟩) ?_ ?_
                                              rotate_left
                                              · intro w'
                                                go_simp
                                                with_reducible rfl
                                              rotate_left
                                              · simp only [Act.put, List.setIfInBounds_toArray, List.set_cons_zero, List.set_cons_succ, i64_w, i32_w]
                                                rfl
                                              refine pure_ (i := 10) (N := some 130) (v := ?_) (a' := ?_) #[true, true, true, true, true, true, true, true, true, true, true, false, false] rfl rfl (any_of HT_.out (by kernel_rfl)) (fun _ _ _ h => h) (Or.inl ⟨by rfl, ?_⟩) ?_ ?_
                                              rotate_left
                                              · intro w'
                                                go_simp
                                                with_reducible rfl
                                              rotate_left
                                              · simp only [Act.put, List.setIfInBounds_toArray, List.set_cons_zero, List.set_cons_succ, i64_w, i32_w]
                                                rfl
                                              refine pure_ (i := 11) (N := some 9) (v := ?_) (a' := ?_) #[true, true, true, true, true, true, true, true, true, true, true, true, false] rfl rfl (any_of HT_.out (by kernel_rfl)) (fun _ _ _ h => h) (Or.inl ⟨by rfl, ?_⟩) ?_ ?_
                                              rotate_left
                                              · intro w'
                                                go_simp
                                                with_reducible rfl
                                              rotate_left
                                              · simp only [Act.put, List.setIfInBounds_toArray, List.set_cons_zero, List.set_cons_succ, i64_w, i32_w]
                                                rfl
                                              refine pure_ (i := 12) (N := some 11) (v := ?_) (a' := ?_) #[true, true, true, true, true, true, true, true, true, true, true, true, true] rfl rfl (any_of HT_.out (by kernel_rfl)) (fun _ _ _ h => h) (Or.inl ⟨by rfl, ?_⟩) ?_ ?_
                                              rotate_left
                                              · intro w'
                                                go_simp
                                                with_reducible rfl
                                              rotate_left
                                              · simp only [Act.put, List.setIfInBounds_toArray, List.set_cons_zero, List.set_cons_succ, i64_w, i32_w]
                                                rfl
                                              refine done_ (done_of HT_.out (by kernel_rfl)) ?_
                                              try go_wp2
                                              go_ret2
                                              exact ⟨by first | rfl | (simp [errW_none, errW_some] <;> rfl) | (simp [*, errW_none, errW_some] <;> rfl), by repeat (first | (with_reducible first | exact HB.out | apply below_alloc | apply pw_below_drewN | apply below_drew1 | refine below_set ?_ GE125.out) | exact HB.out)⟩
                                            · replace c108 := Bool.eq_false_iff.mpr c108
                                              subst c108
                                              have H1 : (some ((x6_2 ++ t148) ++ (⟨#[]⟩ : ByteArray), false)) = some (r1, r2) := by rw [if_neg (show ¬ (false = true) by decide)] at H; exact H
                                              clear H
                                              have H := H1
                                              clear H1
                                              simp only [Option.some.injEq, Prod.mk.injEq] at H
                                              obtain ⟨rfl, rfl⟩ := H
                                              obtain ⟨hcz112_0, hcz112_1, hcz112_2, hcz112_3, hcz112_4, hcz112_5, hcz112_6, hcz112_7⟩ := box8 BK125.out
                                              have hfz112_0 := blk_frozen BK125.out 0
                                              have hfz112_1 := blk_frozen BK125.out 1
                                              have hfz112_2 := blk_frozen BK125.out 2
                                              have hfz112_3 := blk_frozen BK125.out 3
                                              have hfz112_4 := blk_frozen BK125.out 4
                                              have hfz112_5 := blk_frozen BK125.out 5
                                              have hfz112_6 := blk_frozen BK125.out 6
                                              have hfz112_7 := blk_frozen BK125.out 7
                                              try go_wp2
                                              have n0_ := Aside0.mk (blk_drew BK125.out)
                                              have n1_ := Aside0.mk (below_drew1 HB.out)
                                              clear BK125
                                              clear HB
                                              have BK125 := n0_
                                              have HB := n1_
                                              clear n0_ n1_
                                              have p147 : 0 ≤ (0 : Int) := (by omega)
                                              have q147 : 0 < (l0_7.length : Int) := of_decide_eq_true (by first | (with_reducible assumption) | assumption)
                                              obtain ⟨ad147, e147, hx147_0⟩ := Kd.at_int HR0_7.out 0 p147 q147
                                              have hw147_0 := hx147_0
                                              (try rw [show ((0 : Int)).toNat = 0 from rfl] at hw147_0)
                                              (try rw [show 0 * 1 = 0 from rfl] at hw147_0)
                                              (try rw [Addr.add_zero'] at hw147_0)
                                              cases e147
                                              have qi147 : (0 < l0_7.length) = True := eq_true (by omega)
                                              (try rw [show ((0 : Int)).toNat = 0 from rfl] at hx147_0)
                                              (try rw [Addr.add_zero'] at hx147_0)
                                              replace hx147_0 := (HB.out.cell (World.block_lt_of_cell? w _ hx147_0)).trans hx147_0
                                              replace p147 := eq_true p147
                                              replace q147 := eq_true q147
                                              refine start_ (n := 13) (S := fun w' => w'.cell? ⟨gb125, 0, none⟩ = some (.int .i64 a0_0) ∧ w'.cell? ⟨gb125, 1, none⟩ = some (.int .u8 a0_1) ∧ w'.cell? ⟨gb125, 2, none⟩ = some (.bool a0_2) ∧ w'.cell? ⟨gb125, 3, none⟩ = some (.int .i64 a0_3) ∧ w'.cell? ⟨gb125, 4, none⟩ = some (.int .i64 a0_4) ∧ w'.cell? ⟨gb125, 5, none⟩ = some (.int .i64 a0_5) ∧ w'.cell? ⟨gb125, 6, none⟩ = some (.slice A0_6 l0_6.length c0_6) ∧ w'.cell? ⟨gb125, 7, none⟩ = some (.slice (some ad147) l0_7.length c0_7) ∧ w'.cell? ad147 = some (.int .i64 (rd l0_7 0))) (ds := []) #[false, false, false, false, false, false, false, false, false, false, false, false, false] (by kernel_rfl) rfl rfl ⟨(blk_cell BK125.out 0).trans rfl, (blk_cell BK125.out 1).trans rfl, (blk_cell BK125.out 2).trans rfl, (blk_cell BK125.out 3).trans rfl, (blk_cell BK125.out 4).trans rfl, (blk_cell BK125.out 5).trans rfl, (blk_cell BK125.out 6).trans rfl, (blk_cell BK125.out 7).trans rfl, ((HB.out.cell (World.block_lt_of_cell? w _ hw147_0)).trans hw147_0)⟩ (fun hHeld => ?_); refine with_tabW jvmcoreref2_encode.tab35 jvmcoreref2_encode.bits35 (fun HT_ HW_ => ?_)
                                              generalize wc.drew = w113 at BK125 HB hx147_0 hHeld ⊢
                                              refine pure_ (i := 0) (N := some 121) (v := ?_) (a' := ?_) #[true, false, false, false, false, false, false, false, false, false, false, false, false] rfl rfl (any_of HT_.out (by kernel_rfl)) (fun _ _ _ h => h) (Or.inl ⟨by rfl, ?_⟩) ?_ ?_
                                              rotate_left
                                              · intro w'
                                                go_simp
                                                with_reducible rfl
                                              rotate_left
                                              · simp only [Act.put, List.setIfInBounds_toArray, List.set_cons_zero, List.set_cons_succ, i64_w, i32_w]
                                                rfl
                                              refine pure_ (i := 4) (N := some 125) (v := ?_) (a' := ?_) #[true, false, false, false, true, false, false, false, false, false, false, false, false] rfl rfl (any_of HT_.out (by kernel_rfl)) (fun _ _ _ h => h) (Or.inl ⟨by rfl, ?_⟩) ?_ ?_
                                              rotate_left
                                              · intro w'
                                                go_simp
                                                with_reducible rfl
                                              rotate_left
                                              · simp only [Act.put, List.setIfInBounds_toArray, List.set_cons_zero, List.set_cons_succ, i64_w, i32_w]
                                                rfl
                                              refine take_ (i := 1) (N := some 122) (v := ?_) (a' := ?_) #[true, true, false, false, true, false, false, false, false, false, false, false, false] rfl rfl (take_ofW HT_.out HW_.out (by kernel_rfl)) (fun _ _ _ h => h) (Or.inl ⟨by rfl, ?_⟩) hHeld ?_ ?_
                                              rotate_left
                                              · rintro w' ⟨s0, s1, s2, s3, s4, s5, s6, s7, s8⟩
                                                go_simp
                                                with_reducible rfl
                                              rotate_left
                                              · simp only [Act.put, List.setIfInBounds_toArray, List.set_cons_zero, List.set_cons_succ, i64_w, i32_w]
                                                rfl
                                              refine pure_ (i := 2) (N := some 123) (v := ?_) (a' := ?_) #[true, true, true, false, true, false, false, false, false, false, false, false, false] rfl rfl (any_of HT_.out (by kernel_rfl)) (fun _ _ _ h => h) (Or.inl ⟨by rfl, ?_⟩) ?_ ?_
                                              rotate_left
                                              · intro w'
                                                go_simp
                                                with_reducible rfl
                                              rotate_left
                                              · simp only [Act.put, List.setIfInBounds_toArray, List.set_cons_zero, List.set_cons_succ, i64_w, i32_w]
                                                rfl
                                              refine take_ (i := 3) (N := some 124) (v := ?_) (a' := ?_) #[true, true, true, true, true, false, false, false, false, false, false, false, false] rfl rfl (take_ofW HT_.out HW_.out (by kernel_rfl)) (fun _ _ _ h => h) (Or.inl ⟨by rfl, ?_⟩) hHeld ?_ ?_
                                              rotate_left
                                              · rintro w' ⟨s0, s1, s2, s3, s4, s5, s6, s7, s8⟩
                                                go_simp
                                                with_reducible rfl
                                              rotate_left
                                              · simp only [Act.put, List.setIfInBounds_toArray, List.set_cons_zero, List.set_cons_succ, i64_w, i32_w]
                                                rfl
                                              refine take_ (i := 5) (N := some 126) (v := ?_) (a' := ?_) #[true, true, true, true, true, true, false, false, false, false, false, false, false] rfl rfl (take_ofW HT_.out HW_.out (by kernel_rfl)) (fun _ _ _ h => h) (Or.inl ⟨by rfl, ?_⟩) hHeld ?_ ?_
                                              rotate_left
                                              · rintro w' ⟨s0, s1, s2, s3, s4, s5, s6, s7, s8⟩
                                                go_simp
                                                with_reducible rfl
                                              rotate_left
                                              · simp only [Act.put, List.setIfInBounds_toArray, List.set_cons_zero, List.set_cons_succ, i64_w, i32_w]
                                                rfl
                                              refine pure_ (i := 6) (N := some 127) (v := ?_) (a' := ?_) #[true, true, true, true, true, true, true, false, false, false, false, false, false] rfl rfl (any_of HT_.out (by kernel_rfl)) (fun _ _ _ h => h) (Or.inl ⟨by rfl, ?_⟩) ?_ ?_
                                              rotate_left
                                              · intro w'
                                                go_simp
                                                with_reducible rfl
                                              rotate_left
                                              · simp only [Act.put, List.setIfInBounds_toArray, List.set_cons_zero, List.set_cons_succ, i64_w, i32_w]
                                                rfl
                                              refine one_ (i := 7) (N := some 128) #[true, true, true, true, true, true, true, true, false, false, false, false, false] rfl rfl (one_of HT_.out (by kernel_rfl)) (by decide) (fun K hK => ?_)
                                              refine goes_ Try.func122 (by kernel_rfl) rfl #[.int .i64 (wrap64 ((rd l0_7 0) - a0_0)), .int .i64 2, .bool true] (by rfl) rfl rfl (by (try simp only [List.map_toArray, List.map_cons, List.map_nil]); first | done | rfl | (simp only [List.length_drop, List.length_take]; rfl)) ?_
                                              with_reducible refine (jvmcoreref2_bytes.calls (wrap64 ((rd l0_7 0) - a0_0)) 2 true t148 false _ A105.out).mono ?_
                                              rintro e w114 ⟨rfl, hb⟩
                                              refine ⟨_, rfl, ?_⟩
                                              have n0_ := Aside0.mk (blk_below (g := gb125) (o := .cells #[.int .i64 a0_0, .int .u8 a0_1, .bool a0_2, .int .i64 a0_3, .int .i64 a0_4, .int .i64 a0_5, .slice A0_6 l0_6.length c0_6, .slice (some ad147) l0_7.length c0_7] 82 (0, 0)) (by (with_reducible repeat (first | refine blk_drewN ?_ _ | refine blk_drew ?_ | refine blk_alloc ?_ _)); exact BK125.out) hb)
                                              have n1_ := Aside0.mk (below_step (by repeat (first | (with_reducible first | exact HB.out | apply below_alloc | apply pw_below_drewN | apply below_drew1 | refine below_set ?_ GE125.out) | exact HB.out)) hb)
                                              clear BK125
                                              clear HB
                                              have BK125 := n0_
                                              have HB := n1_
                                              clear n0_ n1_
                                              (try clear hb)
                                              (try clear hb2)
                                              (try clear hk)
                                              (try clear hi)
                                              refine hK.out _ _ ⟨(blk_cell BK125.out 0).trans rfl, (blk_cell BK125.out 1).trans rfl, (blk_cell BK125.out 2).trans rfl, (blk_cell BK125.out 3).trans rfl, (blk_cell BK125.out 4).trans rfl, (blk_cell BK125.out 5).trans rfl, (blk_cell BK125.out 6).trans rfl, (blk_cell BK125.out 7).trans rfl, ((HB.out.cell (World.block_lt_of_cell? w _ hw147_0)).trans hw147_0)⟩ (fun hHeld => ?_)
                                              clear hK K
                                              refine norm_ (a' := ?_) ?_ ?_
                                              rotate_left
                                              · show Act.put _ (some 128) _ = _
                                                simp only [Act.put, List.setIfInBounds_toArray, List.set_cons_zero, List.set_cons_succ, i64_w, i32_w]
                                                rfl
                                              refine pure_ (i := 8) (N := some 120) (v := ?_) (a' := ?_) #[true, true, true, true, true, true, true, true, true, false, false, false, false] rfl rfl (any_of HT_.out (by kernel_rfl)) (fun _ _ _ h => h) (Or.inl ⟨by rfl, ?_⟩) ?_ ?_
                                              rotate_left
                                              · intro w'
                                                go_simp
                                                with_reducible rfl
                                              rotate_left
                                              · simp only [Act.put, List.setIfInBounds_toArray, List.set_cons_zero, List.set_cons_succ, i64_w, i32_w]
                                                rfl
                                              refine pure_ (i := 9) (N := some 129) (v := ?_) (a' := ?_) #[true, true, true, true, true, true, true, true, true, true, false, false, false] rfl rfl (any_of HT_.out (by kernel_rfl)) (fun _ _ _ h => h) (Or.inl ⟨by rfl, ?_⟩) ?_ ?_
                                              rotate_left
                                              · intro w'
                                                go_simp
                                                with_reducible rfl
                                              rotate_left
                                              · simp only [Act.put, List.setIfInBounds_toArray, List.set_cons_zero, List.set_cons_succ, i64_w, i32_w]
                                                rfl
                                              refine pure_ (i := 10) (N := some 130) (v := ?_) (a' := ?_) #[true, true, true, true, true, true, true, true, true, true, true, false, false] rfl rfl (any_of HT_.out (by kernel_rfl)) (fun _ _ _ h => h) (Or.inl ⟨by rfl, ?_⟩) ?_ ?_
                                              rotate_left
                                              · intro w'
                                                go_simp
                                                with_reducible rfl
                                              rotate_left
                                              · simp only [Act.put, List.setIfInBounds_toArray, List.set_cons_zero, List.set_cons_succ, i64_w, i32_w]
                                                rfl
                                              refine pure_ (i := 11) (N := some 9) (v := ?_) (a' := ?_) #[true, true, true, true, true, true, true, true, true, true, true, true, false] rfl rfl (any_of HT_.out (by kernel_rfl)) (fun _ _ _ h => h) (Or.inl ⟨by rfl, ?_⟩) ?_ ?_
                                              rotate_left
                                              · intro w'
                                                go_simp
                                                with_reducible rfl
                                              rotate_left
                                              · simp only [Act.put, List.setIfInBounds_toArray, List.set_cons_zero, List.set_cons_succ, i64_w, i32_w]
                                                rfl
                                              refine pure_ (i := 12) (N := some 11) (v := ?_) (a' := ?_) #[true, true, true, true, true, true, true, true, true, true, true, true, true] rfl rfl (any_of HT_.out (by kernel_rfl)) (fun _ _ _ h => h) (Or.inl ⟨by rfl, ?_⟩) ?_ ?_
                                              rotate_left
                                              · intro w'
                                                go_simp
                                                with_reducible rfl
                                              rotate_left
                                              · simp only [Act.put, List.setIfInBounds_toArray, List.set_cons_zero, List.set_cons_succ, i64_w, i32_w]
                                                rfl
                                              refine done_ (done_of HT_.out (by kernel_rfl)) ?_
                                              try go_wp2
                                              go_ret2
                                              exact ⟨by first | rfl | (simp [errW_none, errW_some] <;> rfl) | (simp [*, errW_none, errW_some] <;> rfl), by repeat (first | (with_reducible first | exact HB.out | apply below_alloc | apply pw_below_drewN | apply below_drew1 | refine below_set ?_ GE125.out) | exact HB.out)⟩
                                          · rw [if_neg c107] at H
                                            exact absurd H (by simp)
                                        · rw [if_neg c106] at H
                                          exact absurd H (by simp)
                                      · rw [if_neg c104] at H
                                        exact absurd H (by simp)
                                    · rw [if_neg c103] at H
                                      have c103b0 : (a1.toList == ([106] : List UInt8)) = false := beq_eq_false_iff_ne.mpr c103
                                      have c103b1 : (a1.toList != ([106] : List UInt8)) = true := bne_iff_ne.mpr c103
                                      by_cases c115 : a1.toList = ([74] : List UInt8)
                                      · rw [if_pos c115] at H
                                        have c115b0 : (a1.toList == ([74] : List UInt8)) = true := beq_iff_eq.mpr c115
                                        have c115b1 : (a1.toList != ([74] : List UInt8)) = false := bne_eq_false_iff_eq.mpr c115
                                        clear c115
                                        by_cases c116 : 0 < (l0_7.length : Int)
                                        · rw [if_pos c116] at H
                                          have c116b0 : decide (0 < (l0_7.length : Int)) = true := decide_eq_true c116
                                          have c116b1 : decide (0 < l0_7.length) = true := decide_eq_true (by omega)
                                          clear c116
                                          replace H := Option.bind_eq_some_iff.mp H
                                          obtain ⟨⟨t151, t152⟩, A1170, H⟩ := H
                                          replace H : (if x6_2.size + t151.size ≤ 9223372036854775807 then (if (x6_2 ++ t151).size + 0 ≤ 9223372036854775807 then (if t152 = true then (some ((x6_2 ++ t151) ++ (⟨#[]⟩ : ByteArray), true)) else (some ((x6_2 ++ t151) ++ (⟨#[]⟩ : ByteArray), false))) else (none)) else (none)) = some (r1, r2) := H
                                          have A117 := Aside0.mk A1170
                                          clear A1170
                                          by_cases c118 : x6_2.size + t151.size ≤ 9223372036854775807
                                          · rw [if_pos c118] at H
                                            have c118b0 := eq_true c118
                                            have c118b1 : decide (x6_2.size + t151.size ≤ 9223372036854775807) = true := decide_eq_true c118
                                            try have c118b2 : (9223372036854775807 < x6_2.size + t151.size) = False := eq_false (Nat.not_lt.2 c118)
                                            by_cases c119 : (x6_2 ++ t151).size + 0 ≤ 9223372036854775807
                                            · rw [if_pos c119] at H
                                              have c119b0 := eq_true c119
                                              have c119b1 : decide ((x6_2 ++ t151).size + 0 ≤ 9223372036854775807) = true := decide_eq_true c119
                                              try have c119b2 : (9223372036854775807 < (x6_2 ++ t151).size + 0) = False := eq_false (Nat.not_lt.2 c119)
                                              by_cases c120 : t152 = true
                                              · subst c120
                                                have H1 : (some ((x6_2 ++ t151) ++ (⟨#[]⟩ : ByteArray), true)) = some (r1, r2) := by rw [if_pos rfl] at H; exact H
                                                clear H
                                                have H := H1
                                                clear H1
                                                simp only [Option.some.injEq, Prod.mk.injEq] at H
                                                obtain ⟨rfl, rfl⟩ := H
                                                obtain ⟨hcz121_0, hcz121_1, hcz121_2, hcz121_3, hcz121_4, hcz121_5, hcz121_6, hcz121_7⟩ := box8 BK125.out
                                                have hfz121_0 := blk_frozen BK125.out 0
                                                have hfz121_1 := blk_frozen BK125.out 1
                                                have hfz121_2 := blk_frozen BK125.out 2
                                                have hfz121_3 := blk_frozen BK125.out 3
                                                have hfz121_4 := blk_frozen BK125.out 4
                                                have hfz121_5 := blk_frozen BK125.out 5
                                                have hfz121_6 := blk_frozen BK125.out 6
                                                have hfz121_7 := blk_frozen BK125.out 7
                                                try go_wp2
                                                have n0_ := Aside0.mk (blk_drew BK125.out)
                                                have n1_ := Aside0.mk (below_drew1 HB.out)
                                                clear BK125
                                                clear HB
                                                have BK125 := n0_
                                                have HB := n1_
                                                clear n0_ n1_
                                                have p150 : 0 ≤ (0 : Int) := (by omega)
                                                have q150 : 0 < (l0_7.length : Int) := of_decide_eq_true (by first | (with_reducible assumption) | assumption)
                                                obtain ⟨ad150, e150, hx150_0⟩ := Kd.at_int HR0_7.out 0 p150 q150
                                                have hw150_0 := hx150_0
                                                (try rw [show ((0 : Int)).toNat = 0 from rfl] at hw150_0)
                                                (try rw [show 0 * 1 = 0 from rfl] at hw150_0)
                                                (try rw [Addr.add_zero'] at hw150_0)
                                                cases e150
                                                have qi150 : (0 < l0_7.length) = True := eq_true (by omega)
                                                (try rw [show ((0 : Int)).toNat = 0 from rfl] at hx150_0)
                                                (try rw [Addr.add_zero'] at hx150_0)
                                                replace hx150_0 := (HB.out.cell (World.block_lt_of_cell? w _ hx150_0)).trans hx150_0
                                                replace p150 := eq_true p150
                                                replace q150 := eq_true q150
                                                refine start_ (n := 13) (S := fun w' => w'.cell? ⟨gb125, 0, none⟩ = some (.int .i64 a0_0) ∧ w'.cell? ⟨gb125, 1, none⟩ = some (.int .u8 a0_1) ∧ w'.cell? ⟨gb125, 2, none⟩ = some (.bool a0_2) ∧ w'.cell? ⟨gb125, 3, none⟩ = some (.int .i64 a0_3) ∧ w'.cell? ⟨gb125, 4, none⟩ = some (.int .i64 a0_4) ∧ w'.cell? ⟨gb125, 5, none⟩ = some (.int .i64 a0_5) ∧ w'.cell? ⟨gb125, 6, none⟩ = some (.slice A0_6 l0_6.length c0_6) ∧ w'.cell? ⟨gb125, 7, none⟩ = some (.slice (some ad150) l0_7.length c0_7) ∧ w'.cell? ad150 = some (.int .i64 (rd l0_7 0))) (ds := []) #[false, false, false, false, false, false, false, false, false, false, false, false, false] (by kernel_rfl) rfl rfl ⟨(blk_cell BK125.out 0).trans rfl, (blk_cell BK125.out 1).trans rfl, (blk_cell BK125.out 2).trans rfl, (blk_cell BK125.out 3).trans rfl, (blk_cell BK125.out 4).trans rfl, (blk_cell BK125.out 5).trans rfl, (blk_cell BK125.out 6).trans rfl, (blk_cell BK125.out 7).trans rfl, ((HB.out.cell (World.block_lt_of_cell? w _ hw150_0)).trans hw150_0)⟩ (fun hHeld => ?_); refine with_tabW jvmcoreref2_encode.tab37 jvmcoreref2_encode.bits37 (fun HT_ HW_ => ?_)
                                                generalize wc.drew = w122 at BK125 HB hx150_0 hHeld ⊢
                                                refine pure_ (i := 0) (N := some 134) (v := ?_) (a' := ?_) #[true, false, false, false, false, false, false, false, false, false, false, false, false] rfl rfl (any_of HT_.out (by kernel_rfl)) (fun _ _ _ h => h) (Or.inl ⟨by rfl, ?_⟩) ?_ ?_
                                                rotate_left
                                                · intro w'
                                                  go_simp
                                                  with_reducible rfl
                                                rotate_left
                                                · simp only [Act.put, List.setIfInBounds_toArray, List.set_cons_zero, List.set_cons_succ, i64_w, i32_w]
                                                  rfl
                                                refine pure_ (i := 4) (N := some 138) (v := ?_) (a' := ?_) #[true, false, false, false, true, false, false, false, false, false, false, false, false] rfl rfl (any_of HT_.out (by kernel_rfl)) (fun _ _ _ h => h) (Or.inl ⟨by rfl, ?_⟩) ?_ ?_
                                                rotate_left
                                                · intro w'
                                                  go_simp
                                                  with_reducible rfl
                                                rotate_left
                                                · simp only [Act.put, List.setIfInBounds_toArray, List.set_cons_zero, List.set_cons_succ, i64_w, i32_w]
                                                  rfl
                                                refine take_ (i := 1) (N := some 135) (v := ?_) (a' := ?_) #[true, true, false, false, true, false, false, false, false, false, false, false, false] rfl rfl (take_ofW HT_.out HW_.out (by kernel_rfl)) (fun _ _ _ h => h) (Or.inl ⟨by rfl, ?_⟩) hHeld ?_ ?_
                                                rotate_left
                                                · rintro w' ⟨s0, s1, s2, s3, s4, s5, s6, s7, s8⟩
                                                  go_simp
                                                  with_reducible rfl
                                                rotate_left
                                                · simp only [Act.put, List.setIfInBounds_toArray, List.set_cons_zero, List.set_cons_succ, i64_w, i32_w]
                                                  rfl
                                                refine pure_ (i := 2) (N := some 136) (v := ?_) (a' := ?_) #[true, true, true, false, true, false, false, false, false, false, false, false, false] rfl rfl (any_of HT_.out (by kernel_rfl)) (fun _ _ _ h => h) (Or.inl ⟨by rfl, ?_⟩) ?_ ?_
                                                rotate_left
                                                · intro w'
                                                  go_simp
                                                  with_reducible rfl
                                                rotate_left
                                                · simp only [Act.put, List.setIfInBounds_toArray, List.set_cons_zero, List.set_cons_succ, i64_w, i32_w]
                                                  rfl
                                                refine take_ (i := 3) (N := some 137) (v := ?_) (a' := ?_) #[true, true, true, true, true, false, false, false, false, false, false, false, false] rfl rfl (take_ofW HT_.out HW_.out (by kernel_rfl)) (fun _ _ _ h => h) (Or.inl ⟨by rfl, ?_⟩) hHeld ?_ ?_
                                                rotate_left
                                                · rintro w' ⟨s0, s1, s2, s3, s4, s5, s6, s7, s8⟩
                                                  go_simp
                                                  with_reducible rfl
                                                rotate_left
                                                · simp only [Act.put, List.setIfInBounds_toArray, List.set_cons_zero, List.set_cons_succ, i64_w, i32_w]
                                                  rfl
                                                refine take_ (i := 5) (N := some 139) (v := ?_) (a' := ?_) #[true, true, true, true, true, true, false, false, false, false, false, false, false] rfl rfl (take_ofW HT_.out HW_.out (by kernel_rfl)) (fun _ _ _ h => h) (Or.inl ⟨by rfl, ?_⟩) hHeld ?_ ?_
                                                rotate_left
                                                · rintro w' ⟨s0, s1, s2, s3, s4, s5, s6, s7, s8⟩
                                                  go_simp
                                                  with_reducible rfl
                                                rotate_left
                                                · simp only [Act.put, List.setIfInBounds_toArray, List.set_cons_zero, List.set_cons_succ, i64_w, i32_w]
                                                  rfl
                                                refine pure_ (i := 6) (N := some 140) (v := ?_) (a' := ?_) #[true, true, true, true, true, true, true, false, false, false, false, false, false] rfl rfl (any_of HT_.out (by kernel_rfl)) (fun _ _ _ h => h) (Or.inl ⟨by rfl, ?_⟩) ?_ ?_
                                                rotate_left
                                                · intro w'
                                                  go_simp
                                                  with_reducible rfl
                                                rotate_left
                                                · simp only [Act.put, List.setIfInBounds_toArray, List.set_cons_zero, List.set_cons_succ, i64_w, i32_w]
                                                  rfl
                                                refine one_ (i := 7) (N := some 141) #[true, true, true, true, true, true, true, true, false, false, false, false, false] rfl rfl (one_of HT_.out (by kernel_rfl)) (by decide) (fun K hK => ?_)
                                                refine goes_ Try.func122 (by kernel_rfl) rfl #[.int .i64 (wrap64 ((rd l0_7 0) - a0_0)), .int .i64 4, .bool true] (by rfl) rfl rfl (by (try simp only [List.map_toArray, List.map_cons, List.map_nil]); first | done | rfl | (simp only [List.length_drop, List.length_take]; rfl)) ?_
                                                with_reducible refine (jvmcoreref2_bytes.calls (wrap64 ((rd l0_7 0) - a0_0)) 4 true t151 true _ A117.out).mono ?_
                                                rintro e w123 ⟨rfl, hb⟩
                                                refine ⟨_, rfl, ?_⟩
                                                have n0_ := Aside0.mk (blk_below (g := gb125) (o := .cells #[.int .i64 a0_0, .int .u8 a0_1, .bool a0_2, .int .i64 a0_3, .int .i64 a0_4, .int .i64 a0_5, .slice A0_6 l0_6.length c0_6, .slice (some ad150) l0_7.length c0_7] 82 (0, 0)) (by (with_reducible repeat (first | refine blk_drewN ?_ _ | refine blk_drew ?_ | refine blk_alloc ?_ _)); exact BK125.out) hb)
                                                have n1_ := Aside0.mk (below_step (by repeat (first | (with_reducible first | exact HB.out | apply below_alloc | apply pw_below_drewN | apply below_drew1 | refine below_set ?_ GE125.out) | exact HB.out)) hb)
                                                clear BK125
                                                clear HB
                                                have BK125 := n0_
                                                have HB := n1_
                                                clear n0_ n1_
                                                (try clear hb)
                                                (try clear hb2)
                                                (try clear hk)
                                                (try clear hi)
                                                refine hK.out _ _ ⟨(blk_cell BK125.out 0).trans rfl, (blk_cell BK125.out 1).trans rfl, (blk_cell BK125.out 2).trans rfl, (blk_cell BK125.out 3).trans rfl, (blk_cell BK125.out 4).trans rfl, (blk_cell BK125.out 5).trans rfl, (blk_cell BK125.out 6).trans rfl, (blk_cell BK125.out 7).trans rfl, ((HB.out.cell (World.block_lt_of_cell? w _ hw150_0)).trans hw150_0)⟩ (fun hHeld => ?_)
                                                clear hK K
                                                refine norm_ (a' := ?_) ?_ ?_
                                                rotate_left
                                                · show Act.put _ (some 141) _ = _
                                                  simp only [Act.put, List.setIfInBounds_toArray, List.set_cons_zero, List.set_cons_succ, i64_w, i32_w]
                                                  rfl
                                                refine pure_ (i := 8) (N := some 133) (v := ?_) (a' := ?_) #[true, true, true, true, true, true, true, true, true, false, false, false, false] rfl rfl (any_of HT_.out (by kernel_rfl)) (fun _ _ _ h => h) (Or.inl ⟨by rfl, ?_⟩) ?_ ?_
                                                rotate_left
                                                · intro w'
                                                  go_simp
                                                  with_reducible rfl
                                                rotate_left
                                                · simp only [Act.put, List.setIfInBounds_toArray, List.set_cons_zero, List.set_cons_succ, i64_w, i32_w]
                                                  rfl
                                                refine pure_ (i := 9) (N := some 142) (v := ?_) (a' := ?_) #[true, true, true, true, true, true, true, true, true, true, false, false, false] rfl rfl (any_of HT_.out (by kernel_rfl)) (fun _ _ _ h => h) (Or.inl ⟨by rfl, ?_⟩) ?_ ?_
                                                rotate_left
                                                · intro w'
                                                  go_simp
                                                  with_reducible rfl
                                                rotate_left
                                                · simp only [Act.put, List.setIfInBounds_toArray, List.set_cons_zero, List.set_cons_succ, i64_w, i32_w]
                                                  rfl
                                                refine pure_ (i := 10) (N := some 143) (v := ?_) (a' := ?_) #[true, true, true, true, true, true, true, true, true, true, true, false, false] rfl rfl (any_of HT_.out (by kernel_rfl)) (fun _ _ _ h => h) (Or.inl ⟨by rfl, ?_⟩) ?_ ?_
                                                rotate_left
                                                · intro w'
                                                  go_simp
                                                  with_reducible rfl
                                                rotate_left
                                                · simp only [Act.put, List.setIfInBounds_toArray, List.set_cons_zero, List.set_cons_succ, i64_w, i32_w]
                                                  rfl
                                                refine pure_ (i := 11) (N := some 9) (v := ?_) (a' := ?_) #[true, true, true, true, true, true, true, true, true, true, true, true, false] rfl rfl (any_of HT_.out (by kernel_rfl)) (fun _ _ _ h => h) (Or.inl ⟨by rfl, ?_⟩) ?_ ?_
                                                rotate_left
                                                · intro w'
                                                  go_simp
                                                  with_reducible rfl
                                                rotate_left
                                                · simp only [Act.put, List.setIfInBounds_toArray, List.set_cons_zero, List.set_cons_succ, i64_w, i32_w]
                                                  rfl
                                                refine pure_ (i := 12) (N := some 11) (v := ?_) (a' := ?_) #[true, true, true, true, true, true, true, true, true, true, true, true, true] rfl rfl (any_of HT_.out (by kernel_rfl)) (fun _ _ _ h => h) (Or.inl ⟨by rfl, ?_⟩) ?_ ?_
                                                rotate_left
                                                · intro w'
                                                  go_simp
                                                  with_reducible rfl
                                                rotate_left
                                                · simp only [Act.put, List.setIfInBounds_toArray, List.set_cons_zero, List.set_cons_succ, i64_w, i32_w]
                                                  rfl
                                                refine done_ (done_of HT_.out (by kernel_rfl)) ?_
                                                try go_wp2
                                                go_ret2
                                                exact ⟨by first | rfl | (simp [errW_none, errW_some] <;> rfl) | (simp [*, errW_none, errW_some] <;> rfl), by repeat (first | (with_reducible first | exact HB.out | apply below_alloc | apply pw_below_drewN | apply below_drew1 | refine below_set ?_ GE125.out) | exact HB.out)⟩
                                              · replace c120 := Bool.eq_false_iff.mpr c120
                                                subst c120
                                                have H1 : (some ((x6_2 ++ t151) ++ (⟨#[]⟩ : ByteArray), false)) = some (r1, r2) := by rw [if_neg (show ¬ (false = true) by decide)] at H; exact H
                                                clear H
                                                have H := H1
                                                clear H1
                                                simp only [Option.some.injEq, Prod.mk.injEq] at H
                                                obtain ⟨rfl, rfl⟩ := H
                                                obtain ⟨hcz124_0, hcz124_1, hcz124_2, hcz124_3, hcz124_4, hcz124_5, hcz124_6, hcz124_7⟩ := box8 BK125.out
                                                have hfz124_0 := blk_frozen BK125.out 0
                                                have hfz124_1 := blk_frozen BK125.out 1
                                                have hfz124_2 := blk_frozen BK125.out 2
                                                have hfz124_3 := blk_frozen BK125.out 3
                                                have hfz124_4 := blk_frozen BK125.out 4
                                                have hfz124_5 := blk_frozen BK125.out 5
                                                have hfz124_6 := blk_frozen BK125.out 6
                                                have hfz124_7 := blk_frozen BK125.out 7
                                                try go_wp2
                                                have n0_ := Aside0.mk (blk_drew BK125.out)
                                                have n1_ := Aside0.mk (below_drew1 HB.out)
                                                clear BK125
                                                clear HB
                                                have BK125 := n0_
                                                have HB := n1_
                                                clear n0_ n1_
                                                have p150 : 0 ≤ (0 : Int) := (by omega)
                                                have q150 : 0 < (l0_7.length : Int) := of_decide_eq_true (by first | (with_reducible assumption) | assumption)
                                                obtain ⟨ad150, e150, hx150_0⟩ := Kd.at_int HR0_7.out 0 p150 q150
                                                have hw150_0 := hx150_0
                                                (try rw [show ((0 : Int)).toNat = 0 from rfl] at hw150_0)
                                                (try rw [show 0 * 1 = 0 from rfl] at hw150_0)
                                                (try rw [Addr.add_zero'] at hw150_0)
                                                cases e150
                                                have qi150 : (0 < l0_7.length) = True := eq_true (by omega)
                                                (try rw [show ((0 : Int)).toNat = 0 from rfl] at hx150_0)
                                                (try rw [Addr.add_zero'] at hx150_0)
                                                replace hx150_0 := (HB.out.cell (World.block_lt_of_cell? w _ hx150_0)).trans hx150_0
                                                replace p150 := eq_true p150
                                                replace q150 := eq_true q150
                                                refine start_ (n := 13) (S := fun w' => w'.cell? ⟨gb125, 0, none⟩ = some (.int .i64 a0_0) ∧ w'.cell? ⟨gb125, 1, none⟩ = some (.int .u8 a0_1) ∧ w'.cell? ⟨gb125, 2, none⟩ = some (.bool a0_2) ∧ w'.cell? ⟨gb125, 3, none⟩ = some (.int .i64 a0_3) ∧ w'.cell? ⟨gb125, 4, none⟩ = some (.int .i64 a0_4) ∧ w'.cell? ⟨gb125, 5, none⟩ = some (.int .i64 a0_5) ∧ w'.cell? ⟨gb125, 6, none⟩ = some (.slice A0_6 l0_6.length c0_6) ∧ w'.cell? ⟨gb125, 7, none⟩ = some (.slice (some ad150) l0_7.length c0_7) ∧ w'.cell? ad150 = some (.int .i64 (rd l0_7 0))) (ds := []) #[false, false, false, false, false, false, false, false, false, false, false, false, false] (by kernel_rfl) rfl rfl ⟨(blk_cell BK125.out 0).trans rfl, (blk_cell BK125.out 1).trans rfl, (blk_cell BK125.out 2).trans rfl, (blk_cell BK125.out 3).trans rfl, (blk_cell BK125.out 4).trans rfl, (blk_cell BK125.out 5).trans rfl, (blk_cell BK125.out 6).trans rfl, (blk_cell BK125.out 7).trans rfl, ((HB.out.cell (World.block_lt_of_cell? w _ hw150_0)).trans hw150_0)⟩ (fun hHeld => ?_); refine with_tabW jvmcoreref2_encode.tab37 jvmcoreref2_encode.bits37 (fun HT_ HW_ => ?_)
                                                generalize wc.drew = w125 at BK125 HB hx150_0 hHeld ⊢
                                                refine pure_ (i := 0) (N := some 134) (v := ?_) (a' := ?_) #[true, false, false, false, false, false, false, false, false, false, false, false, false] rfl rfl (any_of HT_.out (by kernel_rfl)) (fun _ _ _ h => h) (Or.inl ⟨by rfl, ?_⟩) ?_ ?_
                                                rotate_left
                                                · intro w'
                                                  go_simp
                                                  with_reducible rfl
                                                rotate_left
                                                · simp only [Act.put, List.setIfInBounds_toArray, List.set_cons_zero, List.set_cons_succ, i64_w, i32_w]
                                                  rfl
                                                refine pure_ (i := 4) (N := some 138) (v := ?_) (a' := ?_) #[true, false, false, false, true, false, false, false, false, false, false, false, false] rfl rfl (any_of HT_.out (by kernel_rfl)) (fun _ _ _ h => h) (Or.inl ⟨by rfl, ?_⟩) ?_ ?_
                                                rotate_left
                                                · intro w'
                                                  go_simp
                                                  with_reducible rfl
                                                rotate_left
                                                · simp only [Act.put, List.setIfInBounds_toArray, List.set_cons_zero, List.set_cons_succ, i64_w, i32_w]
                                                  rfl
                                                refine take_ (i := 1) (N := some 135) (v := ?_) (a' := ?_) #[true, true, false, false, true, false, false, false, false, false, false, false, false] rfl rfl (take_ofW HT_.out HW_.out (by kernel_rfl)) (fun _ _ _ h => h) (Or.inl ⟨by rfl, ?_⟩) hHeld ?_ ?_
                                                rotate_left
                                                · rintro w' ⟨s0, s1, s2, s3, s4, s5, s6, s7, s8⟩
                                                  go_simp
                                                  with_reducible rfl
                                                rotate_left
                                                · simp only [Act.put, List.setIfInBounds_toArray, List.set_cons_zero, List.set_cons_succ, i64_w, i32_w]
                                                  rfl
                                                refine pure_ (i := 2) (N := some 136) (v := ?_) (a' := ?_) #[true, true, true, false, true, false, false, false, false, false, false, false, false] rfl rfl (any_of HT_.out (by kernel_rfl)) (fun _ _ _ h => h) (Or.inl ⟨by rfl, ?_⟩) ?_ ?_
                                                rotate_left
                                                · intro w'
                                                  go_simp
                                                  with_reducible rfl
                                                rotate_left
                                                · simp only [Act.put, List.setIfInBounds_toArray, List.set_cons_zero, List.set_cons_succ, i64_w, i32_w]
                                                  rfl
                                                refine take_ (i := 3) (N := some 137) (v := ?_) (a' := ?_) #[true, true, true, true, true, false, false, false, false, false, false, false, false] rfl rfl (take_ofW HT_.out HW_.out (by kernel_rfl)) (fun _ _ _ h => h) (Or.inl ⟨by rfl, ?_⟩) hHeld ?_ ?_
                                                rotate_left
                                                · rintro w' ⟨s0, s1, s2, s3, s4, s5, s6, s7, s8⟩
                                                  go_simp
                                                  with_reducible rfl
                                                rotate_left
                                                · simp only [Act.put, List.setIfInBounds_toArray, List.set_cons_zero, List.set_cons_succ, i64_w, i32_w]
                                                  rfl
                                                refine take_ (i := 5) (N := some 139) (v := ?_) (a' := ?_) #[true, true, true, true, true, true, false, false, false, false, false, false, false] rfl rfl (take_ofW HT_.out HW_.out (by kernel_rfl)) (fun _ _ _ h => h) (Or.inl ⟨by rfl, ?_⟩) hHeld ?_ ?_
                                                rotate_left
                                                · rintro w' ⟨s0, s1, s2, s3, s4, s5, s6, s7, s8⟩
                                                  go_simp
                                                  with_reducible rfl
                                                rotate_left
                                                · simp only [Act.put, List.setIfInBounds_toArray, List.set_cons_zero, List.set_cons_succ, i64_w, i32_w]
                                                  rfl
                                                refine pure_ (i := 6) (N := some 140) (v := ?_) (a' := ?_) #[true, true, true, true, true, true, true, false, false, false, false, false, false] rfl rfl (any_of HT_.out (by kernel_rfl)) (fun _ _ _ h => h) (Or.inl ⟨by rfl, ?_⟩) ?_ ?_
                                                rotate_left
                                                · intro w'
                                                  go_simp
                                                  with_reducible rfl
                                                rotate_left
                                                · simp only [Act.put, List.setIfInBounds_toArray, List.set_cons_zero, List.set_cons_succ, i64_w, i32_w]
                                                  rfl
                                                refine one_ (i := 7) (N := some 141) #[true, true, true, true, true, true, true, true, false, false, false, false, false] rfl rfl (one_of HT_.out (by kernel_rfl)) (by decide) (fun K hK => ?_)
                                                refine goes_ Try.func122 (by kernel_rfl) rfl #[.int .i64 (wrap64 ((rd l0_7 0) - a0_0)), .int .i64 4, .bool true] (by rfl) rfl rfl (by (try simp only [List.map_toArray, List.map_cons, List.map_nil]); first | done | rfl | (simp only [List.length_drop, List.length_take]; rfl)) ?_
                                                with_reducible refine (jvmcoreref2_bytes.calls (wrap64 ((rd l0_7 0) - a0_0)) 4 true t151 false _ A117.out).mono ?_
                                                rintro e w126 ⟨rfl, hb⟩
                                                refine ⟨_, rfl, ?_⟩
                                                have n0_ := Aside0.mk (blk_below (g := gb125) (o := .cells #[.int .i64 a0_0, .int .u8 a0_1, .bool a0_2, .int .i64 a0_3, .int .i64 a0_4, .int .i64 a0_5, .slice A0_6 l0_6.length c0_6, .slice (some ad150) l0_7.length c0_7] 82 (0, 0)) (by (with_reducible repeat (first | refine blk_drewN ?_ _ | refine blk_drew ?_ | refine blk_alloc ?_ _)); exact BK125.out) hb)
                                                have n1_ := Aside0.mk (below_step (by repeat (first | (with_reducible first | exact HB.out | apply below_alloc | apply pw_below_drewN | apply below_drew1 | refine below_set ?_ GE125.out) | exact HB.out)) hb)
                                                clear BK125
                                                clear HB
                                                have BK125 := n0_
                                                have HB := n1_
                                                clear n0_ n1_
                                                (try clear hb)
                                                (try clear hb2)
                                                (try clear hk)
                                                (try clear hi)
                                                refine hK.out _ _ ⟨(blk_cell BK125.out 0).trans rfl, (blk_cell BK125.out 1).trans rfl, (blk_cell BK125.out 2).trans rfl, (blk_cell BK125.out 3).trans rfl, (blk_cell BK125.out 4).trans rfl, (blk_cell BK125.out 5).trans rfl, (blk_cell BK125.out 6).trans rfl, (blk_cell BK125.out 7).trans rfl, ((HB.out.cell (World.block_lt_of_cell? w _ hw150_0)).trans hw150_0)⟩ (fun hHeld => ?_)
                                                clear hK K
                                                refine norm_ (a' := ?_) ?_ ?_
                                                rotate_left
                                                · show Act.put _ (some 141) _ = _
                                                  simp only [Act.put, List.setIfInBounds_toArray, List.set_cons_zero, List.set_cons_succ, i64_w, i32_w]
                                                  rfl
                                                refine pure_ (i := 8) (N := some 133) (v := ?_) (a' := ?_) #[true, true, true, true, true, true, true, true, true, false, false, false, false] rfl rfl (any_of HT_.out (by kernel_rfl)) (fun _ _ _ h => h) (Or.inl ⟨by rfl, ?_⟩) ?_ ?_
                                                rotate_left
                                                · intro w'
                                                  go_simp
                                                  with_reducible rfl
                                                rotate_left
                                                · simp only [Act.put, List.setIfInBounds_toArray, List.set_cons_zero, List.set_cons_succ, i64_w, i32_w]
                                                  rfl
                                                refine pure_ (i := 9) (N := some 142) (v := ?_) (a' := ?_) #[true, true, true, true, true, true, true, true, true, true, false, false, false] rfl rfl (any_of HT_.out (by kernel_rfl)) (fun _ _ _ h => h) (Or.inl ⟨by rfl, ?_⟩) ?_ ?_
                                                rotate_left
                                                · intro w'
                                                  go_simp
                                                  with_reducible rfl
                                                rotate_left
                                                · simp only [Act.put, List.setIfInBounds_toArray, List.set_cons_zero, List.set_cons_succ, i64_w, i32_w]
                                                  rfl
                                                refine pure_ (i := 10) (N := some 143) (v := ?_) (a' := ?_) #[true, true, true, true, true, true, true, true, true, true, true, false, false] rfl rfl (any_of HT_.out (by kernel_rfl)) (fun _ _ _ h => h) (Or.inl ⟨by rfl, ?_⟩) ?_ ?_
                                                rotate_left
                                                · intro w'
                                                  go_simp
                                                  with_reducible rfl
                                                rotate_left
                                                · simp only [Act.put, List.setIfInBounds_toArray, List.set_cons_zero, List.set_cons_succ, i64_w, i32_w]
                                                  rfl
                                                refine pure_ (i := 11) (N := some 9) (v := ?_) (a' := ?_) #[true, true, true, true, true, true, true, true, true, true, true, true, false] rfl rfl (any_of HT_.out (by kernel_rfl)) (fun _ _ _ h => h) (Or.inl ⟨by rfl, ?_⟩) ?_ ?_
                                                rotate_left
                                                · intro w'
                                                  go_simp
                                                  with_reducible rfl
                                                rotate_left
                                                · simp only [Act.put, List.setIfInBounds_toArray, List.set_cons_zero, List.set_cons_succ, i64_w, i32_w]
                                                  rfl
                                                refine pure_ (i := 12) (N := some 11) (v := ?_) (a' := ?_) #[true, true, true, true, true, true, true, true, true, true, true, true, true] rfl rfl (any_of HT_.out (by kernel_rfl)) (fun _ _ _ h => h) (Or.inl ⟨by rfl, ?_⟩) ?_ ?_
                                                rotate_left
                                                · intro w'
                                                  go_simp
                                                  with_reducible rfl
                                                rotate_left
                                                · simp only [Act.put, List.setIfInBounds_toArray, List.set_cons_zero, List.set_cons_succ, i64_w, i32_w]
                                                  rfl
                                                refine done_ (done_of HT_.out (by kernel_rfl)) ?_
                                                try go_wp2
                                                go_ret2
                                                exact ⟨by first | rfl | (simp [errW_none, errW_some] <;> rfl) | (simp [*, errW_none, errW_some] <;> rfl), by repeat (first | (with_reducible first | exact HB.out | apply below_alloc | apply pw_below_drewN | apply below_drew1 | refine below_set ?_ GE125.out) | exact HB.out)⟩
                                            · rw [if_neg c119] at H
                                              exact absurd H (by simp)
                                          · rw [if_neg c118] at H
                                            exact absurd H (by simp)
                                        · rw [if_neg c116] at H
                                          exact absurd H (by simp)
                                      · rw [if_neg c115] at H
                                        have c115b0 : (a1.toList == ([74] : List UInt8)) = false := beq_eq_false_iff_ne.mpr c115
                                        have c115b1 : (a1.toList != ([74] : List UInt8)) = true := bne_iff_ne.mpr c115
                                        have HC127 := Aside0.mk H
                                        clear H
                                        obtain ⟨hcz128_0, hcz128_1, hcz128_2, hcz128_3, hcz128_4, hcz128_5, hcz128_6, hcz128_7⟩ := box8 BK125.out
                                        have hfz128_0 := blk_frozen BK125.out 0
                                        have hfz128_1 := blk_frozen BK125.out 1
                                        have hfz128_2 := blk_frozen BK125.out 2
                                        have hfz128_3 := blk_frozen BK125.out 3
                                        have hfz128_4 := blk_frozen BK125.out 4
                                        have hfz128_5 := blk_frozen BK125.out 5
                                        have hfz128_6 := blk_frozen BK125.out 6
                                        have hfz128_7 := blk_frozen BK125.out 7
                                        go_upto_if 144 with (fail)
                                        go_cut [144] (fun v144 wc => ∃ (kq : Nat) (x144_126 : Bool), v144 = .bool x144_126 ∧ Aside0 (jvmcoreref2_encode.j4 kq a1 x6_2 (⟨#[]⟩ : ByteArray) (⟨#[]⟩ : ByteArray) true true x144_126 a0_0 a0_1 a0_2 a0_3 a0_4 a0_5 l0_6 l0_7 = some (r1, r2)) ∧ Aside0 (kq ≤ kj19) ∧ Aside0 (wc.heap[gb125]? = some (.cells #[.int .i64 a0_0, .int .u8 a0_1, .bool a0_2, .int .i64 a0_3, .int .i64 a0_4, .int .i64 a0_5, (.slice A0_6 l0_6.length c0_6), (.slice A0_7 l0_7.length c0_7)] 82 (0, 0))) ∧ Aside0 (Below w.heap.size w wc))
                                        case first =>
                                          have H := HC127.out
                                          clear HC127
                                          by_cases c129 : a1.toList = ([102] : List UInt8)
                                          · rw [if_pos c129] at H
                                            have c129b0 : (a1.toList == ([102] : List UInt8)) = true := beq_iff_eq.mpr c129
                                            have c129b1 : (a1.toList != ([102] : List UInt8)) = false := bne_eq_false_iff_eq.mpr c129
                                            clear c129
                                            (first | rw [c129b0] | (simp only [i64_w, i32_w]; rw [c129b0]) | skip)
                                            have H' := Aside0.mk H
                                            clear H
                                            go_wp2
                                            go_meet
                                            case rel => exact ⟨_, ((a1.toList == ([102] : List UInt8))), (by first | rfl | (simp; done) | (simp [*]; done)), H', ⟨by have := HJ2.out; have := HJ11.out; have := HJ17.out; have := HJ19.out; first | omega | exact Nat.le_refl _⟩, ⟨by (with_reducible repeat (first | refine blk_drewN ?_ _ | refine blk_drew ?_ | refine blk_alloc ?_ _)); exact BK125.out⟩, ⟨by repeat (first | (with_reducible first | exact HB.out | apply below_alloc | apply pw_below_drewN | apply below_drew1 | refine below_set ?_ GE125.out) | exact HB.out)⟩⟩
                                          · rw [if_neg c129] at H
                                            have c129b0 : (a1.toList == ([102] : List UInt8)) = false := beq_eq_false_iff_ne.mpr c129
                                            have c129b1 : (a1.toList != ([102] : List UInt8)) = true := bne_iff_ne.mpr c129
                                            (first | rw [c129b0] | (simp only [i64_w, i32_w]; rw [c129b0]) | skip)
                                            have H' := Aside0.mk H
                                            clear H
                                            go_wp2
                                            go_meet
                                            case rel => exact ⟨_, ((a1.toList == ([109] : List UInt8))), (by first | rfl | (simp; done) | (simp [*]; done)), H', ⟨by have := HJ2.out; have := HJ11.out; have := HJ17.out; have := HJ19.out; first | omega | exact Nat.le_refl _⟩, ⟨by (with_reducible repeat (first | refine blk_drewN ?_ _ | refine blk_drew ?_ | refine blk_alloc ?_ _)); exact BK125.out⟩, ⟨by repeat (first | (with_reducible first | exact HB.out | apply below_alloc | apply pw_below_drewN | apply below_drew1 | refine below_set ?_ GE125.out) | exact HB.out)⟩⟩
                                        case rest =>
                                          clear HC127
                                          try clear c1
                                          try clear p1
                                          try clear q1
                                          try clear hx1
                                          try clear qi1
                                          try clear p2
                                          try clear p6
                                          try clear c10
                                          try clear c11
                                          try clear c12
                                          try clear p14
                                          try clear q14
                                          try clear hx14
                                          try clear qi14
                                          try clear p15
                                          try clear q15
                                          try clear hx15
                                          try clear qi15
                                          try clear p64
                                          try clear c103
                                          try clear c103b0
                                          try clear c103b1
                                          try clear c104
                                          try clear c106
                                          try clear c107
                                          try clear c108
                                          try clear c115
                                          try clear c115b0
                                          try clear c115b1
                                          try clear c116
                                          try clear c116b0
                                          try clear c116b1
                                          try clear c118
                                          try clear c118b0
                                          try clear c118b1
                                          try clear c118b2
                                          try clear c119
                                          try clear c119b0
                                          try clear c119b1
                                          try clear c119b2
                                          try clear c120
                                          try clear c122
                                          try clear c129
                                          try clear c129b0
                                          try clear c129b1
                                          try clear hcz112_0
                                          try clear hcz112_1
                                          try clear hcz112_2
                                          try clear hcz112_3
                                          try clear hcz112_4
                                          try clear hcz112_5
                                          try clear hcz112_6
                                          try clear hcz112_7
                                          try clear hcz121_0
                                          try clear hcz121_1
                                          try clear hcz121_2
                                          try clear hcz121_3
                                          try clear hcz121_4
                                          try clear hcz121_5
                                          try clear hcz121_6
                                          try clear hcz121_7
                                          try clear hcz124_0
                                          try clear hcz124_1
                                          try clear hcz124_2
                                          try clear hcz124_3
                                          try clear hcz124_4
                                          try clear hcz124_5
                                          try clear hcz124_6
                                          try clear hcz124_7
                                          try clear hcz128_0
                                          try clear hcz128_1
                                          try clear hcz128_2
                                          try clear hcz128_3
                                          try clear hcz128_4
                                          try clear hcz128_5
                                          try clear hcz128_6
                                          try clear hcz128_7
                                          try clear hfz112_0
                                          try clear hfz112_1
                                          try clear hfz112_2
                                          try clear hfz112_3
                                          try clear hfz112_4
                                          try clear hfz112_5
                                          try clear hfz112_6
                                          try clear hfz112_7
                                          try clear hfz121_0
                                          try clear hfz121_1
                                          try clear hfz121_2
                                          try clear hfz121_3
                                          try clear hfz121_4
                                          try clear hfz121_5
                                          try clear hfz121_6
                                          try clear hfz121_7
                                          try clear hfz124_0
                                          try clear hfz124_1
                                          try clear hfz124_2
                                          try clear hfz124_3
                                          try clear hfz124_4
                                          try clear hfz124_5
                                          try clear hfz124_6
                                          try clear hfz124_7
                                          try clear hfz128_0
                                          try clear hfz128_1
                                          try clear hfz128_2
                                          try clear hfz128_3
                                          try clear hfz128_4
                                          try clear hfz128_5
                                          try clear hfz128_6
                                          try clear hfz128_7
                                          try clear hx147_0
                                          try clear hx150_0
                                          try clear p147
                                          try clear p150
                                          try clear q147
                                          try clear q150
                                          obtain ⟨kq, x144_126, rfl, HA, HJ126, BK125, HB⟩ := hcut
                                          cases kq with
                                          | zero => exact absurd HA.out (by simp [jvmcoreref2_encode.j4])
                                          | succ kj126 =>
                                            have H := HA.out
                                            clear HA
                                            simp only [jvmcoreref2_encode.j4] at H
                                            by_cases c130 : x144_126 = true
                                            · subst c130
                                              have H1 : ((jvmcoreref2_bytes.f a0_3 2 false).bind fun bt153 => ((jvmcoreref2_bytes.f a0_4 1 false).bind fun bt155 => (if bt155.2 = true then (if a1.toList = ([102] : List UInt8) then (if bt155.1.size + 1 ≤ 9223372036854775807 then (if x6_2.size + bt153.1.size ≤ 9223372036854775807 then (if (x6_2 ++ bt153.1).size + (bt155.1 ++ (⟨#[0]⟩ : ByteArray)).size ≤ 9223372036854775807 then (if bt153.2 = true then (some ((x6_2 ++ bt153.1) ++ (bt155.1 ++ (⟨#[0]⟩ : ByteArray)), decide (a0_4 > 0))) else (some ((x6_2 ++ bt153.1) ++ (bt155.1 ++ (⟨#[0]⟩ : ByteArray)), false))) else (none)) else (none)) else (none)) else (if x6_2.size + bt153.1.size ≤ 9223372036854775807 then (if (x6_2 ++ bt153.1).size + bt155.1.size ≤ 9223372036854775807 then (if bt153.2 = true then (some ((x6_2 ++ bt153.1) ++ bt155.1, decide (a0_4 > 0))) else (some ((x6_2 ++ bt153.1) ++ bt155.1, false))) else (none)) else (none))) else (if a1.toList = ([102] : List UInt8) then (if bt155.1.size + 1 ≤ 9223372036854775807 then (if x6_2.size + bt153.1.size ≤ 9223372036854775807 then (if (x6_2 ++ bt153.1).size + (bt155.1 ++ (⟨#[0]⟩ : ByteArray)).size ≤ 9223372036854775807 then (if bt153.2 = true then (some ((x6_2 ++ bt153.1) ++ (bt155.1 ++ (⟨#[0]⟩ : ByteArray)), false)) else (some ((x6_2 ++ bt153.1) ++ (bt155.1 ++ (⟨#[0]⟩ : ByteArray)), false))) else (none)) else (none)) else (none)) else (if x6_2.size + bt153.1.size ≤ 9223372036854775807 then (if (x6_2 ++ bt153.1).size + bt155.1.size ≤ 9223372036854775807 then (if bt153.2 = true then (some ((x6_2 ++ bt153.1) ++ bt155.1, false)) else (some ((x6_2 ++ bt153.1) ++ bt155.1, false))) else (none)) else (none)))))) = some (r1, r2) := by rw [if_pos rfl] at H; exact H
                                              clear H
                                              have H := H1
                                              clear H1
                                              replace H := Option.bind_eq_some_iff.mp H
                                              obtain ⟨⟨t153, t154⟩, A1310, H⟩ := H
                                              replace H : ((jvmcoreref2_bytes.f a0_4 1 false).bind fun bt155 => (if bt155.2 = true then (if a1.toList = ([102] : List UInt8) then (if bt155.1.size + 1 ≤ 9223372036854775807 then (if x6_2.size + t153.size ≤ 9223372036854775807 then (if (x6_2 ++ t153).size + (bt155.1 ++ (⟨#[0]⟩ : ByteArray)).size ≤ 9223372036854775807 then (if t154 = true then (some ((x6_2 ++ t153) ++ (bt155.1 ++ (⟨#[0]⟩ : ByteArray)), decide (a0_4 > 0))) else (some ((x6_2 ++ t153) ++ (bt155.1 ++ (⟨#[0]⟩ : ByteArray)), false))) else (none)) else (none)) else (none)) else (if x6_2.size + t153.size ≤ 9223372036854775807 then (if (x6_2 ++ t153).size + bt155.1.size ≤ 9223372036854775807 then (if t154 = true then (some ((x6_2 ++ t153) ++ bt155.1, decide (a0_4 > 0))) else (some ((x6_2 ++ t153) ++ bt155.1, false))) else (none)) else (none))) else (if a1.toList = ([102] : List UInt8) then (if bt155.1.size + 1 ≤ 9223372036854775807 then (if x6_2.size + t153.size ≤ 9223372036854775807 then (if (x6_2 ++ t153).size + (bt155.1 ++ (⟨#[0]⟩ : ByteArray)).size ≤ 9223372036854775807 then (if t154 = true then (some ((x6_2 ++ t153) ++ (bt155.1 ++ (⟨#[0]⟩ : ByteArray)), false)) else (some ((x6_2 ++ t153) ++ (bt155.1 ++ (⟨#[0]⟩ : ByteArray)), false))) else (none)) else (none)) else (none)) else (if x6_2.size + t153.size ≤ 9223372036854775807 then (if (x6_2 ++ t153).size + bt155.1.size ≤ 9223372036854775807 then (if t154 = true then (some ((x6_2 ++ t153) ++ bt155.1, false)) else (some ((x6_2 ++ t153) ++ bt155.1, false))) else (none)) else (none))))) = some (r1, r2) := H
                                              have A131 := Aside0.mk A1310
                                              clear A1310
                                              replace H := Option.bind_eq_some_iff.mp H
                                              obtain ⟨⟨t155, t156⟩, A1320, H⟩ := H
                                              replace H : (if t156 = true then (if a1.toList = ([102] : List UInt8) then (if t155.size + 1 ≤ 9223372036854775807 then (if x6_2.size + t153.size ≤ 9223372036854775807 then (if (x6_2 ++ t153).size + (t155 ++ (⟨#[0]⟩ : ByteArray)).size ≤ 9223372036854775807 then (if t154 = true then (some ((x6_2 ++ t153) ++ (t155 ++ (⟨#[0]⟩ : ByteArray)), decide (a0_4 > 0))) else (some ((x6_2 ++ t153) ++ (t155 ++ (⟨#[0]⟩ : ByteArray)), false))) else (none)) else (none)) else (none)) else (if x6_2.size + t153.size ≤ 9223372036854775807 then (if (x6_2 ++ t153).size + t155.size ≤ 9223372036854775807 then (if t154 = true then (some ((x6_2 ++ t153) ++ t155, decide (a0_4 > 0))) else (some ((x6_2 ++ t153) ++ t155, false))) else (none)) else (none))) else (if a1.toList = ([102] : List UInt8) then (if t155.size + 1 ≤ 9223372036854775807 then (if x6_2.size + t153.size ≤ 9223372036854775807 then (if (x6_2 ++ t153).size + (t155 ++ (⟨#[0]⟩ : ByteArray)).size ≤ 9223372036854775807 then (if t154 = true then (some ((x6_2 ++ t153) ++ (t155 ++ (⟨#[0]⟩ : ByteArray)), false)) else (some ((x6_2 ++ t153) ++ (t155 ++ (⟨#[0]⟩ : ByteArray)), false))) else (none)) else (none)) else (none)) else (if x6_2.size + t153.size ≤ 9223372036854775807 then (if (x6_2 ++ t153).size + t155.size ≤ 9223372036854775807 then (if t154 = true then (some ((x6_2 ++ t153) ++ t155, false)) else (some ((x6_2 ++ t153) ++ t155, false))) else (none)) else (none)))) = some (r1, r2) := H
                                              have A132 := Aside0.mk A1320
                                              clear A1320
                                              by_cases c133 : t156 = true
                                              · subst c133
                                                have H1 : (if a1.toList = ([102] : List UInt8) then (if t155.size + 1 ≤ 9223372036854775807 then (if x6_2.size + t153.size ≤ 9223372036854775807 then (if (x6_2 ++ t153).size + (t155 ++ (⟨#[0]⟩ : ByteArray)).size ≤ 9223372036854775807 then (if t154 = true then (some ((x6_2 ++ t153) ++ (t155 ++ (⟨#[0]⟩ : ByteArray)), decide (a0_4 > 0))) else (some ((x6_2 ++ t153) ++ (t155 ++ (⟨#[0]⟩ : ByteArray)), false))) else (none)) else (none)) else (none)) else (if x6_2.size + t153.size ≤ 9223372036854775807 then (if (x6_2 ++ t153).size + t155.size ≤ 9223372036854775807 then (if t154 = true then (some ((x6_2 ++ t153) ++ t155, decide (a0_4 > 0))) else (some ((x6_2 ++ t153) ++ t155, false))) else (none)) else (none))) = some (r1, r2) := by rw [if_pos rfl] at H; exact H
                                                clear H
                                                have H := H1
                                                clear H1
                                                by_cases c134 : a1.toList = ([102] : List UInt8)
                                                · rw [if_pos c134] at H
                                                  have c134b0 : (a1.toList == ([102] : List UInt8)) = true := beq_iff_eq.mpr c134
                                                  have c134b1 : (a1.toList != ([102] : List UInt8)) = false := bne_eq_false_iff_eq.mpr c134
                                                  clear c134
                                                  by_cases c135 : t155.size + 1 ≤ 9223372036854775807
                                                  · rw [if_pos c135] at H
                                                    have c135b0 := eq_true c135
                                                    have c135b1 : decide (t155.size + 1 ≤ 9223372036854775807) = true := decide_eq_true c135
                                                    try have c135b2 : (9223372036854775807 < t155.size + 1) = False := eq_false (Nat.not_lt.2 c135)
                                                    by_cases c136 : x6_2.size + t153.size ≤ 9223372036854775807
                                                    · rw [if_pos c136] at H
                                                      have c136b0 := eq_true c136
                                                      have c136b1 : decide (x6_2.size + t153.size ≤ 9223372036854775807) = true := decide_eq_true c136
                                                      try have c136b2 : (9223372036854775807 < x6_2.size + t153.size) = False := eq_false (Nat.not_lt.2 c136)
                                                      by_cases c137 : (x6_2 ++ t153).size + (t155 ++ (⟨#[0]⟩ : ByteArray)).size ≤ 9223372036854775807
                                                      · rw [if_pos c137] at H
                                                        have c137b0 := eq_true c137
                                                        have c137b1 : decide ((x6_2 ++ t153).size + (t155 ++ (⟨#[0]⟩ : ByteArray)).size ≤ 9223372036854775807) = true := decide_eq_true c137
                                                        try have c137b2 : (9223372036854775807 < (x6_2 ++ t153).size + (t155 ++ (⟨#[0]⟩ : ByteArray)).size) = False := eq_false (Nat.not_lt.2 c137)
                                                        by_cases c138 : t154 = true
                                                        · subst c138
                                                          have H1 : (some ((x6_2 ++ t153) ++ (t155 ++ (⟨#[0]⟩ : ByteArray)), decide (a0_4 > 0))) = some (r1, r2) := by rw [if_pos rfl] at H; exact H
                                                          clear H
                                                          have H := H1
                                                          clear H1
                                                          simp only [Option.some.injEq, Prod.mk.injEq] at H
                                                          obtain ⟨rfl, rfl⟩ := H
                                                          obtain ⟨hcz139_0, hcz139_1, hcz139_2, hcz139_3, hcz139_4, hcz139_5, hcz139_6, hcz139_7⟩ := box8 BK125.out
                                                          have hfz139_0 := blk_frozen BK125.out 0
                                                          have hfz139_1 := blk_frozen BK125.out 1
                                                          have hfz139_2 := blk_frozen BK125.out 2
                                                          have hfz139_3 := blk_frozen BK125.out 3
                                                          have hfz139_4 := blk_frozen BK125.out 4
                                                          have hfz139_5 := blk_frozen BK125.out 5
                                                          have hfz139_6 := blk_frozen BK125.out 6
                                                          have hfz139_7 := blk_frozen BK125.out 7
                                                          go_wp2_with (first | ((with_reducible refine gate_callee (f := 122) rfl ?_); refine goesL_ (some 150) rfl rfl Try.func122 (by kernel_rfl) rfl #[.int .i64 a0_3, .int .i64 2, .bool false] rfl (by (try simp only [List.map_toArray, List.map_cons, List.map_nil]); first | done | rfl | (simp only [List.length_drop, List.length_take]; rfl)) ?_; (with_reducible refine (jvmcoreref2_bytes.calls a0_3 2 false t153 true _ A131.out).mono ?_); rintro e w140 ⟨rfl, hb⟩; refine ⟨_, rfl, ?_⟩; have n0_ := Aside0.mk (blk_below (g := gb125) (o := .cells #[.int .i64 a0_0, .int .u8 a0_1, .bool a0_2, .int .i64 a0_3, .int .i64 a0_4, .int .i64 a0_5, .slice A0_6 l0_6.length c0_6, .slice A0_7 l0_7.length c0_7] 82 (0, 0)) (by (with_reducible repeat (first | refine blk_drewN ?_ _ | refine blk_drew ?_ | refine blk_alloc ?_ _)); exact BK125.out) hb); have n1_ := Aside0.mk (below_step (by repeat (first | (with_reducible first | exact HB.out | apply below_alloc | apply pw_below_drewN | apply below_drew1 | refine below_set ?_ GE125.out) | exact HB.out)) hb); clear BK125; clear HB; have BK125 := n0_; have HB := n1_; clear n0_ n1_; (try clear hb); (try clear hb2); (try clear hk); (try clear hi); obtain ⟨hcz141_0, hcz141_1, hcz141_2, hcz141_3, hcz141_4, hcz141_5, hcz141_6, hcz141_7⟩ := box8 BK125.out; have hfz141_0 := blk_frozen BK125.out 0; have hfz141_1 := blk_frozen BK125.out 1; have hfz141_2 := blk_frozen BK125.out 2; have hfz141_3 := blk_frozen BK125.out 3; have hfz141_4 := blk_frozen BK125.out 4; have hfz141_5 := blk_frozen BK125.out 5; have hfz141_6 := blk_frozen BK125.out 6; have hfz141_7 := blk_frozen BK125.out 7) | ((with_reducible refine gate_callee (f := 122) rfl ?_); refine goesL_ (some 156) rfl rfl Try.func122 (by kernel_rfl) rfl #[.int .i64 a0_4, .int .i64 1, .bool false] rfl (by (try simp only [List.map_toArray, List.map_cons, List.map_nil]); first | done | rfl | (simp only [List.length_drop, List.length_take]; rfl)) ?_; (with_reducible refine (jvmcoreref2_bytes.calls a0_4 1 false t155 true _ A132.out).mono ?_); rintro e w142 ⟨rfl, hb⟩; refine ⟨_, rfl, ?_⟩; have n0_ := Aside0.mk (blk_below (g := gb125) (o := .cells #[.int .i64 a0_0, .int .u8 a0_1, .bool a0_2, .int .i64 a0_3, .int .i64 a0_4, .int .i64 a0_5, .slice A0_6 l0_6.length c0_6, .slice A0_7 l0_7.length c0_7] 82 (0, 0)) (by (with_reducible repeat (first | refine blk_drewN ?_ _ | refine blk_drew ?_ | refine blk_alloc ?_ _)); exact BK125.out) hb); have n1_ := Aside0.mk (below_step (by repeat (first | (with_reducible first | exact HB.out | apply below_alloc | apply pw_below_drewN | apply below_drew1 | refine below_set ?_ GE125.out) | exact HB.out)) hb); clear BK125; clear HB; have BK125 := n0_; have HB := n1_; clear n0_ n1_; (try clear hb); (try clear hb2); (try clear hk); (try clear hi); obtain ⟨hcz143_0, hcz143_1, hcz143_2, hcz143_3, hcz143_4, hcz143_5, hcz143_6, hcz143_7⟩ := box8 BK125.out; have hfz143_0 := blk_frozen BK125.out 0; have hfz143_1 := blk_frozen BK125.out 1; have hfz143_2 := blk_frozen BK125.out 2; have hfz143_3 := blk_frozen BK125.out 3; have hfz143_4 := blk_frozen BK125.out 4; have hfz143_5 := blk_frozen BK125.out 5; have hfz143_6 := blk_frozen BK125.out 6; have hfz143_7 := blk_frozen BK125.out 7))
                                                          go_ret2
                                                          exact ⟨by first | rfl | (simp [errW_none, errW_some] <;> rfl) | (simp [*, errW_none, errW_some] <;> rfl), by repeat (first | (with_reducible first | exact HB.out | apply below_alloc | apply pw_below_drewN | apply below_drew1 | refine below_set ?_ GE125.out) | exact HB.out)⟩
                                                        · replace c138 := Bool.eq_false_iff.mpr c138
                                                          subst c138
                                                          have H1 : (some ((x6_2 ++ t153) ++ (t155 ++ (⟨#[0]⟩ : ByteArray)), false)) = some (r1, r2) := by rw [if_neg (show ¬ (false = true) by decide)] at H; exact H
                                                          clear H
                                                          have H := H1
                                                          clear H1
                                                          simp only [Option.some.injEq, Prod.mk.injEq] at H
                                                          obtain ⟨rfl, rfl⟩ := H
                                                          obtain ⟨hcz144_0, hcz144_1, hcz144_2, hcz144_3, hcz144_4, hcz144_5, hcz144_6, hcz144_7⟩ := box8 BK125.out
                                                          have hfz144_0 := blk_frozen BK125.out 0
                                                          have hfz144_1 := blk_frozen BK125.out 1
                                                          have hfz144_2 := blk_frozen BK125.out 2
                                                          have hfz144_3 := blk_frozen BK125.out 3
                                                          have hfz144_4 := blk_frozen BK125.out 4
                                                          have hfz144_5 := blk_frozen BK125.out 5
                                                          have hfz144_6 := blk_frozen BK125.out 6
                                                          have hfz144_7 := blk_frozen BK125.out 7
                                                          go_wp2_with (first | ((with_reducible refine gate_callee (f := 122) rfl ?_); refine goesL_ (some 150) rfl rfl Try.func122 (by kernel_rfl) rfl #[.int .i64 a0_3, .int .i64 2, .bool false] rfl (by (try simp only [List.map_toArray, List.map_cons, List.map_nil]); first | done | rfl | (simp only [List.length_drop, List.length_take]; rfl)) ?_; (with_reducible refine (jvmcoreref2_bytes.calls a0_3 2 false t153 false _ A131.out).mono ?_); rintro e w145 ⟨rfl, hb⟩; refine ⟨_, rfl, ?_⟩; have n0_ := Aside0.mk (blk_below (g := gb125) (o := .cells #[.int .i64 a0_0, .int .u8 a0_1, .bool a0_2, .int .i64 a0_3, .int .i64 a0_4, .int .i64 a0_5, .slice A0_6 l0_6.length c0_6, .slice A0_7 l0_7.length c0_7] 82 (0, 0)) (by (with_reducible repeat (first | refine blk_drewN ?_ _ | refine blk_drew ?_ | refine blk_alloc ?_ _)); exact BK125.out) hb); have n1_ := Aside0.mk (below_step (by repeat (first | (with_reducible first | exact HB.out | apply below_alloc | apply pw_below_drewN | apply below_drew1 | refine below_set ?_ GE125.out) | exact HB.out)) hb); clear BK125; clear HB; have BK125 := n0_; have HB := n1_; clear n0_ n1_; (try clear hb); (try clear hb2); (try clear hk); (try clear hi); obtain ⟨hcz146_0, hcz146_1, hcz146_2, hcz146_3, hcz146_4, hcz146_5, hcz146_6, hcz146_7⟩ := box8 BK125.out; have hfz146_0 := blk_frozen BK125.out 0; have hfz146_1 := blk_frozen BK125.out 1; have hfz146_2 := blk_frozen BK125.out 2; have hfz146_3 := blk_frozen BK125.out 3; have hfz146_4 := blk_frozen BK125.out 4; have hfz146_5 := blk_frozen BK125.out 5; have hfz146_6 := blk_frozen BK125.out 6; have hfz146_7 := blk_frozen BK125.out 7) | ((with_reducible refine gate_callee (f := 122) rfl ?_); refine goesL_ (some 156) rfl rfl Try.func122 (by kernel_rfl) rfl #[.int .i64 a0_4, .int .i64 1, .bool false] rfl (by (try simp only [List.map_toArray, List.map_cons, List.map_nil]); first | done | rfl | (simp only [List.length_drop, List.length_take]; rfl)) ?_; (with_reducible refine (jvmcoreref2_bytes.calls a0_4 1 false t155 true _ A132.out).mono ?_); rintro e w147 ⟨rfl, hb⟩; refine ⟨_, rfl, ?_⟩; have n0_ := Aside0.mk (blk_below (g := gb125) (o := .cells #[.int .i64 a0_0, .int .u8 a0_1, .bool a0_2, .int .i64 a0_3, .int .i64 a0_4, .int .i64 a0_5, .slice A0_6 l0_6.length c0_6, .slice A0_7 l0_7.length c0_7] 82 (0, 0)) (by (with_reducible repeat (first | refine blk_drewN ?_ _ | refine blk_drew ?_ | refine blk_alloc ?_ _)); exact BK125.out) hb); have n1_ := Aside0.mk (below_step (by repeat (first | (with_reducible first | exact HB.out | apply below_alloc | apply pw_below_drewN | apply below_drew1 | refine below_set ?_ GE125.out) | exact HB.out)) hb); clear BK125; clear HB; have BK125 := n0_; have HB := n1_; clear n0_ n1_; (try clear hb); (try clear hb2); (try clear hk); (try clear hi); obtain ⟨hcz148_0, hcz148_1, hcz148_2, hcz148_3, hcz148_4, hcz148_5, hcz148_6, hcz148_7⟩ := box8 BK125.out; have hfz148_0 := blk_frozen BK125.out 0; have hfz148_1 := blk_frozen BK125.out 1; have hfz148_2 := blk_frozen BK125.out 2; have hfz148_3 := blk_frozen BK125.out 3; have hfz148_4 := blk_frozen BK125.out 4; have hfz148_5 := blk_frozen BK125.out 5; have hfz148_6 := blk_frozen BK125.out 6; have hfz148_7 := blk_frozen BK125.out 7))
                                                          go_ret2
                                                          exact ⟨by first | rfl | (simp [errW_none, errW_some] <;> rfl) | (simp [*, errW_none, errW_some] <;> rfl), by repeat (first | (with_reducible first | exact HB.out | apply below_alloc | apply pw_below_drewN | apply below_drew1 | refine below_set ?_ GE125.out) | exact HB.out)⟩
                                                      · rw [if_neg c137] at H
                                                        exact absurd H (by simp)
                                                    · rw [if_neg c136] at H
                                                      exact absurd H (by simp)
                                                  · rw [if_neg c135] at H
                                                    exact absurd H (by simp)
                                                · rw [if_neg c134] at H
                                                  have c134b0 : (a1.toList == ([102] : List UInt8)) = false := beq_eq_false_iff_ne.mpr c134
                                                  have c134b1 : (a1.toList != ([102] : List UInt8)) = true := bne_iff_ne.mpr c134
                                                  by_cases c149 : x6_2.size + t153.size ≤ 9223372036854775807
                                                  · rw [if_pos c149] at H
                                                    have c149b0 := eq_true c149
                                                    have c149b1 : decide (x6_2.size + t153.size ≤ 9223372036854775807) = true := decide_eq_true c149
                                                    try have c149b2 : (9223372036854775807 < x6_2.size + t153.size) = False := eq_false (Nat.not_lt.2 c149)
                                                    by_cases c150 : (x6_2 ++ t153).size + t155.size ≤ 9223372036854775807
                                                    · rw [if_pos c150] at H
                                                      have c150b0 := eq_true c150
                                                      have c150b1 : decide ((x6_2 ++ t153).size + t155.size ≤ 9223372036854775807) = true := decide_eq_true c150
                                                      try have c150b2 : (9223372036854775807 < (x6_2 ++ t153).size + t155.size) = False := eq_false (Nat.not_lt.2 c150)
                                                      by_cases c151 : t154 = true
                                                      · subst c151
                                                        have H1 : (some ((x6_2 ++ t153) ++ t155, decide (a0_4 > 0))) = some (r1, r2) := by rw [if_pos rfl] at H; exact H
                                                        clear H
                                                        have H := H1
                                                        clear H1
                                                        simp only [Option.some.injEq, Prod.mk.injEq] at H
                                                        obtain ⟨rfl, rfl⟩ := H
                                                        obtain ⟨hcz152_0, hcz152_1, hcz152_2, hcz152_3, hcz152_4, hcz152_5, hcz152_6, hcz152_7⟩ := box8 BK125.out
                                                        have hfz152_0 := blk_frozen BK125.out 0
                                                        have hfz152_1 := blk_frozen BK125.out 1
                                                        have hfz152_2 := blk_frozen BK125.out 2
                                                        have hfz152_3 := blk_frozen BK125.out 3
                                                        have hfz152_4 := blk_frozen BK125.out 4
                                                        have hfz152_5 := blk_frozen BK125.out 5
                                                        have hfz152_6 := blk_frozen BK125.out 6
                                                        have hfz152_7 := blk_frozen BK125.out 7
                                                        go_wp2_with (first | ((with_reducible refine gate_callee (f := 122) rfl ?_); refine goesL_ (some 150) rfl rfl Try.func122 (by kernel_rfl) rfl #[.int .i64 a0_3, .int .i64 2, .bool false] rfl (by (try simp only [List.map_toArray, List.map_cons, List.map_nil]); first | done | rfl | (simp only [List.length_drop, List.length_take]; rfl)) ?_; (with_reducible refine (jvmcoreref2_bytes.calls a0_3 2 false t153 true _ A131.out).mono ?_); rintro e w153 ⟨rfl, hb⟩; refine ⟨_, rfl, ?_⟩; have n0_ := Aside0.mk (blk_below (g := gb125) (o := .cells #[.int .i64 a0_0, .int .u8 a0_1, .bool a0_2, .int .i64 a0_3, .int .i64 a0_4, .int .i64 a0_5, .slice A0_6 l0_6.length c0_6, .slice A0_7 l0_7.length c0_7] 82 (0, 0)) (by (with_reducible repeat (first | refine blk_drewN ?_ _ | refine blk_drew ?_ | refine blk_alloc ?_ _)); exact BK125.out) hb); have n1_ := Aside0.mk (below_step (by repeat (first | (with_reducible first | exact HB.out | apply below_alloc | apply pw_below_drewN | apply below_drew1 | refine below_set ?_ GE125.out) | exact HB.out)) hb); clear BK125; clear HB; have BK125 := n0_; have HB := n1_; clear n0_ n1_; (try clear hb); (try clear hb2); (try clear hk); (try clear hi); obtain ⟨hcz154_0, hcz154_1, hcz154_2, hcz154_3, hcz154_4, hcz154_5, hcz154_6, hcz154_7⟩ := box8 BK125.out; have hfz154_0 := blk_frozen BK125.out 0; have hfz154_1 := blk_frozen BK125.out 1; have hfz154_2 := blk_frozen BK125.out 2; have hfz154_3 := blk_frozen BK125.out 3; have hfz154_4 := blk_frozen BK125.out 4; have hfz154_5 := blk_frozen BK125.out 5; have hfz154_6 := blk_frozen BK125.out 6; have hfz154_7 := blk_frozen BK125.out 7) | ((with_reducible refine gate_callee (f := 122) rfl ?_); refine goesL_ (some 156) rfl rfl Try.func122 (by kernel_rfl) rfl #[.int .i64 a0_4, .int .i64 1, .bool false] rfl (by (try simp only [List.map_toArray, List.map_cons, List.map_nil]); first | done | rfl | (simp only [List.length_drop, List.length_take]; rfl)) ?_; (with_reducible refine (jvmcoreref2_bytes.calls a0_4 1 false t155 true _ A132.out).mono ?_); rintro e w155 ⟨rfl, hb⟩; refine ⟨_, rfl, ?_⟩; have n0_ := Aside0.mk (blk_below (g := gb125) (o := .cells #[.int .i64 a0_0, .int .u8 a0_1, .bool a0_2, .int .i64 a0_3, .int .i64 a0_4, .int .i64 a0_5, .slice A0_6 l0_6.length c0_6, .slice A0_7 l0_7.length c0_7] 82 (0, 0)) (by (with_reducible repeat (first | refine blk_drewN ?_ _ | refine blk_drew ?_ | refine blk_alloc ?_ _)); exact BK125.out) hb); have n1_ := Aside0.mk (below_step (by repeat (first | (with_reducible first | exact HB.out | apply below_alloc | apply pw_below_drewN | apply below_drew1 | refine below_set ?_ GE125.out) | exact HB.out)) hb); clear BK125; clear HB; have BK125 := n0_; have HB := n1_; clear n0_ n1_; (try clear hb); (try clear hb2); (try clear hk); (try clear hi); obtain ⟨hcz156_0, hcz156_1, hcz156_2, hcz156_3, hcz156_4, hcz156_5, hcz156_6, hcz156_7⟩ := box8 BK125.out; have hfz156_0 := blk_frozen BK125.out 0; have hfz156_1 := blk_frozen BK125.out 1; have hfz156_2 := blk_frozen BK125.out 2; have hfz156_3 := blk_frozen BK125.out 3; have hfz156_4 := blk_frozen BK125.out 4; have hfz156_5 := blk_frozen BK125.out 5; have hfz156_6 := blk_frozen BK125.out 6; have hfz156_7 := blk_frozen BK125.out 7))
                                                        go_ret2
                                                        exact ⟨by first | rfl | (simp [errW_none, errW_some] <;> rfl) | (simp [*, errW_none, errW_some] <;> rfl), by repeat (first | (with_reducible first | exact HB.out | apply below_alloc | apply pw_below_drewN | apply below_drew1 | refine below_set ?_ GE125.out) | exact HB.out)⟩
                                                      · replace c151 := Bool.eq_false_iff.mpr c151
                                                        subst c151
                                                        have H1 : (some ((x6_2 ++ t153) ++ t155, false)) = some (r1, r2) := by rw [if_neg (show ¬ (false = true) by decide)] at H; exact H
                                                        clear H
                                                        have H := H1
                                                        clear H1
                                                        simp only [Option.some.injEq, Prod.mk.injEq] at H
                                                        obtain ⟨rfl, rfl⟩ := H
                                                        obtain ⟨hcz157_0, hcz157_1, hcz157_2, hcz157_3, hcz157_4, hcz157_5, hcz157_6, hcz157_7⟩ := box8 BK125.out
                                                        have hfz157_0 := blk_frozen BK125.out 0
                                                        have hfz157_1 := blk_frozen BK125.out 1
                                                        have hfz157_2 := blk_frozen BK125.out 2
                                                        have hfz157_3 := blk_frozen BK125.out 3
                                                        have hfz157_4 := blk_frozen BK125.out 4
                                                        have hfz157_5 := blk_frozen BK125.out 5
                                                        have hfz157_6 := blk_frozen BK125.out 6
                                                        have hfz157_7 := blk_frozen BK125.out 7
                                                        go_wp2_with (first | ((with_reducible refine gate_callee (f := 122) rfl ?_); refine goesL_ (some 150) rfl rfl Try.func122 (by kernel_rfl) rfl #[.int .i64 a0_3, .int .i64 2, .bool false] rfl (by (try simp only [List.map_toArray, List.map_cons, List.map_nil]); first | done | rfl | (simp only [List.length_drop, List.length_take]; rfl)) ?_; (with_reducible refine (jvmcoreref2_bytes.calls a0_3 2 false t153 false _ A131.out).mono ?_); rintro e w158 ⟨rfl, hb⟩; refine ⟨_, rfl, ?_⟩; have n0_ := Aside0.mk (blk_below (g := gb125) (o := .cells #[.int .i64 a0_0, .int .u8 a0_1, .bool a0_2, .int .i64 a0_3, .int .i64 a0_4, .int .i64 a0_5, .slice A0_6 l0_6.length c0_6, .slice A0_7 l0_7.length c0_7] 82 (0, 0)) (by (with_reducible repeat (first | refine blk_drewN ?_ _ | refine blk_drew ?_ | refine blk_alloc ?_ _)); exact BK125.out) hb); have n1_ := Aside0.mk (below_step (by repeat (first | (with_reducible first | exact HB.out | apply below_alloc | apply pw_below_drewN | apply below_drew1 | refine below_set ?_ GE125.out) | exact HB.out)) hb); clear BK125; clear HB; have BK125 := n0_; have HB := n1_; clear n0_ n1_; (try clear hb); (try clear hb2); (try clear hk); (try clear hi); obtain ⟨hcz159_0, hcz159_1, hcz159_2, hcz159_3, hcz159_4, hcz159_5, hcz159_6, hcz159_7⟩ := box8 BK125.out; have hfz159_0 := blk_frozen BK125.out 0; have hfz159_1 := blk_frozen BK125.out 1; have hfz159_2 := blk_frozen BK125.out 2; have hfz159_3 := blk_frozen BK125.out 3; have hfz159_4 := blk_frozen BK125.out 4; have hfz159_5 := blk_frozen BK125.out 5; have hfz159_6 := blk_frozen BK125.out 6; have hfz159_7 := blk_frozen BK125.out 7) | ((with_reducible refine gate_callee (f := 122) rfl ?_); refine goesL_ (some 156) rfl rfl Try.func122 (by kernel_rfl) rfl #[.int .i64 a0_4, .int .i64 1, .bool false] rfl (by (try simp only [List.map_toArray, List.map_cons, List.map_nil]); first | done | rfl | (simp only [List.length_drop, List.length_take]; rfl)) ?_; (with_reducible refine (jvmcoreref2_bytes.calls a0_4 1 false t155 true _ A132.out).mono ?_); rintro e w160 ⟨rfl, hb⟩; refine ⟨_, rfl, ?_⟩; have n0_ := Aside0.mk (blk_below (g := gb125) (o := .cells #[.int .i64 a0_0, .int .u8 a0_1, .bool a0_2, .int .i64 a0_3, .int .i64 a0_4, .int .i64 a0_5, .slice A0_6 l0_6.length c0_6, .slice A0_7 l0_7.length c0_7] 82 (0, 0)) (by (with_reducible repeat (first | refine blk_drewN ?_ _ | refine blk_drew ?_ | refine blk_alloc ?_ _)); exact BK125.out) hb); have n1_ := Aside0.mk (below_step (by repeat (first | (with_reducible first | exact HB.out | apply below_alloc | apply pw_below_drewN | apply below_drew1 | refine below_set ?_ GE125.out) | exact HB.out)) hb); clear BK125; clear HB; have BK125 := n0_; have HB := n1_; clear n0_ n1_; (try clear hb); (try clear hb2); (try clear hk); (try clear hi); obtain ⟨hcz161_0, hcz161_1, hcz161_2, hcz161_3, hcz161_4, hcz161_5, hcz161_6, hcz161_7⟩ := box8 BK125.out; have hfz161_0 := blk_frozen BK125.out 0; have hfz161_1 := blk_frozen BK125.out 1; have hfz161_2 := blk_frozen BK125.out 2; have hfz161_3 := blk_frozen BK125.out 3; have hfz161_4 := blk_frozen BK125.out 4; have hfz161_5 := blk_frozen BK125.out 5; have hfz161_6 := blk_frozen BK125.out 6; have hfz161_7 := blk_frozen BK125.out 7))
                                                        go_ret2
                                                        exact ⟨by first | rfl | (simp [errW_none, errW_some] <;> rfl) | (simp [*, errW_none, errW_some] <;> rfl), by repeat (first | (with_reducible first | exact HB.out | apply below_alloc | apply pw_below_drewN | apply below_drew1 | refine below_set ?_ GE125.out) | exact HB.out)⟩
                                                    · rw [if_neg c150] at H
                                                      exact absurd H (by simp)
                                                  · rw [if_neg c149] at H
                                                    exact absurd H (by simp)
                                              · replace c133 := Bool.eq_false_iff.mpr c133
                                                subst c133
                                                have H1 : (if a1.toList = ([102] : List UInt8) then (if t155.size + 1 ≤ 9223372036854775807 then (if x6_2.size + t153.size ≤ 9223372036854775807 then (if (x6_2 ++ t153).size + (t155 ++ (⟨#[0]⟩ : ByteArray)).size ≤ 9223372036854775807 then (if t154 = true then (some ((x6_2 ++ t153) ++ (t155 ++ (⟨#[0]⟩ : ByteArray)), false)) else (some ((x6_2 ++ t153) ++ (t155 ++ (⟨#[0]⟩ : ByteArray)), false))) else (none)) else (none)) else (none)) else (if x6_2.size + t153.size ≤ 9223372036854775807 then (if (x6_2 ++ t153).size + t155.size ≤ 9223372036854775807 then (if t154 = true then (some ((x6_2 ++ t153) ++ t155, false)) else (some ((x6_2 ++ t153) ++ t155, false))) else (none)) else (none))) = some (r1, r2) := by rw [if_neg (show ¬ (false = true) by decide)] at H; exact H
                                                clear H
                                                have H := H1
                                                clear H1
                                                by_cases c162 : a1.toList = ([102] : List UInt8)
                                                · rw [if_pos c162] at H
                                                  have c162b0 : (a1.toList == ([102] : List UInt8)) = true := beq_iff_eq.mpr c162
                                                  have c162b1 : (a1.toList != ([102] : List UInt8)) = false := bne_eq_false_iff_eq.mpr c162
                                                  clear c162
                                                  by_cases c163 : t155.size + 1 ≤ 9223372036854775807
                                                  · rw [if_pos c163] at H
                                                    have c163b0 := eq_true c163
                                                    have c163b1 : decide (t155.size + 1 ≤ 9223372036854775807) = true := decide_eq_true c163
                                                    try have c163b2 : (9223372036854775807 < t155.size + 1) = False := eq_false (Nat.not_lt.2 c163)
                                                    by_cases c164 : x6_2.size + t153.size ≤ 9223372036854775807
                                                    · rw [if_pos c164] at H
                                                      have c164b0 := eq_true c164
                                                      have c164b1 : decide (x6_2.size + t153.size ≤ 9223372036854775807) = true := decide_eq_true c164
                                                      try have c164b2 : (9223372036854775807 < x6_2.size + t153.size) = False := eq_false (Nat.not_lt.2 c164)
                                                      by_cases c165 : (x6_2 ++ t153).size + (t155 ++ (⟨#[0]⟩ : ByteArray)).size ≤ 9223372036854775807
                                                      · rw [if_pos c165] at H
                                                        have c165b0 := eq_true c165
                                                        have c165b1 : decide ((x6_2 ++ t153).size + (t155 ++ (⟨#[0]⟩ : ByteArray)).size ≤ 9223372036854775807) = true := decide_eq_true c165
                                                        try have c165b2 : (9223372036854775807 < (x6_2 ++ t153).size + (t155 ++ (⟨#[0]⟩ : ByteArray)).size) = False := eq_false (Nat.not_lt.2 c165)
                                                        by_cases c166 : t154 = true
                                                        · subst c166
                                                          have H1 : (some ((x6_2 ++ t153) ++ (t155 ++ (⟨#[0]⟩ : ByteArray)), false)) = some (r1, r2) := by rw [if_pos rfl] at H; exact H
                                                          clear H
                                                          have H := H1
                                                          clear H1
                                                          simp only [Option.some.injEq, Prod.mk.injEq] at H
                                                          obtain ⟨rfl, rfl⟩ := H
                                                          obtain ⟨hcz167_0, hcz167_1, hcz167_2, hcz167_3, hcz167_4, hcz167_5, hcz167_6, hcz167_7⟩ := box8 BK125.out
                                                          have hfz167_0 := blk_frozen BK125.out 0
                                                          have hfz167_1 := blk_frozen BK125.out 1
                                                          have hfz167_2 := blk_frozen BK125.out 2
                                                          have hfz167_3 := blk_frozen BK125.out 3
                                                          have hfz167_4 := blk_frozen BK125.out 4
                                                          have hfz167_5 := blk_frozen BK125.out 5
                                                          have hfz167_6 := blk_frozen BK125.out 6
                                                          have hfz167_7 := blk_frozen BK125.out 7
                                                          go_wp2_with (first | ((with_reducible refine gate_callee (f := 122) rfl ?_); refine goesL_ (some 150) rfl rfl Try.func122 (by kernel_rfl) rfl #[.int .i64 a0_3, .int .i64 2, .bool false] rfl (by (try simp only [List.map_toArray, List.map_cons, List.map_nil]); first | done | rfl | (simp only [List.length_drop, List.length_take]; rfl)) ?_; (with_reducible refine (jvmcoreref2_bytes.calls a0_3 2 false t153 true _ A131.out).mono ?_); rintro e w168 ⟨rfl, hb⟩; refine ⟨_, rfl, ?_⟩; have n0_ := Aside0.mk (blk_below (g := gb125) (o := .cells #[.int .i64 a0_0, .int .u8 a0_1, .bool a0_2, .int .i64 a0_3, .int .i64 a0_4, .int .i64 a0_5, .slice A0_6 l0_6.length c0_6, .slice A0_7 l0_7.length c0_7] 82 (0, 0)) (by (with_reducible repeat (first | refine blk_drewN ?_ _ | refine blk_drew ?_ | refine blk_alloc ?_ _)); exact BK125.out) hb); have n1_ := Aside0.mk (below_step (by repeat (first | (with_reducible first | exact HB.out | apply below_alloc | apply pw_below_drewN | apply below_drew1 | refine below_set ?_ GE125.out) | exact HB.out)) hb); clear BK125; clear HB; have BK125 := n0_; have HB := n1_; clear n0_ n1_; (try clear hb); (try clear hb2); (try clear hk); (try clear hi); obtain ⟨hcz169_0, hcz169_1, hcz169_2, hcz169_3, hcz169_4, hcz169_5, hcz169_6, hcz169_7⟩ := box8 BK125.out; have hfz169_0 := blk_frozen BK125.out 0; have hfz169_1 := blk_frozen BK125.out 1; have hfz169_2 := blk_frozen BK125.out 2; have hfz169_3 := blk_frozen BK125.out 3; have hfz169_4 := blk_frozen BK125.out 4; have hfz169_5 := blk_frozen BK125.out 5; have hfz169_6 := blk_frozen BK125.out 6; have hfz169_7 := blk_frozen BK125.out 7) | ((with_reducible refine gate_callee (f := 122) rfl ?_); refine goesL_ (some 156) rfl rfl Try.func122 (by kernel_rfl) rfl #[.int .i64 a0_4, .int .i64 1, .bool false] rfl (by (try simp only [List.map_toArray, List.map_cons, List.map_nil]); first | done | rfl | (simp only [List.length_drop, List.length_take]; rfl)) ?_; (with_reducible refine (jvmcoreref2_bytes.calls a0_4 1 false t155 false _ A132.out).mono ?_); rintro e w170 ⟨rfl, hb⟩; refine ⟨_, rfl, ?_⟩; have n0_ := Aside0.mk (blk_below (g := gb125) (o := .cells #[.int .i64 a0_0, .int .u8 a0_1, .bool a0_2, .int .i64 a0_3, .int .i64 a0_4, .int .i64 a0_5, .slice A0_6 l0_6.length c0_6, .slice A0_7 l0_7.length c0_7] 82 (0, 0)) (by (with_reducible repeat (first | refine blk_drewN ?_ _ | refine blk_drew ?_ | refine blk_alloc ?_ _)); exact BK125.out) hb); have n1_ := Aside0.mk (below_step (by repeat (first | (with_reducible first | exact HB.out | apply below_alloc | apply pw_below_drewN | apply below_drew1 | refine below_set ?_ GE125.out) | exact HB.out)) hb); clear BK125; clear HB; have BK125 := n0_; have HB := n1_; clear n0_ n1_; (try clear hb); (try clear hb2); (try clear hk); (try clear hi)))
                                                          go_ret2
                                                          exact ⟨by first | rfl | (simp [errW_none, errW_some] <;> rfl) | (simp [*, errW_none, errW_some] <;> rfl), by repeat (first | (with_reducible first | exact HB.out | apply below_alloc | apply pw_below_drewN | apply below_drew1 | refine below_set ?_ GE125.out) | exact HB.out)⟩
                                                        · replace c166 := Bool.eq_false_iff.mpr c166
                                                          subst c166
                                                          have H1 : (some ((x6_2 ++ t153) ++ (t155 ++ (⟨#[0]⟩ : ByteArray)), false)) = some (r1, r2) := by rw [if_neg (show ¬ (false = true) by decide)] at H; exact H
                                                          clear H
                                                          have H := H1
                                                          clear H1
                                                          simp only [Option.some.injEq, Prod.mk.injEq] at H
                                                          obtain ⟨rfl, rfl⟩ := H
                                                          obtain ⟨hcz171_0, hcz171_1, hcz171_2, hcz171_3, hcz171_4, hcz171_5, hcz171_6, hcz171_7⟩ := box8 BK125.out
                                                          have hfz171_0 := blk_frozen BK125.out 0
                                                          have hfz171_1 := blk_frozen BK125.out 1
                                                          have hfz171_2 := blk_frozen BK125.out 2
                                                          have hfz171_3 := blk_frozen BK125.out 3
                                                          have hfz171_4 := blk_frozen BK125.out 4
                                                          have hfz171_5 := blk_frozen BK125.out 5
                                                          have hfz171_6 := blk_frozen BK125.out 6
                                                          have hfz171_7 := blk_frozen BK125.out 7
                                                          go_wp2_with (first | ((with_reducible refine gate_callee (f := 122) rfl ?_); refine goesL_ (some 150) rfl rfl Try.func122 (by kernel_rfl) rfl #[.int .i64 a0_3, .int .i64 2, .bool false] rfl (by (try simp only [List.map_toArray, List.map_cons, List.map_nil]); first | done | rfl | (simp only [List.length_drop, List.length_take]; rfl)) ?_; (with_reducible refine (jvmcoreref2_bytes.calls a0_3 2 false t153 false _ A131.out).mono ?_); rintro e w172 ⟨rfl, hb⟩; refine ⟨_, rfl, ?_⟩; have n0_ := Aside0.mk (blk_below (g := gb125) (o := .cells #[.int .i64 a0_0, .int .u8 a0_1, .bool a0_2, .int .i64 a0_3, .int .i64 a0_4, .int .i64 a0_5, .slice A0_6 l0_6.length c0_6, .slice A0_7 l0_7.length c0_7] 82 (0, 0)) (by (with_reducible repeat (first | refine blk_drewN ?_ _ | refine blk_drew ?_ | refine blk_alloc ?_ _)); exact BK125.out) hb); have n1_ := Aside0.mk (below_step (by repeat (first | (with_reducible first | exact HB.out | apply below_alloc | apply pw_below_drewN | apply below_drew1 | refine below_set ?_ GE125.out) | exact HB.out)) hb); clear BK125; clear HB; have BK125 := n0_; have HB := n1_; clear n0_ n1_; (try clear hb); (try clear hb2); (try clear hk); (try clear hi); obtain ⟨hcz173_0, hcz173_1, hcz173_2, hcz173_3, hcz173_4, hcz173_5, hcz173_6, hcz173_7⟩ := box8 BK125.out; have hfz173_0 := blk_frozen BK125.out 0; have hfz173_1 := blk_frozen BK125.out 1; have hfz173_2 := blk_frozen BK125.out 2; have hfz173_3 := blk_frozen BK125.out 3; have hfz173_4 := blk_frozen BK125.out 4; have hfz173_5 := blk_frozen BK125.out 5; have hfz173_6 := blk_frozen BK125.out 6; have hfz173_7 := blk_frozen BK125.out 7) | ((with_reducible refine gate_callee (f := 122) rfl ?_); refine goesL_ (some 156) rfl rfl Try.func122 (by kernel_rfl) rfl #[.int .i64 a0_4, .int .i64 1, .bool false] rfl (by (try simp only [List.map_toArray, List.map_cons, List.map_nil]); first | done | rfl | (simp only [List.length_drop, List.length_take]; rfl)) ?_; (with_reducible refine (jvmcoreref2_bytes.calls a0_4 1 false t155 false _ A132.out).mono ?_); rintro e w174 ⟨rfl, hb⟩; refine ⟨_, rfl, ?_⟩; have n0_ := Aside0.mk (blk_below (g := gb125) (o := .cells #[.int .i64 a0_0, .int .u8 a0_1, .bool a0_2, .int .i64 a0_3, .int .i64 a0_4, .int .i64 a0_5, .slice A0_6 l0_6.length c0_6, .slice A0_7 l0_7.length c0_7] 82 (0, 0)) (by (with_reducible repeat (first | refine blk_drewN ?_ _ | refine blk_drew ?_ | refine blk_alloc ?_ _)); exact BK125.out) hb); have n1_ := Aside0.mk (below_step (by repeat (first | (with_reducible first | exact HB.out | apply below_alloc | apply pw_below_drewN | apply below_drew1 | refine below_set ?_ GE125.out) | exact HB.out)) hb); clear BK125; clear HB; have BK125 := n0_; have HB := n1_; clear n0_ n1_; (try clear hb); (try clear hb2); (try clear hk); (try clear hi)))
                                                          go_ret2
                                                          exact ⟨by first | rfl | (simp [errW_none, errW_some] <;> rfl) | (simp [*, errW_none, errW_some] <;> rfl), by repeat (first | (with_reducible first | exact HB.out | apply below_alloc | apply pw_below_drewN | apply below_drew1 | refine below_set ?_ GE125.out) | exact HB.out)⟩
                                                      · rw [if_neg c165] at H
                                                        exact absurd H (by simp)
                                                    · rw [if_neg c164] at H
                                                      exact absurd H (by simp)
                                                  · rw [if_neg c163] at H
                                                    exact absurd H (by simp)
                                                · rw [if_neg c162] at H
                                                  have c162b0 : (a1.toList == ([102] : List UInt8)) = false := beq_eq_false_iff_ne.mpr c162
                                                  have c162b1 : (a1.toList != ([102] : List UInt8)) = true := bne_iff_ne.mpr c162
                                                  by_cases c175 : x6_2.size + t153.size ≤ 9223372036854775807
                                                  · rw [if_pos c175] at H
                                                    have c175b0 := eq_true c175
                                                    have c175b1 : decide (x6_2.size + t153.size ≤ 9223372036854775807) = true := decide_eq_true c175
                                                    try have c175b2 : (9223372036854775807 < x6_2.size + t153.size) = False := eq_false (Nat.not_lt.2 c175)
                                                    by_cases c176 : (x6_2 ++ t153).size + t155.size ≤ 9223372036854775807
                                                    · rw [if_pos c176] at H
                                                      have c176b0 := eq_true c176
                                                      have c176b1 : decide ((x6_2 ++ t153).size + t155.size ≤ 9223372036854775807) = true := decide_eq_true c176
                                                      try have c176b2 : (9223372036854775807 < (x6_2 ++ t153).size + t155.size) = False := eq_false (Nat.not_lt.2 c176)
                                                      by_cases c177 : t154 = true
                                                      · subst c177
                                                        have H1 : (some ((x6_2 ++ t153) ++ t155, false)) = some (r1, r2) := by rw [if_pos rfl] at H; exact H
                                                        clear H
                                                        have H := H1
                                                        clear H1
                                                        simp only [Option.some.injEq, Prod.mk.injEq] at H
                                                        obtain ⟨rfl, rfl⟩ := H
                                                        obtain ⟨hcz178_0, hcz178_1, hcz178_2, hcz178_3, hcz178_4, hcz178_5, hcz178_6, hcz178_7⟩ := box8 BK125.out
                                                        have hfz178_0 := blk_frozen BK125.out 0
                                                        have hfz178_1 := blk_frozen BK125.out 1
                                                        have hfz178_2 := blk_frozen BK125.out 2
                                                        have hfz178_3 := blk_frozen BK125.out 3
                                                        have hfz178_4 := blk_frozen BK125.out 4
                                                        have hfz178_5 := blk_frozen BK125.out 5
                                                        have hfz178_6 := blk_frozen BK125.out 6
                                                        have hfz178_7 := blk_frozen BK125.out 7
                                                        go_wp2_with (first | ((with_reducible refine gate_callee (f := 122) rfl ?_); refine goesL_ (some 150) rfl rfl Try.func122 (by kernel_rfl) rfl #[.int .i64 a0_3, .int .i64 2, .bool false] rfl (by (try simp only [List.map_toArray, List.map_cons, List.map_nil]); first | done | rfl | (simp only [List.length_drop, List.length_take]; rfl)) ?_; (with_reducible refine (jvmcoreref2_bytes.calls a0_3 2 false t153 true _ A131.out).mono ?_); rintro e w179 ⟨rfl, hb⟩; refine ⟨_, rfl, ?_⟩; have n0_ := Aside0.mk (blk_below (g := gb125) (o := .cells #[.int .i64 a0_0, .int .u8 a0_1, .bool a0_2, .int .i64 a0_3, .int .i64 a0_4, .int .i64 a0_5, .slice A0_6 l0_6.length c0_6, .slice A0_7 l0_7.length c0_7] 82 (0, 0)) (by (with_reducible repeat (first | refine blk_drewN ?_ _ | refine blk_drew ?_ | refine blk_alloc ?_ _)); exact BK125.out) hb); have n1_ := Aside0.mk (below_step (by repeat (first | (with_reducible first | exact HB.out | apply below_alloc | apply pw_below_drewN | apply below_drew1 | refine below_set ?_ GE125.out) | exact HB.out)) hb); clear BK125; clear HB; have BK125 := n0_; have HB := n1_; clear n0_ n1_; (try clear hb); (try clear hb2); (try clear hk); (try clear hi); obtain ⟨hcz180_0, hcz180_1, hcz180_2, hcz180_3, hcz180_4, hcz180_5, hcz180_6, hcz180_7⟩ := box8 BK125.out; have hfz180_0 := blk_frozen BK125.out 0; have hfz180_1 := blk_frozen BK125.out 1; have hfz180_2 := blk_frozen BK125.out 2; have hfz180_3 := blk_frozen BK125.out 3; have hfz180_4 := blk_frozen BK125.out 4; have hfz180_5 := blk_frozen BK125.out 5; have hfz180_6 := blk_frozen BK125.out 6; have hfz180_7 := blk_frozen BK125.out 7) | ((with_reducible refine gate_callee (f := 122) rfl ?_); refine goesL_ (some 156) rfl rfl Try.func122 (by kernel_rfl) rfl #[.int .i64 a0_4, .int .i64 1, .bool false] rfl (by (try simp only [List.map_toArray, List.map_cons, List.map_nil]); first | done | rfl | (simp only [List.length_drop, List.length_take]; rfl)) ?_; (with_reducible refine (jvmcoreref2_bytes.calls a0_4 1 false t155 false _ A132.out).mono ?_); rintro e w181 ⟨rfl, hb⟩; refine ⟨_, rfl, ?_⟩; have n0_ := Aside0.mk (blk_below (g := gb125) (o := .cells #[.int .i64 a0_0, .int .u8 a0_1, .bool a0_2, .int .i64 a0_3, .int .i64 a0_4, .int .i64 a0_5, .slice A0_6 l0_6.length c0_6, .slice A0_7 l0_7.length c0_7] 82 (0, 0)) (by (with_reducible repeat (first | refine blk_drewN ?_ _ | refine blk_drew ?_ | refine blk_alloc ?_ _)); exact BK125.out) hb); have n1_ := Aside0.mk (below_step (by repeat (first | (with_reducible first | exact HB.out | apply below_alloc | apply pw_below_drewN | apply below_drew1 | refine below_set ?_ GE125.out) | exact HB.out)) hb); clear BK125; clear HB; have BK125 := n0_; have HB := n1_; clear n0_ n1_; (try clear hb); (try clear hb2); (try clear hk); (try clear hi)))
                                                        go_ret2
                                                        exact ⟨by first | rfl | (simp [errW_none, errW_some] <;> rfl) | (simp [*, errW_none, errW_some] <;> rfl), by repeat (first | (with_reducible first | exact HB.out | apply below_alloc | apply pw_below_drewN | apply below_drew1 | refine below_set ?_ GE125.out) | exact HB.out)⟩
                                                      · replace c177 := Bool.eq_false_iff.mpr c177
                                                        subst c177
                                                        have H1 : (some ((x6_2 ++ t153) ++ t155, false)) = some (r1, r2) := by rw [if_neg (show ¬ (false = true) by decide)] at H; exact H
                                                        clear H
                                                        have H := H1
                                                        clear H1
                                                        simp only [Option.some.injEq, Prod.mk.injEq] at H
                                                        obtain ⟨rfl, rfl⟩ := H
                                                        obtain ⟨hcz182_0, hcz182_1, hcz182_2, hcz182_3, hcz182_4, hcz182_5, hcz182_6, hcz182_7⟩ := box8 BK125.out
                                                        have hfz182_0 := blk_frozen BK125.out 0
                                                        have hfz182_1 := blk_frozen BK125.out 1
                                                        have hfz182_2 := blk_frozen BK125.out 2
                                                        have hfz182_3 := blk_frozen BK125.out 3
                                                        have hfz182_4 := blk_frozen BK125.out 4
                                                        have hfz182_5 := blk_frozen BK125.out 5
                                                        have hfz182_6 := blk_frozen BK125.out 6
                                                        have hfz182_7 := blk_frozen BK125.out 7
                                                        go_wp2_with (first | ((with_reducible refine gate_callee (f := 122) rfl ?_); refine goesL_ (some 150) rfl rfl Try.func122 (by kernel_rfl) rfl #[.int .i64 a0_3, .int .i64 2, .bool false] rfl (by (try simp only [List.map_toArray, List.map_cons, List.map_nil]); first | done | rfl | (simp only [List.length_drop, List.length_take]; rfl)) ?_; (with_reducible refine (jvmcoreref2_bytes.calls a0_3 2 false t153 false _ A131.out).mono ?_); rintro e w183 ⟨rfl, hb⟩; refine ⟨_, rfl, ?_⟩; have n0_ := Aside0.mk (blk_below (g := gb125) (o := .cells #[.int .i64 a0_0, .int .u8 a0_1, .bool a0_2, .int .i64 a0_3, .int .i64 a0_4, .int .i64 a0_5, .slice A0_6 l0_6.length c0_6, .slice A0_7 l0_7.length c0_7] 82 (0, 0)) (by (with_reducible repeat (first | refine blk_drewN ?_ _ | refine blk_drew ?_ | refine blk_alloc ?_ _)); exact BK125.out) hb); have n1_ := Aside0.mk (below_step (by repeat (first | (with_reducible first | exact HB.out | apply below_alloc | apply pw_below_drewN | apply below_drew1 | refine below_set ?_ GE125.out) | exact HB.out)) hb); clear BK125; clear HB; have BK125 := n0_; have HB := n1_; clear n0_ n1_; (try clear hb); (try clear hb2); (try clear hk); (try clear hi); obtain ⟨hcz184_0, hcz184_1, hcz184_2, hcz184_3, hcz184_4, hcz184_5, hcz184_6, hcz184_7⟩ := box8 BK125.out; have hfz184_0 := blk_frozen BK125.out 0; have hfz184_1 := blk_frozen BK125.out 1; have hfz184_2 := blk_frozen BK125.out 2; have hfz184_3 := blk_frozen BK125.out 3; have hfz184_4 := blk_frozen BK125.out 4; have hfz184_5 := blk_frozen BK125.out 5; have hfz184_6 := blk_frozen BK125.out 6; have hfz184_7 := blk_frozen BK125.out 7) | ((with_reducible refine gate_callee (f := 122) rfl ?_); refine goesL_ (some 156) rfl rfl Try.func122 (by kernel_rfl) rfl #[.int .i64 a0_4, .int .i64 1, .bool false] rfl (by (try simp only [List.map_toArray, List.map_cons, List.map_nil]); first | done | rfl | (simp only [List.length_drop, List.length_take]; rfl)) ?_; (with_reducible refine (jvmcoreref2_bytes.calls a0_4 1 false t155 false _ A132.out).mono ?_); rintro e w185 ⟨rfl, hb⟩; refine ⟨_, rfl, ?_⟩; have n0_ := Aside0.mk (blk_below (g := gb125) (o := .cells #[.int .i64 a0_0, .int .u8 a0_1, .bool a0_2, .int .i64 a0_3, .int .i64 a0_4, .int .i64 a0_5, .slice A0_6 l0_6.length c0_6, .slice A0_7 l0_7.length c0_7] 82 (0, 0)) (by (with_reducible repeat (first | refine blk_drewN ?_ _ | refine blk_drew ?_ | refine blk_alloc ?_ _)); exact BK125.out) hb); have n1_ := Aside0.mk (below_step (by repeat (first | (with_reducible first | exact HB.out | apply below_alloc | apply pw_below_drewN | apply below_drew1 | refine below_set ?_ GE125.out) | exact HB.out)) hb); clear BK125; clear HB; have BK125 := n0_; have HB := n1_; clear n0_ n1_; (try clear hb); (try clear hb2); (try clear hk); (try clear hi)))
                                                        go_ret2
                                                        exact ⟨by first | rfl | (simp [errW_none, errW_some] <;> rfl) | (simp [*, errW_none, errW_some] <;> rfl), by repeat (first | (with_reducible first | exact HB.out | apply below_alloc | apply pw_below_drewN | apply below_drew1 | refine below_set ?_ GE125.out) | exact HB.out)⟩
                                                    · rw [if_neg c176] at H
                                                      exact absurd H (by simp)
                                                  · rw [if_neg c175] at H
                                                    exact absurd H (by simp)
                                            · replace c130 := Bool.eq_false_iff.mpr c130
                                              subst c130
                                              have H1 : (if x6_2.size + (⟨#[]⟩ : ByteArray).size ≤ 9223372036854775807 then (if (x6_2 ++ (⟨#[]⟩ : ByteArray)).size + (⟨#[]⟩ : ByteArray).size ≤ 9223372036854775807 then (if true = true then (some ((x6_2 ++ (⟨#[]⟩ : ByteArray)) ++ (⟨#[]⟩ : ByteArray), true)) else (some ((x6_2 ++ (⟨#[]⟩ : ByteArray)) ++ (⟨#[]⟩ : ByteArray), false))) else (none)) else (none)) = some (r1, r2) := by rw [if_neg (show ¬ (false = true) by decide)] at H; exact H
                                              clear H
                                              have H := H1
                                              clear H1
                                              by_cases c186 : x6_2.size + (⟨#[]⟩ : ByteArray).size ≤ 9223372036854775807
                                              · rw [if_pos c186] at H
                                                have c186b0 := eq_true c186
                                                have c186b1 : decide (x6_2.size + (⟨#[]⟩ : ByteArray).size ≤ 9223372036854775807) = true := decide_eq_true c186
                                                try have c186b2 : (9223372036854775807 < x6_2.size + (⟨#[]⟩ : ByteArray).size) = False := eq_false (Nat.not_lt.2 c186)
                                                by_cases c187 : (x6_2 ++ (⟨#[]⟩ : ByteArray)).size + (⟨#[]⟩ : ByteArray).size ≤ 9223372036854775807
                                                · rw [if_pos c187] at H
                                                  have c187b0 := eq_true c187
                                                  have c187b1 : decide ((x6_2 ++ (⟨#[]⟩ : ByteArray)).size + (⟨#[]⟩ : ByteArray).size ≤ 9223372036854775807) = true := decide_eq_true c187
                                                  try have c187b2 : (9223372036854775807 < (x6_2 ++ (⟨#[]⟩ : ByteArray)).size + (⟨#[]⟩ : ByteArray).size) = False := eq_false (Nat.not_lt.2 c187)
                                                  by_cases c188 : true = true
                                                  · clear c188
                                                    have H1 : (some ((x6_2 ++ (⟨#[]⟩ : ByteArray)) ++ (⟨#[]⟩ : ByteArray), true)) = some (r1, r2) := by rw [if_pos rfl] at H; exact H
                                                    clear H
                                                    have H := H1
                                                    clear H1
                                                    simp only [Option.some.injEq, Prod.mk.injEq] at H
                                                    obtain ⟨rfl, rfl⟩ := H
                                                    go_wp2
                                                    go_ret2
                                                    exact ⟨by first | rfl | (simp [errW_none, errW_some] <;> rfl) | (simp [*, errW_none, errW_some] <;> rfl), by repeat (first | (with_reducible first | exact HB.out | apply below_alloc | apply pw_below_drewN | apply below_drew1 | refine below_set ?_ GE125.out) | exact HB.out)⟩
                                                  · exact absurd rfl c188
                                                · rw [if_neg c187] at H
                                                  exact absurd H (by simp)
                                              · rw [if_neg c186] at H
                                                exact absurd H (by simp)
                    · rw [if_neg c22] at H
                      have c22b0 : ((l0_7.length : Int) == x8_19) = false := beq_eq_false_iff_ne.mpr c22
                      have c22b1 : ((l0_7.length : Int) != x8_19) = true := bne_iff_ne.mpr c22
                      simp only [Option.some.injEq, Prod.mk.injEq] at H
                      obtain ⟨rfl, rfl⟩ := H
                      obtain ⟨hcz189_0, hcz189_1, hcz189_2, hcz189_3, hcz189_4, hcz189_5, hcz189_6, hcz189_7⟩ := box8 BK125.out
                      have hfz189_0 := blk_frozen BK125.out 0
                      have hfz189_1 := blk_frozen BK125.out 1
                      have hfz189_2 := blk_frozen BK125.out 2
                      have hfz189_3 := blk_frozen BK125.out 3
                      have hfz189_4 := blk_frozen BK125.out 4
                      have hfz189_5 := blk_frozen BK125.out 5
                      have hfz189_6 := blk_frozen BK125.out 6
                      have hfz189_7 := blk_frozen BK125.out 7
                      go_wp2
                      go_ret2
                      exact ⟨by first | rfl | (simp [errW_none, errW_some] <;> rfl) | (simp [*, errW_none, errW_some] <;> rfl), by repeat (first | (with_reducible first | exact HB.out | apply below_alloc | apply pw_below_drewN | apply below_drew1 | refine below_set ?_ GE125.out) | exact HB.out)⟩
end Go.Proofs.Ytfnjbmpolggdeaa.CW
end
