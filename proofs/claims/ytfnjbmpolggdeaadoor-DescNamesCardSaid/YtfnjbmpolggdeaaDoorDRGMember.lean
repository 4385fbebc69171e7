/-
  The members' names and the slots of both sides.
-/
import Derived.Test.YtfnjbmpolggdeaaDoorDRGOne
namespace Go.Proofs.YtfnjbmpolggdeaaDoor.DR
open Go.RowKit Go.Proofs.YtfnjbmpolggdeaaDoorW.PrintWords
set_option linter.unusedVariables false
set_option linter.unusedSimpArgs false
set_option maxRecDepth 10000

def initL : List UInt8 := [60, 105, 110, 105, 116, 62]
def clinitL : List UInt8 := [60, 99, 108, 105, 110, 105, 116, 62]
def restL (l : List UInt8) (m : Bool) : Int := if partL l = true then (if m = true then (if hasB l [60, 62] = true then 0 else 1) else 1) else 0
def memberL (l : List UInt8) (m : Bool) : Int := if m = true then (if l = initL then 2 else if l = clinitL then 3 else restL l true) else restL l false
theorem desc_j1 (s : ByteArray) (hs : s.size < 4294967281) (m : Bool) : Ev (fun k => desc_Member.j1 k s m false) (restL (L s) m) := by
  refine Ev.step (f := fun _ => some (restL (L s) m)) (fun k => ?_) (Ev.now _)
  simp only [desc_Member.j1]
  rw [if_neg (by simp), part_eq hs, any_eq ⟨#[60, 62]⟩ hs (by decide)]
  unfold restL
  cases partL (L s) with
  | false => rfl
  | true =>
    cases m with
    | false => rfl
    | true =>
      show (if hasB (L s) [60, 62] = true then some (0 : Int) else some 1) = some (if hasB (L s) [60, 62] = true then 0 else 1)
      split <;> rfl
theorem nots (l c : List UInt8) : (l.all fun b => !c.contains b) = !hasB l c := by
  unfold hasB
  rw [Bool.eq_iff_iff]
  simp [List.any_eq_true, List.all_eq_true]
theorem ref_j1 (s : ByteArray) (hs : s.size < 4294967281) (m : Bool) : Ev (fun k => jvmcoreref1_Member.j1 k s m false) (restL (L s) m) := by
  refine Ev.step (f := fun _ => some (restL (L s) m)) (fun k => ?_) (Ev.now _)
  simp only [jvmcoreref1_Member.j1]
  rw [if_neg (by simp), without_eq ⟨#[46, 59, 91, 47]⟩ (by omega) (by decide), without_eq ⟨#[60, 62]⟩ (by omega) (by decide), nots, nots]
  have e : (!hasB (L s) (L ⟨#[46, 59, 91, 47]⟩) && !(L s).isEmpty) = partL (L s) := by unfold partL; rw [Bool.and_comm]
  rw [e]
  unfold restL
  cases hp : partL (L s) with
  | false => rfl
  | true =>
    cases m with
    | false => rfl
    | true =>
      have he : (L s).isEmpty = false := by
        unfold partL at hp
        cases h : (L s).isEmpty with
        | false => rfl
        | true => rw [h] at hp; simp at hp
      rw [he, Bool.not_false, Bool.and_true]
      show (if (!hasB (L s) [60, 62]) = true then some (1 : Int) else some 0) = some (if hasB (L s) [60, 62] = true then 0 else 1)
      cases hasB (L s) [60, 62] <;> rfl
theorem member_ev (s : ByteArray) (hs : s.size < 4294967281) (m : Bool) : Ev (fun k => desc_Member.f k s m) (memberL (L s) m) := by
  have h1 := desc_j1 s hs m
  cases m with
  | false =>
    refine Ev.congr (f := fun k => desc_Member.j0 k s false false) (fun k => ?_) (Ev.step (fun k => ?_) h1)
    · unfold desc_Member.f; exact if_neg (by simp)
    · simp only [desc_Member.j0]; rw [if_neg (by simp), if_neg (by simp)]
  | true =>
    by_cases hi : L s = initL
    · rw [show memberL (L s) true = 2 by unfold memberL; rw [if_pos rfl, if_pos hi]]
      refine Ev.congr (f := fun k => desc_Member.j0 k s true true) (fun k => ?_) (Ev.step (f := fun _ => some 2) (fun k => ?_) (Ev.now _))
      · unfold desc_Member.f; rw [if_pos rfl, L_to, hi]; rfl
      · simp only [desc_Member.j0]; rw [if_pos trivial]
    · have hif : (L s == ([60, 105, 110, 105, 116, 62] : List UInt8)) = false := beq_eq_false_iff_ne.2 hi
      have hf : ∀ k, desc_Member.f k s true = desc_Member.j0 k s true false := fun k => by
        unfold desc_Member.f; rw [if_pos rfl, L_to, hif]
      refine Ev.congr hf ?_
      by_cases hc : L s = clinitL
      · rw [show memberL (L s) true = 3 by unfold memberL; rw [if_pos rfl, if_neg hi, if_pos hc]]
        refine Ev.step (f := fun k => desc_Member.j1 k s true true) (fun k => ?_) (Ev.step (f := fun _ => some 3) (fun k => ?_) (Ev.now _))
        · simp only [desc_Member.j0]; rw [if_neg (by simp), if_pos trivial, L_to, hc]; rfl
        · simp only [desc_Member.j1]; rw [if_pos trivial]
      · have hcf : (L s == ([60, 99, 108, 105, 110, 105, 116, 62] : List UInt8)) = false := beq_eq_false_iff_ne.2 hc
        rw [show memberL (L s) true = restL (L s) true by unfold memberL; rw [if_pos rfl, if_neg hi, if_neg hc]]
        refine Ev.step (fun k => ?_) h1
        simp only [desc_Member.j0]; rw [if_neg (by simp), if_pos trivial, L_to, hcf]
theorem ref_member_ev (s : ByteArray) (hs : s.size < 4294967281) (m : Bool) : Ev (fun k => jvmcoreref1_Member.f k s m) (memberL (L s) m) := by
  have h1 := ref_j1 s hs m
  cases m with
  | false =>
    refine Ev.congr (f := fun k => jvmcoreref1_Member.j0 k s false false) (fun k => ?_) (Ev.step (fun k => ?_) h1)
    · unfold jvmcoreref1_Member.f; exact if_neg (by simp)
    · simp only [jvmcoreref1_Member.j0]; rw [if_neg (by simp), if_neg (by simp)]
  | true =>
    by_cases hi : L s = initL
    · rw [show memberL (L s) true = 2 by unfold memberL; rw [if_pos rfl, if_pos hi]]
      refine Ev.congr (f := fun k => jvmcoreref1_Member.j0 k s true true) (fun k => ?_) (Ev.step (f := fun _ => some 2) (fun k => ?_) (Ev.now _))
      · unfold jvmcoreref1_Member.f; rw [if_pos rfl, L_to, hi]; rfl
      · simp only [jvmcoreref1_Member.j0]; rw [if_pos trivial]
    · have hif : (L s == ([60, 105, 110, 105, 116, 62] : List UInt8)) = false := beq_eq_false_iff_ne.2 hi
      have hf : ∀ k, jvmcoreref1_Member.f k s true = jvmcoreref1_Member.j0 k s true false := fun k => by
        unfold jvmcoreref1_Member.f; rw [if_pos rfl, L_to, hif]
      refine Ev.congr hf ?_
      by_cases hc : L s = clinitL
      · rw [show memberL (L s) true = 3 by unfold memberL; rw [if_pos rfl, if_neg hi, if_pos hc]]
        refine Ev.step (f := fun k => jvmcoreref1_Member.j1 k s true true) (fun k => ?_) (Ev.step (f := fun _ => some 3) (fun k => ?_) (Ev.now _))
        · simp only [jvmcoreref1_Member.j0]; rw [if_neg (by simp), if_pos trivial, L_to, hc]; rfl
        · simp only [jvmcoreref1_Member.j1]; rw [if_pos trivial]
      · have hcf : (L s == ([60, 99, 108, 105, 110, 105, 116, 62] : List UInt8)) = false := beq_eq_false_iff_ne.2 hc
        rw [show memberL (L s) true = restL (L s) true by unfold memberL; rw [if_pos rfl, if_neg hi, if_neg hc]]
        refine Ev.step (fun k => ?_) h1
        simp only [jvmcoreref1_Member.j0]; rw [if_neg (by simp), if_pos trivial, L_to, hcf]
end Go.Proofs.YtfnjbmpolggdeaaDoor.DR
