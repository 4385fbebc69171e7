/-
  DescNames answers true for every string.
-/
import Derived.Test.YtfnjbmpolggdeaaDoorDRGMember
namespace Go.Proofs.YtfnjbmpolggdeaaDoor.Pure
open Go.RowKit Go.Proofs.YtfnjbmpolggdeaaDoor.DR Go.Proofs.YtfnjbmpolggdeaaDoorW.PrintWords
theorem DescNames : jvmcorelaw1_DescNames.Pure := by
  intro s m hs
  by_cases hbig : (s.size : Int) > 32768
  · exact ⟨0, by unfold jvmcorelaw1_DescNames.f; exact if_pos hbig⟩
  · obtain ⟨k1, h1⟩ := member_ev s (by omega) m
    obtain ⟨k2, h2⟩ := ref_member_ev s (by omega) m
    obtain ⟨k3, h3⟩ := class_ev s (by omega)
    obtain ⟨k4, h4⟩ := ref_class_ev s (by omega)
    refine ⟨k1 + k2 + k3 + k4, ?_⟩
    have a1 : desc_Member.f (k1 + k2 + k3 + k4) s m = _ := h1 (k1 + k2 + k3 + k4) (by omega)
    have a2 : jvmcoreref1_Member.f (k1 + k2 + k3 + k4) s m = _ := h2 (k1 + k2 + k3 + k4) (by omega)
    have a3 : desc_Class.f (k1 + k2 + k3 + k4) s = _ := h3 (k1 + k2 + k3 + k4) (by omega)
    have a4 : jvmcoreref1_Class.f (k1 + k2 + k3 + k4) s = _ := h4 (k1 + k2 + k3 + k4) (by omega)
    unfold jvmcorelaw1_DescNames.f
    refine (if_neg hbig).trans ?_
    rw [a1, a2]
    simp only [Option.bind_some]
    rw [if_pos trivial, a3, a4]
    simp
end Go.Proofs.YtfnjbmpolggdeaaDoor.Pure
