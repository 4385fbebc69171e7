/-
  PoolReads answers true for every string: the program's reading and the document's give the same.
-/
import Derived.Test.YtfnjbmpolggdeaaPRx20
import Derived.Test.YtfnjbmpolggdeaaPRGSame
import Derived.Test.YtfnjbmpolggdeaaRounds
namespace Go.Proofs.Ytfnjbmpolggdeaa.Pure
open Go.RowKit Go.Proofs.Ytfnjbmpolggdeaa.PR Go.Proofs.YtfnjbmpolggdeaaW.PrintWords Go.Proofs.YtfnjbmpolggdeaaW.PrintLast
theorem PoolReads : jvmcorelaw1_PoolReads.Pure := by
  intro s hs
  refine ⟨(Ytfnjbmpolggdeaa.readS s).1.length + 1, ?_⟩
  unfold jvmcorelaw1_PoolReads.f
  by_cases hbig : (s.size : Int) > 32768
  · rw [if_pos hbig]
  · rw [if_neg hbig]
    have hr := readI_eq (s := s) (by omega)
    have hl := Ytfnjbmpolggdeaa.readS_len s
    unfold pool_Read.f jvmcoreref1_Read.f
    rw [hr]
    simp only [Option.bind_some]
    have hsame := same_self ((Ytfnjbmpolggdeaa.readS s).1.map toS) (by rw [List.length_map]; omega)
    rw [List.length_map] at hsame
    rw [hsame]
    simp
end Go.Proofs.Ytfnjbmpolggdeaa.Pure
