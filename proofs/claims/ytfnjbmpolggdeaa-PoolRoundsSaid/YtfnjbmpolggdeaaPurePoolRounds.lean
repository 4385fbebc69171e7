/-
  PoolRounds answers true for every string: what is read as a pool is written as it was, and read again.
-/
import Derived.Test.YtfnjbmpolggdeaaPRx24
import Derived.Test.YtfnjbmpolggdeaaPRGSame
import Derived.Test.YtfnjbmpolggdeaaPRGRead
import Derived.Test.YtfnjbmpolggdeaaPRGWrite
import Derived.Test.YtfnjbmpolggdeaaRounds
namespace Go.Proofs.Ytfnjbmpolggdeaa.Pure
open Go.RowKit Go.Proofs.Ytfnjbmpolggdeaa.PR Go.Proofs.YtfnjbmpolggdeaaW.PrintWords Go.Proofs.YtfnjbmpolggdeaaW.PrintLast
theorem readS_lit : Ytfnjbmpolggdeaa.readS ⟨#[0, 2, 1, 0, 1, 97]⟩ = ([Ytfnjbmpolggdeaa.K0, ⟨1, ⟨#[97]⟩, 0, 0, 0⟩], 6, 0, 0) := by
  have hz : (⟨#[0, 2, 1, 0, 1, 97]⟩ : ByteArray).size = 6 := rfl
  have hn : Ytfnjbmpolggdeaa.numE ⟨#[0, 2, 1, 0, 1, 97]⟩ 0 2 = 2 := by decide +kernel
  have ho : Ytfnjbmpolggdeaa.oneR ⟨#[0, 2, 1, 0, 1, 97]⟩ 2 = .ok (⟨1, ⟨#[97]⟩, 0, 0, 0⟩, 6) := by
    have h0 : Ytfnjbmpolggdeaa.bAt ⟨#[0, 2, 1, 0, 1, 97]⟩ 2 = 1 := by decide +kernel
    have h1 : Ytfnjbmpolggdeaa.numE ⟨#[0, 2, 1, 0, 1, 97]⟩ 3 2 = 1 := by decide +kernel
    have h2 : (⟨#[0, 2, 1, 0, 1, 97]⟩ : ByteArray).extract 5 6 = ⟨#[97]⟩ := by rfl
    have h3 : Ytfnjbmpolggdeaa.bs ⟨#[97]⟩ = [97] := by rfl
    have h4 : (Ytfnjbmpolggdeaa.units [97]).isSome = true := by
      rw [Ytfnjbmpolggdeaa.units_A (by decide)]; rfl
    unfold Ytfnjbmpolggdeaa.oneR
    rw [hz, h0, Ytfnjbmpolggdeaa.sizeN_1 (.inl rfl), if_neg (by decide), if_neg (by decide), if_neg (by decide), if_pos rfl, h1, if_neg (by decide), h2, h3, if_pos h4]
  rw [Ytfnjbmpolggdeaa.readS_some (by rw [hz]; decide) (by rw [hn]; decide), hn, Ytfnjbmpolggdeaa.poolL_ok (by decide) (by rw [hz]; decide) ho rfl, Ytfnjbmpolggdeaa.poolL_end (by decide)]
  rfl
theorem works : jvmcorelaw1_poolWorks.f = some true := by
  unfold jvmcorelaw1_poolWorks.f pool_Read.f
  rw [readI_eq (by decide), readS_lit]
  decide +kernel

theorem PoolRounds : jvmcorelaw1_PoolRounds.Pure := by
  intro s hs
  refine ⟨(Ytfnjbmpolggdeaa.readS s).1.length + 1, ?_⟩
  unfold jvmcorelaw1_PoolRounds.f
  by_cases hbig : (s.size : Int) > 32768
  · rw [if_pos hbig]
  · rw [if_neg hbig, works]
    simp only [Option.bind_some, if_true]
    have hs2 : s.size ≤ 1099511627776 := by omega
    unfold pool_Read.f
    rw [readI_eq hs2]
    simp only [Option.bind_some]
    by_cases he : (Ytfnjbmpolggdeaa.readS s).2.2.1 = 0
    · cases hrd : Ytfnjbmpolggdeaa.readS s with
      | mk l r =>
      obtain ⟨q, e, x⟩ := r
      rw [hrd] at he
      simp only [] at he
      subst he
      obtain ⟨rfl, hq, hok, hlen, hw, hag⟩ := Ytfnjbmpolggdeaa.readS_round hs2 hrd
      rw [if_pos (by simp)]
      have hW : pool_Write.f (l.map toS) = some (s.extract 0 q, 0, 0) := by
        unfold pool_Write.f
        have hm : (l.map toS).map ofS = l := by
          rw [List.map_map]; exact (List.map_congr_left (fun c _ => ofS_toS c)).trans (List.map_id _)
        rw [if_pos (fun c hc => by obtain ⟨d, hd, rfl⟩ := List.mem_map.1 hc; exact okC_toS (hok d hd)), hm, hw]
        rfl
      have hz : (s.extract 0 q).size = q := by rw [ByteArray.size_extract]; omega
      simp only [hW, Option.bind_some]
      rw [if_pos (by rw [hz]; omega)]
      have hmz : (s.extract 0 q ++ (⟨#[109, 111, 114, 101]⟩ : ByteArray)).size = q + 4 := by rw [ByteArray.size_append, hz]; rfl
      have hbm : Ytfnjbmpolggdeaa.bs (s.extract 0 q ++ (⟨#[109, 111, 114, 101]⟩ : ByteArray)) = (Ytfnjbmpolggdeaa.bs s).take q ++ Ytfnjbmpolggdeaa.bs (⟨#[109, 111, 114, 101]⟩ : ByteArray) := by
        have : Ytfnjbmpolggdeaa.bs (s.extract 0 q) = (Ytfnjbmpolggdeaa.bs s).take q := by rw [Ytfnjbmpolggdeaa.bs_extract, List.drop_zero, Nat.sub_zero]
        rw [← this]; simp [Ytfnjbmpolggdeaa.bs]
      have hag2 : Ytfnjbmpolggdeaa.agree s (s.extract 0 q ++ (⟨#[109, 111, 114, 101]⟩ : ByteArray)) q := by
        refine ⟨hq, by omega, ?_⟩
        rw [hbm]
        have hl : ((Ytfnjbmpolggdeaa.bs s).take q).length = q := by rw [List.length_take, Ytfnjbmpolggdeaa.bs_length]; omega
        rw [List.take_append_of_le_length (by omega), List.take_take, Nat.min_self]
      rw [readI_eq (by omega), hag _ hag2]
      simp only [Option.bind_some]
      rw [if_pos (by simp), if_pos (by simp), if_pos (by omega), if_pos (by omega), if_pos (by simp), if_pos (by simp)]
      have hsame := same_self (l.map toS) (by rw [List.length_map]; omega)
      rw [List.length_map] at hsame
      rw [hsame]
      rfl
    · obtain ⟨h1, h2⟩ := Ytfnjbmpolggdeaa.readS_err he
      rw [if_neg (by omega), if_pos (by rw [h2]; rfl), h1]
      rfl
end Go.Proofs.Ytfnjbmpolggdeaa.Pure
