/-
  Any instructions as bytes, or the first that may not stand there: the code's answer is the document's, and they stay as they are; no condition.
-/
import Derived.Test.YtfnjbmpolggdeaaRows
import Derived.WalkKit
import Derived.ProofKit
import Derived.OpenShut
import Derived.SizedLaws
import Derived.Below
import Derived.Test.YtfnjbmpolggdeaaQW4
section
namespace Go.Proofs.Ytfnjbmpolggdeaa.CW
open Go.RowKit Go.Lib Go.Proofs.YtfnjbmpolggdeaaW.PrintWords Go.Proofs.YtfnjbmpolggdeaaW.PrintLast Go.Proofs.YtfnjbmpolggdeaaW.PrintMore
set_option linter.unusedVariables false
set_option linter.unusedSimpArgs false
def letterN (f : Int) : UInt8 := if f = 0 then 46 else if f = 1 then 120 else if f = 2 then 98 else if f = 3 then 115 else if f = 4 then 99 else if f = 5 then 105 else if f = 6 then 108 else if f = 7 then 110 else if f = 8 then 106 else if f = 9 then 74 else
  if f = 10 then 116 else if f = 11 then 107 else if f = 12 then 102 else if f = 13 then 97 else if f = 14 then 109 else 119
def letter (f : Int) : ByteArray := ⟨#[letterN f]⟩
theorem formS_all : ∀ n : Fin 256, jvmcoreref2_form.f ((n.val : Nat) : Int) = some (letter (formF ((n.val : Nat) : Int))) := by decide +kernel
theorem formS_at (x : Int) (h : 0 ≤ x ∧ x < 256) : jvmcoreref2_form.f x = some (letter (formF x)) := by
  have := formS_all ⟨x.toNat, by omega⟩
  simpa [Int.toNat_of_nonneg h.1] using this
def pre (x : S82) : List Nat := (if x.f2 = true then [196] else []) ++ [x.f1.toNat]
theorem pre_len (x : S82) : (pre x).length ≤ 2 := by unfold pre; split <;> simp
theorem pre_lt (x : S82) (h : 0 ≤ x.f1 ∧ x.f1 < 256) : ∀ b ∈ pre x, b < 256 := by
  intro b hb
  unfold pre at hb
  split at hb <;> simp at hb <;> omega
theorem op_pre (x : S82) (b : List Nat) : opS x.f1 x.f2 (b, true) = (b ++ pre x, true) := by
  unfold opS pre
  split <;> simp
theorem sgn_g (x : Int) (m : Nat) (s : List Nat × Bool) : sgnS x m s = (s.1 ++ bigB (U64 x) m, s.2 && inB x m true) := rfl
theorem uns_g (x : Int) (m : Nat) (s : List Nat × Bool) : unsS x m s = (s.1 ++ bigB (U64 x) m, s.2 && inB x m false) := rfl
theorem tgt_z (x7 : List Int) (l : List Nat) (h : (x7.length : Int) = 0) : tgtS x7 0 (l, true) = (l, true) := by unfold tgtS; simp [h]
theorem tgt_n (x7 : List Int) (l : List Nat) (h : ¬ (x7.length : Int) = 0) : tgtS x7 0 (l, true) = (l, false) := by
  unfold tgtS
  rw [show ((x7.length : Int) == 0) = false from beq_eq_false_iff_ne.2 h]; rfl
theorem tgt1_z (x7 : List Int) (l : List Nat) (h : (x7.length : Int) = 1) : tgtS x7 1 (l, true) = (l, true) := by unfold tgtS; simp [h]
theorem tgt1_n (x7 : List Int) (l : List Nat) (h : ¬ (x7.length : Int) = 1) : tgtS x7 1 (l, true) = (l, false) := by
  unfold tgtS
  rw [show ((x7.length : Int) == 1) = false from beq_eq_false_iff_ne.2 h]; rfl
theorem app_nil (s : ByteArray) : s ++ (⟨#[]⟩ : ByteArray) = s := by rw [show (⟨#[]⟩ : ByteArray) = ByteArray.empty from rfl]; simp
theorem piece1 (p q : List Nat) (k : Bool) (hp : p.length ≤ 100) (hq : q.length ≤ 100) :
    (if (sb p).size + (sb q).size ≤ 9223372036854775807 then (if (sb p ++ sb q).size + 0 ≤ 9223372036854775807 then (if k = true then (some ((sb p ++ sb q) ++ (⟨#[]⟩ : ByteArray), true)) else (some ((sb p ++ sb q) ++ (⟨#[]⟩ : ByteArray), false))) else (none)) else (none)) = some (sb (p ++ q), k) := by
  rw [rc_app, app_nil, sb_size, sb_size, sb_size, if_pos (by omega), if_pos (by rw [List.length_append]; omega)]
  cases k <;> rfl
theorem piece2 (p q r : List Nat) (k m : Bool) (hp : p.length ≤ 100) (hq : q.length ≤ 100) (hr : r.length ≤ 100) :
    (if (sb p).size + (sb q).size ≤ 9223372036854775807 then (if (sb p ++ sb q).size + (sb r).size ≤ 9223372036854775807 then (if k = true then (some ((sb p ++ sb q) ++ sb r, m)) else (some ((sb p ++ sb q) ++ sb r, false))) else (none)) else (none)) = some (sb ((p ++ q) ++ r), k && m) := by
  rw [rc_app, rc_app, sb_size, sb_size, sb_size, sb_size, if_pos (by omega), if_pos (by rw [List.length_append]; omega)]
  cases k <;> rfl
theorem bytes1 (x : Int) (s : Bool) : jvmcoreref2_bytes.f x 1 s = some (sb (bigB (U64 x) 1), inB x 1 s) := by unfold jvmcoreref2_bytes.f; rfl
theorem bytes2 (x : Int) (s : Bool) : jvmcoreref2_bytes.f x 2 s = some (sb (bigB (U64 x) 2), inB x 2 s) := by unfold jvmcoreref2_bytes.f; rfl
theorem bytes4' (x : Int) (s : Bool) : jvmcoreref2_bytes.f x 4 s = some (sb (bigB (U64 x) 4), inB x 4 s) := by unfold jvmcoreref2_bytes.f; rfl
theorem bytesz (x : Int) (z s : Bool) : jvmcoreref2_bytes.f x (if z = true then 2 else 1) s = some (sb (bigB (U64 x) (szI z)), inB x (szI z) s) := by cases z <;> (unfold jvmcoreref2_bytes.f szI; rfl)
theorem enc_start (k : Nat) (x : S82) (F : ByteArray) (hx : 0 ≤ x.f1 ∧ x.f1 < 256) : jvmcoreref2_encode.f k x.f0 x.f1 x.f2 x.f3 x.f4 x.f5 x.f6 x.f7 F = jvmcoreref2_encode.j0 k F (sb (pre x)) (if x.f2 = true then 2 else 1) x.f0 x.f1 x.f2 x.f3 x.f4 x.f5 x.f6 x.f7 := by
  have h1 : strOfNums [x.f1] = sb [x.f1.toNat] := by have := strOfNums_nats [x.f1.toNat]; rw [← this]; simp only [List.map_cons, List.map_nil]; rw [Int.toNat_of_nonneg hx.1]
  unfold jvmcoreref2_encode.f pre
  rw [Option.bind_some, h1]
  by_cases h2 : x.f2 = true
  · rw [if_pos h2, if_pos h2, if_pos h2, if_pos (by rw [sb_size]; show 1 + 1 ≤ 9223372036854775807; decide), show (⟨#[196]⟩ : ByteArray) = sb [196] from rfl, rc_app]
  · rw [if_neg h2, if_neg h2, if_neg h2]; rfl
def EncEq (x : S82) (f : Int) (s : List Nat × Bool) (b : List Nat) : Prop := ∃ r1, jvmcoreref2_encode.f 8 x.f0 x.f1 x.f2 x.f3 x.f4 x.f5 x.f6 x.f7 (letter f) = some (r1, s.2) ∧ (s.2 = true → s.1 = b ++ bs r1)
theorem EncEq.mk {x : S82} {f : Int} {s : List Nat × Bool} {b q : List Nat} {k : Bool} (h : jvmcoreref2_encode.f 8 x.f0 x.f1 x.f2 x.f3 x.f4 x.f5 x.f6 x.f7 (letter f) = some (sb q, k)) (hq : ∀ c ∈ q, c < 256) (hs : s = (b ++ q, k)) : EncEq x f s b := by
  subst hs
  exact ⟨sb q, h, fun _ => by rw [bs_sb hq]⟩
theorem EncEq.bad {x : S82} {f : Int} {s : List Nat × Bool} {b : List Nat} {r : ByteArray} (h : jvmcoreref2_encode.f 8 x.f0 x.f1 x.f2 x.f3 x.f4 x.f5 x.f6 x.f7 (letter f) = some (r, false)) (hs : s.2 = false) : EncEq x f s b :=
  ⟨r, by rw [hs]; exact h, fun h2 => by rw [hs] at h2; cases h2⟩
theorem lt_app {a b : List Nat} (ha : ∀ c ∈ a, c < 256) (hb : ∀ c ∈ b, c < 256) : ∀ c ∈ a ++ b, c < 256 := by
  intro c hc
  rcases List.mem_append.1 hc with h | h
  · exact ha c h
  · exact hb c h
theorem enc_f2 (x : S82) (b : List Nat) (hx : 0 ≤ x.f1 ∧ x.f1 < 256) : EncEq x 2 (oneF2 x.f0 x.f1 x.f2 x.f3 x.f4 x.f5 x.f6 x.f7 (b, true)) b := by
  have hL : (letter 2).toList = [98] := by decide +kernel
  have hE : jvmcoreref2_encode.f 8 x.f0 x.f1 x.f2 x.f3 x.f4 x.f5 x.f6 x.f7 (letter 2) = jvmcoreref2_encode.j3 5 (letter 2) (sb (pre x)) (if x.f2 = true then 2 else 1) 0 x.f0 x.f1 x.f2 x.f3 x.f4 x.f5 x.f6 x.f7 := by
    rw [enc_start 8 x _ hx]
    simp only [jvmcoreref2_encode.j0, jvmcoreref2_encode.j1, jvmcoreref2_encode.j2, hL]
    simp (decide := true)
  have hp := pre_len x
  unfold oneF2
  rw [op_pre]
  by_cases hz : (x.f7.length : Int) = 0
  · rw [tgt_z _ _ hz]
    refine EncEq.mk (q := pre x ++ bigB (U64 x.f3) (1)) (k := inB x.f3 (1) true) ?_ (lt_app (pre_lt x hx) (bigB_lt _ _)) ?_
    · rw [hE, jvmcoreref2_encode.j3, if_pos hz, hL, if_pos (show ([98] : List UInt8) = [98] from rfl), bytes1, Option.bind_some]
      exact piece1 _ _ _ (by omega) (by rw [bigB_length]; first | omega | (unfold szI; split <;> omega))
    · rw [sgn_g, List.append_assoc]; rfl
  · rw [tgt_n _ _ hz]
    refine EncEq.bad (r := ⟨#[]⟩) ?_ ?_
    · rw [hE, jvmcoreref2_encode.j3, if_neg hz]
    · rfl
theorem enc_f3 (x : S82) (b : List Nat) (hx : 0 ≤ x.f1 ∧ x.f1 < 256) : EncEq x 3 (oneF3 x.f0 x.f1 x.f2 x.f3 x.f4 x.f5 x.f6 x.f7 (b, true)) b := by
  have hL : (letter 3).toList = [115] := by decide +kernel
  have hE : jvmcoreref2_encode.f 8 x.f0 x.f1 x.f2 x.f3 x.f4 x.f5 x.f6 x.f7 (letter 3) = jvmcoreref2_encode.j3 5 (letter 3) (sb (pre x)) (if x.f2 = true then 2 else 1) 0 x.f0 x.f1 x.f2 x.f3 x.f4 x.f5 x.f6 x.f7 := by
    rw [enc_start 8 x _ hx]
    simp only [jvmcoreref2_encode.j0, jvmcoreref2_encode.j1, jvmcoreref2_encode.j2, hL]
    simp (decide := true)
  have hp := pre_len x
  unfold oneF3
  rw [op_pre]
  by_cases hz : (x.f7.length : Int) = 0
  · rw [tgt_z _ _ hz]
    refine EncEq.mk (q := pre x ++ bigB (U64 x.f3) (2)) (k := inB x.f3 (2) true) ?_ (lt_app (pre_lt x hx) (bigB_lt _ _)) ?_
    · rw [hE, jvmcoreref2_encode.j3, if_pos hz, hL, if_neg (show ¬ ([115] : List UInt8) = [98] by decide), if_pos (show ([115] : List UInt8) = [115] from rfl), bytes2, Option.bind_some]
      exact piece1 _ _ _ (by omega) (by rw [bigB_length]; first | omega | (unfold szI; split <;> omega))
    · rw [sgn_g, List.append_assoc]; rfl
  · rw [tgt_n _ _ hz]
    refine EncEq.bad (r := ⟨#[]⟩) ?_ ?_
    · rw [hE, jvmcoreref2_encode.j3, if_neg hz]
    · rfl
theorem enc_f4 (x : S82) (b : List Nat) (hx : 0 ≤ x.f1 ∧ x.f1 < 256) : EncEq x 4 (oneF4 x.f0 x.f1 x.f2 x.f3 x.f4 x.f5 x.f6 x.f7 (b, true)) b := by
  have hL : (letter 4).toList = [99] := by decide +kernel
  have hE : jvmcoreref2_encode.f 8 x.f0 x.f1 x.f2 x.f3 x.f4 x.f5 x.f6 x.f7 (letter 4) = jvmcoreref2_encode.j3 5 (letter 4) (sb (pre x)) (if x.f2 = true then 2 else 1) 0 x.f0 x.f1 x.f2 x.f3 x.f4 x.f5 x.f6 x.f7 := by
    rw [enc_start 8 x _ hx]
    simp only [jvmcoreref2_encode.j0, jvmcoreref2_encode.j1, jvmcoreref2_encode.j2, hL]
    simp (decide := true)
  have hp := pre_len x
  unfold oneF4
  rw [op_pre]
  by_cases hz : (x.f7.length : Int) = 0
  · rw [tgt_z _ _ hz]
    refine EncEq.mk (q := pre x ++ bigB (U64 x.f3) (1)) (k := inB x.f3 (1) false) ?_ (lt_app (pre_lt x hx) (bigB_lt _ _)) ?_
    · rw [hE, jvmcoreref2_encode.j3, if_pos hz, hL, if_neg (show ¬ ([99] : List UInt8) = [98] by decide), if_neg (show ¬ ([99] : List UInt8) = [115] by decide), if_pos (show ([99] : List UInt8) = [99] from rfl), bytes1, Option.bind_some]
      exact piece1 _ _ _ (by omega) (by rw [bigB_length]; first | omega | (unfold szI; split <;> omega))
    · rw [uns_g, List.append_assoc]; rfl
  · rw [tgt_n _ _ hz]
    refine EncEq.bad (r := ⟨#[]⟩) ?_ ?_
    · rw [hE, jvmcoreref2_encode.j3, if_neg hz]
    · rfl
theorem enc_f5 (x : S82) (b : List Nat) (hx : 0 ≤ x.f1 ∧ x.f1 < 256) : EncEq x 5 (oneF5 x.f0 x.f1 x.f2 x.f3 x.f4 x.f5 x.f6 x.f7 (b, true)) b := by
  have hL : (letter 5).toList = [105] := by decide +kernel
  have hE : jvmcoreref2_encode.f 8 x.f0 x.f1 x.f2 x.f3 x.f4 x.f5 x.f6 x.f7 (letter 5) = jvmcoreref2_encode.j3 5 (letter 5) (sb (pre x)) (if x.f2 = true then 2 else 1) 0 x.f0 x.f1 x.f2 x.f3 x.f4 x.f5 x.f6 x.f7 := by
    rw [enc_start 8 x _ hx]
    simp only [jvmcoreref2_encode.j0, jvmcoreref2_encode.j1, jvmcoreref2_encode.j2, hL]
    simp (decide := true)
  have hp := pre_len x
  unfold oneF5
  rw [op_pre]
  by_cases hz : (x.f7.length : Int) = 0
  · rw [tgt_z _ _ hz]
    refine EncEq.mk (q := pre x ++ bigB (U64 x.f3) (2)) (k := inB x.f3 (2) false) ?_ (lt_app (pre_lt x hx) (bigB_lt _ _)) ?_
    · rw [hE, jvmcoreref2_encode.j3, if_pos hz, hL, if_neg (show ¬ ([105] : List UInt8) = [98] by decide), if_neg (show ¬ ([105] : List UInt8) = [115] by decide), if_neg (show ¬ ([105] : List UInt8) = [99] by decide), if_neg (show ¬ ([105] : List UInt8) = [97] by decide), if_pos (show ([105] : List UInt8) = [105] from rfl), bytes2, Option.bind_some]
      exact piece1 _ _ _ (by omega) (by rw [bigB_length]; first | omega | (unfold szI; split <;> omega))
    · rw [uns_g, List.append_assoc]; rfl
  · rw [tgt_n _ _ hz]
    refine EncEq.bad (r := ⟨#[]⟩) ?_ ?_
    · rw [hE, jvmcoreref2_encode.j3, if_neg hz]
    · rfl
theorem enc_f6 (x : S82) (b : List Nat) (hx : 0 ≤ x.f1 ∧ x.f1 < 256) : EncEq x 6 (oneF6 x.f0 x.f1 x.f2 x.f3 x.f4 x.f5 x.f6 x.f7 (b, true)) b := by
  have hL : (letter 6).toList = [108] := by decide +kernel
  have hE : jvmcoreref2_encode.f 8 x.f0 x.f1 x.f2 x.f3 x.f4 x.f5 x.f6 x.f7 (letter 6) = jvmcoreref2_encode.j3 5 (letter 6) (sb (pre x)) (if x.f2 = true then 2 else 1) 0 x.f0 x.f1 x.f2 x.f3 x.f4 x.f5 x.f6 x.f7 := by
    rw [enc_start 8 x _ hx]
    simp only [jvmcoreref2_encode.j0, jvmcoreref2_encode.j1, jvmcoreref2_encode.j2, hL]
    simp (decide := true)
  have hp := pre_len x
  unfold oneF6
  rw [op_pre]
  by_cases hz : (x.f7.length : Int) = 0
  · rw [tgt_z _ _ hz]
    refine EncEq.mk (q := pre x ++ bigB (U64 x.f3) (szI x.f2)) (k := inB x.f3 (szI x.f2) false) ?_ (lt_app (pre_lt x hx) (bigB_lt _ _)) ?_
    · rw [hE, jvmcoreref2_encode.j3, if_pos hz, hL, if_neg (show ¬ ([108] : List UInt8) = [98] by decide), if_neg (show ¬ ([108] : List UInt8) = [115] by decide), if_neg (show ¬ ([108] : List UInt8) = [99] by decide), if_neg (show ¬ ([108] : List UInt8) = [97] by decide), if_neg (show ¬ ([108] : List UInt8) = [105] by decide), if_pos (show ([108] : List UInt8) = [108] from rfl), bytesz, Option.bind_some]
      exact piece1 _ _ _ (by omega) (by rw [bigB_length]; first | omega | (unfold szI; split <;> omega))
    · rw [uns_g, List.append_assoc]; rfl
  · rw [tgt_n _ _ hz]
    refine EncEq.bad (r := ⟨#[]⟩) ?_ ?_
    · rw [hE, jvmcoreref2_encode.j3, if_neg hz]
    · rfl
theorem enc_f7 (x : S82) (b : List Nat) (hx : 0 ≤ x.f1 ∧ x.f1 < 256) : EncEq x 7 (oneF7 x.f0 x.f1 x.f2 x.f3 x.f4 x.f5 x.f6 x.f7 (b, true)) b := by
  have hL : (letter 7).toList = [110] := by decide +kernel
  have hE : jvmcoreref2_encode.f 8 x.f0 x.f1 x.f2 x.f3 x.f4 x.f5 x.f6 x.f7 (letter 7) = jvmcoreref2_encode.j3 5 (letter 7) (sb (pre x)) (if x.f2 = true then 2 else 1) 0 x.f0 x.f1 x.f2 x.f3 x.f4 x.f5 x.f6 x.f7 := by
    rw [enc_start 8 x _ hx]
    simp only [jvmcoreref2_encode.j0, jvmcoreref2_encode.j1, jvmcoreref2_encode.j2, hL]
    simp (decide := true)
  have hp := pre_len x
  unfold oneF7
  rw [op_pre]
  by_cases hz : (x.f7.length : Int) = 0
  · rw [tgt_z _ _ hz]
    refine EncEq.mk (q := (pre x ++ bigB (U64 x.f3) (szI x.f2)) ++ bigB (U64 x.f4) (szI x.f2)) (k := inB x.f3 (szI x.f2) false && inB x.f4 (szI x.f2) true) ?_ (lt_app (lt_app (pre_lt x hx) (bigB_lt _ _)) (bigB_lt _ _)) ?_
    · rw [hE, jvmcoreref2_encode.j3, if_pos hz, hL, if_neg (show ¬ ([110] : List UInt8) = [98] by decide), if_neg (show ¬ ([110] : List UInt8) = [115] by decide), if_neg (show ¬ ([110] : List UInt8) = [99] by decide), if_neg (show ¬ ([110] : List UInt8) = [97] by decide), if_neg (show ¬ ([110] : List UInt8) = [105] by decide), if_neg (show ¬ ([110] : List UInt8) = [108] by decide), if_pos (show ([110] : List UInt8) = [110] from rfl), bytesz, Option.bind_some, bytesz, Option.bind_some]
      have hs : szI x.f2 ≤ 2 := by unfold szI; split <;> omega
      exact piece2 _ _ _ _ _ (by omega) (by rw [bigB_length]; omega) (by rw [bigB_length]; omega)
    · rw [sgn_g, uns_g]; simp
  · rw [tgt_n _ _ hz]
    refine EncEq.bad (r := ⟨#[]⟩) ?_ ?_
    · rw [hE, jvmcoreref2_encode.j3, if_neg hz]
    · rfl
theorem enc_f8 (x : S82) (b : List Nat) (hx : 0 ≤ x.f1 ∧ x.f1 < 256) : EncEq x 8 (oneF8 x.f0 x.f1 x.f2 x.f3 x.f4 x.f5 x.f6 x.f7 (b, true)) b := by
  have hL : (letter 8).toList = [106] := by decide +kernel
  have hE : jvmcoreref2_encode.f 8 x.f0 x.f1 x.f2 x.f3 x.f4 x.f5 x.f6 x.f7 (letter 8) = jvmcoreref2_encode.j3 5 (letter 8) (sb (pre x)) (if x.f2 = true then 2 else 1) 1 x.f0 x.f1 x.f2 x.f3 x.f4 x.f5 x.f6 x.f7 := by
    rw [enc_start 8 x _ hx]
    simp only [jvmcoreref2_encode.j0, jvmcoreref2_encode.j1, jvmcoreref2_encode.j2, hL]
    simp (decide := true)
  have hp := pre_len x
  unfold oneF8
  rw [op_pre]
  by_cases hz : (x.f7.length : Int) = 1
  · rw [tgt1_z _ _ hz]
    rw [if_pos (show (b ++ pre x, true).2 = true from rfl), i64_w]
    refine EncEq.mk (q := pre x ++ bigB (U64 (wrap64 (rd x.f7 0 - x.f0))) 2) (k := inB (wrap64 (rd x.f7 0 - x.f0)) 2 true) ?_ (lt_app (pre_lt x hx) (bigB_lt _ _)) ?_
    · rw [hE, jvmcoreref2_encode.j3, if_pos hz, hL, if_neg (show ¬ ([106] : List UInt8) = [98] by decide), if_neg (show ¬ ([106] : List UInt8) = [115] by decide), if_neg (show ¬ ([106] : List UInt8) = [99] by decide), if_neg (show ¬ ([106] : List UInt8) = [97] by decide), if_neg (show ¬ ([106] : List UInt8) = [105] by decide), if_neg (show ¬ ([106] : List UInt8) = [108] by decide), if_neg (show ¬ ([106] : List UInt8) = [110] by decide), if_pos (show ([106] : List UInt8) = [106] from rfl), if_pos (show 0 < (x.f7.length : Int) by omega), bytes2, Option.bind_some]
      exact piece1 _ _ _ (by omega) (by rw [bigB_length]; omega)
    · rw [sgn_g, List.append_assoc]; rfl
  · rw [tgt1_n _ _ hz]
    refine EncEq.bad (r := ⟨#[]⟩) ?_ ?_
    · rw [hE, jvmcoreref2_encode.j3, if_neg hz]
    · rw [if_neg (show ¬ (b ++ pre x, false).2 = true from Bool.false_ne_true)]
theorem enc_f9 (x : S82) (b : List Nat) (hx : 0 ≤ x.f1 ∧ x.f1 < 256) : EncEq x 9 (oneF9 x.f0 x.f1 x.f2 x.f3 x.f4 x.f5 x.f6 x.f7 (b, true)) b := by
  have hL : (letter 9).toList = [74] := by decide +kernel
  have hE : jvmcoreref2_encode.f 8 x.f0 x.f1 x.f2 x.f3 x.f4 x.f5 x.f6 x.f7 (letter 9) = jvmcoreref2_encode.j3 5 (letter 9) (sb (pre x)) (if x.f2 = true then 2 else 1) 1 x.f0 x.f1 x.f2 x.f3 x.f4 x.f5 x.f6 x.f7 := by
    rw [enc_start 8 x _ hx]
    simp only [jvmcoreref2_encode.j0, jvmcoreref2_encode.j1, jvmcoreref2_encode.j2, hL]
    simp (decide := true)
  have hp := pre_len x
  unfold oneF9
  rw [op_pre]
  by_cases hz : (x.f7.length : Int) = 1
  · rw [tgt1_z _ _ hz]
    rw [if_pos (show (b ++ pre x, true).2 = true from rfl), i64_w]
    refine EncEq.mk (q := pre x ++ bigB (U64 (wrap64 (rd x.f7 0 - x.f0))) 4) (k := inB (wrap64 (rd x.f7 0 - x.f0)) 4 true) ?_ (lt_app (pre_lt x hx) (bigB_lt _ _)) ?_
    · rw [hE, jvmcoreref2_encode.j3, if_pos hz, hL, if_neg (show ¬ ([74] : List UInt8) = [98] by decide), if_neg (show ¬ ([74] : List UInt8) = [115] by decide), if_neg (show ¬ ([74] : List UInt8) = [99] by decide), if_neg (show ¬ ([74] : List UInt8) = [97] by decide), if_neg (show ¬ ([74] : List UInt8) = [105] by decide), if_neg (show ¬ ([74] : List UInt8) = [108] by decide), if_neg (show ¬ ([74] : List UInt8) = [110] by decide), if_neg (show ¬ ([74] : List UInt8) = [106] by decide), if_pos (show ([74] : List UInt8) = [74] from rfl), if_pos (show 0 < (x.f7.length : Int) by omega), bytes4', Option.bind_some]
      exact piece1 _ _ _ (by omega) (by rw [bigB_length]; omega)
    · rw [sgn_g, List.append_assoc]; rfl
  · rw [tgt1_n _ _ hz]
    refine EncEq.bad (r := ⟨#[]⟩) ?_ ?_
    · rw [hE, jvmcoreref2_encode.j3, if_neg hz]
    · rw [if_neg (show ¬ (b ++ pre x, false).2 = true from Bool.false_ne_true)]
theorem enc_f0 (x : S82) (b : List Nat) (hx : 0 ≤ x.f1 ∧ x.f1 < 256) : EncEq x 0 (oneF0 x.f0 x.f1 x.f2 x.f3 x.f4 x.f5 x.f6 x.f7 (b, true)) b := by
  have hL : (letter 0).toList = [46] := by decide +kernel
  have hE : jvmcoreref2_encode.f 8 x.f0 x.f1 x.f2 x.f3 x.f4 x.f5 x.f6 x.f7 (letter 0) = jvmcoreref2_encode.j3 5 (letter 0) (sb (pre x)) (if x.f2 = true then 2 else 1) 0 x.f0 x.f1 x.f2 x.f3 x.f4 x.f5 x.f6 x.f7 := by
    rw [enc_start 8 x _ hx]
    simp only [jvmcoreref2_encode.j0, jvmcoreref2_encode.j1, jvmcoreref2_encode.j2, hL]
    simp (decide := true)
  have hp := pre_len x
  unfold oneF0
  rw [op_pre]
  by_cases hz : (x.f7.length : Int) = 0
  · rw [tgt_z _ _ hz]
    refine EncEq.mk (q := pre x) (k := true) ?_ (pre_lt x hx) rfl
    rw [hE, jvmcoreref2_encode.j3, if_pos hz, hL, if_neg (show ¬ ([46] : List UInt8) = [98] by decide), if_neg (show ¬ ([46] : List UInt8) = [115] by decide), if_neg (show ¬ ([46] : List UInt8) = [99] by decide), if_neg (show ¬ ([46] : List UInt8) = [97] by decide), if_neg (show ¬ ([46] : List UInt8) = [105] by decide), if_neg (show ¬ ([46] : List UInt8) = [108] by decide), if_neg (show ¬ ([46] : List UInt8) = [110] by decide), if_neg (show ¬ ([46] : List UInt8) = [106] by decide), if_neg (show ¬ ([46] : List UInt8) = [74] by decide), if_neg (show ¬ ([46] : List UInt8) = [102] by decide)]
    rw [show (([46] : List UInt8) == [109]) = false by decide, jvmcoreref2_encode.j4, if_neg (by decide), if_pos (by rw [sb_size]; show _ + 0 ≤ _; omega), app_nil, if_pos (by rw [sb_size]; show _ + 0 ≤ _; omega), if_pos rfl, app_nil]
  · rw [tgt_n _ _ hz]
    refine EncEq.bad (r := ⟨#[]⟩) ?_ ?_
    · rw [hE, jvmcoreref2_encode.j3, if_neg hz]
    · rfl
theorem enc_f13 (x : S82) (b : List Nat) (hx : 0 ≤ x.f1 ∧ x.f1 < 256) : EncEq x 13 (oneF13 x.f0 x.f1 x.f2 x.f3 x.f4 x.f5 x.f6 x.f7 (b, true)) b := by
  have hL : (letter 13).toList = [97] := by decide +kernel
  have hE : jvmcoreref2_encode.f 8 x.f0 x.f1 x.f2 x.f3 x.f4 x.f5 x.f6 x.f7 (letter 13) = jvmcoreref2_encode.j3 5 (letter 13) (sb (pre x)) (if x.f2 = true then 2 else 1) 0 x.f0 x.f1 x.f2 x.f3 x.f4 x.f5 x.f6 x.f7 := by
    rw [enc_start 8 x _ hx]
    simp only [jvmcoreref2_encode.j0, jvmcoreref2_encode.j1, jvmcoreref2_encode.j2, hL]
    simp (decide := true)
  have hp := pre_len x
  unfold oneF13
  rw [op_pre]
  by_cases hz : (x.f7.length : Int) = 0
  · rw [tgt_z _ _ hz]
    refine EncEq.mk (q := pre x ++ bigB (U64 x.f3) 1) (k := inB x.f3 1 false && (decide (x.f3 ≥ 4) && decide (x.f3 ≤ 11))) ?_ (lt_app (pre_lt x hx) (bigB_lt _ _)) ?_
    · rw [hE, jvmcoreref2_encode.j3, if_pos hz, hL, if_neg (show ¬ ([97] : List UInt8) = [98] by decide), if_neg (show ¬ ([97] : List UInt8) = [115] by decide), if_neg (show ¬ ([97] : List UInt8) = [99] by decide), if_pos (show ([97] : List UInt8) = [97] from rfl), bytes1, Option.bind_some]
      by_cases h4 : x.f3 ≥ 4
      · rw [if_pos h4, decide_eq_true h4, Bool.true_and]
        rw [rc_app, app_nil, sb_size, sb_size, sb_size, if_pos (by rw [bigB_length]; omega), if_pos (by rw [List.length_append, bigB_length]; omega)]
        cases inB x.f3 1 false <;> rfl
      · rw [if_neg h4, decide_eq_false h4, Bool.false_and, Bool.and_false]
        rw [rc_app, app_nil, sb_size, sb_size, sb_size, if_pos (by rw [bigB_length]; omega), if_pos (by rw [List.length_append, bigB_length]; omega)]
        cases inB x.f3 1 false <;> rfl
    · unfold putS
      rw [List.append_assoc]
      refine Prod.ext rfl ?_
      show (true && (decide (4 ≤ x.f3) && decide (x.f3 ≤ 11))) = (inB x.f3 1 false && (decide (x.f3 ≥ 4) && decide (x.f3 ≤ 11)))
      have h1 : inB x.f3 1 false = (decide (0 ≤ x.f3) && decide (x.f3 ≤ 255)) := rfl
      rw [h1, Bool.eq_iff_iff]
      simp only [Bool.and_eq_true, decide_eq_true_eq, true_and]
      omega
  · rw [tgt_n _ _ hz]
    refine EncEq.bad (r := ⟨#[]⟩) ?_ ?_
    · rw [hE, jvmcoreref2_encode.j3, if_neg hz]
    · rfl
theorem enc_f12 (x : S82) (b : List Nat) (hx : 0 ≤ x.f1 ∧ x.f1 < 256) : EncEq x 12 (oneF12 x.f0 x.f1 x.f2 x.f3 x.f4 x.f5 x.f6 x.f7 (b, true)) b := by
  have hL : (letter 12).toList = [102] := by decide +kernel
  have hE : jvmcoreref2_encode.f 8 x.f0 x.f1 x.f2 x.f3 x.f4 x.f5 x.f6 x.f7 (letter 12) = jvmcoreref2_encode.j3 5 (letter 12) (sb (pre x)) (if x.f2 = true then 2 else 1) 0 x.f0 x.f1 x.f2 x.f3 x.f4 x.f5 x.f6 x.f7 := by
    rw [enc_start 8 x _ hx]
    simp only [jvmcoreref2_encode.j0, jvmcoreref2_encode.j1, jvmcoreref2_encode.j2, hL]
    simp (decide := true)
  have hp := pre_len x
  unfold oneF12
  rw [op_pre]
  by_cases hz : (x.f7.length : Int) = 0
  · rw [tgt_z _ _ hz]
    have hk : (decide (1 ≤ x.f4) && decide (x.f4 ≤ 255)) = (inB x.f4 1 false && decide (x.f4 > 0)) := by
      have h1 : inB x.f4 1 false = (decide (0 ≤ x.f4) && decide (x.f4 ≤ 255)) := rfl
      rw [h1, Bool.eq_iff_iff]
      simp only [Bool.and_eq_true, decide_eq_true_eq]
      omega
    refine EncEq.mk (q := ((pre x ++ bigB (U64 x.f3) 2) ++ (bigB (U64 x.f4) 1 ++ [0]))) (k := inB x.f3 2 false && (inB x.f4 1 false && decide (x.f4 > 0))) ?_ (lt_app (lt_app (pre_lt x hx) (bigB_lt _ _)) (lt_app (bigB_lt _ _) (by simp))) ?_
    · rw [hE, jvmcoreref2_encode.j3, if_pos hz, hL, if_neg (show ¬ ([102] : List UInt8) = [98] by decide), if_neg (show ¬ ([102] : List UInt8) = [115] by decide), if_neg (show ¬ ([102] : List UInt8) = [99] by decide), if_neg (show ¬ ([102] : List UInt8) = [97] by decide), if_neg (show ¬ ([102] : List UInt8) = [105] by decide), if_neg (show ¬ ([102] : List UInt8) = [108] by decide), if_neg (show ¬ ([102] : List UInt8) = [110] by decide), if_neg (show ¬ ([102] : List UInt8) = [106] by decide), if_neg (show ¬ ([102] : List UInt8) = [74] by decide), if_pos (show ([102] : List UInt8) = [102] from rfl), show (([102] : List UInt8) == [102]) = true by decide, jvmcoreref2_encode.j4, if_pos rfl, bytes2, Option.bind_some, bytes1, Option.bind_some, hL]
      cases hi : inB x.f4 1 false with
      | true =>
        rw [if_pos (show (sb (bigB (U64 x.f4) 1), true).2 = true from rfl), if_pos (show ([102] : List UInt8) = [102] from rfl)]
        rw [show (⟨#[0]⟩ : ByteArray) = sb [0] from rfl, rc_app (bigB (U64 x.f4) 1) [0], sb_size (bigB (U64 x.f4) 1), if_pos (by rw [bigB_length]; omega)]
        rw [Bool.true_and]
        exact piece2 _ _ _ _ _ (by omega) (by rw [bigB_length]; omega) (by first | (rw [bigB_length]; omega) | (rw [List.length_append, bigB_length]; show 1 + 1 ≤ 100; omega))
      | false =>
        rw [if_neg (show ¬ (sb (bigB (U64 x.f4) 1), false).2 = true from Bool.false_ne_true), if_pos (show ([102] : List UInt8) = [102] from rfl)]
        rw [show (⟨#[0]⟩ : ByteArray) = sb [0] from rfl, rc_app (bigB (U64 x.f4) 1) [0], sb_size (bigB (U64 x.f4) 1), if_pos (by rw [bigB_length]; omega)]
        rw [Bool.false_and]
        exact piece2 _ _ _ _ _ (by omega) (by rw [bigB_length]; omega) (by first | (rw [bigB_length]; omega) | (rw [List.length_append, bigB_length]; show 1 + 1 ≤ 100; omega))
    · rw [uns_g]
      unfold putS
      dsimp only
      rw [hk]
      simp
  · rw [tgt_n _ _ hz]
    refine EncEq.bad (r := ⟨#[]⟩) ?_ ?_
    · rw [hE, jvmcoreref2_encode.j3, if_neg hz]
    · rfl
theorem enc_f14 (x : S82) (b : List Nat) (hx : 0 ≤ x.f1 ∧ x.f1 < 256) : EncEq x 14 (oneF14 x.f0 x.f1 x.f2 x.f3 x.f4 x.f5 x.f6 x.f7 (b, true)) b := by
  have hL : (letter 14).toList = [109] := by decide +kernel
  have hE : jvmcoreref2_encode.f 8 x.f0 x.f1 x.f2 x.f3 x.f4 x.f5 x.f6 x.f7 (letter 14) = jvmcoreref2_encode.j3 5 (letter 14) (sb (pre x)) (if x.f2 = true then 2 else 1) 0 x.f0 x.f1 x.f2 x.f3 x.f4 x.f5 x.f6 x.f7 := by
    rw [enc_start 8 x _ hx]
    simp only [jvmcoreref2_encode.j0, jvmcoreref2_encode.j1, jvmcoreref2_encode.j2, hL]
    simp (decide := true)
  have hp := pre_len x
  unfold oneF14
  rw [op_pre]
  by_cases hz : (x.f7.length : Int) = 0
  · rw [tgt_z _ _ hz]
    have hk : (decide (1 ≤ x.f4) && decide (x.f4 ≤ 255)) = (inB x.f4 1 false && decide (x.f4 > 0)) := by
      have h1 : inB x.f4 1 false = (decide (0 ≤ x.f4) && decide (x.f4 ≤ 255)) := rfl
      rw [h1, Bool.eq_iff_iff]
      simp only [Bool.and_eq_true, decide_eq_true_eq]
      omega
    refine EncEq.mk (q := ((pre x ++ bigB (U64 x.f3) 2) ++ bigB (U64 x.f4) 1)) (k := inB x.f3 2 false && (inB x.f4 1 false && decide (x.f4 > 0))) ?_ (lt_app (lt_app (pre_lt x hx) (bigB_lt _ _)) (bigB_lt _ _)) ?_
    · rw [hE, jvmcoreref2_encode.j3, if_pos hz, hL, if_neg (show ¬ ([109] : List UInt8) = [98] by decide), if_neg (show ¬ ([109] : List UInt8) = [115] by decide), if_neg (show ¬ ([109] : List UInt8) = [99] by decide), if_neg (show ¬ ([109] : List UInt8) = [97] by decide), if_neg (show ¬ ([109] : List UInt8) = [105] by decide), if_neg (show ¬ ([109] : List UInt8) = [108] by decide), if_neg (show ¬ ([109] : List UInt8) = [110] by decide), if_neg (show ¬ ([109] : List UInt8) = [106] by decide), if_neg (show ¬ ([109] : List UInt8) = [74] by decide), if_neg (show ¬ ([109] : List UInt8) = [102] by decide), show (([109] : List UInt8) == [109]) = true by decide, jvmcoreref2_encode.j4, if_pos rfl, bytes2, Option.bind_some, bytes1, Option.bind_some, hL]
      cases hi : inB x.f4 1 false with
      | true =>
        rw [if_pos (show (sb (bigB (U64 x.f4) 1), true).2 = true from rfl), if_neg (show ¬ ([109] : List UInt8) = [102] by decide)]
        rw [Bool.true_and]
        exact piece2 _ _ _ _ _ (by omega) (by rw [bigB_length]; omega) (by first | (rw [bigB_length]; omega) | (rw [List.length_append, bigB_length]; show 1 + 1 ≤ 100; omega))
      | false =>
        rw [if_neg (show ¬ (sb (bigB (U64 x.f4) 1), false).2 = true from Bool.false_ne_true), if_neg (show ¬ ([109] : List UInt8) = [102] by decide)]
        rw [Bool.false_and]
        exact piece2 _ _ _ _ _ (by omega) (by rw [bigB_length]; omega) (by first | (rw [bigB_length]; omega) | (rw [List.length_append, bigB_length]; show 1 + 1 ≤ 100; omega))
    · rw [uns_g]
      unfold putS
      dsimp only
      rw [hk]
      simp
  · rw [tgt_n _ _ hz]
    refine EncEq.bad (r := ⟨#[]⟩) ?_ ?_
    · rw [hE, jvmcoreref2_encode.j3, if_neg hz]
    · rfl
theorem rows_pre (x0 : Int) (x6 x7 : List Int) (f : Int) (p : List Nat) : ∀ (k : Nat) (s : List Nat × Bool), rowsS x0 x6 x7 f k (p ++ s.1, s.2) = (p ++ (rowsS x0 x6 x7 f k s).1, (rowsS x0 x6 x7 f k s).2)
  | 0, s => rfl
  | k + 1, s => by
    show rndS x0 x6 x7 f k (rowsS x0 x6 x7 f k (p ++ s.1, s.2)) = _
    rw [rows_pre x0 x6 x7 f p k s]
    show _ = (p ++ (rndS x0 x6 x7 f k (rowsS x0 x6 x7 f k s)).1, (rndS x0 x6 x7 f k (rowsS x0 x6 x7 f k s)).2)
    generalize rowsS x0 x6 x7 f k s = q
    unfold rndS
    split
    · simp only [sgn_g, List.append_assoc]
    · simp only [sgn_g, List.append_assoc]
theorem head_pre (x0 x5 : Int) (x7 : List Int) (f : Int) (p : List Nat) (s : List Nat × Bool) : headR x0 x5 x7 f (p ++ s.1, s.2) = (p ++ (headR x0 x5 x7 f s).1, (headR x0 x5 x7 f s).2) := by
  unfold headR
  split
  · simp only [sgn_g, List.append_assoc]
  · simp only [sgn_g, List.append_assoc]
theorem head_eq (x0 x5 : Int) (x7 : List Int) (f : Int) (s : List Nat × Bool) : headS x0 x5 x7 f s = headR x0 x5 x7 f (padB s.1, s.2) := rfl
theorem cho_eq (n0 : Nat) (x1 x5 : Int) (x6 x7 : List Int) (f : Int) (b : List Nat) (hb : b.length = n0) : (choS n0 x5 x6 x7 f (b ++ [x1.toNat], true)).2 = (refCho n0 x1 x5 x6 x7 f).2 ∧
    ((refCho n0 x1 x5 x6 x7 f).2 = true → (choS n0 x5 x6 x7 f (b ++ [x1.toNat], true)).1 = b ++ (refCho n0 x1 x5 x6 x7 f).1) := by
  unfold choS refCho
  split
  · exact ⟨rfl, fun h => by cases h⟩
  · have h1 : (padB (b ++ [x1.toNat]), true) = (b ++ (strt n0 x1).1, (strt n0 x1).2) := by
      unfold padB strt
      rw [List.length_append, hb, List.append_assoc]; rfl
    rw [head_eq, h1, head_pre, rows_pre]
    exact ⟨rfl, fun _ => rfl⟩
theorem ref_lt (n0 : Nat) (x1 x5 : Int) (x6 x7 : List Int) (f : Int) (h : 0 ≤ x1 ∧ x1 < 256) : ∀ c ∈ (refCho n0 x1 x5 x6 x7 f).1, c < 256 := by
  unfold refCho
  split
  · intro c hc; cases hc
  · have hr : ∀ (k : Nat) (s : List Nat × Bool), (∀ c ∈ s.1, c < 256) → ∀ c ∈ (rowsS n0 x6 x7 f k s).1, c < 256 := by
      intro k
      induction k with
      | zero => exact fun s hs => hs
      | succ k ih =>
        intro s hs
        have hq := ih s hs
        show ∀ c ∈ (rndS n0 x6 x7 f k (rowsS n0 x6 x7 f k s)).1, c < 256
        generalize rowsS n0 x6 x7 f k s = q at hq
        unfold rndS
        split
        · exact sgn_lt _ _ (sgn_lt _ _ hq)
        · exact sgn_lt _ _ hq
    exact hr _ _ (headR_lt n0 x1 x5 x7 f h)
theorem enc_f10 (x : S82) (b : List Nat) (hx : 0 ≤ x.f1 ∧ x.f1 < 256) (h2 : x.f2 = false) (h0 : x.f0 = (b.length : Int)) (hb : b.length ≤ 1000000) (h6 : x.f6.length ≤ 1000000) (h7 : x.f7.length ≤ 1000000) : EncEq x 10 (oneF10 x.f0 x.f1 x.f2 x.f3 x.f4 x.f5 x.f6 x.f7 (b, true)) b := by
  have hL : (letter 10).toList = [116] := by decide +kernel
  have hE : jvmcoreref2_encode.f 8 x.f0 x.f1 x.f2 x.f3 x.f4 x.f5 x.f6 x.f7 (letter 10) = (jvmcoreref2_choice.f x.f0 x.f1 x.f2 x.f3 x.f4 x.f5 x.f6 x.f7 false).bind fun bt => some (bt.1, bt.2) := by
    rw [enc_start 8 x _ hx]
    simp only [jvmcoreref2_encode.j0, jvmcoreref2_encode.j1, hL]
    simp (decide := true)
  have hC : jvmcoreref2_choice.f x.f0 x.f1 x.f2 x.f3 x.f4 x.f5 x.f6 x.f7 false = some (sb (refCho b.length x.f1 x.f5 x.f6 x.f7 10).1, (refCho b.length x.f1 x.f5 x.f6 x.f7 10).2) := by
    unfold jvmcoreref2_choice.f
    rw [if_pos ⟨by omega, by omega, hx.1, hx.2, h6, h7⟩, h0, Int.toNat_natCast]
    rfl
  have hq := cho_eq b.length x.f1 x.f5 x.f6 x.f7 10 b rfl
  unfold oneF10 opS
  rw [h2, if_neg (by decide), h0]
  refine ⟨sb (refCho b.length x.f1 x.f5 x.f6 x.f7 10).1, ?_, fun h => ?_⟩
  · rw [hq.1, hE, hC]; rfl
  · rw [hq.1] at h
    rw [bs_sb (ref_lt _ _ _ _ _ _ hx)]
    exact hq.2 h
theorem enc_f11 (x : S82) (b : List Nat) (hx : 0 ≤ x.f1 ∧ x.f1 < 256) (h2 : x.f2 = false) (h0 : x.f0 = (b.length : Int)) (hb : b.length ≤ 1000000) (h6 : x.f6.length ≤ 1000000) (h7 : x.f7.length ≤ 1000000) : EncEq x 11 (oneF11 x.f0 x.f1 x.f2 x.f3 x.f4 x.f5 x.f6 x.f7 (b, true)) b := by
  have hL : (letter 11).toList = [107] := by decide +kernel
  have hE : jvmcoreref2_encode.f 8 x.f0 x.f1 x.f2 x.f3 x.f4 x.f5 x.f6 x.f7 (letter 11) = (jvmcoreref2_choice.f x.f0 x.f1 x.f2 x.f3 x.f4 x.f5 x.f6 x.f7 true).bind fun bt => some (bt.1, bt.2) := by
    rw [enc_start 8 x _ hx]
    simp only [jvmcoreref2_encode.j0, jvmcoreref2_encode.j1, hL]
    simp (decide := true)
  have hC : jvmcoreref2_choice.f x.f0 x.f1 x.f2 x.f3 x.f4 x.f5 x.f6 x.f7 true = some (sb (refCho b.length x.f1 x.f5 x.f6 x.f7 11).1, (refCho b.length x.f1 x.f5 x.f6 x.f7 11).2) := by
    unfold jvmcoreref2_choice.f
    rw [if_pos ⟨by omega, by omega, hx.1, hx.2, h6, h7⟩, h0, Int.toNat_natCast]
    rfl
  have hq := cho_eq b.length x.f1 x.f5 x.f6 x.f7 11 b rfl
  unfold oneF11 opS
  rw [h2, if_neg (by decide), h0]
  refine ⟨sb (refCho b.length x.f1 x.f5 x.f6 x.f7 11).1, ?_, fun h => ?_⟩
  · rw [hq.1, hE, hC]; rfl
  · rw [hq.1] at h
    rw [bs_sb (ref_lt _ _ _ _ _ _ hx)]
    exact hq.2 h
theorem enc_any (x : S82) (b : List Nat) (hx : 0 ≤ x.f1 ∧ x.f1 < 256) (hbad : badF x = false) (h0 : x.f0 = (b.length : Int)) (hb : b.length ≤ 1000000) (h6 : x.f6.length ≤ 1000000) (h7 : x.f7.length ≤ 1000000) : EncEq x (formF x.f1) (oneF (formF x.f1) x (b, true)) b := by
  have hr := formF_le x.f1
  unfold badF at hbad
  generalize formF x.f1 = f at *
  have hn1 : f ≠ 1 := by rintro rfl; simp at hbad
  have hn15 : f ≠ 15 := by rintro rfl; simp at hbad
  have h : f = 0 ∨ f = 2 ∨ f = 3 ∨ f = 4 ∨ f = 5 ∨ f = 6 ∨ f = 7 ∨ f = 8 ∨ f = 9 ∨ f = 10 ∨ f = 11 ∨ f = 12 ∨ f = 13 ∨ f = 14 := by omega
  rcases h with rfl | rfl | rfl | rfl | rfl | rfl | rfl | rfl | rfl | rfl | rfl | rfl | rfl | rfl
  · exact enc_f0 x b hx
  · exact enc_f2 x b hx
  · exact enc_f3 x b hx
  · exact enc_f4 x b hx
  · exact enc_f5 x b hx
  · exact enc_f6 x b hx
  · exact enc_f7 x b hx
  · exact enc_f8 x b hx
  · exact enc_f9 x b hx
  · exact enc_f10 x b hx (by cases h : x.f2; rfl; rw [h] at hbad; simp at hbad) h0 hb h6 h7
  · exact enc_f11 x b hx (by cases h : x.f2; rfl; rw [h] at hbad; simp at hbad) h0 hb h6 h7
  · exact enc_f12 x b hx
  · exact enc_f13 x b hx
  · exact enc_f14 x b hx
end Go.Proofs.Ytfnjbmpolggdeaa.CW
end
section
namespace Go.Proofs.Ytfnjbmpolggdeaa.CW
open Go.RowKit Go.Lib Go.Proofs.YtfnjbmpolggdeaaW.PrintWords Go.Proofs.YtfnjbmpolggdeaaW.PrintLast Go.Proofs.YtfnjbmpolggdeaaW.PrintMore
set_option linter.unusedVariables false
set_option linter.unusedSimpArgs false
theorem rows_ge (x0 : Int) (x6 x7 : List Int) (f : Int) : ∀ (k : Nat) (s : List Nat × Bool), s.1.length ≤ (rowsS x0 x6 x7 f k s).1.length
  | 0, s => Nat.le_refl _
  | k + 1, s => by
    have h := rows_ge x0 x6 x7 f k s
    show s.1.length ≤ (rndS x0 x6 x7 f k (rowsS x0 x6 x7 f k s)).1.length
    generalize rowsS x0 x6 x7 f k s = q at *
    unfold rndS
    split
    · simp only [sgn_g, List.length_append]; omega
    · simp only [sgn_g, List.length_append]; omega
theorem cho_ge (x0 x5 : Int) (x6 x7 : List Int) (f : Int) (s : List Nat × Bool) : s.1.length ≤ (choS x0 x5 x6 x7 f s).1.length := by
  have hp : s.1.length ≤ (padB s.1).length := by unfold padB; rw [List.length_append]; omega
  unfold choS
  split
  · exact hp
  · refine Nat.le_trans ?_ (rows_ge _ _ _ _ _ _)
    unfold headS
    split
    · simp only [sgn_g, List.length_append]; omega
    · simp only [sgn_g, List.length_append]; omega
theorem pre_ge (x : S82) : 1 ≤ (pre x).length := by unfold pre; split <;> simp
theorem one_grow (f : Int) (x : S82) (b : List Nat) : b.length + 1 ≤ (oneF f x (b, true)).1.length := by
  have hp := pre_ge x
  have hc := fun f => cho_ge x.f0 x.f5 x.f6 x.f7 f (opS x.f1 x.f2 (b, true))
  rw [op_pre] at hc
  have h1 : ∀ f, b.length + 1 ≤ (choS x.f0 x.f5 x.f6 x.f7 f (b ++ pre x, true)).1.length := fun f => by
    have := hc f
    rw [List.length_append] at this
    omega
  have h0 : b.length + 1 ≤ (b ++ pre x).length := by rw [List.length_append]; omega
  have h2 : ∀ l : List Nat, b.length + 1 ≤ ((b ++ pre x) ++ l).length := fun l => by rw [List.length_append]; omega
  have h3 : ∀ l m : List Nat, b.length + 1 ≤ (((b ++ pre x) ++ l) ++ m).length := fun l m => by rw [List.length_append]; have := h2 l; omega
  have h4 : ∀ l m n : List Nat, b.length + 1 ≤ ((((b ++ pre x) ++ l) ++ m) ++ n).length := fun l m n => by rw [List.length_append]; have := h3 l m; omega
  unfold oneF
  by_cases q2 : f = 2
  · rw [if_pos q2]; unfold oneF2; rw [op_pre]; exact h2 _
  rw [if_neg q2]
  by_cases q3 : f = 3
  · rw [if_pos q3]; unfold oneF3; rw [op_pre]; exact h2 _
  rw [if_neg q3]
  by_cases q4 : f = 4
  · rw [if_pos q4]; unfold oneF4; rw [op_pre]; exact h2 _
  rw [if_neg q4]
  by_cases q5 : f = 5
  · rw [if_pos q5]; unfold oneF5; rw [op_pre]; exact h2 _
  rw [if_neg q5]
  by_cases q6 : f = 6
  · rw [if_pos q6]; unfold oneF6; rw [op_pre]; exact h2 _
  rw [if_neg q6]
  by_cases q7 : f = 7
  · rw [if_pos q7]; unfold oneF7; rw [op_pre]; exact h3 _ _
  rw [if_neg q7]
  by_cases q8 : f = 8
  · rw [if_pos q8]; unfold oneF8; rw [op_pre]; split; exact h2 _; exact h0
  rw [if_neg q8]
  by_cases q9 : f = 9
  · rw [if_pos q9]; unfold oneF9; rw [op_pre]; split; exact h2 _; exact h0
  rw [if_neg q9]
  by_cases q10 : f = 10
  · rw [if_pos q10]; unfold oneF10; rw [op_pre]; exact h1 10
  rw [if_neg q10]
  by_cases q11 : f = 11
  · rw [if_pos q11]; unfold oneF11; rw [op_pre]; exact h1 11
  rw [if_neg q11]
  by_cases q12 : f = 12
  · rw [if_pos q12]; unfold oneF12; rw [op_pre]; exact h4 _ _ _
  rw [if_neg q12]
  by_cases q13 : f = 13
  · rw [if_pos q13]; unfold oneF13; rw [op_pre]; exact h2 _
  rw [if_neg q13]
  by_cases q14 : f = 14
  · rw [if_pos q14]; unfold oneF14; rw [op_pre]; exact h3 _ _
  rw [if_neg q14]
  unfold oneF0; rw [op_pre]; exact h0
theorem cho_le (x0 x5 : Int) (x6 x7 : List Int) (f : Int) (s : List Nat × Bool) : (choS x0 x5 x6 x7 f s).1.length ≤ s.1.length + 15 + 8 * x7.length := by
  have h1 := pad_len s.1
  have h2 := rows_len x0 x6 x7 f (x7.length - 1) (headS x0 x5 x7 f s)
  have h3 := head_len x0 x5 x7 f s
  unfold choS
  split
  · show (padB s.1).length ≤ _; omega
  · omega
theorem one_le (f : Int) (x : S82) (b : List Nat) : (oneF f x (b, true)).1.length ≤ b.length + 30 + 8 * x.f7.length := by
  have hp := pre_len x
  have hz : szI x.f2 ≤ 2 := by unfold szI; split <;> omega
  have hc := fun f => cho_le x.f0 x.f5 x.f6 x.f7 f (opS x.f1 x.f2 (b, true))
  rw [op_pre] at hc
  have h1 : ∀ f, (choS x.f0 x.f5 x.f6 x.f7 f (b ++ pre x, true)).1.length ≤ b.length + 30 + 8 * x.f7.length := fun f => by
    have := hc f
    rw [List.length_append] at this
    omega
  have h0 : (b ++ pre x).length ≤ b.length + 30 + 8 * x.f7.length := by rw [List.length_append]; omega
  have h2 : ∀ y m, m ≤ 4 → ((b ++ pre x) ++ bigB y m).length ≤ b.length + 30 + 8 * x.f7.length := fun y m hm => by rw [List.length_append, List.length_append, bigB_length]; omega
  have h3 : ∀ y z m n, m ≤ 4 → n ≤ 4 → (((b ++ pre x) ++ bigB y m) ++ bigB z n).length ≤ b.length + 30 + 8 * x.f7.length := fun y z m n hm hn => by rw [List.length_append, List.length_append, List.length_append, bigB_length, bigB_length]; omega
  have h4 : ∀ y z m n, m ≤ 4 → n ≤ 4 → ((((b ++ pre x) ++ bigB y m) ++ bigB z n) ++ [0]).length ≤ b.length + 30 + 8 * x.f7.length := fun y z m n hm hn => by rw [List.length_append, List.length_append, List.length_append, List.length_append, bigB_length, bigB_length]; simp only [List.length_cons, List.length_nil]; omega
  unfold oneF
  by_cases q2 : f = 2
  · rw [if_pos q2]; unfold oneF2; rw [op_pre]; exact h2 _ 1 (by omega)
  rw [if_neg q2]
  by_cases q3 : f = 3
  · rw [if_pos q3]; unfold oneF3; rw [op_pre]; exact h2 _ 2 (by omega)
  rw [if_neg q3]
  by_cases q4 : f = 4
  · rw [if_pos q4]; unfold oneF4; rw [op_pre]; exact h2 _ 1 (by omega)
  rw [if_neg q4]
  by_cases q5 : f = 5
  · rw [if_pos q5]; unfold oneF5; rw [op_pre]; exact h2 _ 2 (by omega)
  rw [if_neg q5]
  by_cases q6 : f = 6
  · rw [if_pos q6]; unfold oneF6; rw [op_pre]; exact h2 _ _ (by omega)
  rw [if_neg q6]
  by_cases q7 : f = 7
  · rw [if_pos q7]; unfold oneF7; rw [op_pre]; exact h3 _ _ _ _ (by omega) (by omega)
  rw [if_neg q7]
  by_cases q8 : f = 8
  · rw [if_pos q8]; unfold oneF8; rw [op_pre]; split; exact h2 _ 2 (by omega); exact h0
  rw [if_neg q8]
  by_cases q9 : f = 9
  · rw [if_pos q9]; unfold oneF9; rw [op_pre]; split; exact h2 _ 4 (by omega); exact h0
  rw [if_neg q9]
  by_cases q10 : f = 10
  · rw [if_pos q10]; unfold oneF10; rw [op_pre]; exact h1 10
  rw [if_neg q10]
  by_cases q11 : f = 11
  · rw [if_pos q11]; unfold oneF11; rw [op_pre]; exact h1 11
  rw [if_neg q11]
  by_cases q12 : f = 12
  · rw [if_pos q12]; unfold oneF12; rw [op_pre]; exact h4 _ _ 2 1 (by omega) (by omega)
  rw [if_neg q12]
  by_cases q13 : f = 13
  · rw [if_pos q13]; unfold oneF13; rw [op_pre]; exact h2 _ 1 (by omega)
  rw [if_neg q13]
  by_cases q14 : f = 14
  · rw [if_pos q14]; unfold oneF14; rw [op_pre]; exact h3 _ _ 2 1 (by omega) (by omega)
  rw [if_neg q14]
  unfold oneF0; rw [op_pre]; exact h0
def RL (w W : World) (V : Value) (b : List Nat) : Prop := Below w.heap.size w W ∧ mrow W w.heap.size 5 V b.length (u8s b)
theorem RL.step {w W W1 : World} {V : Value} {b : List Nat} (h : RL w W V b) (hb : Below W.heap.size W W1) : RL w W1 V b := ⟨below_then h.1 h.1.size hb, h.2.below hb⟩
theorem RL.app {w W1 : World} {V1 : Value} {b : List Nat} {s : ByteArray} (hb : Below w.heap.size w W1) (hm : mrow W1 w.heap.size 5 V1 (b.length + s.size) (u8s b ++ u8s (bs s))) : RL w W1 V1 (b ++ bs s) := by
  rw [← u8s_append, ← bs_length s, ← List.length_append] at hm
  exact ⟨hb, hm⟩
theorem RL.sl {w W : World} {V : Value} {b : List Nat} (h : RL w W V b) : ∃ A c, V = .slice A b.length c := mrow_slice h.2
theorem RL.str {w W : World} {V : Value} {b : List Nat} (h : RL w W V b) : (convert 87 9 V).run Try.prog W = .ok (.string (sb b)) W :=
  rd_str Try.underlying87 Try.underlying5 Try.underlying9 h.2.rd rfl
def RB (w W : World) (V : Value) (b : List Nat) (U : Value) (B : List Bool) : Prop := RL w W V b ∧ Kd.R Kd.bool 4 W w.heap.size (fun _ => True) U B
theorem RB.step {w W W1 : World} {V U : Value} {b : List Nat} {B : List Bool} (h : RB w W V b U B) (hb : Below W.heap.size W W1) : RB w W1 V b U B := ⟨h.1.step hb, Kd.R_below h.2 hb⟩
theorem RB.at' {w W : World} {V : Value} {b : List Nat} {g cap n : Nat} {B : List Bool} (h : RB w W V b (.slice (some ⟨g, 0, none⟩) n cap) B) (hn : B.length = n) (i : Int) (h0 : 0 ≤ i) (h1 : i < n) : W.cell? ⟨g, i.toNat, none⟩ = some (.bool (rdOf false B i)) ∧ W.frozen? ⟨g, i.toNat, none⟩ = false :=
  by subst hn; exact Kd.R_cell (enc := Value.bool) (h1 := fun _ => rfl) false h.2 i h0 h1
theorem RB.put {w W : World} {V : Value} {b : List Nat} {g cap n : Nat} {B : List Bool} (h : RB w W V b (.slice (some ⟨g, 0, none⟩) n cap) B) (hn : B.length = n) (i : Int) (x : Bool) : RB w (W.setCell ⟨g, i.toNat, none⟩ (.bool x)) V b (.slice (some ⟨g, 0, none⟩) n cap) (B.set i.toNat x) := by
  subst hn
  have h2 := Kd.R_put (enc := Value.bool) (h1 := fun _ => rfl) h.2 i x
  have hg := Kd.R_base h.2 g rfl
  obtain ⟨cells, hc⟩ := Kd.R_typed h.2 g rfl
  refine ⟨⟨h.1.1.setCell (p := ⟨g, i.toNat, none⟩) hg _, h.1.2.kept h2.2 (.inr (fun e => ?_))⟩, ?_⟩
  · obtain ⟨cur, fr, hc2⟩ := h.1.2.typed _ e
    rw [hc] at hc2
    injection hc2 with e1
    injection e1 with _ e2
    exact absurd e2 (by decide)
  · exact h2.1
def BO (B : List Bool) (n : Nat) (ks : List Int) : Prop := B.length = n ∧ ∀ i : Int, 0 ≤ i → i < n → rdOf false B i = decide (i ∈ ks)
theorem BO.start (n : Nat) : BO (List.replicate n false) n [] := by
  refine ⟨List.length_replicate, fun i h0 h1 => ?_⟩
  unfold rdOf
  rw [List.getD_eq_getElem?_getD, List.getElem?_replicate, if_pos (by omega)]; simp
theorem BO.put {B : List Bool} {n : Nat} {ks : List Int} (h : BO B n ks) (k : Int) (h0 : 0 ≤ k) (h1 : k < n) : BO (B.set k.toNat true) n (ks ++ [k]) := by
  refine ⟨by rw [List.length_set]; exact h.1, fun i g0 g1 => ?_⟩
  have hi := h.2 i g0 g1
  unfold rdOf at hi ⊢
  rw [List.getD_eq_getElem?_getD] at hi ⊢
  rw [List.getElem?_set]
  by_cases e : k = i
  · subst e
    rw [if_pos rfl, if_pos (by rw [h.1]; omega)]; simp
  · rw [if_neg (by omega), hi]
    simp [show ¬ i = k from fun h => e h.symm]
def Inc (ks : List Int) (n : Nat) : Prop := ∀ t ∈ ks, 0 ≤ t ∧ t < n
def jvmcoreref2_Encode.f (l0 : List S82) : Option (ByteArray × Int × Int) := if encOK l0 then some (encG l0 l0 0 []) else none
theorem letter_all : ∀ a b : Fin 16, a ≠ b → ((letter ((a.val : Nat) : Int)).toList == (letter ((b.val : Nat) : Int)).toList) = false := by decide +kernel
theorem letter_ne (f g : Int) (c : UInt8) (hf : 0 ≤ f ∧ f ≤ 15) (hg : 0 ≤ g ∧ g ≤ 15) (hc : (letter g).toList = [c]) (h : f ≠ g) : ((letter f).toList == ([c] : List UInt8)) = false := by
  rw [← hc]
  have := letter_all ⟨f.toNat, by omega⟩ ⟨g.toNat, by omega⟩ (by intro e; have := congrArg Fin.val e; simp only at this; omega)
  simpa [Int.toNat_of_nonneg hf.1, Int.toNat_of_nonneg hg.1] using this
set_option maxHeartbeats 8000000 in
set_option maxRecDepth 100000 in
theorem jvmcoreref2_Encode.calls (A0 : Option Addr) (c0 : Nat) (l0 : List (S82)) (r1 : ByteArray) (r2 : Int) (r3 : Int) (w : World) (hr0 : Kd.C k82 w A0 l0.length l0) (hc0 : l0.length ≤ c0) (h : jvmcoreref2_Encode.f l0 = some (r1, r2, r3)) :
    Calls Try.prog 40 #[.slice A0 l0.length c0] w fun e w' => e = .returned (.tuple #[.string r1, .int .i64 r2, .int .i64 r3]) ∧ Below w.heap.size w w' := by
  unfold jvmcoreref2_Encode.f at h
  by_cases hp : encOK l0
  · rw [if_pos hp, Option.some.injEq] at h
    have H := Aside0.mk h
    have HP := Aside0.mk hp
    have HN0 := Aside0.mk hp.1
    have HR0 := Aside0.mk hr0
    have HC0 := Aside0.mk hc0
    clear h hp hr0 hc0
    by_cases hz : l0.length = 0
    · have qz : ((l0.length : Int) == 0) = true := beq_iff_eq.2 (by omega)
      have hs : ((⟨#[]⟩ : ByteArray), (12 : Int), (0 : Int)) = (r1, r2, r3) := by
        have hl : l0 = [] := List.eq_nil_of_length_eq_zero hz
        have h := H.out
        subst hl
        exact h
      have HSS := Aside0.mk hs
      clear hs hz
      go_enter Try.func40, Try.ntmps40
      go_wp2
      go_ret3
      have hs := HSS.out
      injection hs with e1 e2
      injection e2 with e2 e3
      subst e1 e2 e3
      exact ⟨rfl, Below.refl _ _⟩
    · have qz : ((l0.length : Int) == 0) = false := beq_eq_false_iff_ne.2 (by omega)
      have HZ := Aside0.mk hz
      clear hz
      go_enter Try.func40, Try.ntmps40
      go_wp2_with fail
      go_loopw [5, 23] (fun v i wr => ∃ (k : Nat) (V : Value) (b : List Nat), k ≤ l0.length ∧ i = .int .i64 k ∧ v = V ∧ Aside0 (RL w wr V b) ∧ Aside0 (b.length ≤ 65535) ∧ Aside0 (Inc ((l0.take k).map (·.f0)) b.length) ∧ Aside0 (encG l0 (l0.drop k) k b = (r1, r2, r3))) (fun _ i _ => l0.length - (intOf i).toNat)
      case atStart => exact ⟨0, .slice none 0 0, [], Nat.zero_le _, rfl, rfl, ⟨Below.refl _ _, mrow.nil _ _ _⟩, ⟨Nat.zero_le _⟩, ⟨fun t ht => by cases ht⟩, H⟩
      case round =>
        clear H
        obtain ⟨k, V, b, hk, rfl, hV, HE, HNB, HI, HG⟩ := hrel
        obtain ⟨A, c, hV2⟩ := HE.out.sl
        subst hV2
        subst hV
        by_cases hlt : k < l0.length
        · have bk : decide ((k : Int) < (l0.length : Int)) = true := decide_eq_true (by omega)
          have HG2 := Aside0.mk ((show encG l0 (l0[k] :: l0.drop (k + 1)) k b = (r1, r2, r3) from (List.drop_eq_getElem_cons hlt) ▸ HG.out))
          have HTK := Aside0.mk (show (l0.take (k + 1)).map (·.f0) = (l0.take k).map (·.f0) ++ [l0[k].f0] by rw [List.take_succ_eq_append_getElem hlt, List.map_append]; rfl)
          clear HG
          obtain ⟨ad0, A6, c6, A7, c7, e0, x0, x1, x2, x3, x4, x5, x6, x7, hl6, hi6, hl7, hi7⟩ := at_T82 HR0.out (k : Int) (by omega) (by omega)
          subst e0
          rw [rdI_at hlt] at x0 x1 x2 x3 x4 x5 x6 x7 hl6 hi6 hl7 hi7
          simp only [Int.toNat_natCast] at x0 x1 x2 x3 x4 x5 x6 x7
          have y0 := pw_cell_below HE.out.1 x0
          have y1 := pw_cell_below HE.out.1 x1
          have y2 := pw_cell_below HE.out.1 x2
          have y3 := pw_cell_below HE.out.1 x3
          have y4 := pw_cell_below HE.out.1 x4
          have y5 := pw_cell_below HE.out.1 x5
          have y6 := pw_cell_below HE.out.1 x6
          have y7 := pw_cell_below HE.out.1 x7
          have HX6 := Aside0.mk (And.intro hi6 hl6)
          have HX7 := Aside0.mk (And.intro hi7 hl7)
          have HOK := Aside0.mk (HP.out.2 _ (List.getElem_mem hlt))
          have HLT := Aside0.mk hlt
          clear x0 x1 x2 x3 x4 x5 x6 x7 hi6 hl6 hi7 hl7 hk
          generalize l0[k] = x at *
          have HS := Aside0.mk ((encG.eq_2 ..).symm.trans HG2.out)
          clear HG2
          have HK1 := Aside0.mk (RS.start wr #[.int .i64 x.f0, .int .u8 x.f1, .bool x.f2, .int .i64 x.f3, .int .i64 x.f4, .int .i64 x.f5, .slice A6 x.f6.length c6, .slice A7 x.f7.length c7])
          have HB1 := Aside0.mk (HE.out.step HK1.out.1)
          clear HE
          obtain ⟨b0_1, b1_1, b2_1, b3_1, b4_1, b5_1, b6_1, b7_1⟩ := box8 HK1.out.2
          by_cases g0 : x.f0 = (b.length : Int)
          · have q0 : (x.f0 != (b.length : Int)) = false := bne_eq_false_iff_eq.2 g0
            have HG0 := Aside0.mk g0
            have hcv : wrap64 x.f1 = x.f1 := by rw [← i64_w, IntKind.wrap_i64]; have := HOK.out.1; omega
            have hcv2 : IntKind.i64.wrap x.f1 = x.f1 := (i64_w _).trans hcv
            clear g0
            go_upto_region 10 with ((go_at_call 80; refine (jvmcoreref2_form.calls x.f1 (letter (formF x.f1)) _ (formS_at x.f1 HOK.out.1)).mono ?_; rintro e3 w3 ⟨rfl, hd3⟩))
            have HK3 := Aside0.mk (HK1.out.step hd3.below)
            have HB3 := Aside0.mk (HB1.out.step hd3.below)
            clear b0_1 b1_1 b2_1 b3_1 b4_1 b5_1 b6_1 b7_1
            clear hd3 HK1 HB1 q0 hcv hcv2
            obtain ⟨f, hf⟩ : ∃ f, formF x.f1 = f := ⟨_, rfl⟩
            rw [hf] at HS ⊢
            have HF := Aside0.mk hf
            have HFR := Aside0.mk (hf ▸ formF_le x.f1)
            clear hf
            obtain ⟨b0_3, b1_3, b2_3, b3_3, b4_3, b5_3, b6_3, b7_3⟩ := box8 HK3.out.2
            have HS2 := Aside0.mk ((if_neg (fun h => h HG0.out)).symm.trans HS.out)
            go_cut [55] from 38 to 54 (fun vv wc => vv = .bool (badF x) ∧ Aside0 (RL w wc (.slice A b.length c) b ∧ RS wr wc (.cells #[.int .i64 x.f0, .int .u8 x.f1, .bool x.f2, .int .i64 x.f3, .int .i64 x.f4, .int .i64 x.f5, .slice A6 x.f6.length c6, .slice A7 x.f7.length c7] 82 (0, 0))))
            case first =>
              as_aux_lemma =>
              by_cases h1 : f = 1
              · subst h1
                have q1 : ((letter 1).toList == ([120] : List UInt8)) = true := by decide +kernel
                have hbad : badF x = true := by unfold badF; rw [HF.out]; simp [*]
                clear hlt
                go_wp2
                go_meet
                case rel => exact ⟨by rw [hbad], ⟨HB3.out, HK3.out⟩⟩
                
              · have q1 : ((letter f).toList == ([120] : List UInt8)) = false := letter_ne f 1 120 HFR.out (by decide) (by decide +kernel) h1
                by_cases h2 : f = 15
                · subst h2
                  have q2 : ((letter 15).toList == ([119] : List UInt8)) = true := by decide +kernel
                  have hbad : badF x = true := by unfold badF; rw [HF.out]; simp [*]
                  clear hlt
                  go_wp2
                  go_meet
                  case rel => exact ⟨by rw [hbad], ⟨HB3.out, HK3.out⟩⟩
                  
                · have q2 : ((letter f).toList == ([119] : List UInt8)) = false := letter_ne f 15 119 HFR.out (by decide) (by decide +kernel) h2
                  obtain ⟨z2, hz2⟩ : ∃ z2, x.f2 = z2 := ⟨_, rfl⟩
                  have hz3 := b2_3
                  rw [hz2] at hz3
                  have HZ2 := Aside0.mk hz2
                  clear hz2 b2_3
                  cases z2 with
                  | false =>
                    have hbad : badF x = false := by have hz2 := HZ2.out; unfold badF; rw [HF.out]; simp [*]
                    clear hlt
                    go_wp2
                    go_meet
                    case rel => exact ⟨by rw [hbad], ⟨HB3.out, HK3.out⟩⟩
                    
                  | true =>
                    by_cases h6 : f = 6
                    · subst h6
                      have q6 : ((letter 6).toList != ([108] : List UInt8)) = false := by decide +kernel
                      have p6 : (letter 6).toList = ([108] : List UInt8) := by decide +kernel
                      have s6 : ((letter 6).toList == ([108] : List UInt8)) = true := by decide +kernel
                      have hbad : badF x = false := by have hz2 := HZ2.out; unfold badF; rw [HF.out]; simp [*]
                      clear hlt
                      go_wp2
                      go_meet
                      case rel => exact ⟨by rw [hbad], ⟨HB3.out, HK3.out⟩⟩
                      
                    · have q6 : ((letter f).toList != ([108] : List UInt8)) = true := by rw [bne, letter_ne f 6 108 HFR.out (by decide) (by decide +kernel) h6]; rfl
                      have s6 : ((letter f).toList == ([108] : List UInt8)) = false := letter_ne f 6 108 HFR.out (by decide) (by decide +kernel) h6
                      have p6 : ¬ (letter f).toList = ([108] : List UInt8) := beq_eq_false_iff_ne.1 s6
                      by_cases h7 : f = 7
                      · subst h7
                        have q7 : ((letter 7).toList != ([110] : List UInt8)) = false := by decide +kernel
                        have p7 : (letter 7).toList = ([110] : List UInt8) := by decide +kernel
                        have s7 : ((letter 7).toList == ([110] : List UInt8)) = true := by decide +kernel
                        have hbad : badF x = false := by have hz2 := HZ2.out; unfold badF; rw [HF.out]; simp [*]
                        clear hlt
                        go_wp2
                        go_meet
                        case rel => exact ⟨by rw [hbad], ⟨HB3.out, HK3.out⟩⟩
                        
                      · have q7 : ((letter f).toList != ([110] : List UInt8)) = true := by rw [bne, letter_ne f 7 110 HFR.out (by decide) (by decide +kernel) h7]; rfl
                        have s7 : ((letter f).toList == ([110] : List UInt8)) = false := letter_ne f 7 110 HFR.out (by decide) (by decide +kernel) h7
                        have p7 : ¬ (letter f).toList = ([110] : List UInt8) := beq_eq_false_iff_ne.1 s7
                        have hbad : badF x = true := by have hz2 := HZ2.out; unfold badF; rw [HF.out]; simp [*]
                        clear hlt
                        go_wp2
                        go_meet
                        case rel => exact ⟨by rw [hbad], ⟨HB3.out, HK3.out⟩⟩
                        
            case rest =>
              obtain ⟨rfl, HW⟩ := hcut
              clear b0_3 b1_3 b2_3 b3_3 b4_3 b5_3 b6_3 b7_3
              clear HB3 HK3
              obtain ⟨b0_4, b1_4, b2_4, b3_4, b4_4, b5_4, b6_4, b7_4⟩ := box8 HW.out.2.2
              by_cases hC : badF x = true
              · rw [hC]
                have HC := Aside0.mk hC
                clear hC
                as_aux_lemma =>
                go_wp2
                go_ret3
                have hs := HS2.out
                rw [if_pos HC.out] at hs
                injection hs with e1 e2
                injection e2 with e2 e3
                subst e1 e2 e3
                exact ⟨rfl, HW.out.1.1⟩
              · have hC2 : badF x = false := Bool.eq_false_iff.2 hC
                rw [hC2]
                have HC := Aside0.mk hC
                obtain ⟨re, he1, he2⟩ := enc_any x b HOK.out.1 hC2 HG0.out (by have := HNB.out; omega) HOK.out.2.1 HOK.out.2.2.1
                have hgr := one_grow f x b
                rw [HF.out] at he1 he2
                have HGR := Aside0.mk hgr
                have HUP := Aside0.mk (one_le f x b)
                generalize oneF f x (b, true) = s5 at *
                obtain ⟨b5, ok5⟩ := s5
                dsimp only at he1 he2
                have HE2 := Aside0.mk he2
                clear hC hC2 he2 hgr
                go_wp2_with fail
                refine (jvmcoreref2_encode.calls 8 x.f0 x.f1 x.f2 x.f3 x.f4 x.f5 A6 c6 x.f6 A7 c7 x.f7 (letter f) re ok5 _ (Kd.C_below HX6.out.1 HW.out.1.1) HX6.out.2 (Kd.C_below HX7.out.1 HW.out.1.1) HX7.out.2 he1).mono ?_
                rintro e5 w5 ⟨rfl, hb5⟩
                have H5 := Aside0.mk (HW.out.1.step hb5)
                clear b0_4 b1_4 b2_4 b3_4 b4_4 b5_4 b6_4 b7_4
                clear hb5 HW he1
                cases ok5 with
                | false =>
                  as_aux_lemma =>
                  go_wp2
                  go_ret3
                  have hs : ((⟨#[]⟩ : ByteArray), (15 : Int), (k : Int)) = (r1, r2, r3) := by
                    have h := HS2.out
                    rw [if_neg HC.out] at h
                    exact h
                  injection hs with e1 e2
                  injection e2 with e2 e3
                  subst e1 e2 e3
                  exact ⟨rfl, H5.out.1⟩
                | true =>
                  have hb5 := HE2.out rfl
                  subst hb5
                  have hup := HUP.out
                  obtain ⟨b6, hb6⟩ : ∃ b6, b ++ bs re = b6 := ⟨_, rfl⟩
                  have hbz : b6.length = b.length + re.size := by rw [← hb6, List.length_append, bs_length]
                  have HBZ := Aside0.mk hbz
                  rw [hb6] at HS2 HGR hup
                  have HB6 := Aside0.mk hb6
                  have hbel5 : Below w.heap.size w w5 := H5.out.1
                  have hm5 : mrow w5 w.heap.size 5 (.slice A b.length c) b.length (u8s b) := H5.out.2
                  have hfit5 : b.length + re.size ≤ 140737488355328 := by have := HOK.out.2.2.1; have := HNB.out; (try dsimp only at hup); omega
                  have hsz5 : w.heap.size ≤ w5.heap.size := hbel5.size
                  clear hb6 hbz hup
                  by_cases hl : 65535 < b6.length
                  · have ql : decide ((b6.length : Int) > 65535) = true := decide_eq_true (by omega)
                    have HLL := Aside0.mk hl
                    clear hl
                    as_aux_lemma =>
                    go_wp2_with (at_builtin; refine app_ms rfl _ _ 87 9 rfl 5 Try.underlying87 Try.underlying9 Try.infoB w.heap.size w.heap.size (w0 := w) hbel5 (v := _) (n := b.length) (xs := u8s b) hm5 rfl re rfl hfit5 hsz5 (Nat.le_refl _) ?_; intro v6 w6 hown6 hbel6 hg6 hsep6; have H6 := RL.app hbel6 hown6; rw [HB6.out] at H6; obtain ⟨A9, c9, rfl⟩ := H6.sl; clear hown6 hbel6 hg6 hsep6 hbel5 hm5 hfit5 hsz5)
                    go_ret3
                    have hs := HS2.out
                    (try dsimp only at hs)
                    rw [if_neg HC.out, if_neg (show ¬ (true = false) by decide), if_pos HLL.out] at hs
                    injection hs with e1 e2
                    injection e2 with e2 e3
                    subst e1 e2 e3
                    exact ⟨rfl, H6.1⟩
                  · have ql : decide ((b6.length : Int) > 65535) = false := decide_eq_false (by omega)
                    have HS4 : Aside0 (encG l0 (l0.drop (k + 1)) (k + 1) b6 = (r1, r2, r3)) := ⟨by
                      have hs := HS2.out
                      (try dsimp only at hs)
                      rw [if_neg HC.out, if_neg (show ¬ (true = false) by decide), if_neg hl] at hs
                      exact hs⟩
                    have HL5 := Aside0.mk (show b6.length ≤ 65535 by omega)
                    have HI6 : Aside0 (Inc ((l0.take (k + 1)).map (·.f0)) b6.length) := ⟨by
                      rw [HTK.out]
                      have hg := HGR.out
                      (try dsimp only at hg)
                      intro t ht
                      rcases List.mem_append.1 ht with ht | ht
                      · have := HI.out t ht; omega
                      · rw [List.mem_singleton.1 ht, HG0.out]; omega⟩
                    clear hl
                    have wk : wrap64 ((k : Int) + 1) = ((k + 1 : Nat) : Int) := by rw [← i64_w, IntKind.wrap_i64]; have := HN0.out; omega
                    have WN := Aside0.mk (congrArg (Value.int IntKind.i64) wk)
                    have WI := Aside0.mk wk
                    clear wk
                    go_wp2_with (at_builtin; refine app_ms rfl _ _ 87 9 rfl 5 Try.underlying87 Try.underlying9 Try.infoB w.heap.size w.heap.size (w0 := w) hbel5 (v := _) (n := b.length) (xs := u8s b) hm5 rfl re rfl hfit5 hsz5 (Nat.le_refl _) ?_; intro v6 w6 hown6 hbel6 hg6 hsep6; have H6 := RL.app hbel6 hown6; rw [HB6.out] at H6; obtain ⟨A9, c9, rfl⟩ := H6.sl; clear hown6 hbel6 hg6 hsep6 hbel5 hm5 hfit5 hsz5)
                    go_roundw
                    case rel => exact ⟨k + 1, _, b6, HLT.out, by first | exact WN.out | exact WI.out, rfl, ⟨H6⟩, HL5, HI6, HS4⟩
                    case measure => exact ms_val HLT.out WN.out
          · have q0 : (x.f0 != (b.length : Int)) = true := bne_iff_ne.2 g0
            have HQ := Aside0.mk g0
            clear g0
            as_aux_lemma =>
            go_wp2
            go_ret3
            have hs := HS.out
            rw [if_pos HQ.out] at hs
            injection hs with e1 e2
            injection e2 with e2 e3
            subst e1 e2 e3
            exact ⟨rfl, HB1.out.1⟩
        · obtain rfl : k = l0.length := by omega
          have bk : decide ((l0.length : Int) < (l0.length : Int)) = false := decide_eq_false (by omega)
          have HT : Aside0 (tgtG (l0.map (·.f0)) b l0 0 = (r1, r2, r3)) := ⟨by
            have h := HG.out
            rw [List.drop_length] at h
            exact (if_neg HZ.out).symm.trans ((encG.eq_1 ..).symm.trans h)⟩
          have HKI : Aside0 (Inc (l0.map (·.f0)) b.length) := ⟨by have h := HI.out; rw [List.take_length] at h; exact h⟩
          have HPOS : Aside0 (0 < b.length) := ⟨by
            have h0 : 0 < l0.length := by have := HZ.out; omega
            have := HKI.out _ (List.mem_map.2 ⟨l0[0], List.getElem_mem h0, rfl⟩)
            omega⟩
          have hn0 : (0 : Int) ≤ (b.length : Int) := by omega
          have hnl : ((b.length : Int)).toNat * 1 ≤ 281474976710656 := by have := HNB.out; omega
          clear HG HI hlt hk
          go_wp2_with (first | (refine Kd.R_make Kd.bool _ 4 rfl (N := 76) rfl 120 _ _ rfl (b.length : Int) rfl rfl Try.underlying120 (.bool false) 1 info4 rfl (by decide) (by omega) false (ok := fun _ => True) (okp := fun _ => True) rfl (fun _ hk => hk) trivial hn0 hnl (Below.refl _ _) (Nat.le_refl _) ?_; intro U w2 hU hb2 hg2 hnew2; clear hg2 hnew2) | go_in)
          have HRB : Aside0 (RB w w2 (.slice A b.length c) b U (List.replicate b.length false)) := ⟨⟨HE.out.step hb2, by
            have h := Kd.R_lower hU HE.out.1.size
            rw [Int.toNat_natCast] at h
            exact h⟩⟩
          obtain ⟨gU, capU, hUe, _⟩ := Kd.R_form HRB.out.2 (by rw [List.length_replicate]; exact HPOS.out)
          rw [List.length_replicate] at hUe
          subst hUe
          clear hU hb2 hn0 hnl HE
          go_loopw [79] (fun i wr2 => ∃ (k : Nat) (B : List Bool), k ≤ l0.length ∧ i = .int .i64 k ∧ Aside0 (RB w wr2 (.slice A b.length c) b (.slice (some ⟨gU, 0, none⟩) b.length capU) B) ∧ Aside0 (BO B b.length ((l0.take k).map (·.f0)))) (fun i _ => l0.length - (intOf i).toNat)
          case atStart => exact ⟨0, _, Nat.zero_le _, rfl, HRB, ⟨BO.start _⟩⟩
          case round =>
            clear HRB
            obtain ⟨k, B, hk, rfl, HE, HBO⟩ := hrel
            by_cases hlt : k < l0.length
            · have bk2 : decide ((k : Int) < (l0.length : Int)) = true := decide_eq_true (by omega)
              have HTK := Aside0.mk (show (l0.take (k + 1)).map (·.f0) = (l0.take k).map (·.f0) ++ [l0[k].f0] by rw [List.take_succ_eq_append_getElem hlt, List.map_append]; rfl)
              have HXI := Aside0.mk (HKI.out l0[k].f0 (List.mem_map.2 ⟨l0[k], List.getElem_mem hlt, rfl⟩))
              obtain ⟨ad0, A6, c6, A7, c7, e0, x0, x1, x2, x3, x4, x5, x6, x7, hl6, hi6, hl7, hi7⟩ := at_T82 HR0.out (k : Int) (by omega) (by omega)
              subst e0
              rw [rdI_at hlt] at x0 x1 x2 x3 x4 x5 x6 x7 hl6 hi6 hl7 hi7
              simp only [Int.toNat_natCast] at x0 x1 x2 x3 x4 x5 x6 x7
              have y0 := pw_cell_below HE.out.1.1 x0
              have y1 := pw_cell_below HE.out.1.1 x1
              have y2 := pw_cell_below HE.out.1.1 x2
              have y3 := pw_cell_below HE.out.1.1 x3
              have y4 := pw_cell_below HE.out.1.1 x4
              have y5 := pw_cell_below HE.out.1.1 x5
              have y6 := pw_cell_below HE.out.1.1 x6
              have y7 := pw_cell_below HE.out.1.1 x7
              have HX6 := Aside0.mk (And.intro hi6 hl6)
              have HX7 := Aside0.mk (And.intro hi7 hl7)
              have HOK := Aside0.mk (HP.out.2 _ (List.getElem_mem hlt))
              have HLT := Aside0.mk hlt
              clear x0 x1 x2 x3 x4 x5 x6 x7 hi6 hl6 hi7 hl7 hk
              generalize l0[k] = x at *
              have i0 := HXI.out.1
              have i1 := HXI.out.2
              have hnb : (RS wr (wr.alloc (.cells #[.int .i64 x.f0, .int .u8 x.f1, .bool x.f2, .int .i64 x.f3, .int .i64 x.f4, .int .i64 x.f5, .slice A6 x.f6.length c6, .slice A7 x.f7.length c7] 82)) (.cells #[.int .i64 x.f0, .int .u8 x.f1, .bool x.f2, .int .i64 x.f3, .int .i64 x.f4, .int .i64 x.f5, .slice A6 x.f6.length c6, .slice A7 x.f7.length c7] 82 (0, 0))) := RS.start wr #[.int .i64 x.f0, .int .u8 x.f1, .bool x.f2, .int .i64 x.f3, .int .i64 x.f4, .int .i64 x.f5, .slice A6 x.f6.length c6, .slice A7 x.f7.length c7]
              have HK1 := Aside0.mk hnb
              have HB1 := Aside0.mk (HE.out.step hnb.1)
              clear HE hnb
              obtain ⟨b0_1, b1_1, b2_1, b3_1, b4_1, b5_1, b6_1, b7_1⟩ := box8 HK1.out.2
              obtain ⟨u1, u2⟩ := HB1.out.at' HBO.out.1 x.f0 i0 i1
              have wk : wrap64 ((k : Int) + 1) = ((k + 1 : Nat) : Int) := by rw [← i64_w, IntKind.wrap_i64]; have := HN0.out; omega
              have WN := Aside0.mk (congrArg (Value.int IntKind.i64) wk)
              have WI := Aside0.mk wk
              clear wk
              go_wp2
              go_roundw
              case rel => exact ⟨k + 1, _, HLT.out, by first | exact WN.out | exact WI.out, ⟨HB1.out.put HBO.out.1 x.f0 true⟩, ⟨by rw [HTK.out]; exact HBO.out.put x.f0 i0 i1⟩⟩
              case measure => exact ms_val HLT.out WN.out
            · obtain rfl : k = l0.length := by omega
              have bk2 : decide ((l0.length : Int) < (l0.length : Int)) = false := decide_eq_false (by omega)
              have HBK : Aside0 (BO B b.length (l0.map (·.f0))) := ⟨by have h := HBO.out; rw [List.take_length] at h; exact h⟩
              have HEE := HE
              clear HBO hlt hk
              go_wp2_with fail
              go_loopw [90] (fun i wr2 => ∃ k : Nat, k ≤ l0.length ∧ i = .int .i64 k ∧ Aside0 (RB w wr2 (.slice A b.length c) b (.slice (some ⟨gU, 0, none⟩) b.length capU) B) ∧ Aside0 (tgtG (l0.map (·.f0)) b (l0.drop k) k = (r1, r2, r3))) (fun i _ => l0.length - (intOf i).toNat)
              case atStart => exact ⟨0, Nat.zero_le _, rfl, HEE, HT⟩
              case round =>
                clear HE HEE HT
                obtain ⟨k, hk, rfl, HE, HG⟩ := hrel
                by_cases hlt : k < l0.length
                · have bk3 : decide ((k : Int) < (l0.length : Int)) = true := decide_eq_true (by omega)
                  have HG2 := Aside0.mk ((show tgtG (l0.map (·.f0)) b (l0[k] :: l0.drop (k + 1)) k = (r1, r2, r3) from (List.drop_eq_getElem_cons hlt) ▸ HG.out))
                  clear HG
                  obtain ⟨ad0, A6, c6, A7, c7, e0, x0, x1, x2, x3, x4, x5, x6, x7, hl6, hi6, hl7, hi7⟩ := at_T82 HR0.out (k : Int) (by omega) (by omega)
                  subst e0
                  rw [rdI_at hlt] at x0 x1 x2 x3 x4 x5 x6 x7 hl6 hi6 hl7 hi7
                  simp only [Int.toNat_natCast] at x0 x1 x2 x3 x4 x5 x6 x7
                  have y0 := pw_cell_below HE.out.1.1 x0
                  have y1 := pw_cell_below HE.out.1.1 x1
                  have y2 := pw_cell_below HE.out.1.1 x2
                  have y3 := pw_cell_below HE.out.1.1 x3
                  have y4 := pw_cell_below HE.out.1.1 x4
                  have y5 := pw_cell_below HE.out.1.1 x5
                  have y6 := pw_cell_below HE.out.1.1 x6
                  have y7 := pw_cell_below HE.out.1.1 x7
                  have HX6 := Aside0.mk (And.intro hi6 hl6)
                  have HX7 := Aside0.mk (And.intro hi7 hl7)
                  have HOK := Aside0.mk (HP.out.2 _ (List.getElem_mem hlt))
                  have HLT := Aside0.mk hlt
                  clear x0 x1 x2 x3 x4 x5 x6 x7 hi6 hl6 hi7 hl7 hk
                  generalize l0[k] = x at *
                  have HS := Aside0.mk ((tgtG.eq_2 ..).symm.trans HG2.out)
                  clear HG2
                  have HK1 := Aside0.mk (RS.start wr #[.int .i64 x.f0, .int .u8 x.f1, .bool x.f2, .int .i64 x.f3, .int .i64 x.f4, .int .i64 x.f5, .slice A6 x.f6.length c6, .slice A7 x.f7.length c7])
                  have HB1 := Aside0.mk (HE.out.step HK1.out.1)
                  obtain ⟨b0_1, b1_1, b2_1, b3_1, b4_1, b5_1, b6_1, b7_1⟩ := box8 HK1.out.2
                  clear HE
                  go_wp2_with fail
                  go_loopw [98] (fun i wr3 => ∃ j : Nat, j ≤ x.f7.length ∧ i = .int .i64 j ∧ Aside0 (RB w wr3 (.slice A b.length c) b (.slice (some ⟨gU, 0, none⟩) b.length capU) B) ∧ Aside0 ((if (x.f7.drop j).all (fun t => decide (t ∈ l0.map (·.f0))) = true then tgtG (l0.map (·.f0)) b (l0.drop (k + 1)) (k + 1) else ((⟨#[]⟩ : ByteArray), 16, (k : Int))) = (r1, r2, r3))) (fun i _ => x.f7.length - (intOf i).toNat)
                  case atStart => exact ⟨0, Nat.zero_le _, rfl, ⟨HB1.out⟩, HS⟩
                  case round =>
                    clear HB1 HK1 HS y0 y1 y2 y3 y4 y5 y6 y7 b0_1 b1_1 b2_1 b3_1 b4_1 b5_1 b6_1 b7_1
                    obtain ⟨j, hj, rfl, HE, HG⟩ := hrel
                    by_cases hjt : j < x.f7.length
                    · have bj : decide ((j : Int) < (x.f7.length : Int)) = true := decide_eq_true (by omega)
                      obtain ⟨ad7, e7, z0⟩ := Kd.at_int HX7.out.1 (j : Int) (by omega) (by omega)
                      subst e7
                      simp only [Int.toNat_natCast] at z0
                      have y0 := pw_cell_below HE.out.1.1 z0
                      have hrd : rd x.f7 (j : Int) = x.f7[j] := by unfold rd; rw [Int.toNat_natCast, List.getD_eq_getElem?_getD, List.getElem?_eq_getElem hjt]; rfl
                      rw [hrd] at y0
                      have HG2 : Aside0 ((if (x.f7[j] :: x.f7.drop (j + 1)).all (fun t => decide (t ∈ l0.map (·.f0))) = true then tgtG (l0.map (·.f0)) b (l0.drop (k + 1)) (k + 1) else ((⟨#[]⟩ : ByteArray), 16, (k : Int))) = (r1, r2, r3)) := ⟨(List.drop_eq_getElem_cons hjt) ▸ HG.out⟩
                      clear HG z0 hrd
                      have HJT := Aside0.mk hjt
                      generalize x.f7[j] = t at *
                      have HNO : Aside0 (t ∉ l0.map (·.f0) → ((⟨#[]⟩ : ByteArray), (16 : Int), (k : Int)) = (r1, r2, r3)) := ⟨fun ht => by
                        have h := HG2.out
                        rw [List.all_cons, decide_eq_false ht, Bool.false_and, if_neg (by decide)] at h
                        exact h⟩
                      by_cases n0 : t < 0
                      · have m0 : decide (t < 0) = true := decide_eq_true n0
                        have HSS := Aside0.mk (HNO.out (fun h => by have := HKI.out t h; omega))
                        clear n0
                        as_aux_lemma =>
                        go_wp2
                        go_ret3
                        have hs := HSS.out
                        injection hs with e1 e2
                        injection e2 with e2 e3
                        subst e1 e2 e3
                        exact ⟨rfl, HE.out.1.1⟩
                      · have m0 : decide (t < 0) = false := decide_eq_false n0
                        by_cases n1 : t ≥ (b.length : Int)
                        · have m1 : decide (t ≥ (b.length : Int)) = true := decide_eq_true n1
                          have HSS := Aside0.mk (HNO.out (fun h => by have := HKI.out t h; omega))
                          clear n0 n1
                          as_aux_lemma =>
                          go_wp2
                          go_ret3
                          have hs := HSS.out
                          injection hs with e1 e2
                          injection e2 with e2 e3
                          subst e1 e2 e3
                          exact ⟨rfl, HE.out.1.1⟩
                        · have m1 : decide (t ≥ (b.length : Int)) = false := decide_eq_false n1
                          have i0 : (0 : Int) ≤ t := by omega
                          have i1 : t < (b.length : Int) := by omega
                          obtain ⟨u1, u2⟩ := HE.out.at' HBK.out.1 t i0 i1
                          rw [HBK.out.2 t i0 i1] at u1
                          by_cases ht : t ∈ l0.map (·.f0)
                          · rw [decide_eq_true ht] at u1
                            have HT3 : Aside0 ((if (x.f7.drop (j + 1)).all (fun t => decide (t ∈ l0.map (·.f0))) = true then tgtG (l0.map (·.f0)) b (l0.drop (k + 1)) (k + 1) else ((⟨#[]⟩ : ByteArray), 16, (k : Int))) = (r1, r2, r3)) := ⟨by
                              have h := HG2.out
                              rw [List.all_cons, decide_eq_true ht, Bool.true_and] at h
                              exact h⟩
                            have wk : wrap64 ((j : Int) + 1) = ((j + 1 : Nat) : Int) := by rw [← i64_w, IntKind.wrap_i64]; have := HOK.out.2.2.1; omega
                            have WN := Aside0.mk (congrArg (Value.int IntKind.i64) wk)
                            have WI := Aside0.mk wk
                            clear wk ht HG2 hj n0 n1
                            go_wp2
                            go_roundw
                            case rel => exact ⟨j + 1, HJT.out, by first | exact WN.out | exact WI.out, HE, HT3⟩
                            case measure => exact ms_val HJT.out WN.out
                          · rw [decide_eq_false ht] at u1
                            have HSS := Aside0.mk (HNO.out ht)
                            clear ht HG2 hj n0 n1
                            as_aux_lemma =>
                            go_wp2
                            go_ret3
                            have hs := HSS.out
                            injection hs with e1 e2
                            injection e2 with e2 e3
                            subst e1 e2 e3
                            exact ⟨rfl, HE.out.1.1⟩
                    · obtain rfl : j = x.f7.length := by omega
                      have bj : decide ((x.f7.length : Int) < (x.f7.length : Int)) = false := decide_eq_false (by omega)
                      have HT3 : Aside0 (tgtG (l0.map (·.f0)) b (l0.drop (k + 1)) (k + 1) = (r1, r2, r3)) := ⟨by
                        have h := HG.out
                        rw [List.drop_length] at h
                        exact h⟩
                      have wk : wrap64 ((k : Int) + 1) = ((k + 1 : Nat) : Int) := by rw [← i64_w, IntKind.wrap_i64]; have := HN0.out; omega
                      have WN := Aside0.mk (congrArg (Value.int IntKind.i64) wk)
                      have WI := Aside0.mk wk
                      clear wk
                      go_wp2
                      go_roundw
                      case rel => exact ⟨k + 1, HLT.out, by first | exact WN.out | exact WI.out, HE, HT3⟩
                      case measure => exact ms_val HLT.out WN.out
                · obtain rfl : k = l0.length := by omega
                  have bk3 : decide ((l0.length : Int) < (l0.length : Int)) = false := decide_eq_false (by omega)
                  have hs0 := HG.out
                  rw [List.drop_length] at hs0
                  have HSS := Aside0.mk ((tgtG.eq_1 ..).symm.trans hs0)
                  have hstr := HE.out.1.str
                  clear hs0 HG hlt
                  go_wp2
                  go_ret3
                  have hs := HSS.out
                  injection hs with e1 e2
                  injection e2 with e2 e3
                  subst e1 e2 e3
                  exact ⟨rfl, HE.out.1.1⟩
  · rw [if_neg hp] at h
    exact absurd h (by simp)
end Go.Proofs.Ytfnjbmpolggdeaa.CW
end
section
namespace Go.Proofs.Ytfnjbmpolggdeaa.CW
open Go.RowKit Go.Proofs.YtfnjbmpolggdeaaW.PrintWords Go.Proofs.YtfnjbmpolggdeaaW.PrintLast Go.Proofs.YtfnjbmpolggdeaaW.PrintMore
attribute [local go_sem] max2_int min2_int max_two min_two max_three min_three max_four min_four   -- for this text's walks alone
set_option linter.unusedVariables false
set_option linter.unusedSimpArgs false
def jvmcorelaw2_sameInts.l0 : Nat → List Int → List Int → Int → Int → Option (Bool)
  | 0, _, _, _, _ => none
  | k + 1, x0, x1, x12, x13 => if x13 < x12 then (if 0 ≤ x13 then (if x13 < (x0.length : Int) then (if x13 < (x1.length : Int) then (if (rd x0 x13) = (rd x1 x13) then (jvmcorelaw2_sameInts.l0 k x0 x1 x12 (wrap64 (x13 + 1))) else (some false)) else (none)) else (none)) else (none)) else (some true)
def jvmcorelaw2_sameInts.f (k : Nat) (l0 : List Int) (l1 : List Int) : Option (Bool) := if (l0.length : Int) = (l1.length : Int) then (jvmcorelaw2_sameInts.l0 k l0 l1 (l0.length : Int) 0) else (some false)
theorem jvmcorelaw2_sameInts.mono_l : ∀ k, (∀ y0 y1 y2 y3, LeO (jvmcorelaw2_sameInts.l0 k y0 y1 y2 y3) (jvmcorelaw2_sameInts.l0 (k + 1) y0 y1 y2 y3))
  | 0 => fun _ _ _ _ r h => by simp [jvmcorelaw2_sameInts.l0] at h
  | k + 1 => by
    have ih0 := jvmcorelaw2_sameInts.mono_l k
    · intro y0 y1 y2 y3
      unfold jvmcorelaw2_sameInts.l0
      repeat' first
      | (with_reducible exact ih0 _ _ _ _)
      | (with_reducible exact LeO.refl _)
      | (with_reducible exact LeO.none _)
      | (with_reducible refine LeO.ite ?_ ?_)
      | (with_reducible refine LeO.bind ?_ (fun _ => ?_))
theorem jvmcorelaw2_sameInts.mono : ∀ a0 a1 k, LeO (jvmcorelaw2_sameInts.f k a0 a1) (jvmcorelaw2_sameInts.f (k + 1) a0 a1) := by
  intro a0 a1 k
  have ih0 := jvmcorelaw2_sameInts.mono_l k
  unfold jvmcorelaw2_sameInts.f
  repeat' first
      | (with_reducible exact ih0 _ _ _ _)
      | (with_reducible exact LeO.refl _)
      | (with_reducible exact LeO.none _)
      | (with_reducible refine LeO.ite ?_ ?_)
      | (with_reducible refine LeO.bind ?_ (fun _ => ?_))
set_option maxHeartbeats 8000000 in
set_option maxRecDepth 100000 in
theorem jvmcorelaw2_sameInts.calls (k : Nat) (A0 : Option Addr) (c0 : Nat) (l0 : List Int) (A1 : Option Addr) (c1 : Nat) (l1 : List Int) (r : Bool) (w : World) (hr0 : Kd.C (Kd.int .i64) w A0 l0.length l0) (hc0 : l0.length ≤ c0) (hr1 : Kd.C (Kd.int .i64) w A1 l1.length l1) (hc1 : l1.length ≤ c1) (h : jvmcorelaw2_sameInts.f k l0 l1 = some r) :
    Calls Try.prog 82 #[.slice A0 l0.length c0, .slice A1 l1.length c1] w fun e w' => e = .returned (.bool r) ∧ Drawn0 w w' := by
  have HR0 := Aside0.mk hr0
  have HC0 := Aside0.mk hc0
  clear hr0 hc0
  have HR1 := Aside0.mk hr1
  have HC1 := Aside0.mk hc1
  clear hr1 hc1
  have H : (if (l0.length : Int) = (l1.length : Int) then (jvmcorelaw2_sameInts.l0 k l0 l1 (l0.length : Int) 0) else (some false)) = some r := h
  clear h
  by_cases c3 : (l0.length : Int) = (l1.length : Int)
  · rw [if_pos c3] at H
    have c3b0 : ((l0.length : Int) == (l1.length : Int)) = true := beq_iff_eq.mpr c3
    have c3b1 : ((l0.length : Int) != (l1.length : Int)) = false := bne_eq_false_iff_eq.mpr c3
    have c3b2 : (l0.length == l1.length) = true := by first | simpa using c3 | (simp at c3 ⊢; omega)
    clear c3
    have H' := Aside0.mk H
    clear H
    go_enter Try.func82, Try.ntmps82
    go_wp2
    repeat (go_quiet (fail); try go_wp2)
    go_loopg [13] k (fun kq v13 w' => ∃ (x13_1 : Int), v13 = .int .i64 x13_1 ∧ Aside0 (jvmcorelaw2_sameInts.l0 kq l0 l1 (l0.length : Int) x13_1 = some r) ∧ Aside0 (kq ≤ k) ∧ Drawn0 w w')
    case atStart => exact ⟨(0), (by first | rfl | (simp; done) | (simp [*]; done)), H', ⟨Nat.le_refl _⟩, by repeat (first | exact Drawn0.refl _ | apply Drawn0.step)⟩
    case round =>
      clear H'
      try clear c1
      try clear p2
      try clear c3
      try clear c3b0
      try clear c3b1
      try clear c3b2
      obtain ⟨x13_1, rfl, HA, HK1, ⟨m1, rfl⟩⟩ := hrel
      cases gk with
      | zero => exact absurd HA.out (by simp [jvmcorelaw2_sameInts.l0])
      | succ k1 =>
        have H := HA.out
        clear HA
        simp only [jvmcorelaw2_sameInts.l0] at H
        by_cases c4 : x13_1 < (l0.length : Int)
        · rw [if_pos c4] at H
          have c4b0 : decide (x13_1 < (l0.length : Int)) = true := decide_eq_true c4
          clear c4
          by_cases c5 : 0 ≤ x13_1
          · rw [if_pos c5] at H
            have c5b0 : decide (0 ≤ x13_1) = true := decide_eq_true c5
            clear c5
            by_cases c6 : x13_1 < (l0.length : Int)
            · rw [if_pos c6] at H
              have c6b0 : decide (x13_1 < (l0.length : Int)) = true := decide_eq_true c6
              clear c6
              by_cases c7 : x13_1 < (l1.length : Int)
              · rw [if_pos c7] at H
                have c7b0 : decide (x13_1 < (l1.length : Int)) = true := decide_eq_true c7
                clear c7
                by_cases c8 : (rd l0 x13_1) = (rd l1 x13_1)
                · rw [if_pos c8] at H
                  have c8b0 : ((rd l0 x13_1) == (rd l1 x13_1)) = true := beq_iff_eq.mpr c8
                  have c8b1 : ((rd l0 x13_1) != (rd l1 x13_1)) = false := bne_eq_false_iff_eq.mpr c8
                  clear c8
                  have H' := Aside0.mk H
                  clear H
                  have p175 : 0 ≤ (x13_1 : Int) := of_decide_eq_true (by first | (with_reducible assumption) | assumption)
                  have q175 : x13_1 < (l0.length : Int) := of_decide_eq_true (by first | (with_reducible assumption) | assumption)
                  obtain ⟨ad175, e175, hx175_0⟩ := Kd.at_int HR0.out x13_1 p175 q175
                  cases e175
                  replace p175 := eq_true p175
                  replace q175 := eq_true q175
                  have p176 : 0 ≤ (x13_1 : Int) := of_decide_eq_true (by first | (with_reducible assumption) | assumption)
                  have q176 : x13_1 < (l1.length : Int) := of_decide_eq_true (by first | (with_reducible assumption) | assumption)
                  obtain ⟨ad176, e176, hx176_0⟩ := Kd.at_int HR1.out x13_1 p176 q176
                  cases e176
                  replace p176 := eq_true p176
                  replace q176 := eq_true q176
                  go_wp2
                  repeat (go_quiet (fail); try go_wp2)
                  go_roundg k1
                  case measure => have := HK1.out; omega
                  case rel => exact ⟨(wrap64 (x13_1 + 1)), (by first | rfl | (simp; done) | (simp [*]; done)), H', ⟨by have := HK1.out; omega⟩, by repeat (first | exact Drawn0.refl _ | apply Drawn0.step)⟩
                · rw [if_neg c8] at H
                  have c8b0 : ((rd l0 x13_1) == (rd l1 x13_1)) = false := beq_eq_false_iff_ne.mpr c8
                  have c8b1 : ((rd l0 x13_1) != (rd l1 x13_1)) = true := bne_iff_ne.mpr c8
                  obtain rfl := Option.some.inj H
                  have p175 : 0 ≤ (x13_1 : Int) := of_decide_eq_true (by first | (with_reducible assumption) | assumption)
                  have q175 : x13_1 < (l0.length : Int) := of_decide_eq_true (by first | (with_reducible assumption) | assumption)
                  obtain ⟨ad175, e175, hx175_0⟩ := Kd.at_int HR0.out x13_1 p175 q175
                  cases e175
                  replace p175 := eq_true p175
                  replace q175 := eq_true q175
                  have p176 : 0 ≤ (x13_1 : Int) := of_decide_eq_true (by first | (with_reducible assumption) | assumption)
                  have q176 : x13_1 < (l1.length : Int) := of_decide_eq_true (by first | (with_reducible assumption) | assumption)
                  obtain ⟨ad176, e176, hx176_0⟩ := Kd.at_int HR1.out x13_1 p176 q176
                  cases e176
                  replace p176 := eq_true p176
                  replace q176 := eq_true q176
                  go_wp2
                  repeat (go_quiet (fail); try go_wp2)
                  go_ret
                  exact ⟨by first | rfl | (simp; done) | (simp [*]; done), by repeat (first | exact Drawn0.refl _ | apply Drawn0.step)⟩
              · rw [if_neg c7] at H
                exact absurd H (by simp)
            · rw [if_neg c6] at H
              exact absurd H (by simp)
          · rw [if_neg c5] at H
            exact absurd H (by simp)
        · rw [if_neg c4] at H
          have c4b0 : decide (x13_1 < (l0.length : Int)) = false := decide_eq_false c4
          clear c4
          obtain rfl := Option.some.inj H
          go_wp2
          repeat (go_quiet (fail); try go_wp2)
          go_ret
          exact ⟨by first | rfl | (simp; done) | (simp [*]; done), by repeat (first | exact Drawn0.refl _ | apply Drawn0.step)⟩
  · rw [if_neg c3] at H
    have c3b0 : ((l0.length : Int) == (l1.length : Int)) = false := beq_eq_false_iff_ne.mpr c3
    have c3b1 : ((l0.length : Int) != (l1.length : Int)) = true := bne_iff_ne.mpr c3
    have c3b2 : (l0.length == l1.length) = false := by first | simpa using c3 | (simp at c3 ⊢; omega)
    obtain rfl := Option.some.inj H
    go_enter Try.func82, Try.ntmps82
    go_wp2
    repeat (go_quiet (fail); try go_wp2)
    go_ret
    exact ⟨by first | rfl | (simp; done) | (simp [*]; done), by repeat (first | exact Drawn0.refl _ | apply Drawn0.step)⟩
end Go.Proofs.Ytfnjbmpolggdeaa.CW
end
section
namespace Go.Proofs.Ytfnjbmpolggdeaa.CW
open Go.RowKit Go.Proofs.YtfnjbmpolggdeaaW.PrintWords Go.Proofs.YtfnjbmpolggdeaaW.PrintLast Go.Proofs.YtfnjbmpolggdeaaW.PrintMore
attribute [local go_sem] max2_int min2_int max_two min_two max_three min_three max_four min_four   -- for this text's walks alone
set_option linter.unusedVariables false
set_option linter.unusedSimpArgs false
def jvmcorelaw2_same.l0 : Nat → List (S82) → List (S82) → Int → Int → Option (Bool)
  | 0, _, _, _, _ => none
  | k + 1, x0, x1, x14, x15 => if x15 < x14 then (if 0 ≤ x15 then (if x15 < (x0.length : Int) then (if x15 < (x1.length : Int) then (if ((rd_T82 x0 x15).f0) = ((rd_T82 x1 x15).f0) then (if ((rd_T82 x0 x15).f1) = ((rd_T82 x1 x15).f1) then (if (((rd_T82 x0 x15).f2) != ((rd_T82 x1 x15).f2)) = true then (some false) else (if ((rd_T82 x0 x15).f3) = ((rd_T82 x1 x15).f3) then (if ((rd_T82 x0 x15).f4) = ((rd_T82 x1 x15).f4) then (if ((rd_T82 x0 x15).f5) = ((rd_T82 x1 x15).f5) then ((jvmcorelaw2_sameInts.f k ((rd_T82 x0 x15).f6) ((rd_T82 x1 x15).f6)).bind fun t224 => (if t224 = true then ((jvmcorelaw2_sameInts.f k ((rd_T82 x0 x15).f7) ((rd_T82 x1 x15).f7)).bind fun t225 => (if t225 = true then (jvmcorelaw2_same.l0 k x0 x1 x14 (wrap64 (x15 + 1))) else (some false))) else (some false))) else (some false)) else (some false)) else (some false))) else (some false)) else (some false)) else (none)) else (none)) else (none)) else (some true)
def jvmcorelaw2_same.g (k : Nat) (l0 : List (S82)) (l1 : List (S82)) : Option (Bool) := if (l0.length : Int) = (l1.length : Int) then (jvmcorelaw2_same.l0 k l0 l1 (l0.length : Int) 0) else (some false)
theorem jvmcorelaw2_same.mono_l : ∀ k, (∀ y0 y1 y2 y3, LeO (jvmcorelaw2_same.l0 k y0 y1 y2 y3) (jvmcorelaw2_same.l0 (k + 1) y0 y1 y2 y3))
  | 0 => fun _ _ _ _ r h => by simp [jvmcorelaw2_same.l0] at h
  | k + 1 => by
    have ih0 := jvmcorelaw2_same.mono_l k
    · intro y0 y1 y2 y3
      unfold jvmcorelaw2_same.l0
      repeat' first
      | (with_reducible exact ih0 _ _ _ _)
      | (with_reducible exact jvmcorelaw2_sameInts.mono _ _ _)
      | (with_reducible exact LeO.refl _)
      | (with_reducible exact LeO.none _)
      | (with_reducible refine LeO.ite ?_ ?_)
      | (with_reducible refine LeO.bind ?_ (fun _ => ?_))
      | exact ih0 _ _ _ _
      | exact jvmcorelaw2_sameInts.mono _ _ _
      | exact LeO.none _
      | refine LeO.ite ?_ ?_
      | refine LeO.bind ?_ (fun _ => ?_)
theorem jvmcorelaw2_same.monog : ∀ a0 a1 k, LeO (jvmcorelaw2_same.g k a0 a1) (jvmcorelaw2_same.g (k + 1) a0 a1) := by
  intro a0 a1 k
  have ih0 := jvmcorelaw2_same.mono_l k
  unfold jvmcorelaw2_same.g
  repeat' first
      | (with_reducible exact ih0 _ _ _ _)
      | (with_reducible exact jvmcorelaw2_sameInts.mono _ _ _)
      | (with_reducible exact LeO.refl _)
      | (with_reducible exact LeO.none _)
      | (with_reducible refine LeO.ite ?_ ?_)
      | (with_reducible refine LeO.bind ?_ (fun _ => ?_))
      | exact ih0 _ _ _ _
      | exact jvmcorelaw2_sameInts.mono _ _ _
      | exact LeO.none _
      | refine LeO.ite ?_ ?_
      | refine LeO.bind ?_ (fun _ => ?_)
set_option maxHeartbeats 8000000 in
set_option maxRecDepth 100000 in
theorem jvmcorelaw2_same.callsT (k : Nat) (A0 : Option Addr) (c0 : Nat) (l0 : List (S82)) (A1 : Option Addr) (c1 : Nat) (l1 : List (S82)) (w : World) (hr0 : Kd.C k82 w A0 l0.length l0) (hc0 : l0.length ≤ c0) (hr1 : Kd.C k82 w A1 l1.length l1) (hc1 : l1.length ≤ c1) (h : jvmcorelaw2_same.g k l0 l1 = some true) :
    Calls Try.prog 41 #[.slice A0 l0.length c0, .slice A1 l1.length c1] w fun e w' => e = .returned (.bool true) ∧ Below w.heap.size w w' := by
  have hu82 := Try.underlying82
  have HR0 := Aside0.mk hr0
  have HC0 := Aside0.mk hc0
  clear hr0 hc0
  have HR1 := Aside0.mk hr1
  have HC1 := Aside0.mk hc1
  clear hr1 hc1
  have HB := Aside0.mk (Below.refl w.heap.size w)
  have H : (if (l0.length : Int) = (l1.length : Int) then (jvmcorelaw2_same.l0 k l0 l1 (l0.length : Int) 0) else (some false)) = some true := h
  clear h
  by_cases c3 : (l0.length : Int) = (l1.length : Int)
  · rw [if_pos c3] at H
    have c3b0 : ((l0.length : Int) == (l1.length : Int)) = true := beq_iff_eq.mpr c3
    have c3b1 : ((l0.length : Int) != (l1.length : Int)) = false := bne_eq_false_iff_eq.mpr c3
    have c3b2 : (l0.length == l1.length) = true := by first | simpa using c3 | (simp at c3 ⊢; omega)
    clear c3
    have H' := Aside0.mk H
    clear H
    go_enter Try.func41, Try.ntmps41
    go_wp2
    go_loopg [15] k (fun kq v15 w' => ∃ (x15_1 : Int), v15 = .int .i64 x15_1 ∧ Aside0 (jvmcorelaw2_same.l0 kq l0 l1 (l0.length : Int) x15_1 = some true) ∧ Aside0 (kq ≤ k) ∧ Aside0 (Below w.heap.size w w'))
    case atStart => exact ⟨(0), (by first | rfl | (simp; done) | (simp [*]; done)), H', ⟨Nat.le_refl _⟩, ⟨by repeat (first | (with_reducible first | exact HB.out | apply below_alloc | apply pw_below_drewN | apply below_drew1) | exact HB.out)⟩⟩
    case round =>
      clear H'
      try clear c1
      try clear c2
      try clear p2
      try clear c3
      try clear c3b0
      try clear c3b1
      try clear c3b2
      obtain ⟨x15_1, rfl, HA, HK1, HB⟩ := hrel
      cases gk with
      | zero => exact absurd HA.out (by simp [jvmcorelaw2_same.l0])
      | succ k1 =>
        have H := HA.out
        clear HA
        simp only [jvmcorelaw2_same.l0] at H
        by_cases c4 : x15_1 < (l0.length : Int)
        · rw [if_pos c4] at H
          have c4b0 : decide (x15_1 < (l0.length : Int)) = true := decide_eq_true c4
          clear c4
          by_cases c5 : 0 ≤ x15_1
          · rw [if_pos c5] at H
            have c5b0 : decide (0 ≤ x15_1) = true := decide_eq_true c5
            clear c5
            by_cases c6 : x15_1 < (l0.length : Int)
            · rw [if_pos c6] at H
              have c6b0 : decide (x15_1 < (l0.length : Int)) = true := decide_eq_true c6
              clear c6
              by_cases c7 : x15_1 < (l1.length : Int)
              · rw [if_pos c7] at H
                have c7b0 : decide (x15_1 < (l1.length : Int)) = true := decide_eq_true c7
                clear c7
                by_cases c8 : ((rd_T82 l0 x15_1).f0) = ((rd_T82 l1 x15_1).f0)
                · rw [if_pos c8] at H
                  have c8b0 : (((rd_T82 l0 x15_1).f0) == ((rd_T82 l1 x15_1).f0)) = true := beq_iff_eq.mpr c8
                  have c8b1 : (((rd_T82 l0 x15_1).f0) != ((rd_T82 l1 x15_1).f0)) = false := bne_eq_false_iff_eq.mpr c8
                  clear c8
                  by_cases c9 : ((rd_T82 l0 x15_1).f1) = ((rd_T82 l1 x15_1).f1)
                  · rw [if_pos c9] at H
                    have c9b0 : (((rd_T82 l0 x15_1).f1) == ((rd_T82 l1 x15_1).f1)) = true := beq_iff_eq.mpr c9
                    have c9b1 : (((rd_T82 l0 x15_1).f1) != ((rd_T82 l1 x15_1).f1)) = false := bne_eq_false_iff_eq.mpr c9
                    clear c9
                    by_cases c10 : (((rd_T82 l0 x15_1).f2) != ((rd_T82 l1 x15_1).f2)) = true
                    · rw [if_pos c10] at H
                      have c10b0 : (((rd_T82 l0 x15_1).f2) != ((rd_T82 l1 x15_1).f2)) = true := c10
                      (try (have c10b1 : decide (((rd_T82 l0 x15_1).f2) = ((rd_T82 l1 x15_1).f2)) = false := by simpa using c10))
                      (try (have c10b2 : (((rd_T82 l0 x15_1).f2) == ((rd_T82 l1 x15_1).f2)) = false := by simpa using c10))
                      (try (have c10b3 : ¬ (((rd_T82 l0 x15_1).f2) = ((rd_T82 l1 x15_1).f2)) := by simpa using c10))
                      clear c10
                      exact absurd H (by simp)
                    · rw [if_neg c10] at H
                      have c10b0 : (((rd_T82 l0 x15_1).f2) != ((rd_T82 l1 x15_1).f2)) = false := by simpa using c10
                      (try (have c10b1 : decide (((rd_T82 l0 x15_1).f2) = ((rd_T82 l1 x15_1).f2)) = true := by simpa using c10))
                      (try (have c10b2 : (((rd_T82 l0 x15_1).f2) == ((rd_T82 l1 x15_1).f2)) = true := by simpa using c10))
                      clear c10
                      by_cases c17 : ((rd_T82 l0 x15_1).f3) = ((rd_T82 l1 x15_1).f3)
                      · rw [if_pos c17] at H
                        have c17b0 : (((rd_T82 l0 x15_1).f3) == ((rd_T82 l1 x15_1).f3)) = true := beq_iff_eq.mpr c17
                        have c17b1 : (((rd_T82 l0 x15_1).f3) != ((rd_T82 l1 x15_1).f3)) = false := bne_eq_false_iff_eq.mpr c17
                        clear c17
                        by_cases c18 : ((rd_T82 l0 x15_1).f4) = ((rd_T82 l1 x15_1).f4)
                        · rw [if_pos c18] at H
                          have c18b0 : (((rd_T82 l0 x15_1).f4) == ((rd_T82 l1 x15_1).f4)) = true := beq_iff_eq.mpr c18
                          have c18b1 : (((rd_T82 l0 x15_1).f4) != ((rd_T82 l1 x15_1).f4)) = false := bne_eq_false_iff_eq.mpr c18
                          clear c18
                          by_cases c19 : ((rd_T82 l0 x15_1).f5) = ((rd_T82 l1 x15_1).f5)
                          · rw [if_pos c19] at H
                            have c19b0 : (((rd_T82 l0 x15_1).f5) == ((rd_T82 l1 x15_1).f5)) = true := beq_iff_eq.mpr c19
                            have c19b1 : (((rd_T82 l0 x15_1).f5) != ((rd_T82 l1 x15_1).f5)) = false := bne_eq_false_iff_eq.mpr c19
                            clear c19
                            replace H := Option.bind_eq_some_iff.mp H
                            obtain ⟨t224, A200, H⟩ := H
                            replace H : (if t224 = true then ((jvmcorelaw2_sameInts.f k1 ((rd_T82 l0 x15_1).f7) ((rd_T82 l1 x15_1).f7)).bind fun t225 => (if t225 = true then (jvmcorelaw2_same.l0 k1 l0 l1 (l0.length : Int) (wrap64 (x15_1 + 1))) else (some false))) else (some false)) = some true := H
                            have A20 := Aside0.mk A200
                            clear A200
                            by_cases c21 : t224 = true
                            · subst c21
                              have H1 : ((jvmcorelaw2_sameInts.f k1 ((rd_T82 l0 x15_1).f7) ((rd_T82 l1 x15_1).f7)).bind fun t225 => (if t225 = true then (jvmcorelaw2_same.l0 k1 l0 l1 (l0.length : Int) (wrap64 (x15_1 + 1))) else (some false))) = some true := by rw [if_pos rfl] at H; exact H
                              clear H
                              have H := H1
                              clear H1
                              replace H := Option.bind_eq_some_iff.mp H
                              obtain ⟨t225, A220, H⟩ := H
                              replace H : (if t225 = true then (jvmcorelaw2_same.l0 k1 l0 l1 (l0.length : Int) (wrap64 (x15_1 + 1))) else (some false)) = some true := H
                              have A22 := Aside0.mk A220
                              clear A220
                              by_cases c23 : t225 = true
                              · subst c23
                                have H1 : (jvmcorelaw2_same.l0 k1 l0 l1 (l0.length : Int) (wrap64 (x15_1 + 1))) = some true := by rw [if_pos rfl] at H; exact H
                                clear H
                                have H := H1
                                clear H1
                                have H' := Aside0.mk H
                                clear H
                                have p220 : 0 ≤ (x15_1 : Int) := of_decide_eq_true (by first | (with_reducible assumption) | assumption)
                                have q220 : x15_1 < (l0.length : Int) := of_decide_eq_true (by first | (with_reducible assumption) | assumption)
                                obtain ⟨ad220, A220_6, c220_6, A220_7, c220_7, e220, hx220_0, hx220_1, hx220_2, hx220_3, hx220_4, hx220_5, hx220_6, hx220_7, hl220_6, hi220_6, hl220_7, hi220_7⟩ := at_T82 HR0.out x15_1 p220 q220
                                cases e220
                                replace hx220_0 := (HB.out.cell (World.block_lt_of_cell? w _ hx220_0)).trans hx220_0
                                replace hx220_1 := (HB.out.cell (World.block_lt_of_cell? w _ hx220_1)).trans hx220_1
                                replace hx220_2 := (HB.out.cell (World.block_lt_of_cell? w _ hx220_2)).trans hx220_2
                                replace hx220_3 := (HB.out.cell (World.block_lt_of_cell? w _ hx220_3)).trans hx220_3
                                replace hx220_4 := (HB.out.cell (World.block_lt_of_cell? w _ hx220_4)).trans hx220_4
                                replace hx220_5 := (HB.out.cell (World.block_lt_of_cell? w _ hx220_5)).trans hx220_5
                                replace hx220_6 := (HB.out.cell (World.block_lt_of_cell? w _ hx220_6)).trans hx220_6
                                replace hx220_7 := (HB.out.cell (World.block_lt_of_cell? w _ hx220_7)).trans hx220_7
                                have HR220_6 := Aside0.mk hi220_6
                                have HC220_6 := Aside0.mk hl220_6
                                clear hi220_6 hl220_6
                                have HR220_7 := Aside0.mk hi220_7
                                have HC220_7 := Aside0.mk hl220_7
                                clear hi220_7 hl220_7
                                replace p220 := eq_true p220
                                replace q220 := eq_true q220
                                go_wp2_with (first | ((with_reducible refine gate_dst (N := 6) rfl ?_); refine box_event ?hg (N := 6) ?hd (cs := #[.int .i64 0, .int .u8 0, .bool false, .int .i64 0, .int .i64 0, .int .i64 0, .slice none 0 0, .slice none 0 0]) (t := 82) ?hr ?_; (case hd => rfl); (case hg => rfl); (case hr => first | (go_simp; done) | (go_simp; rfl)); intro gb221 hg w24 hbox hb; have n0_ := Aside0.mk (below_step (by repeat (first | (with_reducible first | exact HB.out | apply below_alloc | apply pw_below_drewN | apply below_drew1) | exact HB.out)) hb); have n1_ := Aside0.mk (hbox); have n2_ := Aside0.mk ((by rw [hg]; exact (below_size (by repeat (first | (with_reducible first | exact HB.out | apply below_alloc | apply pw_below_drewN | apply below_drew1) | exact HB.out))) : w.heap.size ≤ gb221)); have n3_ := Aside0.mk ((by rw [hg]; exact (below_size (by repeat (first | (with_reducible first | exact HB.out | apply below_alloc | apply pw_below_drewN | apply below_drew1) | exact HB.out))) : w.heap.size ≤ gb221)); clear HB; have HB := n0_; have BK221 := n1_; have GW221 := n2_; have GE221 := n3_; clear n0_ n1_ n2_ n3_; clear hb hbox hg; have hcz25_0 : w24.cell? ⟨gb221, 0, none⟩ = some (.int .i64 0) := (blk_cell BK221.out 0).trans rfl; have hcz25_1 : w24.cell? ⟨gb221, 1, none⟩ = some (.int .u8 0) := (blk_cell BK221.out 1).trans rfl; have hcz25_2 : w24.cell? ⟨gb221, 2, none⟩ = some (.bool false) := (blk_cell BK221.out 2).trans rfl; have hcz25_3 : w24.cell? ⟨gb221, 3, none⟩ = some (.int .i64 0) := (blk_cell BK221.out 3).trans rfl; have hcz25_4 : w24.cell? ⟨gb221, 4, none⟩ = some (.int .i64 0) := (blk_cell BK221.out 4).trans rfl; have hcz25_5 : w24.cell? ⟨gb221, 5, none⟩ = some (.int .i64 0) := (blk_cell BK221.out 5).trans rfl; have hcz25_6 : w24.cell? ⟨gb221, 6, none⟩ = some (.slice none 0 0) := (blk_cell BK221.out 6).trans rfl; have hcz25_7 : w24.cell? ⟨gb221, 7, none⟩ = some (.slice none 0 0) := (blk_cell BK221.out 7).trans rfl; have hfz25_0 := blk_frozen BK221.out 0; have hfz25_1 := blk_frozen BK221.out 1; have hfz25_2 := blk_frozen BK221.out 2; have hfz25_3 := blk_frozen BK221.out 3; have hfz25_4 := blk_frozen BK221.out 4; have hfz25_5 := blk_frozen BK221.out 5; have hfz25_6 := blk_frozen BK221.out 6; have hfz25_7 := blk_frozen BK221.out 7; have p222 : 0 ≤ (x15_1 : Int) := of_decide_eq_true (by first | (with_reducible assumption) | assumption); have q222 : x15_1 < (l1.length : Int) := of_decide_eq_true (by first | (with_reducible assumption) | assumption); obtain ⟨ad222, A222_6, c222_6, A222_7, c222_7, e222, hx222_0, hx222_1, hx222_2, hx222_3, hx222_4, hx222_5, hx222_6, hx222_7, hl222_6, hi222_6, hl222_7, hi222_7⟩ := at_T82 HR1.out x15_1 p222 q222; cases e222; have hn222_0 : ad222.block ≠ gb221 := Nat.ne_of_lt (Nat.lt_of_lt_of_le (by have := World.block_lt_of_cell? _ _ hx222_0; first | rwa [add_block] at this | exact this) GW221.out); have hn222_1 : ad222.block ≠ gb221 := Nat.ne_of_lt (Nat.lt_of_lt_of_le (by have := World.block_lt_of_cell? _ _ hx222_0; first | rwa [add_block] at this | exact this) GW221.out); have hn222_2 : ad222.block ≠ gb221 := Nat.ne_of_lt (Nat.lt_of_lt_of_le (by have := World.block_lt_of_cell? _ _ hx222_0; first | rwa [add_block] at this | exact this) GW221.out); have hn222_3 : ad222.block ≠ gb221 := Nat.ne_of_lt (Nat.lt_of_lt_of_le (by have := World.block_lt_of_cell? _ _ hx222_0; first | rwa [add_block] at this | exact this) GW221.out); have hn222_4 : ad222.block ≠ gb221 := Nat.ne_of_lt (Nat.lt_of_lt_of_le (by have := World.block_lt_of_cell? _ _ hx222_0; first | rwa [add_block] at this | exact this) GW221.out); have hn222_5 : ad222.block ≠ gb221 := Nat.ne_of_lt (Nat.lt_of_lt_of_le (by have := World.block_lt_of_cell? _ _ hx222_0; first | rwa [add_block] at this | exact this) GW221.out); have hn222_6 : ad222.block ≠ gb221 := Nat.ne_of_lt (Nat.lt_of_lt_of_le (by have := World.block_lt_of_cell? _ _ hx222_0; first | rwa [add_block] at this | exact this) GW221.out); have hn222_7 : ad222.block ≠ gb221 := Nat.ne_of_lt (Nat.lt_of_lt_of_le (by have := World.block_lt_of_cell? _ _ hx222_0; first | rwa [add_block] at this | exact this) GW221.out); replace hx222_0 := (HB.out.cell (World.block_lt_of_cell? w _ hx222_0)).trans hx222_0; replace hx222_1 := (HB.out.cell (World.block_lt_of_cell? w _ hx222_1)).trans hx222_1; replace hx222_2 := (HB.out.cell (World.block_lt_of_cell? w _ hx222_2)).trans hx222_2; replace hx222_3 := (HB.out.cell (World.block_lt_of_cell? w _ hx222_3)).trans hx222_3; replace hx222_4 := (HB.out.cell (World.block_lt_of_cell? w _ hx222_4)).trans hx222_4; replace hx222_5 := (HB.out.cell (World.block_lt_of_cell? w _ hx222_5)).trans hx222_5; replace hx222_6 := (HB.out.cell (World.block_lt_of_cell? w _ hx222_6)).trans hx222_6; replace hx222_7 := (HB.out.cell (World.block_lt_of_cell? w _ hx222_7)).trans hx222_7; have HR222_6 := Aside0.mk hi222_6; have HC222_6 := Aside0.mk hl222_6; clear hi222_6 hl222_6; have HR222_7 := Aside0.mk hi222_7; have HC222_7 := Aside0.mk hl222_7; clear hi222_7 hl222_7; replace hx222_0 := (cell_far (p := ⟨gb221, 0, none⟩) (by first | (rw [add_block]; exact hn222_0) | (show (Addr.add _ _).block ≠ _; rw [add_block]; exact hn222_0) | exact hn222_0) (.int .i64 ((rd_T82 l0 x15_1).f0))).trans hx222_0; replace hx222_1 := (cell_far (p := ⟨gb221, 0, none⟩) (by first | (rw [add_block]; exact hn222_0) | (show (Addr.add _ _).block ≠ _; rw [add_block]; exact hn222_0) | exact hn222_0) (.int .i64 ((rd_T82 l0 x15_1).f0))).trans hx222_1; replace hx222_2 := (cell_far (p := ⟨gb221, 0, none⟩) (by first | (rw [add_block]; exact hn222_0) | (show (Addr.add _ _).block ≠ _; rw [add_block]; exact hn222_0) | exact hn222_0) (.int .i64 ((rd_T82 l0 x15_1).f0))).trans hx222_2; replace hx222_3 := (cell_far (p := ⟨gb221, 0, none⟩) (by first | (rw [add_block]; exact hn222_0) | (show (Addr.add _ _).block ≠ _; rw [add_block]; exact hn222_0) | exact hn222_0) (.int .i64 ((rd_T82 l0 x15_1).f0))).trans hx222_3; replace hx222_4 := (cell_far (p := ⟨gb221, 0, none⟩) (by first | (rw [add_block]; exact hn222_0) | (show (Addr.add _ _).block ≠ _; rw [add_block]; exact hn222_0) | exact hn222_0) (.int .i64 ((rd_T82 l0 x15_1).f0))).trans hx222_4; replace hx222_5 := (cell_far (p := ⟨gb221, 0, none⟩) (by first | (rw [add_block]; exact hn222_0) | (show (Addr.add _ _).block ≠ _; rw [add_block]; exact hn222_0) | exact hn222_0) (.int .i64 ((rd_T82 l0 x15_1).f0))).trans hx222_5; replace hx222_6 := (cell_far (p := ⟨gb221, 0, none⟩) (by first | (rw [add_block]; exact hn222_0) | (show (Addr.add _ _).block ≠ _; rw [add_block]; exact hn222_0) | exact hn222_0) (.int .i64 ((rd_T82 l0 x15_1).f0))).trans hx222_6; replace hx222_7 := (cell_far (p := ⟨gb221, 0, none⟩) (by first | (rw [add_block]; exact hn222_0) | (show (Addr.add _ _).block ≠ _; rw [add_block]; exact hn222_0) | exact hn222_0) (.int .i64 ((rd_T82 l0 x15_1).f0))).trans hx222_7; replace hx222_0 := (cell_far (p := ⟨gb221, 1, none⟩) (by first | (rw [add_block]; exact hn222_1) | (show (Addr.add _ _).block ≠ _; rw [add_block]; exact hn222_1) | exact hn222_1) (.int .u8 ((rd_T82 l0 x15_1).f1))).trans hx222_0; replace hx222_1 := (cell_far (p := ⟨gb221, 1, none⟩) (by first | (rw [add_block]; exact hn222_1) | (show (Addr.add _ _).block ≠ _; rw [add_block]; exact hn222_1) | exact hn222_1) (.int .u8 ((rd_T82 l0 x15_1).f1))).trans hx222_1; replace hx222_2 := (cell_far (p := ⟨gb221, 1, none⟩) (by first | (rw [add_block]; exact hn222_1) | (show (Addr.add _ _).block ≠ _; rw [add_block]; exact hn222_1) | exact hn222_1) (.int .u8 ((rd_T82 l0 x15_1).f1))).trans hx222_2; replace hx222_3 := (cell_far (p := ⟨gb221, 1, none⟩) (by first | (rw [add_block]; exact hn222_1) | (show (Addr.add _ _).block ≠ _; rw [add_block]; exact hn222_1) | exact hn222_1) (.int .u8 ((rd_T82 l0 x15_1).f1))).trans hx222_3; replace hx222_4 := (cell_far (p := ⟨gb221, 1, none⟩) (by first | (rw [add_block]; exact hn222_1) | (show (Addr.add _ _).block ≠ _; rw [add_block]; exact hn222_1) | exact hn222_1) (.int .u8 ((rd_T82 l0 x15_1).f1))).trans hx222_4; replace hx222_5 := (cell_far (p := ⟨gb221, 1, none⟩) (by first | (rw [add_block]; exact hn222_1) | (show (Addr.add _ _).block ≠ _; rw [add_block]; exact hn222_1) | exact hn222_1) (.int .u8 ((rd_T82 l0 x15_1).f1))).trans hx222_5; replace hx222_6 := (cell_far (p := ⟨gb221, 1, none⟩) (by first | (rw [add_block]; exact hn222_1) | (show (Addr.add _ _).block ≠ _; rw [add_block]; exact hn222_1) | exact hn222_1) (.int .u8 ((rd_T82 l0 x15_1).f1))).trans hx222_6; replace hx222_7 := (cell_far (p := ⟨gb221, 1, none⟩) (by first | (rw [add_block]; exact hn222_1) | (show (Addr.add _ _).block ≠ _; rw [add_block]; exact hn222_1) | exact hn222_1) (.int .u8 ((rd_T82 l0 x15_1).f1))).trans hx222_7; replace hx222_0 := (cell_far (p := ⟨gb221, 2, none⟩) (by first | (rw [add_block]; exact hn222_2) | (show (Addr.add _ _).block ≠ _; rw [add_block]; exact hn222_2) | exact hn222_2) (.bool ((rd_T82 l0 x15_1).f2))).trans hx222_0; replace hx222_1 := (cell_far (p := ⟨gb221, 2, none⟩) (by first | (rw [add_block]; exact hn222_2) | (show (Addr.add _ _).block ≠ _; rw [add_block]; exact hn222_2) | exact hn222_2) (.bool ((rd_T82 l0 x15_1).f2))).trans hx222_1; replace hx222_2 := (cell_far (p := ⟨gb221, 2, none⟩) (by first | (rw [add_block]; exact hn222_2) | (show (Addr.add _ _).block ≠ _; rw [add_block]; exact hn222_2) | exact hn222_2) (.bool ((rd_T82 l0 x15_1).f2))).trans hx222_2; replace hx222_3 := (cell_far (p := ⟨gb221, 2, none⟩) (by first | (rw [add_block]; exact hn222_2) | (show (Addr.add _ _).block ≠ _; rw [add_block]; exact hn222_2) | exact hn222_2) (.bool ((rd_T82 l0 x15_1).f2))).trans hx222_3; replace hx222_4 := (cell_far (p := ⟨gb221, 2, none⟩) (by first | (rw [add_block]; exact hn222_2) | (show (Addr.add _ _).block ≠ _; rw [add_block]; exact hn222_2) | exact hn222_2) (.bool ((rd_T82 l0 x15_1).f2))).trans hx222_4; replace hx222_5 := (cell_far (p := ⟨gb221, 2, none⟩) (by first | (rw [add_block]; exact hn222_2) | (show (Addr.add _ _).block ≠ _; rw [add_block]; exact hn222_2) | exact hn222_2) (.bool ((rd_T82 l0 x15_1).f2))).trans hx222_5; replace hx222_6 := (cell_far (p := ⟨gb221, 2, none⟩) (by first | (rw [add_block]; exact hn222_2) | (show (Addr.add _ _).block ≠ _; rw [add_block]; exact hn222_2) | exact hn222_2) (.bool ((rd_T82 l0 x15_1).f2))).trans hx222_6; replace hx222_7 := (cell_far (p := ⟨gb221, 2, none⟩) (by first | (rw [add_block]; exact hn222_2) | (show (Addr.add _ _).block ≠ _; rw [add_block]; exact hn222_2) | exact hn222_2) (.bool ((rd_T82 l0 x15_1).f2))).trans hx222_7; replace hx222_0 := (cell_far (p := ⟨gb221, 3, none⟩) (by first | (rw [add_block]; exact hn222_3) | (show (Addr.add _ _).block ≠ _; rw [add_block]; exact hn222_3) | exact hn222_3) (.int .i64 ((rd_T82 l0 x15_1).f3))).trans hx222_0; replace hx222_1 := (cell_far (p := ⟨gb221, 3, none⟩) (by first | (rw [add_block]; exact hn222_3) | (show (Addr.add _ _).block ≠ _; rw [add_block]; exact hn222_3) | exact hn222_3) (.int .i64 ((rd_T82 l0 x15_1).f3))).trans hx222_1; replace hx222_2 := (cell_far (p := ⟨gb221, 3, none⟩) (by first | (rw [add_block]; exact hn222_3) | (show (Addr.add _ _).block ≠ _; rw [add_block]; exact hn222_3) | exact hn222_3) (.int .i64 ((rd_T82 l0 x15_1).f3))).trans hx222_2; replace hx222_3 := (cell_far (p := ⟨gb221, 3, none⟩) (by first | (rw [add_block]; exact hn222_3) | (show (Addr.add _ _).block ≠ _; rw [add_block]; exact hn222_3) | exact hn222_3) (.int .i64 ((rd_T82 l0 x15_1).f3))).trans hx222_3; replace hx222_4 := (cell_far (p := ⟨gb221, 3, none⟩) (by first | (rw [add_block]; exact hn222_3) | (show (Addr.add _ _).block ≠ _; rw [add_block]; exact hn222_3) | exact hn222_3) (.int .i64 ((rd_T82 l0 x15_1).f3))).trans hx222_4; replace hx222_5 := (cell_far (p := ⟨gb221, 3, none⟩) (by first | (rw [add_block]; exact hn222_3) | (show (Addr.add _ _).block ≠ _; rw [add_block]; exact hn222_3) | exact hn222_3) (.int .i64 ((rd_T82 l0 x15_1).f3))).trans hx222_5; replace hx222_6 := (cell_far (p := ⟨gb221, 3, none⟩) (by first | (rw [add_block]; exact hn222_3) | (show (Addr.add _ _).block ≠ _; rw [add_block]; exact hn222_3) | exact hn222_3) (.int .i64 ((rd_T82 l0 x15_1).f3))).trans hx222_6; replace hx222_7 := (cell_far (p := ⟨gb221, 3, none⟩) (by first | (rw [add_block]; exact hn222_3) | (show (Addr.add _ _).block ≠ _; rw [add_block]; exact hn222_3) | exact hn222_3) (.int .i64 ((rd_T82 l0 x15_1).f3))).trans hx222_7; replace hx222_0 := (cell_far (p := ⟨gb221, 4, none⟩) (by first | (rw [add_block]; exact hn222_4) | (show (Addr.add _ _).block ≠ _; rw [add_block]; exact hn222_4) | exact hn222_4) (.int .i64 ((rd_T82 l0 x15_1).f4))).trans hx222_0; replace hx222_1 := (cell_far (p := ⟨gb221, 4, none⟩) (by first | (rw [add_block]; exact hn222_4) | (show (Addr.add _ _).block ≠ _; rw [add_block]; exact hn222_4) | exact hn222_4) (.int .i64 ((rd_T82 l0 x15_1).f4))).trans hx222_1; replace hx222_2 := (cell_far (p := ⟨gb221, 4, none⟩) (by first | (rw [add_block]; exact hn222_4) | (show (Addr.add _ _).block ≠ _; rw [add_block]; exact hn222_4) | exact hn222_4) (.int .i64 ((rd_T82 l0 x15_1).f4))).trans hx222_2; replace hx222_3 := (cell_far (p := ⟨gb221, 4, none⟩) (by first | (rw [add_block]; exact hn222_4) | (show (Addr.add _ _).block ≠ _; rw [add_block]; exact hn222_4) | exact hn222_4) (.int .i64 ((rd_T82 l0 x15_1).f4))).trans hx222_3; replace hx222_4 := (cell_far (p := ⟨gb221, 4, none⟩) (by first | (rw [add_block]; exact hn222_4) | (show (Addr.add _ _).block ≠ _; rw [add_block]; exact hn222_4) | exact hn222_4) (.int .i64 ((rd_T82 l0 x15_1).f4))).trans hx222_4; replace hx222_5 := (cell_far (p := ⟨gb221, 4, none⟩) (by first | (rw [add_block]; exact hn222_4) | (show (Addr.add _ _).block ≠ _; rw [add_block]; exact hn222_4) | exact hn222_4) (.int .i64 ((rd_T82 l0 x15_1).f4))).trans hx222_5; replace hx222_6 := (cell_far (p := ⟨gb221, 4, none⟩) (by first | (rw [add_block]; exact hn222_4) | (show (Addr.add _ _).block ≠ _; rw [add_block]; exact hn222_4) | exact hn222_4) (.int .i64 ((rd_T82 l0 x15_1).f4))).trans hx222_6; replace hx222_7 := (cell_far (p := ⟨gb221, 4, none⟩) (by first | (rw [add_block]; exact hn222_4) | (show (Addr.add _ _).block ≠ _; rw [add_block]; exact hn222_4) | exact hn222_4) (.int .i64 ((rd_T82 l0 x15_1).f4))).trans hx222_7; replace hx222_0 := (cell_far (p := ⟨gb221, 5, none⟩) (by first | (rw [add_block]; exact hn222_5) | (show (Addr.add _ _).block ≠ _; rw [add_block]; exact hn222_5) | exact hn222_5) (.int .i64 ((rd_T82 l0 x15_1).f5))).trans hx222_0; replace hx222_1 := (cell_far (p := ⟨gb221, 5, none⟩) (by first | (rw [add_block]; exact hn222_5) | (show (Addr.add _ _).block ≠ _; rw [add_block]; exact hn222_5) | exact hn222_5) (.int .i64 ((rd_T82 l0 x15_1).f5))).trans hx222_1; replace hx222_2 := (cell_far (p := ⟨gb221, 5, none⟩) (by first | (rw [add_block]; exact hn222_5) | (show (Addr.add _ _).block ≠ _; rw [add_block]; exact hn222_5) | exact hn222_5) (.int .i64 ((rd_T82 l0 x15_1).f5))).trans hx222_2; replace hx222_3 := (cell_far (p := ⟨gb221, 5, none⟩) (by first | (rw [add_block]; exact hn222_5) | (show (Addr.add _ _).block ≠ _; rw [add_block]; exact hn222_5) | exact hn222_5) (.int .i64 ((rd_T82 l0 x15_1).f5))).trans hx222_3; replace hx222_4 := (cell_far (p := ⟨gb221, 5, none⟩) (by first | (rw [add_block]; exact hn222_5) | (show (Addr.add _ _).block ≠ _; rw [add_block]; exact hn222_5) | exact hn222_5) (.int .i64 ((rd_T82 l0 x15_1).f5))).trans hx222_4; replace hx222_5 := (cell_far (p := ⟨gb221, 5, none⟩) (by first | (rw [add_block]; exact hn222_5) | (show (Addr.add _ _).block ≠ _; rw [add_block]; exact hn222_5) | exact hn222_5) (.int .i64 ((rd_T82 l0 x15_1).f5))).trans hx222_5; replace hx222_6 := (cell_far (p := ⟨gb221, 5, none⟩) (by first | (rw [add_block]; exact hn222_5) | (show (Addr.add _ _).block ≠ _; rw [add_block]; exact hn222_5) | exact hn222_5) (.int .i64 ((rd_T82 l0 x15_1).f5))).trans hx222_6; replace hx222_7 := (cell_far (p := ⟨gb221, 5, none⟩) (by first | (rw [add_block]; exact hn222_5) | (show (Addr.add _ _).block ≠ _; rw [add_block]; exact hn222_5) | exact hn222_5) (.int .i64 ((rd_T82 l0 x15_1).f5))).trans hx222_7; replace hx222_0 := (cell_far (p := ⟨gb221, 6, none⟩) (by first | (rw [add_block]; exact hn222_6) | (show (Addr.add _ _).block ≠ _; rw [add_block]; exact hn222_6) | exact hn222_6) (.slice A220_6 ((rd_T82 l0 x15_1).f6).length c220_6)).trans hx222_0; replace hx222_1 := (cell_far (p := ⟨gb221, 6, none⟩) (by first | (rw [add_block]; exact hn222_6) | (show (Addr.add _ _).block ≠ _; rw [add_block]; exact hn222_6) | exact hn222_6) (.slice A220_6 ((rd_T82 l0 x15_1).f6).length c220_6)).trans hx222_1; replace hx222_2 := (cell_far (p := ⟨gb221, 6, none⟩) (by first | (rw [add_block]; exact hn222_6) | (show (Addr.add _ _).block ≠ _; rw [add_block]; exact hn222_6) | exact hn222_6) (.slice A220_6 ((rd_T82 l0 x15_1).f6).length c220_6)).trans hx222_2; replace hx222_3 := (cell_far (p := ⟨gb221, 6, none⟩) (by first | (rw [add_block]; exact hn222_6) | (show (Addr.add _ _).block ≠ _; rw [add_block]; exact hn222_6) | exact hn222_6) (.slice A220_6 ((rd_T82 l0 x15_1).f6).length c220_6)).trans hx222_3; replace hx222_4 := (cell_far (p := ⟨gb221, 6, none⟩) (by first | (rw [add_block]; exact hn222_6) | (show (Addr.add _ _).block ≠ _; rw [add_block]; exact hn222_6) | exact hn222_6) (.slice A220_6 ((rd_T82 l0 x15_1).f6).length c220_6)).trans hx222_4; replace hx222_5 := (cell_far (p := ⟨gb221, 6, none⟩) (by first | (rw [add_block]; exact hn222_6) | (show (Addr.add _ _).block ≠ _; rw [add_block]; exact hn222_6) | exact hn222_6) (.slice A220_6 ((rd_T82 l0 x15_1).f6).length c220_6)).trans hx222_5; replace hx222_6 := (cell_far (p := ⟨gb221, 6, none⟩) (by first | (rw [add_block]; exact hn222_6) | (show (Addr.add _ _).block ≠ _; rw [add_block]; exact hn222_6) | exact hn222_6) (.slice A220_6 ((rd_T82 l0 x15_1).f6).length c220_6)).trans hx222_6; replace hx222_7 := (cell_far (p := ⟨gb221, 6, none⟩) (by first | (rw [add_block]; exact hn222_6) | (show (Addr.add _ _).block ≠ _; rw [add_block]; exact hn222_6) | exact hn222_6) (.slice A220_6 ((rd_T82 l0 x15_1).f6).length c220_6)).trans hx222_7; replace hx222_0 := (cell_far (p := ⟨gb221, 7, none⟩) (by first | (rw [add_block]; exact hn222_7) | (show (Addr.add _ _).block ≠ _; rw [add_block]; exact hn222_7) | exact hn222_7) (.slice A220_7 ((rd_T82 l0 x15_1).f7).length c220_7)).trans hx222_0; replace hx222_1 := (cell_far (p := ⟨gb221, 7, none⟩) (by first | (rw [add_block]; exact hn222_7) | (show (Addr.add _ _).block ≠ _; rw [add_block]; exact hn222_7) | exact hn222_7) (.slice A220_7 ((rd_T82 l0 x15_1).f7).length c220_7)).trans hx222_1; replace hx222_2 := (cell_far (p := ⟨gb221, 7, none⟩) (by first | (rw [add_block]; exact hn222_7) | (show (Addr.add _ _).block ≠ _; rw [add_block]; exact hn222_7) | exact hn222_7) (.slice A220_7 ((rd_T82 l0 x15_1).f7).length c220_7)).trans hx222_2; replace hx222_3 := (cell_far (p := ⟨gb221, 7, none⟩) (by first | (rw [add_block]; exact hn222_7) | (show (Addr.add _ _).block ≠ _; rw [add_block]; exact hn222_7) | exact hn222_7) (.slice A220_7 ((rd_T82 l0 x15_1).f7).length c220_7)).trans hx222_3; replace hx222_4 := (cell_far (p := ⟨gb221, 7, none⟩) (by first | (rw [add_block]; exact hn222_7) | (show (Addr.add _ _).block ≠ _; rw [add_block]; exact hn222_7) | exact hn222_7) (.slice A220_7 ((rd_T82 l0 x15_1).f7).length c220_7)).trans hx222_4; replace hx222_5 := (cell_far (p := ⟨gb221, 7, none⟩) (by first | (rw [add_block]; exact hn222_7) | (show (Addr.add _ _).block ≠ _; rw [add_block]; exact hn222_7) | exact hn222_7) (.slice A220_7 ((rd_T82 l0 x15_1).f7).length c220_7)).trans hx222_5; replace hx222_6 := (cell_far (p := ⟨gb221, 7, none⟩) (by first | (rw [add_block]; exact hn222_7) | (show (Addr.add _ _).block ≠ _; rw [add_block]; exact hn222_7) | exact hn222_7) (.slice A220_7 ((rd_T82 l0 x15_1).f7).length c220_7)).trans hx222_6; replace hx222_7 := (cell_far (p := ⟨gb221, 7, none⟩) (by first | (rw [add_block]; exact hn222_7) | (show (Addr.add _ _).block ≠ _; rw [add_block]; exact hn222_7) | exact hn222_7) (.slice A220_7 ((rd_T82 l0 x15_1).f7).length c220_7)).trans hx222_7; clear hn222_0; clear hn222_1; clear hn222_2; clear hn222_3; clear hn222_4; clear hn222_5; clear hn222_6; clear hn222_7; replace p222 := eq_true p222; replace q222 := eq_true q222) | ((with_reducible refine gate_dst (N := 7) rfl ?_); refine box_event ?hg (N := 7) ?hd (cs := #[.int .i64 0, .int .u8 0, .bool false, .int .i64 0, .int .i64 0, .int .i64 0, .slice none 0 0, .slice none 0 0]) (t := 82) ?hr ?_; (case hd => rfl); (case hg => rfl); (case hr => first | (go_simp; done) | (go_simp; rfl)); intro gb223 hg w26 hbox hb; have n0_ := Aside0.mk (blk_below (g := gb221) (o := .cells #[.int .i64 ((rd_T82 l0 x15_1).f0), .int .u8 ((rd_T82 l0 x15_1).f1), .bool ((rd_T82 l0 x15_1).f2), .int .i64 ((rd_T82 l0 x15_1).f3), .int .i64 ((rd_T82 l0 x15_1).f4), .int .i64 ((rd_T82 l0 x15_1).f5), .slice A220_6 ((rd_T82 l0 x15_1).f6).length c220_6, .slice A220_7 ((rd_T82 l0 x15_1).f7).length c220_7] 82 (0, 0)) (by (with_reducible repeat (first | refine blk_drewN ?_ _ | refine blk_drew ?_ | refine blk_alloc ?_ _)); refine blk_put (cs := #[.int .i64 ((rd_T82 l0 x15_1).f0), .int .u8 ((rd_T82 l0 x15_1).f1), .bool ((rd_T82 l0 x15_1).f2), .int .i64 ((rd_T82 l0 x15_1).f3), .int .i64 ((rd_T82 l0 x15_1).f4), .int .i64 ((rd_T82 l0 x15_1).f5), .slice A220_6 ((rd_T82 l0 x15_1).f6).length c220_6, .slice none 0 0]) ?_ 7 _ rfl; (with_reducible repeat (first | refine blk_drewN ?_ _ | refine blk_drew ?_ | refine blk_alloc ?_ _)); refine blk_put (cs := #[.int .i64 ((rd_T82 l0 x15_1).f0), .int .u8 ((rd_T82 l0 x15_1).f1), .bool ((rd_T82 l0 x15_1).f2), .int .i64 ((rd_T82 l0 x15_1).f3), .int .i64 ((rd_T82 l0 x15_1).f4), .int .i64 ((rd_T82 l0 x15_1).f5), .slice none 0 0, .slice none 0 0]) ?_ 6 _ rfl; (with_reducible repeat (first | refine blk_drewN ?_ _ | refine blk_drew ?_ | refine blk_alloc ?_ _)); refine blk_put (cs := #[.int .i64 ((rd_T82 l0 x15_1).f0), .int .u8 ((rd_T82 l0 x15_1).f1), .bool ((rd_T82 l0 x15_1).f2), .int .i64 ((rd_T82 l0 x15_1).f3), .int .i64 ((rd_T82 l0 x15_1).f4), .int .i64 0, .slice none 0 0, .slice none 0 0]) ?_ 5 _ rfl; (with_reducible repeat (first | refine blk_drewN ?_ _ | refine blk_drew ?_ | refine blk_alloc ?_ _)); refine blk_put (cs := #[.int .i64 ((rd_T82 l0 x15_1).f0), .int .u8 ((rd_T82 l0 x15_1).f1), .bool ((rd_T82 l0 x15_1).f2), .int .i64 ((rd_T82 l0 x15_1).f3), .int .i64 0, .int .i64 0, .slice none 0 0, .slice none 0 0]) ?_ 4 _ rfl; (with_reducible repeat (first | refine blk_drewN ?_ _ | refine blk_drew ?_ | refine blk_alloc ?_ _)); refine blk_put (cs := #[.int .i64 ((rd_T82 l0 x15_1).f0), .int .u8 ((rd_T82 l0 x15_1).f1), .bool ((rd_T82 l0 x15_1).f2), .int .i64 0, .int .i64 0, .int .i64 0, .slice none 0 0, .slice none 0 0]) ?_ 3 _ rfl; (with_reducible repeat (first | refine blk_drewN ?_ _ | refine blk_drew ?_ | refine blk_alloc ?_ _)); refine blk_put (cs := #[.int .i64 ((rd_T82 l0 x15_1).f0), .int .u8 ((rd_T82 l0 x15_1).f1), .bool false, .int .i64 0, .int .i64 0, .int .i64 0, .slice none 0 0, .slice none 0 0]) ?_ 2 _ rfl; (with_reducible repeat (first | refine blk_drewN ?_ _ | refine blk_drew ?_ | refine blk_alloc ?_ _)); refine blk_put (cs := #[.int .i64 ((rd_T82 l0 x15_1).f0), .int .u8 0, .bool false, .int .i64 0, .int .i64 0, .int .i64 0, .slice none 0 0, .slice none 0 0]) ?_ 1 _ rfl; (with_reducible repeat (first | refine blk_drewN ?_ _ | refine blk_drew ?_ | refine blk_alloc ?_ _)); refine blk_put (cs := #[.int .i64 0, .int .u8 0, .bool false, .int .i64 0, .int .i64 0, .int .i64 0, .slice none 0 0, .slice none 0 0]) ?_ 0 _ rfl; (with_reducible repeat (first | refine blk_drewN ?_ _ | refine blk_drew ?_ | refine blk_alloc ?_ _)); exact BK221.out) hb); have n1_ := Aside0.mk (below_step (by repeat (first | (with_reducible first | exact HB.out | apply below_alloc | apply pw_below_drewN | apply below_drew1 | refine below_set ?_ GE221.out) | exact HB.out)) hb); have n2_ := Aside0.mk (hbox); have n3_ := Aside0.mk ((by rw [hg]; exact (below_size (by repeat (first | (with_reducible first | exact HB.out | apply below_alloc | apply pw_below_drewN | apply below_drew1 | refine below_set ?_ GE221.out) | exact HB.out))) : w.heap.size ≤ gb223)); have n4_ := Aside0.mk ((by rw [hg]; exact (below_size (by repeat (first | (with_reducible first | exact HB.out | apply below_alloc | apply pw_below_drewN | apply below_drew1 | refine below_set ?_ GE221.out) | exact HB.out))) : w.heap.size ≤ gb223)); have n5_ := Aside0.mk ((by rw [hg]; exact Nat.ne_of_lt (blk_lt (g := gb221) (o := .cells #[.int .i64 ((rd_T82 l0 x15_1).f0), .int .u8 ((rd_T82 l0 x15_1).f1), .bool ((rd_T82 l0 x15_1).f2), .int .i64 ((rd_T82 l0 x15_1).f3), .int .i64 ((rd_T82 l0 x15_1).f4), .int .i64 ((rd_T82 l0 x15_1).f5), .slice A220_6 ((rd_T82 l0 x15_1).f6).length c220_6, .slice A220_7 ((rd_T82 l0 x15_1).f7).length c220_7] 82 (0, 0)) (by (with_reducible repeat (first | refine blk_drewN ?_ _ | refine blk_drew ?_ | refine blk_alloc ?_ _)); refine blk_put (cs := #[.int .i64 ((rd_T82 l0 x15_1).f0), .int .u8 ((rd_T82 l0 x15_1).f1), .bool ((rd_T82 l0 x15_1).f2), .int .i64 ((rd_T82 l0 x15_1).f3), .int .i64 ((rd_T82 l0 x15_1).f4), .int .i64 ((rd_T82 l0 x15_1).f5), .slice A220_6 ((rd_T82 l0 x15_1).f6).length c220_6, .slice none 0 0]) ?_ 7 _ rfl; (with_reducible repeat (first | refine blk_drewN ?_ _ | refine blk_drew ?_ | refine blk_alloc ?_ _)); refine blk_put (cs := #[.int .i64 ((rd_T82 l0 x15_1).f0), .int .u8 ((rd_T82 l0 x15_1).f1), .bool ((rd_T82 l0 x15_1).f2), .int .i64 ((rd_T82 l0 x15_1).f3), .int .i64 ((rd_T82 l0 x15_1).f4), .int .i64 ((rd_T82 l0 x15_1).f5), .slice none 0 0, .slice none 0 0]) ?_ 6 _ rfl; (with_reducible repeat (first | refine blk_drewN ?_ _ | refine blk_drew ?_ | refine blk_alloc ?_ _)); refine blk_put (cs := #[.int .i64 ((rd_T82 l0 x15_1).f0), .int .u8 ((rd_T82 l0 x15_1).f1), .bool ((rd_T82 l0 x15_1).f2), .int .i64 ((rd_T82 l0 x15_1).f3), .int .i64 ((rd_T82 l0 x15_1).f4), .int .i64 0, .slice none 0 0, .slice none 0 0]) ?_ 5 _ rfl; (with_reducible repeat (first | refine blk_drewN ?_ _ | refine blk_drew ?_ | refine blk_alloc ?_ _)); refine blk_put (cs := #[.int .i64 ((rd_T82 l0 x15_1).f0), .int .u8 ((rd_T82 l0 x15_1).f1), .bool ((rd_T82 l0 x15_1).f2), .int .i64 ((rd_T82 l0 x15_1).f3), .int .i64 0, .int .i64 0, .slice none 0 0, .slice none 0 0]) ?_ 4 _ rfl; (with_reducible repeat (first | refine blk_drewN ?_ _ | refine blk_drew ?_ | refine blk_alloc ?_ _)); refine blk_put (cs := #[.int .i64 ((rd_T82 l0 x15_1).f0), .int .u8 ((rd_T82 l0 x15_1).f1), .bool ((rd_T82 l0 x15_1).f2), .int .i64 0, .int .i64 0, .int .i64 0, .slice none 0 0, .slice none 0 0]) ?_ 3 _ rfl; (with_reducible repeat (first | refine blk_drewN ?_ _ | refine blk_drew ?_ | refine blk_alloc ?_ _)); refine blk_put (cs := #[.int .i64 ((rd_T82 l0 x15_1).f0), .int .u8 ((rd_T82 l0 x15_1).f1), .bool false, .int .i64 0, .int .i64 0, .int .i64 0, .slice none 0 0, .slice none 0 0]) ?_ 2 _ rfl; (with_reducible repeat (first | refine blk_drewN ?_ _ | refine blk_drew ?_ | refine blk_alloc ?_ _)); refine blk_put (cs := #[.int .i64 ((rd_T82 l0 x15_1).f0), .int .u8 0, .bool false, .int .i64 0, .int .i64 0, .int .i64 0, .slice none 0 0, .slice none 0 0]) ?_ 1 _ rfl; (with_reducible repeat (first | refine blk_drewN ?_ _ | refine blk_drew ?_ | refine blk_alloc ?_ _)); refine blk_put (cs := #[.int .i64 0, .int .u8 0, .bool false, .int .i64 0, .int .i64 0, .int .i64 0, .slice none 0 0, .slice none 0 0]) ?_ 0 _ rfl; (with_reducible repeat (first | refine blk_drewN ?_ _ | refine blk_drew ?_ | refine blk_alloc ?_ _)); exact BK221.out)) : gb221 ≠ gb223)); have n6_ := Aside0.mk ((by rw [hg]; exact Nat.ne_of_gt (blk_lt (g := gb221) (o := .cells #[.int .i64 ((rd_T82 l0 x15_1).f0), .int .u8 ((rd_T82 l0 x15_1).f1), .bool ((rd_T82 l0 x15_1).f2), .int .i64 ((rd_T82 l0 x15_1).f3), .int .i64 ((rd_T82 l0 x15_1).f4), .int .i64 ((rd_T82 l0 x15_1).f5), .slice A220_6 ((rd_T82 l0 x15_1).f6).length c220_6, .slice A220_7 ((rd_T82 l0 x15_1).f7).length c220_7] 82 (0, 0)) (by (with_reducible repeat (first | refine blk_drewN ?_ _ | refine blk_drew ?_ | refine blk_alloc ?_ _)); refine blk_put (cs := #[.int .i64 ((rd_T82 l0 x15_1).f0), .int .u8 ((rd_T82 l0 x15_1).f1), .bool ((rd_T82 l0 x15_1).f2), .int .i64 ((rd_T82 l0 x15_1).f3), .int .i64 ((rd_T82 l0 x15_1).f4), .int .i64 ((rd_T82 l0 x15_1).f5), .slice A220_6 ((rd_T82 l0 x15_1).f6).length c220_6, .slice none 0 0]) ?_ 7 _ rfl; (with_reducible repeat (first | refine blk_drewN ?_ _ | refine blk_drew ?_ | refine blk_alloc ?_ _)); refine blk_put (cs := #[.int .i64 ((rd_T82 l0 x15_1).f0), .int .u8 ((rd_T82 l0 x15_1).f1), .bool ((rd_T82 l0 x15_1).f2), .int .i64 ((rd_T82 l0 x15_1).f3), .int .i64 ((rd_T82 l0 x15_1).f4), .int .i64 ((rd_T82 l0 x15_1).f5), .slice none 0 0, .slice none 0 0]) ?_ 6 _ rfl; (with_reducible repeat (first | refine blk_drewN ?_ _ | refine blk_drew ?_ | refine blk_alloc ?_ _)); refine blk_put (cs := #[.int .i64 ((rd_T82 l0 x15_1).f0), .int .u8 ((rd_T82 l0 x15_1).f1), .bool ((rd_T82 l0 x15_1).f2), .int .i64 ((rd_T82 l0 x15_1).f3), .int .i64 ((rd_T82 l0 x15_1).f4), .int .i64 0, .slice none 0 0, .slice none 0 0]) ?_ 5 _ rfl; (with_reducible repeat (first | refine blk_drewN ?_ _ | refine blk_drew ?_ | refine blk_alloc ?_ _)); refine blk_put (cs := #[.int .i64 ((rd_T82 l0 x15_1).f0), .int .u8 ((rd_T82 l0 x15_1).f1), .bool ((rd_T82 l0 x15_1).f2), .int .i64 ((rd_T82 l0 x15_1).f3), .int .i64 0, .int .i64 0, .slice none 0 0, .slice none 0 0]) ?_ 4 _ rfl; (with_reducible repeat (first | refine blk_drewN ?_ _ | refine blk_drew ?_ | refine blk_alloc ?_ _)); refine blk_put (cs := #[.int .i64 ((rd_T82 l0 x15_1).f0), .int .u8 ((rd_T82 l0 x15_1).f1), .bool ((rd_T82 l0 x15_1).f2), .int .i64 0, .int .i64 0, .int .i64 0, .slice none 0 0, .slice none 0 0]) ?_ 3 _ rfl; (with_reducible repeat (first | refine blk_drewN ?_ _ | refine blk_drew ?_ | refine blk_alloc ?_ _)); refine blk_put (cs := #[.int .i64 ((rd_T82 l0 x15_1).f0), .int .u8 ((rd_T82 l0 x15_1).f1), .bool false, .int .i64 0, .int .i64 0, .int .i64 0, .slice none 0 0, .slice none 0 0]) ?_ 2 _ rfl; (with_reducible repeat (first | refine blk_drewN ?_ _ | refine blk_drew ?_ | refine blk_alloc ?_ _)); refine blk_put (cs := #[.int .i64 ((rd_T82 l0 x15_1).f0), .int .u8 0, .bool false, .int .i64 0, .int .i64 0, .int .i64 0, .slice none 0 0, .slice none 0 0]) ?_ 1 _ rfl; (with_reducible repeat (first | refine blk_drewN ?_ _ | refine blk_drew ?_ | refine blk_alloc ?_ _)); refine blk_put (cs := #[.int .i64 0, .int .u8 0, .bool false, .int .i64 0, .int .i64 0, .int .i64 0, .slice none 0 0, .slice none 0 0]) ?_ 0 _ rfl; (with_reducible repeat (first | refine blk_drewN ?_ _ | refine blk_drew ?_ | refine blk_alloc ?_ _)); exact BK221.out)) : gb223 ≠ gb221)); clear BK221; clear HB; have BK221 := n0_; have HB := n1_; have BK223 := n2_; have GW223 := n3_; have GE223 := n4_; have NB221_223 := n5_; have NB223_221 := n6_; clear n0_ n1_ n2_ n3_ n4_ n5_ n6_; clear hb hbox hg; have hnb27 := NB223_221.out; have hnc27 := NB221_223.out; have hcz28_0 : w26.cell? ⟨gb223, 0, none⟩ = some (.int .i64 0) := (blk_cell BK223.out 0).trans rfl; have hcz28_1 : w26.cell? ⟨gb223, 1, none⟩ = some (.int .u8 0) := (blk_cell BK223.out 1).trans rfl; have hcz28_2 : w26.cell? ⟨gb223, 2, none⟩ = some (.bool false) := (blk_cell BK223.out 2).trans rfl; have hcz28_3 : w26.cell? ⟨gb223, 3, none⟩ = some (.int .i64 0) := (blk_cell BK223.out 3).trans rfl; have hcz28_4 : w26.cell? ⟨gb223, 4, none⟩ = some (.int .i64 0) := (blk_cell BK223.out 4).trans rfl; have hcz28_5 : w26.cell? ⟨gb223, 5, none⟩ = some (.int .i64 0) := (blk_cell BK223.out 5).trans rfl; have hcz28_6 : w26.cell? ⟨gb223, 6, none⟩ = some (.slice none 0 0) := (blk_cell BK223.out 6).trans rfl; have hcz28_7 : w26.cell? ⟨gb223, 7, none⟩ = some (.slice none 0 0) := (blk_cell BK223.out 7).trans rfl; have hfz28_0 := blk_frozen BK223.out 0; have hfz28_1 := blk_frozen BK223.out 1; have hfz28_2 := blk_frozen BK223.out 2; have hfz28_3 := blk_frozen BK223.out 3; have hfz28_4 := blk_frozen BK223.out 4; have hfz28_5 := blk_frozen BK223.out 5; have hfz28_6 := blk_frozen BK223.out 6; have hfz28_7 := blk_frozen BK223.out 7; have hcz29_0 : w26.cell? ⟨gb221, 0, none⟩ = some (.int .i64 ((rd_T82 l0 x15_1).f0)) := (blk_cell BK221.out 0).trans rfl; have hcz29_1 : w26.cell? ⟨gb221, 1, none⟩ = some (.int .u8 ((rd_T82 l0 x15_1).f1)) := (blk_cell BK221.out 1).trans rfl; have hcz29_2 : w26.cell? ⟨gb221, 2, none⟩ = some (.bool ((rd_T82 l0 x15_1).f2)) := (blk_cell BK221.out 2).trans rfl; have hcz29_3 : w26.cell? ⟨gb221, 3, none⟩ = some (.int .i64 ((rd_T82 l0 x15_1).f3)) := (blk_cell BK221.out 3).trans rfl; have hcz29_4 : w26.cell? ⟨gb221, 4, none⟩ = some (.int .i64 ((rd_T82 l0 x15_1).f4)) := (blk_cell BK221.out 4).trans rfl; have hcz29_5 : w26.cell? ⟨gb221, 5, none⟩ = some (.int .i64 ((rd_T82 l0 x15_1).f5)) := (blk_cell BK221.out 5).trans rfl; have hcz29_6 : w26.cell? ⟨gb221, 6, none⟩ = some (.slice A220_6 ((rd_T82 l0 x15_1).f6).length c220_6) := (blk_cell BK221.out 6).trans rfl; have hcz29_7 : w26.cell? ⟨gb221, 7, none⟩ = some (.slice A220_7 ((rd_T82 l0 x15_1).f7).length c220_7) := (blk_cell BK221.out 7).trans rfl; have hfz29_0 := blk_frozen BK221.out 0; have hfz29_1 := blk_frozen BK221.out 1; have hfz29_2 := blk_frozen BK221.out 2; have hfz29_3 := blk_frozen BK221.out 3; have hfz29_4 := blk_frozen BK221.out 4; have hfz29_5 := blk_frozen BK221.out 5; have hfz29_6 := blk_frozen BK221.out 6; have hfz29_7 := blk_frozen BK221.out 7) | (go_at_call 82; (with_reducible refine (jvmcorelaw2_sameInts.calls k1 _ _ ((rd_T82 l0 x15_1).f6) _ _ ((rd_T82 l1 x15_1).f6) true _ ?side1 ?side2 ?side3 ?side4 A20.out).mono ?_); (case side1 => exact Kd.C_below HR220_6.out (by repeat (first | (with_reducible first | exact HB.out | apply below_alloc | apply pw_below_drewN | apply below_drew1 | refine below_set ?_ GE221.out | refine below_set ?_ GE223.out) | exact HB.out))); (case side2 => exact HC220_6.out); (case side3 => exact Kd.C_below HR222_6.out (by repeat (first | (with_reducible first | exact HB.out | apply below_alloc | apply pw_below_drewN | apply below_drew1 | refine below_set ?_ GE221.out | refine below_set ?_ GE223.out) | exact HB.out))); (case side4 => exact HC222_6.out); rintro e w' ⟨rfl, ⟨nd, rfl⟩⟩) | (go_at_call 82; (with_reducible refine (jvmcorelaw2_sameInts.calls k1 _ _ ((rd_T82 l0 x15_1).f7) _ _ ((rd_T82 l1 x15_1).f7) true _ ?side1 ?side2 ?side3 ?side4 A22.out).mono ?_); (case side1 => exact Kd.C_below HR220_7.out (by repeat (first | (with_reducible first | exact HB.out | apply below_alloc | apply pw_below_drewN | apply below_drew1 | refine below_set ?_ GE221.out | refine below_set ?_ GE223.out) | exact HB.out))); (case side2 => exact HC220_7.out); (case side3 => exact Kd.C_below HR222_7.out (by repeat (first | (with_reducible first | exact HB.out | apply below_alloc | apply pw_below_drewN | apply below_drew1 | refine below_set ?_ GE221.out | refine below_set ?_ GE223.out) | exact HB.out))); (case side4 => exact HC222_7.out); rintro e w' ⟨rfl, ⟨nd, rfl⟩⟩))
                                go_roundg k1
                                case measure => have := HK1.out; omega
                                case rel => exact ⟨(wrap64 (x15_1 + 1)), (by first | rfl | (simp; done) | (simp [*]; done)), H', ⟨by have := HK1.out; omega⟩, ⟨by repeat (first | (with_reducible first | exact HB.out | apply below_alloc | apply pw_below_drewN | apply below_drew1 | refine below_set ?_ GE221.out | refine below_set ?_ GE223.out) | exact HB.out)⟩⟩
                              · replace c23 := Bool.eq_false_iff.mpr c23
                                subst c23
                                have H1 : (some false) = some true := by rw [if_neg (show ¬ (false = true) by decide)] at H; exact H
                                clear H
                                have H := H1
                                clear H1
                                exact absurd H (by simp)
                            · replace c21 := Bool.eq_false_iff.mpr c21
                              subst c21
                              have H1 : (some false) = some true := by rw [if_neg (show ¬ (false = true) by decide)] at H; exact H
                              clear H
                              have H := H1
                              clear H1
                              exact absurd H (by simp)
                          · rw [if_neg c19] at H
                            have c19b0 : (((rd_T82 l0 x15_1).f5) == ((rd_T82 l1 x15_1).f5)) = false := beq_eq_false_iff_ne.mpr c19
                            have c19b1 : (((rd_T82 l0 x15_1).f5) != ((rd_T82 l1 x15_1).f5)) = true := bne_iff_ne.mpr c19
                            exact absurd H (by simp)
                        · rw [if_neg c18] at H
                          have c18b0 : (((rd_T82 l0 x15_1).f4) == ((rd_T82 l1 x15_1).f4)) = false := beq_eq_false_iff_ne.mpr c18
                          have c18b1 : (((rd_T82 l0 x15_1).f4) != ((rd_T82 l1 x15_1).f4)) = true := bne_iff_ne.mpr c18
                          exact absurd H (by simp)
                      · rw [if_neg c17] at H
                        have c17b0 : (((rd_T82 l0 x15_1).f3) == ((rd_T82 l1 x15_1).f3)) = false := beq_eq_false_iff_ne.mpr c17
                        have c17b1 : (((rd_T82 l0 x15_1).f3) != ((rd_T82 l1 x15_1).f3)) = true := bne_iff_ne.mpr c17
                        exact absurd H (by simp)
                  · rw [if_neg c9] at H
                    have c9b0 : (((rd_T82 l0 x15_1).f1) == ((rd_T82 l1 x15_1).f1)) = false := beq_eq_false_iff_ne.mpr c9
                    have c9b1 : (((rd_T82 l0 x15_1).f1) != ((rd_T82 l1 x15_1).f1)) = true := bne_iff_ne.mpr c9
                    exact absurd H (by simp)
                · rw [if_neg c8] at H
                  have c8b0 : (((rd_T82 l0 x15_1).f0) == ((rd_T82 l1 x15_1).f0)) = false := beq_eq_false_iff_ne.mpr c8
                  have c8b1 : (((rd_T82 l0 x15_1).f0) != ((rd_T82 l1 x15_1).f0)) = true := bne_iff_ne.mpr c8
                  exact absurd H (by simp)
              · rw [if_neg c7] at H
                exact absurd H (by simp)
            · rw [if_neg c6] at H
              exact absurd H (by simp)
          · rw [if_neg c5] at H
            exact absurd H (by simp)
        · rw [if_neg c4] at H
          have c4b0 : decide (x15_1 < (l0.length : Int)) = false := decide_eq_false c4
          clear c4
          clear H
          go_wp2
          go_ret
          exact ⟨by first | rfl | (simp [errW_none, errW_some] <;> rfl) | (simp [*, errW_none, errW_some] <;> rfl), by repeat (first | (with_reducible first | exact HB.out | apply below_alloc | apply pw_below_drewN | apply below_drew1) | exact HB.out)⟩
  · rw [if_neg c3] at H
    have c3b0 : ((l0.length : Int) == (l1.length : Int)) = false := beq_eq_false_iff_ne.mpr c3
    have c3b1 : ((l0.length : Int) != (l1.length : Int)) = true := bne_iff_ne.mpr c3
    have c3b2 : (l0.length == l1.length) = false := by first | simpa using c3 | (simp at c3 ⊢; omega)
    exact absurd H (by simp)
def jvmcorelaw2_same.f (k : Nat) (l0 : List (S82)) (l1 : List (S82)) : Option (Bool) := if jvmcorelaw2_same.g k l0 l1 = some true then some true else none
theorem jvmcorelaw2_same.mono : ∀ a0 a1 k, LeO (jvmcorelaw2_same.f k a0 a1) (jvmcorelaw2_same.f (k + 1) a0 a1) := by
  intro a0 a1 k r h
  unfold jvmcorelaw2_same.f at h ⊢
  by_cases hk : jvmcorelaw2_same.g k a0 a1 = some true
  · rw [if_pos hk] at h
    rw [if_pos (jvmcorelaw2_same.monog a0 a1 k _ hk)]
    exact h
  · rw [if_neg hk] at h; cases h
theorem jvmcorelaw2_same.calls (k : Nat) (A0 : Option Addr) (c0 : Nat) (l0 : List (S82)) (A1 : Option Addr) (c1 : Nat) (l1 : List (S82)) (r : Bool) (w : World) (hr0 : Kd.C k82 w A0 l0.length l0) (hc0 : l0.length ≤ c0) (hr1 : Kd.C k82 w A1 l1.length l1) (hc1 : l1.length ≤ c1) (h : jvmcorelaw2_same.f k l0 l1 = some r) :
    Calls Try.prog 41 #[.slice A0 l0.length c0, .slice A1 l1.length c1] w fun e w' => e = .returned (.bool r) ∧ Below w.heap.size w w' := by
  unfold jvmcorelaw2_same.f at h
  by_cases hk : jvmcorelaw2_same.g k l0 l1 = some true
  · rw [if_pos hk] at h
    obtain rfl := Option.some.inj h
    exact jvmcorelaw2_same.callsT k A0 c0 l0 A1 c1 l1 w hr0 hc0 hr1 hc1 hk
  · rw [if_neg hk] at h; cases h
end Go.Proofs.Ytfnjbmpolggdeaa.CW
end
section
namespace Go.Proofs.Ytfnjbmpolggdeaa.CW
open Go.RowKit Go.Proofs.YtfnjbmpolggdeaaW.PrintWords Go.Proofs.YtfnjbmpolggdeaaW.PrintLast Go.Proofs.YtfnjbmpolggdeaaW.PrintMore
attribute [local go_sem] max2_int min2_int max_two min_two max_three min_three max_four min_four   -- for this text's walks alone
set_option linter.unusedVariables false
set_option linter.unusedSimpArgs false
def jvmcorelaw2_CodeWrites.f (k : Nat) (l0 : List (S82)) : Option (Bool) := (jvmcorelaw2_weight.f k l0).bind fun t159 => (if t159 > 32768 then (some true) else ((jvmcorelaw2_twin.f k l0).bind fun t160 => ((code_Encode.f l0).bind fun bt163 => ((jvmcoreref2_Encode.f t160).bind fun bt166 => (if bt163.1.toList = bt166.1.toList then (if bt163.2.1 = bt166.2.1 then (if bt163.2.2 = bt166.2.2 then ((jvmcorelaw2_same.f k l0 t160).bind fun t169 => (some t169)) else (some false)) else (some false)) else (some false))))))
theorem jvmcorelaw2_CodeWrites.mono : ∀ a0 k, LeO (jvmcorelaw2_CodeWrites.f k a0) (jvmcorelaw2_CodeWrites.f (k + 1) a0) := by
  intro a0 k
  unfold jvmcorelaw2_CodeWrites.f
  repeat' first
      | (with_reducible exact jvmcorelaw2_same.mono _ _ _)
      | (with_reducible exact jvmcorelaw2_twin.mono _ _)
      | (with_reducible exact jvmcorelaw2_weight.mono _ _)
      | (with_reducible exact LeO.refl _)
      | (with_reducible exact LeO.none _)
      | (with_reducible refine LeO.ite ?_ ?_)
      | (with_reducible refine LeO.bind ?_ (fun _ => ?_))
set_option maxHeartbeats 8000000 in
set_option maxRecDepth 100000 in
theorem jvmcorelaw2_CodeWrites.calls (k : Nat) (A0 : Option Addr) (c0 : Nat) (l0 : List (S82)) (r : Bool) (w : World) (hr0 : Kd.C k82 w A0 l0.length l0) (hc0 : l0.length ≤ c0) (h : jvmcorelaw2_CodeWrites.f k l0 = some r) :
    Calls Try.prog 10 #[.slice A0 l0.length c0] w fun e w' => e = .returned (.bool r) ∧ Below w.heap.size w w' := by
  have HR0 := Aside0.mk hr0
  have HC0 := Aside0.mk hc0
  clear hr0 hc0
  have HB := Aside0.mk (Below.refl w.heap.size w)
  have H : ((jvmcorelaw2_weight.f k l0).bind fun t159 => (if t159 > 32768 then (some true) else ((jvmcorelaw2_twin.f k l0).bind fun t160 => ((code_Encode.f l0).bind fun bt163 => ((jvmcoreref2_Encode.f t160).bind fun bt166 => (if bt163.1.toList = bt166.1.toList then (if bt163.2.1 = bt166.2.1 then (if bt163.2.2 = bt166.2.2 then ((jvmcorelaw2_same.f k l0 t160).bind fun t169 => (some t169)) else (some false)) else (some false)) else (some false))))))) = some r := h
  clear h
  replace H := Option.bind_eq_some_iff.mp H
  obtain ⟨t159, A20, H⟩ := H
  replace H : (if t159 > 32768 then (some true) else ((jvmcorelaw2_twin.f k l0).bind fun t160 => ((code_Encode.f l0).bind fun bt163 => ((jvmcoreref2_Encode.f t160).bind fun bt166 => (if bt163.1.toList = bt166.1.toList then (if bt163.2.1 = bt166.2.1 then (if bt163.2.2 = bt166.2.2 then ((jvmcorelaw2_same.f k l0 t160).bind fun t169 => (some t169)) else (some false)) else (some false)) else (some false)))))) = some r := H
  have A2 := Aside0.mk A20
  clear A20
  by_cases c3 : t159 > 32768
  · rw [if_pos c3] at H
    have c3b0 : decide (32768 < t159) = true := decide_eq_true c3
    clear c3
    obtain rfl := Option.some.inj H
    go_enter Try.func10, Try.ntmps10
    go_wp2_with (first | ((with_reducible refine gate_callee (f := 37) rfl ?_); refine goesL_ (some 11) rfl rfl Try.func37 (by kernel_rfl) rfl #[.slice A0 l0.length c0] rfl (by (try simp only [List.map_toArray, List.map_cons, List.map_nil]); first | done | rfl | (simp only [List.length_drop, List.length_take]; rfl)) ?_; (with_reducible refine (jvmcorelaw2_weight.calls k _ _ l0 t159 _ ?side1 ?side2 A2.out).mono ?_); (case side1 => repeat (first | exact HR0.out | (with_reducible refine Kd.C_alloc ?_ _) | (with_reducible refine Kd.C_drewN ?_ _) | (with_reducible refine Kd.C_drew ?_))); (case side2 => exact HC0.out); rintro e w4 ⟨rfl, hb⟩; refine ⟨_, rfl, ?_⟩; have n0_ := Aside0.mk (below_step (by repeat (first | (with_reducible first | exact HB.out | apply below_alloc | apply pw_below_drewN | apply below_drew1) | exact HB.out)) hb); clear HB; have HB := n0_; clear n0_; (try clear hb); (try clear hb2); (try clear hk); (try clear hi)))
    go_ret
    exact ⟨by first | rfl | (simp [errW_none, errW_some] <;> rfl) | (simp [*, errW_none, errW_some] <;> rfl), by repeat (first | (with_reducible first | exact HB.out | apply below_alloc | apply pw_below_drewN | apply below_drew1) | exact HB.out)⟩
  · rw [if_neg c3] at H
    have c3b0 : decide (32768 < t159) = false := decide_eq_false c3
    clear c3
    replace H := Option.bind_eq_some_iff.mp H
    obtain ⟨t160, A50, H⟩ := H
    replace H : ((code_Encode.f l0).bind fun bt163 => ((jvmcoreref2_Encode.f t160).bind fun bt166 => (if bt163.1.toList = bt166.1.toList then (if bt163.2.1 = bt166.2.1 then (if bt163.2.2 = bt166.2.2 then ((jvmcorelaw2_same.f k l0 t160).bind fun t169 => (some t169)) else (some false)) else (some false)) else (some false)))) = some r := H
    have A5 := Aside0.mk A50
    clear A50
    replace H := Option.bind_eq_some_iff.mp H
    obtain ⟨⟨t163, t164, t165⟩, A60, H⟩ := H
    replace H : ((jvmcoreref2_Encode.f t160).bind fun bt166 => (if t163.toList = bt166.1.toList then (if t164 = bt166.2.1 then (if t165 = bt166.2.2 then ((jvmcorelaw2_same.f k l0 t160).bind fun t169 => (some t169)) else (some false)) else (some false)) else (some false))) = some r := H
    have A6 := Aside0.mk A60
    clear A60
    replace H := Option.bind_eq_some_iff.mp H
    obtain ⟨⟨t166, t167, t168⟩, A70, H⟩ := H
    replace H : (if t163.toList = t166.toList then (if t164 = t167 then (if t165 = t168 then ((jvmcorelaw2_same.f k l0 t160).bind fun t169 => (some t169)) else (some false)) else (some false)) else (some false)) = some r := H
    have A7 := Aside0.mk A70
    clear A70
    by_cases c8 : t163.toList = t166.toList
    · rw [if_pos c8] at H
      have c8b0 : (t163.toList == t166.toList) = true := beq_iff_eq.mpr c8
      have c8b1 : (t163.toList != t166.toList) = false := bne_eq_false_iff_eq.mpr c8
      clear c8
      by_cases c9 : t164 = t167
      · rw [if_pos c9] at H
        have c9b0 : (t164 == t167) = true := beq_iff_eq.mpr c9
        have c9b1 : (t164 != t167) = false := bne_eq_false_iff_eq.mpr c9
        clear c9
        by_cases c10 : t165 = t168
        · rw [if_pos c10] at H
          have c10b0 : (t165 == t168) = true := beq_iff_eq.mpr c10
          have c10b1 : (t165 != t168) = false := bne_eq_false_iff_eq.mpr c10
          clear c10
          replace H := Option.bind_eq_some_iff.mp H
          obtain ⟨t169, A110, H⟩ := H
          replace H : (some t169) = some r := H
          have A11 := Aside0.mk A110
          clear A110
          obtain rfl := Option.some.inj H
          go_enter Try.func10, Try.ntmps10
          go_wp2_with (first | ((with_reducible refine gate_callee (f := 37) rfl ?_); refine goesL_ (some 11) rfl rfl Try.func37 (by kernel_rfl) rfl #[.slice A0 l0.length c0] rfl (by (try simp only [List.map_toArray, List.map_cons, List.map_nil]); first | done | rfl | (simp only [List.length_drop, List.length_take]; rfl)) ?_; (with_reducible refine (jvmcorelaw2_weight.calls k _ _ l0 t159 _ ?side1 ?side2 A2.out).mono ?_); (case side1 => repeat (first | exact HR0.out | (with_reducible refine Kd.C_alloc ?_ _) | (with_reducible refine Kd.C_drewN ?_ _) | (with_reducible refine Kd.C_drew ?_))); (case side2 => exact HC0.out); rintro e w12 ⟨rfl, hb⟩; refine ⟨_, rfl, ?_⟩; have n0_ := Aside0.mk (below_step (by repeat (first | (with_reducible first | exact HB.out | apply below_alloc | apply pw_below_drewN | apply below_drew1) | exact HB.out)) hb); clear HB; have HB := n0_; clear n0_; (try clear hb); (try clear hb2); (try clear hk); (try clear hi)) | ((with_reducible refine gate_callee (f := 38) rfl ?_); refine goesL_ (some 14) rfl rfl Try.func38 (by kernel_rfl) rfl #[.slice A0 l0.length c0] rfl (by (try simp only [List.map_toArray, List.map_cons, List.map_nil]); first | done | rfl | (simp only [List.length_drop, List.length_take]; rfl)) ?_; (with_reducible refine (jvmcorelaw2_twin.calls k _ _ l0 t160 _ ?side1 ?side2 A5.out).mono ?_); (case side1 => repeat (first | exact (Kd.C_below HR0.out HB.out) | (with_reducible refine Kd.C_alloc ?_ _) | (with_reducible refine Kd.C_drewN ?_ _) | (with_reducible refine Kd.C_drew ?_))); (case side2 => exact HC0.out); rintro e w13 ⟨v161, rfl, ho0, hb⟩; refine ⟨_, rfl, ?_⟩; have n0_ := Aside0.mk (Kd.S_lower ho0 (below_size (by repeat (first | (with_reducible first | exact HB.out | apply below_alloc | apply pw_below_drewN | apply below_drew1) | exact HB.out)))); have n1_ := Aside0.mk (below_step (by repeat (first | (with_reducible first | exact HB.out | apply below_alloc | apply pw_below_drewN | apply below_drew1) | exact HB.out)) hb); clear HB; have HO162 := n0_; have HB := n1_; clear n0_ n1_; (try clear hb); (try clear hb2); (try clear hk); (try clear hi); (try clear ho0)) | ((with_reducible refine gate_callee (f := 39) rfl ?_); refine goesL_ (some 17) rfl rfl Try.func39 (by kernel_rfl) rfl #[.slice A0 l0.length c0] rfl (by (try simp only [List.map_toArray, List.map_cons, List.map_nil]); first | done | rfl | (simp only [List.length_drop, List.length_take]; rfl)) ?_; (with_reducible refine (code_Encode.calls _ _ l0 t163 t164 t165 _ ?side1 ?side2 A6.out).mono ?_); (case side1 => repeat (first | exact (Kd.C_below HR0.out HB.out) | (with_reducible refine Kd.C_alloc ?_ _) | (with_reducible refine Kd.C_drewN ?_ _) | (with_reducible refine Kd.C_drew ?_))); (case side2 => exact HC0.out); rintro e w14 ⟨rfl, hb⟩; refine ⟨_, rfl, ?_⟩; have n0_ := Aside0.mk (Kd.S_below (by (with_reducible repeat (first | apply Kd.S_alloc | apply Kd.S_drewN | apply Kd.S_drew)); exact HO162.out) hb); have n1_ := Aside0.mk (below_step (by repeat (first | (with_reducible first | exact HB.out | apply below_alloc | apply pw_below_drewN | apply below_drew1) | exact HB.out)) hb); clear HO162; clear HB; have HO162 := n0_; have HB := n1_; clear n0_ n1_; (try clear hb); (try clear hb2); (try clear hk); (try clear hi); obtain ⟨Ao15, co15, eo15⟩ := Kd.S_slice HO162.out; subst eo15) | ((with_reducible refine gate_callee (f := 40) rfl ?_); refine goesL_ (some 23) rfl rfl Try.func40 (by kernel_rfl) rfl #[.slice Ao15 t160.length co15] rfl (by (try simp only [List.map_toArray, List.map_cons, List.map_nil]); first | done | rfl | (simp only [List.length_drop, List.length_take]; rfl)) ?_; (with_reducible refine (jvmcoreref2_Encode.calls _ _ t160 t166 t167 t168 _ ?side1 ?side2 A7.out).mono ?_); (case side1 => repeat (first | exact (Kd.S_reads' HO162.out).2.2 | (with_reducible refine Kd.C_alloc ?_ _) | (with_reducible refine Kd.C_drewN ?_ _) | (with_reducible refine Kd.C_drew ?_))); (case side2 => exact (Kd.S_reads' HO162.out).2.1); rintro e w16 ⟨rfl, hb⟩; refine ⟨_, rfl, ?_⟩; have n0_ := Aside0.mk (Kd.S_below (by (with_reducible repeat (first | apply Kd.S_alloc | apply Kd.S_drewN | apply Kd.S_drew)); exact HO162.out) hb); have n1_ := Aside0.mk (below_step (by repeat (first | (with_reducible first | exact HB.out | apply below_alloc | apply pw_below_drewN | apply below_drew1) | exact HB.out)) hb); clear HO162; clear HB; have HO162 := n0_; have HB := n1_; clear n0_ n1_; (try clear hb); (try clear hb2); (try clear hk); (try clear hi)) | (go_at_call 41; (with_reducible refine (jvmcorelaw2_same.calls k _ _ l0 _ _ t160 t169 _ ?side1 ?side2 ?side3 ?side4 A11.out).mono ?_); (case side1 => repeat (first | exact (Kd.C_below HR0.out HB.out) | (with_reducible refine Kd.C_alloc ?_ _) | (with_reducible refine Kd.C_drewN ?_ _) | (with_reducible refine Kd.C_drew ?_))); (case side2 => exact HC0.out); (case side3 => repeat (first | exact (Kd.S_reads' HO162.out).2.2 | (with_reducible refine Kd.C_alloc ?_ _) | (with_reducible refine Kd.C_drewN ?_ _) | (with_reducible refine Kd.C_drew ?_))); (case side4 => exact (Kd.S_reads' HO162.out).2.1); rintro e w17 ⟨rfl, hb⟩; have n0_ := Aside0.mk (Kd.S_below (by (with_reducible repeat (first | apply Kd.S_alloc | apply Kd.S_drewN | apply Kd.S_drew)); exact HO162.out) hb); have n1_ := Aside0.mk (below_step (by repeat (first | (with_reducible first | exact HB.out | apply below_alloc | apply pw_below_drewN | apply below_drew1) | exact HB.out)) hb); clear HO162; clear HB; have HO162 := n0_; have HB := n1_; clear n0_ n1_; (try clear hb); (try clear hb2); (try clear hk); (try clear hi)))
          go_ret
          exact ⟨by first | rfl | (simp [errW_none, errW_some] <;> rfl) | (simp [*, errW_none, errW_some] <;> rfl), by repeat (first | (with_reducible first | exact HB.out | apply below_alloc | apply pw_below_drewN | apply below_drew1) | exact HB.out)⟩
        · rw [if_neg c10] at H
          have c10b0 : (t165 == t168) = false := beq_eq_false_iff_ne.mpr c10
          have c10b1 : (t165 != t168) = true := bne_iff_ne.mpr c10
          obtain rfl := Option.some.inj H
          go_enter Try.func10, Try.ntmps10
          go_wp2_with (first | ((with_reducible refine gate_callee (f := 37) rfl ?_); refine goesL_ (some 11) rfl rfl Try.func37 (by kernel_rfl) rfl #[.slice A0 l0.length c0] rfl (by (try simp only [List.map_toArray, List.map_cons, List.map_nil]); first | done | rfl | (simp only [List.length_drop, List.length_take]; rfl)) ?_; (with_reducible refine (jvmcorelaw2_weight.calls k _ _ l0 t159 _ ?side1 ?side2 A2.out).mono ?_); (case side1 => repeat (first | exact HR0.out | (with_reducible refine Kd.C_alloc ?_ _) | (with_reducible refine Kd.C_drewN ?_ _) | (with_reducible refine Kd.C_drew ?_))); (case side2 => exact HC0.out); rintro e w18 ⟨rfl, hb⟩; refine ⟨_, rfl, ?_⟩; have n0_ := Aside0.mk (below_step (by repeat (first | (with_reducible first | exact HB.out | apply below_alloc | apply pw_below_drewN | apply below_drew1) | exact HB.out)) hb); clear HB; have HB := n0_; clear n0_; (try clear hb); (try clear hb2); (try clear hk); (try clear hi)) | ((with_reducible refine gate_callee (f := 38) rfl ?_); refine goesL_ (some 14) rfl rfl Try.func38 (by kernel_rfl) rfl #[.slice A0 l0.length c0] rfl (by (try simp only [List.map_toArray, List.map_cons, List.map_nil]); first | done | rfl | (simp only [List.length_drop, List.length_take]; rfl)) ?_; (with_reducible refine (jvmcorelaw2_twin.calls k _ _ l0 t160 _ ?side1 ?side2 A5.out).mono ?_); (case side1 => repeat (first | exact (Kd.C_below HR0.out HB.out) | (with_reducible refine Kd.C_alloc ?_ _) | (with_reducible refine Kd.C_drewN ?_ _) | (with_reducible refine Kd.C_drew ?_))); (case side2 => exact HC0.out); rintro e w19 ⟨v161, rfl, ho0, hb⟩; refine ⟨_, rfl, ?_⟩; have n0_ := Aside0.mk (Kd.S_lower ho0 (below_size (by repeat (first | (with_reducible first | exact HB.out | apply below_alloc | apply pw_below_drewN | apply below_drew1) | exact HB.out)))); have n1_ := Aside0.mk (below_step (by repeat (first | (with_reducible first | exact HB.out | apply below_alloc | apply pw_below_drewN | apply below_drew1) | exact HB.out)) hb); clear HB; have HO162 := n0_; have HB := n1_; clear n0_ n1_; (try clear hb); (try clear hb2); (try clear hk); (try clear hi); (try clear ho0)) | ((with_reducible refine gate_callee (f := 39) rfl ?_); refine goesL_ (some 17) rfl rfl Try.func39 (by kernel_rfl) rfl #[.slice A0 l0.length c0] rfl (by (try simp only [List.map_toArray, List.map_cons, List.map_nil]); first | done | rfl | (simp only [List.length_drop, List.length_take]; rfl)) ?_; (with_reducible refine (code_Encode.calls _ _ l0 t163 t164 t165 _ ?side1 ?side2 A6.out).mono ?_); (case side1 => repeat (first | exact (Kd.C_below HR0.out HB.out) | (with_reducible refine Kd.C_alloc ?_ _) | (with_reducible refine Kd.C_drewN ?_ _) | (with_reducible refine Kd.C_drew ?_))); (case side2 => exact HC0.out); rintro e w20 ⟨rfl, hb⟩; refine ⟨_, rfl, ?_⟩; have n0_ := Aside0.mk (Kd.S_below (by (with_reducible repeat (first | apply Kd.S_alloc | apply Kd.S_drewN | apply Kd.S_drew)); exact HO162.out) hb); have n1_ := Aside0.mk (below_step (by repeat (first | (with_reducible first | exact HB.out | apply below_alloc | apply pw_below_drewN | apply below_drew1) | exact HB.out)) hb); clear HO162; clear HB; have HO162 := n0_; have HB := n1_; clear n0_ n1_; (try clear hb); (try clear hb2); (try clear hk); (try clear hi); obtain ⟨Ao21, co21, eo21⟩ := Kd.S_slice HO162.out; subst eo21) | ((with_reducible refine gate_callee (f := 40) rfl ?_); refine goesL_ (some 23) rfl rfl Try.func40 (by kernel_rfl) rfl #[.slice Ao21 t160.length co21] rfl (by (try simp only [List.map_toArray, List.map_cons, List.map_nil]); first | done | rfl | (simp only [List.length_drop, List.length_take]; rfl)) ?_; (with_reducible refine (jvmcoreref2_Encode.calls _ _ t160 t166 t167 t168 _ ?side1 ?side2 A7.out).mono ?_); (case side1 => repeat (first | exact (Kd.S_reads' HO162.out).2.2 | (with_reducible refine Kd.C_alloc ?_ _) | (with_reducible refine Kd.C_drewN ?_ _) | (with_reducible refine Kd.C_drew ?_))); (case side2 => exact (Kd.S_reads' HO162.out).2.1); rintro e w22 ⟨rfl, hb⟩; refine ⟨_, rfl, ?_⟩; have n0_ := Aside0.mk (Kd.S_below (by (with_reducible repeat (first | apply Kd.S_alloc | apply Kd.S_drewN | apply Kd.S_drew)); exact HO162.out) hb); have n1_ := Aside0.mk (below_step (by repeat (first | (with_reducible first | exact HB.out | apply below_alloc | apply pw_below_drewN | apply below_drew1) | exact HB.out)) hb); clear HO162; clear HB; have HO162 := n0_; have HB := n1_; clear n0_ n1_; (try clear hb); (try clear hb2); (try clear hk); (try clear hi)))
          go_ret
          exact ⟨by first | rfl | (simp [errW_none, errW_some] <;> rfl) | (simp [*, errW_none, errW_some] <;> rfl), by repeat (first | (with_reducible first | exact HB.out | apply below_alloc | apply pw_below_drewN | apply below_drew1) | exact HB.out)⟩
      · rw [if_neg c9] at H
        have c9b0 : (t164 == t167) = false := beq_eq_false_iff_ne.mpr c9
        have c9b1 : (t164 != t167) = true := bne_iff_ne.mpr c9
        obtain rfl := Option.some.inj H
        go_enter Try.func10, Try.ntmps10
        go_wp2_with (first | ((with_reducible refine gate_callee (f := 37) rfl ?_); refine goesL_ (some 11) rfl rfl Try.func37 (by kernel_rfl) rfl #[.slice A0 l0.length c0] rfl (by (try simp only [List.map_toArray, List.map_cons, List.map_nil]); first | done | rfl | (simp only [List.length_drop, List.length_take]; rfl)) ?_; (with_reducible refine (jvmcorelaw2_weight.calls k _ _ l0 t159 _ ?side1 ?side2 A2.out).mono ?_); (case side1 => repeat (first | exact HR0.out | (with_reducible refine Kd.C_alloc ?_ _) | (with_reducible refine Kd.C_drewN ?_ _) | (with_reducible refine Kd.C_drew ?_))); (case side2 => exact HC0.out); rintro e w23 ⟨rfl, hb⟩; refine ⟨_, rfl, ?_⟩; have n0_ := Aside0.mk (below_step (by repeat (first | (with_reducible first | exact HB.out | apply below_alloc | apply pw_below_drewN | apply below_drew1) | exact HB.out)) hb); clear HB; have HB := n0_; clear n0_; (try clear hb); (try clear hb2); (try clear hk); (try clear hi)) | ((with_reducible refine gate_callee (f := 38) rfl ?_); refine goesL_ (some 14) rfl rfl Try.func38 (by kernel_rfl) rfl #[.slice A0 l0.length c0] rfl (by (try simp only [List.map_toArray, List.map_cons, List.map_nil]); first | done | rfl | (simp only [List.length_drop, List.length_take]; rfl)) ?_; (with_reducible refine (jvmcorelaw2_twin.calls k _ _ l0 t160 _ ?side1 ?side2 A5.out).mono ?_); (case side1 => repeat (first | exact (Kd.C_below HR0.out HB.out) | (with_reducible refine Kd.C_alloc ?_ _) | (with_reducible refine Kd.C_drewN ?_ _) | (with_reducible refine Kd.C_drew ?_))); (case side2 => exact HC0.out); rintro e w24 ⟨v161, rfl, ho0, hb⟩; refine ⟨_, rfl, ?_⟩; have n0_ := Aside0.mk (Kd.S_lower ho0 (below_size (by repeat (first | (with_reducible first | exact HB.out | apply below_alloc | apply pw_below_drewN | apply below_drew1) | exact HB.out)))); have n1_ := Aside0.mk (below_step (by repeat (first | (with_reducible first | exact HB.out | apply below_alloc | apply pw_below_drewN | apply below_drew1) | exact HB.out)) hb); clear HB; have HO162 := n0_; have HB := n1_; clear n0_ n1_; (try clear hb); (try clear hb2); (try clear hk); (try clear hi); (try clear ho0)) | ((with_reducible refine gate_callee (f := 39) rfl ?_); refine goesL_ (some 17) rfl rfl Try.func39 (by kernel_rfl) rfl #[.slice A0 l0.length c0] rfl (by (try simp only [List.map_toArray, List.map_cons, List.map_nil]); first | done | rfl | (simp only [List.length_drop, List.length_take]; rfl)) ?_; (with_reducible refine (code_Encode.calls _ _ l0 t163 t164 t165 _ ?side1 ?side2 A6.out).mono ?_); (case side1 => repeat (first | exact (Kd.C_below HR0.out HB.out) | (with_reducible refine Kd.C_alloc ?_ _) | (with_reducible refine Kd.C_drewN ?_ _) | (with_reducible refine Kd.C_drew ?_))); (case side2 => exact HC0.out); rintro e w25 ⟨rfl, hb⟩; refine ⟨_, rfl, ?_⟩; have n0_ := Aside0.mk (Kd.S_below (by (with_reducible repeat (first | apply Kd.S_alloc | apply Kd.S_drewN | apply Kd.S_drew)); exact HO162.out) hb); have n1_ := Aside0.mk (below_step (by repeat (first | (with_reducible first | exact HB.out | apply below_alloc | apply pw_below_drewN | apply below_drew1) | exact HB.out)) hb); clear HO162; clear HB; have HO162 := n0_; have HB := n1_; clear n0_ n1_; (try clear hb); (try clear hb2); (try clear hk); (try clear hi); obtain ⟨Ao26, co26, eo26⟩ := Kd.S_slice HO162.out; subst eo26) | ((with_reducible refine gate_callee (f := 40) rfl ?_); refine goesL_ (some 23) rfl rfl Try.func40 (by kernel_rfl) rfl #[.slice Ao26 t160.length co26] rfl (by (try simp only [List.map_toArray, List.map_cons, List.map_nil]); first | done | rfl | (simp only [List.length_drop, List.length_take]; rfl)) ?_; (with_reducible refine (jvmcoreref2_Encode.calls _ _ t160 t166 t167 t168 _ ?side1 ?side2 A7.out).mono ?_); (case side1 => repeat (first | exact (Kd.S_reads' HO162.out).2.2 | (with_reducible refine Kd.C_alloc ?_ _) | (with_reducible refine Kd.C_drewN ?_ _) | (with_reducible refine Kd.C_drew ?_))); (case side2 => exact (Kd.S_reads' HO162.out).2.1); rintro e w27 ⟨rfl, hb⟩; refine ⟨_, rfl, ?_⟩; have n0_ := Aside0.mk (Kd.S_below (by (with_reducible repeat (first | apply Kd.S_alloc | apply Kd.S_drewN | apply Kd.S_drew)); exact HO162.out) hb); have n1_ := Aside0.mk (below_step (by repeat (first | (with_reducible first | exact HB.out | apply below_alloc | apply pw_below_drewN | apply below_drew1) | exact HB.out)) hb); clear HO162; clear HB; have HO162 := n0_; have HB := n1_; clear n0_ n1_; (try clear hb); (try clear hb2); (try clear hk); (try clear hi)))
        go_ret
        exact ⟨by first | rfl | (simp [errW_none, errW_some] <;> rfl) | (simp [*, errW_none, errW_some] <;> rfl), by repeat (first | (with_reducible first | exact HB.out | apply below_alloc | apply pw_below_drewN | apply below_drew1) | exact HB.out)⟩
    · rw [if_neg c8] at H
      have c8b0 : (t163.toList == t166.toList) = false := beq_eq_false_iff_ne.mpr c8
      have c8b1 : (t163.toList != t166.toList) = true := bne_iff_ne.mpr c8
      obtain rfl := Option.some.inj H
      go_enter Try.func10, Try.ntmps10
      go_wp2_with (first | ((with_reducible refine gate_callee (f := 37) rfl ?_); refine goesL_ (some 11) rfl rfl Try.func37 (by kernel_rfl) rfl #[.slice A0 l0.length c0] rfl (by (try simp only [List.map_toArray, List.map_cons, List.map_nil]); first | done | rfl | (simp only [List.length_drop, List.length_take]; rfl)) ?_; (with_reducible refine (jvmcorelaw2_weight.calls k _ _ l0 t159 _ ?side1 ?side2 A2.out).mono ?_); (case side1 => repeat (first | exact HR0.out | (with_reducible refine Kd.C_alloc ?_ _) | (with_reducible refine Kd.C_drewN ?_ _) | (with_reducible refine Kd.C_drew ?_))); (case side2 => exact HC0.out); rintro e w28 ⟨rfl, hb⟩; refine ⟨_, rfl, ?_⟩; have n0_ := Aside0.mk (below_step (by repeat (first | (with_reducible first | exact HB.out | apply below_alloc | apply pw_below_drewN | apply below_drew1) | exact HB.out)) hb); clear HB; have HB := n0_; clear n0_; (try clear hb); (try clear hb2); (try clear hk); (try clear hi)) | ((with_reducible refine gate_callee (f := 38) rfl ?_); refine goesL_ (some 14) rfl rfl Try.func38 (by kernel_rfl) rfl #[.slice A0 l0.length c0] rfl (by (try simp only [List.map_toArray, List.map_cons, List.map_nil]); first | done | rfl | (simp only [List.length_drop, List.length_take]; rfl)) ?_; (with_reducible refine (jvmcorelaw2_twin.calls k _ _ l0 t160 _ ?side1 ?side2 A5.out).mono ?_); (case side1 => repeat (first | exact (Kd.C_below HR0.out HB.out) | (with_reducible refine Kd.C_alloc ?_ _) | (with_reducible refine Kd.C_drewN ?_ _) | (with_reducible refine Kd.C_drew ?_))); (case side2 => exact HC0.out); rintro e w29 ⟨v161, rfl, ho0, hb⟩; refine ⟨_, rfl, ?_⟩; have n0_ := Aside0.mk (Kd.S_lower ho0 (below_size (by repeat (first | (with_reducible first | exact HB.out | apply below_alloc | apply pw_below_drewN | apply below_drew1) | exact HB.out)))); have n1_ := Aside0.mk (below_step (by repeat (first | (with_reducible first | exact HB.out | apply below_alloc | apply pw_below_drewN | apply below_drew1) | exact HB.out)) hb); clear HB; have HO162 := n0_; have HB := n1_; clear n0_ n1_; (try clear hb); (try clear hb2); (try clear hk); (try clear hi); (try clear ho0)) | ((with_reducible refine gate_callee (f := 39) rfl ?_); refine goesL_ (some 17) rfl rfl Try.func39 (by kernel_rfl) rfl #[.slice A0 l0.length c0] rfl (by (try simp only [List.map_toArray, List.map_cons, List.map_nil]); first | done | rfl | (simp only [List.length_drop, List.length_take]; rfl)) ?_; (with_reducible refine (code_Encode.calls _ _ l0 t163 t164 t165 _ ?side1 ?side2 A6.out).mono ?_); (case side1 => repeat (first | exact (Kd.C_below HR0.out HB.out) | (with_reducible refine Kd.C_alloc ?_ _) | (with_reducible refine Kd.C_drewN ?_ _) | (with_reducible refine Kd.C_drew ?_))); (case side2 => exact HC0.out); rintro e w30 ⟨rfl, hb⟩; refine ⟨_, rfl, ?_⟩; have n0_ := Aside0.mk (Kd.S_below (by (with_reducible repeat (first | apply Kd.S_alloc | apply Kd.S_drewN | apply Kd.S_drew)); exact HO162.out) hb); have n1_ := Aside0.mk (below_step (by repeat (first | (with_reducible first | exact HB.out | apply below_alloc | apply pw_below_drewN | apply below_drew1) | exact HB.out)) hb); clear HO162; clear HB; have HO162 := n0_; have HB := n1_; clear n0_ n1_; (try clear hb); (try clear hb2); (try clear hk); (try clear hi); obtain ⟨Ao31, co31, eo31⟩ := Kd.S_slice HO162.out; subst eo31) | ((with_reducible refine gate_callee (f := 40) rfl ?_); refine goesL_ (some 23) rfl rfl Try.func40 (by kernel_rfl) rfl #[.slice Ao31 t160.length co31] rfl (by (try simp only [List.map_toArray, List.map_cons, List.map_nil]); first | done | rfl | (simp only [List.length_drop, List.length_take]; rfl)) ?_; (with_reducible refine (jvmcoreref2_Encode.calls _ _ t160 t166 t167 t168 _ ?side1 ?side2 A7.out).mono ?_); (case side1 => repeat (first | exact (Kd.S_reads' HO162.out).2.2 | (with_reducible refine Kd.C_alloc ?_ _) | (with_reducible refine Kd.C_drewN ?_ _) | (with_reducible refine Kd.C_drew ?_))); (case side2 => exact (Kd.S_reads' HO162.out).2.1); rintro e w32 ⟨rfl, hb⟩; refine ⟨_, rfl, ?_⟩; have n0_ := Aside0.mk (Kd.S_below (by (with_reducible repeat (first | apply Kd.S_alloc | apply Kd.S_drewN | apply Kd.S_drew)); exact HO162.out) hb); have n1_ := Aside0.mk (below_step (by repeat (first | (with_reducible first | exact HB.out | apply below_alloc | apply pw_below_drewN | apply below_drew1) | exact HB.out)) hb); clear HO162; clear HB; have HO162 := n0_; have HB := n1_; clear n0_ n1_; (try clear hb); (try clear hb2); (try clear hk); (try clear hi)))
      go_ret
      exact ⟨by first | rfl | (simp [errW_none, errW_some] <;> rfl) | (simp [*, errW_none, errW_some] <;> rfl), by repeat (first | (with_reducible first | exact HB.out | apply below_alloc | apply pw_below_drewN | apply below_drew1) | exact HB.out)⟩
end Go.Proofs.Ytfnjbmpolggdeaa.CW
end
section
namespace Go.Proofs.Ytfnjbmpolggdeaa.CW
open Go.RowKit Go.Lib Go.Proofs.YtfnjbmpolggdeaaW.PrintWords Go.Proofs.YtfnjbmpolggdeaaW.PrintLast Go.Proofs.YtfnjbmpolggdeaaW.PrintMore
set_option linter.unusedVariables false
set_option linter.unusedSimpArgs false
def Ev {α : Type} (f : Nat → Option α) (r : α) : Prop := ∃ K, ∀ k, K ≤ k → f k = some r
theorem Ev.now {α : Type} (r : α) : Ev (fun _ => some r) r := ⟨0, fun _ _ => rfl⟩
theorem Ev.congr {α : Type} {f g : Nat → Option α} {r : α} (h : ∀ k, f k = g k) (e : Ev g r) : Ev f r := by
  obtain ⟨K, hK⟩ := e
  exact ⟨K, fun k hk => (h k).trans (hK k hk)⟩
theorem Ev.step {α : Type} {f g : Nat → Option α} {r : α} (h : ∀ k, g (k + 1) = f k) (e : Ev f r) : Ev g r := by
  obtain ⟨K, hK⟩ := e
  refine ⟨K + 1, fun k hk => ?_⟩
  obtain ⟨m, rfl⟩ : ∃ m, k = m + 1 := ⟨k - 1, by omega⟩
  rw [h]; exact hK m (by omega)
theorem Ev.bind {α β : Type} {f : Nat → Option α} {g : Nat → α → Option β} {a : α} {r : β} (h : Ev f a) (k : Ev (fun n => g n a) r) : Ev (fun n => (f n).bind (g n)) r := by
  obtain ⟨K, hK⟩ := h
  obtain ⟨L, hL⟩ := k
  refine ⟨max K L, fun n hn => ?_⟩
  show (f n).bind (g n) = _
  rw [hK n (by omega)]
  exact hL n (by omega)
theorem Ev.yes {α : Type} {c : Prop} [Decidable c] {f g : Nat → Option α} {r : α} (h : c) (k : Ev f r) : Ev (fun n => if c then f n else g n) r := Ev.congr (fun _ => if_pos h) k
theorem Ev.no {α : Type} {c : Prop} [Decidable c] {f g : Nat → Option α} {r : α} (h : ¬ c) (k : Ev g r) : Ev (fun n => if c then f n else g n) r := Ev.congr (fun _ => if_neg h) k
theorem wrC {x : Int} (h0 : 0 ≤ x) (h1 : x ≤ 1000000000000000) : wrap64 x = x := by unfold wrap64; omega
theorem wrC_succ {i : Nat} (h : i ≤ 2000000000000) : wrap64 ((i : Int) + 1) = ((i + 1 : Nat) : Int) := by unfold wrap64; omega
def okI (x : S82) : Prop := (0 ≤ x.f1 ∧ x.f1 < 256) ∧ x.f6.length ≤ 17592186043904 ∧ x.f7.length ≤ 17592186043904 ∧ ∀ t ∈ x.f7, (Lit.int .i64 t).wf = true
section
variable {l0 : List S82} (ho : ∀ x ∈ l0, okI x)
include ho
theorem weight_l0 (hl : l0.length ≤ 1599289640354) : ∀ (d i : Nat), i ≤ l0.length → l0.length - i = d → ∀ m : Int, 0 ≤ m → m ≤ 1599289640354 → ∃ n : Int, Ev (fun k => jvmcorelaw2_weight.l0 k m l0 (l0.length : Int) (i : Int)) n ∧
    (n ≤ 32768 → m ≤ n ∧ ∀ (j : Nat) (hj : j < l0.length), i ≤ j → l0[j].f6.length ≤ 32768 ∧ l0[j].f7.length ≤ 32768) := by
  intro d
  induction d with
  | zero =>
    intro i hi hd m h0 h1
    refine ⟨m, Ev.step (f := fun _ => some m) (fun k => ?_) (Ev.now _), fun _ => ⟨Int.le_refl _, fun j hj hij => by omega⟩⟩
    simp only [jvmcorelaw2_weight.l0]; rw [if_neg (by omega)]
  | succ d ih =>
    intro i hi hd m h0 h1
    have hlt : i < l0.length := by omega
    obtain ⟨_, h6, h7, _⟩ := ho _ (List.getElem_mem hlt)
    have e1 : wrap64 ((l0[i].f6.length : Int) + (l0[i].f7.length : Int)) = (l0[i].f6.length : Int) + (l0[i].f7.length : Int) := wrC (by omega) (by omega)
    have e2 : wrap64 (m + ((l0[i].f6.length : Int) + (l0[i].f7.length : Int))) = m + ((l0[i].f6.length : Int) + (l0[i].f7.length : Int)) := wrC (by omega) (by omega)
    by_cases c : m + ((l0[i].f6.length : Int) + (l0[i].f7.length : Int)) > 32768
    · refine ⟨m + ((l0[i].f6.length : Int) + (l0[i].f7.length : Int)), Ev.step (f := fun _ => some (m + ((l0[i].f6.length : Int) + (l0[i].f7.length : Int)))) (fun k => ?_) (Ev.now _), fun h => by omega⟩
      simp only [jvmcorelaw2_weight.l0]
      rw [if_pos (by omega), if_pos (by omega), if_pos (by omega), rdI_at hlt, e1, e2, if_pos c]
    · obtain ⟨n, g, hn⟩ := ih (i + 1) (by omega) (by omega) (m + ((l0[i].f6.length : Int) + (l0[i].f7.length : Int))) (by omega) (by omega)
      refine ⟨n, Ev.step (fun k => ?_) g, fun h => ?_⟩
      · simp only [jvmcorelaw2_weight.l0]
        rw [if_pos (by omega), if_pos (by omega), if_pos (by omega), rdI_at hlt, e1, e2, if_neg c, wrC_succ (by omega)]
      · obtain ⟨h2, h3⟩ := hn h
        refine ⟨by omega, fun j hj hij => ?_⟩
        by_cases he : i = j
        · subst he; exact ⟨by omega, by omega⟩
        · exact h3 j hj (by omega)
theorem twin_l0 (hl : l0.length ≤ 32768) : ∀ (d i : Nat), i ≤ l0.length → l0.length - i = d → Ev (fun k => jvmcorelaw2_twin.l0 k (l0.take i) l0 (l0.length : Int) (i : Int)) l0 := by
  intro d
  induction d with
  | zero =>
    intro i hi hd
    obtain rfl : i = l0.length := by omega
    refine Ev.step (f := fun _ => some l0) (fun k => ?_) (Ev.now _)
    simp only [jvmcorelaw2_twin.l0]; rw [if_neg (by omega), List.take_length]
  | succ d ih =>
    intro i hi hd
    have hlt : i < l0.length := by omega
    obtain ⟨_, h6, h7, _⟩ := ho _ (List.getElem_mem hlt)
    refine Ev.step (fun k => ?_) (ih (i + 1) (by omega) (by omega))
    simp only [jvmcorelaw2_twin.l0]
    rw [if_pos (by omega), if_pos (by omega), if_pos (by omega), rdI_at hlt, if_pos (by simp; omega), if_pos (by simp; omega), if_pos (by rw [List.length_take]; omega), wrC_succ (by omega), List.take_succ_eq_append_getElem hlt]
    rfl
omit ho in
theorem sameInts_ev (l : List Int) (hl : l.length ≤ 17592186043904) : Ev (fun k => jvmcorelaw2_sameInts.f k l l) true := by
  have key : ∀ (d i : Nat), i ≤ l.length → l.length - i = d → Ev (fun k => jvmcorelaw2_sameInts.l0 k l l (l.length : Int) (i : Int)) true := by
    intro d
    induction d with
    | zero =>
      intro i hi hd
      refine Ev.step (f := fun _ => some true) (fun k => ?_) (Ev.now _)
      simp only [jvmcorelaw2_sameInts.l0]; rw [if_neg (by omega)]
    | succ d ih =>
      intro i hi hd
      refine Ev.step (fun k => ?_) (ih (i + 1) (by omega) (by omega))
      simp only [jvmcorelaw2_sameInts.l0]
      rw [if_pos (by omega), if_pos (by omega), if_pos (by omega), if_pos (by omega), if_pos trivial, show wrap64 ((i : Int) + 1) = ((i + 1 : Nat) : Int) by unfold wrap64; omega]
  unfold jvmcorelaw2_sameInts.f
  exact Ev.yes rfl (key _ 0 (Nat.zero_le _) rfl)
theorem same_ev (hl : l0.length ≤ 32768) : Ev (fun k => jvmcorelaw2_same.f k l0 l0) true := by
  have key : ∀ (d i : Nat), i ≤ l0.length → l0.length - i = d → Ev (fun k => jvmcorelaw2_same.l0 k l0 l0 (l0.length : Int) (i : Int)) true := by
    intro d
    induction d with
    | zero =>
      intro i hi hd
      refine Ev.step (f := fun _ => some true) (fun k => ?_) (Ev.now _)
      simp only [jvmcorelaw2_same.l0]; rw [if_neg (by omega)]
    | succ d ih =>
      intro i hi hd
      have hlt : i < l0.length := by omega
      obtain ⟨_, h6, h7, _⟩ := ho _ (List.getElem_mem hlt)
      refine Ev.step (f := fun k => (jvmcorelaw2_sameInts.f k l0[i].f6 l0[i].f6).bind fun t => if t = true then (jvmcorelaw2_sameInts.f k l0[i].f7 l0[i].f7).bind fun t => (if t = true then jvmcorelaw2_same.l0 k l0 l0 (l0.length : Int) ((i + 1 : Nat) : Int) else some false) else some false) (fun k => ?_)
        (Ev.bind (sameInts_ev _ h6) (Ev.yes rfl (Ev.bind (sameInts_ev _ h7) (Ev.yes rfl (ih (i + 1) (by omega) (by omega))))))
      simp only [jvmcorelaw2_same.l0]
      rw [if_pos (by omega), if_pos (by omega), if_pos (by omega), if_pos (by omega), if_pos trivial, if_pos trivial, if_neg (by simp), if_pos trivial, if_pos trivial, if_pos trivial, rdI_at hlt, wrC_succ (by omega)]
  have hg : Ev (fun k => jvmcorelaw2_same.g k l0 l0) true := by
    unfold jvmcorelaw2_same.g
    exact Ev.yes rfl (key _ 0 (Nat.zero_le _) rfl)
  obtain ⟨K, hK⟩ := hg
  refine ⟨K, fun k hk => ?_⟩
  show jvmcorelaw2_same.f k l0 l0 = some true
  unfold jvmcorelaw2_same.f
  rw [if_pos (hK k hk)]
end
theorem codeWrites_pure (l0 : List S82) (hl : l0.length ≤ 1599289640354) (ho : ∀ x ∈ l0, okI x) : ∃ k, jvmcorelaw2_CodeWrites.f k l0 = some true := by
  suffices h : Ev (fun k => jvmcorelaw2_CodeWrites.f k l0) true by
    obtain ⟨K, hK⟩ := h
    exact ⟨K, hK K (Nat.le_refl _)⟩
  obtain ⟨n, hn, hw⟩ := weight_l0 ho hl _ 0 (Nat.zero_le _) rfl (l0.length : Int) (by omega) (by omega)
  unfold jvmcorelaw2_CodeWrites.f
  refine Ev.bind (a := n) hn ?_
  by_cases c : n > 32768
  · exact Ev.yes c (Ev.now _)
  refine Ev.no c ?_
  obtain ⟨w1, w2⟩ := hw (by omega)
  have hlen : l0.length ≤ 32768 := by omega
  have hok : encOK l0 := ⟨by omega, fun x hx => by
    obtain ⟨j, hj, rfl⟩ := List.getElem_of_mem hx
    obtain ⟨a1, a2⟩ := w2 j hj (Nat.zero_le _)
    have b := ho _ hx
    exact ⟨b.1, by omega, by omega, b.2.2.2⟩⟩
  refine Ev.bind (a := l0) (twin_l0 ho hlen _ 0 (Nat.zero_le _) rfl) ?_
  have h1 : code_Encode.f l0 = some (encG l0 l0 0 []) := if_pos hok
  have h2 : jvmcoreref2_Encode.f l0 = some (encG l0 l0 0 []) := if_pos hok
  refine Ev.congr (g := fun k => (jvmcorelaw2_same.f k l0 l0).bind fun t => some t) (fun k => ?_) (Ev.bind (same_ev ho hlen) (Ev.now _))
  rw [h1, Option.bind_some, h2, Option.bind_some, if_pos rfl, if_pos rfl, if_pos rfl]
end Go.Proofs.Ytfnjbmpolggdeaa.CW
namespace Go.Proofs.Ytfnjbmpolggdeaa.codeWrites
open Go.ChangeShapes Go.WideShapes Go.ChangeAt Go.RowKit Go.Proofs.YtfnjbmpolggdeaaW.PrintWords
open Go.Proofs.Ytfnjbmpolggdeaa.CW
set_option linter.unusedVariables false
theorem own : ownKnob Try.prog.godebug = none := by kernel_rfl
theorem laidOut : laidOutB Try.prog = true := by kernel_rfl
def R : Nat := 140737488351232
instance iI : Inhabited S82 := ⟨z82⟩
theorem bI : Try.prog.bytesOf 3 = 8 := by kernel_rfl
theorem bN : Try.prog.bytesOf 82 = 88 := by kernel_rfl
set_option maxRecDepth 100000 in
theorem opensI : Opens Try.prog R k82 82 okI := by
  refine Opens.imp (opens_struct Try.underlying82 (by kernel_rfl) (l := [(3, 0), (5, 1), (4, 2), (3, 3), (3, 4), (3, 5), (22, 6), (22, 7)]) (by kernel_rfl)
    (opensF_iso (fun p : Int × Int × Bool × Int × Int × Int × List Int × List Int => (⟨p.1, p.2.1, p.2.2.1, p.2.2.2.1, p.2.2.2.2.1, p.2.2.2.2.2.1, p.2.2.2.2.2.2.1, p.2.2.2.2.2.2.2⟩ : S82)) (fun _ => rfl)
      (opensF_pair (by kernel_rfl) (opens_int Try.underlying3) (opensF_pair (by kernel_rfl) (opens_int Try.underlying5) (opensF_pair (by kernel_rfl) (opens_bool Try.underlying4) (opensF_pair (by kernel_rfl) (opens_int Try.underlying3) (opensF_pair (by kernel_rfl) (opens_int Try.underlying3) (opensF_pair (by kernel_rfl) (opens_int Try.underlying3)
        (opensF_pair (by kernel_rfl) (opens_slice Try.underlying22 (by kernel_rfl) (of_decide_eq_true (by kernel_rfl)) (opens_int Try.underlying3)) (opensF_one (by kernel_rfl) (opens_slice Try.underlying22 (by kernel_rfl) (of_decide_eq_true (by kernel_rfl)) (opens_int Try.underlying3)))))))))))) ?_
  rintro x ⟨h0, h1, h2, h3, h4, h5, h6, h7⟩
  have g1 : (Lit.int IntKind.u8 x.f1).wf = true := h1
  have a6 : x.f6.length * Try.prog.bytesOf 3 ≤ R := h6.1
  have a7 : x.f7.length * Try.prog.bytesOf 3 ≤ R := h7.1
  rw [bI] at a6 a7
  unfold R at a6 a7
  simp [Lit.wf, IntKind.min, IntKind.max, IntKind.bits, IntKind.signed] at g1
  exact ⟨by omega, by omega, by omega, h7.2⟩
set_option maxRecDepth 100000 in
theorem lifted (os : Os) (started : os.Started) (H : Type) (enc : TypeId × Value → H) :
    ReturnsInHanded {} Try.checked os 10 .any (Rows.codeWritesSpec.pre6 enc Try.prog Try.f10 Rows.codeWritesRow.domain false) (Rows.codeWritesSpec.post enc Try.prog Try.f10 false true false false) := by
  refine returnsInHanded_of_change_sized (C := Try.checked) own started (by kernel_rfl) Try.func10
    (ChangeSpec.witness6 (enc := enc) (C := Try.checked) false ⟨#[], #[.slice none 0 0], []⟩ 8 (by kernel_rfl) (by kernel_rfl) (by kernel_rfl) (by kernel_rfl)) ?_
  intro W base args ds gs before hval0 hW hcnd hsz0 _
  have hsz : (DataW.weightsEach Try.prog (Try.f10.params.toList ++ Rows.codeWritesSpec.plain.varTypes Try.prog) (ds ++ gs)).all (· ≤ reachBytes) = true := hsz0
  have hval : ∀ (j : Nat) t v, Try.f10.params[j]? = some t → args[j]? = some v → Value.okWide Try.prog W .any base t v := hval0
  have hW' := hW
  obtain ⟨p, q, hA0, hV, rfl, hfz, hnd⟩ := hW
  have hA : DataW.TrodAll enc Try.prog W 0 (fun _ => true) true Try.f10.params.toList args.toList ds p := hA0
  rw [Try.params10] at hA hval hsz
  obtain ⟨v0, vs0, d0, ds0, p0, q0, hargs, rfl, rfl, h0, r0⟩ := trodAll_cons hA
  obtain ⟨rfl, rfl, rfl⟩ := trodAll_nil r0
  obtain rfl : args = #[v0] := by cases args; simp_all
  obtain ⟨rfl, rfl⟩ := trodVars_none hV
  have hr : reachBytes = R := by decide
  rw [List.all_eq_true] at hsz
  have hbs : ∀ m, m ∈ DataW.weightsEach Try.prog [59] [d0] → m ≤ R := fun m hm => by
    have := of_decide_eq_true (hsz m hm)
    rw [hr] at this
    exact this
  have b0 : ∀ m ∈ d0.weights Try.prog 59, m ≤ R := fun m hm => hbs m (mem_weightsEach (i := 0) rfl rfl hm)
  obtain ⟨a0, len0, cap0, rfl⟩ := okWide_slice Try.underlying59 (hval 0 59 v0 rfl rfl)
  have k0 := h0
  have lt0 : ∀ x ∈ p0, x.block < W.heap.size := by obtain ⟨m, hm⟩ := k0; exact DataW.trod_lt m _ _ _ hm
  obtain ⟨fuel0, hf0⟩ := h0
  obtain ⟨l0, ⟨hl0, ho0⟩, A0, c0, e0, hc0, hr0⟩ := opens_slice (R := R) Try.underlying59 (by kernel_rfl) (of_decide_eq_true (by kernel_rfl)) opensI H _ (bounded_weights Try.prog H R) enc W 0 _ true fuel0 _ _ hf0 b0
  simp [Value.cells] at e0
  obtain ⟨rfl, rfl, rfl⟩ := e0
  rw [bN] at hl0
  unfold R at hl0
  obtain ⟨kk, hk2⟩ := codeWrites_pure l0 (by omega) ho0
  clear hA0 hval0
  refine (jvmcorelaw2_CodeWrites.calls kk _ _ l0 true W hr0 hc0 hk2).mono fun e W' ⟨he, bel⟩ => ?_
  subst he
  exact ⟨_, rfl, _, _, _, [], _, [], hW', trodAll_mk1 (shut_bool Try.underlying4 _), (trodAll_cons_mk (Below.trod laidOut (by kernel_rfl) (of_decide_eq_true (by kernel_rfl)) k0 bel lt0) trodAll_mk0), rfl, bel.frame _, fun h => by cases h⟩
theorem over : Rows.codeWritesRow.holds Try.pinned (OpenSpec.ofChange Rows.codeWritesSpec) :=
  OpenClaim.holds_of_wide 10 Try.f10 rfl rfl rfl rfl rfl rfl rfl ⟨rfl, rfl, rfl, rfl, rfl⟩ rfl rfl rfl rfl rfl (by kernel_rfl) Try.func10 (by kernel_rfl)
    (of_decide_eq_true (by kernel_rfl)) (by unfold Func.isWrapper; first | (rw [if_pos (by decide +kernel)]; kernel_rfl) | (rw [if_neg (by decide +kernel)]; exact ⟨rfl, rfl⟩))
    (fun os started H enc _ => lifted os started H enc)
end Go.Proofs.Ytfnjbmpolggdeaa.codeWrites
namespace Go.Proofs.Ytfnjbmpolggdeaa
theorem codeWrites_holds : Rows.CodeWritesSaid := codeWrites.over
end Go.Proofs.Ytfnjbmpolggdeaa
end
#print axioms Go.Proofs.Ytfnjbmpolggdeaa.codeWrites_holds
