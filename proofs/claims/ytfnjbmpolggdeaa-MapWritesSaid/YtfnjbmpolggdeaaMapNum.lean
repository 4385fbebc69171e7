/-
  maps.writer.num and fail.
-/
import Derived.Test.YtfnjbmpolggdeaaWr
import Derived.Deep.QuietTactic
import Derived.BigQuiet
namespace Go.Proofs.Ytfnjbmpolggdeaa
open Go.RowKit Go.Lib Go.Proofs.YtfnjbmpolggdeaaW.PrintWords
set_option linter.unusedVariables false
set_option linter.unusedSimpArgs false
/-- the writer's cells. -/
def mwC (A : Option Addr) (n c : Nat) (e : Int) (v : Value) : Array Value := #[v, .slice A n c, .int .i64 e]
def U64 (x : Int) : Nat := (IntKind.u64.wrap x).toNat
theorem u64_nat (x : Int) : IntKind.u64.wrap x = (U64 x : Nat) := by
  unfold U64
  have : 0 ≤ IntKind.u64.wrap x := by simp only [IntKind.wrap, IntKind.bits, IntKind.signed]; simp; omega
  omega
theorem u64_lt (x : Int) : U64 x < 18446744073709551616 := by
  unfold U64
  have : IntKind.u64.wrap x < 18446744073709551616 := by simp only [IntKind.wrap, IntKind.bits, IntKind.signed]; simp; omega
  omega
theorem below_drew0 {w w1 : World} (h : Below w.drew.heap.size w.drew w1) : Below w.heap.size w w1 := ⟨h.os, h.tape, h.output, h.size, h.block⟩
theorem hg_blk {base : Nat} {W W1 : World} {g : Nat} {A : Option Addr} {n c : Nat} {er : Int} {v : Value} {l : List Nat} (hg : W.grownBy W1 v.ownBlock) (h : BW base W g 92 (mwC A n c er) v l) : W1.heap[g]? = some (.cells (mwC A n c er v) 92 (0, 0)) :=
  (hg.block g (blk_lt h.1) (fun e => h.ne (by decide) e.symm)).trans h.1
theorem hg_cell {base : Nat} {W W1 : World} {g : Nat} {A : Option Addr} {n c : Nat} {er : Int} {v : Value} {l : List Nat} (hg : W.grownBy W1 v.ownBlock) (h : BW base W g 92 (mwC A n c er) v l) : W1.cell? ⟨g, 0, none⟩ = some v := blk_cell (hg_blk hg h) 0
theorem hg_frozen {base : Nat} {W W1 : World} {g : Nat} {A : Option Addr} {n c : Nat} {er : Int} {v : Value} {l : List Nat} (hg : W.grownBy W1 v.ownBlock) (h : BW base W g 92 (mwC A n c er) v l) : W1.frozen? ⟨g, 0, none⟩ = false := blk_frozen (hg_blk hg h) 0
theorem mrow_slice {w : World} {base e n} {v : Value} {xs : List Value} (h : mrow w base e v n xs) : ∃ A c, v = .slice A n c := by
  rcases h.2 with ⟨rfl, rfl⟩ | ⟨g, cap, cur, fr, rfl, _⟩
  · exact ⟨_, _, rfl⟩
  · exact ⟨_, _, rfl⟩
def NumPost (w0 w : World) (g : Nat) (v : Value) (cells : Value → Array Value) (T : TypeId) (l1 : List Nat) (e : Ending) (w' : World) : Prop :=
  e = .returned (.tuple #[]) ∧ Below w0.heap.size w0 w' ∧ ∃ v', BW w0.heap.size w' g T cells v' l1 ∧ BS w g v w' v'
set_option maxHeartbeats 4000000 in
set_option maxRecDepth 100000 in
theorem mapNum_any (w0 w : World) (g : Nat) (A : Option Addr) (n c : Nat) (er : Int) (v : Value) (l : List Nat) (x : Int) (j : Int) (m : Nat) (hj : j = m) (hm : m ≤ 8) (hW : BW w0.heap.size w g 92 (mwC A n c er) v l) (hB : Below w0.heap.size w0 w) (hl : l.length + 8 ≤ 140737488355328) :
    Calls Try.prog 59 #[.pointer (some ⟨g, 0, none⟩), .int .i64 x, .int .i64 j] w (NumPost w0 w g v (mwC A n c er) 92 (l ++ bigB (U64 x) m)) := by
  have hc0 : w.cell? ⟨g, 0, none⟩ = some v := blk_cell hW.1 0
  have HM := Lib.hid hW
  have HB := Lib.hid hB
  have HL := Lib.hid hl
  have HJ := Lib.hid hj
  have HMM := Lib.hid hm
  clear hW hB hl hj hm
  go_enter Try.func59, Try.ntmps59
  go_wp2_with fail
  go_region_law (first
    | (refine str_step (by rfl) (.tmp 10) (.tmp 14) 87 9 rfl 5 Try.underlying87 Try.underlying9 Try.infoB w0.heap.size (HM.out.below (below_drew0 hbx)).2.2 rfl (sb (bigB (U64 x) m)) rfl (by rw [sb_size, bigB_length]; have := HL.out; have := HMM.out; omega) (by have := HB.out.size; have := (below_drew0 hbx).size; omega) ?_; intro v' w2 hm' hg' hat'; obtain ⟨A', c', rfl⟩ := mrow_slice hm'; have hc2 := hg_cell hg' (HM.out.below (below_drew0 hbx)); have hf2 := hg_frozen hg' (HM.out.below (below_drew0 hbx)))
    | (go_simp; refine (Big_any (U64 x) m _ (u64_nat x) j HJ.out _ (u64_lt x) HMM.out).mono ?_; rintro e w' ⟨rfl, hbx⟩; dsimp only; have hcx := pw_cell_below (below_drew0 hbx) hc0))
  all_goals
    go_end0
    have h1 := HM.out.below (below_drew0 hbx)
    have hB1 := below_then HB.out HB.out.size (below_drew0 hbx)
    have hlen : l.length + (sb (bigB (U64 x) m)).size = (l ++ bigB (U64 x) m).length := by rw [sb_size, List.length_append]
    rw [hlen, bs_sb (bigB_lt m _), ← u8s_append] at hm'
    rw [hlen] at hat' ⊢
    have hP := h1.put (by decide) hg' hm' (by rcases hat' with h | h; exact .inl h; exact .inr ⟨_, h, Nat.le_refl _⟩) (fun u => ⟨rfl, rfl⟩)
    exact ⟨rfl, (pw_below_grown hB1 _ hB1.size hg' (fun k hk => h1.ge k hk)).setCell h1.2.1 _, _, hP.1, (BS.below (below_drew0 hbx)).trans hP.2⟩
end Go.Proofs.Ytfnjbmpolggdeaa
