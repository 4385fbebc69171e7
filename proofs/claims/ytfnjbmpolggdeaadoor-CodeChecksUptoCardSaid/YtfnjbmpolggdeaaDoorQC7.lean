/-
  A proof's texts, gathered.
-/
import Derived.Test.YtfnjbmpolggdeaaDoorRows
import Derived.Test.YtfnjbmpolggdeaaDoorCards
import Derived.Test.YtfnjbmpolggdeaaDoorTie
import Derived.WalkKit
import Derived.ProofKit
import Derived.OpenShut
import Derived.ShutString
import Derived.ChangeOld
import Derived.Below
import Derived.SizedLaws
import Derived.LaidMore
import Derived.Lay
import Derived.SevenTiedAt
import Derived.Stop.Joined
import Derived.Test.YtfnjbmpolggdeaaDoorQC6
section
namespace Go.Proofs.YtfnjbmpolggdeaaDoor.CC
open Go.RowKit Go.Proofs.YtfnjbmpolggdeaaDoorW.PrintWords
set_option linter.unusedVariables false
set_option linter.unusedSimpArgs false
set_option maxRecDepth 100000
def okC39 (x : S39) : Prop := (0 ≤ x.f3 ∧ x.f3 < 65536) ∧ (0 ≤ x.f4 ∧ x.f4 < 65536) ∧ x.f1.size ≤ 1048576
def okP (l1 : List S39) : Prop := l1.length ≤ 65535 ∧ ∀ c ∈ l1, okC39 c
theorem rd_mem {l1 : List S39} {i : Int} (h0 : 0 ≤ i) (h1 : i < (l1.length : Int)) : rd_T39 l1 i ∈ l1 := by
  have h : i.toNat < l1.length := by omega
  unfold rd_T39
  rw [List.getD_eq_getElem?_getD, List.getElem?_eq_getElem h]
  exact List.getElem_mem h
theorem isB_range {l1 : List S39} {kk t : Int} (h : isB l1 kk t = true) : 0 < kk ∧ kk < (l1.length : Int) ∧ (rd_T39 l1 kk).f0 = t := by simpa [isB] using h
theorem isB_out {l1 : List S39} {kk t : Int} (h : ¬ (0 < kk ∧ kk < (l1.length : Int))) : isB l1 kk t = false := by
  cases hb : isB l1 kk t with
  | false => rfl
  | true => obtain ⟨a, b, _⟩ := isB_range hb; exact absurd ⟨a, b⟩ h
def strV (l1 : List S39) (kk : Int) : ByteArray := if isB l1 kk 1 = true then (rd_T39 l1 kk).f1 else ⟨#[]⟩
theorem strV_size {l1 : List S39} (hp : okP l1) (kk : Int) : (strV l1 kk).size ≤ 1048576 := by
  unfold strV
  split
  · rename_i h
    obtain ⟨a, b, _⟩ := isB_range h
    exact (hp.2 _ (rd_mem (by omega) b)).2.2
  · exact Nat.zero_le _
theorem poolStr_eq (l1 : List S39) {kk : Int} (h0 : 0 ≤ kk) (h1 : kk < 65536) : pool_String.f l1 kk = some (strV l1 kk) := by
  unfold pool_String.f strV
  rw [pool_Is_eq l1 kk 1 h0 h1]
  simp only [Option.bind_some]
  by_cases h : isB l1 kk 1 = true
  · obtain ⟨a, b, _⟩ := isB_range h
    rw [if_pos h, if_pos h, if_pos h0, if_pos b]
  · rw [if_neg h, if_neg h]
theorem refIs_eq (l1 : List S39) (kk t : Int) : jvmcoreref1_Is.f l1 kk t = some (isB l1 kk t) := by
  unfold jvmcoreref1_Is.f
  by_cases a : kk > 0
  · rw [if_pos a]
    by_cases b : kk < (l1.length : Int)
    · rw [if_pos b, if_pos (by omega)]
      unfold isB
      rw [decide_eq_true (show 0 < kk from a), decide_eq_true b]; rfl
    · rw [if_neg b, isB_out (fun h => b h.2)]
  · rw [if_neg a, isB_out (fun h => a h.1)]
theorem refStr_eq (l1 : List S39) (kk : Int) : jvmcoreref1_String.f l1 kk = some (strV l1 kk, isB l1 kk 1) := by
  unfold jvmcoreref1_String.f strV
  rw [refIs_eq]
  simp only [Option.bind_some]
  by_cases h : isB l1 kk 1 = true
  · obtain ⟨a, b, _⟩ := isB_range h
    rw [if_pos h, if_pos h, if_pos (by omega), if_pos b, h]
  · rw [if_neg h, if_neg h, show isB l1 kk 1 = false from by simpa using h]
theorem wr16 {x : Int} (h : 0 ≤ x ∧ x < 65536) : wrap64 x = x := wr (by omega) (by omega)
def nameV (l1 : List S39) (A : Int) : ByteArray := if isB l1 A 7 = true then strV l1 (rd_T39 l1 A).f3 else ⟨#[]⟩
theorem refClass_eq {l1 : List S39} (hp : okP l1) (A : Int) : ∃ b, jvmcoreref1_ClassOf.f l1 A = some (nameV l1 A, b) := by
  unfold jvmcoreref1_ClassOf.f nameV
  rw [refIs_eq]
  simp only [Option.bind_some]
  by_cases h : isB l1 A 7 = true
  · obtain ⟨a, b, _⟩ := isB_range h
    rw [if_pos h, if_pos h, if_pos (by omega), if_pos b, wr16 (hp.2 _ (rd_mem (by omega) b)).1, refStr_eq]
    exact ⟨_, rfl⟩
  · rw [if_neg h, if_neg h]; exact ⟨_, rfl⟩
def tagV (l1 : List S39) (A : Int) : Int := if 0 < A ∧ A < (l1.length : Int) then (rd_T39 l1 A).f0 else 0
theorem tagV_pos {l1 : List S39} {A t : Int} (ht : 0 < t) (h : tagV l1 A = t) : 0 < A ∧ A < (l1.length : Int) ∧ (rd_T39 l1 A).f0 = t := by
  unfold tagV at h
  split at h
  · rename_i hh; exact ⟨hh.1, hh.2, h⟩
  · omega
theorem u16_id {x : Int} (h0 : 0 ≤ x) (h1 : x < 65536) : IntKind.u16.wrap x = x := by simp only [IntKind.wrap, IntKind.bits, IntKind.signed]; simp; omega
theorem opOne_tag {l1 : List S39} (hl : l1.length ≤ 65535) (A : Int) {t : Int} (ht : 0 < t) : opOne l1 (IntKind.u16.wrap A) A t = (tagV l1 A == t) := by
  unfold opOne tagV
  by_cases h : 0 < A ∧ A < (l1.length : Int)
  · rw [if_pos h, u16_id (by omega) (by omega)]
    unfold isB
    rw [decide_eq_true h.1, decide_eq_true h.2]; simp
  · rw [if_neg h]
    have e : ((0 : Int) == t) = false := beq_eq_false_iff_ne.2 (by omega)
    rw [e]
    by_cases hu : IntKind.u16.wrap A = A
    · rw [hu, isB_out h, Bool.and_false]
    · rw [show (IntKind.u16.wrap A == A) = false from beq_eq_false_iff_ne.2 hu, Bool.false_and]
theorem opAny_tag {l1 : List S39} (hl : l1.length ≤ 65535) (A : Int) (ts : List Int) (h : ∀ t ∈ ts, 0 < t) : opAny l1 (IntKind.u16.wrap A) A ts = ts.any fun t => tagV l1 A == t := by
  unfold opAny
  rw [Bool.eq_iff_iff, List.any_eq_true, List.any_eq_true]
  constructor
  · rintro ⟨t, ht, h1⟩; exact ⟨t, ht, by rw [← opOne_tag hl A (h t ht)]; exact h1⟩
  · rintro ⟨t, ht, h1⟩; exact ⟨t, ht, by rw [opOne_tag hl A (h t ht)]; exact h1⟩
def sumS (n : Int) (ps : List ByteArray) : Int := ps.foldl (fun n p => wrap64 (n + ((slotsN (L p) : Nat) : Int))) n
def finV (name : ByteArray) (ok : Bool) (n op B : Int) : Bool :=
  if L name = clinitL then false else if L name = initL then (if op = 183 then (if ok = true then (if op = 185 then n == B else true) else false) else false) else (if ok = true then (if op = 185 then n == B else true) else false)
theorem rdOf_at {ps : List ByteArray} {i : Nat} (h : i < ps.length) : rdOf ByteArray.empty ps (i : Int) = ps[i] := by
  simp [rdOf, List.getD_eq_getElem?_getD, h]
theorem code_l0 (ok : Bool) (ps : List ByteArray) (hps : ps.length ≤ 1000000000) (a0 op : Int) (a2 : Bool) (a3 B a5 : Int) (l6 l7 : List Int) :
    ∀ (d i : Nat), i ≤ ps.length → ps.length - i = d → ∀ n : Int, Ev (fun k => code_called.l0 k ok n ps (ps.length : Int) (i : Int) a0 op a2 a3 B a5 l6 l7) (if ok = true then sumS n (ps.drop i) == B else false) := by
  intro d
  induction d with
  | zero =>
    intro i hi hd n
    obtain rfl : i = ps.length := by omega
    rw [List.drop_length]
    refine Ev.step (f := fun _ => some (if ok = true then sumS n [] == B else false)) (fun k => ?_) (Ev.now _)
    simp only [code_called.l0]
    rw [if_neg (by omega)]
    cases ok <;> rfl
  | succ d ih =>
    intro i hi hd n
    have hlt : i < ps.length := by omega
    rw [List.drop_eq_getElem_cons hlt]
    refine Ev.step (fun k => ?_) (ih (i + 1) (by omega) (by omega) (wrap64 (n + ((slotsN (L ps[i]) : Nat) : Int))))
    simp only [code_called.l0]
    rw [if_pos (by omega), if_pos (by omega), if_pos (by omega), rdOf_at hlt, slots_eq, Option.bind_some, wr_succ (by omega)]
theorem ref_l0 (name : ByteArray) (ok : Bool) (ps : List ByteArray) (hps : ps.length ≤ 1000000000) (a0 op : Int) (a2 : Bool) (a3 B a5 : Int) (l6 l7 : List Int) :
    ∀ (d i : Nat), i ≤ ps.length → ps.length - i = d → ∀ n : Int, Ev (fun k => jvmcoreref2_called.l0 k name ok n ps (ps.length : Int) (i : Int) a0 op a2 a3 B a5 l6 l7) (finV name ok (sumS n (ps.drop i)) op B) := by
  intro d
  induction d with
  | zero =>
    intro i hi hd n
    obtain rfl : i = ps.length := by omega
    rw [List.drop_length]
    refine Ev.step (f := fun _ => some (finV name ok (sumS n []) op B)) (fun k => ?_) (Ev.now _)
    simp only [jvmcoreref2_called.l0]
    rw [if_neg (by omega), L_to]
    unfold finV
    show (if L name = clinitL then _ else if L name = initL then _ else _) = _
    by_cases c1 : L name = clinitL
    · rw [if_pos c1, if_pos c1]
    · rw [if_neg c1, if_neg c1]
      by_cases c2 : L name = initL
      · rw [if_pos c2, if_pos c2]
        by_cases c3 : op = 183
        · rw [if_pos c3, if_pos c3]
          cases ok with
          | false => rfl
          | true => rw [if_pos rfl, if_pos rfl]; by_cases c4 : op = 185; rw [if_pos c4, if_pos c4]; rfl; rw [if_neg c4, if_neg c4]
        · rw [if_neg c3, if_neg c3]
      · rw [if_neg c2, if_neg c2]
        cases ok with
        | false => rfl
        | true => rw [if_pos rfl, if_pos rfl]; by_cases c4 : op = 185; rw [if_pos c4, if_pos c4]; rfl; rw [if_neg c4, if_neg c4]
  | succ d ih =>
    intro i hi hd n
    have hlt : i < ps.length := by omega
    rw [List.drop_eq_getElem_cons hlt]
    refine Ev.step (f := fun k => (jvmcoreref1_Slots.f k ps[i]).bind fun t => jvmcoreref2_called.l0 k name ok (wrap64 (n + t)) ps (ps.length : Int) ((i + 1 : Nat) : Int) a0 op a2 a3 B a5 l6 l7) (fun k => ?_) (Ev.bind (ref_slots_ev _) (ih (i + 1) (by omega) (by omega) (wrap64 (n + ((slotsN (L ps[i]) : Nat) : Int)))))
    simp only [jvmcoreref2_called.l0]
    rw [if_pos (by omega), if_pos (by omega), if_pos (by omega), rdOf_at hlt, wr_succ (by omega)]
theorem called_ev {l1 : List S39} (hp : okP l1) {A : Int} (h0 : 0 < A) (h1 : A < (l1.length : Int)) (a0 op : Int) (a2 : Bool) (B a5 : Int) (l6 l7 : List Int) :
    ∃ b, Ev (fun k => code_called.f k a0 op a2 A B a5 l6 l7 l1 (rd_T39 l1 A).f0 (rd_T39 l1 A).f1 (rd_T39 l1 A).f2 (rd_T39 l1 A).f3 (rd_T39 l1 A).f4) b ∧ Ev (fun k => jvmcoreref2_called.f k a0 op a2 A B a5 l6 l7 l1) b := by
  have hc := hp.2 _ (rd_mem (by omega) h1)
  generalize hcc : rd_T39 l1 A = c at *
  have hI := pool_Is_eq l1 c.f4 12 hc.2.1.1 hc.2.1.2
  by_cases hb : isB l1 c.f4 12 = true
  · obtain ⟨g0, g1, _⟩ := isB_range hb
    have hq := hp.2 _ (rd_mem (by omega) g1)
    obtain ⟨r, m1, m2, m3⟩ := meth_ev (strV l1 (rd_T39 l1 c.f4).f4) (Nat.le_trans (strV_size hp _) (by decide))
    have hlen : r.1.length ≤ 1000000000 := by have := m3.2.2; have := strV_size hp (rd_T39 l1 c.f4).f4; omega
    have hm := member_ev (strV l1 (rd_T39 l1 c.f4).f3) (Nat.lt_of_le_of_lt (strV_size hp _) (by decide)) true
    generalize hnm : strV l1 (rd_T39 l1 c.f4).f3 = nm at *
    generalize hof : strV l1 (rd_T39 l1 c.f4).f4 = of at *
    refine ⟨finV nm r.2.2 (sumS 1 r.1) op B, ?_, ?_⟩
    · unfold code_called.f
      rw [hI, poolStr_eq l1 hq.1.1 hq.1.2, poolStr_eq l1 hq.2.1.1 hq.2.1.2, hnm, hof]
      simp only [Option.bind_some]
      refine Ev.yes hb (Ev.yes (by omega) (Ev.yes g1 (Ev.bind hm ?_)))
      have hj : Ev (fun k => code_called.j0 k of false a0 op a2 A B a5 l6 l7) (if r.2.2 = true then (if op = 185 then sumS 1 r.1 == B else true) else false) := by
        refine Ev.step (fun k => by simp only [code_called.j0]; rw [if_neg (by simp)]) (Ev.bind m1 ?_)
        by_cases c4 : op = 185
        · refine Ev.yes c4 ?_
          have := code_l0 r.2.2 r.1 hlen a0 op a2 A B a5 l6 l7 _ 0 (Nat.zero_le _) rfl 1
          rw [List.drop_zero] at this
          rw [if_pos c4]
          exact this
        · refine Ev.no c4 ?_
          rw [if_neg c4]
          cases r.2.2 <;> exact Ev.now _
      have ht : Ev (fun k => code_called.j0 k of true a0 op a2 A B a5 l6 l7) false := Ev.step (f := fun _ => some false) (fun k => by simp only [code_called.j0]; rw [if_pos trivial]) (Ev.now _)
      unfold memberL finV
      rw [if_pos rfl]
      by_cases ci : L nm = initL
      · have cc : ¬ L nm = clinitL := by rw [ci]; decide
        rw [if_pos ci, if_neg cc, if_pos ci]
        refine Ev.no (by decide) (Ev.yes rfl ?_)
        by_cases c3 : op = 183
        · rw [if_pos c3, show (op != 183) = false from by rw [bne_eq_false_iff_eq]; exact c3]; exact hj
        · rw [if_neg c3, show (op != 183) = true from bne_iff_ne.2 c3]; exact ht
      · rw [if_neg ci]
        by_cases cc : L nm = clinitL
        · rw [if_pos cc, if_pos cc]
          exact Ev.yes rfl ht
        · rw [if_neg cc, if_neg cc, if_neg ci]
          have hr : restL (L nm) true = 0 ∨ restL (L nm) true = 1 := by unfold restL; (repeat' split) <;> simp
          refine Ev.no (by rcases hr with h | h <;> rw [h] <;> decide) (Ev.no (by rcases hr with h | h <;> rw [h] <;> decide) hj)
    · unfold jvmcoreref2_called.f
      refine Ev.yes (by omega) (Ev.yes h1 ?_)
      rw [hcc, wr16 hc.2.1, refIs_eq, wr16 hq.1, wr16 hq.2.1, refStr_eq, refStr_eq, hnm, hof]
      simp only [Option.bind_some]
      refine Ev.yes hb (Ev.yes (by omega) (Ev.yes g1 (Ev.bind m2 ?_)))
      have := ref_l0 nm r.2.2 r.1 hlen a0 op a2 A B a5 l6 l7 _ 0 (Nat.zero_le _) rfl 1
      rw [List.drop_zero] at this
      exact this
  · refine ⟨false, ?_, ?_⟩
    · unfold code_called.f
      rw [hI]
      simp only [Option.bind_some]
      exact Ev.no hb (Ev.now _)
    · unfold jvmcoreref2_called.f
      refine Ev.yes (by omega) (Ev.yes h1 ?_)
      rw [hcc, wr16 hc.2.1, refIs_eq]
      simp only [Option.bind_some]
      exact Ev.no hb (Ev.now _)
theorem dims_l0 (s : ByteArray) (hs : s.size ≤ 1000000000) : ∀ (d i : Nat), i ≤ s.size → s.size - i = d → ∃ n : Int, Ev (fun k => code_dims.l0 k s (i : Int)) n ∧ Ev (fun k => jvmcoreref2_dims.l0 k s (i : Int)) n := by
  intro d
  induction d with
  | zero =>
    intro i hi hd
    refine ⟨i, Ev.step (f := fun _ => some (i : Int)) (fun k => ?_) (Ev.now _), Ev.step (f := fun _ => some (i : Int)) (fun k => ?_) (Ev.now _)⟩
    · simp only [code_dims.l0]; rw [if_neg (by omega)]
    · simp only [jvmcoreref2_dims.l0]; rw [if_neg (by omega)]
  | succ d ih =>
    intro i hi hd
    by_cases hb : bt s (i : Int) = 91
    · obtain ⟨n, e1, e2⟩ := ih (i + 1) (by omega) (by omega)
      refine ⟨n, Ev.step (fun k => ?_) e1, Ev.step (fun k => ?_) e2⟩
      · simp only [code_dims.l0]; rw [if_pos (by omega), if_pos (by omega), if_pos hb, wr_succ (by omega)]
      · simp only [jvmcoreref2_dims.l0]; rw [if_pos (by omega), if_pos (by omega), if_pos hb, wr_succ (by omega)]
    · refine ⟨i, Ev.step (f := fun _ => some (i : Int)) (fun k => ?_) (Ev.now _), Ev.step (f := fun _ => some (i : Int)) (fun k => ?_) (Ev.now _)⟩
      · simp only [code_dims.l0]; rw [if_pos (by omega), if_pos (by omega), if_neg hb]
      · simp only [jvmcoreref2_dims.l0]; rw [if_pos (by omega), if_pos (by omega), if_neg hb]
theorem dims_ev (s : ByteArray) (hs : s.size ≤ 1000000000) : ∃ n : Int, Ev (fun k => code_dims.f k s) n ∧ Ev (fun k => jvmcoreref2_dims.f k s) n := dims_l0 s hs _ 0 (Nat.zero_le _) rfl
theorem opDims_ev {l1 : List S39} (hp : okP l1) {A : Int} (h : tagV l1 A = 7) : ∃ n : Int, Ev (fun k => opDims k A l1) n ∧ Ev (fun k => jvmcoreref2_dims.f k (nameV l1 A)) n := by
  obtain ⟨a, b, c⟩ := tagV_pos (by decide) h
  have hc := hp.2 _ (rd_mem (by omega) b)
  have hB : isB l1 A 7 = true := by unfold isB; rw [decide_eq_true a, decide_eq_true b, c]; rfl
  have hn : nameV l1 A = strV l1 (rd_T39 l1 A).f3 := by unfold nameV; rw [if_pos hB]
  obtain ⟨n, e1, e2⟩ := dims_ev (strV l1 (rd_T39 l1 A).f3) (Nat.le_trans (strV_size hp _) (by decide))
  refine ⟨n, Ev.congr (fun k => ?_) e1, by rw [hn]; exact e2⟩
  have hl := hp.1
  unfold opDims
  rw [u16_id (by omega) (by omega), poolStr_eq l1 hc.1.1 hc.1.2]; rfl
section
variable {l1 : List S39} (hp : okP l1) (a0 : Int) (a2 : Bool) (A a4 a5 : Int) (l6 l7 : List Int)
theorem refOp_j1 {op : Int} {b : Bool} (h : Ev (fun k => jvmcoreref2_operand.j1 k l1 (tagV l1 A) a0 op a2 A a4 a5 l6 l7) b) : Ev (fun k => jvmcoreref2_operand.f k a0 op a2 A a4 a5 l6 l7 l1) b := by
  unfold jvmcoreref2_operand.f
  unfold tagV at h
  by_cases a : A > 0
  · refine Ev.yes a ?_
    by_cases c : A < (l1.length : Int)
    · rw [if_pos ⟨a, c⟩] at h
      refine Ev.step (fun k => ?_) h
      simp only [jvmcoreref2_operand.j0]
      rw [if_pos (decide_eq_true c), if_pos (by omega), if_pos c]
    · rw [if_neg (fun hh => c hh.2)] at h
      refine Ev.step (fun k => ?_) h
      simp only [jvmcoreref2_operand.j0]
      rw [if_neg (by simpa using c)]
  · rw [if_neg (fun hh => a hh.1)] at h
    refine Ev.no a (Ev.step (fun k => ?_) h)
    simp only [jvmcoreref2_operand.j0]
    rw [if_neg (by simp)]
include hp
theorem refOp_18 {b : Bool} (h : Ev (fun k => jvmcoreref2_operand.j2 k l1 (tagV l1 A) (nameV l1 A) 18 true a0 18 a2 A a4 a5 l6 l7) b) : Ev (fun k => jvmcoreref2_operand.f k a0 18 a2 A a4 a5 l6 l7 l1) b := by
  obtain ⟨q, hq⟩ := refClass_eq hp A
  refine refOp_j1 a0 a2 A a4 a5 l6 l7 (Ev.step (fun k => ?_) h)
  simp only [jvmcoreref2_operand.j1]
  rw [hq]; rfl
theorem refOp_j2 {op : Int} (h18 : op ≠ 18) {b : Bool} (h : Ev (fun k => jvmcoreref2_operand.j2 k l1 (tagV l1 A) (nameV l1 A) op (op == 19) a0 op a2 A a4 a5 l6 l7) b) : Ev (fun k => jvmcoreref2_operand.f k a0 op a2 A a4 a5 l6 l7 l1) b := by
  obtain ⟨q, hq⟩ := refClass_eq hp A
  refine refOp_j1 a0 a2 A a4 a5 l6 l7 (Ev.step (fun k => ?_) h)
  simp only [jvmcoreref2_operand.j1]
  rw [hq, Option.bind_some, if_neg h18]
theorem op_18 : ∃ b, Ev (fun k => code_operand.f k a0 18 a2 A a4 a5 l6 l7 l1) b ∧ Ev (fun k => jvmcoreref2_operand.f k a0 18 a2 A a4 a5 l6 l7 l1) b := by
  refine ⟨([3, 4, 8] : List Int).any fun t => tagV l1 A == t, Ev.congr (f := fun _ => some (([3, 4, 8] : List Int).any fun t => tagV l1 A == t)) (fun k => ?_) (Ev.now _), ?_⟩
  · rw [← opAny_tag hp.1 A _ (by decide)]; kernel_rfl
  · have hv : Ev (fun k => jvmcoreref2_operand.j2 k l1 (tagV l1 A) (nameV l1 A) 18 true a0 18 a2 A a4 a5 l6 l7) (([3, 4, 8] : List Int).any fun t => tagV l1 A == t) := by
      refine Ev.step (f := fun _ => some (([3, 4, 8] : List Int).any fun t => tagV l1 A == t)) (fun k => ?_) (Ev.now _)
      show (if tagV l1 A = 3 then some true else if tagV l1 A = 4 then some true else some (tagV l1 A == 8)) = _
      by_cases x : tagV l1 A = 3
      · rw [if_pos x, x]; rfl
      · rw [if_neg x]
        by_cases y : tagV l1 A = 4
        · rw [if_pos y, y]; rfl
        · rw [if_neg y]; simp [beq_eq_false_iff_ne.2 x, beq_eq_false_iff_ne.2 y]
    exact refOp_18 hp a0 a2 A a4 a5 l6 l7 hv
theorem op_19 : ∃ b, Ev (fun k => code_operand.f k a0 19 a2 A a4 a5 l6 l7 l1) b ∧ Ev (fun k => jvmcoreref2_operand.f k a0 19 a2 A a4 a5 l6 l7 l1) b := by
  refine ⟨([3, 4, 8] : List Int).any fun t => tagV l1 A == t, Ev.congr (f := fun _ => some (([3, 4, 8] : List Int).any fun t => tagV l1 A == t)) (fun k => ?_) (Ev.now _), ?_⟩
  · rw [← opAny_tag hp.1 A _ (by decide)]; kernel_rfl
  · have hv : Ev (fun k => jvmcoreref2_operand.j2 k l1 (tagV l1 A) (nameV l1 A) 19 true a0 19 a2 A a4 a5 l6 l7) (([3, 4, 8] : List Int).any fun t => tagV l1 A == t) := by
      refine Ev.step (f := fun _ => some (([3, 4, 8] : List Int).any fun t => tagV l1 A == t)) (fun k => ?_) (Ev.now _)
      show (if tagV l1 A = 3 then some true else if tagV l1 A = 4 then some true else some (tagV l1 A == 8)) = _
      by_cases x : tagV l1 A = 3
      · rw [if_pos x, x]; rfl
      · rw [if_neg x]
        by_cases y : tagV l1 A = 4
        · rw [if_pos y, y]; rfl
        · rw [if_neg y]; simp [beq_eq_false_iff_ne.2 x, beq_eq_false_iff_ne.2 y]
    exact refOp_j2 hp a0 a2 A a4 a5 l6 l7 (by decide) hv
theorem op_20 : ∃ b, Ev (fun k => code_operand.f k a0 20 a2 A a4 a5 l6 l7 l1) b ∧ Ev (fun k => jvmcoreref2_operand.f k a0 20 a2 A a4 a5 l6 l7 l1) b := by
  refine ⟨([5, 6] : List Int).any fun t => tagV l1 A == t, Ev.congr (f := fun _ => some (([5, 6] : List Int).any fun t => tagV l1 A == t)) (fun k => ?_) (Ev.now _), ?_⟩
  · rw [← opAny_tag hp.1 A _ (by decide)]; kernel_rfl
  · have hv : Ev (fun k => jvmcoreref2_operand.j2 k l1 (tagV l1 A) (nameV l1 A) 20 false a0 20 a2 A a4 a5 l6 l7) (([5, 6] : List Int).any fun t => tagV l1 A == t) := by
      refine Ev.step (f := fun _ => some (([5, 6] : List Int).any fun t => tagV l1 A == t)) (fun k => ?_) (Ev.now _)
      show (if tagV l1 A = 5 then some true else some (tagV l1 A == 6)) = _
      by_cases x : tagV l1 A = 5
      · rw [if_pos x, x]; rfl
      · rw [if_neg x]; simp [beq_eq_false_iff_ne.2 x]
    exact refOp_j2 hp a0 a2 A a4 a5 l6 l7 (by decide) hv
theorem op_178 : ∃ b, Ev (fun k => code_operand.f k a0 178 a2 A a4 a5 l6 l7 l1) b ∧ Ev (fun k => jvmcoreref2_operand.f k a0 178 a2 A a4 a5 l6 l7 l1) b := by
  refine ⟨([9] : List Int).any fun t => tagV l1 A == t, Ev.congr (f := fun _ => some (([9] : List Int).any fun t => tagV l1 A == t)) (fun k => ?_) (Ev.now _), ?_⟩
  · rw [← opAny_tag hp.1 A _ (by decide)]; kernel_rfl
  · have hv : Ev (fun k => jvmcoreref2_operand.j3 k l1 (tagV l1 A) (nameV l1 A) 178 true a0 178 a2 A a4 a5 l6 l7) (([9] : List Int).any fun t => tagV l1 A == t) := by
      refine Ev.step (f := fun _ => some (([9] : List Int).any fun t => tagV l1 A == t)) (fun k => ?_) (Ev.now _)
      show some (tagV l1 A == 9) = _
      simp
    exact refOp_j2 hp a0 a2 A a4 a5 l6 l7 (by decide) (Ev.step (f := fun k => jvmcoreref2_operand.j3 k l1 (tagV l1 A) (nameV l1 A) 178 true a0 178 a2 A a4 a5 l6 l7) (fun k => by kernel_rfl) hv)
theorem op_179 : ∃ b, Ev (fun k => code_operand.f k a0 179 a2 A a4 a5 l6 l7 l1) b ∧ Ev (fun k => jvmcoreref2_operand.f k a0 179 a2 A a4 a5 l6 l7 l1) b := by
  refine ⟨([9] : List Int).any fun t => tagV l1 A == t, Ev.congr (f := fun _ => some (([9] : List Int).any fun t => tagV l1 A == t)) (fun k => ?_) (Ev.now _), ?_⟩
  · rw [← opAny_tag hp.1 A _ (by decide)]; kernel_rfl
  · have hv : Ev (fun k => jvmcoreref2_operand.j3 k l1 (tagV l1 A) (nameV l1 A) 179 true a0 179 a2 A a4 a5 l6 l7) (([9] : List Int).any fun t => tagV l1 A == t) := by
      refine Ev.step (f := fun _ => some (([9] : List Int).any fun t => tagV l1 A == t)) (fun k => ?_) (Ev.now _)
      show some (tagV l1 A == 9) = _
      simp
    exact refOp_j2 hp a0 a2 A a4 a5 l6 l7 (by decide) (Ev.step (f := fun k => jvmcoreref2_operand.j3 k l1 (tagV l1 A) (nameV l1 A) 179 true a0 179 a2 A a4 a5 l6 l7) (fun k => by kernel_rfl) hv)
theorem op_180 : ∃ b, Ev (fun k => code_operand.f k a0 180 a2 A a4 a5 l6 l7 l1) b ∧ Ev (fun k => jvmcoreref2_operand.f k a0 180 a2 A a4 a5 l6 l7 l1) b := by
  refine ⟨([9] : List Int).any fun t => tagV l1 A == t, Ev.congr (f := fun _ => some (([9] : List Int).any fun t => tagV l1 A == t)) (fun k => ?_) (Ev.now _), ?_⟩
  · rw [← opAny_tag hp.1 A _ (by decide)]; kernel_rfl
  · have hv : Ev (fun k => jvmcoreref2_operand.j3 k l1 (tagV l1 A) (nameV l1 A) 180 true a0 180 a2 A a4 a5 l6 l7) (([9] : List Int).any fun t => tagV l1 A == t) := by
      refine Ev.step (f := fun _ => some (([9] : List Int).any fun t => tagV l1 A == t)) (fun k => ?_) (Ev.now _)
      show some (tagV l1 A == 9) = _
      simp
    exact refOp_j2 hp a0 a2 A a4 a5 l6 l7 (by decide) (Ev.step (f := fun k => jvmcoreref2_operand.j3 k l1 (tagV l1 A) (nameV l1 A) 180 true a0 180 a2 A a4 a5 l6 l7) (fun k => by kernel_rfl) hv)
theorem op_181 : ∃ b, Ev (fun k => code_operand.f k a0 181 a2 A a4 a5 l6 l7 l1) b ∧ Ev (fun k => jvmcoreref2_operand.f k a0 181 a2 A a4 a5 l6 l7 l1) b := by
  refine ⟨([9] : List Int).any fun t => tagV l1 A == t, Ev.congr (f := fun _ => some (([9] : List Int).any fun t => tagV l1 A == t)) (fun k => ?_) (Ev.now _), ?_⟩
  · rw [← opAny_tag hp.1 A _ (by decide)]; kernel_rfl
  · have hv : Ev (fun k => jvmcoreref2_operand.j3 k l1 (tagV l1 A) (nameV l1 A) 181 true a0 181 a2 A a4 a5 l6 l7) (([9] : List Int).any fun t => tagV l1 A == t) := by
      refine Ev.step (f := fun _ => some (([9] : List Int).any fun t => tagV l1 A == t)) (fun k => ?_) (Ev.now _)
      show some (tagV l1 A == 9) = _
      simp
    exact refOp_j2 hp a0 a2 A a4 a5 l6 l7 (by decide) (Ev.step (f := fun k => jvmcoreref2_operand.j3 k l1 (tagV l1 A) (nameV l1 A) 181 true a0 181 a2 A a4 a5 l6 l7) (fun k => by kernel_rfl) hv)
theorem op_182 : ∃ b, Ev (fun k => code_operand.f k a0 182 a2 A a4 a5 l6 l7 l1) b ∧ Ev (fun k => jvmcoreref2_operand.f k a0 182 a2 A a4 a5 l6 l7 l1) b := by
  have hany : opAny l1 (IntKind.u16.wrap A) A [10] = (tagV l1 A == 10) := by rw [opAny_tag hp.1 A _ (by decide)]; simp
  have hcode : ∀ k, code_operand.f k a0 182 a2 A a4 a5 l6 l7 l1 = if opAny l1 (IntKind.u16.wrap A) A [10] = true then opCalled k a0 182 a2 A a4 a5 l6 l7 l1 else some false := fun k => by kernel_rfl
  have href : ∀ k, jvmcoreref2_operand.j4 (k + 1) l1 (tagV l1 A) (nameV l1 A) 182 true a0 182 a2 A a4 a5 l6 l7 = if tagV l1 A = 10 then (jvmcoreref2_called.f k a0 182 a2 A a4 a5 l6 l7 l1).bind fun t => some t else some false := fun k => by kernel_rfl
  by_cases ht : tagV l1 A = 10
  · obtain ⟨p0, p1, _⟩ := tagV_pos (by decide) ht
    have hl := hp.1
    obtain ⟨b, e1, e2⟩ := called_ev hp p0 p1 a0 182 a2 a4 a5 l6 l7
    refine ⟨b, Ev.congr hcode ?_, ?_⟩
    · refine Ev.yes (by rw [hany, ht]; rfl) ?_
      exact Ev.congr (fun k => by unfold opCalled; rw [u16_id (by omega) (by omega)]) e1
    · have hv : Ev (fun k => jvmcoreref2_operand.j4 k l1 (tagV l1 A) (nameV l1 A) 182 true a0 182 a2 A a4 a5 l6 l7) (b) := Ev.step href (Ev.yes ht (Ev.bind e2 (Ev.now _)))
      exact refOp_j2 hp a0 a2 A a4 a5 l6 l7 (by decide) (Ev.step (f := fun k => jvmcoreref2_operand.j3 k l1 (tagV l1 A) (nameV l1 A) 182 false a0 182 a2 A a4 a5 l6 l7) (fun k => by kernel_rfl) (Ev.step (f := fun k => jvmcoreref2_operand.j4 k l1 (tagV l1 A) (nameV l1 A) 182 true a0 182 a2 A a4 a5 l6 l7) (fun k => by kernel_rfl) hv))
  · refine ⟨false, Ev.congr hcode (Ev.no (by rw [hany, beq_eq_false_iff_ne.2 ht]; simp) (Ev.now _)), ?_⟩
    have hv : Ev (fun k => jvmcoreref2_operand.j4 k l1 (tagV l1 A) (nameV l1 A) 182 true a0 182 a2 A a4 a5 l6 l7) false := Ev.step href (Ev.no ht (Ev.now _))
    exact refOp_j2 hp a0 a2 A a4 a5 l6 l7 (by decide) (Ev.step (f := fun k => jvmcoreref2_operand.j3 k l1 (tagV l1 A) (nameV l1 A) 182 false a0 182 a2 A a4 a5 l6 l7) (fun k => by kernel_rfl) (Ev.step (f := fun k => jvmcoreref2_operand.j4 k l1 (tagV l1 A) (nameV l1 A) 182 true a0 182 a2 A a4 a5 l6 l7) (fun k => by kernel_rfl) hv))
theorem op_183 : ∃ b, Ev (fun k => code_operand.f k a0 183 a2 A a4 a5 l6 l7 l1) b ∧ Ev (fun k => jvmcoreref2_operand.f k a0 183 a2 A a4 a5 l6 l7 l1) b := by
  have hany : opAny l1 (IntKind.u16.wrap A) A [10] = (tagV l1 A == 10) := by rw [opAny_tag hp.1 A _ (by decide)]; simp
  have hcode : ∀ k, code_operand.f k a0 183 a2 A a4 a5 l6 l7 l1 = if opAny l1 (IntKind.u16.wrap A) A [10] = true then opCalled k a0 183 a2 A a4 a5 l6 l7 l1 else some false := fun k => by kernel_rfl
  have href : ∀ k, jvmcoreref2_operand.j4 (k + 1) l1 (tagV l1 A) (nameV l1 A) 183 true a0 183 a2 A a4 a5 l6 l7 = if tagV l1 A = 10 then (jvmcoreref2_called.f k a0 183 a2 A a4 a5 l6 l7 l1).bind fun t => some t else some false := fun k => by kernel_rfl
  by_cases ht : tagV l1 A = 10
  · obtain ⟨p0, p1, _⟩ := tagV_pos (by decide) ht
    have hl := hp.1
    obtain ⟨b, e1, e2⟩ := called_ev hp p0 p1 a0 183 a2 a4 a5 l6 l7
    refine ⟨b, Ev.congr hcode ?_, ?_⟩
    · refine Ev.yes (by rw [hany, ht]; rfl) ?_
      exact Ev.congr (fun k => by unfold opCalled; rw [u16_id (by omega) (by omega)]) e1
    · have hv : Ev (fun k => jvmcoreref2_operand.j4 k l1 (tagV l1 A) (nameV l1 A) 183 true a0 183 a2 A a4 a5 l6 l7) (b) := Ev.step href (Ev.yes ht (Ev.bind e2 (Ev.now _)))
      exact refOp_j2 hp a0 a2 A a4 a5 l6 l7 (by decide) (Ev.step (f := fun k => jvmcoreref2_operand.j3 k l1 (tagV l1 A) (nameV l1 A) 183 false a0 183 a2 A a4 a5 l6 l7) (fun k => by kernel_rfl) (Ev.step (f := fun k => jvmcoreref2_operand.j4 k l1 (tagV l1 A) (nameV l1 A) 183 true a0 183 a2 A a4 a5 l6 l7) (fun k => by kernel_rfl) hv))
  · refine ⟨false, Ev.congr hcode (Ev.no (by rw [hany, beq_eq_false_iff_ne.2 ht]; simp) (Ev.now _)), ?_⟩
    have hv : Ev (fun k => jvmcoreref2_operand.j4 k l1 (tagV l1 A) (nameV l1 A) 183 true a0 183 a2 A a4 a5 l6 l7) false := Ev.step href (Ev.no ht (Ev.now _))
    exact refOp_j2 hp a0 a2 A a4 a5 l6 l7 (by decide) (Ev.step (f := fun k => jvmcoreref2_operand.j3 k l1 (tagV l1 A) (nameV l1 A) 183 false a0 183 a2 A a4 a5 l6 l7) (fun k => by kernel_rfl) (Ev.step (f := fun k => jvmcoreref2_operand.j4 k l1 (tagV l1 A) (nameV l1 A) 183 true a0 183 a2 A a4 a5 l6 l7) (fun k => by kernel_rfl) hv))
theorem op_184 : ∃ b, Ev (fun k => code_operand.f k a0 184 a2 A a4 a5 l6 l7 l1) b ∧ Ev (fun k => jvmcoreref2_operand.f k a0 184 a2 A a4 a5 l6 l7 l1) b := by
  have hany : opAny l1 (IntKind.u16.wrap A) A [10] = (tagV l1 A == 10) := by rw [opAny_tag hp.1 A _ (by decide)]; simp
  have hcode : ∀ k, code_operand.f k a0 184 a2 A a4 a5 l6 l7 l1 = if opAny l1 (IntKind.u16.wrap A) A [10] = true then opCalled k a0 184 a2 A a4 a5 l6 l7 l1 else some false := fun k => by kernel_rfl
  have href : ∀ k, jvmcoreref2_operand.j4 (k + 1) l1 (tagV l1 A) (nameV l1 A) 184 true a0 184 a2 A a4 a5 l6 l7 = if tagV l1 A = 10 then (jvmcoreref2_called.f k a0 184 a2 A a4 a5 l6 l7 l1).bind fun t => some t else some false := fun k => by kernel_rfl
  by_cases ht : tagV l1 A = 10
  · obtain ⟨p0, p1, _⟩ := tagV_pos (by decide) ht
    have hl := hp.1
    obtain ⟨b, e1, e2⟩ := called_ev hp p0 p1 a0 184 a2 a4 a5 l6 l7
    refine ⟨b, Ev.congr hcode ?_, ?_⟩
    · refine Ev.yes (by rw [hany, ht]; rfl) ?_
      exact Ev.congr (fun k => by unfold opCalled; rw [u16_id (by omega) (by omega)]) e1
    · have hv : Ev (fun k => jvmcoreref2_operand.j4 k l1 (tagV l1 A) (nameV l1 A) 184 true a0 184 a2 A a4 a5 l6 l7) (b) := Ev.step href (Ev.yes ht (Ev.bind e2 (Ev.now _)))
      exact refOp_j2 hp a0 a2 A a4 a5 l6 l7 (by decide) (Ev.step (f := fun k => jvmcoreref2_operand.j3 k l1 (tagV l1 A) (nameV l1 A) 184 false a0 184 a2 A a4 a5 l6 l7) (fun k => by kernel_rfl) (Ev.step (f := fun k => jvmcoreref2_operand.j4 k l1 (tagV l1 A) (nameV l1 A) 184 true a0 184 a2 A a4 a5 l6 l7) (fun k => by kernel_rfl) hv))
  · refine ⟨false, Ev.congr hcode (Ev.no (by rw [hany, beq_eq_false_iff_ne.2 ht]; simp) (Ev.now _)), ?_⟩
    have hv : Ev (fun k => jvmcoreref2_operand.j4 k l1 (tagV l1 A) (nameV l1 A) 184 true a0 184 a2 A a4 a5 l6 l7) false := Ev.step href (Ev.no ht (Ev.now _))
    exact refOp_j2 hp a0 a2 A a4 a5 l6 l7 (by decide) (Ev.step (f := fun k => jvmcoreref2_operand.j3 k l1 (tagV l1 A) (nameV l1 A) 184 false a0 184 a2 A a4 a5 l6 l7) (fun k => by kernel_rfl) (Ev.step (f := fun k => jvmcoreref2_operand.j4 k l1 (tagV l1 A) (nameV l1 A) 184 true a0 184 a2 A a4 a5 l6 l7) (fun k => by kernel_rfl) hv))
theorem op_185 : ∃ b, Ev (fun k => code_operand.f k a0 185 a2 A a4 a5 l6 l7 l1) b ∧ Ev (fun k => jvmcoreref2_operand.f k a0 185 a2 A a4 a5 l6 l7 l1) b := by
  have hany : opAny l1 (IntKind.u16.wrap A) A [11] = (tagV l1 A == 11) := by rw [opAny_tag hp.1 A _ (by decide)]; simp
  have hcode : ∀ k, code_operand.f k a0 185 a2 A a4 a5 l6 l7 l1 = if opAny l1 (IntKind.u16.wrap A) A [11] = true then opCalled k a0 185 a2 A a4 a5 l6 l7 l1 else some false := fun k => by kernel_rfl
  have href : ∀ k, jvmcoreref2_operand.j4 (k + 1) l1 (tagV l1 A) (nameV l1 A) 185 false a0 185 a2 A a4 a5 l6 l7 = if tagV l1 A = 11 then (jvmcoreref2_called.f k a0 185 a2 A a4 a5 l6 l7 l1).bind fun t => some t else some false := fun k => by kernel_rfl
  by_cases ht : tagV l1 A = 11
  · obtain ⟨p0, p1, _⟩ := tagV_pos (by decide) ht
    have hl := hp.1
    obtain ⟨b, e1, e2⟩ := called_ev hp p0 p1 a0 185 a2 a4 a5 l6 l7
    refine ⟨b, Ev.congr hcode ?_, ?_⟩
    · refine Ev.yes (by rw [hany, ht]; rfl) ?_
      exact Ev.congr (fun k => by unfold opCalled; rw [u16_id (by omega) (by omega)]) e1
    · have hv : Ev (fun k => jvmcoreref2_operand.j4 k l1 (tagV l1 A) (nameV l1 A) 185 false a0 185 a2 A a4 a5 l6 l7) (b) := Ev.step href (Ev.yes ht (Ev.bind e2 (Ev.now _)))
      exact refOp_j2 hp a0 a2 A a4 a5 l6 l7 (by decide) (Ev.step (f := fun k => jvmcoreref2_operand.j3 k l1 (tagV l1 A) (nameV l1 A) 185 false a0 185 a2 A a4 a5 l6 l7) (fun k => by kernel_rfl) (Ev.step (f := fun k => jvmcoreref2_operand.j4 k l1 (tagV l1 A) (nameV l1 A) 185 false a0 185 a2 A a4 a5 l6 l7) (fun k => by kernel_rfl) hv))
  · refine ⟨false, Ev.congr hcode (Ev.no (by rw [hany, beq_eq_false_iff_ne.2 ht]; simp) (Ev.now _)), ?_⟩
    have hv : Ev (fun k => jvmcoreref2_operand.j4 k l1 (tagV l1 A) (nameV l1 A) 185 false a0 185 a2 A a4 a5 l6 l7) false := Ev.step href (Ev.no ht (Ev.now _))
    exact refOp_j2 hp a0 a2 A a4 a5 l6 l7 (by decide) (Ev.step (f := fun k => jvmcoreref2_operand.j3 k l1 (tagV l1 A) (nameV l1 A) 185 false a0 185 a2 A a4 a5 l6 l7) (fun k => by kernel_rfl) (Ev.step (f := fun k => jvmcoreref2_operand.j4 k l1 (tagV l1 A) (nameV l1 A) 185 false a0 185 a2 A a4 a5 l6 l7) (fun k => by kernel_rfl) hv))
theorem op_187 : ∃ b, Ev (fun k => code_operand.f k a0 187 a2 A a4 a5 l6 l7 l1) b ∧ Ev (fun k => jvmcoreref2_operand.f k a0 187 a2 A a4 a5 l6 l7 l1) b := by
  have hany : opAny l1 (IntKind.u16.wrap A) A [7] = (tagV l1 A == 7) := by rw [opAny_tag hp.1 A _ (by decide)]; simp
  have hcode : ∀ k, code_operand.f k a0 187 a2 A a4 a5 l6 l7 l1 = if opAny l1 (IntKind.u16.wrap A) A [7] = true then (opDims k A l1).bind fun n => some (n == 0) else some false := fun k => by kernel_rfl
  have href : ∀ k, jvmcoreref2_operand.j4 (k + 1) l1 (tagV l1 A) (nameV l1 A) 187 false a0 187 a2 A a4 a5 l6 l7 = if tagV l1 A = 7 then (jvmcoreref2_dims.f k (nameV l1 A)).bind fun t => some (t == 0) else some false := fun k => by kernel_rfl
  by_cases ht : tagV l1 A = 7
  · obtain ⟨n, e1, e2⟩ := opDims_ev hp ht
    refine ⟨n == 0, Ev.congr hcode ?_, ?_⟩
    · refine Ev.yes (by rw [hany, ht]; rfl) ?_
      exact Ev.bind e1 (Ev.now _)
    · have hv : Ev (fun k => jvmcoreref2_operand.j4 k l1 (tagV l1 A) (nameV l1 A) 187 false a0 187 a2 A a4 a5 l6 l7) (n == 0) := Ev.step href (Ev.yes ht (Ev.bind e2 (Ev.now _)))
      exact refOp_j2 hp a0 a2 A a4 a5 l6 l7 (by decide) (Ev.step (f := fun k => jvmcoreref2_operand.j3 k l1 (tagV l1 A) (nameV l1 A) 187 false a0 187 a2 A a4 a5 l6 l7) (fun k => by kernel_rfl) (Ev.step (f := fun k => jvmcoreref2_operand.j4 k l1 (tagV l1 A) (nameV l1 A) 187 false a0 187 a2 A a4 a5 l6 l7) (fun k => by kernel_rfl) hv))
  · refine ⟨false, Ev.congr hcode (Ev.no (by rw [hany, beq_eq_false_iff_ne.2 ht]; simp) (Ev.now _)), ?_⟩
    have hv : Ev (fun k => jvmcoreref2_operand.j4 k l1 (tagV l1 A) (nameV l1 A) 187 false a0 187 a2 A a4 a5 l6 l7) false := Ev.step href (Ev.no ht (Ev.now _))
    exact refOp_j2 hp a0 a2 A a4 a5 l6 l7 (by decide) (Ev.step (f := fun k => jvmcoreref2_operand.j3 k l1 (tagV l1 A) (nameV l1 A) 187 false a0 187 a2 A a4 a5 l6 l7) (fun k => by kernel_rfl) (Ev.step (f := fun k => jvmcoreref2_operand.j4 k l1 (tagV l1 A) (nameV l1 A) 187 false a0 187 a2 A a4 a5 l6 l7) (fun k => by kernel_rfl) hv))
theorem op_189 : ∃ b, Ev (fun k => code_operand.f k a0 189 a2 A a4 a5 l6 l7 l1) b ∧ Ev (fun k => jvmcoreref2_operand.f k a0 189 a2 A a4 a5 l6 l7 l1) b := by
  have hany : opAny l1 (IntKind.u16.wrap A) A [7] = (tagV l1 A == 7) := by rw [opAny_tag hp.1 A _ (by decide)]; simp
  have hcode : ∀ k, code_operand.f k a0 189 a2 A a4 a5 l6 l7 l1 = if opAny l1 (IntKind.u16.wrap A) A [7] = true then (opDims k A l1).bind fun n => some (decide (n < 255)) else some false := fun k => by kernel_rfl
  have href : ∀ k, jvmcoreref2_operand.j4 (k + 1) l1 (tagV l1 A) (nameV l1 A) 189 false a0 189 a2 A a4 a5 l6 l7 = if tagV l1 A = 7 then (jvmcoreref2_dims.f k (nameV l1 A)).bind fun t => some (decide (t < 255)) else some false := fun k => by kernel_rfl
  by_cases ht : tagV l1 A = 7
  · obtain ⟨n, e1, e2⟩ := opDims_ev hp ht
    refine ⟨decide (n < 255), Ev.congr hcode ?_, ?_⟩
    · refine Ev.yes (by rw [hany, ht]; rfl) ?_
      exact Ev.bind e1 (Ev.now _)
    · have hv : Ev (fun k => jvmcoreref2_operand.j4 k l1 (tagV l1 A) (nameV l1 A) 189 false a0 189 a2 A a4 a5 l6 l7) (decide (n < 255)) := Ev.step href (Ev.yes ht (Ev.bind e2 (Ev.now _)))
      exact refOp_j2 hp a0 a2 A a4 a5 l6 l7 (by decide) (Ev.step (f := fun k => jvmcoreref2_operand.j3 k l1 (tagV l1 A) (nameV l1 A) 189 false a0 189 a2 A a4 a5 l6 l7) (fun k => by kernel_rfl) (Ev.step (f := fun k => jvmcoreref2_operand.j4 k l1 (tagV l1 A) (nameV l1 A) 189 false a0 189 a2 A a4 a5 l6 l7) (fun k => by kernel_rfl) hv))
  · refine ⟨false, Ev.congr hcode (Ev.no (by rw [hany, beq_eq_false_iff_ne.2 ht]; simp) (Ev.now _)), ?_⟩
    have hv : Ev (fun k => jvmcoreref2_operand.j4 k l1 (tagV l1 A) (nameV l1 A) 189 false a0 189 a2 A a4 a5 l6 l7) false := Ev.step href (Ev.no ht (Ev.now _))
    exact refOp_j2 hp a0 a2 A a4 a5 l6 l7 (by decide) (Ev.step (f := fun k => jvmcoreref2_operand.j3 k l1 (tagV l1 A) (nameV l1 A) 189 false a0 189 a2 A a4 a5 l6 l7) (fun k => by kernel_rfl) (Ev.step (f := fun k => jvmcoreref2_operand.j4 k l1 (tagV l1 A) (nameV l1 A) 189 false a0 189 a2 A a4 a5 l6 l7) (fun k => by kernel_rfl) hv))
theorem op_197 : ∃ b, Ev (fun k => code_operand.f k a0 197 a2 A a4 a5 l6 l7 l1) b ∧ Ev (fun k => jvmcoreref2_operand.f k a0 197 a2 A a4 a5 l6 l7 l1) b := by
  have hany : opAny l1 (IntKind.u16.wrap A) A [7] = (tagV l1 A == 7) := by rw [opAny_tag hp.1 A _ (by decide)]; simp
  have hcode : ∀ k, code_operand.f k a0 197 a2 A a4 a5 l6 l7 l1 = if opAny l1 (IntKind.u16.wrap A) A [7] = true then (opDims k A l1).bind fun n => some (decide (a4 ≤ n)) else some false := fun k => by kernel_rfl
  have href : ∀ k, jvmcoreref2_operand.j5 (k + 1) (tagV l1 A) (nameV l1 A) 197 false a0 197 a2 A a4 a5 l6 l7 = if tagV l1 A = 7 then (jvmcoreref2_dims.f k (nameV l1 A)).bind fun t => some (decide (t ≥ a4)) else some false := fun k => by kernel_rfl
  by_cases ht : tagV l1 A = 7
  · obtain ⟨n, e1, e2⟩ := opDims_ev hp ht
    refine ⟨decide (a4 ≤ n), Ev.congr hcode ?_, ?_⟩
    · refine Ev.yes (by rw [hany, ht]; rfl) ?_
      exact Ev.bind e1 (Ev.now _)
    · have hv : Ev (fun k => jvmcoreref2_operand.j5 k (tagV l1 A) (nameV l1 A) 197 false a0 197 a2 A a4 a5 l6 l7) (decide (a4 ≤ n)) := Ev.step href (Ev.yes ht (Ev.bind e2 (Ev.now _)))
      exact refOp_j2 hp a0 a2 A a4 a5 l6 l7 (by decide) (Ev.step (f := fun k => jvmcoreref2_operand.j3 k l1 (tagV l1 A) (nameV l1 A) 197 false a0 197 a2 A a4 a5 l6 l7) (fun k => by kernel_rfl) (Ev.step (f := fun k => jvmcoreref2_operand.j4 k l1 (tagV l1 A) (nameV l1 A) 197 false a0 197 a2 A a4 a5 l6 l7) (fun k => by kernel_rfl) (Ev.step (f := fun k => jvmcoreref2_operand.j5 k (tagV l1 A) (nameV l1 A) 197 false a0 197 a2 A a4 a5 l6 l7) (fun k => by kernel_rfl) hv)))
  · refine ⟨false, Ev.congr hcode (Ev.no (by rw [hany, beq_eq_false_iff_ne.2 ht]; simp) (Ev.now _)), ?_⟩
    have hv : Ev (fun k => jvmcoreref2_operand.j5 k (tagV l1 A) (nameV l1 A) 197 false a0 197 a2 A a4 a5 l6 l7) false := Ev.step href (Ev.no ht (Ev.now _))
    exact refOp_j2 hp a0 a2 A a4 a5 l6 l7 (by decide) (Ev.step (f := fun k => jvmcoreref2_operand.j3 k l1 (tagV l1 A) (nameV l1 A) 197 false a0 197 a2 A a4 a5 l6 l7) (fun k => by kernel_rfl) (Ev.step (f := fun k => jvmcoreref2_operand.j4 k l1 (tagV l1 A) (nameV l1 A) 197 false a0 197 a2 A a4 a5 l6 l7) (fun k => by kernel_rfl) (Ev.step (f := fun k => jvmcoreref2_operand.j5 k (tagV l1 A) (nameV l1 A) 197 false a0 197 a2 A a4 a5 l6 l7) (fun k => by kernel_rfl) hv)))
theorem op_192 : ∃ b, Ev (fun k => code_operand.f k a0 192 a2 A a4 a5 l6 l7 l1) b ∧ Ev (fun k => jvmcoreref2_operand.f k a0 192 a2 A a4 a5 l6 l7 l1) b := by
  refine ⟨([7] : List Int).any fun t => tagV l1 A == t, Ev.congr (f := fun _ => some (([7] : List Int).any fun t => tagV l1 A == t)) (fun k => ?_) (Ev.now _), ?_⟩
  · rw [← opAny_tag hp.1 A _ (by decide)]; kernel_rfl
  · have hv : Ev (fun k => jvmcoreref2_operand.j5 k (tagV l1 A) (nameV l1 A) 192 true a0 192 a2 A a4 a5 l6 l7) (([7] : List Int).any fun t => tagV l1 A == t) := by
      refine Ev.step (f := fun _ => some (([7] : List Int).any fun t => tagV l1 A == t)) (fun k => ?_) (Ev.now _)
      show some (tagV l1 A == 7) = _
      simp
    exact refOp_j2 hp a0 a2 A a4 a5 l6 l7 (by decide) (Ev.step (f := fun k => jvmcoreref2_operand.j3 k l1 (tagV l1 A) (nameV l1 A) 192 false a0 192 a2 A a4 a5 l6 l7) (fun k => by kernel_rfl) (Ev.step (f := fun k => jvmcoreref2_operand.j4 k l1 (tagV l1 A) (nameV l1 A) 192 false a0 192 a2 A a4 a5 l6 l7) (fun k => by kernel_rfl) (Ev.step (f := fun k => jvmcoreref2_operand.j5 k (tagV l1 A) (nameV l1 A) 192 true a0 192 a2 A a4 a5 l6 l7) (fun k => by kernel_rfl) hv)))
theorem op_193 : ∃ b, Ev (fun k => code_operand.f k a0 193 a2 A a4 a5 l6 l7 l1) b ∧ Ev (fun k => jvmcoreref2_operand.f k a0 193 a2 A a4 a5 l6 l7 l1) b := by
  refine ⟨([7] : List Int).any fun t => tagV l1 A == t, Ev.congr (f := fun _ => some (([7] : List Int).any fun t => tagV l1 A == t)) (fun k => ?_) (Ev.now _), ?_⟩
  · rw [← opAny_tag hp.1 A _ (by decide)]; kernel_rfl
  · have hv : Ev (fun k => jvmcoreref2_operand.j5 k (tagV l1 A) (nameV l1 A) 193 true a0 193 a2 A a4 a5 l6 l7) (([7] : List Int).any fun t => tagV l1 A == t) := by
      refine Ev.step (f := fun _ => some (([7] : List Int).any fun t => tagV l1 A == t)) (fun k => ?_) (Ev.now _)
      show some (tagV l1 A == 7) = _
      simp
    exact refOp_j2 hp a0 a2 A a4 a5 l6 l7 (by decide) (Ev.step (f := fun k => jvmcoreref2_operand.j3 k l1 (tagV l1 A) (nameV l1 A) 193 false a0 193 a2 A a4 a5 l6 l7) (fun k => by kernel_rfl) (Ev.step (f := fun k => jvmcoreref2_operand.j4 k l1 (tagV l1 A) (nameV l1 A) 193 false a0 193 a2 A a4 a5 l6 l7) (fun k => by kernel_rfl) (Ev.step (f := fun k => jvmcoreref2_operand.j5 k (tagV l1 A) (nameV l1 A) 193 true a0 193 a2 A a4 a5 l6 l7) (fun k => by kernel_rfl) hv)))
theorem op_other (op : Int) (n18 : op ≠ 18) (n19 : op ≠ 19) (n20 : op ≠ 20) (n178 : op ≠ 178) (n179 : op ≠ 179) (n180 : op ≠ 180) (n181 : op ≠ 181) (n182 : op ≠ 182) (n183 : op ≠ 183) (n184 : op ≠ 184) (n185 : op ≠ 185) (n187 : op ≠ 187) (n189 : op ≠ 189) (n192 : op ≠ 192) (n193 : op ≠ 193) (n197 : op ≠ 197) : ∃ b, Ev (fun k => code_operand.f k a0 op a2 A a4 a5 l6 l7 l1) b ∧ Ev (fun k => jvmcoreref2_operand.f k a0 op a2 A a4 a5 l6 l7 l1) b := by
  refine ⟨true, Ev.congr (f := fun _ => some true) (fun k => ?_) (Ev.now _), ?_⟩
  · unfold code_operand.f
    rw [if_neg n18, if_neg n19, if_neg n20, if_neg n178, if_neg n179, if_neg n180, if_neg n181, if_neg n182, if_neg n183, if_neg n184, if_neg n185, if_neg n187, if_neg n189, if_neg n192, if_neg n193, if_neg n197]
  · have f : ∀ c : Int, op ≠ c → (op == c) = false := fun c h => beq_eq_false_iff_ne.2 h
    refine refOp_j2 hp a0 a2 A a4 a5 l6 l7 n18 ?_
    rw [f 19 n19]
    refine Ev.step (f := fun k => jvmcoreref2_operand.j3 k l1 (tagV l1 A) (nameV l1 A) op false a0 op a2 A a4 a5 l6 l7) (fun k => ?_) ?_
    · simp only [jvmcoreref2_operand.j2]; rw [if_neg (by simp), if_neg n20, if_neg n178, if_neg n179, if_neg n180, f 181 n181]
    refine Ev.step (f := fun k => jvmcoreref2_operand.j4 k l1 (tagV l1 A) (nameV l1 A) op false a0 op a2 A a4 a5 l6 l7) (fun k => ?_) ?_
    · simp only [jvmcoreref2_operand.j3]; rw [if_neg (by simp), if_neg n182, if_neg n183, f 184 n184]
    refine Ev.step (f := fun k => jvmcoreref2_operand.j5 k (tagV l1 A) (nameV l1 A) op false a0 op a2 A a4 a5 l6 l7) (fun k => ?_) ?_
    · simp only [jvmcoreref2_operand.j4]; rw [if_neg (by simp), if_neg n185, if_neg n187, if_neg n189, if_neg n192, f 193 n193]
    refine Ev.step (f := fun _ => some true) (fun k => ?_) (Ev.now _)
    simp only [jvmcoreref2_operand.j5]; rw [if_neg (by simp), if_neg n197]
theorem operand_ev (op : Int) : ∃ b, Ev (fun k => code_operand.f k a0 op a2 A a4 a5 l6 l7 l1) b ∧ Ev (fun k => jvmcoreref2_operand.f k a0 op a2 A a4 a5 l6 l7 l1) b := by
  by_cases n18 : op = 18
  · subst n18; exact op_18 hp a0 a2 A a4 a5 l6 l7
  by_cases n19 : op = 19
  · subst n19; exact op_19 hp a0 a2 A a4 a5 l6 l7
  by_cases n20 : op = 20
  · subst n20; exact op_20 hp a0 a2 A a4 a5 l6 l7
  by_cases n178 : op = 178
  · subst n178; exact op_178 hp a0 a2 A a4 a5 l6 l7
  by_cases n179 : op = 179
  · subst n179; exact op_179 hp a0 a2 A a4 a5 l6 l7
  by_cases n180 : op = 180
  · subst n180; exact op_180 hp a0 a2 A a4 a5 l6 l7
  by_cases n181 : op = 181
  · subst n181; exact op_181 hp a0 a2 A a4 a5 l6 l7
  by_cases n182 : op = 182
  · subst n182; exact op_182 hp a0 a2 A a4 a5 l6 l7
  by_cases n183 : op = 183
  · subst n183; exact op_183 hp a0 a2 A a4 a5 l6 l7
  by_cases n184 : op = 184
  · subst n184; exact op_184 hp a0 a2 A a4 a5 l6 l7
  by_cases n185 : op = 185
  · subst n185; exact op_185 hp a0 a2 A a4 a5 l6 l7
  by_cases n187 : op = 187
  · subst n187; exact op_187 hp a0 a2 A a4 a5 l6 l7
  by_cases n189 : op = 189
  · subst n189; exact op_189 hp a0 a2 A a4 a5 l6 l7
  by_cases n192 : op = 192
  · subst n192; exact op_192 hp a0 a2 A a4 a5 l6 l7
  by_cases n193 : op = 193
  · subst n193; exact op_193 hp a0 a2 A a4 a5 l6 l7
  by_cases n197 : op = 197
  · subst n197; exact op_197 hp a0 a2 A a4 a5 l6 l7
  exact op_other hp a0 a2 A a4 a5 l6 l7 op n18 n19 n20 n178 n179 n180 n181 n182 n183 n184 n185 n187 n189 n192 n193 n197
end
end Go.Proofs.YtfnjbmpolggdeaaDoor.CC
end
section
namespace Go.Proofs.YtfnjbmpolggdeaaDoor.CC
open Go.RowKit Go.Proofs.YtfnjbmpolggdeaaDoorW.PrintWords
set_option linter.unusedVariables false
set_option linter.unusedSimpArgs false
set_option maxRecDepth 100000
def okI (x : S47) : Prop := (0 ≤ x.f1 ∧ x.f1 < 256) ∧ x.f6.length ≤ 1048576 ∧ x.f7.length ≤ 1048576
theorem rd47_at {l0 : List S47} {i : Nat} (h : i < l0.length) : rd_T47 l0 (i : Int) = l0[i] := by
  unfold rd_T47
  rw [List.getD_eq_getElem?_getD, Int.toNat_natCast, List.getElem?_eq_getElem h]; rfl
section
variable {l0 : List S47} (hl : l0.length ≤ 1048576) (ho : ∀ x ∈ l0, okI x)
include hl ho
theorem weight_l0 : ∀ (d i : Nat), i ≤ l0.length → l0.length - i = d → ∀ m : Int, 0 ≤ m → m ≤ 1048576 → ∃ n : Int, Ev (fun k => jvmcorelaw2_weight.l0 k m l0 (l0.length : Int) (i : Int)) n ∧ 0 ≤ n ∧ n ≤ 4000000 := by
  intro d
  induction d with
  | zero =>
    intro i hi hd m h0 h1
    refine ⟨m, Ev.step (f := fun _ => some m) (fun k => ?_) (Ev.now _), h0, by omega⟩
    simp only [jvmcorelaw2_weight.l0]; rw [if_neg (by omega)]
  | succ d ih =>
    intro i hi hd m h0 h1
    have hlt : i < l0.length := by omega
    obtain ⟨_, h6, h7⟩ := ho _ (List.getElem_mem hlt)
    have e1 : wrap64 ((l0[i].f6.length : Int) + (l0[i].f7.length : Int)) = (l0[i].f6.length : Int) + (l0[i].f7.length : Int) := wr (by omega) (by omega)
    have e2 : wrap64 (m + ((l0[i].f6.length : Int) + (l0[i].f7.length : Int))) = m + ((l0[i].f6.length : Int) + (l0[i].f7.length : Int)) := wr (by omega) (by omega)
    by_cases c : m + ((l0[i].f6.length : Int) + (l0[i].f7.length : Int)) > 32768
    · refine ⟨m + ((l0[i].f6.length : Int) + (l0[i].f7.length : Int)), Ev.step (f := fun _ => some (m + ((l0[i].f6.length : Int) + (l0[i].f7.length : Int)))) (fun k => ?_) (Ev.now _), by omega, by omega⟩
      simp only [jvmcorelaw2_weight.l0]
      rw [if_pos (by omega), if_pos (by omega), if_pos (by omega), rd47_at hlt, e1, e2, if_pos c]
    · obtain ⟨n, g, hn⟩ := ih (i + 1) (by omega) (by omega) (m + ((l0[i].f6.length : Int) + (l0[i].f7.length : Int))) (by omega) (by omega)
      refine ⟨n, Ev.step (fun k => ?_) g, hn⟩
      simp only [jvmcorelaw2_weight.l0]
      rw [if_pos (by omega), if_pos (by omega), if_pos (by omega), rd47_at hlt, e1, e2, if_neg c, wr_succ (by omega)]
theorem twin_l0 : ∀ (d i : Nat), i ≤ l0.length → l0.length - i = d → Ev (fun k => jvmcorelaw2_twin.l0 k (l0.take i) l0 (l0.length : Int) (i : Int)) l0 := by
  intro d
  induction d with
  | zero =>
    intro i hi hd
    obtain rfl : i = l0.length := by omega
    refine Ev.step (f := fun _ => some l0) (fun k => ?_) (Ev.now _)
    simp only [jvmcorelaw2_twin.l0]; rw [if_neg (by omega), List.take_length]
  | succ d ih =>
    intro i hi hd
    have hlt : i < l0.length := by omega
    obtain ⟨_, h6, h7⟩ := ho _ (List.getElem_mem hlt)
    refine Ev.step (fun k => ?_) (ih (i + 1) (by omega) (by omega))
    simp only [jvmcorelaw2_twin.l0]
    rw [if_pos (by omega), if_pos (by omega), if_pos (by omega), rd47_at hlt, if_pos (by simp; omega), if_pos (by simp; omega), if_pos (by rw [List.length_take]; omega), wr_succ (by omega), List.take_succ_eq_append_getElem hlt]
    rfl
theorem check_l0 {l1 : List S39} (hp : okP l1) (x1 : Int) (h1 : -9223372036854775808 ≤ x1) (h2 : x1 < 9223372036854775808) : ∀ (d i : Nat), i ≤ l0.length → l0.length - i = d →
    ∃ r : Int × Int, Ev (fun k => code_Check.l0 k l1 x1 l0 (l0.length : Int) (i : Int)) r ∧ Ev (fun k => jvmcoreref2_Check.l0 k l1 x1 l0 (l0.length : Int) (i : Int)) r := by
  intro d
  induction d with
  | zero =>
    intro i hi hd
    refine ⟨(0, 0), Ev.step (f := fun _ => some (0, 0)) (fun k => ?_) (Ev.now _), Ev.step (f := fun _ => some (0, 0)) (fun k => ?_) (Ev.now _)⟩
    · simp only [code_Check.l0]; rw [if_neg (by omega)]
    · simp only [jvmcoreref2_Check.l0]; rw [if_neg (by omega)]
  | succ d ih =>
    intro i hi hd
    have hlt : i < l0.length := by omega
    obtain ⟨⟨g0, g1⟩, h6, h7⟩ := ho _ (List.getElem_mem hlt)
    have hr := rd47_at hlt
    generalize hx : l0[i] = x at *
    have hn : ((x.f1.toNat : Nat) : Int) = x.f1 := by omega
    have r1 := room_ev (n := x.f1.toNat) (by omega) x.f0 x.f2 x.f3 x.f4 x.f5 x.f6 x.f7 x1 h1 h2
    have r2 := refroom_ev (n := x.f1.toNat) (by omega) x.f0 x.f2 x.f3 x.f4 x.f5 x.f6 x.f7 x1 h1 h2
    rw [hn] at r1 r2
    obtain ⟨b, o1, o2⟩ := operand_ev hp x.f0 x.f2 x.f3 x.f4 x.f5 x.f6 x.f7 x.f1
    obtain ⟨r, e1, e2⟩ := ih (i + 1) (by omega) (by omega)
    have s1 : ∀ k, code_Check.l0 (k + 1) l1 x1 l0 (l0.length : Int) (i : Int) = (code_room.f k x.f0 x.f1 x.f2 x.f3 x.f4 x.f5 x.f6 x.f7 x1).bind fun t => if t = true then (code_operand.f k x.f0 x.f1 x.f2 x.f3 x.f4 x.f5 x.f6 x.f7 l1).bind fun t => (if t = true then code_Check.l0 k l1 x1 l0 (l0.length : Int) ((i + 1 : Nat) : Int) else some (15, x.f0)) else some (15, x.f0) := fun k => by
      simp only [code_Check.l0]
      rw [if_pos (by omega), if_pos (by omega), if_pos (by omega), hr, wr_succ (by omega)]
    have s2 : ∀ k, jvmcoreref2_Check.l0 (k + 1) l1 x1 l0 (l0.length : Int) (i : Int) = (jvmcoreref2_room.f k x.f0 x.f1 x.f2 x.f3 x.f4 x.f5 x.f6 x.f7 x1).bind fun t => if t = true then (jvmcoreref2_operand.f k x.f0 x.f1 x.f2 x.f3 x.f4 x.f5 x.f6 x.f7 l1).bind fun t => (if t = true then jvmcoreref2_Check.l0 k l1 x1 l0 (l0.length : Int) ((i + 1 : Nat) : Int) else some (15, x.f0)) else some (15, x.f0) := fun k => by
      simp only [jvmcoreref2_Check.l0]
      rw [if_pos (by omega), if_pos (by omega), if_pos (by omega), hr, wr_succ (by omega)]
    cases hv : roomV x.f1.toNat x.f3 x1 with
    | false =>
      rw [hv] at r1 r2
      exact ⟨(15, x.f0), Ev.step s1 (Ev.bind r1 (Ev.no (by simp) (Ev.now _))), Ev.step s2 (Ev.bind r2 (Ev.no (by simp) (Ev.now _)))⟩
    | true =>
      rw [hv] at r1 r2
      cases b with
      | false => exact ⟨(15, x.f0), Ev.step s1 (Ev.bind r1 (Ev.yes rfl (Ev.bind o1 (Ev.no (by simp) (Ev.now _))))), Ev.step s2 (Ev.bind r2 (Ev.yes rfl (Ev.bind o2 (Ev.no (by simp) (Ev.now _)))))⟩
      | true => exact ⟨r, Ev.step s1 (Ev.bind r1 (Ev.yes rfl (Ev.bind o1 (Ev.yes rfl e1)))), Ev.step s2 (Ev.bind r2 (Ev.yes rfl (Ev.bind o2 (Ev.yes rfl e2))))⟩
omit hl ho in
theorem sameInts_ev (l : List Int) (hl : l.length ≤ 1048576) : Ev (fun k => jvmcorelaw2_sameInts.f k l l) true := by
  have key : ∀ (d i : Nat), i ≤ l.length → l.length - i = d → Ev (fun k => jvmcorelaw2_sameInts.l0 k l l (l.length : Int) (i : Int)) true := by
    intro d
    induction d with
    | zero =>
      intro i hi hd
      refine Ev.step (f := fun _ => some true) (fun k => ?_) (Ev.now _)
      simp only [jvmcorelaw2_sameInts.l0]; rw [if_neg (by omega)]
    | succ d ih =>
      intro i hi hd
      refine Ev.step (fun k => ?_) (ih (i + 1) (by omega) (by omega))
      simp only [jvmcorelaw2_sameInts.l0]
      rw [if_pos (by omega), if_pos (by omega), if_pos (by omega), if_pos (by omega), if_pos trivial, wr_succ (by omega)]
  unfold jvmcorelaw2_sameInts.f
  exact Ev.yes rfl (key _ 0 (Nat.zero_le _) rfl)
theorem same_ev : Ev (fun k => jvmcorelaw2_same.f k l0 l0) true := by
  have key : ∀ (d i : Nat), i ≤ l0.length → l0.length - i = d → Ev (fun k => jvmcorelaw2_same.l0 k l0 l0 (l0.length : Int) (i : Int)) true := by
    intro d
    induction d with
    | zero =>
      intro i hi hd
      refine Ev.step (f := fun _ => some true) (fun k => ?_) (Ev.now _)
      simp only [jvmcorelaw2_same.l0]; rw [if_neg (by omega)]
    | succ d ih =>
      intro i hi hd
      have hlt : i < l0.length := by omega
      obtain ⟨_, h6, h7⟩ := ho _ (List.getElem_mem hlt)
      refine Ev.step (f := fun k => (jvmcorelaw2_sameInts.f k l0[i].f6 l0[i].f6).bind fun t => if t = true then (jvmcorelaw2_sameInts.f k l0[i].f7 l0[i].f7).bind fun t => (if t = true then jvmcorelaw2_same.l0 k l0 l0 (l0.length : Int) ((i + 1 : Nat) : Int) else some false) else some false) (fun k => ?_)
        (Ev.bind (sameInts_ev _ h6) (Ev.yes rfl (Ev.bind (sameInts_ev _ h7) (Ev.yes rfl (ih (i + 1) (by omega) (by omega))))))
      simp only [jvmcorelaw2_same.l0]
      rw [if_pos (by omega), if_pos (by omega), if_pos (by omega), if_pos (by omega), if_pos trivial, if_pos trivial, if_neg (by simp), if_pos trivial, if_pos trivial, if_pos trivial, rd47_at hlt, wr_succ (by omega)]
  have hg : Ev (fun k => jvmcorelaw2_same.g k l0 l0) true := by
    unfold jvmcorelaw2_same.g
    exact Ev.yes rfl (key _ 0 (Nat.zero_le _) rfl)
  obtain ⟨K, hK⟩ := hg
  refine ⟨K, fun k hk => ?_⟩
  show jvmcorelaw2_same.f k l0 l0 = some true
  unfold jvmcorelaw2_same.f
  rw [if_pos (hK k hk)]
theorem checks_l0 {l1 : List S39} (h1 : l1.length ≤ 1048576) (e a : Int) : ∀ (d i : Nat), i ≤ l1.length → l1.length - i = d → Ev (fun k => jvmcorelaw2_CodeChecks.l0 k l0 l1 l0 l1 e a e a (l1.length : Int) (i : Int)) true := by
  intro d
  induction d with
  | zero =>
    intro i hi hd
    refine Ev.step (f := fun k => (jvmcorelaw2_same.f k l0 l0).bind fun t => some t) (fun k => ?_) (Ev.bind (same_ev hl ho) (Ev.now _))
    simp only [jvmcorelaw2_CodeChecks.l0]; rw [if_neg (by omega), if_pos trivial, if_pos trivial]
  | succ d ih =>
    intro i hi hd
    refine Ev.step (fun k => ?_) (ih (i + 1) (by omega) (by omega))
    simp only [jvmcorelaw2_CodeChecks.l0]
    rw [if_pos (by omega), if_pos (by omega), if_pos (by omega), if_pos (by omega), if_neg (by simp), wr_succ (by omega)]
end
theorem checks (l0 : List S47) (l1 : List S39) (a2 : Int) (hl : l0.length ≤ 1048576) (ho : ∀ x ∈ l0, okI x) (hl1 : l1.length ≤ 1048576) (ho1 : ∀ c ∈ l1, okC39 c) (h1 : -9223372036854775808 ≤ a2) (h2 : a2 < 9223372036854775808) : ∃ k, jvmcorelaw2_CodeChecks.f k l0 l1 a2 = some true := by
  refine Ev.rounds (g := fun k => jvmcorelaw2_CodeChecks.f k l0 l1 a2) ?_
  obtain ⟨n, hn, hn0, hn1⟩ := weight_l0 hl ho _ 0 (Nat.zero_le _) rfl (l0.length : Int) (by omega) (by omega)
  unfold jvmcorelaw2_CodeChecks.f
  refine Ev.bind (a := n) hn ?_
  rw [wr (x := n + (l1.length : Int)) (by omega) (by omega)]
  by_cases c : n + (l1.length : Int) > 32768
  · exact Ev.yes c (Ev.now _)
  refine Ev.no c ?_
  have hp : okP l1 := ⟨by omega, ho1⟩
  have ht := twin_l0 hl ho _ 0 (Nat.zero_le _) rfl
  obtain ⟨r, e1, e2⟩ := check_l0 hl ho hp a2 h1 h2 _ 0 (Nat.zero_le _) rfl
  refine Ev.bind (a := l0) ht (Ev.yes (by simp; omega) ?_)
  simp only [List.nil_append, Option.bind_some]
  exact Ev.bind (a := r) e1 (Ev.bind (a := r) e2 (checks_l0 hl ho hl1 r.1 r.2 _ 0 (Nat.zero_le _) rfl))
end Go.Proofs.YtfnjbmpolggdeaaDoor.CC
end
section
namespace Go.Proofs.YtfnjbmpolggdeaaDoor.codeChecks
open Go.ChangeShapes Go.WideShapes Go.ChangeAt Go.RowKit Go.Proofs.YtfnjbmpolggdeaaDoorW.PrintWords
open Go.Proofs.YtfnjbmpolggdeaaDoor.CC
set_option linter.unusedVariables false
theorem own : ownKnob Tryd.prog.godebug = none := by kernel_rfl
theorem laidOut : laidOutB Tryd.prog = true := by kernel_rfl
instance : Inhabited S47 := ⟨z47⟩
instance : Inhabited S39 := ⟨z39⟩
def R : Nat := 1048576
set_option maxRecDepth 100000 in
theorem opens39 : Opens Tryd.prog R k39 39 (fun x => okC39 x) := by
  refine Opens.imp (opens_struct Tryd.underlying39 (by kernel_rfl) (l := [(5, 0), (9, 1), (36, 2), (37, 3), (37, 4)]) (by kernel_rfl)
    (opensF_iso (fun p : Int × ByteArray × Int × Int × Int => (⟨p.1, p.2.1, p.2.2.1, p.2.2.2.1, p.2.2.2.2⟩ : S39)) (fun _ => rfl)
      (opensF_pair (by kernel_rfl) (opens_int Tryd.underlying5) (opensF_pair (by kernel_rfl) (opens_string Tryd.underlying9) (opensF_pair (by kernel_rfl) (opens_int Tryd.underlying36) (opensF_pair (by kernel_rfl) (opens_int Tryd.underlying37) (opensF_one (by kernel_rfl) (opens_int Tryd.underlying37)))))))) ?_
  rintro x ⟨h0, h1, h2, h3, h4⟩
  have g3 : (Lit.int IntKind.u16 x.f3).wf = true := h3
  have g4 : (Lit.int IntKind.u16 x.f4).wf = true := h4
  simp [Lit.wf, IntKind.min, IntKind.max, IntKind.bits, IntKind.signed] at g3 g4
  exact ⟨by omega, by omega, h1⟩
set_option maxRecDepth 100000 in
theorem opens47 : Opens Tryd.prog R k47 47 (fun x => okI x) := by
  refine Opens.imp (opens_struct Tryd.underlying47 (by kernel_rfl) (l := [(3, 0), (5, 1), (4, 2), (3, 3), (3, 4), (3, 5), (45, 6), (45, 7)]) (by kernel_rfl)
    (opensF_iso (fun p : Int × Int × Bool × Int × Int × Int × List Int × List Int => (⟨p.1, p.2.1, p.2.2.1, p.2.2.2.1, p.2.2.2.2.1, p.2.2.2.2.2.1, p.2.2.2.2.2.2.1, p.2.2.2.2.2.2.2⟩ : S47)) (fun _ => rfl)
      (opensF_pair (by kernel_rfl) (opens_int Tryd.underlying3) (opensF_pair (by kernel_rfl) (opens_int Tryd.underlying5) (opensF_pair (by kernel_rfl) (opens_bool Tryd.underlying4) (opensF_pair (by kernel_rfl) (opens_int Tryd.underlying3) (opensF_pair (by kernel_rfl) (opens_int Tryd.underlying3) (opensF_pair (by kernel_rfl) (opens_int Tryd.underlying3)
        (opensF_pair (by kernel_rfl) (opens_slice Tryd.underlying45 (by kernel_rfl) (of_decide_eq_true (by kernel_rfl)) (opens_int Tryd.underlying3)) (opensF_one (by kernel_rfl) (opens_slice Tryd.underlying45 (by kernel_rfl) (of_decide_eq_true (by kernel_rfl)) (opens_int Tryd.underlying3)))))))))))) ?_
  rintro x ⟨h0, h1, h2, h3, h4, h5, h6, h7⟩
  have g1 : (Lit.int IntKind.u8 x.f1).wf = true := h1
  simp [Lit.wf, IntKind.min, IntKind.max, IntKind.bits, IntKind.signed] at g1
  exact ⟨by omega, h6.1, h7.1⟩
set_option maxRecDepth 100000 in
theorem lifted (os : Os) (started : os.Started) (H : Type) (enc : TypeId × Value → H) (F : Stop.Interp) :
    ReturnsInHanded {} Tryd.checked os 5 .any (fun w args => ((Rows.OpenSpec.upto Rows.codeChecksSpec).pre enc Tryd.prog Tryd.f5 Rows.codeChecksUptoRow.domain false w args ∧ laidMetH Tryd.prog Rows.codeChecksUptoRow.laid w) ∧ sizedMet enc Tryd.prog Tryd.f5 (Rows.OpenSpec.upto Rows.codeChecksSpec) false w args)
      (((Rows.OpenSpec.upto Rows.codeChecksSpec).at F).post enc Tryd.prog Tryd.f5 false true false false) := by
  refine returnsInHanded_of_cond_laid (C := Tryd.checked) (s := Rows.OpenSpec.upto Rows.codeChecksSpec) (k := Rows.uptoSmall) rfl (X := fun w => laidMetH Tryd.prog Rows.codeChecksUptoRow.laid w) (fun _ _ hh h => h.of_heap hh) own started (by kernel_rfl) Tryd.func5
    (witness_laid (enc := enc) (C := Tryd.checked) (os := os) (s := Rows.OpenSpec.upto Rows.codeChecksSpec) (k := Rows.uptoSmall) rfl (X := fun w => laidMetH Tryd.prog Rows.codeChecksUptoRow.laid w) false (World.laidAll Tryd.prog os Rows.codeChecksUptoRow.laid) #[.slice none 0 0, .slice none 0 0, .int .i64 0] 8 (World.laidAll_os _ _ _)
      (World.shaped_of_ZipB (by kernel_rfl) (by kernel_rfl)) (by kernel_rfl) (x := ([.nil, .nil, .lit (.int .i64 0)], [], [])) (by kernel_rfl) rfl (by kernel_rfl) (by kernel_rfl)
      (by rw [MakeChecks.laidMetH_plain _ _ _ (by kernel_rfl)]; exact laidMet_laidAll _ (by kernel_rfl) (by kernel_rfl))) ?_
  intro W base args ds gs before hval0 hW hcnd hk hL _
  have hval : ∀ (j : Nat) t v, Tryd.f5.params[j]? = some t → args[j]? = some v → Value.okWide Tryd.prog W .any base t v := hval0
  have hW' := hW
  obtain ⟨p, q, hA0, hV, rfl, hfz, hnd⟩ := hW
  have hA : DataW.TrodAll enc Tryd.prog W 0 (fun _ => true) true Tryd.f5.params.toList args.toList ds p := hA0
  rw [Tryd.params5] at hA hval
  obtain ⟨v0, vs0, d0, ds0, p0, q0, hargs, rfl, rfl, h0, r0⟩ := trodAll_cons hA
  obtain ⟨v1, vs1, d1, ds1, p1, q1, rfl, rfl, rfl, h1, r1⟩ := trodAll_cons r0
  obtain ⟨v2, vs2, d2, ds2, p2, q2, rfl, rfl, rfl, h2, r2⟩ := trodAll_cons r1
  obtain ⟨rfl, rfl, rfl⟩ := trodAll_nil r2
  obtain rfl : args = #[v0, v1, v2] := by cases args; simp_all
  obtain ⟨rfl, rfl⟩ := trodVars_none hV
  have hb : Rows.uptoBulkAll (d0 :: d1 :: d2 :: []) ≤ R := of_decide_eq_true hk
  simp only [Rows.uptoBulkAll] at hb
  obtain ⟨a0, len0, cap0, rfl⟩ := okWide_slice Tryd.underlying29 (hval 0 29 v0 rfl rfl)
  obtain ⟨a1, len1, cap1, rfl⟩ := okWide_slice Tryd.underlying30 (hval 1 30 v1 rfl rfl)
  obtain ⟨n2, rfl, rfl, rfl, w2⟩ := open_int Tryd.underlying3 (hval 2 3 v2 rfl rfl) h2
  have k0 := h0
  have k1 := h1
  have lt0 : ∀ x ∈ p0, x.block < W.heap.size := by obtain ⟨m, hm⟩ := k0; exact DataW.trod_lt m _ _ _ hm
  have lt1 : ∀ x ∈ p1, x.block < W.heap.size := by obtain ⟨m, hm⟩ := k1; exact DataW.trod_lt m _ _ _ hm
  obtain ⟨fuel0, hf0⟩ := h0
  obtain ⟨fuel1, hf1⟩ := h1
  obtain ⟨l0, ⟨hl0, ho0⟩, A0, c0, e0, hc0, hr0⟩ := opens_slice (R := R) Tryd.underlying29 (by kernel_rfl) (of_decide_eq_true (by kernel_rfl)) opens47 H _ (bounded_bulk Tryd.prog H R) enc W 0 _ true fuel0 _ _ hf0 (by show Rows.uptoBulk d0 ≤ R; omega)
  obtain ⟨l1, ⟨hl1, ho1⟩, A1, c1, e1, hc1, hr1⟩ := opens_slice (R := R) Tryd.underlying30 (by kernel_rfl) (of_decide_eq_true (by kernel_rfl)) opens39 H _ (bounded_bulk Tryd.prog H R) enc W 0 _ true fuel1 _ _ hf1 (by show Rows.uptoBulk d1 ≤ R; omega)
  simp [Value.cells] at e0 e1
  obtain ⟨rfl, rfl, rfl⟩ := e0
  obtain ⟨rfl, rfl, rfl⟩ := e1
  simp [Lit.wf, IntKind.min, IntKind.max, IntKind.bits, IntKind.signed] at w2
  obtain ⟨k, hk2⟩ := checks l0 l1 n2 hl0 ho0 hl1 ho1 (by omega) (by omega)
  clear hA0 hval0
  refine (jvmcorelaw2_CodeChecks.calls k _ _ l0 _ _ l1 n2 true W hr0 hc0 hr1 hc1 hk2).mono fun e W' ⟨he, bel⟩ => ?_
  subst he
  exact ⟨_, rfl, _, _, _, [], _, [], hW', trodAll_mk1 (shut_bool Tryd.underlying4 _), (trodAll_cons_mk (Below.trod laidOut (by kernel_rfl) (of_decide_eq_true (by kernel_rfl)) k0 bel lt0) (trodAll_cons_mk (Below.trod laidOut (by kernel_rfl) (of_decide_eq_true (by kernel_rfl)) k1 bel lt1) (trodAll_cons_mk (shut_int Tryd.underlying3 (by simp [Lit.wf, IntKind.min, IntKind.max, IntKind.bits, IntKind.signed]; omega)) trodAll_mk0))), rfl, bel.frame _, fun h => by cases h⟩
theorem proved : Rows.CodeChecksUptoSaid :=
  OpenClaim.holds_of_cond 5 Tryd.f5 rfl rfl rfl rfl rfl rfl rfl ⟨rfl, rfl, rfl, rfl, rfl⟩ rfl rfl rfl rfl rfl (by kernel_rfl) Tryd.func5 (by kernel_rfl)
    (of_decide_eq_true (by kernel_rfl)) (by unfold Func.isWrapper; first | (rw [if_pos (by decide +kernel)]; kernel_rfl) | (rw [if_neg (by decide +kernel)]; exact ⟨rfl, rfl⟩))
    (fun os started H enc _ F => lifted os started H enc F)
theorem card : Rows.CodeChecksUptoCardSaid :=
  Claim7.holds_tied_plain_at .later [] [.data, .pinned] true (true, "3147cb57728c31bbf82341472f7ffe96e83356e3e1353c735ae99fe168702509") false proved (fun _ h => by cases h) (by kernel_rfl) (fun _ h => by cases h) codeChecksUpto_row_tie rfl ⟨rfl, rfl⟩ (by kernel_rfl) rfl
    (fun f fn hf hfn => by
      obtain rfl : f = 5 := Option.some.inj ((show Tryd.prog.funcNamed Rows.codeChecksUptoRow.func = some 5 by kernel_rfl).symm.trans hf) |>.symm
      obtain rfl : fn = Tryd.f5 := (Option.some.inj (Tryd.func5.symm.trans hfn)).symm
      exact ⟨by kernel_rfl, fun j t ht => by
        rw [Tryd.params5] at ht
        have hm : t ∈ [29, 30, 3] := by
          have := Array.mem_of_getElem? ht
          simpa [or_comm] using this
        have hall : ([29, 30, 3].all fun u => !Tryd.prog.wantsStandIn u) = true := by kernel_rfl
        exact (show Tryd.prog.wantsStandIn t = false by simpa using List.all_eq_true.1 hall t hm)⟩)
    (by kernel_rfl)
end Go.Proofs.YtfnjbmpolggdeaaDoor.codeChecks
namespace Go.Proofs.YtfnjbmpolggdeaaDoor
theorem codeChecks_upto_card_holds : Rows.CodeChecksUptoCardSaid := codeChecks.card
end Go.Proofs.YtfnjbmpolggdeaaDoor
end
#print axioms Go.Proofs.YtfnjbmpolggdeaaDoor.codeChecks_upto_card_holds
