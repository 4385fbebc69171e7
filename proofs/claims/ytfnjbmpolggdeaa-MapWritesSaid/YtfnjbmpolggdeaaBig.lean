/-
  pool.Big and jvmcoreref1.Big: a number as bytes; arms for rows that may bear a mark.
-/
import Derived.Test.YtfnjbmpolggdeaaProg
import Derived.Test.YtfnjbmpolggdeaaMark
import Derived.Deep.RegionHeld3
import Derived.OwnWalk
namespace Go.Proofs.Ytfnjbmpolggdeaa
open Go.RowKit Go.Lib
set_option linter.unusedVariables false
set_option linter.unusedSimpArgs false

/-- the n lowest bytes of a number, the highest first. -/
def bigB (x : Nat) : Nat → List Nat
  | 0 => []
  | n + 1 => bigB (x / 256) n ++ [x % 256]
theorem bigB_length (n : Nat) : ∀ x, (bigB x n).length = n := by
  induction n with
  | zero => intro x; rfl
  | succ n ih => intro x; simp [bigB, ih]
theorem bigB_lt (n : Nat) : ∀ x, ∀ b ∈ bigB x n, b < 256 := by
  induction n with
  | zero => intro x b hb; simp [bigB] at hb
  | succ n ih =>
    intro x b hb
    simp only [bigB, List.mem_append, List.mem_singleton] at hb
    rcases hb with hb | rfl
    · exact ih _ b hb
    · omega
theorem bigB_get (n : Nat) : ∀ x k, k < n → (bigB x n)[k]? = some (x / 2 ^ (8 * (n - 1 - k)) % 256) := by
  induction n with
  | zero => intro x k hk; omega
  | succ n ih =>
    intro x k hk
    simp only [bigB]
    by_cases h : k < n
    · rw [List.getElem?_append_left (by rw [bigB_length]; exact h), ih _ k h]
      have e : 8 * (n + 1 - 1 - k) = 8 + 8 * (n - 1 - k) := by omega
      rw [e, Nat.pow_add, ← Nat.div_div_eq_div_mul]
    · obtain rfl : k = n := by omega
      rw [List.getElem?_append_right (by rw [bigB_length]; exact Nat.le_refl _), bigB_length]
      simp

theorem strCells_sb {l : List Nat} (h : ∀ x ∈ l, x < 256) : strCells (sb l) = u8s l := by
  unfold strCells u8s sb
  simp only [List.map_map]
  refine List.map_congr_left fun x hx => ?_
  simp [Nat.mod_eq_of_lt (h x hx)]
theorem strCells_bs (s : ByteArray) : strCells s = u8s (bs s) := by
  unfold strCells u8s bs; rw [List.map_map]; rfl

section
variable {P : Program} {w w0 : World}
/-- append(v, x...) at a row that may bear a mark: for the walk. -/
theorem app_m {w1 : World} {ops : Array Oper} {rest : List Oper} {o : Oper} {a : Act} {Q : Exit → Act → World → Prop} (hgd : o.guard = none) (s x : Operand) (t : TypeId)
    (ho : o.op = .call { callee := .builtin .append, args := #[s, x], argTypes := #[t, t] })
    (e : TypeId) (z : Value) (bytes : Nat) (ht : P.underlying t = some (.slice e)) (hI : (P.info? e).map (fun i => (i.zero, i.size, i.bytes)) = some (some z, 1, bytes)) (hzs : z.cells.size = 1)
    (B base : Nat) (hbel : Below B w0 w) {v : Value} {n : Nat} {xs : List Value} (hown : mrow w base e v n xs) (hs : a.eval s = v)
    (m : Nat) (cs : List Value) (hcs : cs.length = m) (h1 : ∀ u ∈ cs, u.oneCell' = true) (cap : Nat) (hx : a.eval x = .slice (some ⟨w.heap.size, 0, none⟩) m cap)
    (hn : (n + m) * bytes ≤ 140737488355328) (hn2 : n + m ≤ 9223372036854775807) (hbase : base ≤ w.heap.size) (hB : B ≤ base)
    (h : ∀ v' w', mrow w' base e v' (n + m) (xs ++ cs) → Below B w0 w' → w.grownBy w' v.ownBlock → (∀ q, q < w.heap.size → v.ownBlock ≠ some q → v'.ownBlock ≠ some q) → wpList P ops Q rest (a.put o.dst v') w') (hw1 : w1 = w.alloc (.cells cs.toArray e)) : wpList P ops Q (o :: rest) a w1 := by
  subst hw1
  obtain ⟨i, hi, hz, hsize, hby⟩ := info_parts hI
  have hown' : mrow (w.alloc (.cells cs.toArray e)) base e v n xs := hown.kept (row := none) (World.grownBy_alloc w _ none) (by cases v.ownBlock <;> simp)
  obtain ⟨v', w', hr, h2, h3, h4⟩ := run_append_mrow (P := P) base t o.type e i z bytes ht hi hz hsize hby hzs v n xs hown' ⟨w.heap.size, 0, none⟩ m cap cs hcs cells_new h1 (by unfold maxLen; omega) hn (by simp; omega)
  have hg : w.grownBy w' v.ownBlock := by
    have ha := World.grownBy_alloc w (.cells cs.toArray e) v.ownBlock
    refine ⟨h3.os.trans ha.os, h3.tape.trans ha.tape, h3.output.trans ha.output, Nat.le_trans ha.size h3.size, fun k hk hne => ?_⟩
    rw [h3.block k (by simp; omega) hne, ha.block k hk hne]
  refine wpList_plain hgd fun K hK => ?_
  unfold Oper.wp execOp
  simp only [ho, resolve, invoke, builtin, Sem.run_bind, Sem.run_pure, Result.andThen_ok, List.map_toArray, List.map_cons, List.map_nil, hs, hx, hr]
  have hsz' := hbel.size
  refine hK _ _ (h v' w' h2 ?_ hg (fun q hq hne => by rcases h4 with h4 | h4 <;> rw [h4] <;> first | exact hne | (simp; omega)))
  refine ⟨hg.os.trans hbel.os, hg.tape.trans hbel.tape, hg.output.trans hbel.output, Nat.le_trans hbel.size hg.size, fun k hk => ?_⟩
  rw [hg.block k (by omega) (fun hk2 => by have := (hown.ge k hk2.symm).1; omega), hbel.block k hk]

/-- append(v, s...), s a string. -/
theorem app_ms {ops : Array Oper} {rest : List Oper} {o : Oper} {a : Act} {Q : Exit → Act → World → Prop} (hgd : o.guard = none) (s x : Operand) (t u : TypeId)
    (ho : o.op = .call { callee := .builtin .append, args := #[s, x], argTypes := #[t, u] })
    (e : TypeId) (ht : P.underlying t = some (.slice e)) (hu : P.underlying u = some .string) (hI : (P.info? e).map (fun i => (i.zero, i.size, i.bytes)) = some (some (.int .u8 0), 1, 1))
    (B base : Nat) (hbel : Below B w0 w) {v : Value} {n : Nat} {xs : List Value} (hown : mrow w base e v n xs) (hs : a.eval s = v)
    (str : ByteArray) (hx : a.eval x = .string str)
    (hn : n + str.size ≤ 140737488355328) (hbase : base ≤ w.heap.size) (hB : B ≤ base)
    (h : ∀ v' w', mrow w' base e v' (n + str.size) (xs ++ u8s (bs str)) → Below B w0 w' → w.grownBy w' v.ownBlock → (∀ q, q < w.heap.size → v.ownBlock ≠ some q → v'.ownBlock ≠ some q) → wpList P ops Q rest (a.put o.dst v') w') : wpList P ops Q (o :: rest) a w := by
  obtain ⟨i, hi, hz, hsize, hby⟩ := info_parts hI
  obtain ⟨v', w', hr, h2, hg, h4⟩ := run_append_mrow_str (P := P) base t u o.type e i ht hu hi hz hsize hby v n xs hown str (by unfold maxLen; omega) hn hbase
  rw [strCells_bs] at h2
  refine wpList_plain hgd fun K hK => ?_
  unfold Oper.wp execOp
  simp only [ho, resolve, invoke, builtin, Sem.run_bind, Sem.run_pure, Result.andThen_ok, List.map_toArray, List.map_cons, List.map_nil, hs, hx, hr]
  have hsz' := hbel.size
  refine hK _ _ (h v' w' h2 ?_ hg (fun q hq hne => by rcases h4 with h4 | h4 <;> rw [h4] <;> first | exact hne | (simp; omega)))
  refine ⟨hg.os.trans hbel.os, hg.tape.trans hbel.tape, hg.output.trans hbel.output, Nat.le_trans hbel.size hg.size, fun k hk => ?_⟩
  rw [hg.block k (by omega) (fun hk2 => by have := (hown.ge k hk2.symm).1; omega), hbel.block k hk]

/-- b := []byte(s): a row that bears a mark. -/
theorem conv_bytes {ops : Array Oper} {rest : List Oper} {o : Oper} {a : Act} {Q : Exit → Act → World → Prop} (hgd : o.guard = none) (src dst : TypeId) (x : Operand)
    (ho : o.op = .convert src dst x) (e : TypeId) (hs : P.underlying src = some .string) (hd : P.underlying dst = some (.slice e)) (he : P.underlying e = some (.int .u8))
    (B : Nat) (hbel : Below B w0 w) (str : ByteArray) (hx : a.eval x = .string str) (hn : str.size ≤ 140737488355328) (hB : B ≤ w.heap.size)
    (h : ∀ v' w', mrow w' w.heap.size e v' str.size (u8s (bs str)) → Below B w0 w' → Below w.heap.size w w' → wpList P ops Q rest (a.put o.dst v') w') : wpList P ops Q (o :: rest) a w := by
  have hr := Lib.run_convert_string_bytes (P := P) w src dst e str (u := .string) hs hd he
  have hge := grownCap_ge w str.size 0 e
  have hcm : grownCap w str.size 0 e ≤ maxLen := grownCap_le_maxLen w str.size 0 e (by unfold maxLen; omega)
  have hcs : (Lib.bytesCells w e str).size = grownCap w str.size 0 e := by
    have : str.data.size = str.size := rfl
    simp [Lib.bytesCells, this]; omega
  have hrow : mrow (Lib.bytesWorld w e str) w.heap.size e (.slice (some ⟨w.heap.size, 0, none⟩) str.size (grownCap w str.size 0 e)) str.size (u8s (bs str)) := by
    refine ⟨by rw [u8s_length, bs_length], .inr ⟨w.heap.size, _, _, _, rfl, Nat.le_refl _, Lib.bytesWorld_at_new w e str, hge, hcm, hcs, ?_, .inr (by rw [hcs]; exact Nat.le_refl _)⟩⟩
    rw [← strCells_bs]
    have hl : (strCells str).length = str.size := strCells_length str
    have : (Lib.bytesCells w e str).toList = strCells str ++ List.replicate (grownCap w str.size 0 e - str.size) (.int .u8 0) := by
      simp [Lib.bytesCells, strCells]
    rw [this, ← hl]; exact List.take_left
  have hb : Below w.heap.size w (Lib.bytesWorld w e str) :=
    ⟨by simp [Lib.bytesWorld, World.freeze]; rfl, by simp [Lib.bytesWorld, World.freeze], by simp [Lib.bytesWorld, World.freeze]; rfl, by rw [Lib.bytesWorld_size]; omega, fun k hk => Lib.bytesWorld_at_old w e str k hk⟩
  refine wpList_plain hgd fun K hK => ?_
  unfold Oper.wp execOp
  simp only [ho, hx, Sem.run_bind, hr, Result.andThen_ok, Sem.run_pure]
  exact hK _ _ (h _ _ hrow (hbel.trans (hb.mono hB)) hb)
end

theorem Try.infoB : (Try.prog.info? 5).map (fun i => (i.zero, i.size, i.bytes)) = some (some (.int .u8 0), 1, 1) := by kernel_rfl

set_option maxHeartbeats 1000000 in
set_option maxRecDepth 100000 in
theorem Big_any (x n : Nat) (i : Int) (hi : i = x) (j : Int) (hj : j = n) (w : World) (hx : x < 18446744073709551616) (hn : n ≤ 8) :
    Calls Try.prog 56 #[.int .u64 i, .int .i64 j] w fun e w' => e = .returned (.string (sb (bigB x n))) ∧ Below w.heap.size w w' := by
  subst hi hj
  obtain ⟨i0, hi, hz0, hz1, hz2⟩ := info_parts Try.infoB
  go_enter Try.func56, Try.ntmps56
  go_wp2_with (with_reducible refine wpList_make_full _ rfl _ _ 87 rfl w.heap.size 5 i0 (.int .u8 0) 1 Try.underlying87 hi hz0 hz1 .i64 .i64 n n n rfl rfl rfl rfl (by rw [hz2]; omega) (by unfold maxLen; omega) (Nat.le_refl _) ?_; intro w1 hown hg1)
  have hb1 : Below w.heap.size w w1 := ⟨hg1.os, hg1.tape, hg1.output, hg1.size, fun k hk => hg1.block k hk (by simp)⟩
  have hown0 : w1.ownsRow w.heap.size 5 1 (.slice (some ⟨w.heap.size, 0, none⟩) n n) n (u8s ((bigB x n).take 0) ++ List.replicate (n - 0) (.int .u8 0)) := by
    have e : (madeCells (Value.int IntKind.u8 0).cells (n * 1)).toList = List.replicate n (.int .u8 0) := by rw [Nat.mul_one]; exact toList_madeCells_one _ _
    rw [e] at hown; simpa [u8s] using hown
  clear hown hg1
  go_loopw [11] (fun i wr => ∃ k : Nat, k ≤ n ∧ i = .int .i64 k ∧ wr.ownsRow w.heap.size 5 1 (.slice (some ⟨w.heap.size, 0, none⟩) n n) n (u8s ((bigB x n).take k) ++ List.replicate (n - k) (.int .u8 0)) ∧ Below w.heap.size w wr) (fun i _ => n - (intOf i).toNat)
  case atStart => exact ⟨0, by omega, rfl, hown0, hb1⟩
  case round =>
    obtain ⟨k, hk, rfl, hown, hbel⟩ := hrel
    by_cases hlt : k < n
    · have hlen : (u8s ((bigB x n).take k)).length = k := by rw [u8s_length, List.length_take, bigB_length]; omega
      have hc : wr.cell? ⟨w.heap.size, k, none⟩ = some (.int .u8 0) := by
        rw [hown.cellAt k (by omega), List.getElem?_append_right (by omega), hlen, Nat.sub_self, show n - k = (n - (k + 1)) + 1 by omega, List.replicate_succ]
        rfl
      have hf : wr.frozen? ⟨w.heap.size, k, none⟩ = false := hown.frozenAt k
      obtain ⟨u, hu⟩ : ∃ u, u = x / 2 ^ (8 * (n - 1 - k)) % 256 := ⟨_, rfl⟩
      have hst := hown.stored k (.int .u8 (u : Int))
      have hset : (u8s ((bigB x n).take k) ++ List.replicate (n - k) (Value.int .u8 0)).set k (Value.int .u8 (u : Int)) = u8s ((bigB x n).take (k + 1)) ++ List.replicate (n - (k + 1)) (.int .u8 0) := by
        have e1 : (bigB x n).take (k + 1) = (bigB x n).take k ++ [u] := by
          have hkl : k < (bigB x n).length := by rw [bigB_length]; exact hlt
          rw [List.take_succ_eq_append_getElem hkl]
          have := bigB_get n x k hlt
          rw [List.getElem?_eq_getElem hkl] at this
          rw [Option.some.inj this, hu]
        rw [e1, u8s_append]
        have e2 : List.replicate (n - k) (Value.int .u8 0) = .int .u8 0 :: List.replicate (n - (k + 1)) (.int .u8 0) := by
          rw [show n - k = (n - (k + 1)) + 1 by omega, List.replicate_succ]
        rw [e2, List.set_append_right _ _ (by omega), hlen, Nat.sub_self]
        simp [u8s]
      have HST := Lib.hid hst.1
      have HSET := Lib.hid hset
      have hbel2 : Below w.heap.size w (wr.setCell ⟨w.heap.size, k, none⟩ (.int .u8 (u : Int))) := hbel.setCell (Nat.le_refl _) _
      have hval : ((x : Int) / 2 ^ (8 * (n - 1 - k))) % 256 = (u : Int) := by rw [hu]; simp
      clear hst hset hlen hu
      go_wp2
      go_roundw
      case rel => exact ⟨k + 1, by omega, by go_num, by rw [← HSET.out]; exact HST.out, hbel2⟩
      case measure => simp [intOf]; omega
    · obtain rfl : k = n := by omega
      have hfull : u8s ((bigB x k).take k) ++ List.replicate (k - k) (Value.int .u8 0) = u8s (bigB x k) := by
        rw [List.take_of_length_le (by rw [bigB_length]; exact Nat.le_refl _)]; simp
      rw [hfull] at hown
      have hs := own_str (P := Try.prog) Try.underlying87 Try.underlying5 Try.underlying9 hown
      go_wp2
      go_ret
      exact ⟨rfl, hbel⟩

set_option maxHeartbeats 1000000 in
set_option maxRecDepth 100000 in
theorem RefBig_any (x n : Nat) (i : Int) (hi : i = x) (j : Int) (hj : j = n) (w : World) (hx : x < 18446744073709551616) (hn : n ≤ 8) :
    Calls Try.prog 57 #[.int .u64 i, .int .i64 j] w fun e w' => e = .returned (.string (sb (bigB x n))) ∧ Below w.heap.size w w' := by
  subst hi hj
  have h1 := lit_str1 (P := Try.prog) Try.underlying87 Try.underlying5 Try.underlying9
  go_enter Try.func57, Try.ntmps57
  go_wp2
  go_loopw [0, 1, 5] (fun v0 i s wr => ∃ (y k : Nat) (acc : List Nat), k ≤ n ∧ v0 = .int .u64 y ∧ i = .int .i64 k ∧ s = .string (sb acc) ∧ y < 18446744073709551616 ∧ acc.length + k = n ∧ Hid (bigB x n = bigB y k ++ acc) ∧ Below w.heap.size w wr) (fun _ i _ _ => (intOf i).toNat)
  case atStart => exact ⟨x, n, [], Nat.le_refl _, rfl, rfl, rfl, hx, by simp, by simp [Hid], Below.refl _ _⟩
  case round =>
    obtain ⟨y, k, acc, hk, rfl, rfl, rfl, hy, hlen, hB, hbel⟩ := hrel
    have hws := hbel.size
    have hsz : (sb acc).size ≤ 8 := by rw [sb_size]; omega
    by_cases h0 : k = 0
    · have a1 : (k : Int) ≤ 0 := by omega
      have hB2 : bigB x n = acc := by have := hB.out; rw [this, h0]; rfl
      have HB2 := Lib.hid hB2
      clear h0 hB2
      go_wp2
      go_ret
      exact ⟨ret_s (by rw [HB2.out]), hbel⟩
    · have a1 : (0 : Int) < k := by omega
      have hs1 : strOfNums [(y : Int) % 256] = sb [y % 256] := strOfNums_nats [y % 256]
      have hsa : sb [y % 256] ++ sb acc = sb (y % 256 :: acc) := by
        apply bs_inj; unfold sb bs; rw [ByteArray.data_append]; simp
      have hs1z : (sb [y % 256]).size ≤ 1 := by rw [sb_size]; simp
      have hstep : bigB y k = bigB (y / 256) (k - 1) ++ [y % 256] := by
        rw [show k = (k - 1) + 1 by omega]; rfl
      have HST := Lib.hid hstep
      clear h0 hstep
      go_wp2
      go_roundw
      case rel => exact ⟨y / 256, k - 1, y % 256 :: acc, by omega, by simp, by simp; omega, by simp [hsa], by omega, by simp; omega, by have := hB.out; unfold Hid; rw [this, HST.out]; simp, hbel.alloc hws _⟩
      case measure => simp [intOf]; omega
end Go.Proofs.Ytfnjbmpolggdeaa
