/-
  General lemmas for the walks of this seat: bytes of strings as numbers, bits, endings, one element appended to a row of the call's own.
-/
import Derived.WalkKit
import Derived.WalkSpells
import Derived.WalkLawsBesides
import Derived.Laws.BitsAllLaws
import Derived.Laws.BytesArg
import Derived.Laws.BytesString
import Derived.Lib.ConvBytes
import Derived.KernelRfl
import Derived.Lib.Hide
namespace Go.Proofs.Ytfnjbmpolggdeaa
open Go.RowKit
set_option linter.unusedVariables false
set_option linter.unusedSimpArgs false

/-! ### bytes of a string as numbers -/
def bAt (s : ByteArray) (i : Nat) : Nat := if h : i < s.size then s[i].toNat else 0
theorem bAt_eq {s : ByteArray} {i : Nat} (h : i < s.size) : s[i].toNat = bAt s i := by simp [bAt, h]
theorem bAt_lt (s : ByteArray) (i : Nat) : bAt s i < 256 := by
  unfold bAt; split
  · exact (s[i]).toNat_lt
  · omega
theorem bAt_out {s : ByteArray} {i : Nat} (h : s.size ≤ i) : bAt s i = 0 := by unfold bAt; rw [dif_neg (by omega)]
def bs (s : ByteArray) : List Nat := s.data.toList.map UInt8.toNat
theorem bs_length (s : ByteArray) : (bs s).length = s.size := by simp [bs]
theorem bs_lt (s : ByteArray) : ∀ x ∈ bs s, x < 256 := by
  intro x hx; simp only [bs, List.mem_map] at hx; obtain ⟨c, _, rfl⟩ := hx; exact c.toNat_lt
theorem bs_getElem {s : ByteArray} {i : Nat} (h : i < (bs s).length) : (bs s)[i] = bAt s i := by
  have hl := bs_length s
  simp [bs, bAt, show i < s.size by omega]
  rfl
theorem bs_drop {s : ByteArray} {i : Nat} (h : i < s.size) : (bs s).drop i = bAt s i :: (bs s).drop (i + 1) := by
  have hl := bs_length s
  rw [List.drop_eq_getElem_cons (by omega), bs_getElem]
theorem bs_drop_nil {s : ByteArray} {i : Nat} (h : s.size ≤ i) : (bs s).drop i = [] := by
  have hl := bs_length s
  exact List.drop_of_length_le (by omega)
/-- bytes out of numbers. -/
def sb (l : List Nat) : ByteArray := ⟨(l.map UInt8.ofNat).toArray⟩
theorem sb_bs (s : ByteArray) : sb (bs s) = s := by
  have : (List.map UInt8.ofNat (List.map UInt8.toNat s.data.toList)) = s.data.toList := by
    rw [List.map_map]; exact (List.map_congr_left (fun c _ => by simp)).trans (List.map_id _)
  unfold sb bs; rw [this]
theorem bs_sb {l : List Nat} (h : ∀ x ∈ l, x < 256) : bs (sb l) = l := by
  unfold sb bs; simp only [List.map_map]
  exact (List.map_congr_left (fun x hx => by simp [Nat.mod_eq_of_lt (h x hx)])).trans (List.map_id _)
theorem bs_inj {s t : ByteArray} (h : bs s = bs t) : s = t := by rw [← sb_bs s, h, sb_bs]
theorem sb_size (l : List Nat) : (sb l).size = l.length := by simp [sb, ByteArray.size]

/-! ### bits -/
theorem bits_c0 {c : Nat} (h : c < 256) : (bits BinOp.and IntKind.u8 c 192 != 128) = !decide (c / 64 = 2) := by
  have e : bits BinOp.and IntKind.u8 (c : Int) ((192 : Nat) : Int) = ((c &&& 192 : Nat) : Int) := u8_and_nat c 192 h (by decide)
  have e2 : ∀ c : Nat, c < 256 → ((c &&& 192 : Nat) != 128) = !decide (c / 64 = 2) := by decide +kernel
  rw [← e2 c h]
  show (bits BinOp.and IntKind.u8 (c : Int) ((192 : Nat) : Int) != 128) = _
  rw [e]
  rw [Bool.eq_iff_iff]; simp; omega
theorem bits_e0 {c : Nat} (h : c < 256) : (bits BinOp.and IntKind.u8 c 224 == 192) = decide (c / 32 = 6) := by
  have e : bits BinOp.and IntKind.u8 (c : Int) ((224 : Nat) : Int) = ((c &&& 224 : Nat) : Int) := u8_and_nat c 224 h (by decide)
  have e2 : ∀ c : Nat, c < 256 → ((c &&& 224 : Nat) == 192) = decide (c / 32 = 6) := by decide +kernel
  rw [← e2 c h]
  show (bits BinOp.and IntKind.u8 (c : Int) ((224 : Nat) : Int) == 192) = _
  rw [e]
  rw [Bool.eq_iff_iff]; simp; omega
theorem bits_f0 {c : Nat} (h : c < 256) : (bits BinOp.and IntKind.u8 c 240 == 224) = decide (c / 16 = 14) := by
  have e : bits BinOp.and IntKind.u8 (c : Int) ((240 : Nat) : Int) = ((c &&& 240 : Nat) : Int) := u8_and_nat c 240 h (by decide)
  have e2 : ∀ c : Nat, c < 256 → ((c &&& 240 : Nat) == 224) = decide (c / 16 = 14) := by decide +kernel
  rw [← e2 c h]
  show (bits BinOp.and IntKind.u8 (c : Int) ((240 : Nat) : Int) == 224) = _
  rw [e]
  rw [Bool.eq_iff_iff]; simp; omega
theorem or_u16 {x y i : Nat} (hx : x % 2 ^ i = 0) (hy : y < 2 ^ i) (hxl : x < 65536) (hyl : y < 65536) : bits BinOp.or IntKind.u16 (x : Int) (y : Int) = ((x + y : Nat) : Int) := by
  rw [u16_or_nat x y hxl hyl, nat_join i x y hx hy]

/-! ### endings -/
theorem ret_i {k : IntKind} {a b : Int} (h : a = b) : Ending.returned (.int k a) = .returned (.int k b) := by rw [h]
theorem ret_b {a b : Bool} (h : a = b) : Ending.returned (.bool a) = .returned (.bool b) := by rw [h]
theorem ret_s {a b : ByteArray} (h : a = b) : Ending.returned (.string a) = .returned (.string b) := by rw [h]
theorem ret_ib {k : IntKind} {a b : Int} {p q : Bool} (h : a = b) (h' : p = q) : Ending.returned (.tuple #[.int k a, .bool p]) = .returned (.tuple #[.int k b, .bool q]) := by rw [h, h']
theorem ret_vb {v : Value} {p q : Bool} (h' : p = q) : Ending.returned (.tuple #[v, .bool p]) = .returned (.tuple #[v, .bool q]) := by rw [h']

/-! ### one element appended to a row of the call's own -/
section
variable {P : Program} {w w0 : World}
/-- What came before stays: a row of the call's own over a step that writes another row. -/
theorem own_kept {w w' : World} {base e size n} {v : Value} {xs : List Value} {row : Option Nat} (h : w.ownsRow base e size v n xs) (hg : w.grownBy w' row) (hne : v.ownBlock = none ∨ v.ownBlock ≠ row) : w'.ownsRow base e size v n xs := h.kept hg hne
theorem own_ge {w : World} {base e size n} {v : Value} {xs : List Value} (h : w.ownsRow base e size v n xs) : ∀ k, v.ownBlock = some k → base ≤ k := fun k hk => (h.lt k hk).1
theorem own_mono {w : World} {base base' e size n} {v : Value} {xs : List Value} (h : w.ownsRow base e size v n xs) (hb : base' ≤ base) : w.ownsRow base' e size v n xs := by
  refine ⟨h.1, ?_⟩
  rcases h.2 with hn | ⟨g, cap, cur, rfl, hg, rest⟩
  · exact .inl hn
  · exact .inr ⟨g, cap, cur, rfl, Nat.le_trans hb hg, rest⟩
theorem cells_new {w : World} {cs : List Value} {e : TypeId} : ∀ j u, cs[j]? = some u → (w.alloc (.cells cs.toArray e)).cell? ((⟨w.heap.size, 0, none⟩ : Addr).add j) = some u := by
  intro j u hu
  have h1 : ((⟨w.heap.size, 0, none⟩ : Addr).add j) = ⟨w.heap.size, j, none⟩ := by
    unfold Addr.add; split <;> simp_all
  rw [h1]
  have h2 : (w.alloc (.cells cs.toArray e)).heap[w.heap.size]? = some (.cells cs.toArray e) := heap_alloc_new w _
  simp only [World.cell?]; rw [h2]; simp [hu]

theorem app_elem {w1 : World} {ops : Array Oper} {rest : List Oper} {o : Oper} {a : Act} {Q : Exit → Act → World → Prop} (hgd : o.guard = none) (s x : Operand) (t : TypeId)
    (ho : o.op = .call { callee := .builtin .append, args := #[s, x], argTypes := #[t, t] })
    (e : TypeId) (z : Value) (size bytes : Nat) (ht : P.underlying t = some (.slice e)) (hI : (P.info? e).map (fun i => (i.zero, i.size, i.bytes)) = some (some z, size, bytes)) (hzs : z.cells.size = size) (hsz : 0 < size)
    (B base : Nat) (hbel : Below B w0 w) {v : Value} {n : Nat} {xs : List Value} (hown : w.ownsRow base e size v n xs) (hs : a.eval s = v)
    (cs : List Value) (hcs : cs.length = size) (h1 : ∀ u ∈ cs, u.oneCell' = true) (cap : Nat) (hx : a.eval x = .slice (some ⟨w.heap.size, 0, none⟩) 1 cap)
    (hn : (n + 1) * bytes ≤ 140737488355328) (hn2 : n < 9223372036854775807) (hbase : base ≤ w.heap.size) (hB : B ≤ base)
    (h : ∀ v' w', w'.ownsRow base e size v' (n + 1) (xs ++ cs) → Below B w0 w' → w.grownBy w' v.ownBlock → wpList P ops Q rest (a.put o.dst v') w') (hw1 : w1 = w.alloc (.cells cs.toArray e)) : wpList P ops Q (o :: rest) a w1 := by
  subst hw1
  obtain ⟨i, hi, hz, hsize, hby⟩ := info_parts hI
  refine wpList_append_own _ hgd s x t ho base e i z size bytes ht hi hz hsize hby hzs hsz v n xs hs (hown.alloc _) ⟨w.heap.size, 0, none⟩ 1 cap cs hx (by omega) cells_new h1 (by unfold maxLen; omega) hn (by simp; omega) ?_
  intro v' w' h2 h3 _
  have hg : w.grownBy w' v.ownBlock := by
    have ha := World.grownBy_alloc w (.cells cs.toArray e) v.ownBlock
    refine ⟨h3.os.trans ha.os, h3.tape.trans ha.tape, h3.output.trans ha.output, Nat.le_trans ha.size h3.size, fun k hk hne => ?_⟩
    rw [h3.block k (by simp; omega) hne, ha.block k hk hne]
  have hsz' := hbel.size
  refine h v' w' h2 ?_ hg
  refine ⟨hg.os.trans hbel.os, hg.tape.trans hbel.tape, hg.output.trans hbel.output, Nat.le_trans hbel.size hg.size, fun k hk => ?_⟩
  rw [hg.block k (by omega) (fun hk2 => by have := own_ge hown k hk2.symm; omega), hbel.block k hk]
end

/-! ### bytes as a string -/
def u8s (l : List Nat) : List Value := l.map fun x : Nat => Value.int .u8 (x : Int)
theorem u8s_append (a b : List Nat) : u8s (a ++ b) = u8s a ++ u8s b := by simp [u8s]
theorem u8s_length (a : List Nat) : (u8s a).length = a.length := by simp [u8s]
theorem strOfNums_nats (l : List Nat) : strOfNums (l.map fun x : Nat => (x : Int)) = sb l := by
  simp [strOfNums, sb]
theorem lit_str {P : Program} {src dst e : TypeId} (hs : P.underlying src = some (.slice e)) (he : P.underlying e = some (.int .u8)) (hd : P.underlying dst = some .string) (w : World) (l : List Int) (n c : Nat) (hl : l.length = n) :
    (convert src dst (.slice (some ⟨w.heap.size, 0, none⟩) n c)).run P (w.alloc (.cells (l.map (Value.int .u8)).toArray e)) = .ok (.string (strOfNums l)) (w.alloc (.cells (l.map (Value.int .u8)).toArray e)) := by
  refine run_convert_bytes_arg _ src e hs he w.heap.size 0 n c l hl (fun i hi => ?_) dst hd
  have hc := cells_new (w := w) (cs := l.map (Value.int .u8)) (e := e) i (.int .u8 (l.getD i 0)) (by simp [List.getElem?_eq_getElem (show i < l.length by omega), List.getD_eq_getElem?_getD])
  have ha : (⟨w.heap.size, 0, none⟩ : Addr).add i = ⟨w.heap.size, 0 + i, none⟩ := by unfold Addr.add; split <;> simp_all
  rwa [ha] at hc
/-- string([]byte{a}), string([]byte{a, b}), string([]byte{a, b, c}): rules for the walk. -/
theorem lit_str1 {P : Program} {src dst e : TypeId} (hs : P.underlying src = some (.slice e)) (he : P.underlying e = some (.int .u8)) (hd : P.underlying dst = some .string) : ∀ (w : World) (a : Int),
    (convert src dst (.slice (some ⟨w.heap.size, 0, none⟩) 1 1)).run P (w.alloc (.cells #[.int .u8 a] e)) = .ok (.string (strOfNums [a])) (w.alloc (.cells #[.int .u8 a] e)) := fun w a => lit_str hs he hd w [a] 1 1 rfl
theorem lit_str2 {P : Program} {src dst e : TypeId} (hs : P.underlying src = some (.slice e)) (he : P.underlying e = some (.int .u8)) (hd : P.underlying dst = some .string) : ∀ (w : World) (a b : Int),
    (convert src dst (.slice (some ⟨w.heap.size, 0, none⟩) 2 2)).run P (w.alloc (.cells #[.int .u8 a, .int .u8 b] e)) = .ok (.string (strOfNums [a, b])) (w.alloc (.cells #[.int .u8 a, .int .u8 b] e)) := fun w a b => lit_str hs he hd w [a, b] 2 2 rfl
theorem lit_str3 {P : Program} {src dst e : TypeId} (hs : P.underlying src = some (.slice e)) (he : P.underlying e = some (.int .u8)) (hd : P.underlying dst = some .string) : ∀ (w : World) (a b c : Int),
    (convert src dst (.slice (some ⟨w.heap.size, 0, none⟩) 3 3)).run P (w.alloc (.cells #[.int .u8 a, .int .u8 b, .int .u8 c] e)) = .ok (.string (strOfNums [a, b, c])) (w.alloc (.cells #[.int .u8 a, .int .u8 b, .int .u8 c] e)) := fun w a b c => lit_str hs he hd w [a, b, c] 3 3 rfl
theorem own_str {P : Program} {w : World} {base n : Nat} {e' src dst e : TypeId} {v : Value} {l : List Nat} (hs : P.underlying src = some (.slice e)) (he : P.underlying e = some (.int .u8)) (hd : P.underlying dst = some .string)
    (h : w.ownsRow base e' 1 v n (u8s l)) : (convert src dst v).run P w = .ok (.string (sb l)) w := by
  have hl : l.length = n := by have := h.1; simp [u8s] at this; exact this
  rcases h.2 with ⟨rfl, rfl⟩ | ⟨g, cap, cur, rfl, _⟩
  · obtain rfl : l = [] := List.eq_nil_of_length_eq_zero hl
    exact run_convert_bytes_nil w src e hs he 0 0 dst hd
  · rw [← strOfNums_nats]
    refine run_convert_bytes_arg w src e hs he g 0 n cap (l.map fun x : Nat => (x : Int)) (by simpa using hl) (fun i hi => ?_) dst hd
    have hc := h.cells (g := g) rfl i (.int .u8 ((l.map fun x : Nat => (x : Int)).getD i 0)) (by simp [u8s, List.getElem?_eq_getElem (show i < l.length by omega), List.getD_eq_getElem?_getD])
    have ha : (⟨g, 0, none⟩ : Addr).add i = ⟨g, 0 + i, none⟩ := by unfold Addr.add; split <;> simp_all
    rwa [ha] at hc

end Go.Proofs.Ytfnjbmpolggdeaa
