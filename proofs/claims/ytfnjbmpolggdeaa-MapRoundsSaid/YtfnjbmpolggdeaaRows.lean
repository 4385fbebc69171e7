/-
  No cell of these rows narrows 'for every input' (looked for: loops, veiled, ifaces, maps, wideKeys, modest, calm, conditions, laid).
  DERIVED. THE GIVEN ROWS OF THIS SEAT. 15 by the template 'for every input the law returns true; each argument reads behind the call as it read before'; 0 by the template 'total and deterministic' (their statements: YtfnjbmpolggdeaaTotals.lean).
  GIVEN WITH THE SEED: the statements are not yours to turn. If you find one false, say at which input.
  Laid BY PROGRAM, IN A SANDBOX (cutbox-rows.mjs): the forced cells as the released guide's own fill.sh prints them over the translation acef08b22d4c1425… (all of the seat's roots in one cut). By AI agents, Wed Nov 11 2026. No macro, syntax, notation, axiom, sorry.
-/
import Derived.Test.YtfnjbmpolggdeaaChecked
import GoSem.Claim
import GoSem.ClaimJoined
import GoSem.ClaimMapViews
import Derived.JoinedTies
import Derived.KernelRfl
namespace Go.Proofs.Ytfnjbmpolggdeaa
/- THE CELL 'sum', in the pinned program and in every row, IS THE sha256 OF THE DUMP (.gsa) THAT YtfnjbmpolggdeaaProg.lean LOADS. Nothing in Lean hashes anything: it is a label: what it is worth is what the hold of that sum in a sandbox is worth. -/
noncomputable def Try.pinned : Pinned := { name := "ytfnjbmpolggdeaa", sum := "acef08b22d4c1425e5da0a10d6a3ee6e722ee84797c90bfaa2c353d8034c9221", checked := Try.checked }
namespace Rows
def none {H : Type} : Left H := { results := [], args := [] }

/-- 'jvmcorelaw1.Names': WHATEVER THE INPUT: true; the input reads as it did. -/
def namesSpec : ChangeSpec := { name := "names", fn := fun _ => fun
  | [] => { results := [.lit (.bool true)], args := [] }
  | _ => none }
def namesRow : OpenClaim := { program := "ytfnjbmpolggdeaa", sum := "acef08b22d4c1425e5da0a10d6a3ee6e722ee84797c90bfaa2c353d8034c9221", func := "jvmcore/jvmcorelaw1.Names", spec := "names", apart := false }
def NamesSaid : Prop := namesRow.holds Try.pinned (OpenSpec.ofChange namesSpec)

/-- ITS FALSE NEIGHBOUR: 'it returns false'. Refute it at one input. -/
def namesWrong : ChangeSpec := { name := "names", fn := fun _ => fun
  | [] => { results := [.lit (.bool false)], args := [] }
  | _ => none }
def NamesWrongFalsely : Prop := namesRow.holds Try.pinned (OpenSpec.ofChange namesWrong)

/-- 'jvmcorelaw1.PoolUnits': WHATEVER THE INPUT: true; the input reads as it did. -/
def poolUnitsSpec : ChangeSpec := { name := "poolUnits", fn := fun _ => fun
  | [d] => { results := [.lit (.bool true)], args := [d] }
  | _ => none }
def poolUnitsRow : OpenClaim := { program := "ytfnjbmpolggdeaa", sum := "acef08b22d4c1425e5da0a10d6a3ee6e722ee84797c90bfaa2c353d8034c9221", func := "jvmcore/jvmcorelaw1.PoolUnits", spec := "poolUnits", unfollowed := true, recurses := true, apart := false }
def PoolUnitsSaid : Prop := poolUnitsRow.holds Try.pinned (OpenSpec.ofChange poolUnitsSpec)

/-- ITS FALSE NEIGHBOUR: 'it returns false'. Refute it at one input. -/
def poolUnitsWrong : ChangeSpec := { name := "poolUnits", fn := fun _ => fun
  | [d] => { results := [.lit (.bool false)], args := [d] }
  | _ => none }
def PoolUnitsWrongFalsely : Prop := poolUnitsRow.holds Try.pinned (OpenSpec.ofChange poolUnitsWrong)

/-- 'jvmcorelaw1.PoolTexts': WHATEVER THE INPUT: true; the input reads as it did. -/
def poolTextsSpec : ChangeSpec := { name := "poolTexts", fn := fun _ => fun
  | [d] => { results := [.lit (.bool true)], args := [d] }
  | _ => none }
def poolTextsRow : OpenClaim := { program := "ytfnjbmpolggdeaa", sum := "acef08b22d4c1425e5da0a10d6a3ee6e722ee84797c90bfaa2c353d8034c9221", func := "jvmcore/jvmcorelaw1.PoolTexts", spec := "poolTexts", unfollowed := true, recurses := true, apart := false }
def PoolTextsSaid : Prop := poolTextsRow.holds Try.pinned (OpenSpec.ofChange poolTextsSpec)

/-- ITS FALSE NEIGHBOUR: 'it returns false'. Refute it at one input. -/
def poolTextsWrong : ChangeSpec := { name := "poolTexts", fn := fun _ => fun
  | [d] => { results := [.lit (.bool false)], args := [d] }
  | _ => none }
def PoolTextsWrongFalsely : Prop := poolTextsRow.holds Try.pinned (OpenSpec.ofChange poolTextsWrong)

/-- 'jvmcorelaw1.PoolWrites': WHATEVER THE INPUT: true; the input reads as it did. -/
def poolWritesSpec : ChangeSpec := { name := "poolWrites", fn := fun _ => fun
  | [d] => { results := [.lit (.bool true)], args := [d] }
  | _ => none }
def poolWritesRow : OpenClaim := { program := "ytfnjbmpolggdeaa", sum := "acef08b22d4c1425e5da0a10d6a3ee6e722ee84797c90bfaa2c353d8034c9221", func := "jvmcore/jvmcorelaw1.PoolWrites", spec := "poolWrites", unfollowed := true, recurses := true, apart := false }
def PoolWritesSaid : Prop := poolWritesRow.holds Try.pinned (OpenSpec.ofChange poolWritesSpec)

/-- ITS FALSE NEIGHBOUR: 'it returns false'. Refute it at one input. -/
def poolWritesWrong : ChangeSpec := { name := "poolWrites", fn := fun _ => fun
  | [d] => { results := [.lit (.bool false)], args := [d] }
  | _ => none }
def PoolWritesWrongFalsely : Prop := poolWritesRow.holds Try.pinned (OpenSpec.ofChange poolWritesWrong)

/-- 'jvmcorelaw3.MapWrites': WHATEVER THE INPUT: true; the input reads as it did. -/
def mapWritesSpec : ChangeSpec := { name := "mapWrites", fn := fun _ => fun
  | [d1, d2, d3] => { results := [.lit (.bool true)], args := [d1, d2, d3] }
  | _ => none }
def mapWritesRow : OpenClaim := { program := "ytfnjbmpolggdeaa", sum := "acef08b22d4c1425e5da0a10d6a3ee6e722ee84797c90bfaa2c353d8034c9221", func := "jvmcore/jvmcorelaw3.MapWrites", spec := "mapWrites", unfollowed := true, recurses := true, apart := false }
def MapWritesSaid : Prop := mapWritesRow.holds Try.pinned (OpenSpec.ofChange mapWritesSpec)

/-- ITS FALSE NEIGHBOUR: 'it returns false'. Refute it at one input. -/
def mapWritesWrong : ChangeSpec := { name := "mapWrites", fn := fun _ => fun
  | [d1, d2, d3] => { results := [.lit (.bool false)], args := [d1, d2, d3] }
  | _ => none }
def MapWritesWrongFalsely : Prop := mapWritesRow.holds Try.pinned (OpenSpec.ofChange mapWritesWrong)

/-- 'jvmcorelaw1.PoolReads': WHATEVER THE INPUT: true; the input reads as it did. -/
def poolReadsSpec : ChangeSpec := { name := "poolReads", fn := fun _ => fun
  | [d] => { results := [.lit (.bool true)], args := [d] }
  | _ => none }
def poolReadsRow : OpenClaim := { program := "ytfnjbmpolggdeaa", sum := "acef08b22d4c1425e5da0a10d6a3ee6e722ee84797c90bfaa2c353d8034c9221", func := "jvmcore/jvmcorelaw1.PoolReads", spec := "poolReads", unfollowed := true, recurses := true, apart := false }
def PoolReadsSaid : Prop := poolReadsRow.holds Try.pinned (OpenSpec.ofChange poolReadsSpec)

/-- ITS FALSE NEIGHBOUR: 'it returns false'. Refute it at one input. -/
def poolReadsWrong : ChangeSpec := { name := "poolReads", fn := fun _ => fun
  | [d] => { results := [.lit (.bool false)], args := [d] }
  | _ => none }
def PoolReadsWrongFalsely : Prop := poolReadsRow.holds Try.pinned (OpenSpec.ofChange poolReadsWrong)

/-- 'jvmcorelaw3.MapReads': WHATEVER THE INPUT: true; the input reads as it did. -/
def mapReadsSpec : ChangeSpec := { name := "mapReads", fn := fun _ => fun
  | [d1, d2, d3] => { results := [.lit (.bool true)], args := [d1, d2, d3] }
  | _ => none }
def mapReadsRow : OpenClaim := { program := "ytfnjbmpolggdeaa", sum := "acef08b22d4c1425e5da0a10d6a3ee6e722ee84797c90bfaa2c353d8034c9221", func := "jvmcore/jvmcorelaw3.MapReads", spec := "mapReads", apart := false }
def MapReadsSaid : Prop := mapReadsRow.holds Try.pinned (OpenSpec.ofChange mapReadsSpec)

/-- ITS FALSE NEIGHBOUR: 'it returns false'. Refute it at one input. -/
def mapReadsWrong : ChangeSpec := { name := "mapReads", fn := fun _ => fun
  | [d1, d2, d3] => { results := [.lit (.bool false)], args := [d1, d2, d3] }
  | _ => none }
def MapReadsWrongFalsely : Prop := mapReadsRow.holds Try.pinned (OpenSpec.ofChange mapReadsWrong)

/-- 'jvmcorelaw2.CodeWrites': WHATEVER THE INPUT: true; the input reads as it did. -/
def codeWritesSpec : ChangeSpec := { name := "codeWrites", fn := fun _ => fun
  | [d] => { results := [.lit (.bool true)], args := [d] }
  | _ => none }
def codeWritesRow : OpenClaim := { program := "ytfnjbmpolggdeaa", sum := "acef08b22d4c1425e5da0a10d6a3ee6e722ee84797c90bfaa2c353d8034c9221", func := "jvmcore/jvmcorelaw2.CodeWrites", spec := "codeWrites", apart := false }
def CodeWritesSaid : Prop := codeWritesRow.holds Try.pinned (OpenSpec.ofChange codeWritesSpec)

/-- ITS FALSE NEIGHBOUR: 'it returns false'. Refute it at one input. -/
def codeWritesWrong : ChangeSpec := { name := "codeWrites", fn := fun _ => fun
  | [d] => { results := [.lit (.bool false)], args := [d] }
  | _ => none }
def CodeWritesWrongFalsely : Prop := codeWritesRow.holds Try.pinned (OpenSpec.ofChange codeWritesWrong)

/-- 'jvmcorelaw1.PoolRounds': WHATEVER THE INPUT: true; the input reads as it did. -/
def poolRoundsSpec : ChangeSpec := { name := "poolRounds", fn := fun _ => fun
  | [d] => { results := [.lit (.bool true)], args := [d] }
  | _ => none }
def poolRoundsRow : OpenClaim := { program := "ytfnjbmpolggdeaa", sum := "acef08b22d4c1425e5da0a10d6a3ee6e722ee84797c90bfaa2c353d8034c9221", func := "jvmcore/jvmcorelaw1.PoolRounds", spec := "poolRounds", unfollowed := true, recurses := true, apart := false }
def PoolRoundsSaid : Prop := poolRoundsRow.holds Try.pinned (OpenSpec.ofChange poolRoundsSpec)

/-- ITS FALSE NEIGHBOUR: 'it returns false'. Refute it at one input. -/
def poolRoundsWrong : ChangeSpec := { name := "poolRounds", fn := fun _ => fun
  | [d] => { results := [.lit (.bool false)], args := [d] }
  | _ => none }
def PoolRoundsWrongFalsely : Prop := poolRoundsRow.holds Try.pinned (OpenSpec.ofChange poolRoundsWrong)

/-- 'jvmcorelaw3.ClassWrites': WHATEVER THE INPUT: true; the input reads as it did. -/
def classWritesSpec : ChangeSpec := { name := "classWrites", fn := fun _ => fun
  | [d] => { results := [.lit (.bool true)], args := [d] }
  | _ => none }
def classWritesRow : OpenClaim := { program := "ytfnjbmpolggdeaa", sum := "acef08b22d4c1425e5da0a10d6a3ee6e722ee84797c90bfaa2c353d8034c9221", func := "jvmcore/jvmcorelaw3.ClassWrites", spec := "classWrites", unfollowed := true, recurses := true, apart := false }
def ClassWritesSaid : Prop := classWritesRow.holds Try.pinned (OpenSpec.ofChange classWritesSpec)

/-- ITS FALSE NEIGHBOUR: 'it returns false'. Refute it at one input. -/
def classWritesWrong : ChangeSpec := { name := "classWrites", fn := fun _ => fun
  | [d] => { results := [.lit (.bool false)], args := [d] }
  | _ => none }
def ClassWritesWrongFalsely : Prop := classWritesRow.holds Try.pinned (OpenSpec.ofChange classWritesWrong)

/-- 'jvmcorelaw2.CodeReads': WHATEVER THE INPUT: true; the input reads as it did. -/
def codeReadsSpec : ChangeSpec := { name := "codeReads", fn := fun _ => fun
  | [d] => { results := [.lit (.bool true)], args := [d] }
  | _ => none }
def codeReadsRow : OpenClaim := { program := "ytfnjbmpolggdeaa", sum := "acef08b22d4c1425e5da0a10d6a3ee6e722ee84797c90bfaa2c353d8034c9221", func := "jvmcore/jvmcorelaw2.CodeReads", spec := "codeReads", apart := false }
def CodeReadsSaid : Prop := codeReadsRow.holds Try.pinned (OpenSpec.ofChange codeReadsSpec)

/-- ITS FALSE NEIGHBOUR: 'it returns false'. Refute it at one input. -/
def codeReadsWrong : ChangeSpec := { name := "codeReads", fn := fun _ => fun
  | [d] => { results := [.lit (.bool false)], args := [d] }
  | _ => none }
def CodeReadsWrongFalsely : Prop := codeReadsRow.holds Try.pinned (OpenSpec.ofChange codeReadsWrong)

/-- 'jvmcorelaw3.ClassReads': WHATEVER THE INPUT: true; the input reads as it did. -/
def classReadsSpec : ChangeSpec := { name := "classReads", fn := fun _ => fun
  | [d] => { results := [.lit (.bool true)], args := [d] }
  | _ => none }
def classReadsRow : OpenClaim := { program := "ytfnjbmpolggdeaa", sum := "acef08b22d4c1425e5da0a10d6a3ee6e722ee84797c90bfaa2c353d8034c9221", func := "jvmcore/jvmcorelaw3.ClassReads", spec := "classReads", unfollowed := true, recurses := true, apart := false }
def ClassReadsSaid : Prop := classReadsRow.holds Try.pinned (OpenSpec.ofChange classReadsSpec)

/-- ITS FALSE NEIGHBOUR: 'it returns false'. Refute it at one input. -/
def classReadsWrong : ChangeSpec := { name := "classReads", fn := fun _ => fun
  | [d] => { results := [.lit (.bool false)], args := [d] }
  | _ => none }
def ClassReadsWrongFalsely : Prop := classReadsRow.holds Try.pinned (OpenSpec.ofChange classReadsWrong)

/-- 'jvmcorelaw3.MapRounds': WHATEVER THE INPUT: true; the input reads as it did. -/
def mapRoundsSpec : ChangeSpec := { name := "mapRounds", fn := fun _ => fun
  | [d1, d2, d3] => { results := [.lit (.bool true)], args := [d1, d2, d3] }
  | _ => none }
def mapRoundsRow : OpenClaim := { program := "ytfnjbmpolggdeaa", sum := "acef08b22d4c1425e5da0a10d6a3ee6e722ee84797c90bfaa2c353d8034c9221", func := "jvmcore/jvmcorelaw3.MapRounds", spec := "mapRounds", unfollowed := true, recurses := true, apart := false }
def MapRoundsSaid : Prop := mapRoundsRow.holds Try.pinned (OpenSpec.ofChange mapRoundsSpec)

/-- ITS FALSE NEIGHBOUR: 'it returns false'. Refute it at one input. -/
def mapRoundsWrong : ChangeSpec := { name := "mapRounds", fn := fun _ => fun
  | [d1, d2, d3] => { results := [.lit (.bool false)], args := [d1, d2, d3] }
  | _ => none }
def MapRoundsWrongFalsely : Prop := mapRoundsRow.holds Try.pinned (OpenSpec.ofChange mapRoundsWrong)

/-- 'jvmcorelaw2.CodeRounds': WHATEVER THE INPUT: true; the input reads as it did. -/
def codeRoundsSpec : ChangeSpec := { name := "codeRounds", fn := fun _ => fun
  | [d] => { results := [.lit (.bool true)], args := [d] }
  | _ => none }
def codeRoundsRow : OpenClaim := { program := "ytfnjbmpolggdeaa", sum := "acef08b22d4c1425e5da0a10d6a3ee6e722ee84797c90bfaa2c353d8034c9221", func := "jvmcore/jvmcorelaw2.CodeRounds", spec := "codeRounds", apart := false }
def CodeRoundsSaid : Prop := codeRoundsRow.holds Try.pinned (OpenSpec.ofChange codeRoundsSpec)

/-- ITS FALSE NEIGHBOUR: 'it returns false'. Refute it at one input. -/
def codeRoundsWrong : ChangeSpec := { name := "codeRounds", fn := fun _ => fun
  | [d] => { results := [.lit (.bool false)], args := [d] }
  | _ => none }
def CodeRoundsWrongFalsely : Prop := codeRoundsRow.holds Try.pinned (OpenSpec.ofChange codeRoundsWrong)

/-- 'jvmcorelaw3.ClassRounds': WHATEVER THE INPUT: true; the input reads as it did. -/
def classRoundsSpec : ChangeSpec := { name := "classRounds", fn := fun _ => fun
  | [d] => { results := [.lit (.bool true)], args := [d] }
  | _ => none }
def classRoundsRow : OpenClaim := { program := "ytfnjbmpolggdeaa", sum := "acef08b22d4c1425e5da0a10d6a3ee6e722ee84797c90bfaa2c353d8034c9221", func := "jvmcore/jvmcorelaw3.ClassRounds", spec := "classRounds", unfollowed := true, recurses := true, apart := false }
def ClassRoundsSaid : Prop := classRoundsRow.holds Try.pinned (OpenSpec.ofChange classRoundsSpec)

/-- ITS FALSE NEIGHBOUR: 'it returns false'. Refute it at one input. -/
def classRoundsWrong : ChangeSpec := { name := "classRounds", fn := fun _ => fun
  | [d] => { results := [.lit (.bool false)], args := [d] }
  | _ => none }
def ClassRoundsWrongFalsely : Prop := classRoundsRow.holds Try.pinned (OpenSpec.ofChange classRoundsWrong)

/- THE SECOND FORM. 'bulk': how many values and letters a reading holds, each counted each time it is reached (what is shared counts as often as it is met; a slice's spare places count too). A statement '..UptoSaid' is the law's where the arguments, and the package variables that the reading takes, are together of bulk at most 1048576: NARROWER than '..Said'. Prove '..Said' where nothing that the law and all that it calls make is longer than what came in: it says more and counts as full. Else prove '..UptoSaid'. A law counts once. -/
mutual
def uptoBulk {H : Type} : DataW H → Nat
  | .lit (.string bytes) => bytes.length + 1
  | .lit _ => 1
  | .nil => 1
  | .ptr d => uptoBulk d + 1
  | .slice elems spare => uptoBulkAll elems + uptoBulkAll spare + 1
  | .agg parts => uptoBulkAll parts + 1
  | .iface _ d => uptoBulk d + 1
  | .map entries => uptoBulkEntries entries + 1
  | .held _ => 1
def uptoBulkAll {H : Type} : List (DataW H) → Nat
  | [] => 0
  | d :: r => uptoBulk d + uptoBulkAll r
def uptoBulkEntries {H : Type} : List (Lit × DataW H) → Nat
  | [] => 0
  | x :: r => uptoBulkEntry x + uptoBulkEntries r
def uptoBulkEntry {H : Type} : Lit × DataW H → Nat
  | (.string bytes, d) => bytes.length + uptoBulk d + 1
  | (_, d) => uptoBulk d + 1
 end
def uptoSmall : (H : Type) → List (DataW H) → Bool := fun _ ds => decide (uptoBulkAll ds ≤ 1048576)
def OpenSpec.upto (s : _root_.Go.ChangeSpec) : _root_.Go.OpenSpec := { _root_.Go.OpenSpec.ofChange s with cond := some uptoSmall }

/-- 'jvmcorelaw1.Names', WHERE WHAT IT READS IS OF BULK AT MOST 1048576: true; the input reads as it did. -/
def namesUptoRow : OpenClaim := { program := "ytfnjbmpolggdeaa", sum := "acef08b22d4c1425e5da0a10d6a3ee6e722ee84797c90bfaa2c353d8034c9221", func := "jvmcore/jvmcorelaw1.Names", spec := "names", apart := false, narrowed := true }
def NamesUptoSaid : Prop := namesUptoRow.holds Try.pinned (OpenSpec.upto namesSpec)

/-- 'jvmcorelaw1.PoolUnits', WHERE WHAT IT READS IS OF BULK AT MOST 1048576: true; the input reads as it did. -/
def poolUnitsUptoRow : OpenClaim := { program := "ytfnjbmpolggdeaa", sum := "acef08b22d4c1425e5da0a10d6a3ee6e722ee84797c90bfaa2c353d8034c9221", func := "jvmcore/jvmcorelaw1.PoolUnits", spec := "poolUnits", unfollowed := true, recurses := true, apart := false, narrowed := true }
def PoolUnitsUptoSaid : Prop := poolUnitsUptoRow.holds Try.pinned (OpenSpec.upto poolUnitsSpec)

/-- 'jvmcorelaw1.PoolTexts', WHERE WHAT IT READS IS OF BULK AT MOST 1048576: true; the input reads as it did. -/
def poolTextsUptoRow : OpenClaim := { program := "ytfnjbmpolggdeaa", sum := "acef08b22d4c1425e5da0a10d6a3ee6e722ee84797c90bfaa2c353d8034c9221", func := "jvmcore/jvmcorelaw1.PoolTexts", spec := "poolTexts", unfollowed := true, recurses := true, apart := false, narrowed := true }
def PoolTextsUptoSaid : Prop := poolTextsUptoRow.holds Try.pinned (OpenSpec.upto poolTextsSpec)

/-- 'jvmcorelaw1.PoolWrites', WHERE WHAT IT READS IS OF BULK AT MOST 1048576: true; the input reads as it did. -/
def poolWritesUptoRow : OpenClaim := { program := "ytfnjbmpolggdeaa", sum := "acef08b22d4c1425e5da0a10d6a3ee6e722ee84797c90bfaa2c353d8034c9221", func := "jvmcore/jvmcorelaw1.PoolWrites", spec := "poolWrites", unfollowed := true, recurses := true, apart := false, narrowed := true }
def PoolWritesUptoSaid : Prop := poolWritesUptoRow.holds Try.pinned (OpenSpec.upto poolWritesSpec)

/-- 'jvmcorelaw3.MapWrites', WHERE WHAT IT READS IS OF BULK AT MOST 1048576: true; the input reads as it did. -/
def mapWritesUptoRow : OpenClaim := { program := "ytfnjbmpolggdeaa", sum := "acef08b22d4c1425e5da0a10d6a3ee6e722ee84797c90bfaa2c353d8034c9221", func := "jvmcore/jvmcorelaw3.MapWrites", spec := "mapWrites", unfollowed := true, recurses := true, apart := false, narrowed := true }
def MapWritesUptoSaid : Prop := mapWritesUptoRow.holds Try.pinned (OpenSpec.upto mapWritesSpec)

/-- 'jvmcorelaw1.PoolReads', WHERE WHAT IT READS IS OF BULK AT MOST 1048576: true; the input reads as it did. -/
def poolReadsUptoRow : OpenClaim := { program := "ytfnjbmpolggdeaa", sum := "acef08b22d4c1425e5da0a10d6a3ee6e722ee84797c90bfaa2c353d8034c9221", func := "jvmcore/jvmcorelaw1.PoolReads", spec := "poolReads", unfollowed := true, recurses := true, apart := false, narrowed := true }
def PoolReadsUptoSaid : Prop := poolReadsUptoRow.holds Try.pinned (OpenSpec.upto poolReadsSpec)

/-- 'jvmcorelaw3.MapReads', WHERE WHAT IT READS IS OF BULK AT MOST 1048576: true; the input reads as it did. -/
def mapReadsUptoRow : OpenClaim := { program := "ytfnjbmpolggdeaa", sum := "acef08b22d4c1425e5da0a10d6a3ee6e722ee84797c90bfaa2c353d8034c9221", func := "jvmcore/jvmcorelaw3.MapReads", spec := "mapReads", apart := false, narrowed := true }
def MapReadsUptoSaid : Prop := mapReadsUptoRow.holds Try.pinned (OpenSpec.upto mapReadsSpec)

/-- 'jvmcorelaw2.CodeWrites', WHERE WHAT IT READS IS OF BULK AT MOST 1048576: true; the input reads as it did. -/
def codeWritesUptoRow : OpenClaim := { program := "ytfnjbmpolggdeaa", sum := "acef08b22d4c1425e5da0a10d6a3ee6e722ee84797c90bfaa2c353d8034c9221", func := "jvmcore/jvmcorelaw2.CodeWrites", spec := "codeWrites", apart := false, narrowed := true }
def CodeWritesUptoSaid : Prop := codeWritesUptoRow.holds Try.pinned (OpenSpec.upto codeWritesSpec)

/-- 'jvmcorelaw1.PoolRounds', WHERE WHAT IT READS IS OF BULK AT MOST 1048576: true; the input reads as it did. -/
def poolRoundsUptoRow : OpenClaim := { program := "ytfnjbmpolggdeaa", sum := "acef08b22d4c1425e5da0a10d6a3ee6e722ee84797c90bfaa2c353d8034c9221", func := "jvmcore/jvmcorelaw1.PoolRounds", spec := "poolRounds", unfollowed := true, recurses := true, apart := false, narrowed := true }
def PoolRoundsUptoSaid : Prop := poolRoundsUptoRow.holds Try.pinned (OpenSpec.upto poolRoundsSpec)

/-- 'jvmcorelaw3.ClassWrites', WHERE WHAT IT READS IS OF BULK AT MOST 1048576: true; the input reads as it did. -/
def classWritesUptoRow : OpenClaim := { program := "ytfnjbmpolggdeaa", sum := "acef08b22d4c1425e5da0a10d6a3ee6e722ee84797c90bfaa2c353d8034c9221", func := "jvmcore/jvmcorelaw3.ClassWrites", spec := "classWrites", unfollowed := true, recurses := true, apart := false, narrowed := true }
def ClassWritesUptoSaid : Prop := classWritesUptoRow.holds Try.pinned (OpenSpec.upto classWritesSpec)

/-- 'jvmcorelaw2.CodeReads', WHERE WHAT IT READS IS OF BULK AT MOST 1048576: true; the input reads as it did. -/
def codeReadsUptoRow : OpenClaim := { program := "ytfnjbmpolggdeaa", sum := "acef08b22d4c1425e5da0a10d6a3ee6e722ee84797c90bfaa2c353d8034c9221", func := "jvmcore/jvmcorelaw2.CodeReads", spec := "codeReads", apart := false, narrowed := true }
def CodeReadsUptoSaid : Prop := codeReadsUptoRow.holds Try.pinned (OpenSpec.upto codeReadsSpec)

/-- 'jvmcorelaw3.ClassReads', WHERE WHAT IT READS IS OF BULK AT MOST 1048576: true; the input reads as it did. -/
def classReadsUptoRow : OpenClaim := { program := "ytfnjbmpolggdeaa", sum := "acef08b22d4c1425e5da0a10d6a3ee6e722ee84797c90bfaa2c353d8034c9221", func := "jvmcore/jvmcorelaw3.ClassReads", spec := "classReads", unfollowed := true, recurses := true, apart := false, narrowed := true }
def ClassReadsUptoSaid : Prop := classReadsUptoRow.holds Try.pinned (OpenSpec.upto classReadsSpec)

/-- 'jvmcorelaw3.MapRounds', WHERE WHAT IT READS IS OF BULK AT MOST 1048576: true; the input reads as it did. -/
def mapRoundsUptoRow : OpenClaim := { program := "ytfnjbmpolggdeaa", sum := "acef08b22d4c1425e5da0a10d6a3ee6e722ee84797c90bfaa2c353d8034c9221", func := "jvmcore/jvmcorelaw3.MapRounds", spec := "mapRounds", unfollowed := true, recurses := true, apart := false, narrowed := true }
def MapRoundsUptoSaid : Prop := mapRoundsUptoRow.holds Try.pinned (OpenSpec.upto mapRoundsSpec)

/-- 'jvmcorelaw2.CodeRounds', WHERE WHAT IT READS IS OF BULK AT MOST 1048576: true; the input reads as it did. -/
def codeRoundsUptoRow : OpenClaim := { program := "ytfnjbmpolggdeaa", sum := "acef08b22d4c1425e5da0a10d6a3ee6e722ee84797c90bfaa2c353d8034c9221", func := "jvmcore/jvmcorelaw2.CodeRounds", spec := "codeRounds", apart := false, narrowed := true }
def CodeRoundsUptoSaid : Prop := codeRoundsUptoRow.holds Try.pinned (OpenSpec.upto codeRoundsSpec)

/-- 'jvmcorelaw3.ClassRounds', WHERE WHAT IT READS IS OF BULK AT MOST 1048576: true; the input reads as it did. -/
def classRoundsUptoRow : OpenClaim := { program := "ytfnjbmpolggdeaa", sum := "acef08b22d4c1425e5da0a10d6a3ee6e722ee84797c90bfaa2c353d8034c9221", func := "jvmcore/jvmcorelaw3.ClassRounds", spec := "classRounds", unfollowed := true, recurses := true, apart := false, narrowed := true }
def ClassRoundsUptoSaid : Prop := classRoundsUptoRow.holds Try.pinned (OpenSpec.upto classRoundsSpec)

end Rows
end Go.Proofs.Ytfnjbmpolggdeaa
