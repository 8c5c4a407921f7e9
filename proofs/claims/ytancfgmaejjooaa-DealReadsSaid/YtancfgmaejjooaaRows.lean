/-
  No cell of these rows narrows 'for every input' (looked for: loops, veiled, ifaces, maps, wideKeys, modest, calm, conditions, laid).
  DERIVED. THE GIVEN ROWS OF THIS SEAT. 16 by the template 'for every input the law returns true; each argument reads behind the call as it read before'; 0 by the template 'total and deterministic' (their statements: YtancfgmaejjooaaTotals.lean).
  GIVEN WITH THE SEED: the statements are not yours to turn. If you find one false, say at which input.
  Laid BY PROGRAM, IN A SANDBOX (cutbox-rows.mjs): the forced cells as the released guide's own fill.sh prints them over the translation 23db4cf2af2c00ae… (all of the seat's roots in one cut). By AI agents, Wed Nov 11 2026. No macro, syntax, notation, axiom, sorry.
-/
import Derived.Test.YtancfgmaejjooaaChecked
import GoSem.Claim
import GoSem.ClaimJoined
import GoSem.ClaimMapViews
import Derived.JoinedTies
import Derived.KernelRfl
namespace Go.Proofs.Ytancfgmaejjooaa
/- THE CELL 'sum', in the pinned program and in every row, IS THE sha256 OF THE DUMP (.gsa) THAT YtancfgmaejjooaaProg.lean LOADS. Nothing in Lean hashes anything: it is a label: what it is worth is what the hold of that sum in a sandbox is worth. -/
noncomputable def Try.pinned : Pinned := { name := "ytancfgmaejjooaa", sum := "23db4cf2af2c00ae6ccca24897b0dfb8352c2d4d84ddb77f1b8959f1108bfd43", checked := Try.checked }
namespace Rows
def none {H : Type} : Left H := { results := [], args := [] }

/-- 'freeboardlaw13.DealReads': WHATEVER THE INPUT: true; the input reads as it did. -/
def dealReadsSpec : ChangeSpec := { name := "dealReads", fn := fun _ => fun
  | [d1, d2, d3] => { results := [.lit (.bool true)], args := [d1, d2, d3] }
  | _ => none }
def dealReadsRow : OpenClaim := { program := "ytancfgmaejjooaa", sum := "23db4cf2af2c00ae6ccca24897b0dfb8352c2d4d84ddb77f1b8959f1108bfd43", func := "freeboard/freeboardlaw13.DealReads", spec := "dealReads", unfollowed := true, recurses := true, apart := false }
def DealReadsSaid : Prop := dealReadsRow.holds Try.pinned (OpenSpec.ofChange dealReadsSpec)

/-- ITS FALSE NEIGHBOUR: 'it returns false'. Refute it at one input. -/
def dealReadsWrong : ChangeSpec := { name := "dealReads", fn := fun _ => fun
  | [d1, d2, d3] => { results := [.lit (.bool false)], args := [d1, d2, d3] }
  | _ => none }
def DealReadsWrongFalsely : Prop := dealReadsRow.holds Try.pinned (OpenSpec.ofChange dealReadsWrong)

/-- 'freeboardlaw27.RedoNames': WHATEVER THE INPUT: true; the input reads as it did. -/
def redoNamesSpec : ChangeSpec := { name := "redoNames", fn := fun _ => fun
  | [] => { results := [.lit (.bool true)], args := [] }
  | _ => none }
def redoNamesRow : OpenClaim := { program := "ytancfgmaejjooaa", sum := "23db4cf2af2c00ae6ccca24897b0dfb8352c2d4d84ddb77f1b8959f1108bfd43", func := "freeboard/freeboardlaw27.RedoNames", spec := "redoNames", inPlace := ["slices.overlaps[int]", "slices.overlaps[[]byte]"], unfollowed := true, recurses := true, apart := false }
def RedoNamesSaid : Prop := redoNamesRow.holds Try.pinned (OpenSpec.ofChange redoNamesSpec)

/-- ITS FALSE NEIGHBOUR: 'it returns false'. Refute it at one input. -/
def redoNamesWrong : ChangeSpec := { name := "redoNames", fn := fun _ => fun
  | [] => { results := [.lit (.bool false)], args := [] }
  | _ => none }
def RedoNamesWrongFalsely : Prop := redoNamesRow.holds Try.pinned (OpenSpec.ofChange redoNamesWrong)

/-- 'freeboardlaw27.RedoBegins': WHATEVER THE INPUT: true; the input reads as it did. -/
def redoBeginsSpec : ChangeSpec := { name := "redoBegins", fn := fun _ => fun
  | [d1, d2, d3, d4] => { results := [.lit (.bool true)], args := [d1, d2, d3, d4] }
  | _ => none }
def redoBeginsRow : OpenClaim := { program := "ytancfgmaejjooaa", sum := "23db4cf2af2c00ae6ccca24897b0dfb8352c2d4d84ddb77f1b8959f1108bfd43", func := "freeboard/freeboardlaw27.RedoBegins", spec := "redoBegins", inPlace := ["slices.overlaps[int]", "slices.overlaps[[]byte]"], unfollowed := true, recurses := true, apart := false }
def RedoBeginsSaid : Prop := redoBeginsRow.holds Try.pinned (OpenSpec.ofChange redoBeginsSpec)

/-- ITS FALSE NEIGHBOUR: 'it returns false'. Refute it at one input. -/
def redoBeginsWrong : ChangeSpec := { name := "redoBegins", fn := fun _ => fun
  | [d1, d2, d3, d4] => { results := [.lit (.bool false)], args := [d1, d2, d3, d4] }
  | _ => none }
def RedoBeginsWrongFalsely : Prop := redoBeginsRow.holds Try.pinned (OpenSpec.ofChange redoBeginsWrong)

/-- 'freeboardlaw15.ScanTells': WHATEVER THE INPUT: true; the input reads as it did. -/
def scanTellsSpec : ChangeSpec := { name := "scanTells", fn := fun _ => fun
  | [d1, d2] => { results := [.lit (.bool true)], args := [d1, d2] }
  | _ => none }
def scanTellsRow : OpenClaim := { program := "ytancfgmaejjooaa", sum := "23db4cf2af2c00ae6ccca24897b0dfb8352c2d4d84ddb77f1b8959f1108bfd43", func := "freeboard/freeboardlaw15.ScanTells", spec := "scanTells", unfollowed := true, recurses := true, apart := false }
def ScanTellsSaid : Prop := scanTellsRow.holds Try.pinned (OpenSpec.ofChange scanTellsSpec)

/-- ITS FALSE NEIGHBOUR: 'it returns false'. Refute it at one input. -/
def scanTellsWrong : ChangeSpec := { name := "scanTells", fn := fun _ => fun
  | [d1, d2] => { results := [.lit (.bool false)], args := [d1, d2] }
  | _ => none }
def ScanTellsWrongFalsely : Prop := scanTellsRow.holds Try.pinned (OpenSpec.ofChange scanTellsWrong)

/-- 'freeboardlaw13.DealShort': WHATEVER THE INPUT: true; the input reads as it did. -/
def dealShortSpec : ChangeSpec := { name := "dealShort", fn := fun _ => fun
  | [d1, d2, d3, d4, d5, d6, d7] => { results := [.lit (.bool true)], args := [d1, d2, d3, d4, d5, d6, d7] }
  | _ => none }
def dealShortRow : OpenClaim := { program := "ytancfgmaejjooaa", sum := "23db4cf2af2c00ae6ccca24897b0dfb8352c2d4d84ddb77f1b8959f1108bfd43", func := "freeboard/freeboardlaw13.DealShort", spec := "dealShort", inPlace := ["slices.overlaps[[]byte]"], unfollowed := true, recurses := true, apart := false }
def DealShortSaid : Prop := dealShortRow.holds Try.pinned (OpenSpec.ofChange dealShortSpec)

/-- ITS FALSE NEIGHBOUR: 'it returns false'. Refute it at one input. -/
def dealShortWrong : ChangeSpec := { name := "dealShort", fn := fun _ => fun
  | [d1, d2, d3, d4, d5, d6, d7] => { results := [.lit (.bool false)], args := [d1, d2, d3, d4, d5, d6, d7] }
  | _ => none }
def DealShortWrongFalsely : Prop := dealShortRow.holds Try.pinned (OpenSpec.ofChange dealShortWrong)

/-- 'freeboardlaw13.DealOnly': WHATEVER THE INPUT: true; the input reads as it did. -/
def dealOnlySpec : ChangeSpec := { name := "dealOnly", fn := fun _ => fun
  | [d1, d2, d3] => { results := [.lit (.bool true)], args := [d1, d2, d3] }
  | _ => none }
def dealOnlyRow : OpenClaim := { program := "ytancfgmaejjooaa", sum := "23db4cf2af2c00ae6ccca24897b0dfb8352c2d4d84ddb77f1b8959f1108bfd43", func := "freeboard/freeboardlaw13.DealOnly", spec := "dealOnly", inPlace := ["slices.overlaps[[]byte]"], unfollowed := true, recurses := true, apart := false }
def DealOnlySaid : Prop := dealOnlyRow.holds Try.pinned (OpenSpec.ofChange dealOnlySpec)

/-- ITS FALSE NEIGHBOUR: 'it returns false'. Refute it at one input. -/
def dealOnlyWrong : ChangeSpec := { name := "dealOnly", fn := fun _ => fun
  | [d1, d2, d3] => { results := [.lit (.bool false)], args := [d1, d2, d3] }
  | _ => none }
def DealOnlyWrongFalsely : Prop := dealOnlyRow.holds Try.pinned (OpenSpec.ofChange dealOnlyWrong)

/-- 'freeboardlaw13.DealMarks': WHATEVER THE INPUT: true; the input reads as it did. -/
def dealMarksSpec : ChangeSpec := { name := "dealMarks", fn := fun _ => fun
  | [d1, d2, d3, d4] => { results := [.lit (.bool true)], args := [d1, d2, d3, d4] }
  | _ => none }
def dealMarksRow : OpenClaim := { program := "ytancfgmaejjooaa", sum := "23db4cf2af2c00ae6ccca24897b0dfb8352c2d4d84ddb77f1b8959f1108bfd43", func := "freeboard/freeboardlaw13.DealMarks", spec := "dealMarks", inPlace := ["slices.overlaps[[]byte]"], unfollowed := true, recurses := true, apart := false }
def DealMarksSaid : Prop := dealMarksRow.holds Try.pinned (OpenSpec.ofChange dealMarksSpec)

/-- ITS FALSE NEIGHBOUR: 'it returns false'. Refute it at one input. -/
def dealMarksWrong : ChangeSpec := { name := "dealMarks", fn := fun _ => fun
  | [d1, d2, d3, d4] => { results := [.lit (.bool false)], args := [d1, d2, d3, d4] }
  | _ => none }
def DealMarksWrongFalsely : Prop := dealMarksRow.holds Try.pinned (OpenSpec.ofChange dealMarksWrong)

/-- 'freeboardlaw13.DealBack': WHATEVER THE INPUT: true; the input reads as it did. -/
def dealBackSpec : ChangeSpec := { name := "dealBack", fn := fun _ => fun
  | [d1, d2, d3, d4, d5, d6] => { results := [.lit (.bool true)], args := [d1, d2, d3, d4, d5, d6] }
  | _ => none }
def dealBackRow : OpenClaim := { program := "ytancfgmaejjooaa", sum := "23db4cf2af2c00ae6ccca24897b0dfb8352c2d4d84ddb77f1b8959f1108bfd43", func := "freeboard/freeboardlaw13.DealBack", spec := "dealBack", inPlace := ["slices.overlaps[[]byte]"], unfollowed := true, recurses := true, apart := false }
def DealBackSaid : Prop := dealBackRow.holds Try.pinned (OpenSpec.ofChange dealBackSpec)

/-- ITS FALSE NEIGHBOUR: 'it returns false'. Refute it at one input. -/
def dealBackWrong : ChangeSpec := { name := "dealBack", fn := fun _ => fun
  | [d1, d2, d3, d4, d5, d6] => { results := [.lit (.bool false)], args := [d1, d2, d3, d4, d5, d6] }
  | _ => none }
def DealBackWrongFalsely : Prop := dealBackRow.holds Try.pinned (OpenSpec.ofChange dealBackWrong)

/-- 'freeboardlaw13.DealNames': WHATEVER THE INPUT: true; the input reads as it did. -/
def dealNamesSpec : ChangeSpec := { name := "dealNames", fn := fun _ => fun
  | [] => { results := [.lit (.bool true)], args := [] }
  | _ => none }
def dealNamesRow : OpenClaim := { program := "ytancfgmaejjooaa", sum := "23db4cf2af2c00ae6ccca24897b0dfb8352c2d4d84ddb77f1b8959f1108bfd43", func := "freeboard/freeboardlaw13.DealNames", spec := "dealNames", inPlace := ["slices.overlaps[[]byte]"], unfollowed := true, recurses := true, apart := false }
def DealNamesSaid : Prop := dealNamesRow.holds Try.pinned (OpenSpec.ofChange dealNamesSpec)

/-- ITS FALSE NEIGHBOUR: 'it returns false'. Refute it at one input. -/
def dealNamesWrong : ChangeSpec := { name := "dealNames", fn := fun _ => fun
  | [] => { results := [.lit (.bool false)], args := [] }
  | _ => none }
def DealNamesWrongFalsely : Prop := dealNamesRow.holds Try.pinned (OpenSpec.ofChange dealNamesWrong)

/-- 'freeboardlaw13.DealOthers': WHATEVER THE INPUT: true; the input reads as it did. -/
def dealOthersSpec : ChangeSpec := { name := "dealOthers", fn := fun _ => fun
  | [d1, d2, d3, d4, d5, d6, d7] => { results := [.lit (.bool true)], args := [d1, d2, d3, d4, d5, d6, d7] }
  | _ => none }
def dealOthersRow : OpenClaim := { program := "ytancfgmaejjooaa", sum := "23db4cf2af2c00ae6ccca24897b0dfb8352c2d4d84ddb77f1b8959f1108bfd43", func := "freeboard/freeboardlaw13.DealOthers", spec := "dealOthers", inPlace := ["slices.overlaps[[]byte]"], unfollowed := true, recurses := true, apart := false }
def DealOthersSaid : Prop := dealOthersRow.holds Try.pinned (OpenSpec.ofChange dealOthersSpec)

/-- ITS FALSE NEIGHBOUR: 'it returns false'. Refute it at one input. -/
def dealOthersWrong : ChangeSpec := { name := "dealOthers", fn := fun _ => fun
  | [d1, d2, d3, d4, d5, d6, d7] => { results := [.lit (.bool false)], args := [d1, d2, d3, d4, d5, d6, d7] }
  | _ => none }
def DealOthersWrongFalsely : Prop := dealOthersRow.holds Try.pinned (OpenSpec.ofChange dealOthersWrong)

/-- 'freeboardlaw27.RedoLast': WHATEVER THE INPUT: true; the input reads as it did. -/
def redoLastSpec : ChangeSpec := { name := "redoLast", fn := fun _ => fun
  | [d1, d2, d3, d4, d5, d6] => { results := [.lit (.bool true)], args := [d1, d2, d3, d4, d5, d6] }
  | _ => none }
def redoLastRow : OpenClaim := { program := "ytancfgmaejjooaa", sum := "23db4cf2af2c00ae6ccca24897b0dfb8352c2d4d84ddb77f1b8959f1108bfd43", func := "freeboard/freeboardlaw27.RedoLast", spec := "redoLast", inPlace := ["slices.overlaps[int]", "slices.overlaps[[]byte]"], unfollowed := true, recurses := true, apart := false }
def RedoLastSaid : Prop := redoLastRow.holds Try.pinned (OpenSpec.ofChange redoLastSpec)

/-- ITS FALSE NEIGHBOUR: 'it returns false'. Refute it at one input. -/
def redoLastWrong : ChangeSpec := { name := "redoLast", fn := fun _ => fun
  | [d1, d2, d3, d4, d5, d6] => { results := [.lit (.bool false)], args := [d1, d2, d3, d4, d5, d6] }
  | _ => none }
def RedoLastWrongFalsely : Prop := redoLastRow.holds Try.pinned (OpenSpec.ofChange redoLastWrong)

/-- 'freeboardlaw27.RedoTwice': WHATEVER THE INPUT: true; the input reads as it did. -/
def redoTwiceSpec : ChangeSpec := { name := "redoTwice", fn := fun _ => fun
  | [d1, d2, d3, d4, d5, d6] => { results := [.lit (.bool true)], args := [d1, d2, d3, d4, d5, d6] }
  | _ => none }
def redoTwiceRow : OpenClaim := { program := "ytancfgmaejjooaa", sum := "23db4cf2af2c00ae6ccca24897b0dfb8352c2d4d84ddb77f1b8959f1108bfd43", func := "freeboard/freeboardlaw27.RedoTwice", spec := "redoTwice", inPlace := ["slices.overlaps[int]", "slices.overlaps[[]byte]"], unfollowed := true, recurses := true, apart := false }
def RedoTwiceSaid : Prop := redoTwiceRow.holds Try.pinned (OpenSpec.ofChange redoTwiceSpec)

/-- ITS FALSE NEIGHBOUR: 'it returns false'. Refute it at one input. -/
def redoTwiceWrong : ChangeSpec := { name := "redoTwice", fn := fun _ => fun
  | [d1, d2, d3, d4, d5, d6] => { results := [.lit (.bool false)], args := [d1, d2, d3, d4, d5, d6] }
  | _ => none }
def RedoTwiceWrongFalsely : Prop := redoTwiceRow.holds Try.pinned (OpenSpec.ofChange redoTwiceWrong)

/-- 'freeboardlaw15.ScanOlder': WHATEVER THE INPUT: true; the input reads as it did. -/
def scanOlderSpec : ChangeSpec := { name := "scanOlder", fn := fun _ => fun
  | [d1, d2] => { results := [.lit (.bool true)], args := [d1, d2] }
  | _ => none }
def scanOlderRow : OpenClaim := { program := "ytancfgmaejjooaa", sum := "23db4cf2af2c00ae6ccca24897b0dfb8352c2d4d84ddb77f1b8959f1108bfd43", func := "freeboard/freeboardlaw15.ScanOlder", spec := "scanOlder", inPlace := ["slices.overlaps[[]byte]"], unfollowed := true, recurses := true, apart := false }
def ScanOlderSaid : Prop := scanOlderRow.holds Try.pinned (OpenSpec.ofChange scanOlderSpec)

/-- ITS FALSE NEIGHBOUR: 'it returns false'. Refute it at one input. -/
def scanOlderWrong : ChangeSpec := { name := "scanOlder", fn := fun _ => fun
  | [d1, d2] => { results := [.lit (.bool false)], args := [d1, d2] }
  | _ => none }
def ScanOlderWrongFalsely : Prop := scanOlderRow.holds Try.pinned (OpenSpec.ofChange scanOlderWrong)

/-- 'freeboardlaw15.ScanEnds': WHATEVER THE INPUT: true; the input reads as it did. -/
def scanEndsSpec : ChangeSpec := { name := "scanEnds", fn := fun _ => fun
  | [d1, d2] => { results := [.lit (.bool true)], args := [d1, d2] }
  | _ => none }
def scanEndsRow : OpenClaim := { program := "ytancfgmaejjooaa", sum := "23db4cf2af2c00ae6ccca24897b0dfb8352c2d4d84ddb77f1b8959f1108bfd43", func := "freeboard/freeboardlaw15.ScanEnds", spec := "scanEnds", inPlace := ["slices.overlaps[[]byte]"], unfollowed := true, recurses := true, apart := false }
def ScanEndsSaid : Prop := scanEndsRow.holds Try.pinned (OpenSpec.ofChange scanEndsSpec)

/-- ITS FALSE NEIGHBOUR: 'it returns false'. Refute it at one input. -/
def scanEndsWrong : ChangeSpec := { name := "scanEnds", fn := fun _ => fun
  | [d1, d2] => { results := [.lit (.bool false)], args := [d1, d2] }
  | _ => none }
def ScanEndsWrongFalsely : Prop := scanEndsRow.holds Try.pinned (OpenSpec.ofChange scanEndsWrong)

/-- 'freeboardlaw15.ScanNames': WHATEVER THE INPUT: true; the input reads as it did. -/
def scanNamesSpec : ChangeSpec := { name := "scanNames", fn := fun _ => fun
  | [] => { results := [.lit (.bool true)], args := [] }
  | _ => none }
def scanNamesRow : OpenClaim := { program := "ytancfgmaejjooaa", sum := "23db4cf2af2c00ae6ccca24897b0dfb8352c2d4d84ddb77f1b8959f1108bfd43", func := "freeboard/freeboardlaw15.ScanNames", spec := "scanNames", inPlace := ["slices.overlaps[[]byte]"], unfollowed := true, recurses := true, apart := false }
def ScanNamesSaid : Prop := scanNamesRow.holds Try.pinned (OpenSpec.ofChange scanNamesSpec)

/-- ITS FALSE NEIGHBOUR: 'it returns false'. Refute it at one input. -/
def scanNamesWrong : ChangeSpec := { name := "scanNames", fn := fun _ => fun
  | [] => { results := [.lit (.bool false)], args := [] }
  | _ => none }
def ScanNamesWrongFalsely : Prop := scanNamesRow.holds Try.pinned (OpenSpec.ofChange scanNamesWrong)

/-- 'freeboardlaw15.ScanFlushed': WHATEVER THE INPUT: true; the input reads as it did. -/
def scanFlushedSpec : ChangeSpec := { name := "scanFlushed", fn := fun _ => fun
  | [d1, d2] => { results := [.lit (.bool true)], args := [d1, d2] }
  | _ => none }
def scanFlushedRow : OpenClaim := { program := "ytancfgmaejjooaa", sum := "23db4cf2af2c00ae6ccca24897b0dfb8352c2d4d84ddb77f1b8959f1108bfd43", func := "freeboard/freeboardlaw15.ScanFlushed", spec := "scanFlushed", inPlace := ["slices.overlaps[[]byte]"], unfollowed := true, recurses := true, apart := false }
def ScanFlushedSaid : Prop := scanFlushedRow.holds Try.pinned (OpenSpec.ofChange scanFlushedSpec)

/-- ITS FALSE NEIGHBOUR: 'it returns false'. Refute it at one input. -/
def scanFlushedWrong : ChangeSpec := { name := "scanFlushed", fn := fun _ => fun
  | [d1, d2] => { results := [.lit (.bool false)], args := [d1, d2] }
  | _ => none }
def ScanFlushedWrongFalsely : Prop := scanFlushedRow.holds Try.pinned (OpenSpec.ofChange scanFlushedWrong)

/- THE SECOND FORM. 'bulk': how many values and letters a reading holds, each counted each time it is reached (what is shared counts as often as it is met; a slice's spare places count too). A statement '..UptoSaid' is the law's where the arguments, and the package variables that the reading takes, are together of bulk at most 1048576: NARROWER than '..Said'. Prove '..Said' where nothing that the law and all that it calls make is longer than what came in: it says more and counts as full. Else prove '..UptoSaid'. A law counts once. -/
mutual
def uptoBulk {H : Type} : DataW H → Nat
  | .lit (.string bytes) => bytes.length + 1
  | .lit _ => 1
  | .nil => 1
  | .ptr d => uptoBulk d + 1
  | .slice elems spare => uptoBulkAll elems + uptoBulkAll spare + 1
  | .agg parts => uptoBulkAll parts + 1
  | .iface _ d => uptoBulk d + 1
  | .map entries => uptoBulkEntries entries + 1
  | .held _ => 1
def uptoBulkAll {H : Type} : List (DataW H) → Nat
  | [] => 0
  | d :: r => uptoBulk d + uptoBulkAll r
def uptoBulkEntries {H : Type} : List (Lit × DataW H) → Nat
  | [] => 0
  | x :: r => uptoBulkEntry x + uptoBulkEntries r
def uptoBulkEntry {H : Type} : Lit × DataW H → Nat
  | (.string bytes, d) => bytes.length + uptoBulk d + 1
  | (_, d) => uptoBulk d + 1
 end
def uptoSmall : (H : Type) → List (DataW H) → Bool := fun _ ds => decide (uptoBulkAll ds ≤ 1048576)
def OpenSpec.upto (s : _root_.Go.ChangeSpec) : _root_.Go.OpenSpec := { _root_.Go.OpenSpec.ofChange s with cond := some uptoSmall }

/-- 'freeboardlaw13.DealReads', WHERE WHAT IT READS IS OF BULK AT MOST 1048576: true; the input reads as it did. -/
def dealReadsUptoRow : OpenClaim := { program := "ytancfgmaejjooaa", sum := "23db4cf2af2c00ae6ccca24897b0dfb8352c2d4d84ddb77f1b8959f1108bfd43", func := "freeboard/freeboardlaw13.DealReads", spec := "dealReads", unfollowed := true, recurses := true, apart := false, narrowed := true }
def DealReadsUptoSaid : Prop := dealReadsUptoRow.holds Try.pinned (OpenSpec.upto dealReadsSpec)

/-- 'freeboardlaw27.RedoNames', WHERE WHAT IT READS IS OF BULK AT MOST 1048576: true; the input reads as it did. -/
def redoNamesUptoRow : OpenClaim := { program := "ytancfgmaejjooaa", sum := "23db4cf2af2c00ae6ccca24897b0dfb8352c2d4d84ddb77f1b8959f1108bfd43", func := "freeboard/freeboardlaw27.RedoNames", spec := "redoNames", inPlace := ["slices.overlaps[int]", "slices.overlaps[[]byte]"], unfollowed := true, recurses := true, apart := false, narrowed := true }
def RedoNamesUptoSaid : Prop := redoNamesUptoRow.holds Try.pinned (OpenSpec.upto redoNamesSpec)

/-- 'freeboardlaw27.RedoBegins', WHERE WHAT IT READS IS OF BULK AT MOST 1048576: true; the input reads as it did. -/
def redoBeginsUptoRow : OpenClaim := { program := "ytancfgmaejjooaa", sum := "23db4cf2af2c00ae6ccca24897b0dfb8352c2d4d84ddb77f1b8959f1108bfd43", func := "freeboard/freeboardlaw27.RedoBegins", spec := "redoBegins", inPlace := ["slices.overlaps[int]", "slices.overlaps[[]byte]"], unfollowed := true, recurses := true, apart := false, narrowed := true }
def RedoBeginsUptoSaid : Prop := redoBeginsUptoRow.holds Try.pinned (OpenSpec.upto redoBeginsSpec)

/-- 'freeboardlaw15.ScanTells', WHERE WHAT IT READS IS OF BULK AT MOST 1048576: true; the input reads as it did. -/
def scanTellsUptoRow : OpenClaim := { program := "ytancfgmaejjooaa", sum := "23db4cf2af2c00ae6ccca24897b0dfb8352c2d4d84ddb77f1b8959f1108bfd43", func := "freeboard/freeboardlaw15.ScanTells", spec := "scanTells", unfollowed := true, recurses := true, apart := false, narrowed := true }
def ScanTellsUptoSaid : Prop := scanTellsUptoRow.holds Try.pinned (OpenSpec.upto scanTellsSpec)

/-- 'freeboardlaw13.DealShort', WHERE WHAT IT READS IS OF BULK AT MOST 1048576: true; the input reads as it did. -/
def dealShortUptoRow : OpenClaim := { program := "ytancfgmaejjooaa", sum := "23db4cf2af2c00ae6ccca24897b0dfb8352c2d4d84ddb77f1b8959f1108bfd43", func := "freeboard/freeboardlaw13.DealShort", spec := "dealShort", inPlace := ["slices.overlaps[[]byte]"], unfollowed := true, recurses := true, apart := false, narrowed := true }
def DealShortUptoSaid : Prop := dealShortUptoRow.holds Try.pinned (OpenSpec.upto dealShortSpec)

/-- 'freeboardlaw13.DealOnly', WHERE WHAT IT READS IS OF BULK AT MOST 1048576: true; the input reads as it did. -/
def dealOnlyUptoRow : OpenClaim := { program := "ytancfgmaejjooaa", sum := "23db4cf2af2c00ae6ccca24897b0dfb8352c2d4d84ddb77f1b8959f1108bfd43", func := "freeboard/freeboardlaw13.DealOnly", spec := "dealOnly", inPlace := ["slices.overlaps[[]byte]"], unfollowed := true, recurses := true, apart := false, narrowed := true }
def DealOnlyUptoSaid : Prop := dealOnlyUptoRow.holds Try.pinned (OpenSpec.upto dealOnlySpec)

/-- 'freeboardlaw13.DealMarks', WHERE WHAT IT READS IS OF BULK AT MOST 1048576: true; the input reads as it did. -/
def dealMarksUptoRow : OpenClaim := { program := "ytancfgmaejjooaa", sum := "23db4cf2af2c00ae6ccca24897b0dfb8352c2d4d84ddb77f1b8959f1108bfd43", func := "freeboard/freeboardlaw13.DealMarks", spec := "dealMarks", inPlace := ["slices.overlaps[[]byte]"], unfollowed := true, recurses := true, apart := false, narrowed := true }
def DealMarksUptoSaid : Prop := dealMarksUptoRow.holds Try.pinned (OpenSpec.upto dealMarksSpec)

/-- 'freeboardlaw13.DealBack', WHERE WHAT IT READS IS OF BULK AT MOST 1048576: true; the input reads as it did. -/
def dealBackUptoRow : OpenClaim := { program := "ytancfgmaejjooaa", sum := "23db4cf2af2c00ae6ccca24897b0dfb8352c2d4d84ddb77f1b8959f1108bfd43", func := "freeboard/freeboardlaw13.DealBack", spec := "dealBack", inPlace := ["slices.overlaps[[]byte]"], unfollowed := true, recurses := true, apart := false, narrowed := true }
def DealBackUptoSaid : Prop := dealBackUptoRow.holds Try.pinned (OpenSpec.upto dealBackSpec)

/-- 'freeboardlaw13.DealNames', WHERE WHAT IT READS IS OF BULK AT MOST 1048576: true; the input reads as it did. -/
def dealNamesUptoRow : OpenClaim := { program := "ytancfgmaejjooaa", sum := "23db4cf2af2c00ae6ccca24897b0dfb8352c2d4d84ddb77f1b8959f1108bfd43", func := "freeboard/freeboardlaw13.DealNames", spec := "dealNames", inPlace := ["slices.overlaps[[]byte]"], unfollowed := true, recurses := true, apart := false, narrowed := true }
def DealNamesUptoSaid : Prop := dealNamesUptoRow.holds Try.pinned (OpenSpec.upto dealNamesSpec)

/-- 'freeboardlaw13.DealOthers', WHERE WHAT IT READS IS OF BULK AT MOST 1048576: true; the input reads as it did. -/
def dealOthersUptoRow : OpenClaim := { program := "ytancfgmaejjooaa", sum := "23db4cf2af2c00ae6ccca24897b0dfb8352c2d4d84ddb77f1b8959f1108bfd43", func := "freeboard/freeboardlaw13.DealOthers", spec := "dealOthers", inPlace := ["slices.overlaps[[]byte]"], unfollowed := true, recurses := true, apart := false, narrowed := true }
def DealOthersUptoSaid : Prop := dealOthersUptoRow.holds Try.pinned (OpenSpec.upto dealOthersSpec)

/-- 'freeboardlaw27.RedoLast', WHERE WHAT IT READS IS OF BULK AT MOST 1048576: true; the input reads as it did. -/
def redoLastUptoRow : OpenClaim := { program := "ytancfgmaejjooaa", sum := "23db4cf2af2c00ae6ccca24897b0dfb8352c2d4d84ddb77f1b8959f1108bfd43", func := "freeboard/freeboardlaw27.RedoLast", spec := "redoLast", inPlace := ["slices.overlaps[int]", "slices.overlaps[[]byte]"], unfollowed := true, recurses := true, apart := false, narrowed := true }
def RedoLastUptoSaid : Prop := redoLastUptoRow.holds Try.pinned (OpenSpec.upto redoLastSpec)

/-- 'freeboardlaw27.RedoTwice', WHERE WHAT IT READS IS OF BULK AT MOST 1048576: true; the input reads as it did. -/
def redoTwiceUptoRow : OpenClaim := { program := "ytancfgmaejjooaa", sum := "23db4cf2af2c00ae6ccca24897b0dfb8352c2d4d84ddb77f1b8959f1108bfd43", func := "freeboard/freeboardlaw27.RedoTwice", spec := "redoTwice", inPlace := ["slices.overlaps[int]", "slices.overlaps[[]byte]"], unfollowed := true, recurses := true, apart := false, narrowed := true }
def RedoTwiceUptoSaid : Prop := redoTwiceUptoRow.holds Try.pinned (OpenSpec.upto redoTwiceSpec)

/-- 'freeboardlaw15.ScanOlder', WHERE WHAT IT READS IS OF BULK AT MOST 1048576: true; the input reads as it did. -/
def scanOlderUptoRow : OpenClaim := { program := "ytancfgmaejjooaa", sum := "23db4cf2af2c00ae6ccca24897b0dfb8352c2d4d84ddb77f1b8959f1108bfd43", func := "freeboard/freeboardlaw15.ScanOlder", spec := "scanOlder", inPlace := ["slices.overlaps[[]byte]"], unfollowed := true, recurses := true, apart := false, narrowed := true }
def ScanOlderUptoSaid : Prop := scanOlderUptoRow.holds Try.pinned (OpenSpec.upto scanOlderSpec)

/-- 'freeboardlaw15.ScanEnds', WHERE WHAT IT READS IS OF BULK AT MOST 1048576: true; the input reads as it did. -/
def scanEndsUptoRow : OpenClaim := { program := "ytancfgmaejjooaa", sum := "23db4cf2af2c00ae6ccca24897b0dfb8352c2d4d84ddb77f1b8959f1108bfd43", func := "freeboard/freeboardlaw15.ScanEnds", spec := "scanEnds", inPlace := ["slices.overlaps[[]byte]"], unfollowed := true, recurses := true, apart := false, narrowed := true }
def ScanEndsUptoSaid : Prop := scanEndsUptoRow.holds Try.pinned (OpenSpec.upto scanEndsSpec)

/-- 'freeboardlaw15.ScanNames', WHERE WHAT IT READS IS OF BULK AT MOST 1048576: true; the input reads as it did. -/
def scanNamesUptoRow : OpenClaim := { program := "ytancfgmaejjooaa", sum := "23db4cf2af2c00ae6ccca24897b0dfb8352c2d4d84ddb77f1b8959f1108bfd43", func := "freeboard/freeboardlaw15.ScanNames", spec := "scanNames", inPlace := ["slices.overlaps[[]byte]"], unfollowed := true, recurses := true, apart := false, narrowed := true }
def ScanNamesUptoSaid : Prop := scanNamesUptoRow.holds Try.pinned (OpenSpec.upto scanNamesSpec)

/-- 'freeboardlaw15.ScanFlushed', WHERE WHAT IT READS IS OF BULK AT MOST 1048576: true; the input reads as it did. -/
def scanFlushedUptoRow : OpenClaim := { program := "ytancfgmaejjooaa", sum := "23db4cf2af2c00ae6ccca24897b0dfb8352c2d4d84ddb77f1b8959f1108bfd43", func := "freeboard/freeboardlaw15.ScanFlushed", spec := "scanFlushed", inPlace := ["slices.overlaps[[]byte]"], unfollowed := true, recurses := true, apart := false, narrowed := true }
def ScanFlushedUptoSaid : Prop := scanFlushedUptoRow.holds Try.pinned (OpenSpec.upto scanFlushedSpec)

end Rows
end Go.Proofs.Ytancfgmaejjooaa
