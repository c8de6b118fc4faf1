/-
  No cell of these rows narrows 'for every input' (looked for: loops, veiled, ifaces, maps, wideKeys, modest, calm, conditions, laid).
  DERIVED. THE GIVEN ROWS OF THIS SEAT. 14 by the template 'for every input the law returns true; each argument reads behind the call as it read before'; 0 by the template 'total and deterministic' (their statements: YtilmmohkdgmhnaaTotals.lean).
  GIVEN WITH THE SEED: the statements are not yours to turn. If you find one false, say at which input.
  Laid BY PROGRAM, IN A SANDBOX (cutbox-rows.mjs): the forced cells as the released guide's own fill.sh prints them over the translation fed041a877d2fd62… (all of the seat's roots in one cut). By AI agents, Wed Nov 11 2026. No macro, syntax, notation, axiom, sorry.
-/
import Derived.Test.YtilmmohkdgmhnaaChecked
import GoSem.Claim
import GoSem.ClaimJoined
import GoSem.ClaimMapViews
import Derived.JoinedTies
import Derived.KernelRfl
namespace Go.Proofs.Ytilmmohkdgmhnaa
/- THE CELL 'sum', in the pinned program and in every row, IS THE sha256 OF THE DUMP (.gsa) THAT YtilmmohkdgmhnaaProg.lean LOADS. Nothing in Lean hashes anything: it is a label: what it is worth is what the hold of that sum in a sandbox is worth. -/
noncomputable def Try.pinned : Pinned := { name := "ytilmmohkdgmhnaa", sum := "fed041a877d2fd62931368f8b704c41bcf0acbfd64dba9076d34f76cdc7a5c9b", checked := Try.checked }
namespace Rows
def none {H : Type} : Left H := { results := [], args := [] }

/-- 'hawserlaw04.FrameNames': WHATEVER THE INPUT: true; the input reads as it did. -/
def frameNamesSpec : ChangeSpec := { name := "frameNames", fn := fun _ => fun
  | [] => { results := [.lit (.bool true)], args := [] }
  | _ => none }
def frameNamesRow : OpenClaim := { program := "ytilmmohkdgmhnaa", sum := "fed041a877d2fd62931368f8b704c41bcf0acbfd64dba9076d34f76cdc7a5c9b", func := "hawser/hawserlaw04.FrameNames", spec := "frameNames", apart := false }
def FrameNamesSaid : Prop := frameNamesRow.holds Try.pinned (OpenSpec.ofChange frameNamesSpec)

/-- ITS FALSE NEIGHBOUR: 'it returns false'. Refute it at one input. -/
def frameNamesWrong : ChangeSpec := { name := "frameNames", fn := fun _ => fun
  | [] => { results := [.lit (.bool false)], args := [] }
  | _ => none }
def FrameNamesWrongFalsely : Prop := frameNamesRow.holds Try.pinned (OpenSpec.ofChange frameNamesWrong)

/-- 'hawserlaw04.FrameEncodes': WHATEVER THE INPUT: true; the input reads as it did. -/
def frameEncodesSpec : ChangeSpec := { name := "frameEncodes", fn := fun _ => fun
  | [d] => { results := [.lit (.bool true)], args := [d] }
  | _ => none }
def frameEncodesRow : OpenClaim := { program := "ytilmmohkdgmhnaa", sum := "fed041a877d2fd62931368f8b704c41bcf0acbfd64dba9076d34f76cdc7a5c9b", func := "hawser/hawserlaw04.FrameEncodes", spec := "frameEncodes", apart := false }
def FrameEncodesSaid : Prop := frameEncodesRow.holds Try.pinned (OpenSpec.ofChange frameEncodesSpec)

/-- ITS FALSE NEIGHBOUR: 'it returns false'. Refute it at one input. -/
def frameEncodesWrong : ChangeSpec := { name := "frameEncodes", fn := fun _ => fun
  | [d] => { results := [.lit (.bool false)], args := [d] }
  | _ => none }
def FrameEncodesWrongFalsely : Prop := frameEncodesRow.holds Try.pinned (OpenSpec.ofChange frameEncodesWrong)

/-- 'hawserlaw04.FrameDecodes': WHATEVER THE INPUT: true; the input reads as it did. -/
def frameDecodesSpec : ChangeSpec := { name := "frameDecodes", fn := fun _ => fun
  | [d] => { results := [.lit (.bool true)], args := [d] }
  | _ => none }
def frameDecodesRow : OpenClaim := { program := "ytilmmohkdgmhnaa", sum := "fed041a877d2fd62931368f8b704c41bcf0acbfd64dba9076d34f76cdc7a5c9b", func := "hawser/hawserlaw04.FrameDecodes", spec := "frameDecodes", apart := false }
def FrameDecodesSaid : Prop := frameDecodesRow.holds Try.pinned (OpenSpec.ofChange frameDecodesSpec)

/-- ITS FALSE NEIGHBOUR: 'it returns false'. Refute it at one input. -/
def frameDecodesWrong : ChangeSpec := { name := "frameDecodes", fn := fun _ => fun
  | [d] => { results := [.lit (.bool false)], args := [d] }
  | _ => none }
def FrameDecodesWrongFalsely : Prop := frameDecodesRow.holds Try.pinned (OpenSpec.ofChange frameDecodesWrong)

/-- 'hawsertop.WholeSpoilt': WHATEVER THE INPUT: true; the input reads as it did. -/
def wholeSpoiltSpec : ChangeSpec := { name := "wholeSpoilt", fn := fun _ => fun
  | [d1, d2, d3] => { results := [.lit (.bool true)], args := [d1, d2, d3] }
  | _ => none }
def wholeSpoiltRow : OpenClaim := { program := "ytilmmohkdgmhnaa", sum := "fed041a877d2fd62931368f8b704c41bcf0acbfd64dba9076d34f76cdc7a5c9b", func := "hawser/hawsertop.WholeSpoilt", spec := "wholeSpoilt", unfollowed := true, recurses := true, apart := false }
def WholeSpoiltSaid : Prop := wholeSpoiltRow.holds Try.pinned (OpenSpec.ofChange wholeSpoiltSpec)

/-- ITS FALSE NEIGHBOUR: 'it returns false'. Refute it at one input. -/
def wholeSpoiltWrong : ChangeSpec := { name := "wholeSpoilt", fn := fun _ => fun
  | [d1, d2, d3] => { results := [.lit (.bool false)], args := [d1, d2, d3] }
  | _ => none }
def WholeSpoiltWrongFalsely : Prop := wholeSpoiltRow.holds Try.pinned (OpenSpec.ofChange wholeSpoiltWrong)

/-- 'hawserlaw04.FrameOnes': WHATEVER THE INPUT: true; the input reads as it did. -/
def frameOnesSpec : ChangeSpec := { name := "frameOnes", fn := fun _ => fun
  | [d] => { results := [.lit (.bool true)], args := [d] }
  | _ => none }
def frameOnesRow : OpenClaim := { program := "ytilmmohkdgmhnaa", sum := "fed041a877d2fd62931368f8b704c41bcf0acbfd64dba9076d34f76cdc7a5c9b", func := "hawser/hawserlaw04.FrameOnes", spec := "frameOnes", apart := false }
def FrameOnesSaid : Prop := frameOnesRow.holds Try.pinned (OpenSpec.ofChange frameOnesSpec)

/-- ITS FALSE NEIGHBOUR: 'it returns false'. Refute it at one input. -/
def frameOnesWrong : ChangeSpec := { name := "frameOnes", fn := fun _ => fun
  | [d] => { results := [.lit (.bool false)], args := [d] }
  | _ => none }
def FrameOnesWrongFalsely : Prop := frameOnesRow.holds Try.pinned (OpenSpec.ofChange frameOnesWrong)

/-- 'hawserlaw04.FrameRound': WHATEVER THE INPUT: true; the input reads as it did. -/
def frameRoundSpec : ChangeSpec := { name := "frameRound", fn := fun _ => fun
  | [d1, d2] => { results := [.lit (.bool true)], args := [d1, d2] }
  | _ => none }
def frameRoundRow : OpenClaim := { program := "ytilmmohkdgmhnaa", sum := "fed041a877d2fd62931368f8b704c41bcf0acbfd64dba9076d34f76cdc7a5c9b", func := "hawser/hawserlaw04.FrameRound", spec := "frameRound", apart := false }
def FrameRoundSaid : Prop := frameRoundRow.holds Try.pinned (OpenSpec.ofChange frameRoundSpec)

/-- ITS FALSE NEIGHBOUR: 'it returns false'. Refute it at one input. -/
def frameRoundWrong : ChangeSpec := { name := "frameRound", fn := fun _ => fun
  | [d1, d2] => { results := [.lit (.bool false)], args := [d1, d2] }
  | _ => none }
def FrameRoundWrongFalsely : Prop := frameRoundRow.holds Try.pinned (OpenSpec.ofChange frameRoundWrong)

/-- 'hawserlaw04.FrameCanon': WHATEVER THE INPUT: true; the input reads as it did. -/
def frameCanonSpec : ChangeSpec := { name := "frameCanon", fn := fun _ => fun
  | [d1, d2] => { results := [.lit (.bool true)], args := [d1, d2] }
  | _ => none }
def frameCanonRow : OpenClaim := { program := "ytilmmohkdgmhnaa", sum := "fed041a877d2fd62931368f8b704c41bcf0acbfd64dba9076d34f76cdc7a5c9b", func := "hawser/hawserlaw04.FrameCanon", spec := "frameCanon", apart := false }
def FrameCanonSaid : Prop := frameCanonRow.holds Try.pinned (OpenSpec.ofChange frameCanonSpec)

/-- ITS FALSE NEIGHBOUR: 'it returns false'. Refute it at one input. -/
def frameCanonWrong : ChangeSpec := { name := "frameCanon", fn := fun _ => fun
  | [d1, d2] => { results := [.lit (.bool false)], args := [d1, d2] }
  | _ => none }
def FrameCanonWrongFalsely : Prop := frameCanonRow.holds Try.pinned (OpenSpec.ofChange frameCanonWrong)

/-- 'hawserlaw04.FrameSplits': WHATEVER THE INPUT: true; the input reads as it did. -/
def frameSplitsSpec : ChangeSpec := { name := "frameSplits", fn := fun _ => fun
  | [d1, d2] => { results := [.lit (.bool true)], args := [d1, d2] }
  | _ => none }
def frameSplitsRow : OpenClaim := { program := "ytilmmohkdgmhnaa", sum := "fed041a877d2fd62931368f8b704c41bcf0acbfd64dba9076d34f76cdc7a5c9b", func := "hawser/hawserlaw04.FrameSplits", spec := "frameSplits", unfollowed := true, recurses := true, apart := false }
def FrameSplitsSaid : Prop := frameSplitsRow.holds Try.pinned (OpenSpec.ofChange frameSplitsSpec)

/-- ITS FALSE NEIGHBOUR: 'it returns false'. Refute it at one input. -/
def frameSplitsWrong : ChangeSpec := { name := "frameSplits", fn := fun _ => fun
  | [d1, d2] => { results := [.lit (.bool false)], args := [d1, d2] }
  | _ => none }
def FrameSplitsWrongFalsely : Prop := frameSplitsRow.holds Try.pinned (OpenSpec.ofChange frameSplitsWrong)

/-- 'hawserlaw04.FrameNil': WHATEVER THE INPUT: true; the input reads as it did. -/
def frameNilSpec : ChangeSpec := { name := "frameNil", fn := fun _ => fun
  | [d] => { results := [.lit (.bool true)], args := [d] }
  | _ => none }
def frameNilRow : OpenClaim := { program := "ytilmmohkdgmhnaa", sum := "fed041a877d2fd62931368f8b704c41bcf0acbfd64dba9076d34f76cdc7a5c9b", func := "hawser/hawserlaw04.FrameNil", spec := "frameNil", unfollowed := true, recurses := true, apart := false }
def FrameNilSaid : Prop := frameNilRow.holds Try.pinned (OpenSpec.ofChange frameNilSpec)

/-- ITS FALSE NEIGHBOUR: 'it returns false'. Refute it at one input. -/
def frameNilWrong : ChangeSpec := { name := "frameNil", fn := fun _ => fun
  | [d] => { results := [.lit (.bool false)], args := [d] }
  | _ => none }
def FrameNilWrongFalsely : Prop := frameNilRow.holds Try.pinned (OpenSpec.ofChange frameNilWrong)

/-- 'hawserlaw04.FrameCuts': WHATEVER THE INPUT: true; the input reads as it did. -/
def frameCutsSpec : ChangeSpec := { name := "frameCuts", fn := fun _ => fun
  | [d1, d2] => { results := [.lit (.bool true)], args := [d1, d2] }
  | _ => none }
def frameCutsRow : OpenClaim := { program := "ytilmmohkdgmhnaa", sum := "fed041a877d2fd62931368f8b704c41bcf0acbfd64dba9076d34f76cdc7a5c9b", func := "hawser/hawserlaw04.FrameCuts", spec := "frameCuts", unfollowed := true, recurses := true, apart := false }
def FrameCutsSaid : Prop := frameCutsRow.holds Try.pinned (OpenSpec.ofChange frameCutsSpec)

/-- ITS FALSE NEIGHBOUR: 'it returns false'. Refute it at one input. -/
def frameCutsWrong : ChangeSpec := { name := "frameCuts", fn := fun _ => fun
  | [d1, d2] => { results := [.lit (.bool false)], args := [d1, d2] }
  | _ => none }
def FrameCutsWrongFalsely : Prop := frameCutsRow.holds Try.pinned (OpenSpec.ofChange frameCutsWrong)

/-- 'hawserlaw04.FrameFound': WHATEVER THE INPUT: true; the input reads as it did. -/
def frameFoundSpec : ChangeSpec := { name := "frameFound", fn := fun _ => fun
  | [d1, d2, d3] => { results := [.lit (.bool true)], args := [d1, d2, d3] }
  | _ => none }
def frameFoundRow : OpenClaim := { program := "ytilmmohkdgmhnaa", sum := "fed041a877d2fd62931368f8b704c41bcf0acbfd64dba9076d34f76cdc7a5c9b", func := "hawser/hawserlaw04.FrameFound", spec := "frameFound", unfollowed := true, recurses := true, apart := false }
def FrameFoundSaid : Prop := frameFoundRow.holds Try.pinned (OpenSpec.ofChange frameFoundSpec)

/-- ITS FALSE NEIGHBOUR: 'it returns false'. Refute it at one input. -/
def frameFoundWrong : ChangeSpec := { name := "frameFound", fn := fun _ => fun
  | [d1, d2, d3] => { results := [.lit (.bool false)], args := [d1, d2, d3] }
  | _ => none }
def FrameFoundWrongFalsely : Prop := frameFoundRow.holds Try.pinned (OpenSpec.ofChange frameFoundWrong)

/-- 'hawserlaw04.FrameOwn': WHATEVER THE INPUT: true; the input reads as it did. -/
def frameOwnSpec : ChangeSpec := { name := "frameOwn", fn := fun _ => fun
  | [d] => { results := [.lit (.bool true)], args := [d] }
  | _ => none }
def frameOwnRow : OpenClaim := { program := "ytilmmohkdgmhnaa", sum := "fed041a877d2fd62931368f8b704c41bcf0acbfd64dba9076d34f76cdc7a5c9b", func := "hawser/hawserlaw04.FrameOwn", spec := "frameOwn", unfollowed := true, recurses := true, apart := false }
def FrameOwnSaid : Prop := frameOwnRow.holds Try.pinned (OpenSpec.ofChange frameOwnSpec)

/-- ITS FALSE NEIGHBOUR: 'it returns false'. Refute it at one input. -/
def frameOwnWrong : ChangeSpec := { name := "frameOwn", fn := fun _ => fun
  | [d] => { results := [.lit (.bool false)], args := [d] }
  | _ => none }
def FrameOwnWrongFalsely : Prop := frameOwnRow.holds Try.pinned (OpenSpec.ofChange frameOwnWrong)

/-- 'hawserlaw04.FrameFlips': WHATEVER THE INPUT: true; the input reads as it did. -/
def frameFlipsSpec : ChangeSpec := { name := "frameFlips", fn := fun _ => fun
  | [d1, d2] => { results := [.lit (.bool true)], args := [d1, d2] }
  | _ => none }
def frameFlipsRow : OpenClaim := { program := "ytilmmohkdgmhnaa", sum := "fed041a877d2fd62931368f8b704c41bcf0acbfd64dba9076d34f76cdc7a5c9b", func := "hawser/hawserlaw04.FrameFlips", spec := "frameFlips", unfollowed := true, recurses := true, apart := false }
def FrameFlipsSaid : Prop := frameFlipsRow.holds Try.pinned (OpenSpec.ofChange frameFlipsSpec)

/-- ITS FALSE NEIGHBOUR: 'it returns false'. Refute it at one input. -/
def frameFlipsWrong : ChangeSpec := { name := "frameFlips", fn := fun _ => fun
  | [d1, d2] => { results := [.lit (.bool false)], args := [d1, d2] }
  | _ => none }
def FrameFlipsWrongFalsely : Prop := frameFlipsRow.holds Try.pinned (OpenSpec.ofChange frameFlipsWrong)

/-- 'hawserlaw04.FrameRuns': WHATEVER THE INPUT: true; the input reads as it did. -/
def frameRunsSpec : ChangeSpec := { name := "frameRuns", fn := fun _ => fun
  | [d1, d2, d3] => { results := [.lit (.bool true)], args := [d1, d2, d3] }
  | _ => none }
def frameRunsRow : OpenClaim := { program := "ytilmmohkdgmhnaa", sum := "fed041a877d2fd62931368f8b704c41bcf0acbfd64dba9076d34f76cdc7a5c9b", func := "hawser/hawserlaw04.FrameRuns", spec := "frameRuns", unfollowed := true, recurses := true, apart := false }
def FrameRunsSaid : Prop := frameRunsRow.holds Try.pinned (OpenSpec.ofChange frameRunsSpec)

/-- ITS FALSE NEIGHBOUR: 'it returns false'. Refute it at one input. -/
def frameRunsWrong : ChangeSpec := { name := "frameRuns", fn := fun _ => fun
  | [d1, d2, d3] => { results := [.lit (.bool false)], args := [d1, d2, d3] }
  | _ => none }
def FrameRunsWrongFalsely : Prop := frameRunsRow.holds Try.pinned (OpenSpec.ofChange frameRunsWrong)

/- THE SECOND FORM. 'bulk': how many values and letters a reading holds, each counted each time it is reached (what is shared counts as often as it is met; a slice's spare places count too). A statement '..UptoSaid' is the law's where the arguments, and the package variables that the reading takes, are together of bulk at most 1048576: NARROWER than '..Said'. Prove '..Said' where nothing that the law and all that it calls make is longer than what came in: it says more and counts as full. Else prove '..UptoSaid'. A law counts once. -/
mutual
def uptoBulk {H : Type} : DataW H → Nat
  | .lit (.string bytes) => bytes.length + 1
  | .lit _ => 1
  | .nil => 1
  | .ptr d => uptoBulk d + 1
  | .slice elems spare => uptoBulkAll elems + uptoBulkAll spare + 1
  | .agg parts => uptoBulkAll parts + 1
  | .iface _ d => uptoBulk d + 1
  | .map entries => uptoBulkEntries entries + 1
  | .held _ => 1
def uptoBulkAll {H : Type} : List (DataW H) → Nat
  | [] => 0
  | d :: r => uptoBulk d + uptoBulkAll r
def uptoBulkEntries {H : Type} : List (Lit × DataW H) → Nat
  | [] => 0
  | x :: r => uptoBulkEntry x + uptoBulkEntries r
def uptoBulkEntry {H : Type} : Lit × DataW H → Nat
  | (.string bytes, d) => bytes.length + uptoBulk d + 1
  | (_, d) => uptoBulk d + 1
 end
def uptoSmall : (H : Type) → List (DataW H) → Bool := fun _ ds => decide (uptoBulkAll ds ≤ 1048576)
def OpenSpec.upto (s : _root_.Go.ChangeSpec) : _root_.Go.OpenSpec := { _root_.Go.OpenSpec.ofChange s with cond := some uptoSmall }

/-- 'hawserlaw04.FrameNames', WHERE WHAT IT READS IS OF BULK AT MOST 1048576: true; the input reads as it did. -/
def frameNamesUptoRow : OpenClaim := { program := "ytilmmohkdgmhnaa", sum := "fed041a877d2fd62931368f8b704c41bcf0acbfd64dba9076d34f76cdc7a5c9b", func := "hawser/hawserlaw04.FrameNames", spec := "frameNames", apart := false, narrowed := true }
def FrameNamesUptoSaid : Prop := frameNamesUptoRow.holds Try.pinned (OpenSpec.upto frameNamesSpec)

/-- 'hawserlaw04.FrameEncodes', WHERE WHAT IT READS IS OF BULK AT MOST 1048576: true; the input reads as it did. -/
def frameEncodesUptoRow : OpenClaim := { program := "ytilmmohkdgmhnaa", sum := "fed041a877d2fd62931368f8b704c41bcf0acbfd64dba9076d34f76cdc7a5c9b", func := "hawser/hawserlaw04.FrameEncodes", spec := "frameEncodes", apart := false, narrowed := true }
def FrameEncodesUptoSaid : Prop := frameEncodesUptoRow.holds Try.pinned (OpenSpec.upto frameEncodesSpec)

/-- 'hawserlaw04.FrameDecodes', WHERE WHAT IT READS IS OF BULK AT MOST 1048576: true; the input reads as it did. -/
def frameDecodesUptoRow : OpenClaim := { program := "ytilmmohkdgmhnaa", sum := "fed041a877d2fd62931368f8b704c41bcf0acbfd64dba9076d34f76cdc7a5c9b", func := "hawser/hawserlaw04.FrameDecodes", spec := "frameDecodes", apart := false, narrowed := true }
def FrameDecodesUptoSaid : Prop := frameDecodesUptoRow.holds Try.pinned (OpenSpec.upto frameDecodesSpec)

/-- 'hawsertop.WholeSpoilt', WHERE WHAT IT READS IS OF BULK AT MOST 1048576: true; the input reads as it did. -/
def wholeSpoiltUptoRow : OpenClaim := { program := "ytilmmohkdgmhnaa", sum := "fed041a877d2fd62931368f8b704c41bcf0acbfd64dba9076d34f76cdc7a5c9b", func := "hawser/hawsertop.WholeSpoilt", spec := "wholeSpoilt", unfollowed := true, recurses := true, apart := false, narrowed := true }
def WholeSpoiltUptoSaid : Prop := wholeSpoiltUptoRow.holds Try.pinned (OpenSpec.upto wholeSpoiltSpec)

/-- 'hawserlaw04.FrameOnes', WHERE WHAT IT READS IS OF BULK AT MOST 1048576: true; the input reads as it did. -/
def frameOnesUptoRow : OpenClaim := { program := "ytilmmohkdgmhnaa", sum := "fed041a877d2fd62931368f8b704c41bcf0acbfd64dba9076d34f76cdc7a5c9b", func := "hawser/hawserlaw04.FrameOnes", spec := "frameOnes", apart := false, narrowed := true }
def FrameOnesUptoSaid : Prop := frameOnesUptoRow.holds Try.pinned (OpenSpec.upto frameOnesSpec)

/-- 'hawserlaw04.FrameRound', WHERE WHAT IT READS IS OF BULK AT MOST 1048576: true; the input reads as it did. -/
def frameRoundUptoRow : OpenClaim := { program := "ytilmmohkdgmhnaa", sum := "fed041a877d2fd62931368f8b704c41bcf0acbfd64dba9076d34f76cdc7a5c9b", func := "hawser/hawserlaw04.FrameRound", spec := "frameRound", apart := false, narrowed := true }
def FrameRoundUptoSaid : Prop := frameRoundUptoRow.holds Try.pinned (OpenSpec.upto frameRoundSpec)

/-- 'hawserlaw04.FrameCanon', WHERE WHAT IT READS IS OF BULK AT MOST 1048576: true; the input reads as it did. -/
def frameCanonUptoRow : OpenClaim := { program := "ytilmmohkdgmhnaa", sum := "fed041a877d2fd62931368f8b704c41bcf0acbfd64dba9076d34f76cdc7a5c9b", func := "hawser/hawserlaw04.FrameCanon", spec := "frameCanon", apart := false, narrowed := true }
def FrameCanonUptoSaid : Prop := frameCanonUptoRow.holds Try.pinned (OpenSpec.upto frameCanonSpec)

/-- 'hawserlaw04.FrameSplits', WHERE WHAT IT READS IS OF BULK AT MOST 1048576: true; the input reads as it did. -/
def frameSplitsUptoRow : OpenClaim := { program := "ytilmmohkdgmhnaa", sum := "fed041a877d2fd62931368f8b704c41bcf0acbfd64dba9076d34f76cdc7a5c9b", func := "hawser/hawserlaw04.FrameSplits", spec := "frameSplits", unfollowed := true, recurses := true, apart := false, narrowed := true }
def FrameSplitsUptoSaid : Prop := frameSplitsUptoRow.holds Try.pinned (OpenSpec.upto frameSplitsSpec)

/-- 'hawserlaw04.FrameNil', WHERE WHAT IT READS IS OF BULK AT MOST 1048576: true; the input reads as it did. -/
def frameNilUptoRow : OpenClaim := { program := "ytilmmohkdgmhnaa", sum := "fed041a877d2fd62931368f8b704c41bcf0acbfd64dba9076d34f76cdc7a5c9b", func := "hawser/hawserlaw04.FrameNil", spec := "frameNil", unfollowed := true, recurses := true, apart := false, narrowed := true }
def FrameNilUptoSaid : Prop := frameNilUptoRow.holds Try.pinned (OpenSpec.upto frameNilSpec)

/-- 'hawserlaw04.FrameCuts', WHERE WHAT IT READS IS OF BULK AT MOST 1048576: true; the input reads as it did. -/
def frameCutsUptoRow : OpenClaim := { program := "ytilmmohkdgmhnaa", sum := "fed041a877d2fd62931368f8b704c41bcf0acbfd64dba9076d34f76cdc7a5c9b", func := "hawser/hawserlaw04.FrameCuts", spec := "frameCuts", unfollowed := true, recurses := true, apart := false, narrowed := true }
def FrameCutsUptoSaid : Prop := frameCutsUptoRow.holds Try.pinned (OpenSpec.upto frameCutsSpec)

/-- 'hawserlaw04.FrameFound', WHERE WHAT IT READS IS OF BULK AT MOST 1048576: true; the input reads as it did. -/
def frameFoundUptoRow : OpenClaim := { program := "ytilmmohkdgmhnaa", sum := "fed041a877d2fd62931368f8b704c41bcf0acbfd64dba9076d34f76cdc7a5c9b", func := "hawser/hawserlaw04.FrameFound", spec := "frameFound", unfollowed := true, recurses := true, apart := false, narrowed := true }
def FrameFoundUptoSaid : Prop := frameFoundUptoRow.holds Try.pinned (OpenSpec.upto frameFoundSpec)

/-- 'hawserlaw04.FrameOwn', WHERE WHAT IT READS IS OF BULK AT MOST 1048576: true; the input reads as it did. -/
def frameOwnUptoRow : OpenClaim := { program := "ytilmmohkdgmhnaa", sum := "fed041a877d2fd62931368f8b704c41bcf0acbfd64dba9076d34f76cdc7a5c9b", func := "hawser/hawserlaw04.FrameOwn", spec := "frameOwn", unfollowed := true, recurses := true, apart := false, narrowed := true }
def FrameOwnUptoSaid : Prop := frameOwnUptoRow.holds Try.pinned (OpenSpec.upto frameOwnSpec)

/-- 'hawserlaw04.FrameFlips', WHERE WHAT IT READS IS OF BULK AT MOST 1048576: true; the input reads as it did. -/
def frameFlipsUptoRow : OpenClaim := { program := "ytilmmohkdgmhnaa", sum := "fed041a877d2fd62931368f8b704c41bcf0acbfd64dba9076d34f76cdc7a5c9b", func := "hawser/hawserlaw04.FrameFlips", spec := "frameFlips", unfollowed := true, recurses := true, apart := false, narrowed := true }
def FrameFlipsUptoSaid : Prop := frameFlipsUptoRow.holds Try.pinned (OpenSpec.upto frameFlipsSpec)

/-- 'hawserlaw04.FrameRuns', WHERE WHAT IT READS IS OF BULK AT MOST 1048576: true; the input reads as it did. -/
def frameRunsUptoRow : OpenClaim := { program := "ytilmmohkdgmhnaa", sum := "fed041a877d2fd62931368f8b704c41bcf0acbfd64dba9076d34f76cdc7a5c9b", func := "hawser/hawserlaw04.FrameRuns", spec := "frameRuns", unfollowed := true, recurses := true, apart := false, narrowed := true }
def FrameRunsUptoSaid : Prop := frameRunsUptoRow.holds Try.pinned (OpenSpec.upto frameRunsSpec)

end Rows
end Go.Proofs.Ytilmmohkdgmhnaa
