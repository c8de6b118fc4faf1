/-
  No cell of these rows narrows 'for every input' (looked for: loops, veiled, ifaces, maps, wideKeys, modest, calm, conditions, laid).
  DERIVED. THE GIVEN ROWS OF THIS SEAT. 11 by the template 'for every input the law returns true; each argument reads behind the call as it read before'; 0 by the template 'total and deterministic' (their statements: YtlaeiipiboabaaaTotals.lean).
  GIVEN WITH THE SEED: the statements are not yours to turn. If you find one false, say at which input.
  Laid BY PROGRAM, IN A SANDBOX (cutbox-rows.mjs): the forced cells as the released guide's own fill.sh prints them over the translation 02233458d545aa5c… (all of the seat's roots in one cut). By AI agents, Wed Nov 11 2026. No macro, syntax, notation, axiom, sorry.
-/
import Derived.Test.YtlaeiipiboabaaaChecked
import GoSem.Claim
import GoSem.ClaimJoined
import GoSem.ClaimMapViews
import Derived.JoinedTies
import Derived.KernelRfl
namespace Go.Proofs.Ytlaeiipiboabaaa
/- THE CELL 'sum', in the pinned program and in every row, IS THE sha256 OF THE DUMP (.gsa) THAT YtlaeiipiboabaaaProg.lean LOADS. Nothing in Lean hashes anything: it is a label: what it is worth is what the hold of that sum in a sandbox is worth. -/
noncomputable def Try.pinned : Pinned := { name := "ytlaeiipiboabaaa", sum := "02233458d545aa5c1bfe221cb0b44f6676834172f1fc6256181a54652741ff5f", checked := Try.checked }
namespace Rows
def none {H : Type} : Left H := { results := [], args := [] }

/-- 'hawserlaw03.PackNames': WHATEVER THE INPUT: true; the input reads as it did. -/
def packNamesSpec : ChangeSpec := { name := "packNames", fn := fun _ => fun
  | [] => { results := [.lit (.bool true)], args := [] }
  | _ => none }
def packNamesRow : OpenClaim := { program := "ytlaeiipiboabaaa", sum := "02233458d545aa5c1bfe221cb0b44f6676834172f1fc6256181a54652741ff5f", func := "hawser/hawserlaw03.PackNames", spec := "packNames", apart := false }
def PackNamesSaid : Prop := packNamesRow.holds Try.pinned (OpenSpec.ofChange packNamesSpec)

/-- ITS FALSE NEIGHBOUR: 'it returns false'. Refute it at one input. -/
def packNamesWrong : ChangeSpec := { name := "packNames", fn := fun _ => fun
  | [] => { results := [.lit (.bool false)], args := [] }
  | _ => none }
def PackNamesWrongFalsely : Prop := packNamesRow.holds Try.pinned (OpenSpec.ofChange packNamesWrong)

/-- 'hawserlaw03.PackTexts': WHATEVER THE INPUT: true; the input reads as it did. -/
def packTextsSpec : ChangeSpec := { name := "packTexts", fn := fun _ => fun
  | [d1, d2] => { results := [.lit (.bool true)], args := [d1, d2] }
  | _ => none }
def packTextsRow : OpenClaim := { program := "ytlaeiipiboabaaa", sum := "02233458d545aa5c1bfe221cb0b44f6676834172f1fc6256181a54652741ff5f", func := "hawser/hawserlaw03.PackTexts", spec := "packTexts", recurses := true, apart := false }
def PackTextsSaid : Prop := packTextsRow.holds Try.pinned (OpenSpec.ofChange packTextsSpec)

/-- ITS FALSE NEIGHBOUR: 'it returns false'. Refute it at one input. -/
def packTextsWrong : ChangeSpec := { name := "packTexts", fn := fun _ => fun
  | [d1, d2] => { results := [.lit (.bool false)], args := [d1, d2] }
  | _ => none }
def PackTextsWrongFalsely : Prop := packTextsRow.holds Try.pinned (OpenSpec.ofChange packTextsWrong)

/-- 'hawserlaw03.PackOwn': WHATEVER THE INPUT: true; the input reads as it did. -/
def packOwnSpec : ChangeSpec := { name := "packOwn", fn := fun _ => fun
  | [d] => { results := [.lit (.bool true)], args := [d] }
  | _ => none }
def packOwnRow : OpenClaim := { program := "ytlaeiipiboabaaa", sum := "02233458d545aa5c1bfe221cb0b44f6676834172f1fc6256181a54652741ff5f", func := "hawser/hawserlaw03.PackOwn", spec := "packOwn", recurses := true, apart := false }
def PackOwnSaid : Prop := packOwnRow.holds Try.pinned (OpenSpec.ofChange packOwnSpec)

/-- ITS FALSE NEIGHBOUR: 'it returns false'. Refute it at one input. -/
def packOwnWrong : ChangeSpec := { name := "packOwn", fn := fun _ => fun
  | [d] => { results := [.lit (.bool false)], args := [d] }
  | _ => none }
def PackOwnWrongFalsely : Prop := packOwnRow.holds Try.pinned (OpenSpec.ofChange packOwnWrong)

/-- 'hawserlaw03.PackWrites': WHATEVER THE INPUT: true; the input reads as it did. -/
def packWritesSpec : ChangeSpec := { name := "packWrites", fn := fun _ => fun
  | [d] => { results := [.lit (.bool true)], args := [d] }
  | _ => none }
def packWritesRow : OpenClaim := { program := "ytlaeiipiboabaaa", sum := "02233458d545aa5c1bfe221cb0b44f6676834172f1fc6256181a54652741ff5f", func := "hawser/hawserlaw03.PackWrites", spec := "packWrites", recurses := true, apart := false }
def PackWritesSaid : Prop := packWritesRow.holds Try.pinned (OpenSpec.ofChange packWritesSpec)

/-- ITS FALSE NEIGHBOUR: 'it returns false'. Refute it at one input. -/
def packWritesWrong : ChangeSpec := { name := "packWrites", fn := fun _ => fun
  | [d] => { results := [.lit (.bool false)], args := [d] }
  | _ => none }
def PackWritesWrongFalsely : Prop := packWritesRow.holds Try.pinned (OpenSpec.ofChange packWritesWrong)

/-- 'hawserlaw03.PackRoom': WHATEVER THE INPUT: true; the input reads as it did. -/
def packRoomSpec : ChangeSpec := { name := "packRoom", fn := fun _ => fun
  | [d1, d2, d3] => { results := [.lit (.bool true)], args := [d1, d2, d3] }
  | _ => none }
def packRoomRow : OpenClaim := { program := "ytlaeiipiboabaaa", sum := "02233458d545aa5c1bfe221cb0b44f6676834172f1fc6256181a54652741ff5f", func := "hawser/hawserlaw03.PackRoom", spec := "packRoom", apart := false }
def PackRoomSaid : Prop := packRoomRow.holds Try.pinned (OpenSpec.ofChange packRoomSpec)

/-- ITS FALSE NEIGHBOUR: 'it returns false'. Refute it at one input. -/
def packRoomWrong : ChangeSpec := { name := "packRoom", fn := fun _ => fun
  | [d1, d2, d3] => { results := [.lit (.bool false)], args := [d1, d2, d3] }
  | _ => none }
def PackRoomWrongFalsely : Prop := packRoomRow.holds Try.pinned (OpenSpec.ofChange packRoomWrong)

/-- 'hawserlaw03.PackOpens': WHATEVER THE INPUT: true; the input reads as it did. -/
def packOpensSpec : ChangeSpec := { name := "packOpens", fn := fun _ => fun
  | [d] => { results := [.lit (.bool true)], args := [d] }
  | _ => none }
def packOpensRow : OpenClaim := { program := "ytlaeiipiboabaaa", sum := "02233458d545aa5c1bfe221cb0b44f6676834172f1fc6256181a54652741ff5f", func := "hawser/hawserlaw03.PackOpens", spec := "packOpens", apart := false }
def PackOpensSaid : Prop := packOpensRow.holds Try.pinned (OpenSpec.ofChange packOpensSpec)

/-- ITS FALSE NEIGHBOUR: 'it returns false'. Refute it at one input. -/
def packOpensWrong : ChangeSpec := { name := "packOpens", fn := fun _ => fun
  | [d] => { results := [.lit (.bool false)], args := [d] }
  | _ => none }
def PackOpensWrongFalsely : Prop := packOpensRow.holds Try.pinned (OpenSpec.ofChange packOpensWrong)

/-- 'hawserlaw03.PackReads': WHATEVER THE INPUT: true; the input reads as it did. -/
def packReadsSpec : ChangeSpec := { name := "packReads", fn := fun _ => fun
  | [d1, d2] => { results := [.lit (.bool true)], args := [d1, d2] }
  | _ => none }
def packReadsRow : OpenClaim := { program := "ytlaeiipiboabaaa", sum := "02233458d545aa5c1bfe221cb0b44f6676834172f1fc6256181a54652741ff5f", func := "hawser/hawserlaw03.PackReads", spec := "packReads", apart := false }
def PackReadsSaid : Prop := packReadsRow.holds Try.pinned (OpenSpec.ofChange packReadsSpec)

/-- ITS FALSE NEIGHBOUR: 'it returns false'. Refute it at one input. -/
def packReadsWrong : ChangeSpec := { name := "packReads", fn := fun _ => fun
  | [d1, d2] => { results := [.lit (.bool false)], args := [d1, d2] }
  | _ => none }
def PackReadsWrongFalsely : Prop := packReadsRow.holds Try.pinned (OpenSpec.ofChange packReadsWrong)

/-- 'hawserlaw03.PackAgain': WHATEVER THE INPUT: true; the input reads as it did. -/
def packAgainSpec : ChangeSpec := { name := "packAgain", fn := fun _ => fun
  | [d1, d2] => { results := [.lit (.bool true)], args := [d1, d2] }
  | _ => none }
def packAgainRow : OpenClaim := { program := "ytlaeiipiboabaaa", sum := "02233458d545aa5c1bfe221cb0b44f6676834172f1fc6256181a54652741ff5f", func := "hawser/hawserlaw03.PackAgain", spec := "packAgain", apart := false }
def PackAgainSaid : Prop := packAgainRow.holds Try.pinned (OpenSpec.ofChange packAgainSpec)

/-- ITS FALSE NEIGHBOUR: 'it returns false'. Refute it at one input. -/
def packAgainWrong : ChangeSpec := { name := "packAgain", fn := fun _ => fun
  | [d1, d2] => { results := [.lit (.bool false)], args := [d1, d2] }
  | _ => none }
def PackAgainWrongFalsely : Prop := packAgainRow.holds Try.pinned (OpenSpec.ofChange packAgainWrong)

/-- 'hawserlaw03.PackLists': WHATEVER THE INPUT: true; the input reads as it did. -/
def packListsSpec : ChangeSpec := { name := "packLists", fn := fun _ => fun
  | [d1, d2] => { results := [.lit (.bool true)], args := [d1, d2] }
  | _ => none }
def packListsRow : OpenClaim := { program := "ytlaeiipiboabaaa", sum := "02233458d545aa5c1bfe221cb0b44f6676834172f1fc6256181a54652741ff5f", func := "hawser/hawserlaw03.PackLists", spec := "packLists", apart := false }
def PackListsSaid : Prop := packListsRow.holds Try.pinned (OpenSpec.ofChange packListsSpec)

/-- ITS FALSE NEIGHBOUR: 'it returns false'. Refute it at one input. -/
def packListsWrong : ChangeSpec := { name := "packLists", fn := fun _ => fun
  | [d1, d2] => { results := [.lit (.bool false)], args := [d1, d2] }
  | _ => none }
def PackListsWrongFalsely : Prop := packListsRow.holds Try.pinned (OpenSpec.ofChange packListsWrong)

/-- 'hawserlaw03.PackBack': WHATEVER THE INPUT: true; the input reads as it did. -/
def packBackSpec : ChangeSpec := { name := "packBack", fn := fun _ => fun
  | [d1, d2] => { results := [.lit (.bool true)], args := [d1, d2] }
  | _ => none }
def packBackRow : OpenClaim := { program := "ytlaeiipiboabaaa", sum := "02233458d545aa5c1bfe221cb0b44f6676834172f1fc6256181a54652741ff5f", func := "hawser/hawserlaw03.PackBack", spec := "packBack", recurses := true, apart := false }
def PackBackSaid : Prop := packBackRow.holds Try.pinned (OpenSpec.ofChange packBackSpec)

/-- ITS FALSE NEIGHBOUR: 'it returns false'. Refute it at one input. -/
def packBackWrong : ChangeSpec := { name := "packBack", fn := fun _ => fun
  | [d1, d2] => { results := [.lit (.bool false)], args := [d1, d2] }
  | _ => none }
def PackBackWrongFalsely : Prop := packBackRow.holds Try.pinned (OpenSpec.ofChange packBackWrong)

/-- 'hawserlaw03.PackMade': WHATEVER THE INPUT: true; the input reads as it did. -/
def packMadeSpec : ChangeSpec := { name := "packMade", fn := fun _ => fun
  | [d] => { results := [.lit (.bool true)], args := [d] }
  | _ => none }
def packMadeRow : OpenClaim := { program := "ytlaeiipiboabaaa", sum := "02233458d545aa5c1bfe221cb0b44f6676834172f1fc6256181a54652741ff5f", func := "hawser/hawserlaw03.PackMade", spec := "packMade", recurses := true, apart := false }
def PackMadeSaid : Prop := packMadeRow.holds Try.pinned (OpenSpec.ofChange packMadeSpec)

/-- ITS FALSE NEIGHBOUR: 'it returns false'. Refute it at one input. -/
def packMadeWrong : ChangeSpec := { name := "packMade", fn := fun _ => fun
  | [d] => { results := [.lit (.bool false)], args := [d] }
  | _ => none }
def PackMadeWrongFalsely : Prop := packMadeRow.holds Try.pinned (OpenSpec.ofChange packMadeWrong)

/- THE SECOND FORM. 'bulk': how many values and letters a reading holds, each counted each time it is reached (what is shared counts as often as it is met; a slice's spare places count too). A statement '..UptoSaid' is the law's where the arguments, and the package variables that the reading takes, are together of bulk at most 1048576: NARROWER than '..Said'. Prove '..Said' where nothing that the law and all that it calls make is longer than what came in: it says more and counts as full. Else prove '..UptoSaid'. A law counts once. -/
mutual
def uptoBulk {H : Type} : DataW H → Nat
  | .lit (.string bytes) => bytes.length + 1
  | .lit _ => 1
  | .nil => 1
  | .ptr d => uptoBulk d + 1
  | .slice elems spare => uptoBulkAll elems + uptoBulkAll spare + 1
  | .agg parts => uptoBulkAll parts + 1
  | .iface _ d => uptoBulk d + 1
  | .map entries => uptoBulkEntries entries + 1
  | .held _ => 1
def uptoBulkAll {H : Type} : List (DataW H) → Nat
  | [] => 0
  | d :: r => uptoBulk d + uptoBulkAll r
def uptoBulkEntries {H : Type} : List (Lit × DataW H) → Nat
  | [] => 0
  | x :: r => uptoBulkEntry x + uptoBulkEntries r
def uptoBulkEntry {H : Type} : Lit × DataW H → Nat
  | (.string bytes, d) => bytes.length + uptoBulk d + 1
  | (_, d) => uptoBulk d + 1
 end
def uptoSmall : (H : Type) → List (DataW H) → Bool := fun _ ds => decide (uptoBulkAll ds ≤ 1048576)
def OpenSpec.upto (s : _root_.Go.ChangeSpec) : _root_.Go.OpenSpec := { _root_.Go.OpenSpec.ofChange s with cond := some uptoSmall }

/-- 'hawserlaw03.PackNames', WHERE WHAT IT READS IS OF BULK AT MOST 1048576: true; the input reads as it did. -/
def packNamesUptoRow : OpenClaim := { program := "ytlaeiipiboabaaa", sum := "02233458d545aa5c1bfe221cb0b44f6676834172f1fc6256181a54652741ff5f", func := "hawser/hawserlaw03.PackNames", spec := "packNames", apart := false, narrowed := true }
def PackNamesUptoSaid : Prop := packNamesUptoRow.holds Try.pinned (OpenSpec.upto packNamesSpec)

/-- 'hawserlaw03.PackTexts', WHERE WHAT IT READS IS OF BULK AT MOST 1048576: true; the input reads as it did. -/
def packTextsUptoRow : OpenClaim := { program := "ytlaeiipiboabaaa", sum := "02233458d545aa5c1bfe221cb0b44f6676834172f1fc6256181a54652741ff5f", func := "hawser/hawserlaw03.PackTexts", spec := "packTexts", recurses := true, apart := false, narrowed := true }
def PackTextsUptoSaid : Prop := packTextsUptoRow.holds Try.pinned (OpenSpec.upto packTextsSpec)

/-- 'hawserlaw03.PackOwn', WHERE WHAT IT READS IS OF BULK AT MOST 1048576: true; the input reads as it did. -/
def packOwnUptoRow : OpenClaim := { program := "ytlaeiipiboabaaa", sum := "02233458d545aa5c1bfe221cb0b44f6676834172f1fc6256181a54652741ff5f", func := "hawser/hawserlaw03.PackOwn", spec := "packOwn", recurses := true, apart := false, narrowed := true }
def PackOwnUptoSaid : Prop := packOwnUptoRow.holds Try.pinned (OpenSpec.upto packOwnSpec)

/-- 'hawserlaw03.PackWrites', WHERE WHAT IT READS IS OF BULK AT MOST 1048576: true; the input reads as it did. -/
def packWritesUptoRow : OpenClaim := { program := "ytlaeiipiboabaaa", sum := "02233458d545aa5c1bfe221cb0b44f6676834172f1fc6256181a54652741ff5f", func := "hawser/hawserlaw03.PackWrites", spec := "packWrites", recurses := true, apart := false, narrowed := true }
def PackWritesUptoSaid : Prop := packWritesUptoRow.holds Try.pinned (OpenSpec.upto packWritesSpec)

/-- 'hawserlaw03.PackRoom', WHERE WHAT IT READS IS OF BULK AT MOST 1048576: true; the input reads as it did. -/
def packRoomUptoRow : OpenClaim := { program := "ytlaeiipiboabaaa", sum := "02233458d545aa5c1bfe221cb0b44f6676834172f1fc6256181a54652741ff5f", func := "hawser/hawserlaw03.PackRoom", spec := "packRoom", apart := false, narrowed := true }
def PackRoomUptoSaid : Prop := packRoomUptoRow.holds Try.pinned (OpenSpec.upto packRoomSpec)

/-- 'hawserlaw03.PackOpens', WHERE WHAT IT READS IS OF BULK AT MOST 1048576: true; the input reads as it did. -/
def packOpensUptoRow : OpenClaim := { program := "ytlaeiipiboabaaa", sum := "02233458d545aa5c1bfe221cb0b44f6676834172f1fc6256181a54652741ff5f", func := "hawser/hawserlaw03.PackOpens", spec := "packOpens", apart := false, narrowed := true }
def PackOpensUptoSaid : Prop := packOpensUptoRow.holds Try.pinned (OpenSpec.upto packOpensSpec)

/-- 'hawserlaw03.PackReads', WHERE WHAT IT READS IS OF BULK AT MOST 1048576: true; the input reads as it did. -/
def packReadsUptoRow : OpenClaim := { program := "ytlaeiipiboabaaa", sum := "02233458d545aa5c1bfe221cb0b44f6676834172f1fc6256181a54652741ff5f", func := "hawser/hawserlaw03.PackReads", spec := "packReads", apart := false, narrowed := true }
def PackReadsUptoSaid : Prop := packReadsUptoRow.holds Try.pinned (OpenSpec.upto packReadsSpec)

/-- 'hawserlaw03.PackAgain', WHERE WHAT IT READS IS OF BULK AT MOST 1048576: true; the input reads as it did. -/
def packAgainUptoRow : OpenClaim := { program := "ytlaeiipiboabaaa", sum := "02233458d545aa5c1bfe221cb0b44f6676834172f1fc6256181a54652741ff5f", func := "hawser/hawserlaw03.PackAgain", spec := "packAgain", apart := false, narrowed := true }
def PackAgainUptoSaid : Prop := packAgainUptoRow.holds Try.pinned (OpenSpec.upto packAgainSpec)

/-- 'hawserlaw03.PackLists', WHERE WHAT IT READS IS OF BULK AT MOST 1048576: true; the input reads as it did. -/
def packListsUptoRow : OpenClaim := { program := "ytlaeiipiboabaaa", sum := "02233458d545aa5c1bfe221cb0b44f6676834172f1fc6256181a54652741ff5f", func := "hawser/hawserlaw03.PackLists", spec := "packLists", apart := false, narrowed := true }
def PackListsUptoSaid : Prop := packListsUptoRow.holds Try.pinned (OpenSpec.upto packListsSpec)

/-- 'hawserlaw03.PackBack', WHERE WHAT IT READS IS OF BULK AT MOST 1048576: true; the input reads as it did. -/
def packBackUptoRow : OpenClaim := { program := "ytlaeiipiboabaaa", sum := "02233458d545aa5c1bfe221cb0b44f6676834172f1fc6256181a54652741ff5f", func := "hawser/hawserlaw03.PackBack", spec := "packBack", recurses := true, apart := false, narrowed := true }
def PackBackUptoSaid : Prop := packBackUptoRow.holds Try.pinned (OpenSpec.upto packBackSpec)

/-- 'hawserlaw03.PackMade', WHERE WHAT IT READS IS OF BULK AT MOST 1048576: true; the input reads as it did. -/
def packMadeUptoRow : OpenClaim := { program := "ytlaeiipiboabaaa", sum := "02233458d545aa5c1bfe221cb0b44f6676834172f1fc6256181a54652741ff5f", func := "hawser/hawserlaw03.PackMade", spec := "packMade", recurses := true, apart := false, narrowed := true }
def PackMadeUptoSaid : Prop := packMadeUptoRow.holds Try.pinned (OpenSpec.upto packMadeSpec)

end Rows
end Go.Proofs.Ytlaeiipiboabaaa
