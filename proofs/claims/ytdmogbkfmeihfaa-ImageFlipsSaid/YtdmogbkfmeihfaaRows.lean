/-
  No cell of these rows narrows 'for every input' (looked for: loops, veiled, ifaces, maps, wideKeys, modest, calm, conditions, laid).
  DERIVED. THE GIVEN ROWS OF THIS SEAT. 10 by the template 'for every input the law returns true; each argument reads behind the call as it read before'; 0 by the template 'total and deterministic' (their statements: YtdmogbkfmeihfaaTotals.lean).
  GIVEN WITH THE SEED: the statements are not yours to turn. If you find one false, say at which input.
  Laid BY PROGRAM, IN A SANDBOX (cutbox-rows.mjs): the forced cells as the released guide's own fill.sh prints them over the translation a42e970f20d55c9d… (all of the seat's roots in one cut). By AI agents, Wed Nov 11 2026. No macro, syntax, notation, axiom, sorry.
-/
import Derived.Test.YtdmogbkfmeihfaaChecked
import GoSem.Claim
import GoSem.ClaimJoined
import GoSem.ClaimMapViews
import Derived.JoinedTies
import Derived.KernelRfl
namespace Go.Proofs.Ytdmogbkfmeihfaa
/- THE CELL 'sum', in the pinned program and in every row, IS THE sha256 OF THE DUMP (.gsa) THAT YtdmogbkfmeihfaaProg.lean LOADS. Nothing in Lean hashes anything: it is a label: what it is worth is what the hold of that sum in a sandbox is worth. -/
noncomputable def Try.pinned : Pinned := { name := "ytdmogbkfmeihfaa", sum := "a42e970f20d55c9dce95252b57ea3fd15ec29fa9e29d2e956464f22fbb3e6421", checked := Try.checked }
namespace Rows
def none {H : Type} : Left H := { results := [], args := [] }

/-- 'hawserlaw09.ImagePeeks': WHATEVER THE INPUT: true; the input reads as it did. -/
def imagePeeksSpec : ChangeSpec := { name := "imagePeeks", fn := fun _ => fun
  | [d] => { results := [.lit (.bool true)], args := [d] }
  | _ => none }
def imagePeeksRow : OpenClaim := { program := "ytdmogbkfmeihfaa", sum := "a42e970f20d55c9dce95252b57ea3fd15ec29fa9e29d2e956464f22fbb3e6421", func := "hawser/hawserlaw09.ImagePeeks", spec := "imagePeeks", apart := false }
def ImagePeeksSaid : Prop := imagePeeksRow.holds Try.pinned (OpenSpec.ofChange imagePeeksSpec)

/-- ITS FALSE NEIGHBOUR: 'it returns false'. Refute it at one input. -/
def imagePeeksWrong : ChangeSpec := { name := "imagePeeks", fn := fun _ => fun
  | [d] => { results := [.lit (.bool false)], args := [d] }
  | _ => none }
def ImagePeeksWrongFalsely : Prop := imagePeeksRow.holds Try.pinned (OpenSpec.ofChange imagePeeksWrong)

/-- 'hawserlaw09.ImageNames': WHATEVER THE INPUT: true; the input reads as it did. -/
def imageNamesSpec : ChangeSpec := { name := "imageNames", fn := fun _ => fun
  | [] => { results := [.lit (.bool true)], args := [] }
  | _ => none }
def imageNamesRow : OpenClaim := { program := "ytdmogbkfmeihfaa", sum := "a42e970f20d55c9dce95252b57ea3fd15ec29fa9e29d2e956464f22fbb3e6421", func := "hawser/hawserlaw09.ImageNames", spec := "imageNames", apart := false }
def ImageNamesSaid : Prop := imageNamesRow.holds Try.pinned (OpenSpec.ofChange imageNamesSpec)

/-- ITS FALSE NEIGHBOUR: 'it returns false'. Refute it at one input. -/
def imageNamesWrong : ChangeSpec := { name := "imageNames", fn := fun _ => fun
  | [] => { results := [.lit (.bool false)], args := [] }
  | _ => none }
def ImageNamesWrongFalsely : Prop := imageNamesRow.holds Try.pinned (OpenSpec.ofChange imageNamesWrong)

/-- 'hawserlaw09.ImageEncodes': WHATEVER THE INPUT: true; the input reads as it did. -/
def imageEncodesSpec : ChangeSpec := { name := "imageEncodes", fn := fun _ => fun
  | [d1, d2] => { results := [.lit (.bool true)], args := [d1, d2] }
  | _ => none }
def imageEncodesRow : OpenClaim := { program := "ytdmogbkfmeihfaa", sum := "a42e970f20d55c9dce95252b57ea3fd15ec29fa9e29d2e956464f22fbb3e6421", func := "hawser/hawserlaw09.ImageEncodes", spec := "imageEncodes", recurses := true, apart := false }
def ImageEncodesSaid : Prop := imageEncodesRow.holds Try.pinned (OpenSpec.ofChange imageEncodesSpec)

/-- ITS FALSE NEIGHBOUR: 'it returns false'. Refute it at one input. -/
def imageEncodesWrong : ChangeSpec := { name := "imageEncodes", fn := fun _ => fun
  | [d1, d2] => { results := [.lit (.bool false)], args := [d1, d2] }
  | _ => none }
def ImageEncodesWrongFalsely : Prop := imageEncodesRow.holds Try.pinned (OpenSpec.ofChange imageEncodesWrong)

/-- 'hawserlaw09.ImageMade': WHATEVER THE INPUT: true; the input reads as it did. -/
def imageMadeSpec : ChangeSpec := { name := "imageMade", fn := fun _ => fun
  | [d] => { results := [.lit (.bool true)], args := [d] }
  | _ => none }
def imageMadeRow : OpenClaim := { program := "ytdmogbkfmeihfaa", sum := "a42e970f20d55c9dce95252b57ea3fd15ec29fa9e29d2e956464f22fbb3e6421", func := "hawser/hawserlaw09.ImageMade", spec := "imageMade", unfollowed := true, recurses := true, apart := false }
def ImageMadeSaid : Prop := imageMadeRow.holds Try.pinned (OpenSpec.ofChange imageMadeSpec)

/-- ITS FALSE NEIGHBOUR: 'it returns false'. Refute it at one input. -/
def imageMadeWrong : ChangeSpec := { name := "imageMade", fn := fun _ => fun
  | [d] => { results := [.lit (.bool false)], args := [d] }
  | _ => none }
def ImageMadeWrongFalsely : Prop := imageMadeRow.holds Try.pinned (OpenSpec.ofChange imageMadeWrong)

/-- 'hawserlaw09.ImageDecodes': WHATEVER THE INPUT: true; the input reads as it did. -/
def imageDecodesSpec : ChangeSpec := { name := "imageDecodes", fn := fun _ => fun
  | [d] => { results := [.lit (.bool true)], args := [d] }
  | _ => none }
def imageDecodesRow : OpenClaim := { program := "ytdmogbkfmeihfaa", sum := "a42e970f20d55c9dce95252b57ea3fd15ec29fa9e29d2e956464f22fbb3e6421", func := "hawser/hawserlaw09.ImageDecodes", spec := "imageDecodes", unfollowed := true, recurses := true, apart := false }
def ImageDecodesSaid : Prop := imageDecodesRow.holds Try.pinned (OpenSpec.ofChange imageDecodesSpec)

/-- ITS FALSE NEIGHBOUR: 'it returns false'. Refute it at one input. -/
def imageDecodesWrong : ChangeSpec := { name := "imageDecodes", fn := fun _ => fun
  | [d] => { results := [.lit (.bool false)], args := [d] }
  | _ => none }
def ImageDecodesWrongFalsely : Prop := imageDecodesRow.holds Try.pinned (OpenSpec.ofChange imageDecodesWrong)

/-- 'hawserlaw09.ImageFlips': WHATEVER THE INPUT: true; the input reads as it did. -/
def imageFlipsSpec : ChangeSpec := { name := "imageFlips", fn := fun _ => fun
  | [d1, d2] => { results := [.lit (.bool true)], args := [d1, d2] }
  | _ => none }
def imageFlipsRow : OpenClaim := { program := "ytdmogbkfmeihfaa", sum := "a42e970f20d55c9dce95252b57ea3fd15ec29fa9e29d2e956464f22fbb3e6421", func := "hawser/hawserlaw09.ImageFlips", spec := "imageFlips", unfollowed := true, recurses := true, apart := false }
def ImageFlipsSaid : Prop := imageFlipsRow.holds Try.pinned (OpenSpec.ofChange imageFlipsSpec)

/-- ITS FALSE NEIGHBOUR: 'it returns false'. Refute it at one input. -/
def imageFlipsWrong : ChangeSpec := { name := "imageFlips", fn := fun _ => fun
  | [d1, d2] => { results := [.lit (.bool false)], args := [d1, d2] }
  | _ => none }
def ImageFlipsWrongFalsely : Prop := imageFlipsRow.holds Try.pinned (OpenSpec.ofChange imageFlipsWrong)

/-- 'hawserlaw09.ImageOne': WHATEVER THE INPUT: true; the input reads as it did. -/
def imageOneSpec : ChangeSpec := { name := "imageOne", fn := fun _ => fun
  | [d] => { results := [.lit (.bool true)], args := [d] }
  | _ => none }
def imageOneRow : OpenClaim := { program := "ytdmogbkfmeihfaa", sum := "a42e970f20d55c9dce95252b57ea3fd15ec29fa9e29d2e956464f22fbb3e6421", func := "hawser/hawserlaw09.ImageOne", spec := "imageOne", unfollowed := true, recurses := true, apart := false }
def ImageOneSaid : Prop := imageOneRow.holds Try.pinned (OpenSpec.ofChange imageOneSpec)

/-- ITS FALSE NEIGHBOUR: 'it returns false'. Refute it at one input. -/
def imageOneWrong : ChangeSpec := { name := "imageOne", fn := fun _ => fun
  | [d] => { results := [.lit (.bool false)], args := [d] }
  | _ => none }
def ImageOneWrongFalsely : Prop := imageOneRow.holds Try.pinned (OpenSpec.ofChange imageOneWrong)

/-- 'hawserlaw09.ImageBack': WHATEVER THE INPUT: true; the input reads as it did. -/
def imageBackSpec : ChangeSpec := { name := "imageBack", fn := fun _ => fun
  | [d] => { results := [.lit (.bool true)], args := [d] }
  | _ => none }
def imageBackRow : OpenClaim := { program := "ytdmogbkfmeihfaa", sum := "a42e970f20d55c9dce95252b57ea3fd15ec29fa9e29d2e956464f22fbb3e6421", func := "hawser/hawserlaw09.ImageBack", spec := "imageBack", unfollowed := true, recurses := true, apart := false }
def ImageBackSaid : Prop := imageBackRow.holds Try.pinned (OpenSpec.ofChange imageBackSpec)

/-- ITS FALSE NEIGHBOUR: 'it returns false'. Refute it at one input. -/
def imageBackWrong : ChangeSpec := { name := "imageBack", fn := fun _ => fun
  | [d] => { results := [.lit (.bool false)], args := [d] }
  | _ => none }
def ImageBackWrongFalsely : Prop := imageBackRow.holds Try.pinned (OpenSpec.ofChange imageBackWrong)

/-- 'hawserlaw09.ImageOpens': WHATEVER THE INPUT: true; the input reads as it did. -/
def imageOpensSpec : ChangeSpec := { name := "imageOpens", fn := fun _ => fun
  | [d] => { results := [.lit (.bool true)], args := [d] }
  | _ => none }
def imageOpensRow : OpenClaim := { program := "ytdmogbkfmeihfaa", sum := "a42e970f20d55c9dce95252b57ea3fd15ec29fa9e29d2e956464f22fbb3e6421", func := "hawser/hawserlaw09.ImageOpens", spec := "imageOpens", unfollowed := true, recurses := true, apart := false }
def ImageOpensSaid : Prop := imageOpensRow.holds Try.pinned (OpenSpec.ofChange imageOpensSpec)

/-- ITS FALSE NEIGHBOUR: 'it returns false'. Refute it at one input. -/
def imageOpensWrong : ChangeSpec := { name := "imageOpens", fn := fun _ => fun
  | [d] => { results := [.lit (.bool false)], args := [d] }
  | _ => none }
def ImageOpensWrongFalsely : Prop := imageOpensRow.holds Try.pinned (OpenSpec.ofChange imageOpensWrong)

/-- 'hawserlaw09.ImagePieces': WHATEVER THE INPUT: true; the input reads as it did. -/
def imagePiecesSpec : ChangeSpec := { name := "imagePieces", fn := fun _ => fun
  | [d1, d2] => { results := [.lit (.bool true)], args := [d1, d2] }
  | _ => none }
def imagePiecesRow : OpenClaim := { program := "ytdmogbkfmeihfaa", sum := "a42e970f20d55c9dce95252b57ea3fd15ec29fa9e29d2e956464f22fbb3e6421", func := "hawser/hawserlaw09.ImagePieces", spec := "imagePieces", unfollowed := true, recurses := true, apart := false }
def ImagePiecesSaid : Prop := imagePiecesRow.holds Try.pinned (OpenSpec.ofChange imagePiecesSpec)

/-- ITS FALSE NEIGHBOUR: 'it returns false'. Refute it at one input. -/
def imagePiecesWrong : ChangeSpec := { name := "imagePieces", fn := fun _ => fun
  | [d1, d2] => { results := [.lit (.bool false)], args := [d1, d2] }
  | _ => none }
def ImagePiecesWrongFalsely : Prop := imagePiecesRow.holds Try.pinned (OpenSpec.ofChange imagePiecesWrong)

/- THE SECOND FORM. 'bulk': how many values and letters a reading holds, each counted each time it is reached (what is shared counts as often as it is met; a slice's spare places count too). A statement '..UptoSaid' is the law's where the arguments, and the package variables that the reading takes, are together of bulk at most 1048576: NARROWER than '..Said'. Prove '..Said' where nothing that the law and all that it calls make is longer than what came in: it says more and counts as full. Else prove '..UptoSaid'. A law counts once. -/
mutual
def uptoBulk {H : Type} : DataW H → Nat
  | .lit (.string bytes) => bytes.length + 1
  | .lit _ => 1
  | .nil => 1
  | .ptr d => uptoBulk d + 1
  | .slice elems spare => uptoBulkAll elems + uptoBulkAll spare + 1
  | .agg parts => uptoBulkAll parts + 1
  | .iface _ d => uptoBulk d + 1
  | .map entries => uptoBulkEntries entries + 1
  | .held _ => 1
def uptoBulkAll {H : Type} : List (DataW H) → Nat
  | [] => 0
  | d :: r => uptoBulk d + uptoBulkAll r
def uptoBulkEntries {H : Type} : List (Lit × DataW H) → Nat
  | [] => 0
  | x :: r => uptoBulkEntry x + uptoBulkEntries r
def uptoBulkEntry {H : Type} : Lit × DataW H → Nat
  | (.string bytes, d) => bytes.length + uptoBulk d + 1
  | (_, d) => uptoBulk d + 1
 end
def uptoSmall : (H : Type) → List (DataW H) → Bool := fun _ ds => decide (uptoBulkAll ds ≤ 1048576)
def OpenSpec.upto (s : _root_.Go.ChangeSpec) : _root_.Go.OpenSpec := { _root_.Go.OpenSpec.ofChange s with cond := some uptoSmall }

/-- 'hawserlaw09.ImagePeeks', WHERE WHAT IT READS IS OF BULK AT MOST 1048576: true; the input reads as it did. -/
def imagePeeksUptoRow : OpenClaim := { program := "ytdmogbkfmeihfaa", sum := "a42e970f20d55c9dce95252b57ea3fd15ec29fa9e29d2e956464f22fbb3e6421", func := "hawser/hawserlaw09.ImagePeeks", spec := "imagePeeks", apart := false, narrowed := true }
def ImagePeeksUptoSaid : Prop := imagePeeksUptoRow.holds Try.pinned (OpenSpec.upto imagePeeksSpec)

/-- 'hawserlaw09.ImageNames', WHERE WHAT IT READS IS OF BULK AT MOST 1048576: true; the input reads as it did. -/
def imageNamesUptoRow : OpenClaim := { program := "ytdmogbkfmeihfaa", sum := "a42e970f20d55c9dce95252b57ea3fd15ec29fa9e29d2e956464f22fbb3e6421", func := "hawser/hawserlaw09.ImageNames", spec := "imageNames", apart := false, narrowed := true }
def ImageNamesUptoSaid : Prop := imageNamesUptoRow.holds Try.pinned (OpenSpec.upto imageNamesSpec)

/-- 'hawserlaw09.ImageEncodes', WHERE WHAT IT READS IS OF BULK AT MOST 1048576: true; the input reads as it did. -/
def imageEncodesUptoRow : OpenClaim := { program := "ytdmogbkfmeihfaa", sum := "a42e970f20d55c9dce95252b57ea3fd15ec29fa9e29d2e956464f22fbb3e6421", func := "hawser/hawserlaw09.ImageEncodes", spec := "imageEncodes", recurses := true, apart := false, narrowed := true }
def ImageEncodesUptoSaid : Prop := imageEncodesUptoRow.holds Try.pinned (OpenSpec.upto imageEncodesSpec)

/-- 'hawserlaw09.ImageMade', WHERE WHAT IT READS IS OF BULK AT MOST 1048576: true; the input reads as it did. -/
def imageMadeUptoRow : OpenClaim := { program := "ytdmogbkfmeihfaa", sum := "a42e970f20d55c9dce95252b57ea3fd15ec29fa9e29d2e956464f22fbb3e6421", func := "hawser/hawserlaw09.ImageMade", spec := "imageMade", unfollowed := true, recurses := true, apart := false, narrowed := true }
def ImageMadeUptoSaid : Prop := imageMadeUptoRow.holds Try.pinned (OpenSpec.upto imageMadeSpec)

/-- 'hawserlaw09.ImageDecodes', WHERE WHAT IT READS IS OF BULK AT MOST 1048576: true; the input reads as it did. -/
def imageDecodesUptoRow : OpenClaim := { program := "ytdmogbkfmeihfaa", sum := "a42e970f20d55c9dce95252b57ea3fd15ec29fa9e29d2e956464f22fbb3e6421", func := "hawser/hawserlaw09.ImageDecodes", spec := "imageDecodes", unfollowed := true, recurses := true, apart := false, narrowed := true }
def ImageDecodesUptoSaid : Prop := imageDecodesUptoRow.holds Try.pinned (OpenSpec.upto imageDecodesSpec)

/-- 'hawserlaw09.ImageFlips', WHERE WHAT IT READS IS OF BULK AT MOST 1048576: true; the input reads as it did. -/
def imageFlipsUptoRow : OpenClaim := { program := "ytdmogbkfmeihfaa", sum := "a42e970f20d55c9dce95252b57ea3fd15ec29fa9e29d2e956464f22fbb3e6421", func := "hawser/hawserlaw09.ImageFlips", spec := "imageFlips", unfollowed := true, recurses := true, apart := false, narrowed := true }
def ImageFlipsUptoSaid : Prop := imageFlipsUptoRow.holds Try.pinned (OpenSpec.upto imageFlipsSpec)

/-- 'hawserlaw09.ImageOne', WHERE WHAT IT READS IS OF BULK AT MOST 1048576: true; the input reads as it did. -/
def imageOneUptoRow : OpenClaim := { program := "ytdmogbkfmeihfaa", sum := "a42e970f20d55c9dce95252b57ea3fd15ec29fa9e29d2e956464f22fbb3e6421", func := "hawser/hawserlaw09.ImageOne", spec := "imageOne", unfollowed := true, recurses := true, apart := false, narrowed := true }
def ImageOneUptoSaid : Prop := imageOneUptoRow.holds Try.pinned (OpenSpec.upto imageOneSpec)

/-- 'hawserlaw09.ImageBack', WHERE WHAT IT READS IS OF BULK AT MOST 1048576: true; the input reads as it did. -/
def imageBackUptoRow : OpenClaim := { program := "ytdmogbkfmeihfaa", sum := "a42e970f20d55c9dce95252b57ea3fd15ec29fa9e29d2e956464f22fbb3e6421", func := "hawser/hawserlaw09.ImageBack", spec := "imageBack", unfollowed := true, recurses := true, apart := false, narrowed := true }
def ImageBackUptoSaid : Prop := imageBackUptoRow.holds Try.pinned (OpenSpec.upto imageBackSpec)

/-- 'hawserlaw09.ImageOpens', WHERE WHAT IT READS IS OF BULK AT MOST 1048576: true; the input reads as it did. -/
def imageOpensUptoRow : OpenClaim := { program := "ytdmogbkfmeihfaa", sum := "a42e970f20d55c9dce95252b57ea3fd15ec29fa9e29d2e956464f22fbb3e6421", func := "hawser/hawserlaw09.ImageOpens", spec := "imageOpens", unfollowed := true, recurses := true, apart := false, narrowed := true }
def ImageOpensUptoSaid : Prop := imageOpensUptoRow.holds Try.pinned (OpenSpec.upto imageOpensSpec)

/-- 'hawserlaw09.ImagePieces', WHERE WHAT IT READS IS OF BULK AT MOST 1048576: true; the input reads as it did. -/
def imagePiecesUptoRow : OpenClaim := { program := "ytdmogbkfmeihfaa", sum := "a42e970f20d55c9dce95252b57ea3fd15ec29fa9e29d2e956464f22fbb3e6421", func := "hawser/hawserlaw09.ImagePieces", spec := "imagePieces", unfollowed := true, recurses := true, apart := false, narrowed := true }
def ImagePiecesUptoSaid : Prop := imagePiecesUptoRow.holds Try.pinned (OpenSpec.upto imagePiecesSpec)

end Rows
end Go.Proofs.Ytdmogbkfmeihfaa
