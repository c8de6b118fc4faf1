/-
  No cell of these rows narrows 'for every input' (looked for: loops, veiled, ifaces, maps, wideKeys, modest, calm, conditions, laid).
  DERIVED. THE GIVEN ROWS OF THIS SEAT. 9 by the template 'for every input the law returns true; each argument reads behind the call as it read before'; 0 by the template 'total and deterministic' (their statements: YtcaljnlicohkaaaTotals.lean).
  GIVEN WITH THE SEED: the statements are not yours to turn. If you find one false, say at which input.
  Laid BY PROGRAM, IN A SANDBOX (cutbox-rows.mjs): the forced cells as the released guide's own fill.sh prints them over the translation fca6b0492df3ca0f… (all of the seat's roots in one cut). By AI agents, Wed Nov 11 2026. No macro, syntax, notation, axiom, sorry.
-/
import Derived.Test.YtcaljnlicohkaaaChecked
import GoSem.Claim
import GoSem.ClaimJoined
import GoSem.ClaimMapViews
import Derived.JoinedTies
import Derived.KernelRfl
namespace Go.Proofs.Ytcaljnlicohkaaa
/- THE CELL 'sum', in the pinned program and in every row, IS THE sha256 OF THE DUMP (.gsa) THAT YtcaljnlicohkaaaProg.lean LOADS. Nothing in Lean hashes anything: it is a label: what it is worth is what the hold of that sum in a sandbox is worth. -/
noncomputable def Try.pinned : Pinned := { name := "ytcaljnlicohkaaa", sum := "fca6b0492df3ca0f2749bafa431085dafb414607f4df2e72b655a831b52ced7f", checked := Try.checked }
namespace Rows
def none {H : Type} : Left H := { results := [], args := [] }

/-- 'hawserlaw05.ShaPrints': WHATEVER THE INPUT: true; the input reads as it did. -/
def shaPrintsSpec : ChangeSpec := { name := "shaPrints", fn := fun _ => fun
  | [d] => { results := [.lit (.bool true)], args := [d] }
  | _ => none }
def shaPrintsRow : OpenClaim := { program := "ytcaljnlicohkaaa", sum := "fca6b0492df3ca0f2749bafa431085dafb414607f4df2e72b655a831b52ced7f", func := "hawser/hawserlaw05.ShaPrints", spec := "shaPrints", apart := false }
def ShaPrintsSaid : Prop := shaPrintsRow.holds Try.pinned (OpenSpec.ofChange shaPrintsSpec)

/-- ITS FALSE NEIGHBOUR: 'it returns false'. Refute it at one input. -/
def shaPrintsWrong : ChangeSpec := { name := "shaPrints", fn := fun _ => fun
  | [d] => { results := [.lit (.bool false)], args := [d] }
  | _ => none }
def ShaPrintsWrongFalsely : Prop := shaPrintsRow.holds Try.pinned (OpenSpec.ofChange shaPrintsWrong)

/-- 'hawserlaw05.ShaParses': WHATEVER THE INPUT: true; the input reads as it did. -/
def shaParsesSpec : ChangeSpec := { name := "shaParses", fn := fun _ => fun
  | [d] => { results := [.lit (.bool true)], args := [d] }
  | _ => none }
def shaParsesRow : OpenClaim := { program := "ytcaljnlicohkaaa", sum := "fca6b0492df3ca0f2749bafa431085dafb414607f4df2e72b655a831b52ced7f", func := "hawser/hawserlaw05.ShaParses", spec := "shaParses", apart := false }
def ShaParsesSaid : Prop := shaParsesRow.holds Try.pinned (OpenSpec.ofChange shaParsesSpec)

/-- ITS FALSE NEIGHBOUR: 'it returns false'. Refute it at one input. -/
def shaParsesWrong : ChangeSpec := { name := "shaParses", fn := fun _ => fun
  | [d] => { results := [.lit (.bool false)], args := [d] }
  | _ => none }
def ShaParsesWrongFalsely : Prop := shaParsesRow.holds Try.pinned (OpenSpec.ofChange shaParsesWrong)

/-- 'hawserlaw05.ShaSums': WHATEVER THE INPUT: true; the input reads as it did. -/
def shaSumsSpec : ChangeSpec := { name := "shaSums", fn := fun _ => fun
  | [d] => { results := [.lit (.bool true)], args := [d] }
  | _ => none }
def shaSumsRow : OpenClaim := { program := "ytcaljnlicohkaaa", sum := "fca6b0492df3ca0f2749bafa431085dafb414607f4df2e72b655a831b52ced7f", func := "hawser/hawserlaw05.ShaSums", spec := "shaSums", apart := false }
def ShaSumsSaid : Prop := shaSumsRow.holds Try.pinned (OpenSpec.ofChange shaSumsSpec)

/-- ITS FALSE NEIGHBOUR: 'it returns false'. Refute it at one input. -/
def shaSumsWrong : ChangeSpec := { name := "shaSums", fn := fun _ => fun
  | [d] => { results := [.lit (.bool false)], args := [d] }
  | _ => none }
def ShaSumsWrongFalsely : Prop := shaSumsRow.holds Try.pinned (OpenSpec.ofChange shaSumsWrong)

/-- 'hawserlaw05.ShaNames': WHATEVER THE INPUT: true; the input reads as it did. -/
def shaNamesSpec : ChangeSpec := { name := "shaNames", fn := fun _ => fun
  | [] => { results := [.lit (.bool true)], args := [] }
  | _ => none }
def shaNamesRow : OpenClaim := { program := "ytcaljnlicohkaaa", sum := "fca6b0492df3ca0f2749bafa431085dafb414607f4df2e72b655a831b52ced7f", func := "hawser/hawserlaw05.ShaNames", spec := "shaNames", apart := false }
def ShaNamesSaid : Prop := shaNamesRow.holds Try.pinned (OpenSpec.ofChange shaNamesSpec)

/-- ITS FALSE NEIGHBOUR: 'it returns false'. Refute it at one input. -/
def shaNamesWrong : ChangeSpec := { name := "shaNames", fn := fun _ => fun
  | [] => { results := [.lit (.bool false)], args := [] }
  | _ => none }
def ShaNamesWrongFalsely : Prop := shaNamesRow.holds Try.pinned (OpenSpec.ofChange shaNamesWrong)

/-- 'hawserlaw05.ShaKnown': WHATEVER THE INPUT: true; the input reads as it did. -/
def shaKnownSpec : ChangeSpec := { name := "shaKnown", fn := fun _ => fun
  | [] => { results := [.lit (.bool true)], args := [] }
  | _ => none }
def shaKnownRow : OpenClaim := { program := "ytcaljnlicohkaaa", sum := "fca6b0492df3ca0f2749bafa431085dafb414607f4df2e72b655a831b52ced7f", func := "hawser/hawserlaw05.ShaKnown", spec := "shaKnown", apart := false }
def ShaKnownSaid : Prop := shaKnownRow.holds Try.pinned (OpenSpec.ofChange shaKnownSpec)

/-- ITS FALSE NEIGHBOUR: 'it returns false'. Refute it at one input. -/
def shaKnownWrong : ChangeSpec := { name := "shaKnown", fn := fun _ => fun
  | [] => { results := [.lit (.bool false)], args := [] }
  | _ => none }
def ShaKnownWrongFalsely : Prop := shaKnownRow.holds Try.pinned (OpenSpec.ofChange shaKnownWrong)

/-- 'hawserlaw05.ShaMade': WHATEVER THE INPUT: true; the input reads as it did. -/
def shaMadeSpec : ChangeSpec := { name := "shaMade", fn := fun _ => fun
  | [d] => { results := [.lit (.bool true)], args := [d] }
  | _ => none }
def shaMadeRow : OpenClaim := { program := "ytcaljnlicohkaaa", sum := "fca6b0492df3ca0f2749bafa431085dafb414607f4df2e72b655a831b52ced7f", func := "hawser/hawserlaw05.ShaMade", spec := "shaMade", apart := false }
def ShaMadeSaid : Prop := shaMadeRow.holds Try.pinned (OpenSpec.ofChange shaMadeSpec)

/-- ITS FALSE NEIGHBOUR: 'it returns false'. Refute it at one input. -/
def shaMadeWrong : ChangeSpec := { name := "shaMade", fn := fun _ => fun
  | [d] => { results := [.lit (.bool false)], args := [d] }
  | _ => none }
def ShaMadeWrongFalsely : Prop := shaMadeRow.holds Try.pinned (OpenSpec.ofChange shaMadeWrong)

/-- 'hawserlaw05.ShaHashes': WHATEVER THE INPUT: true; the input reads as it did. -/
def shaHashesSpec : ChangeSpec := { name := "shaHashes", fn := fun _ => fun
  | [d] => { results := [.lit (.bool true)], args := [d] }
  | _ => none }
def shaHashesRow : OpenClaim := { program := "ytcaljnlicohkaaa", sum := "fca6b0492df3ca0f2749bafa431085dafb414607f4df2e72b655a831b52ced7f", func := "hawser/hawserlaw05.ShaHashes", spec := "shaHashes", recurses := true, apart := false }
def ShaHashesSaid : Prop := shaHashesRow.holds Try.pinned (OpenSpec.ofChange shaHashesSpec)

/-- ITS FALSE NEIGHBOUR: 'it returns false'. Refute it at one input. -/
def shaHashesWrong : ChangeSpec := { name := "shaHashes", fn := fun _ => fun
  | [d] => { results := [.lit (.bool false)], args := [d] }
  | _ => none }
def ShaHashesWrongFalsely : Prop := shaHashesRow.holds Try.pinned (OpenSpec.ofChange shaHashesWrong)

/-- 'hawserlaw05.ShaLoads': WHATEVER THE INPUT: true; the input reads as it did. -/
def shaLoadsSpec : ChangeSpec := { name := "shaLoads", fn := fun _ => fun
  | [d1, d2] => { results := [.lit (.bool true)], args := [d1, d2] }
  | _ => none }
def shaLoadsRow : OpenClaim := { program := "ytcaljnlicohkaaa", sum := "fca6b0492df3ca0f2749bafa431085dafb414607f4df2e72b655a831b52ced7f", func := "hawser/hawserlaw05.ShaLoads", spec := "shaLoads", recurses := true, apart := false }
def ShaLoadsSaid : Prop := shaLoadsRow.holds Try.pinned (OpenSpec.ofChange shaLoadsSpec)

/-- ITS FALSE NEIGHBOUR: 'it returns false'. Refute it at one input. -/
def shaLoadsWrong : ChangeSpec := { name := "shaLoads", fn := fun _ => fun
  | [d1, d2] => { results := [.lit (.bool false)], args := [d1, d2] }
  | _ => none }
def ShaLoadsWrongFalsely : Prop := shaLoadsRow.holds Try.pinned (OpenSpec.ofChange shaLoadsWrong)

/-- 'hawserlaw05.ShaPieces': WHATEVER THE INPUT: true; the input reads as it did. -/
def shaPiecesSpec : ChangeSpec := { name := "shaPieces", fn := fun _ => fun
  | [d1, d2] => { results := [.lit (.bool true)], args := [d1, d2] }
  | _ => none }
def shaPiecesRow : OpenClaim := { program := "ytcaljnlicohkaaa", sum := "fca6b0492df3ca0f2749bafa431085dafb414607f4df2e72b655a831b52ced7f", func := "hawser/hawserlaw05.ShaPieces", spec := "shaPieces", apart := false }
def ShaPiecesSaid : Prop := shaPiecesRow.holds Try.pinned (OpenSpec.ofChange shaPiecesSpec)

/-- ITS FALSE NEIGHBOUR: 'it returns false'. Refute it at one input. -/
def shaPiecesWrong : ChangeSpec := { name := "shaPieces", fn := fun _ => fun
  | [d1, d2] => { results := [.lit (.bool false)], args := [d1, d2] }
  | _ => none }
def ShaPiecesWrongFalsely : Prop := shaPiecesRow.holds Try.pinned (OpenSpec.ofChange shaPiecesWrong)

/- THE SECOND FORM. 'bulk': how many values and letters a reading holds, each counted each time it is reached (what is shared counts as often as it is met; a slice's spare places count too). A statement '..UptoSaid' is the law's where the arguments, and the package variables that the reading takes, are together of bulk at most 1048576: NARROWER than '..Said'. Prove '..Said' where nothing that the law and all that it calls make is longer than what came in: it says more and counts as full. Else prove '..UptoSaid'. A law counts once. -/
mutual
def uptoBulk {H : Type} : DataW H → Nat
  | .lit (.string bytes) => bytes.length + 1
  | .lit _ => 1
  | .nil => 1
  | .ptr d => uptoBulk d + 1
  | .slice elems spare => uptoBulkAll elems + uptoBulkAll spare + 1
  | .agg parts => uptoBulkAll parts + 1
  | .iface _ d => uptoBulk d + 1
  | .map entries => uptoBulkEntries entries + 1
  | .held _ => 1
def uptoBulkAll {H : Type} : List (DataW H) → Nat
  | [] => 0
  | d :: r => uptoBulk d + uptoBulkAll r
def uptoBulkEntries {H : Type} : List (Lit × DataW H) → Nat
  | [] => 0
  | x :: r => uptoBulkEntry x + uptoBulkEntries r
def uptoBulkEntry {H : Type} : Lit × DataW H → Nat
  | (.string bytes, d) => bytes.length + uptoBulk d + 1
  | (_, d) => uptoBulk d + 1
 end
def uptoSmall : (H : Type) → List (DataW H) → Bool := fun _ ds => decide (uptoBulkAll ds ≤ 1048576)
def OpenSpec.upto (s : _root_.Go.ChangeSpec) : _root_.Go.OpenSpec := { _root_.Go.OpenSpec.ofChange s with cond := some uptoSmall }

/-- 'hawserlaw05.ShaPrints', WHERE WHAT IT READS IS OF BULK AT MOST 1048576: true; the input reads as it did. -/
def shaPrintsUptoRow : OpenClaim := { program := "ytcaljnlicohkaaa", sum := "fca6b0492df3ca0f2749bafa431085dafb414607f4df2e72b655a831b52ced7f", func := "hawser/hawserlaw05.ShaPrints", spec := "shaPrints", apart := false, narrowed := true }
def ShaPrintsUptoSaid : Prop := shaPrintsUptoRow.holds Try.pinned (OpenSpec.upto shaPrintsSpec)

/-- 'hawserlaw05.ShaParses', WHERE WHAT IT READS IS OF BULK AT MOST 1048576: true; the input reads as it did. -/
def shaParsesUptoRow : OpenClaim := { program := "ytcaljnlicohkaaa", sum := "fca6b0492df3ca0f2749bafa431085dafb414607f4df2e72b655a831b52ced7f", func := "hawser/hawserlaw05.ShaParses", spec := "shaParses", apart := false, narrowed := true }
def ShaParsesUptoSaid : Prop := shaParsesUptoRow.holds Try.pinned (OpenSpec.upto shaParsesSpec)

/-- 'hawserlaw05.ShaSums', WHERE WHAT IT READS IS OF BULK AT MOST 1048576: true; the input reads as it did. -/
def shaSumsUptoRow : OpenClaim := { program := "ytcaljnlicohkaaa", sum := "fca6b0492df3ca0f2749bafa431085dafb414607f4df2e72b655a831b52ced7f", func := "hawser/hawserlaw05.ShaSums", spec := "shaSums", apart := false, narrowed := true }
def ShaSumsUptoSaid : Prop := shaSumsUptoRow.holds Try.pinned (OpenSpec.upto shaSumsSpec)

/-- 'hawserlaw05.ShaNames', WHERE WHAT IT READS IS OF BULK AT MOST 1048576: true; the input reads as it did. -/
def shaNamesUptoRow : OpenClaim := { program := "ytcaljnlicohkaaa", sum := "fca6b0492df3ca0f2749bafa431085dafb414607f4df2e72b655a831b52ced7f", func := "hawser/hawserlaw05.ShaNames", spec := "shaNames", apart := false, narrowed := true }
def ShaNamesUptoSaid : Prop := shaNamesUptoRow.holds Try.pinned (OpenSpec.upto shaNamesSpec)

/-- 'hawserlaw05.ShaKnown', WHERE WHAT IT READS IS OF BULK AT MOST 1048576: true; the input reads as it did. -/
def shaKnownUptoRow : OpenClaim := { program := "ytcaljnlicohkaaa", sum := "fca6b0492df3ca0f2749bafa431085dafb414607f4df2e72b655a831b52ced7f", func := "hawser/hawserlaw05.ShaKnown", spec := "shaKnown", apart := false, narrowed := true }
def ShaKnownUptoSaid : Prop := shaKnownUptoRow.holds Try.pinned (OpenSpec.upto shaKnownSpec)

/-- 'hawserlaw05.ShaMade', WHERE WHAT IT READS IS OF BULK AT MOST 1048576: true; the input reads as it did. -/
def shaMadeUptoRow : OpenClaim := { program := "ytcaljnlicohkaaa", sum := "fca6b0492df3ca0f2749bafa431085dafb414607f4df2e72b655a831b52ced7f", func := "hawser/hawserlaw05.ShaMade", spec := "shaMade", apart := false, narrowed := true }
def ShaMadeUptoSaid : Prop := shaMadeUptoRow.holds Try.pinned (OpenSpec.upto shaMadeSpec)

/-- 'hawserlaw05.ShaHashes', WHERE WHAT IT READS IS OF BULK AT MOST 1048576: true; the input reads as it did. -/
def shaHashesUptoRow : OpenClaim := { program := "ytcaljnlicohkaaa", sum := "fca6b0492df3ca0f2749bafa431085dafb414607f4df2e72b655a831b52ced7f", func := "hawser/hawserlaw05.ShaHashes", spec := "shaHashes", recurses := true, apart := false, narrowed := true }
def ShaHashesUptoSaid : Prop := shaHashesUptoRow.holds Try.pinned (OpenSpec.upto shaHashesSpec)

/-- 'hawserlaw05.ShaLoads', WHERE WHAT IT READS IS OF BULK AT MOST 1048576: true; the input reads as it did. -/
def shaLoadsUptoRow : OpenClaim := { program := "ytcaljnlicohkaaa", sum := "fca6b0492df3ca0f2749bafa431085dafb414607f4df2e72b655a831b52ced7f", func := "hawser/hawserlaw05.ShaLoads", spec := "shaLoads", recurses := true, apart := false, narrowed := true }
def ShaLoadsUptoSaid : Prop := shaLoadsUptoRow.holds Try.pinned (OpenSpec.upto shaLoadsSpec)

/-- 'hawserlaw05.ShaPieces', WHERE WHAT IT READS IS OF BULK AT MOST 1048576: true; the input reads as it did. -/
def shaPiecesUptoRow : OpenClaim := { program := "ytcaljnlicohkaaa", sum := "fca6b0492df3ca0f2749bafa431085dafb414607f4df2e72b655a831b52ced7f", func := "hawser/hawserlaw05.ShaPieces", spec := "shaPieces", apart := false, narrowed := true }
def ShaPiecesUptoSaid : Prop := shaPiecesUptoRow.holds Try.pinned (OpenSpec.upto shaPiecesSpec)

end Rows
end Go.Proofs.Ytcaljnlicohkaaa
