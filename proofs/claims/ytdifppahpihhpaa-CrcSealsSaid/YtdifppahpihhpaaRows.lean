/-
  No cell of these rows narrows 'for every input' (looked for: loops, veiled, ifaces, maps, wideKeys, modest, calm, conditions, laid).
  DERIVED. THE GIVEN ROWS OF THIS SEAT. 18 by the template 'for every input the law returns true; each argument reads behind the call as it read before'; 0 by the template 'total and deterministic' (their statements: YtdifppahpihhpaaTotals.lean).
  GIVEN WITH THE SEED: the statements are not yours to turn. If you find one false, say at which input.
  Laid BY PROGRAM, IN A SANDBOX (cutbox-rows.mjs): the forced cells as the released guide's own fill.sh prints them over the translation 23d32294db8908ae… (all of the seat's roots in one cut). By AI agents, Wed Nov 11 2026. No macro, syntax, notation, axiom, sorry.
-/
import Derived.Test.YtdifppahpihhpaaChecked
import GoSem.Claim
import GoSem.ClaimJoined
import GoSem.ClaimMapViews
import Derived.JoinedTies
import Derived.KernelRfl
namespace Go.Proofs.Ytdifppahpihhpaa
/- THE CELL 'sum', in the pinned program and in every row, IS THE sha256 OF THE DUMP (.gsa) THAT YtdifppahpihhpaaProg.lean LOADS. Nothing in Lean hashes anything: it is a label: what it is worth is what the hold of that sum in a sandbox is worth. -/
noncomputable def Try.pinned : Pinned := { name := "ytdifppahpihhpaa", sum := "23d32294db8908ae7ebdf22c1d7f884194c96ed4ff25cabdf182a58c0e7c5efc", checked := Try.checked }
namespace Rows
def none {H : Type} : Left H := { results := [], args := [] }

/-- 'hawserlaw02.CrcMores': WHATEVER THE INPUT: true; the input reads as it did. -/
def crcMoresSpec : ChangeSpec := { name := "crcMores", fn := fun _ => fun
  | [d1, d2] => { results := [.lit (.bool true)], args := [d1, d2] }
  | _ => none }
def crcMoresRow : OpenClaim := { program := "ytdifppahpihhpaa", sum := "23d32294db8908ae7ebdf22c1d7f884194c96ed4ff25cabdf182a58c0e7c5efc", func := "hawser/hawserlaw02.CrcMores", spec := "crcMores", apart := false }
def CrcMoresSaid : Prop := crcMoresRow.holds Try.pinned (OpenSpec.ofChange crcMoresSpec)

/-- ITS FALSE NEIGHBOUR: 'it returns false'. Refute it at one input. -/
def crcMoresWrong : ChangeSpec := { name := "crcMores", fn := fun _ => fun
  | [d1, d2] => { results := [.lit (.bool false)], args := [d1, d2] }
  | _ => none }
def CrcMoresWrongFalsely : Prop := crcMoresRow.holds Try.pinned (OpenSpec.ofChange crcMoresWrong)

/-- 'hawserlaw02.CrcMuls': WHATEVER THE INPUT: true; the input reads as it did. -/
def crcMulsSpec : ChangeSpec := { name := "crcMuls", fn := fun _ => fun
  | [d1, d2] => { results := [.lit (.bool true)], args := [d1, d2] }
  | _ => none }
def crcMulsRow : OpenClaim := { program := "ytdifppahpihhpaa", sum := "23d32294db8908ae7ebdf22c1d7f884194c96ed4ff25cabdf182a58c0e7c5efc", func := "hawser/hawserlaw02.CrcMuls", spec := "crcMuls", apart := false }
def CrcMulsSaid : Prop := crcMulsRow.holds Try.pinned (OpenSpec.ofChange crcMulsSpec)

/-- ITS FALSE NEIGHBOUR: 'it returns false'. Refute it at one input. -/
def crcMulsWrong : ChangeSpec := { name := "crcMuls", fn := fun _ => fun
  | [d1, d2] => { results := [.lit (.bool false)], args := [d1, d2] }
  | _ => none }
def CrcMulsWrongFalsely : Prop := crcMulsRow.holds Try.pinned (OpenSpec.ofChange crcMulsWrong)

/-- 'hawserlaw02.CrcNames': WHATEVER THE INPUT: true; the input reads as it did. -/
def crcNamesSpec : ChangeSpec := { name := "crcNames", fn := fun _ => fun
  | [] => { results := [.lit (.bool true)], args := [] }
  | _ => none }
def crcNamesRow : OpenClaim := { program := "ytdifppahpihhpaa", sum := "23d32294db8908ae7ebdf22c1d7f884194c96ed4ff25cabdf182a58c0e7c5efc", func := "hawser/hawserlaw02.CrcNames", spec := "crcNames", apart := false }
def CrcNamesSaid : Prop := crcNamesRow.holds Try.pinned (OpenSpec.ofChange crcNamesSpec)

/-- ITS FALSE NEIGHBOUR: 'it returns false'. Refute it at one input. -/
def crcNamesWrong : ChangeSpec := { name := "crcNames", fn := fun _ => fun
  | [] => { results := [.lit (.bool false)], args := [] }
  | _ => none }
def CrcNamesWrongFalsely : Prop := crcNamesRow.holds Try.pinned (OpenSpec.ofChange crcNamesWrong)

/-- 'hawserlaw02.CrcSums': WHATEVER THE INPUT: true; the input reads as it did. -/
def crcSumsSpec : ChangeSpec := { name := "crcSums", fn := fun _ => fun
  | [d] => { results := [.lit (.bool true)], args := [d] }
  | _ => none }
def crcSumsRow : OpenClaim := { program := "ytdifppahpihhpaa", sum := "23d32294db8908ae7ebdf22c1d7f884194c96ed4ff25cabdf182a58c0e7c5efc", func := "hawser/hawserlaw02.CrcSums", spec := "crcSums", apart := false }
def CrcSumsSaid : Prop := crcSumsRow.holds Try.pinned (OpenSpec.ofChange crcSumsSpec)

/-- ITS FALSE NEIGHBOUR: 'it returns false'. Refute it at one input. -/
def crcSumsWrong : ChangeSpec := { name := "crcSums", fn := fun _ => fun
  | [d] => { results := [.lit (.bool false)], args := [d] }
  | _ => none }
def CrcSumsWrongFalsely : Prop := crcSumsRow.holds Try.pinned (OpenSpec.ofChange crcSumsWrong)

/-- 'hawserlaw02.CrcPowers': WHATEVER THE INPUT: true; the input reads as it did. -/
def crcPowersSpec : ChangeSpec := { name := "crcPowers", fn := fun _ => fun
  | [d] => { results := [.lit (.bool true)], args := [d] }
  | _ => none }
def crcPowersRow : OpenClaim := { program := "ytdifppahpihhpaa", sum := "23d32294db8908ae7ebdf22c1d7f884194c96ed4ff25cabdf182a58c0e7c5efc", func := "hawser/hawserlaw02.CrcPowers", spec := "crcPowers", apart := false }
def CrcPowersSaid : Prop := crcPowersRow.holds Try.pinned (OpenSpec.ofChange crcPowersSpec)

/-- ITS FALSE NEIGHBOUR: 'it returns false'. Refute it at one input. -/
def crcPowersWrong : ChangeSpec := { name := "crcPowers", fn := fun _ => fun
  | [d] => { results := [.lit (.bool false)], args := [d] }
  | _ => none }
def CrcPowersWrongFalsely : Prop := crcPowersRow.holds Try.pinned (OpenSpec.ofChange crcPowersWrong)

/-- 'hawserlaw02.CrcTails': WHATEVER THE INPUT: true; the input reads as it did. -/
def crcTailsSpec : ChangeSpec := { name := "crcTails", fn := fun _ => fun
  | [d1, d2] => { results := [.lit (.bool true)], args := [d1, d2] }
  | _ => none }
def crcTailsRow : OpenClaim := { program := "ytdifppahpihhpaa", sum := "23d32294db8908ae7ebdf22c1d7f884194c96ed4ff25cabdf182a58c0e7c5efc", func := "hawser/hawserlaw02.CrcTails", spec := "crcTails", apart := false }
def CrcTailsSaid : Prop := crcTailsRow.holds Try.pinned (OpenSpec.ofChange crcTailsSpec)

/-- ITS FALSE NEIGHBOUR: 'it returns false'. Refute it at one input. -/
def crcTailsWrong : ChangeSpec := { name := "crcTails", fn := fun _ => fun
  | [d1, d2] => { results := [.lit (.bool false)], args := [d1, d2] }
  | _ => none }
def CrcTailsWrongFalsely : Prop := crcTailsRow.holds Try.pinned (OpenSpec.ofChange crcTailsWrong)

/-- 'hawserlaw02.CrcSeals': WHATEVER THE INPUT: true; the input reads as it did. -/
def crcSealsSpec : ChangeSpec := { name := "crcSeals", fn := fun _ => fun
  | [d] => { results := [.lit (.bool true)], args := [d] }
  | _ => none }
def crcSealsRow : OpenClaim := { program := "ytdifppahpihhpaa", sum := "23d32294db8908ae7ebdf22c1d7f884194c96ed4ff25cabdf182a58c0e7c5efc", func := "hawser/hawserlaw02.CrcSeals", spec := "crcSeals", apart := false }
def CrcSealsSaid : Prop := crcSealsRow.holds Try.pinned (OpenSpec.ofChange crcSealsSpec)

/-- ITS FALSE NEIGHBOUR: 'it returns false'. Refute it at one input. -/
def crcSealsWrong : ChangeSpec := { name := "crcSeals", fn := fun _ => fun
  | [d] => { results := [.lit (.bool false)], args := [d] }
  | _ => none }
def CrcSealsWrongFalsely : Prop := crcSealsRow.holds Try.pinned (OpenSpec.ofChange crcSealsWrong)

/-- 'hawserlaw02.CrcHolds': WHATEVER THE INPUT: true; the input reads as it did. -/
def crcHoldsSpec : ChangeSpec := { name := "crcHolds", fn := fun _ => fun
  | [d] => { results := [.lit (.bool true)], args := [d] }
  | _ => none }
def crcHoldsRow : OpenClaim := { program := "ytdifppahpihhpaa", sum := "23d32294db8908ae7ebdf22c1d7f884194c96ed4ff25cabdf182a58c0e7c5efc", func := "hawser/hawserlaw02.CrcHolds", spec := "crcHolds", apart := false }
def CrcHoldsSaid : Prop := crcHoldsRow.holds Try.pinned (OpenSpec.ofChange crcHoldsSpec)

/-- ITS FALSE NEIGHBOUR: 'it returns false'. Refute it at one input. -/
def crcHoldsWrong : ChangeSpec := { name := "crcHolds", fn := fun _ => fun
  | [d] => { results := [.lit (.bool false)], args := [d] }
  | _ => none }
def CrcHoldsWrongFalsely : Prop := crcHoldsRow.holds Try.pinned (OpenSpec.ofChange crcHoldsWrong)

/-- 'hawserlaw02.CrcFlips': WHATEVER THE INPUT: true; the input reads as it did. -/
def crcFlipsSpec : ChangeSpec := { name := "crcFlips", fn := fun _ => fun
  | [d1, d2] => { results := [.lit (.bool true)], args := [d1, d2] }
  | _ => none }
def crcFlipsRow : OpenClaim := { program := "ytdifppahpihhpaa", sum := "23d32294db8908ae7ebdf22c1d7f884194c96ed4ff25cabdf182a58c0e7c5efc", func := "hawser/hawserlaw02.CrcFlips", spec := "crcFlips", apart := false }
def CrcFlipsSaid : Prop := crcFlipsRow.holds Try.pinned (OpenSpec.ofChange crcFlipsSpec)

/-- ITS FALSE NEIGHBOUR: 'it returns false'. Refute it at one input. -/
def crcFlipsWrong : ChangeSpec := { name := "crcFlips", fn := fun _ => fun
  | [d1, d2] => { results := [.lit (.bool false)], args := [d1, d2] }
  | _ => none }
def CrcFlipsWrongFalsely : Prop := crcFlipsRow.holds Try.pinned (OpenSpec.ofChange crcFlipsWrong)

/-- 'hawserlaw02.CrcRuns': WHATEVER THE INPUT: true; the input reads as it did. -/
def crcRunsSpec : ChangeSpec := { name := "crcRuns", fn := fun _ => fun
  | [d1, d2, d3] => { results := [.lit (.bool true)], args := [d1, d2, d3] }
  | _ => none }
def crcRunsRow : OpenClaim := { program := "ytdifppahpihhpaa", sum := "23d32294db8908ae7ebdf22c1d7f884194c96ed4ff25cabdf182a58c0e7c5efc", func := "hawser/hawserlaw02.CrcRuns", spec := "crcRuns", apart := false }
def CrcRunsSaid : Prop := crcRunsRow.holds Try.pinned (OpenSpec.ofChange crcRunsSpec)

/-- ITS FALSE NEIGHBOUR: 'it returns false'. Refute it at one input. -/
def crcRunsWrong : ChangeSpec := { name := "crcRuns", fn := fun _ => fun
  | [d1, d2, d3] => { results := [.lit (.bool false)], args := [d1, d2, d3] }
  | _ => none }
def CrcRunsWrongFalsely : Prop := crcRunsRow.holds Try.pinned (OpenSpec.ofChange crcRunsWrong)

/-- 'hawserlaw02.CrcJoins': WHATEVER THE INPUT: true; the input reads as it did. -/
def crcJoinsSpec : ChangeSpec := { name := "crcJoins", fn := fun _ => fun
  | [d1, d2, d3] => { results := [.lit (.bool true)], args := [d1, d2, d3] }
  | _ => none }
def crcJoinsRow : OpenClaim := { program := "ytdifppahpihhpaa", sum := "23d32294db8908ae7ebdf22c1d7f884194c96ed4ff25cabdf182a58c0e7c5efc", func := "hawser/hawserlaw02.CrcJoins", spec := "crcJoins", apart := false }
def CrcJoinsSaid : Prop := crcJoinsRow.holds Try.pinned (OpenSpec.ofChange crcJoinsSpec)

/-- ITS FALSE NEIGHBOUR: 'it returns false'. Refute it at one input. -/
def crcJoinsWrong : ChangeSpec := { name := "crcJoins", fn := fun _ => fun
  | [d1, d2, d3] => { results := [.lit (.bool false)], args := [d1, d2, d3] }
  | _ => none }
def CrcJoinsWrongFalsely : Prop := crcJoinsRow.holds Try.pinned (OpenSpec.ofChange crcJoinsWrong)

/-- 'hawsertop.WholeSums': WHATEVER THE INPUT: true; the input reads as it did. -/
def wholeSumsSpec : ChangeSpec := { name := "wholeSums", fn := fun _ => fun
  | [d] => { results := [.lit (.bool true)], args := [d] }
  | _ => none }
def wholeSumsRow : OpenClaim := { program := "ytdifppahpihhpaa", sum := "23d32294db8908ae7ebdf22c1d7f884194c96ed4ff25cabdf182a58c0e7c5efc", func := "hawser/hawsertop.WholeSums", spec := "wholeSums", apart := false }
def WholeSumsSaid : Prop := wholeSumsRow.holds Try.pinned (OpenSpec.ofChange wholeSumsSpec)

/-- ITS FALSE NEIGHBOUR: 'it returns false'. Refute it at one input. -/
def wholeSumsWrong : ChangeSpec := { name := "wholeSums", fn := fun _ => fun
  | [d] => { results := [.lit (.bool false)], args := [d] }
  | _ => none }
def WholeSumsWrongFalsely : Prop := wholeSumsRow.holds Try.pinned (OpenSpec.ofChange wholeSumsWrong)

/-- 'hawserlaw02.CrcRing': WHATEVER THE INPUT: true; the input reads as it did. -/
def crcRingSpec : ChangeSpec := { name := "crcRing", fn := fun _ => fun
  | [d1, d2, d3] => { results := [.lit (.bool true)], args := [d1, d2, d3] }
  | _ => none }
def crcRingRow : OpenClaim := { program := "ytdifppahpihhpaa", sum := "23d32294db8908ae7ebdf22c1d7f884194c96ed4ff25cabdf182a58c0e7c5efc", func := "hawser/hawserlaw02.CrcRing", spec := "crcRing", apart := false }
def CrcRingSaid : Prop := crcRingRow.holds Try.pinned (OpenSpec.ofChange crcRingSpec)

/-- ITS FALSE NEIGHBOUR: 'it returns false'. Refute it at one input. -/
def crcRingWrong : ChangeSpec := { name := "crcRing", fn := fun _ => fun
  | [d1, d2, d3] => { results := [.lit (.bool false)], args := [d1, d2, d3] }
  | _ => none }
def CrcRingWrongFalsely : Prop := crcRingRow.holds Try.pinned (OpenSpec.ofChange crcRingWrong)

/-- 'hawserlaw02.CrcPowersAdd': WHATEVER THE INPUT: true; the input reads as it did. -/
def crcPowersAddSpec : ChangeSpec := { name := "crcPowersAdd", fn := fun _ => fun
  | [d1, d2] => { results := [.lit (.bool true)], args := [d1, d2] }
  | _ => none }
def crcPowersAddRow : OpenClaim := { program := "ytdifppahpihhpaa", sum := "23d32294db8908ae7ebdf22c1d7f884194c96ed4ff25cabdf182a58c0e7c5efc", func := "hawser/hawserlaw02.CrcPowersAdd", spec := "crcPowersAdd", apart := false }
def CrcPowersAddSaid : Prop := crcPowersAddRow.holds Try.pinned (OpenSpec.ofChange crcPowersAddSpec)

/-- ITS FALSE NEIGHBOUR: 'it returns false'. Refute it at one input. -/
def crcPowersAddWrong : ChangeSpec := { name := "crcPowersAdd", fn := fun _ => fun
  | [d1, d2] => { results := [.lit (.bool false)], args := [d1, d2] }
  | _ => none }
def CrcPowersAddWrongFalsely : Prop := crcPowersAddRow.holds Try.pinned (OpenSpec.ofChange crcPowersAddWrong)

/-- 'hawserlaw02.CrcZeros': WHATEVER THE INPUT: true; the input reads as it did. -/
def crcZerosSpec : ChangeSpec := { name := "crcZeros", fn := fun _ => fun
  | [d1, d2] => { results := [.lit (.bool true)], args := [d1, d2] }
  | _ => none }
def crcZerosRow : OpenClaim := { program := "ytdifppahpihhpaa", sum := "23d32294db8908ae7ebdf22c1d7f884194c96ed4ff25cabdf182a58c0e7c5efc", func := "hawser/hawserlaw02.CrcZeros", spec := "crcZeros", apart := false }
def CrcZerosSaid : Prop := crcZerosRow.holds Try.pinned (OpenSpec.ofChange crcZerosSpec)

/-- ITS FALSE NEIGHBOUR: 'it returns false'. Refute it at one input. -/
def crcZerosWrong : ChangeSpec := { name := "crcZeros", fn := fun _ => fun
  | [d1, d2] => { results := [.lit (.bool false)], args := [d1, d2] }
  | _ => none }
def CrcZerosWrongFalsely : Prop := crcZerosRow.holds Try.pinned (OpenSpec.ofChange crcZerosWrong)

/-- 'hawserlaw02.CrcTurns': WHATEVER THE INPUT: true; the input reads as it did. -/
def crcTurnsSpec : ChangeSpec := { name := "crcTurns", fn := fun _ => fun
  | [d] => { results := [.lit (.bool true)], args := [d] }
  | _ => none }
def crcTurnsRow : OpenClaim := { program := "ytdifppahpihhpaa", sum := "23d32294db8908ae7ebdf22c1d7f884194c96ed4ff25cabdf182a58c0e7c5efc", func := "hawser/hawserlaw02.CrcTurns", spec := "crcTurns", apart := false }
def CrcTurnsSaid : Prop := crcTurnsRow.holds Try.pinned (OpenSpec.ofChange crcTurnsSpec)

/-- ITS FALSE NEIGHBOUR: 'it returns false'. Refute it at one input. -/
def crcTurnsWrong : ChangeSpec := { name := "crcTurns", fn := fun _ => fun
  | [d] => { results := [.lit (.bool false)], args := [d] }
  | _ => none }
def CrcTurnsWrongFalsely : Prop := crcTurnsRow.holds Try.pinned (OpenSpec.ofChange crcTurnsWrong)

/-- 'hawserlaw02.CrcCuts': WHATEVER THE INPUT: true; the input reads as it did. -/
def crcCutsSpec : ChangeSpec := { name := "crcCuts", fn := fun _ => fun
  | [d] => { results := [.lit (.bool true)], args := [d] }
  | _ => none }
def crcCutsRow : OpenClaim := { program := "ytdifppahpihhpaa", sum := "23d32294db8908ae7ebdf22c1d7f884194c96ed4ff25cabdf182a58c0e7c5efc", func := "hawser/hawserlaw02.CrcCuts", spec := "crcCuts", apart := false }
def CrcCutsSaid : Prop := crcCutsRow.holds Try.pinned (OpenSpec.ofChange crcCutsSpec)

/-- ITS FALSE NEIGHBOUR: 'it returns false'. Refute it at one input. -/
def crcCutsWrong : ChangeSpec := { name := "crcCuts", fn := fun _ => fun
  | [d] => { results := [.lit (.bool false)], args := [d] }
  | _ => none }
def CrcCutsWrongFalsely : Prop := crcCutsRow.holds Try.pinned (OpenSpec.ofChange crcCutsWrong)

/-- 'hawserlaw02.CrcTurnsBack': WHATEVER THE INPUT: true; the input reads as it did. -/
def crcTurnsBackSpec : ChangeSpec := { name := "crcTurnsBack", fn := fun _ => fun
  | [d1, d2, d3] => { results := [.lit (.bool true)], args := [d1, d2, d3] }
  | _ => none }
def crcTurnsBackRow : OpenClaim := { program := "ytdifppahpihhpaa", sum := "23d32294db8908ae7ebdf22c1d7f884194c96ed4ff25cabdf182a58c0e7c5efc", func := "hawser/hawserlaw02.CrcTurnsBack", spec := "crcTurnsBack", apart := false }
def CrcTurnsBackSaid : Prop := crcTurnsBackRow.holds Try.pinned (OpenSpec.ofChange crcTurnsBackSpec)

/-- ITS FALSE NEIGHBOUR: 'it returns false'. Refute it at one input. -/
def crcTurnsBackWrong : ChangeSpec := { name := "crcTurnsBack", fn := fun _ => fun
  | [d1, d2, d3] => { results := [.lit (.bool false)], args := [d1, d2, d3] }
  | _ => none }
def CrcTurnsBackWrongFalsely : Prop := crcTurnsBackRow.holds Try.pinned (OpenSpec.ofChange crcTurnsBackWrong)

/- THE SECOND FORM. 'bulk': how many values and letters a reading holds, each counted each time it is reached (what is shared counts as often as it is met; a slice's spare places count too). A statement '..UptoSaid' is the law's where the arguments, and the package variables that the reading takes, are together of bulk at most 1048576: NARROWER than '..Said'. Prove '..Said' where nothing that the law and all that it calls make is longer than what came in: it says more and counts as full. Else prove '..UptoSaid'. A law counts once. -/
mutual
def uptoBulk {H : Type} : DataW H → Nat
  | .lit (.string bytes) => bytes.length + 1
  | .lit _ => 1
  | .nil => 1
  | .ptr d => uptoBulk d + 1
  | .slice elems spare => uptoBulkAll elems + uptoBulkAll spare + 1
  | .agg parts => uptoBulkAll parts + 1
  | .iface _ d => uptoBulk d + 1
  | .map entries => uptoBulkEntries entries + 1
  | .held _ => 1
def uptoBulkAll {H : Type} : List (DataW H) → Nat
  | [] => 0
  | d :: r => uptoBulk d + uptoBulkAll r
def uptoBulkEntries {H : Type} : List (Lit × DataW H) → Nat
  | [] => 0
  | x :: r => uptoBulkEntry x + uptoBulkEntries r
def uptoBulkEntry {H : Type} : Lit × DataW H → Nat
  | (.string bytes, d) => bytes.length + uptoBulk d + 1
  | (_, d) => uptoBulk d + 1
 end
def uptoSmall : (H : Type) → List (DataW H) → Bool := fun _ ds => decide (uptoBulkAll ds ≤ 1048576)
def OpenSpec.upto (s : _root_.Go.ChangeSpec) : _root_.Go.OpenSpec := { _root_.Go.OpenSpec.ofChange s with cond := some uptoSmall }

/-- 'hawserlaw02.CrcMores', WHERE WHAT IT READS IS OF BULK AT MOST 1048576: true; the input reads as it did. -/
def crcMoresUptoRow : OpenClaim := { program := "ytdifppahpihhpaa", sum := "23d32294db8908ae7ebdf22c1d7f884194c96ed4ff25cabdf182a58c0e7c5efc", func := "hawser/hawserlaw02.CrcMores", spec := "crcMores", apart := false, narrowed := true }
def CrcMoresUptoSaid : Prop := crcMoresUptoRow.holds Try.pinned (OpenSpec.upto crcMoresSpec)

/-- 'hawserlaw02.CrcMuls', WHERE WHAT IT READS IS OF BULK AT MOST 1048576: true; the input reads as it did. -/
def crcMulsUptoRow : OpenClaim := { program := "ytdifppahpihhpaa", sum := "23d32294db8908ae7ebdf22c1d7f884194c96ed4ff25cabdf182a58c0e7c5efc", func := "hawser/hawserlaw02.CrcMuls", spec := "crcMuls", apart := false, narrowed := true }
def CrcMulsUptoSaid : Prop := crcMulsUptoRow.holds Try.pinned (OpenSpec.upto crcMulsSpec)

/-- 'hawserlaw02.CrcNames', WHERE WHAT IT READS IS OF BULK AT MOST 1048576: true; the input reads as it did. -/
def crcNamesUptoRow : OpenClaim := { program := "ytdifppahpihhpaa", sum := "23d32294db8908ae7ebdf22c1d7f884194c96ed4ff25cabdf182a58c0e7c5efc", func := "hawser/hawserlaw02.CrcNames", spec := "crcNames", apart := false, narrowed := true }
def CrcNamesUptoSaid : Prop := crcNamesUptoRow.holds Try.pinned (OpenSpec.upto crcNamesSpec)

/-- 'hawserlaw02.CrcSums', WHERE WHAT IT READS IS OF BULK AT MOST 1048576: true; the input reads as it did. -/
def crcSumsUptoRow : OpenClaim := { program := "ytdifppahpihhpaa", sum := "23d32294db8908ae7ebdf22c1d7f884194c96ed4ff25cabdf182a58c0e7c5efc", func := "hawser/hawserlaw02.CrcSums", spec := "crcSums", apart := false, narrowed := true }
def CrcSumsUptoSaid : Prop := crcSumsUptoRow.holds Try.pinned (OpenSpec.upto crcSumsSpec)

/-- 'hawserlaw02.CrcPowers', WHERE WHAT IT READS IS OF BULK AT MOST 1048576: true; the input reads as it did. -/
def crcPowersUptoRow : OpenClaim := { program := "ytdifppahpihhpaa", sum := "23d32294db8908ae7ebdf22c1d7f884194c96ed4ff25cabdf182a58c0e7c5efc", func := "hawser/hawserlaw02.CrcPowers", spec := "crcPowers", apart := false, narrowed := true }
def CrcPowersUptoSaid : Prop := crcPowersUptoRow.holds Try.pinned (OpenSpec.upto crcPowersSpec)

/-- 'hawserlaw02.CrcTails', WHERE WHAT IT READS IS OF BULK AT MOST 1048576: true; the input reads as it did. -/
def crcTailsUptoRow : OpenClaim := { program := "ytdifppahpihhpaa", sum := "23d32294db8908ae7ebdf22c1d7f884194c96ed4ff25cabdf182a58c0e7c5efc", func := "hawser/hawserlaw02.CrcTails", spec := "crcTails", apart := false, narrowed := true }
def CrcTailsUptoSaid : Prop := crcTailsUptoRow.holds Try.pinned (OpenSpec.upto crcTailsSpec)

/-- 'hawserlaw02.CrcSeals', WHERE WHAT IT READS IS OF BULK AT MOST 1048576: true; the input reads as it did. -/
def crcSealsUptoRow : OpenClaim := { program := "ytdifppahpihhpaa", sum := "23d32294db8908ae7ebdf22c1d7f884194c96ed4ff25cabdf182a58c0e7c5efc", func := "hawser/hawserlaw02.CrcSeals", spec := "crcSeals", apart := false, narrowed := true }
def CrcSealsUptoSaid : Prop := crcSealsUptoRow.holds Try.pinned (OpenSpec.upto crcSealsSpec)

/-- 'hawserlaw02.CrcHolds', WHERE WHAT IT READS IS OF BULK AT MOST 1048576: true; the input reads as it did. -/
def crcHoldsUptoRow : OpenClaim := { program := "ytdifppahpihhpaa", sum := "23d32294db8908ae7ebdf22c1d7f884194c96ed4ff25cabdf182a58c0e7c5efc", func := "hawser/hawserlaw02.CrcHolds", spec := "crcHolds", apart := false, narrowed := true }
def CrcHoldsUptoSaid : Prop := crcHoldsUptoRow.holds Try.pinned (OpenSpec.upto crcHoldsSpec)

/-- 'hawserlaw02.CrcFlips', WHERE WHAT IT READS IS OF BULK AT MOST 1048576: true; the input reads as it did. -/
def crcFlipsUptoRow : OpenClaim := { program := "ytdifppahpihhpaa", sum := "23d32294db8908ae7ebdf22c1d7f884194c96ed4ff25cabdf182a58c0e7c5efc", func := "hawser/hawserlaw02.CrcFlips", spec := "crcFlips", apart := false, narrowed := true }
def CrcFlipsUptoSaid : Prop := crcFlipsUptoRow.holds Try.pinned (OpenSpec.upto crcFlipsSpec)

/-- 'hawserlaw02.CrcRuns', WHERE WHAT IT READS IS OF BULK AT MOST 1048576: true; the input reads as it did. -/
def crcRunsUptoRow : OpenClaim := { program := "ytdifppahpihhpaa", sum := "23d32294db8908ae7ebdf22c1d7f884194c96ed4ff25cabdf182a58c0e7c5efc", func := "hawser/hawserlaw02.CrcRuns", spec := "crcRuns", apart := false, narrowed := true }
def CrcRunsUptoSaid : Prop := crcRunsUptoRow.holds Try.pinned (OpenSpec.upto crcRunsSpec)

/-- 'hawserlaw02.CrcJoins', WHERE WHAT IT READS IS OF BULK AT MOST 1048576: true; the input reads as it did. -/
def crcJoinsUptoRow : OpenClaim := { program := "ytdifppahpihhpaa", sum := "23d32294db8908ae7ebdf22c1d7f884194c96ed4ff25cabdf182a58c0e7c5efc", func := "hawser/hawserlaw02.CrcJoins", spec := "crcJoins", apart := false, narrowed := true }
def CrcJoinsUptoSaid : Prop := crcJoinsUptoRow.holds Try.pinned (OpenSpec.upto crcJoinsSpec)

/-- 'hawsertop.WholeSums', WHERE WHAT IT READS IS OF BULK AT MOST 1048576: true; the input reads as it did. -/
def wholeSumsUptoRow : OpenClaim := { program := "ytdifppahpihhpaa", sum := "23d32294db8908ae7ebdf22c1d7f884194c96ed4ff25cabdf182a58c0e7c5efc", func := "hawser/hawsertop.WholeSums", spec := "wholeSums", apart := false, narrowed := true }
def WholeSumsUptoSaid : Prop := wholeSumsUptoRow.holds Try.pinned (OpenSpec.upto wholeSumsSpec)

/-- 'hawserlaw02.CrcRing', WHERE WHAT IT READS IS OF BULK AT MOST 1048576: true; the input reads as it did. -/
def crcRingUptoRow : OpenClaim := { program := "ytdifppahpihhpaa", sum := "23d32294db8908ae7ebdf22c1d7f884194c96ed4ff25cabdf182a58c0e7c5efc", func := "hawser/hawserlaw02.CrcRing", spec := "crcRing", apart := false, narrowed := true }
def CrcRingUptoSaid : Prop := crcRingUptoRow.holds Try.pinned (OpenSpec.upto crcRingSpec)

/-- 'hawserlaw02.CrcPowersAdd', WHERE WHAT IT READS IS OF BULK AT MOST 1048576: true; the input reads as it did. -/
def crcPowersAddUptoRow : OpenClaim := { program := "ytdifppahpihhpaa", sum := "23d32294db8908ae7ebdf22c1d7f884194c96ed4ff25cabdf182a58c0e7c5efc", func := "hawser/hawserlaw02.CrcPowersAdd", spec := "crcPowersAdd", apart := false, narrowed := true }
def CrcPowersAddUptoSaid : Prop := crcPowersAddUptoRow.holds Try.pinned (OpenSpec.upto crcPowersAddSpec)

/-- 'hawserlaw02.CrcZeros', WHERE WHAT IT READS IS OF BULK AT MOST 1048576: true; the input reads as it did. -/
def crcZerosUptoRow : OpenClaim := { program := "ytdifppahpihhpaa", sum := "23d32294db8908ae7ebdf22c1d7f884194c96ed4ff25cabdf182a58c0e7c5efc", func := "hawser/hawserlaw02.CrcZeros", spec := "crcZeros", apart := false, narrowed := true }
def CrcZerosUptoSaid : Prop := crcZerosUptoRow.holds Try.pinned (OpenSpec.upto crcZerosSpec)

/-- 'hawserlaw02.CrcTurns', WHERE WHAT IT READS IS OF BULK AT MOST 1048576: true; the input reads as it did. -/
def crcTurnsUptoRow : OpenClaim := { program := "ytdifppahpihhpaa", sum := "23d32294db8908ae7ebdf22c1d7f884194c96ed4ff25cabdf182a58c0e7c5efc", func := "hawser/hawserlaw02.CrcTurns", spec := "crcTurns", apart := false, narrowed := true }
def CrcTurnsUptoSaid : Prop := crcTurnsUptoRow.holds Try.pinned (OpenSpec.upto crcTurnsSpec)

/-- 'hawserlaw02.CrcCuts', WHERE WHAT IT READS IS OF BULK AT MOST 1048576: true; the input reads as it did. -/
def crcCutsUptoRow : OpenClaim := { program := "ytdifppahpihhpaa", sum := "23d32294db8908ae7ebdf22c1d7f884194c96ed4ff25cabdf182a58c0e7c5efc", func := "hawser/hawserlaw02.CrcCuts", spec := "crcCuts", apart := false, narrowed := true }
def CrcCutsUptoSaid : Prop := crcCutsUptoRow.holds Try.pinned (OpenSpec.upto crcCutsSpec)

/-- 'hawserlaw02.CrcTurnsBack', WHERE WHAT IT READS IS OF BULK AT MOST 1048576: true; the input reads as it did. -/
def crcTurnsBackUptoRow : OpenClaim := { program := "ytdifppahpihhpaa", sum := "23d32294db8908ae7ebdf22c1d7f884194c96ed4ff25cabdf182a58c0e7c5efc", func := "hawser/hawserlaw02.CrcTurnsBack", spec := "crcTurnsBack", apart := false, narrowed := true }
def CrcTurnsBackUptoSaid : Prop := crcTurnsBackUptoRow.holds Try.pinned (OpenSpec.upto crcTurnsBackSpec)

end Rows
end Go.Proofs.Ytdifppahpihhpaa
