/-
  No cell of these rows narrows 'for every input' (looked for: loops, veiled, ifaces, maps, wideKeys, modest, calm, conditions, laid).
  DERIVED. THE GIVEN ROWS OF THIS SEAT. 11 by the template 'for every input the law returns true; each argument reads behind the call as it read before'; 0 by the template 'total and deterministic' (their statements: YtdonocchidfooaaTotals.lean).
  GIVEN WITH THE SEED: the statements are not yours to turn. If you find one false, say at which input.
  Laid BY PROGRAM, IN A SANDBOX (cutbox-rows.mjs): the forced cells as the released guide's own fill.sh prints them over the translation 0e86bdaa9c3a9844… (all of the seat's roots in one cut). By AI agents, Wed Nov 11 2026. No macro, syntax, notation, axiom, sorry.
-/
import Derived.Test.YtdonocchidfooaaChecked
import GoSem.Claim
import GoSem.ClaimJoined
import GoSem.ClaimMapViews
import Derived.JoinedTies
import Derived.KernelRfl
namespace Go.Proofs.Ytdonocchidfooaa
/- THE CELL 'sum', in the pinned program and in every row, IS THE sha256 OF THE DUMP (.gsa) THAT YtdonocchidfooaaProg.lean LOADS. Nothing in Lean hashes anything: it is a label: what it is worth is what the hold of that sum in a sandbox is worth. -/
noncomputable def Try.pinned : Pinned := { name := "ytdonocchidfooaa", sum := "0e86bdaa9c3a98440e8b6ca04a24d3d92d9387f4c8987755727a0afbf2654d7d", checked := Try.checked }
namespace Rows
def none {H : Type} : Left H := { results := [], args := [] }

/-- 'coppicelaw01.SumAnswers': WHATEVER THE INPUT: true; the input reads as it did. -/
def sumAnswersSpec : ChangeSpec := { name := "sumAnswers", fn := fun _ => fun
  | [d] => { results := [.lit (.bool true)], args := [d] }
  | _ => none }
def sumAnswersRow : OpenClaim := { program := "ytdonocchidfooaa", sum := "0e86bdaa9c3a98440e8b6ca04a24d3d92d9387f4c8987755727a0afbf2654d7d", func := "coppice/coppicelaw01.SumAnswers", spec := "sumAnswers", apart := false }
def SumAnswersSaid : Prop := sumAnswersRow.holds Try.pinned (OpenSpec.ofChange sumAnswersSpec)

/-- ITS FALSE NEIGHBOUR: 'it returns false'. Refute it at one input. -/
def sumAnswersWrong : ChangeSpec := { name := "sumAnswers", fn := fun _ => fun
  | [d] => { results := [.lit (.bool false)], args := [d] }
  | _ => none }
def SumAnswersWrongFalsely : Prop := sumAnswersRow.holds Try.pinned (OpenSpec.ofChange sumAnswersWrong)

/-- 'coppicelaw01.SumOf': WHATEVER THE INPUT: true; the input reads as it did. -/
def sumOfSpec : ChangeSpec := { name := "sumOf", fn := fun _ => fun
  | [d] => { results := [.lit (.bool true)], args := [d] }
  | _ => none }
def sumOfRow : OpenClaim := { program := "ytdonocchidfooaa", sum := "0e86bdaa9c3a98440e8b6ca04a24d3d92d9387f4c8987755727a0afbf2654d7d", func := "coppice/coppicelaw01.SumOf", spec := "sumOf", apart := false }
def SumOfSaid : Prop := sumOfRow.holds Try.pinned (OpenSpec.ofChange sumOfSpec)

/-- ITS FALSE NEIGHBOUR: 'it returns false'. Refute it at one input. -/
def sumOfWrong : ChangeSpec := { name := "sumOf", fn := fun _ => fun
  | [d] => { results := [.lit (.bool false)], args := [d] }
  | _ => none }
def SumOfWrongFalsely : Prop := sumOfRow.holds Try.pinned (OpenSpec.ofChange sumOfWrong)

/-- 'coppicelaw01.SumMore': WHATEVER THE INPUT: true; the input reads as it did. -/
def sumMoreSpec : ChangeSpec := { name := "sumMore", fn := fun _ => fun
  | [d1, d2] => { results := [.lit (.bool true)], args := [d1, d2] }
  | _ => none }
def sumMoreRow : OpenClaim := { program := "ytdonocchidfooaa", sum := "0e86bdaa9c3a98440e8b6ca04a24d3d92d9387f4c8987755727a0afbf2654d7d", func := "coppice/coppicelaw01.SumMore", spec := "sumMore", apart := false }
def SumMoreSaid : Prop := sumMoreRow.holds Try.pinned (OpenSpec.ofChange sumMoreSpec)

/-- ITS FALSE NEIGHBOUR: 'it returns false'. Refute it at one input. -/
def sumMoreWrong : ChangeSpec := { name := "sumMore", fn := fun _ => fun
  | [d1, d2] => { results := [.lit (.bool false)], args := [d1, d2] }
  | _ => none }
def SumMoreWrongFalsely : Prop := sumMoreRow.holds Try.pinned (OpenSpec.ofChange sumMoreWrong)

/-- 'coppicelaw01.SumJoin': WHATEVER THE INPUT: true; the input reads as it did. -/
def sumJoinSpec : ChangeSpec := { name := "sumJoin", fn := fun _ => fun
  | [d1, d2, d3] => { results := [.lit (.bool true)], args := [d1, d2, d3] }
  | _ => none }
def sumJoinRow : OpenClaim := { program := "ytdonocchidfooaa", sum := "0e86bdaa9c3a98440e8b6ca04a24d3d92d9387f4c8987755727a0afbf2654d7d", func := "coppice/coppicelaw01.SumJoin", spec := "sumJoin", apart := false }
def SumJoinSaid : Prop := sumJoinRow.holds Try.pinned (OpenSpec.ofChange sumJoinSpec)

/-- ITS FALSE NEIGHBOUR: 'it returns false'. Refute it at one input. -/
def sumJoinWrong : ChangeSpec := { name := "sumJoin", fn := fun _ => fun
  | [d1, d2, d3] => { results := [.lit (.bool false)], args := [d1, d2, d3] }
  | _ => none }
def SumJoinWrongFalsely : Prop := sumJoinRow.holds Try.pinned (OpenSpec.ofChange sumJoinWrong)

/-- 'coppicelaw01.SumZeros': WHATEVER THE INPUT: true; the input reads as it did. -/
def sumZerosSpec : ChangeSpec := { name := "sumZeros", fn := fun _ => fun
  | [d] => { results := [.lit (.bool true)], args := [d] }
  | _ => none }
def sumZerosRow : OpenClaim := { program := "ytdonocchidfooaa", sum := "0e86bdaa9c3a98440e8b6ca04a24d3d92d9387f4c8987755727a0afbf2654d7d", func := "coppice/coppicelaw01.SumZeros", spec := "sumZeros", apart := false }
def SumZerosSaid : Prop := sumZerosRow.holds Try.pinned (OpenSpec.ofChange sumZerosSpec)

/-- ITS FALSE NEIGHBOUR: 'it returns false'. Refute it at one input. -/
def sumZerosWrong : ChangeSpec := { name := "sumZeros", fn := fun _ => fun
  | [d] => { results := [.lit (.bool false)], args := [d] }
  | _ => none }
def SumZerosWrongFalsely : Prop := sumZerosRow.holds Try.pinned (OpenSpec.ofChange sumZerosWrong)

/-- 'coppicelaw01.SumFrom': WHATEVER THE INPUT: true; the input reads as it did. -/
def sumFromSpec : ChangeSpec := { name := "sumFrom", fn := fun _ => fun
  | [d1, d2] => { results := [.lit (.bool true)], args := [d1, d2] }
  | _ => none }
def sumFromRow : OpenClaim := { program := "ytdonocchidfooaa", sum := "0e86bdaa9c3a98440e8b6ca04a24d3d92d9387f4c8987755727a0afbf2654d7d", func := "coppice/coppicelaw01.SumFrom", spec := "sumFrom", apart := false }
def SumFromSaid : Prop := sumFromRow.holds Try.pinned (OpenSpec.ofChange sumFromSpec)

/-- ITS FALSE NEIGHBOUR: 'it returns false'. Refute it at one input. -/
def sumFromWrong : ChangeSpec := { name := "sumFrom", fn := fun _ => fun
  | [d1, d2] => { results := [.lit (.bool false)], args := [d1, d2] }
  | _ => none }
def SumFromWrongFalsely : Prop := sumFromRow.holds Try.pinned (OpenSpec.ofChange sumFromWrong)

/-- 'coppicelaw01.SumInAnyOrder': WHATEVER THE INPUT: true; the input reads as it did. -/
def sumInAnyOrderSpec : ChangeSpec := { name := "sumInAnyOrder", fn := fun _ => fun
  | [d] => { results := [.lit (.bool true)], args := [d] }
  | _ => none }
def sumInAnyOrderRow : OpenClaim := { program := "ytdonocchidfooaa", sum := "0e86bdaa9c3a98440e8b6ca04a24d3d92d9387f4c8987755727a0afbf2654d7d", func := "coppice/coppicelaw01.SumInAnyOrder", spec := "sumInAnyOrder", apart := false }
def SumInAnyOrderSaid : Prop := sumInAnyOrderRow.holds Try.pinned (OpenSpec.ofChange sumInAnyOrderSpec)

/-- ITS FALSE NEIGHBOUR: 'it returns false'. Refute it at one input. -/
def sumInAnyOrderWrong : ChangeSpec := { name := "sumInAnyOrder", fn := fun _ => fun
  | [d] => { results := [.lit (.bool false)], args := [d] }
  | _ => none }
def SumInAnyOrderWrongFalsely : Prop := sumInAnyOrderRow.holds Try.pinned (OpenSpec.ofChange sumInAnyOrderWrong)

/-- 'coppicelaw01.SumNoCarry': WHATEVER THE INPUT: true; the input reads as it did. -/
def sumNoCarrySpec : ChangeSpec := { name := "sumNoCarry", fn := fun _ => fun
  | [d1, d2] => { results := [.lit (.bool true)], args := [d1, d2] }
  | _ => none }
def sumNoCarryRow : OpenClaim := { program := "ytdonocchidfooaa", sum := "0e86bdaa9c3a98440e8b6ca04a24d3d92d9387f4c8987755727a0afbf2654d7d", func := "coppice/coppicelaw01.SumNoCarry", spec := "sumNoCarry", apart := false }
def SumNoCarrySaid : Prop := sumNoCarryRow.holds Try.pinned (OpenSpec.ofChange sumNoCarrySpec)

/-- ITS FALSE NEIGHBOUR: 'it returns false'. Refute it at one input. -/
def sumNoCarryWrong : ChangeSpec := { name := "sumNoCarry", fn := fun _ => fun
  | [d1, d2] => { results := [.lit (.bool false)], args := [d1, d2] }
  | _ => none }
def SumNoCarryWrongFalsely : Prop := sumNoCarryRow.holds Try.pinned (OpenSpec.ofChange sumNoCarryWrong)

/-- 'coppicelaw01.SumRound': WHATEVER THE INPUT: true; the input reads as it did. -/
def sumRoundSpec : ChangeSpec := { name := "sumRound", fn := fun _ => fun
  | [d] => { results := [.lit (.bool true)], args := [d] }
  | _ => none }
def sumRoundRow : OpenClaim := { program := "ytdonocchidfooaa", sum := "0e86bdaa9c3a98440e8b6ca04a24d3d92d9387f4c8987755727a0afbf2654d7d", func := "coppice/coppicelaw01.SumRound", spec := "sumRound", apart := false }
def SumRoundSaid : Prop := sumRoundRow.holds Try.pinned (OpenSpec.ofChange sumRoundSpec)

/-- ITS FALSE NEIGHBOUR: 'it returns false'. Refute it at one input. -/
def sumRoundWrong : ChangeSpec := { name := "sumRound", fn := fun _ => fun
  | [d] => { results := [.lit (.bool false)], args := [d] }
  | _ => none }
def SumRoundWrongFalsely : Prop := sumRoundRow.holds Try.pinned (OpenSpec.ofChange sumRoundWrong)

/-- 'coppicelaw01.SumTells': WHATEVER THE INPUT: true; the input reads as it did. -/
def sumTellsSpec : ChangeSpec := { name := "sumTells", fn := fun _ => fun
  | [d1, d2, d3] => { results := [.lit (.bool true)], args := [d1, d2, d3] }
  | _ => none }
def sumTellsRow : OpenClaim := { program := "ytdonocchidfooaa", sum := "0e86bdaa9c3a98440e8b6ca04a24d3d92d9387f4c8987755727a0afbf2654d7d", func := "coppice/coppicelaw01.SumTells", spec := "sumTells", apart := false }
def SumTellsSaid : Prop := sumTellsRow.holds Try.pinned (OpenSpec.ofChange sumTellsSpec)

/-- ITS FALSE NEIGHBOUR: 'it returns false'. Refute it at one input. -/
def sumTellsWrong : ChangeSpec := { name := "sumTells", fn := fun _ => fun
  | [d1, d2, d3] => { results := [.lit (.bool false)], args := [d1, d2, d3] }
  | _ => none }
def SumTellsWrongFalsely : Prop := sumTellsRow.holds Try.pinned (OpenSpec.ofChange sumTellsWrong)

/-- 'coppicelaw01.SumOwn': WHATEVER THE INPUT: true; the input reads as it did. -/
def sumOwnSpec : ChangeSpec := { name := "sumOwn", fn := fun _ => fun
  | [d] => { results := [.lit (.bool true)], args := [d] }
  | _ => none }
def sumOwnRow : OpenClaim := { program := "ytdonocchidfooaa", sum := "0e86bdaa9c3a98440e8b6ca04a24d3d92d9387f4c8987755727a0afbf2654d7d", func := "coppice/coppicelaw01.SumOwn", spec := "sumOwn", apart := false }
def SumOwnSaid : Prop := sumOwnRow.holds Try.pinned (OpenSpec.ofChange sumOwnSpec)

/-- ITS FALSE NEIGHBOUR: 'it returns false'. Refute it at one input. -/
def sumOwnWrong : ChangeSpec := { name := "sumOwn", fn := fun _ => fun
  | [d] => { results := [.lit (.bool false)], args := [d] }
  | _ => none }
def SumOwnWrongFalsely : Prop := sumOwnRow.holds Try.pinned (OpenSpec.ofChange sumOwnWrong)

/- THE SECOND FORM. 'bulk': how many values and letters a reading holds, each counted each time it is reached (what is shared counts as often as it is met; a slice's spare places count too). A statement '..UptoSaid' is the law's where the arguments, and the package variables that the reading takes, are together of bulk at most 1048576: NARROWER than '..Said'. Prove '..Said' where nothing that the law and all that it calls make is longer than what came in: it says more and counts as full. Else prove '..UptoSaid'. A law counts once. -/
mutual
def uptoBulk {H : Type} : DataW H → Nat
  | .lit (.string bytes) => bytes.length + 1
  | .lit _ => 1
  | .nil => 1
  | .ptr d => uptoBulk d + 1
  | .slice elems spare => uptoBulkAll elems + uptoBulkAll spare + 1
  | .agg parts => uptoBulkAll parts + 1
  | .iface _ d => uptoBulk d + 1
  | .map entries => uptoBulkEntries entries + 1
  | .held _ => 1
def uptoBulkAll {H : Type} : List (DataW H) → Nat
  | [] => 0
  | d :: r => uptoBulk d + uptoBulkAll r
def uptoBulkEntries {H : Type} : List (Lit × DataW H) → Nat
  | [] => 0
  | x :: r => uptoBulkEntry x + uptoBulkEntries r
def uptoBulkEntry {H : Type} : Lit × DataW H → Nat
  | (.string bytes, d) => bytes.length + uptoBulk d + 1
  | (_, d) => uptoBulk d + 1
 end
def uptoSmall : (H : Type) → List (DataW H) → Bool := fun _ ds => decide (uptoBulkAll ds ≤ 1048576)
def OpenSpec.upto (s : _root_.Go.ChangeSpec) : _root_.Go.OpenSpec := { _root_.Go.OpenSpec.ofChange s with cond := some uptoSmall }

/-- 'coppicelaw01.SumAnswers', WHERE WHAT IT READS IS OF BULK AT MOST 1048576: true; the input reads as it did. -/
def sumAnswersUptoRow : OpenClaim := { program := "ytdonocchidfooaa", sum := "0e86bdaa9c3a98440e8b6ca04a24d3d92d9387f4c8987755727a0afbf2654d7d", func := "coppice/coppicelaw01.SumAnswers", spec := "sumAnswers", apart := false, narrowed := true }
def SumAnswersUptoSaid : Prop := sumAnswersUptoRow.holds Try.pinned (OpenSpec.upto sumAnswersSpec)

/-- 'coppicelaw01.SumOf', WHERE WHAT IT READS IS OF BULK AT MOST 1048576: true; the input reads as it did. -/
def sumOfUptoRow : OpenClaim := { program := "ytdonocchidfooaa", sum := "0e86bdaa9c3a98440e8b6ca04a24d3d92d9387f4c8987755727a0afbf2654d7d", func := "coppice/coppicelaw01.SumOf", spec := "sumOf", apart := false, narrowed := true }
def SumOfUptoSaid : Prop := sumOfUptoRow.holds Try.pinned (OpenSpec.upto sumOfSpec)

/-- 'coppicelaw01.SumMore', WHERE WHAT IT READS IS OF BULK AT MOST 1048576: true; the input reads as it did. -/
def sumMoreUptoRow : OpenClaim := { program := "ytdonocchidfooaa", sum := "0e86bdaa9c3a98440e8b6ca04a24d3d92d9387f4c8987755727a0afbf2654d7d", func := "coppice/coppicelaw01.SumMore", spec := "sumMore", apart := false, narrowed := true }
def SumMoreUptoSaid : Prop := sumMoreUptoRow.holds Try.pinned (OpenSpec.upto sumMoreSpec)

/-- 'coppicelaw01.SumJoin', WHERE WHAT IT READS IS OF BULK AT MOST 1048576: true; the input reads as it did. -/
def sumJoinUptoRow : OpenClaim := { program := "ytdonocchidfooaa", sum := "0e86bdaa9c3a98440e8b6ca04a24d3d92d9387f4c8987755727a0afbf2654d7d", func := "coppice/coppicelaw01.SumJoin", spec := "sumJoin", apart := false, narrowed := true }
def SumJoinUptoSaid : Prop := sumJoinUptoRow.holds Try.pinned (OpenSpec.upto sumJoinSpec)

/-- 'coppicelaw01.SumZeros', WHERE WHAT IT READS IS OF BULK AT MOST 1048576: true; the input reads as it did. -/
def sumZerosUptoRow : OpenClaim := { program := "ytdonocchidfooaa", sum := "0e86bdaa9c3a98440e8b6ca04a24d3d92d9387f4c8987755727a0afbf2654d7d", func := "coppice/coppicelaw01.SumZeros", spec := "sumZeros", apart := false, narrowed := true }
def SumZerosUptoSaid : Prop := sumZerosUptoRow.holds Try.pinned (OpenSpec.upto sumZerosSpec)

/-- 'coppicelaw01.SumFrom', WHERE WHAT IT READS IS OF BULK AT MOST 1048576: true; the input reads as it did. -/
def sumFromUptoRow : OpenClaim := { program := "ytdonocchidfooaa", sum := "0e86bdaa9c3a98440e8b6ca04a24d3d92d9387f4c8987755727a0afbf2654d7d", func := "coppice/coppicelaw01.SumFrom", spec := "sumFrom", apart := false, narrowed := true }
def SumFromUptoSaid : Prop := sumFromUptoRow.holds Try.pinned (OpenSpec.upto sumFromSpec)

/-- 'coppicelaw01.SumInAnyOrder', WHERE WHAT IT READS IS OF BULK AT MOST 1048576: true; the input reads as it did. -/
def sumInAnyOrderUptoRow : OpenClaim := { program := "ytdonocchidfooaa", sum := "0e86bdaa9c3a98440e8b6ca04a24d3d92d9387f4c8987755727a0afbf2654d7d", func := "coppice/coppicelaw01.SumInAnyOrder", spec := "sumInAnyOrder", apart := false, narrowed := true }
def SumInAnyOrderUptoSaid : Prop := sumInAnyOrderUptoRow.holds Try.pinned (OpenSpec.upto sumInAnyOrderSpec)

/-- 'coppicelaw01.SumNoCarry', WHERE WHAT IT READS IS OF BULK AT MOST 1048576: true; the input reads as it did. -/
def sumNoCarryUptoRow : OpenClaim := { program := "ytdonocchidfooaa", sum := "0e86bdaa9c3a98440e8b6ca04a24d3d92d9387f4c8987755727a0afbf2654d7d", func := "coppice/coppicelaw01.SumNoCarry", spec := "sumNoCarry", apart := false, narrowed := true }
def SumNoCarryUptoSaid : Prop := sumNoCarryUptoRow.holds Try.pinned (OpenSpec.upto sumNoCarrySpec)

/-- 'coppicelaw01.SumRound', WHERE WHAT IT READS IS OF BULK AT MOST 1048576: true; the input reads as it did. -/
def sumRoundUptoRow : OpenClaim := { program := "ytdonocchidfooaa", sum := "0e86bdaa9c3a98440e8b6ca04a24d3d92d9387f4c8987755727a0afbf2654d7d", func := "coppice/coppicelaw01.SumRound", spec := "sumRound", apart := false, narrowed := true }
def SumRoundUptoSaid : Prop := sumRoundUptoRow.holds Try.pinned (OpenSpec.upto sumRoundSpec)

/-- 'coppicelaw01.SumTells', WHERE WHAT IT READS IS OF BULK AT MOST 1048576: true; the input reads as it did. -/
def sumTellsUptoRow : OpenClaim := { program := "ytdonocchidfooaa", sum := "0e86bdaa9c3a98440e8b6ca04a24d3d92d9387f4c8987755727a0afbf2654d7d", func := "coppice/coppicelaw01.SumTells", spec := "sumTells", apart := false, narrowed := true }
def SumTellsUptoSaid : Prop := sumTellsUptoRow.holds Try.pinned (OpenSpec.upto sumTellsSpec)

/-- 'coppicelaw01.SumOwn', WHERE WHAT IT READS IS OF BULK AT MOST 1048576: true; the input reads as it did. -/
def sumOwnUptoRow : OpenClaim := { program := "ytdonocchidfooaa", sum := "0e86bdaa9c3a98440e8b6ca04a24d3d92d9387f4c8987755727a0afbf2654d7d", func := "coppice/coppicelaw01.SumOwn", spec := "sumOwn", apart := false, narrowed := true }
def SumOwnUptoSaid : Prop := sumOwnUptoRow.holds Try.pinned (OpenSpec.upto sumOwnSpec)

end Rows
end Go.Proofs.Ytdonocchidfooaa
