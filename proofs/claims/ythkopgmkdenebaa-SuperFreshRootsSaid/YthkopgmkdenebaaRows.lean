/-
  No cell of these rows narrows 'for every input' (looked for: loops, veiled, ifaces, maps, wideKeys, modest, calm, conditions, laid).
  DERIVED. THE GIVEN ROWS OF THIS SEAT. 12 by the template 'for every input the law returns true; each argument reads behind the call as it read before'; 0 by the template 'total and deterministic' (their statements: YthkopgmkdenebaaTotals.lean).
  GIVEN WITH THE SEED: the statements are not yours to turn. If you find one false, say at which input.
  Laid BY PROGRAM, IN A SANDBOX (cutbox-rows.mjs): the forced cells as the released guide's own fill.sh prints them over the translation e4501d8f71c01374… (all of the seat's roots in one cut). By AI agents, Wed Nov 11 2026. No macro, syntax, notation, axiom, sorry.
-/
import Derived.Test.YthkopgmkdenebaaChecked
import GoSem.Claim
import GoSem.ClaimJoined
import GoSem.ClaimMapViews
import Derived.JoinedTies
import Derived.KernelRfl
namespace Go.Proofs.Ythkopgmkdenebaa
/- THE CELL 'sum', in the pinned program and in every row, IS THE sha256 OF THE DUMP (.gsa) THAT YthkopgmkdenebaaProg.lean LOADS. Nothing in Lean hashes anything: it is a label: what it is worth is what the hold of that sum in a sandbox is worth. -/
noncomputable def Try.pinned : Pinned := { name := "ythkopgmkdenebaa", sum := "e4501d8f71c013746945ce09e8fc12be2627f9030e6e97e3f5bf9a378141c31e", checked := Try.checked }
namespace Rows
def none {H : Type} : Left H := { results := [], args := [] }

/-- 'coppicelaw09.SuperNames': WHATEVER THE INPUT: true; the input reads as it did. -/
def superNamesSpec : ChangeSpec := { name := "superNames", fn := fun _ => fun
  | [] => { results := [.lit (.bool true)], args := [] }
  | _ => none }
def superNamesRow : OpenClaim := { program := "ythkopgmkdenebaa", sum := "e4501d8f71c013746945ce09e8fc12be2627f9030e6e97e3f5bf9a378141c31e", func := "coppice/coppicelaw09.SuperNames", spec := "superNames", apart := false }
def SuperNamesSaid : Prop := superNamesRow.holds Try.pinned (OpenSpec.ofChange superNamesSpec)

/-- ITS FALSE NEIGHBOUR: 'it returns false'. Refute it at one input. -/
def superNamesWrong : ChangeSpec := { name := "superNames", fn := fun _ => fun
  | [] => { results := [.lit (.bool false)], args := [] }
  | _ => none }
def SuperNamesWrongFalsely : Prop := superNamesRow.holds Try.pinned (OpenSpec.ofChange superNamesWrong)

/-- 'coppicelaw09.SuperPlans': WHATEVER THE INPUT: true; the input reads as it did. -/
def superPlansSpec : ChangeSpec := { name := "superPlans", fn := fun _ => fun
  | [d] => { results := [.lit (.bool true)], args := [d] }
  | _ => none }
def superPlansRow : OpenClaim := { program := "ythkopgmkdenebaa", sum := "e4501d8f71c013746945ce09e8fc12be2627f9030e6e97e3f5bf9a378141c31e", func := "coppice/coppicelaw09.SuperPlans", spec := "superPlans", unfollowed := true, recurses := true, apart := false }
def SuperPlansSaid : Prop := superPlansRow.holds Try.pinned (OpenSpec.ofChange superPlansSpec)

/-- ITS FALSE NEIGHBOUR: 'it returns false'. Refute it at one input. -/
def superPlansWrong : ChangeSpec := { name := "superPlans", fn := fun _ => fun
  | [d] => { results := [.lit (.bool false)], args := [d] }
  | _ => none }
def SuperPlansWrongFalsely : Prop := superPlansRow.holds Try.pinned (OpenSpec.ofChange superPlansWrong)

/-- 'coppicelaw09.SuperEncodes': WHATEVER THE INPUT: true; the input reads as it did. -/
def superEncodesSpec : ChangeSpec := { name := "superEncodes", fn := fun _ => fun
  | [d] => { results := [.lit (.bool true)], args := [d] }
  | _ => none }
def superEncodesRow : OpenClaim := { program := "ythkopgmkdenebaa", sum := "e4501d8f71c013746945ce09e8fc12be2627f9030e6e97e3f5bf9a378141c31e", func := "coppice/coppicelaw09.SuperEncodes", spec := "superEncodes", unfollowed := true, recurses := true, apart := false }
def SuperEncodesSaid : Prop := superEncodesRow.holds Try.pinned (OpenSpec.ofChange superEncodesSpec)

/-- ITS FALSE NEIGHBOUR: 'it returns false'. Refute it at one input. -/
def superEncodesWrong : ChangeSpec := { name := "superEncodes", fn := fun _ => fun
  | [d] => { results := [.lit (.bool false)], args := [d] }
  | _ => none }
def SuperEncodesWrongFalsely : Prop := superEncodesRow.holds Try.pinned (OpenSpec.ofChange superEncodesWrong)

/-- 'coppicelaw09.SuperDecodes': WHATEVER THE INPUT: true; the input reads as it did. -/
def superDecodesSpec : ChangeSpec := { name := "superDecodes", fn := fun _ => fun
  | [d] => { results := [.lit (.bool true)], args := [d] }
  | _ => none }
def superDecodesRow : OpenClaim := { program := "ythkopgmkdenebaa", sum := "e4501d8f71c013746945ce09e8fc12be2627f9030e6e97e3f5bf9a378141c31e", func := "coppice/coppicelaw09.SuperDecodes", spec := "superDecodes", unfollowed := true, recurses := true, apart := false }
def SuperDecodesSaid : Prop := superDecodesRow.holds Try.pinned (OpenSpec.ofChange superDecodesSpec)

/-- ITS FALSE NEIGHBOUR: 'it returns false'. Refute it at one input. -/
def superDecodesWrong : ChangeSpec := { name := "superDecodes", fn := fun _ => fun
  | [d] => { results := [.lit (.bool false)], args := [d] }
  | _ => none }
def SuperDecodesWrongFalsely : Prop := superDecodesRow.holds Try.pinned (OpenSpec.ofChange superDecodesWrong)

/-- 'coppicelaw09.SuperReturns': WHATEVER THE INPUT: true; the input reads as it did. -/
def superReturnsSpec : ChangeSpec := { name := "superReturns", fn := fun _ => fun
  | [d] => { results := [.lit (.bool true)], args := [d] }
  | _ => none }
def superReturnsRow : OpenClaim := { program := "ythkopgmkdenebaa", sum := "e4501d8f71c013746945ce09e8fc12be2627f9030e6e97e3f5bf9a378141c31e", func := "coppice/coppicelaw09.SuperReturns", spec := "superReturns", unfollowed := true, recurses := true, apart := false }
def SuperReturnsSaid : Prop := superReturnsRow.holds Try.pinned (OpenSpec.ofChange superReturnsSpec)

/-- ITS FALSE NEIGHBOUR: 'it returns false'. Refute it at one input. -/
def superReturnsWrong : ChangeSpec := { name := "superReturns", fn := fun _ => fun
  | [d] => { results := [.lit (.bool false)], args := [d] }
  | _ => none }
def SuperReturnsWrongFalsely : Prop := superReturnsRow.holds Try.pinned (OpenSpec.ofChange superReturnsWrong)

/-- 'coppicelaw09.SuperOneForm': WHATEVER THE INPUT: true; the input reads as it did. -/
def superOneFormSpec : ChangeSpec := { name := "superOneForm", fn := fun _ => fun
  | [d] => { results := [.lit (.bool true)], args := [d] }
  | _ => none }
def superOneFormRow : OpenClaim := { program := "ythkopgmkdenebaa", sum := "e4501d8f71c013746945ce09e8fc12be2627f9030e6e97e3f5bf9a378141c31e", func := "coppice/coppicelaw09.SuperOneForm", spec := "superOneForm", unfollowed := true, recurses := true, apart := false }
def SuperOneFormSaid : Prop := superOneFormRow.holds Try.pinned (OpenSpec.ofChange superOneFormSpec)

/-- ITS FALSE NEIGHBOUR: 'it returns false'. Refute it at one input. -/
def superOneFormWrong : ChangeSpec := { name := "superOneForm", fn := fun _ => fun
  | [d] => { results := [.lit (.bool false)], args := [d] }
  | _ => none }
def SuperOneFormWrongFalsely : Prop := superOneFormRow.holds Try.pinned (OpenSpec.ofChange superOneFormWrong)

/-- 'coppicelaw09.SuperTells': WHATEVER THE INPUT: true; the input reads as it did. -/
def superTellsSpec : ChangeSpec := { name := "superTells", fn := fun _ => fun
  | [d1, d2, d3] => { results := [.lit (.bool true)], args := [d1, d2, d3] }
  | _ => none }
def superTellsRow : OpenClaim := { program := "ythkopgmkdenebaa", sum := "e4501d8f71c013746945ce09e8fc12be2627f9030e6e97e3f5bf9a378141c31e", func := "coppice/coppicelaw09.SuperTells", spec := "superTells", unfollowed := true, recurses := true, apart := false }
def SuperTellsSaid : Prop := superTellsRow.holds Try.pinned (OpenSpec.ofChange superTellsSpec)

/-- ITS FALSE NEIGHBOUR: 'it returns false'. Refute it at one input. -/
def superTellsWrong : ChangeSpec := { name := "superTells", fn := fun _ => fun
  | [d1, d2, d3] => { results := [.lit (.bool false)], args := [d1, d2, d3] }
  | _ => none }
def SuperTellsWrongFalsely : Prop := superTellsRow.holds Try.pinned (OpenSpec.ofChange superTellsWrong)

/-- 'coppicelaw09.SuperFresh': WHATEVER THE INPUT: true; the input reads as it did. -/
def superFreshSpec : ChangeSpec := { name := "superFresh", fn := fun _ => fun
  | [d1, d2] => { results := [.lit (.bool true)], args := [d1, d2] }
  | _ => none }
def superFreshRow : OpenClaim := { program := "ythkopgmkdenebaa", sum := "e4501d8f71c013746945ce09e8fc12be2627f9030e6e97e3f5bf9a378141c31e", func := "coppice/coppicelaw09.SuperFresh", spec := "superFresh", unfollowed := true, recurses := true, apart := false }
def SuperFreshSaid : Prop := superFreshRow.holds Try.pinned (OpenSpec.ofChange superFreshSpec)

/-- ITS FALSE NEIGHBOUR: 'it returns false'. Refute it at one input. -/
def superFreshWrong : ChangeSpec := { name := "superFresh", fn := fun _ => fun
  | [d1, d2] => { results := [.lit (.bool false)], args := [d1, d2] }
  | _ => none }
def SuperFreshWrongFalsely : Prop := superFreshRow.holds Try.pinned (OpenSpec.ofChange superFreshWrong)

/-- 'coppicelaw09.SuperFreshRoots': WHATEVER THE INPUT: true; the input reads as it did. -/
def superFreshRootsSpec : ChangeSpec := { name := "superFreshRoots", fn := fun _ => fun
  | [d1, d2] => { results := [.lit (.bool true)], args := [d1, d2] }
  | _ => none }
def superFreshRootsRow : OpenClaim := { program := "ythkopgmkdenebaa", sum := "e4501d8f71c013746945ce09e8fc12be2627f9030e6e97e3f5bf9a378141c31e", func := "coppice/coppicelaw09.SuperFreshRoots", spec := "superFreshRoots", unfollowed := true, recurses := true, apart := false }
def SuperFreshRootsSaid : Prop := superFreshRootsRow.holds Try.pinned (OpenSpec.ofChange superFreshRootsSpec)

/-- ITS FALSE NEIGHBOUR: 'it returns false'. Refute it at one input. -/
def superFreshRootsWrong : ChangeSpec := { name := "superFreshRoots", fn := fun _ => fun
  | [d1, d2] => { results := [.lit (.bool false)], args := [d1, d2] }
  | _ => none }
def SuperFreshRootsWrongFalsely : Prop := superFreshRootsRow.holds Try.pinned (OpenSpec.ofChange superFreshRootsWrong)

/-- 'coppicelaw09.SuperChecks': WHATEVER THE INPUT: true; the input reads as it did. -/
def superChecksSpec : ChangeSpec := { name := "superChecks", fn := fun _ => fun
  | [d1, d2] => { results := [.lit (.bool true)], args := [d1, d2] }
  | _ => none }
def superChecksRow : OpenClaim := { program := "ythkopgmkdenebaa", sum := "e4501d8f71c013746945ce09e8fc12be2627f9030e6e97e3f5bf9a378141c31e", func := "coppice/coppicelaw09.SuperChecks", spec := "superChecks", unfollowed := true, recurses := true, apart := false }
def SuperChecksSaid : Prop := superChecksRow.holds Try.pinned (OpenSpec.ofChange superChecksSpec)

/-- ITS FALSE NEIGHBOUR: 'it returns false'. Refute it at one input. -/
def superChecksWrong : ChangeSpec := { name := "superChecks", fn := fun _ => fun
  | [d1, d2] => { results := [.lit (.bool false)], args := [d1, d2] }
  | _ => none }
def SuperChecksWrongFalsely : Prop := superChecksRow.holds Try.pinned (OpenSpec.ofChange superChecksWrong)

/-- 'coppicelaw09.SuperApart': WHATEVER THE INPUT: true; the input reads as it did. -/
def superApartSpec : ChangeSpec := { name := "superApart", fn := fun _ => fun
  | [d1, d2, d3] => { results := [.lit (.bool true)], args := [d1, d2, d3] }
  | _ => none }
def superApartRow : OpenClaim := { program := "ythkopgmkdenebaa", sum := "e4501d8f71c013746945ce09e8fc12be2627f9030e6e97e3f5bf9a378141c31e", func := "coppice/coppicelaw09.SuperApart", spec := "superApart", unfollowed := true, recurses := true, apart := false }
def SuperApartSaid : Prop := superApartRow.holds Try.pinned (OpenSpec.ofChange superApartSpec)

/-- ITS FALSE NEIGHBOUR: 'it returns false'. Refute it at one input. -/
def superApartWrong : ChangeSpec := { name := "superApart", fn := fun _ => fun
  | [d1, d2, d3] => { results := [.lit (.bool false)], args := [d1, d2, d3] }
  | _ => none }
def SuperApartWrongFalsely : Prop := superApartRow.holds Try.pinned (OpenSpec.ofChange superApartWrong)

/-- 'coppicelaw09.SuperPlaces': WHATEVER THE INPUT: true; the input reads as it did. -/
def superPlacesSpec : ChangeSpec := { name := "superPlaces", fn := fun _ => fun
  | [d1, d2] => { results := [.lit (.bool true)], args := [d1, d2] }
  | _ => none }
def superPlacesRow : OpenClaim := { program := "ythkopgmkdenebaa", sum := "e4501d8f71c013746945ce09e8fc12be2627f9030e6e97e3f5bf9a378141c31e", func := "coppice/coppicelaw09.SuperPlaces", spec := "superPlaces", unfollowed := true, recurses := true, apart := false }
def SuperPlacesSaid : Prop := superPlacesRow.holds Try.pinned (OpenSpec.ofChange superPlacesSpec)

/-- ITS FALSE NEIGHBOUR: 'it returns false'. Refute it at one input. -/
def superPlacesWrong : ChangeSpec := { name := "superPlaces", fn := fun _ => fun
  | [d1, d2] => { results := [.lit (.bool false)], args := [d1, d2] }
  | _ => none }
def SuperPlacesWrongFalsely : Prop := superPlacesRow.holds Try.pinned (OpenSpec.ofChange superPlacesWrong)

/- THE SECOND FORM. 'bulk': how many values and letters a reading holds, each counted each time it is reached (what is shared counts as often as it is met; a slice's spare places count too). A statement '..UptoSaid' is the law's where the arguments, and the package variables that the reading takes, are together of bulk at most 1048576: NARROWER than '..Said'. Prove '..Said' where nothing that the law and all that it calls make is longer than what came in: it says more and counts as full. Else prove '..UptoSaid'. A law counts once. -/
mutual
def uptoBulk {H : Type} : DataW H → Nat
  | .lit (.string bytes) => bytes.length + 1
  | .lit _ => 1
  | .nil => 1
  | .ptr d => uptoBulk d + 1
  | .slice elems spare => uptoBulkAll elems + uptoBulkAll spare + 1
  | .agg parts => uptoBulkAll parts + 1
  | .iface _ d => uptoBulk d + 1
  | .map entries => uptoBulkEntries entries + 1
  | .held _ => 1
def uptoBulkAll {H : Type} : List (DataW H) → Nat
  | [] => 0
  | d :: r => uptoBulk d + uptoBulkAll r
def uptoBulkEntries {H : Type} : List (Lit × DataW H) → Nat
  | [] => 0
  | x :: r => uptoBulkEntry x + uptoBulkEntries r
def uptoBulkEntry {H : Type} : Lit × DataW H → Nat
  | (.string bytes, d) => bytes.length + uptoBulk d + 1
  | (_, d) => uptoBulk d + 1
 end
def uptoSmall : (H : Type) → List (DataW H) → Bool := fun _ ds => decide (uptoBulkAll ds ≤ 1048576)
def OpenSpec.upto (s : _root_.Go.ChangeSpec) : _root_.Go.OpenSpec := { _root_.Go.OpenSpec.ofChange s with cond := some uptoSmall }

/-- 'coppicelaw09.SuperNames', WHERE WHAT IT READS IS OF BULK AT MOST 1048576: true; the input reads as it did. -/
def superNamesUptoRow : OpenClaim := { program := "ythkopgmkdenebaa", sum := "e4501d8f71c013746945ce09e8fc12be2627f9030e6e97e3f5bf9a378141c31e", func := "coppice/coppicelaw09.SuperNames", spec := "superNames", apart := false, narrowed := true }
def SuperNamesUptoSaid : Prop := superNamesUptoRow.holds Try.pinned (OpenSpec.upto superNamesSpec)

/-- 'coppicelaw09.SuperPlans', WHERE WHAT IT READS IS OF BULK AT MOST 1048576: true; the input reads as it did. -/
def superPlansUptoRow : OpenClaim := { program := "ythkopgmkdenebaa", sum := "e4501d8f71c013746945ce09e8fc12be2627f9030e6e97e3f5bf9a378141c31e", func := "coppice/coppicelaw09.SuperPlans", spec := "superPlans", unfollowed := true, recurses := true, apart := false, narrowed := true }
def SuperPlansUptoSaid : Prop := superPlansUptoRow.holds Try.pinned (OpenSpec.upto superPlansSpec)

/-- 'coppicelaw09.SuperEncodes', WHERE WHAT IT READS IS OF BULK AT MOST 1048576: true; the input reads as it did. -/
def superEncodesUptoRow : OpenClaim := { program := "ythkopgmkdenebaa", sum := "e4501d8f71c013746945ce09e8fc12be2627f9030e6e97e3f5bf9a378141c31e", func := "coppice/coppicelaw09.SuperEncodes", spec := "superEncodes", unfollowed := true, recurses := true, apart := false, narrowed := true }
def SuperEncodesUptoSaid : Prop := superEncodesUptoRow.holds Try.pinned (OpenSpec.upto superEncodesSpec)

/-- 'coppicelaw09.SuperDecodes', WHERE WHAT IT READS IS OF BULK AT MOST 1048576: true; the input reads as it did. -/
def superDecodesUptoRow : OpenClaim := { program := "ythkopgmkdenebaa", sum := "e4501d8f71c013746945ce09e8fc12be2627f9030e6e97e3f5bf9a378141c31e", func := "coppice/coppicelaw09.SuperDecodes", spec := "superDecodes", unfollowed := true, recurses := true, apart := false, narrowed := true }
def SuperDecodesUptoSaid : Prop := superDecodesUptoRow.holds Try.pinned (OpenSpec.upto superDecodesSpec)

/-- 'coppicelaw09.SuperReturns', WHERE WHAT IT READS IS OF BULK AT MOST 1048576: true; the input reads as it did. -/
def superReturnsUptoRow : OpenClaim := { program := "ythkopgmkdenebaa", sum := "e4501d8f71c013746945ce09e8fc12be2627f9030e6e97e3f5bf9a378141c31e", func := "coppice/coppicelaw09.SuperReturns", spec := "superReturns", unfollowed := true, recurses := true, apart := false, narrowed := true }
def SuperReturnsUptoSaid : Prop := superReturnsUptoRow.holds Try.pinned (OpenSpec.upto superReturnsSpec)

/-- 'coppicelaw09.SuperOneForm', WHERE WHAT IT READS IS OF BULK AT MOST 1048576: true; the input reads as it did. -/
def superOneFormUptoRow : OpenClaim := { program := "ythkopgmkdenebaa", sum := "e4501d8f71c013746945ce09e8fc12be2627f9030e6e97e3f5bf9a378141c31e", func := "coppice/coppicelaw09.SuperOneForm", spec := "superOneForm", unfollowed := true, recurses := true, apart := false, narrowed := true }
def SuperOneFormUptoSaid : Prop := superOneFormUptoRow.holds Try.pinned (OpenSpec.upto superOneFormSpec)

/-- 'coppicelaw09.SuperTells', WHERE WHAT IT READS IS OF BULK AT MOST 1048576: true; the input reads as it did. -/
def superTellsUptoRow : OpenClaim := { program := "ythkopgmkdenebaa", sum := "e4501d8f71c013746945ce09e8fc12be2627f9030e6e97e3f5bf9a378141c31e", func := "coppice/coppicelaw09.SuperTells", spec := "superTells", unfollowed := true, recurses := true, apart := false, narrowed := true }
def SuperTellsUptoSaid : Prop := superTellsUptoRow.holds Try.pinned (OpenSpec.upto superTellsSpec)

/-- 'coppicelaw09.SuperFresh', WHERE WHAT IT READS IS OF BULK AT MOST 1048576: true; the input reads as it did. -/
def superFreshUptoRow : OpenClaim := { program := "ythkopgmkdenebaa", sum := "e4501d8f71c013746945ce09e8fc12be2627f9030e6e97e3f5bf9a378141c31e", func := "coppice/coppicelaw09.SuperFresh", spec := "superFresh", unfollowed := true, recurses := true, apart := false, narrowed := true }
def SuperFreshUptoSaid : Prop := superFreshUptoRow.holds Try.pinned (OpenSpec.upto superFreshSpec)

/-- 'coppicelaw09.SuperFreshRoots', WHERE WHAT IT READS IS OF BULK AT MOST 1048576: true; the input reads as it did. -/
def superFreshRootsUptoRow : OpenClaim := { program := "ythkopgmkdenebaa", sum := "e4501d8f71c013746945ce09e8fc12be2627f9030e6e97e3f5bf9a378141c31e", func := "coppice/coppicelaw09.SuperFreshRoots", spec := "superFreshRoots", unfollowed := true, recurses := true, apart := false, narrowed := true }
def SuperFreshRootsUptoSaid : Prop := superFreshRootsUptoRow.holds Try.pinned (OpenSpec.upto superFreshRootsSpec)

/-- 'coppicelaw09.SuperChecks', WHERE WHAT IT READS IS OF BULK AT MOST 1048576: true; the input reads as it did. -/
def superChecksUptoRow : OpenClaim := { program := "ythkopgmkdenebaa", sum := "e4501d8f71c013746945ce09e8fc12be2627f9030e6e97e3f5bf9a378141c31e", func := "coppice/coppicelaw09.SuperChecks", spec := "superChecks", unfollowed := true, recurses := true, apart := false, narrowed := true }
def SuperChecksUptoSaid : Prop := superChecksUptoRow.holds Try.pinned (OpenSpec.upto superChecksSpec)

/-- 'coppicelaw09.SuperApart', WHERE WHAT IT READS IS OF BULK AT MOST 1048576: true; the input reads as it did. -/
def superApartUptoRow : OpenClaim := { program := "ythkopgmkdenebaa", sum := "e4501d8f71c013746945ce09e8fc12be2627f9030e6e97e3f5bf9a378141c31e", func := "coppice/coppicelaw09.SuperApart", spec := "superApart", unfollowed := true, recurses := true, apart := false, narrowed := true }
def SuperApartUptoSaid : Prop := superApartUptoRow.holds Try.pinned (OpenSpec.upto superApartSpec)

/-- 'coppicelaw09.SuperPlaces', WHERE WHAT IT READS IS OF BULK AT MOST 1048576: true; the input reads as it did. -/
def superPlacesUptoRow : OpenClaim := { program := "ythkopgmkdenebaa", sum := "e4501d8f71c013746945ce09e8fc12be2627f9030e6e97e3f5bf9a378141c31e", func := "coppice/coppicelaw09.SuperPlaces", spec := "superPlaces", unfollowed := true, recurses := true, apart := false, narrowed := true }
def SuperPlacesUptoSaid : Prop := superPlacesUptoRow.holds Try.pinned (OpenSpec.upto superPlacesSpec)

end Rows
end Go.Proofs.Ythkopgmkdenebaa
