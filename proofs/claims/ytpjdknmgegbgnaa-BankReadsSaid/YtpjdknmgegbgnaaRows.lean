/-
  No cell of these rows narrows 'for every input' (looked for: loops, veiled, ifaces, maps, wideKeys, modest, calm, conditions, laid).
  DERIVED. THE GIVEN ROWS OF THIS SEAT. 4 by the template 'for every input the law returns true; each argument reads behind the call as it read before'; 0 by the template 'total and deterministic' (their statements: YtpjdknmgegbgnaaTotals.lean).
  GIVEN WITH THE SEED: the statements are not yours to turn. If you find one false, say at which input.
  Laid BY PROGRAM, IN A SANDBOX (cutbox-rows.mjs): the forced cells as the released guide's own fill.sh prints them over the translation 1402c5508d0cca33… (all of the seat's roots in one cut). By AI agents, Wed Nov 11 2026. No macro, syntax, notation, axiom, sorry.
-/
import Derived.Test.YtpjdknmgegbgnaaChecked
import GoSem.Claim
import GoSem.ClaimJoined
import GoSem.ClaimMapViews
import Derived.JoinedTies
import Derived.KernelRfl
namespace Go.Proofs.Ytpjdknmgegbgnaa
/- THE CELL 'sum', in the pinned program and in every row, IS THE sha256 OF THE DUMP (.gsa) THAT YtpjdknmgegbgnaaProg.lean LOADS. Nothing in Lean hashes anything: it is a label: what it is worth is what the hold of that sum in a sandbox is worth. -/
noncomputable def Try.pinned : Pinned := { name := "ytpjdknmgegbgnaa", sum := "1402c5508d0cca3349360fe7380679ec357017f55df98cad7f60cac43c5fcab4", checked := Try.checked }
namespace Rows
def none {H : Type} : Left H := { results := [], args := [] }

/-- 'coppicelaw08.BankWrites': WHATEVER THE INPUT: true; the input reads as it did. -/
def bankWritesSpec : ChangeSpec := { name := "bankWrites", fn := fun _ => fun
  | [d1, d2, d3] => { results := [.lit (.bool true)], args := [d1, d2, d3] }
  | _ => none }
def bankWritesRow : OpenClaim := { program := "ytpjdknmgegbgnaa", sum := "1402c5508d0cca3349360fe7380679ec357017f55df98cad7f60cac43c5fcab4", func := "coppice/coppicelaw08.BankWrites", spec := "bankWrites", unfollowed := true, recurses := true, apart := false }
def BankWritesSaid : Prop := bankWritesRow.holds Try.pinned (OpenSpec.ofChange bankWritesSpec)

/-- ITS FALSE NEIGHBOUR: 'it returns false'. Refute it at one input. -/
def bankWritesWrong : ChangeSpec := { name := "bankWrites", fn := fun _ => fun
  | [d1, d2, d3] => { results := [.lit (.bool false)], args := [d1, d2, d3] }
  | _ => none }
def BankWritesWrongFalsely : Prop := bankWritesRow.holds Try.pinned (OpenSpec.ofChange bankWritesWrong)

/-- 'coppicelaw08.BankReads': WHATEVER THE INPUT: true; the input reads as it did. -/
def bankReadsSpec : ChangeSpec := { name := "bankReads", fn := fun _ => fun
  | [d1, d2, d3, d4] => { results := [.lit (.bool true)], args := [d1, d2, d3, d4] }
  | _ => none }
def bankReadsRow : OpenClaim := { program := "ytpjdknmgegbgnaa", sum := "1402c5508d0cca3349360fe7380679ec357017f55df98cad7f60cac43c5fcab4", func := "coppice/coppicelaw08.BankReads", spec := "bankReads", unfollowed := true, recurses := true, apart := false }
def BankReadsSaid : Prop := bankReadsRow.holds Try.pinned (OpenSpec.ofChange bankReadsSpec)

/-- ITS FALSE NEIGHBOUR: 'it returns false'. Refute it at one input. -/
def bankReadsWrong : ChangeSpec := { name := "bankReads", fn := fun _ => fun
  | [d1, d2, d3, d4] => { results := [.lit (.bool false)], args := [d1, d2, d3, d4] }
  | _ => none }
def BankReadsWrongFalsely : Prop := bankReadsRow.holds Try.pinned (OpenSpec.ofChange bankReadsWrong)

/-- 'coppicelaw08.BankBack': WHATEVER THE INPUT: true; the input reads as it did. -/
def bankBackSpec : ChangeSpec := { name := "bankBack", fn := fun _ => fun
  | [d1, d2, d3, d4] => { results := [.lit (.bool true)], args := [d1, d2, d3, d4] }
  | _ => none }
def bankBackRow : OpenClaim := { program := "ytpjdknmgegbgnaa", sum := "1402c5508d0cca3349360fe7380679ec357017f55df98cad7f60cac43c5fcab4", func := "coppice/coppicelaw08.BankBack", spec := "bankBack", unfollowed := true, recurses := true, apart := false }
def BankBackSaid : Prop := bankBackRow.holds Try.pinned (OpenSpec.ofChange bankBackSpec)

/-- ITS FALSE NEIGHBOUR: 'it returns false'. Refute it at one input. -/
def bankBackWrong : ChangeSpec := { name := "bankBack", fn := fun _ => fun
  | [d1, d2, d3, d4] => { results := [.lit (.bool false)], args := [d1, d2, d3, d4] }
  | _ => none }
def BankBackWrongFalsely : Prop := bankBackRow.holds Try.pinned (OpenSpec.ofChange bankBackWrong)

/-- 'coppicelaw08.BankForm': WHATEVER THE INPUT: true; the input reads as it did. -/
def bankFormSpec : ChangeSpec := { name := "bankForm", fn := fun _ => fun
  | [d1, d2, d3, d4] => { results := [.lit (.bool true)], args := [d1, d2, d3, d4] }
  | _ => none }
def bankFormRow : OpenClaim := { program := "ytpjdknmgegbgnaa", sum := "1402c5508d0cca3349360fe7380679ec357017f55df98cad7f60cac43c5fcab4", func := "coppice/coppicelaw08.BankForm", spec := "bankForm", unfollowed := true, recurses := true, apart := false }
def BankFormSaid : Prop := bankFormRow.holds Try.pinned (OpenSpec.ofChange bankFormSpec)

/-- ITS FALSE NEIGHBOUR: 'it returns false'. Refute it at one input. -/
def bankFormWrong : ChangeSpec := { name := "bankForm", fn := fun _ => fun
  | [d1, d2, d3, d4] => { results := [.lit (.bool false)], args := [d1, d2, d3, d4] }
  | _ => none }
def BankFormWrongFalsely : Prop := bankFormRow.holds Try.pinned (OpenSpec.ofChange bankFormWrong)

/- THE SECOND FORM. 'bulk': how many values and letters a reading holds, each counted each time it is reached (what is shared counts as often as it is met; a slice's spare places count too). A statement '..UptoSaid' is the law's where the arguments, and the package variables that the reading takes, are together of bulk at most 1048576: NARROWER than '..Said'. Prove '..Said' where nothing that the law and all that it calls make is longer than what came in: it says more and counts as full. Else prove '..UptoSaid'. A law counts once. -/
mutual
def uptoBulk {H : Type} : DataW H → Nat
  | .lit (.string bytes) => bytes.length + 1
  | .lit _ => 1
  | .nil => 1
  | .ptr d => uptoBulk d + 1
  | .slice elems spare => uptoBulkAll elems + uptoBulkAll spare + 1
  | .agg parts => uptoBulkAll parts + 1
  | .iface _ d => uptoBulk d + 1
  | .map entries => uptoBulkEntries entries + 1
  | .held _ => 1
def uptoBulkAll {H : Type} : List (DataW H) → Nat
  | [] => 0
  | d :: r => uptoBulk d + uptoBulkAll r
def uptoBulkEntries {H : Type} : List (Lit × DataW H) → Nat
  | [] => 0
  | x :: r => uptoBulkEntry x + uptoBulkEntries r
def uptoBulkEntry {H : Type} : Lit × DataW H → Nat
  | (.string bytes, d) => bytes.length + uptoBulk d + 1
  | (_, d) => uptoBulk d + 1
 end
def uptoSmall : (H : Type) → List (DataW H) → Bool := fun _ ds => decide (uptoBulkAll ds ≤ 1048576)
def OpenSpec.upto (s : _root_.Go.ChangeSpec) : _root_.Go.OpenSpec := { _root_.Go.OpenSpec.ofChange s with cond := some uptoSmall }

/-- 'coppicelaw08.BankWrites', WHERE WHAT IT READS IS OF BULK AT MOST 1048576: true; the input reads as it did. -/
def bankWritesUptoRow : OpenClaim := { program := "ytpjdknmgegbgnaa", sum := "1402c5508d0cca3349360fe7380679ec357017f55df98cad7f60cac43c5fcab4", func := "coppice/coppicelaw08.BankWrites", spec := "bankWrites", unfollowed := true, recurses := true, apart := false, narrowed := true }
def BankWritesUptoSaid : Prop := bankWritesUptoRow.holds Try.pinned (OpenSpec.upto bankWritesSpec)

/-- 'coppicelaw08.BankReads', WHERE WHAT IT READS IS OF BULK AT MOST 1048576: true; the input reads as it did. -/
def bankReadsUptoRow : OpenClaim := { program := "ytpjdknmgegbgnaa", sum := "1402c5508d0cca3349360fe7380679ec357017f55df98cad7f60cac43c5fcab4", func := "coppice/coppicelaw08.BankReads", spec := "bankReads", unfollowed := true, recurses := true, apart := false, narrowed := true }
def BankReadsUptoSaid : Prop := bankReadsUptoRow.holds Try.pinned (OpenSpec.upto bankReadsSpec)

/-- 'coppicelaw08.BankBack', WHERE WHAT IT READS IS OF BULK AT MOST 1048576: true; the input reads as it did. -/
def bankBackUptoRow : OpenClaim := { program := "ytpjdknmgegbgnaa", sum := "1402c5508d0cca3349360fe7380679ec357017f55df98cad7f60cac43c5fcab4", func := "coppice/coppicelaw08.BankBack", spec := "bankBack", unfollowed := true, recurses := true, apart := false, narrowed := true }
def BankBackUptoSaid : Prop := bankBackUptoRow.holds Try.pinned (OpenSpec.upto bankBackSpec)

/-- 'coppicelaw08.BankForm', WHERE WHAT IT READS IS OF BULK AT MOST 1048576: true; the input reads as it did. -/
def bankFormUptoRow : OpenClaim := { program := "ytpjdknmgegbgnaa", sum := "1402c5508d0cca3349360fe7380679ec357017f55df98cad7f60cac43c5fcab4", func := "coppice/coppicelaw08.BankForm", spec := "bankForm", unfollowed := true, recurses := true, apart := false, narrowed := true }
def BankFormUptoSaid : Prop := bankFormUptoRow.holds Try.pinned (OpenSpec.upto bankFormSpec)

end Rows
end Go.Proofs.Ytpjdknmgegbgnaa
