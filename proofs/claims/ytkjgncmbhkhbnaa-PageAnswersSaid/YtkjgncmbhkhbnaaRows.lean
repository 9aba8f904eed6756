/-
  No cell of these rows narrows 'for every input' (looked for: loops, veiled, ifaces, maps, wideKeys, modest, calm, conditions, laid).
  DERIVED. THE GIVEN ROWS OF THIS SEAT. 8 by the template 'for every input the law returns true; each argument reads behind the call as it read before'; 0 by the template 'total and deterministic' (their statements: YtkjgncmbhkhbnaaTotals.lean).
  GIVEN WITH THE SEED: the statements are not yours to turn. If you find one false, say at which input.
  Laid BY PROGRAM, IN A SANDBOX (cutbox-rows.mjs): the forced cells as the released guide's own fill.sh prints them over the translation 03b118e113af8ddd… (all of the seat's roots in one cut). By AI agents, Wed Nov 11 2026. No macro, syntax, notation, axiom, sorry.
-/
import Derived.Test.YtkjgncmbhkhbnaaChecked
import GoSem.Claim
import GoSem.ClaimJoined
import GoSem.ClaimMapViews
import Derived.JoinedTies
import Derived.KernelRfl
namespace Go.Proofs.Ytkjgncmbhkhbnaa
/- THE CELL 'sum', in the pinned program and in every row, IS THE sha256 OF THE DUMP (.gsa) THAT YtkjgncmbhkhbnaaProg.lean LOADS. Nothing in Lean hashes anything: it is a label: what it is worth is what the hold of that sum in a sandbox is worth. -/
noncomputable def Try.pinned : Pinned := { name := "ytkjgncmbhkhbnaa", sum := "03b118e113af8ddde23ffcc27f468c4631425b81c960c92ec3fa4b64a48a7866", checked := Try.checked }
namespace Rows
def none {H : Type} : Left H := { results := [], args := [] }

/-- 'coppicelaw07.PageAnswers': WHATEVER THE INPUT: true; the input reads as it did. -/
def pageAnswersSpec : ChangeSpec := { name := "pageAnswers", fn := fun _ => fun
  | [d] => { results := [.lit (.bool true)], args := [d] }
  | _ => none }
def pageAnswersRow : OpenClaim := { program := "ytkjgncmbhkhbnaa", sum := "03b118e113af8ddde23ffcc27f468c4631425b81c960c92ec3fa4b64a48a7866", func := "coppice/coppicelaw07.PageAnswers", spec := "pageAnswers", inPlace := ["internal/bytealg.Compare"], unfollowed := true, recurses := true, apart := false }
def PageAnswersSaid : Prop := pageAnswersRow.holds Try.pinned (OpenSpec.ofChange pageAnswersSpec)

/-- ITS FALSE NEIGHBOUR: 'it returns false'. Refute it at one input. -/
def pageAnswersWrong : ChangeSpec := { name := "pageAnswers", fn := fun _ => fun
  | [d] => { results := [.lit (.bool false)], args := [d] }
  | _ => none }
def PageAnswersWrongFalsely : Prop := pageAnswersRow.holds Try.pinned (OpenSpec.ofChange pageAnswersWrong)

/-- 'coppicelaw07.PageCheck': WHATEVER THE INPUT: true; the input reads as it did. -/
def pageCheckSpec : ChangeSpec := { name := "pageCheck", fn := fun _ => fun
  | [d] => { results := [.lit (.bool true)], args := [d] }
  | _ => none }
def pageCheckRow : OpenClaim := { program := "ytkjgncmbhkhbnaa", sum := "03b118e113af8ddde23ffcc27f468c4631425b81c960c92ec3fa4b64a48a7866", func := "coppice/coppicelaw07.PageCheck", spec := "pageCheck", inPlace := ["internal/bytealg.Compare"], unfollowed := true, recurses := true, apart := false }
def PageCheckSaid : Prop := pageCheckRow.holds Try.pinned (OpenSpec.ofChange pageCheckSpec)

/-- ITS FALSE NEIGHBOUR: 'it returns false'. Refute it at one input. -/
def pageCheckWrong : ChangeSpec := { name := "pageCheck", fn := fun _ => fun
  | [d] => { results := [.lit (.bool false)], args := [d] }
  | _ => none }
def PageCheckWrongFalsely : Prop := pageCheckRow.holds Try.pinned (OpenSpec.ofChange pageCheckWrong)

/-- 'coppicelaw07.PageEncode': WHATEVER THE INPUT: true; the input reads as it did. -/
def pageEncodeSpec : ChangeSpec := { name := "pageEncode", fn := fun _ => fun
  | [d1, d2, d3] => { results := [.lit (.bool true)], args := [d1, d2, d3] }
  | _ => none }
def pageEncodeRow : OpenClaim := { program := "ytkjgncmbhkhbnaa", sum := "03b118e113af8ddde23ffcc27f468c4631425b81c960c92ec3fa4b64a48a7866", func := "coppice/coppicelaw07.PageEncode", spec := "pageEncode", inPlace := ["internal/bytealg.Compare"], unfollowed := true, recurses := true, apart := false }
def PageEncodeSaid : Prop := pageEncodeRow.holds Try.pinned (OpenSpec.ofChange pageEncodeSpec)

/-- ITS FALSE NEIGHBOUR: 'it returns false'. Refute it at one input. -/
def pageEncodeWrong : ChangeSpec := { name := "pageEncode", fn := fun _ => fun
  | [d1, d2, d3] => { results := [.lit (.bool false)], args := [d1, d2, d3] }
  | _ => none }
def PageEncodeWrongFalsely : Prop := pageEncodeRow.holds Try.pinned (OpenSpec.ofChange pageEncodeWrong)

/-- 'coppicelaw07.PageDecode': WHATEVER THE INPUT: true; the input reads as it did. -/
def pageDecodeSpec : ChangeSpec := { name := "pageDecode", fn := fun _ => fun
  | [d1, d2] => { results := [.lit (.bool true)], args := [d1, d2] }
  | _ => none }
def pageDecodeRow : OpenClaim := { program := "ytkjgncmbhkhbnaa", sum := "03b118e113af8ddde23ffcc27f468c4631425b81c960c92ec3fa4b64a48a7866", func := "coppice/coppicelaw07.PageDecode", spec := "pageDecode", inPlace := ["internal/bytealg.Compare"], unfollowed := true, recurses := true, apart := false }
def PageDecodeSaid : Prop := pageDecodeRow.holds Try.pinned (OpenSpec.ofChange pageDecodeSpec)

/-- ITS FALSE NEIGHBOUR: 'it returns false'. Refute it at one input. -/
def pageDecodeWrong : ChangeSpec := { name := "pageDecode", fn := fun _ => fun
  | [d1, d2] => { results := [.lit (.bool false)], args := [d1, d2] }
  | _ => none }
def PageDecodeWrongFalsely : Prop := pageDecodeRow.holds Try.pinned (OpenSpec.ofChange pageDecodeWrong)

/-- 'coppicelaw07.PageBack': WHATEVER THE INPUT: true; the input reads as it did. -/
def pageBackSpec : ChangeSpec := { name := "pageBack", fn := fun _ => fun
  | [d1, d2, d3] => { results := [.lit (.bool true)], args := [d1, d2, d3] }
  | _ => none }
def pageBackRow : OpenClaim := { program := "ytkjgncmbhkhbnaa", sum := "03b118e113af8ddde23ffcc27f468c4631425b81c960c92ec3fa4b64a48a7866", func := "coppice/coppicelaw07.PageBack", spec := "pageBack", inPlace := ["internal/bytealg.Compare"], unfollowed := true, recurses := true, apart := false }
def PageBackSaid : Prop := pageBackRow.holds Try.pinned (OpenSpec.ofChange pageBackSpec)

/-- ITS FALSE NEIGHBOUR: 'it returns false'. Refute it at one input. -/
def pageBackWrong : ChangeSpec := { name := "pageBack", fn := fun _ => fun
  | [d1, d2, d3] => { results := [.lit (.bool false)], args := [d1, d2, d3] }
  | _ => none }
def PageBackWrongFalsely : Prop := pageBackRow.holds Try.pinned (OpenSpec.ofChange pageBackWrong)

/-- 'coppicelaw07.PageOneForm': WHATEVER THE INPUT: true; the input reads as it did. -/
def pageOneFormSpec : ChangeSpec := { name := "pageOneForm", fn := fun _ => fun
  | [d1, d2] => { results := [.lit (.bool true)], args := [d1, d2] }
  | _ => none }
def pageOneFormRow : OpenClaim := { program := "ytkjgncmbhkhbnaa", sum := "03b118e113af8ddde23ffcc27f468c4631425b81c960c92ec3fa4b64a48a7866", func := "coppice/coppicelaw07.PageOneForm", spec := "pageOneForm", inPlace := ["internal/bytealg.Compare"], unfollowed := true, recurses := true, apart := false }
def PageOneFormSaid : Prop := pageOneFormRow.holds Try.pinned (OpenSpec.ofChange pageOneFormSpec)

/-- ITS FALSE NEIGHBOUR: 'it returns false'. Refute it at one input. -/
def pageOneFormWrong : ChangeSpec := { name := "pageOneForm", fn := fun _ => fun
  | [d1, d2] => { results := [.lit (.bool false)], args := [d1, d2] }
  | _ => none }
def PageOneFormWrongFalsely : Prop := pageOneFormRow.holds Try.pinned (OpenSpec.ofChange pageOneFormWrong)

/-- 'coppicelaw07.PageTells': WHATEVER THE INPUT: true; the input reads as it did. -/
def pageTellsSpec : ChangeSpec := { name := "pageTells", fn := fun _ => fun
  | [d1, d2, d3] => { results := [.lit (.bool true)], args := [d1, d2, d3] }
  | _ => none }
def pageTellsRow : OpenClaim := { program := "ytkjgncmbhkhbnaa", sum := "03b118e113af8ddde23ffcc27f468c4631425b81c960c92ec3fa4b64a48a7866", func := "coppice/coppicelaw07.PageTells", spec := "pageTells", inPlace := ["internal/bytealg.Compare"], unfollowed := true, recurses := true, apart := false }
def PageTellsSaid : Prop := pageTellsRow.holds Try.pinned (OpenSpec.ofChange pageTellsSpec)

/-- ITS FALSE NEIGHBOUR: 'it returns false'. Refute it at one input. -/
def pageTellsWrong : ChangeSpec := { name := "pageTells", fn := fun _ => fun
  | [d1, d2, d3] => { results := [.lit (.bool false)], args := [d1, d2, d3] }
  | _ => none }
def PageTellsWrongFalsely : Prop := pageTellsRow.holds Try.pinned (OpenSpec.ofChange pageTellsWrong)

/-- 'coppicelaw07.PageKids': WHATEVER THE INPUT: true; the input reads as it did. -/
def pageKidsSpec : ChangeSpec := { name := "pageKids", fn := fun _ => fun
  | [d] => { results := [.lit (.bool true)], args := [d] }
  | _ => none }
def pageKidsRow : OpenClaim := { program := "ytkjgncmbhkhbnaa", sum := "03b118e113af8ddde23ffcc27f468c4631425b81c960c92ec3fa4b64a48a7866", func := "coppice/coppicelaw07.PageKids", spec := "pageKids", inPlace := ["internal/bytealg.Compare"], unfollowed := true, recurses := true, apart := false }
def PageKidsSaid : Prop := pageKidsRow.holds Try.pinned (OpenSpec.ofChange pageKidsSpec)

/-- ITS FALSE NEIGHBOUR: 'it returns false'. Refute it at one input. -/
def pageKidsWrong : ChangeSpec := { name := "pageKids", fn := fun _ => fun
  | [d] => { results := [.lit (.bool false)], args := [d] }
  | _ => none }
def PageKidsWrongFalsely : Prop := pageKidsRow.holds Try.pinned (OpenSpec.ofChange pageKidsWrong)

/- THE SECOND FORM. 'bulk': how many values and letters a reading holds, each counted each time it is reached (what is shared counts as often as it is met; a slice's spare places count too). A statement '..UptoSaid' is the law's where the arguments, and the package variables that the reading takes, are together of bulk at most 1048576: NARROWER than '..Said'. Prove '..Said' where nothing that the law and all that it calls make is longer than what came in: it says more and counts as full. Else prove '..UptoSaid'. A law counts once. -/
mutual
def uptoBulk {H : Type} : DataW H → Nat
  | .lit (.string bytes) => bytes.length + 1
  | .lit _ => 1
  | .nil => 1
  | .ptr d => uptoBulk d + 1
  | .slice elems spare => uptoBulkAll elems + uptoBulkAll spare + 1
  | .agg parts => uptoBulkAll parts + 1
  | .iface _ d => uptoBulk d + 1
  | .map entries => uptoBulkEntries entries + 1
  | .held _ => 1
def uptoBulkAll {H : Type} : List (DataW H) → Nat
  | [] => 0
  | d :: r => uptoBulk d + uptoBulkAll r
def uptoBulkEntries {H : Type} : List (Lit × DataW H) → Nat
  | [] => 0
  | x :: r => uptoBulkEntry x + uptoBulkEntries r
def uptoBulkEntry {H : Type} : Lit × DataW H → Nat
  | (.string bytes, d) => bytes.length + uptoBulk d + 1
  | (_, d) => uptoBulk d + 1
 end
def uptoSmall : (H : Type) → List (DataW H) → Bool := fun _ ds => decide (uptoBulkAll ds ≤ 1048576)
def OpenSpec.upto (s : _root_.Go.ChangeSpec) : _root_.Go.OpenSpec := { _root_.Go.OpenSpec.ofChange s with cond := some uptoSmall }

/-- 'coppicelaw07.PageAnswers', WHERE WHAT IT READS IS OF BULK AT MOST 1048576: true; the input reads as it did. -/
def pageAnswersUptoRow : OpenClaim := { program := "ytkjgncmbhkhbnaa", sum := "03b118e113af8ddde23ffcc27f468c4631425b81c960c92ec3fa4b64a48a7866", func := "coppice/coppicelaw07.PageAnswers", spec := "pageAnswers", inPlace := ["internal/bytealg.Compare"], unfollowed := true, recurses := true, apart := false, narrowed := true }
def PageAnswersUptoSaid : Prop := pageAnswersUptoRow.holds Try.pinned (OpenSpec.upto pageAnswersSpec)

/-- 'coppicelaw07.PageCheck', WHERE WHAT IT READS IS OF BULK AT MOST 1048576: true; the input reads as it did. -/
def pageCheckUptoRow : OpenClaim := { program := "ytkjgncmbhkhbnaa", sum := "03b118e113af8ddde23ffcc27f468c4631425b81c960c92ec3fa4b64a48a7866", func := "coppice/coppicelaw07.PageCheck", spec := "pageCheck", inPlace := ["internal/bytealg.Compare"], unfollowed := true, recurses := true, apart := false, narrowed := true }
def PageCheckUptoSaid : Prop := pageCheckUptoRow.holds Try.pinned (OpenSpec.upto pageCheckSpec)

/-- 'coppicelaw07.PageEncode', WHERE WHAT IT READS IS OF BULK AT MOST 1048576: true; the input reads as it did. -/
def pageEncodeUptoRow : OpenClaim := { program := "ytkjgncmbhkhbnaa", sum := "03b118e113af8ddde23ffcc27f468c4631425b81c960c92ec3fa4b64a48a7866", func := "coppice/coppicelaw07.PageEncode", spec := "pageEncode", inPlace := ["internal/bytealg.Compare"], unfollowed := true, recurses := true, apart := false, narrowed := true }
def PageEncodeUptoSaid : Prop := pageEncodeUptoRow.holds Try.pinned (OpenSpec.upto pageEncodeSpec)

/-- 'coppicelaw07.PageDecode', WHERE WHAT IT READS IS OF BULK AT MOST 1048576: true; the input reads as it did. -/
def pageDecodeUptoRow : OpenClaim := { program := "ytkjgncmbhkhbnaa", sum := "03b118e113af8ddde23ffcc27f468c4631425b81c960c92ec3fa4b64a48a7866", func := "coppice/coppicelaw07.PageDecode", spec := "pageDecode", inPlace := ["internal/bytealg.Compare"], unfollowed := true, recurses := true, apart := false, narrowed := true }
def PageDecodeUptoSaid : Prop := pageDecodeUptoRow.holds Try.pinned (OpenSpec.upto pageDecodeSpec)

/-- 'coppicelaw07.PageBack', WHERE WHAT IT READS IS OF BULK AT MOST 1048576: true; the input reads as it did. -/
def pageBackUptoRow : OpenClaim := { program := "ytkjgncmbhkhbnaa", sum := "03b118e113af8ddde23ffcc27f468c4631425b81c960c92ec3fa4b64a48a7866", func := "coppice/coppicelaw07.PageBack", spec := "pageBack", inPlace := ["internal/bytealg.Compare"], unfollowed := true, recurses := true, apart := false, narrowed := true }
def PageBackUptoSaid : Prop := pageBackUptoRow.holds Try.pinned (OpenSpec.upto pageBackSpec)

/-- 'coppicelaw07.PageOneForm', WHERE WHAT IT READS IS OF BULK AT MOST 1048576: true; the input reads as it did. -/
def pageOneFormUptoRow : OpenClaim := { program := "ytkjgncmbhkhbnaa", sum := "03b118e113af8ddde23ffcc27f468c4631425b81c960c92ec3fa4b64a48a7866", func := "coppice/coppicelaw07.PageOneForm", spec := "pageOneForm", inPlace := ["internal/bytealg.Compare"], unfollowed := true, recurses := true, apart := false, narrowed := true }
def PageOneFormUptoSaid : Prop := pageOneFormUptoRow.holds Try.pinned (OpenSpec.upto pageOneFormSpec)

/-- 'coppicelaw07.PageTells', WHERE WHAT IT READS IS OF BULK AT MOST 1048576: true; the input reads as it did. -/
def pageTellsUptoRow : OpenClaim := { program := "ytkjgncmbhkhbnaa", sum := "03b118e113af8ddde23ffcc27f468c4631425b81c960c92ec3fa4b64a48a7866", func := "coppice/coppicelaw07.PageTells", spec := "pageTells", inPlace := ["internal/bytealg.Compare"], unfollowed := true, recurses := true, apart := false, narrowed := true }
def PageTellsUptoSaid : Prop := pageTellsUptoRow.holds Try.pinned (OpenSpec.upto pageTellsSpec)

/-- 'coppicelaw07.PageKids', WHERE WHAT IT READS IS OF BULK AT MOST 1048576: true; the input reads as it did. -/
def pageKidsUptoRow : OpenClaim := { program := "ytkjgncmbhkhbnaa", sum := "03b118e113af8ddde23ffcc27f468c4631425b81c960c92ec3fa4b64a48a7866", func := "coppice/coppicelaw07.PageKids", spec := "pageKids", inPlace := ["internal/bytealg.Compare"], unfollowed := true, recurses := true, apart := false, narrowed := true }
def PageKidsUptoSaid : Prop := pageKidsUptoRow.holds Try.pinned (OpenSpec.upto pageKidsSpec)

end Rows
end Go.Proofs.Ytkjgncmbhkhbnaa
