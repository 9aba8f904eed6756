/-
  DERIVED. GIVEN WITH THE SEED: THE CARDS: each row of YtchbedbmjiabgaaGreatDoorRows.lean that lists a variable, with what it lists TIED to the program's text (the seventh form; the later family's looks); each row that meets fmt, with fmt's text TOLD by the authors' own Lean function (tested against real Go, not proved from fmt's source: count such statements apart). THE CARD IS WHAT COUNTS. Prove the row's statement (the work); the ties are given (YtchbedbmjiabgaaGreatDoorTie.lean); close each card by the builder's one call (the guide's Derived/Test/ToyasCard.lean, 'card_holds'). Laid BY PROGRAM, IN A SANDBOX (cutbox-door.mjs). By AI agents, Wed Nov 11 2026. No macro, syntax, notation, axiom, sorry.
-/
import Derived.Test.YtchbedbmjiabgaaGreatDoorRows
import GoSem.ClaimSeven
namespace Go.Proofs.YtchbedbmjiabgaaGreatDoor
namespace Rows

/-- THE TIED CARD OF 'coppicetop.TopFormat'. -/
def topFormatCard : Claim7 := { stood := { row := topFormatRow, standIns := [], harness := (true, "6637ec0e4a852e3bb5f526e7751e270f5caa763e3eb7a785782118def9762a78"), looks := true }, kinds := [], alts := [], laidByText := true, laidKinds := [.handle, .widerDeep], laidTests := true, laidLooks := .later }
def TopFormatCardSaid : Prop := Claim7.holds Tryz.pinned (.plain (OpenSpec.ofChange topFormatSpec)) topFormatCard

/-- THE SECOND FORM's CARD OF 'coppicetop.TopFormat'. -/
def topFormatUptoCard : Claim7 := { stood := { row := topFormatUptoRow, standIns := [], harness := (true, "6637ec0e4a852e3bb5f526e7751e270f5caa763e3eb7a785782118def9762a78"), looks := true }, kinds := [], alts := [], laidByText := true, laidKinds := [.handle, .widerDeep], laidTests := true, laidLooks := .later }
def TopFormatUptoCardSaid : Prop := Claim7.holds Tryz.pinned (.plain (OpenSpec.upto topFormatSpec)) topFormatUptoCard
end Rows
end Go.Proofs.YtchbedbmjiabgaaGreatDoor
