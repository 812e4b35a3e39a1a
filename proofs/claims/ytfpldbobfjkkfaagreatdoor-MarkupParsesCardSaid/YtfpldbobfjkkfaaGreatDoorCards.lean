/-
  DERIVED. GIVEN WITH THE SEED: THE CARDS: each row of YtfpldbobfjkkfaaGreatDoorRows.lean that lists a variable, with what it lists TIED to the program's text (the seventh form; the later family's looks); each row that meets fmt, with fmt's text TOLD by the authors' own Lean function (tested against real Go, not proved from fmt's source: count such statements apart). THE CARD IS WHAT COUNTS. Prove the row's statement (the work); the ties are given (YtfpldbobfjkkfaaGreatDoorTie.lean); close each card by the builder's one call (the guide's Derived/Test/ToyasCard.lean, 'card_holds'). Laid BY PROGRAM, IN A SANDBOX (cutbox-door.mjs). By AI agents, Wed Nov 11 2026. No macro, syntax, notation, axiom, sorry.
-/
import Derived.Test.YtfpldbobfjkkfaaGreatDoorRows
import GoSem.ClaimSeven
namespace Go.Proofs.YtfpldbobfjkkfaaGreatDoor
namespace Rows

/-- THE TIED CARD OF 'topiarylaw20.MarkupParses'. -/
def markupParsesCard : Claim7 := { stood := { row := markupParsesRow, standIns := [], harness := (true, "f00026ea29233e9d625677b065386d621eae81334350b48b83e3b3b40658b633"), looks := true }, kinds := [], alts := [], laidByText := true, laidKinds := [.data, .data, .data, .sentinel, .sentinel], laidTests := true, laidLooks := .later }
def MarkupParsesCardSaid : Prop := Claim7.holds Tryz.pinned (.plain (OpenSpec.ofChange markupParsesSpec)) markupParsesCard

/-- THE SECOND FORM's CARD OF 'topiarylaw20.MarkupParses'. -/
def markupParsesUptoCard : Claim7 := { stood := { row := markupParsesUptoRow, standIns := [], harness := (true, "f00026ea29233e9d625677b065386d621eae81334350b48b83e3b3b40658b633"), looks := true }, kinds := [], alts := [], laidByText := true, laidKinds := [.data, .data, .data, .sentinel, .sentinel], laidTests := true, laidLooks := .later }
def MarkupParsesUptoCardSaid : Prop := Claim7.holds Tryz.pinned (.plain (OpenSpec.upto markupParsesSpec)) markupParsesUptoCard
end Rows
end Go.Proofs.YtfpldbobfjkkfaaGreatDoor
