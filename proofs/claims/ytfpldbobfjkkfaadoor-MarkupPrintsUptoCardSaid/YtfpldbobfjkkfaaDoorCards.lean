/-
  DERIVED. GIVEN WITH THE SEED: THE CARDS: each row of YtfpldbobfjkkfaaDoorRows.lean that lists a variable, with what it lists TIED to the program's text (the seventh form; the later family's looks); each row that meets fmt, with fmt's text TOLD by the authors' own Lean function (tested against real Go, not proved from fmt's source: count such statements apart). THE CARD IS WHAT COUNTS. Prove the row's statement (the work); the ties are given (YtfpldbobfjkkfaaDoorTie.lean); close each card by the builder's one call (the guide's Derived/Test/ToyasCard.lean, 'card_holds'). Laid BY PROGRAM, IN A SANDBOX (cutbox-door.mjs). By AI agents, Wed Nov 11 2026. No macro, syntax, notation, axiom, sorry.
-/
import Derived.Test.YtfpldbobfjkkfaaDoorRows
import GoSem.ClaimSeven
namespace Go.Proofs.YtfpldbobfjkkfaaDoor
namespace Rows

/-- THE TIED CARD OF 'topiarylaw20.MarkupEscapes'. -/
def markupEscapesCard : Claim7 := { stood := { row := markupEscapesRow, standIns := [], harness := (true, "ea62b73c180124efe52fa4e383889afaa4469f73ad4c68f7d905585718614ed3"), looks := true }, kinds := [], alts := [], laidByText := true, laidKinds := [.data, .data, .data, .sentinel, .sentinel], laidTests := true, laidLooks := .later }
def MarkupEscapesCardSaid : Prop := Claim7.holds Tryd.pinned (.plain (OpenSpec.ofChange markupEscapesSpec)) markupEscapesCard

/-- THE TIED CARD OF 'topiarylaw20.MarkupBack'. -/
def markupBackCard : Claim7 := { stood := { row := markupBackRow, standIns := [], harness := (true, "ea62b73c180124efe52fa4e383889afaa4469f73ad4c68f7d905585718614ed3"), looks := true }, kinds := [], alts := [], laidByText := true, laidKinds := [.data, .data, .data, .sentinel, .sentinel], laidTests := true, laidLooks := .later }
def MarkupBackCardSaid : Prop := Claim7.holds Tryd.pinned (.plain (OpenSpec.ofChange markupBackSpec)) markupBackCard

/-- THE TIED CARD OF 'topiarylaw20.MarkupThere'. -/
def markupThereCard : Claim7 := { stood := { row := markupThereRow, standIns := [], harness := (true, "ea62b73c180124efe52fa4e383889afaa4469f73ad4c68f7d905585718614ed3"), looks := true }, kinds := [], alts := [], laidByText := true, laidKinds := [.data, .data, .data, .sentinel, .sentinel], laidTests := true, laidLooks := .later }
def MarkupThereCardSaid : Prop := Claim7.holds Tryd.pinned (.plain (OpenSpec.ofChange markupThereSpec)) markupThereCard

/-- THE TIED CARD OF 'topiarylaw20.MarkupApart'. -/
def markupApartCard : Claim7 := { stood := { row := markupApartRow, standIns := [], harness := (true, "ea62b73c180124efe52fa4e383889afaa4469f73ad4c68f7d905585718614ed3"), looks := true }, kinds := [], alts := [], laidByText := true, laidKinds := [.data, .data, .data, .sentinel, .sentinel], laidTests := true, laidLooks := .later }
def MarkupApartCardSaid : Prop := Claim7.holds Tryd.pinned (.plain (OpenSpec.ofChange markupApartSpec)) markupApartCard

/-- THE TIED CARD OF 'topiarylaw20.MarkupSafe'. -/
def markupSafeCard : Claim7 := { stood := { row := markupSafeRow, standIns := [], harness := (true, "ea62b73c180124efe52fa4e383889afaa4469f73ad4c68f7d905585718614ed3"), looks := true }, kinds := [], alts := [], laidByText := true, laidKinds := [.data, .data, .data, .sentinel, .sentinel], laidTests := true, laidLooks := .later }
def MarkupSafeCardSaid : Prop := Claim7.holds Tryd.pinned (.plain (OpenSpec.ofChange markupSafeSpec)) markupSafeCard

/-- THE TIED CARD OF 'topiarylaw20.MarkupPrints'. -/
def markupPrintsCard : Claim7 := { stood := { row := markupPrintsRow, standIns := [], harness := (true, "ea62b73c180124efe52fa4e383889afaa4469f73ad4c68f7d905585718614ed3"), looks := true }, kinds := [], alts := [], laidByText := true, laidKinds := [.data, .data, .data, .sentinel, .sentinel], laidTests := true, laidLooks := .later }
def MarkupPrintsCardSaid : Prop := Claim7.holds Tryd.pinned (.plain (OpenSpec.ofChange markupPrintsSpec)) markupPrintsCard

/-- THE SECOND FORM's CARD OF 'topiarylaw20.MarkupEscapes'. -/
def markupEscapesUptoCard : Claim7 := { stood := { row := markupEscapesUptoRow, standIns := [], harness := (true, "ea62b73c180124efe52fa4e383889afaa4469f73ad4c68f7d905585718614ed3"), looks := true }, kinds := [], alts := [], laidByText := true, laidKinds := [.data, .data, .data, .sentinel, .sentinel], laidTests := true, laidLooks := .later }
def MarkupEscapesUptoCardSaid : Prop := Claim7.holds Tryd.pinned (.plain (OpenSpec.upto markupEscapesSpec)) markupEscapesUptoCard

/-- THE SECOND FORM's CARD OF 'topiarylaw20.MarkupBack'. -/
def markupBackUptoCard : Claim7 := { stood := { row := markupBackUptoRow, standIns := [], harness := (true, "ea62b73c180124efe52fa4e383889afaa4469f73ad4c68f7d905585718614ed3"), looks := true }, kinds := [], alts := [], laidByText := true, laidKinds := [.data, .data, .data, .sentinel, .sentinel], laidTests := true, laidLooks := .later }
def MarkupBackUptoCardSaid : Prop := Claim7.holds Tryd.pinned (.plain (OpenSpec.upto markupBackSpec)) markupBackUptoCard

/-- THE SECOND FORM's CARD OF 'topiarylaw20.MarkupThere'. -/
def markupThereUptoCard : Claim7 := { stood := { row := markupThereUptoRow, standIns := [], harness := (true, "ea62b73c180124efe52fa4e383889afaa4469f73ad4c68f7d905585718614ed3"), looks := true }, kinds := [], alts := [], laidByText := true, laidKinds := [.data, .data, .data, .sentinel, .sentinel], laidTests := true, laidLooks := .later }
def MarkupThereUptoCardSaid : Prop := Claim7.holds Tryd.pinned (.plain (OpenSpec.upto markupThereSpec)) markupThereUptoCard

/-- THE SECOND FORM's CARD OF 'topiarylaw20.MarkupApart'. -/
def markupApartUptoCard : Claim7 := { stood := { row := markupApartUptoRow, standIns := [], harness := (true, "ea62b73c180124efe52fa4e383889afaa4469f73ad4c68f7d905585718614ed3"), looks := true }, kinds := [], alts := [], laidByText := true, laidKinds := [.data, .data, .data, .sentinel, .sentinel], laidTests := true, laidLooks := .later }
def MarkupApartUptoCardSaid : Prop := Claim7.holds Tryd.pinned (.plain (OpenSpec.upto markupApartSpec)) markupApartUptoCard

/-- THE SECOND FORM's CARD OF 'topiarylaw20.MarkupSafe'. -/
def markupSafeUptoCard : Claim7 := { stood := { row := markupSafeUptoRow, standIns := [], harness := (true, "ea62b73c180124efe52fa4e383889afaa4469f73ad4c68f7d905585718614ed3"), looks := true }, kinds := [], alts := [], laidByText := true, laidKinds := [.data, .data, .data, .sentinel, .sentinel], laidTests := true, laidLooks := .later }
def MarkupSafeUptoCardSaid : Prop := Claim7.holds Tryd.pinned (.plain (OpenSpec.upto markupSafeSpec)) markupSafeUptoCard

/-- THE SECOND FORM's CARD OF 'topiarylaw20.MarkupPrints'. -/
def markupPrintsUptoCard : Claim7 := { stood := { row := markupPrintsUptoRow, standIns := [], harness := (true, "ea62b73c180124efe52fa4e383889afaa4469f73ad4c68f7d905585718614ed3"), looks := true }, kinds := [], alts := [], laidByText := true, laidKinds := [.data, .data, .data, .sentinel, .sentinel], laidTests := true, laidLooks := .later }
def MarkupPrintsUptoCardSaid : Prop := Claim7.holds Tryd.pinned (.plain (OpenSpec.upto markupPrintsSpec)) markupPrintsUptoCard
end Rows
end Go.Proofs.YtfpldbobfjkkfaaDoor
