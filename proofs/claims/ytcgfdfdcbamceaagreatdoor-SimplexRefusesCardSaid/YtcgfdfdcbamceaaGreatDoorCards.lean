/-
  DERIVED. GIVEN WITH THE SEED: THE CARDS: each row of YtcgfdfdcbamceaaGreatDoorRows.lean that lists a variable, with what it lists TIED to the program's text (the seventh form; the later family's looks); each row that meets fmt, with fmt's text TOLD by the authors' own Lean function (tested against real Go, not proved from fmt's source: count such statements apart). THE CARD IS WHAT COUNTS. Prove the row's statement (the work); the ties are given (YtcgfdfdcbamceaaGreatDoorTie.lean); close each card by the builder's one call (the guide's Derived/Test/ToyasCard.lean, 'card_holds'). Laid BY PROGRAM, IN A SANDBOX (cutbox-door.mjs). By AI agents, Wed Nov 11 2026. No macro, syntax, notation, axiom, sorry.
-/
import Derived.Test.YtcgfdfdcbamceaaGreatDoorRows
import GoSem.ClaimSeven
namespace Go.Proofs.YtcgfdfdcbamceaaGreatDoor
namespace Rows

/-- THE TIED CARD OF 'gridhallkeep1.SimplexProves'. -/
def simplexProvesCard : Claim7 := { stood := { row := simplexProvesRow, standIns := [], harness := (true, "2fb9f66b176bd58ed2cc14bbc62fe429301820deaa9ddd996fc4b863df9201a6"), looks := true }, kinds := [], alts := [], laidByText := true, laidKinds := [.data, .data, .data, .sentinel, .sentinel], laidTests := true, laidLooks := .later }
def SimplexProvesCardSaid : Prop := Claim7.holds Tryz.pinned (.plain (OpenSpec.ofChange simplexProvesSpec)) simplexProvesCard

/-- THE TIED CARD OF 'gridhallkeep1.SimplexRefuses'. -/
def simplexRefusesCard : Claim7 := { stood := { row := simplexRefusesRow, standIns := [], harness := (true, "2fb9f66b176bd58ed2cc14bbc62fe429301820deaa9ddd996fc4b863df9201a6"), looks := true }, kinds := [], alts := [], laidByText := true, laidKinds := [.data, .data, .data, .sentinel, .sentinel], laidTests := true, laidLooks := .later }
def SimplexRefusesCardSaid : Prop := Claim7.holds Tryz.pinned (.plain (OpenSpec.ofChange simplexRefusesSpec)) simplexRefusesCard

/-- THE TIED CARD OF 'gridhallkeep1.SimplexBounds'. -/
def simplexBoundsCard : Claim7 := { stood := { row := simplexBoundsRow, standIns := [], harness := (true, "2fb9f66b176bd58ed2cc14bbc62fe429301820deaa9ddd996fc4b863df9201a6"), looks := true }, kinds := [], alts := [], laidByText := true, laidKinds := [.data, .data, .data, .sentinel, .sentinel], laidTests := true, laidLooks := .later }
def SimplexBoundsCardSaid : Prop := Claim7.holds Tryz.pinned (.plain (OpenSpec.ofChange simplexBoundsSpec)) simplexBoundsCard

/-- THE TIED CARD OF 'gridhallkeep1.SimplexDuals'. -/
def simplexDualsCard : Claim7 := { stood := { row := simplexDualsRow, standIns := [], harness := (true, "2fb9f66b176bd58ed2cc14bbc62fe429301820deaa9ddd996fc4b863df9201a6"), looks := true }, kinds := [], alts := [], laidByText := true, laidKinds := [.data, .data, .data, .sentinel, .sentinel], laidTests := true, laidLooks := .later }
def SimplexDualsCardSaid : Prop := Claim7.holds Tryz.pinned (.plain (OpenSpec.ofChange simplexDualsSpec)) simplexDualsCard

/-- THE SECOND FORM's CARD OF 'gridhallkeep1.SimplexProves'. -/
def simplexProvesUptoCard : Claim7 := { stood := { row := simplexProvesUptoRow, standIns := [], harness := (true, "2fb9f66b176bd58ed2cc14bbc62fe429301820deaa9ddd996fc4b863df9201a6"), looks := true }, kinds := [], alts := [], laidByText := true, laidKinds := [.data, .data, .data, .sentinel, .sentinel], laidTests := true, laidLooks := .later }
def SimplexProvesUptoCardSaid : Prop := Claim7.holds Tryz.pinned (.plain (OpenSpec.upto simplexProvesSpec)) simplexProvesUptoCard

/-- THE SECOND FORM's CARD OF 'gridhallkeep1.SimplexRefuses'. -/
def simplexRefusesUptoCard : Claim7 := { stood := { row := simplexRefusesUptoRow, standIns := [], harness := (true, "2fb9f66b176bd58ed2cc14bbc62fe429301820deaa9ddd996fc4b863df9201a6"), looks := true }, kinds := [], alts := [], laidByText := true, laidKinds := [.data, .data, .data, .sentinel, .sentinel], laidTests := true, laidLooks := .later }
def SimplexRefusesUptoCardSaid : Prop := Claim7.holds Tryz.pinned (.plain (OpenSpec.upto simplexRefusesSpec)) simplexRefusesUptoCard

/-- THE SECOND FORM's CARD OF 'gridhallkeep1.SimplexBounds'. -/
def simplexBoundsUptoCard : Claim7 := { stood := { row := simplexBoundsUptoRow, standIns := [], harness := (true, "2fb9f66b176bd58ed2cc14bbc62fe429301820deaa9ddd996fc4b863df9201a6"), looks := true }, kinds := [], alts := [], laidByText := true, laidKinds := [.data, .data, .data, .sentinel, .sentinel], laidTests := true, laidLooks := .later }
def SimplexBoundsUptoCardSaid : Prop := Claim7.holds Tryz.pinned (.plain (OpenSpec.upto simplexBoundsSpec)) simplexBoundsUptoCard

/-- THE SECOND FORM's CARD OF 'gridhallkeep1.SimplexDuals'. -/
def simplexDualsUptoCard : Claim7 := { stood := { row := simplexDualsUptoRow, standIns := [], harness := (true, "2fb9f66b176bd58ed2cc14bbc62fe429301820deaa9ddd996fc4b863df9201a6"), looks := true }, kinds := [], alts := [], laidByText := true, laidKinds := [.data, .data, .data, .sentinel, .sentinel], laidTests := true, laidLooks := .later }
def SimplexDualsUptoCardSaid : Prop := Claim7.holds Tryz.pinned (.plain (OpenSpec.upto simplexDualsSpec)) simplexDualsUptoCard
end Rows
end Go.Proofs.YtcgfdfdcbamceaaGreatDoor
