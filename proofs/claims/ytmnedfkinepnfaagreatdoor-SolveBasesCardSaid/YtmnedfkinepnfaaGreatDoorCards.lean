/-
  DERIVED. GIVEN WITH THE SEED: THE CARDS: each row of YtmnedfkinepnfaaGreatDoorRows.lean that lists a variable, with what it lists TIED to the program's text (the seventh form; the later family's looks); each row that meets fmt, with fmt's text TOLD by the authors' own Lean function (tested against real Go, not proved from fmt's source: count such statements apart). THE CARD IS WHAT COUNTS. Prove the row's statement (the work); the ties are given (YtmnedfkinepnfaaGreatDoorTie.lean); close each card by the builder's one call (the guide's Derived/Test/ToyasCard.lean, 'card_holds'). Laid BY PROGRAM, IN A SANDBOX (cutbox-door.mjs). By AI agents, Wed Nov 11 2026. No macro, syntax, notation, axiom, sorry.
-/
import Derived.Test.YtmnedfkinepnfaaGreatDoorRows
import GoSem.ClaimSeven
namespace Go.Proofs.YtmnedfkinepnfaaGreatDoor
namespace Rows

/-- THE TIED CARD OF 'gridhallkeep1.LossBounds'. -/
def lossBoundsCard : Claim7 := { stood := { row := lossBoundsRow, standIns := [], harness := (true, "00461757f6200982730a9ad1540c9158d33939386b7ae1b2d6784e5871d16cea"), looks := true }, kinds := [], alts := [], laidByText := true, laidKinds := [.data, .data, .data, .sentinel, .sentinel], laidTests := true, laidLooks := .later }
def LossBoundsCardSaid : Prop := Claim7.holds Tryz.pinned (.plain (OpenSpec.ofChange lossBoundsSpec)) lossBoundsCard

/-- THE TIED CARD OF 'gridhallkeep1.LossPieces'. -/
def lossPiecesCard : Claim7 := { stood := { row := lossPiecesRow, standIns := [], harness := (true, "00461757f6200982730a9ad1540c9158d33939386b7ae1b2d6784e5871d16cea"), looks := true }, kinds := [], alts := [], laidByText := true, laidKinds := [.data, .data, .data, .sentinel, .sentinel], laidTests := true, laidLooks := .later }
def LossPiecesCardSaid : Prop := Claim7.holds Tryz.pinned (.plain (OpenSpec.ofChange lossPiecesSpec)) lossPiecesCard

/-- THE TIED CARD OF 'gridhallkeep1.MatrixRing'. -/
def matrixRingCard : Claim7 := { stood := { row := matrixRingRow, standIns := [], harness := (true, "00461757f6200982730a9ad1540c9158d33939386b7ae1b2d6784e5871d16cea"), looks := true }, kinds := [], alts := [], laidByText := true, laidKinds := [.data, .data, .data, .sentinel, .sentinel], laidTests := true, laidLooks := .later }
def MatrixRingCardSaid : Prop := Claim7.holds Tryz.pinned (.plain (OpenSpec.ofChange matrixRingSpec)) matrixRingCard

/-- THE TIED CARD OF 'gridhallkeep1.MatrixTurns'. -/
def matrixTurnsCard : Claim7 := { stood := { row := matrixTurnsRow, standIns := [], harness := (true, "00461757f6200982730a9ad1540c9158d33939386b7ae1b2d6784e5871d16cea"), looks := true }, kinds := [], alts := [], laidByText := true, laidKinds := [.data, .data, .data, .sentinel, .sentinel], laidTests := true, laidLooks := .later }
def MatrixTurnsCardSaid : Prop := Claim7.holds Tryz.pinned (.plain (OpenSpec.ofChange matrixTurnsSpec)) matrixTurnsCard

/-- THE TIED CARD OF 'gridhallkeep1.MatrixUnits'. -/
def matrixUnitsCard : Claim7 := { stood := { row := matrixUnitsRow, standIns := [], harness := (true, "00461757f6200982730a9ad1540c9158d33939386b7ae1b2d6784e5871d16cea"), looks := true }, kinds := [], alts := [], laidByText := true, laidKinds := [.data, .data, .data, .sentinel, .sentinel], laidTests := true, laidLooks := .later }
def MatrixUnitsCardSaid : Prop := Claim7.holds Tryz.pinned (.plain (OpenSpec.ofChange matrixUnitsSpec)) matrixUnitsCard

/-- THE TIED CARD OF 'gridhallkeep1.SolveEchelons'. -/
def solveEchelonsCard : Claim7 := { stood := { row := solveEchelonsRow, standIns := [], harness := (true, "00461757f6200982730a9ad1540c9158d33939386b7ae1b2d6784e5871d16cea"), looks := true }, kinds := [], alts := [], laidByText := true, laidKinds := [.data, .data, .data, .sentinel, .sentinel], laidTests := true, laidLooks := .later }
def SolveEchelonsCardSaid : Prop := Claim7.holds Tryz.pinned (.plain (OpenSpec.ofChange solveEchelonsSpec)) solveEchelonsCard

/-- THE TIED CARD OF 'gridhallkeep1.SolveBases'. -/
def solveBasesCard : Claim7 := { stood := { row := solveBasesRow, standIns := [], harness := (true, "00461757f6200982730a9ad1540c9158d33939386b7ae1b2d6784e5871d16cea"), looks := true }, kinds := [], alts := [], laidByText := true, laidKinds := [.data, .data, .data, .sentinel, .sentinel], laidTests := true, laidLooks := .later }
def SolveBasesCardSaid : Prop := Claim7.holds Tryz.pinned (.plain (OpenSpec.ofChange solveBasesSpec)) solveBasesCard

/-- THE TIED CARD OF 'gridhallkeep1.SolveKinds'. -/
def solveKindsCard : Claim7 := { stood := { row := solveKindsRow, standIns := [], harness := (true, "00461757f6200982730a9ad1540c9158d33939386b7ae1b2d6784e5871d16cea"), looks := true }, kinds := [], alts := [], laidByText := true, laidKinds := [.data, .data, .data, .sentinel, .sentinel], laidTests := true, laidLooks := .later }
def SolveKindsCardSaid : Prop := Claim7.holds Tryz.pinned (.plain (OpenSpec.ofChange solveKindsSpec)) solveKindsCard

/-- THE TIED CARD OF 'gridhallkeep1.SolveKernels'. -/
def solveKernelsCard : Claim7 := { stood := { row := solveKernelsRow, standIns := [], harness := (true, "00461757f6200982730a9ad1540c9158d33939386b7ae1b2d6784e5871d16cea"), looks := true }, kinds := [], alts := [], laidByText := true, laidKinds := [.data, .data, .data, .sentinel, .sentinel], laidTests := true, laidLooks := .later }
def SolveKernelsCardSaid : Prop := Claim7.holds Tryz.pinned (.plain (OpenSpec.ofChange solveKernelsSpec)) solveKernelsCard

/-- THE TIED CARD OF 'gridhallkeep1.SolveInverts'. -/
def solveInvertsCard : Claim7 := { stood := { row := solveInvertsRow, standIns := [], harness := (true, "00461757f6200982730a9ad1540c9158d33939386b7ae1b2d6784e5871d16cea"), looks := true }, kinds := [], alts := [], laidByText := true, laidKinds := [.data, .data, .data, .sentinel, .sentinel], laidTests := true, laidLooks := .later }
def SolveInvertsCardSaid : Prop := Claim7.holds Tryz.pinned (.plain (OpenSpec.ofChange solveInvertsSpec)) solveInvertsCard

/-- THE TIED CARD OF 'gridhallkeep1.SolveProducts'. -/
def solveProductsCard : Claim7 := { stood := { row := solveProductsRow, standIns := [], harness := (true, "00461757f6200982730a9ad1540c9158d33939386b7ae1b2d6784e5871d16cea"), looks := true }, kinds := [], alts := [], laidByText := true, laidKinds := [.data, .data, .data, .sentinel, .sentinel], laidTests := true, laidLooks := .later }
def SolveProductsCardSaid : Prop := Claim7.holds Tryz.pinned (.plain (OpenSpec.ofChange solveProductsSpec)) solveProductsCard

/-- THE SECOND FORM's CARD OF 'gridhallkeep1.LossBounds'. -/
def lossBoundsUptoCard : Claim7 := { stood := { row := lossBoundsUptoRow, standIns := [], harness := (true, "00461757f6200982730a9ad1540c9158d33939386b7ae1b2d6784e5871d16cea"), looks := true }, kinds := [], alts := [], laidByText := true, laidKinds := [.data, .data, .data, .sentinel, .sentinel], laidTests := true, laidLooks := .later }
def LossBoundsUptoCardSaid : Prop := Claim7.holds Tryz.pinned (.plain (OpenSpec.upto lossBoundsSpec)) lossBoundsUptoCard

/-- THE SECOND FORM's CARD OF 'gridhallkeep1.LossPieces'. -/
def lossPiecesUptoCard : Claim7 := { stood := { row := lossPiecesUptoRow, standIns := [], harness := (true, "00461757f6200982730a9ad1540c9158d33939386b7ae1b2d6784e5871d16cea"), looks := true }, kinds := [], alts := [], laidByText := true, laidKinds := [.data, .data, .data, .sentinel, .sentinel], laidTests := true, laidLooks := .later }
def LossPiecesUptoCardSaid : Prop := Claim7.holds Tryz.pinned (.plain (OpenSpec.upto lossPiecesSpec)) lossPiecesUptoCard

/-- THE SECOND FORM's CARD OF 'gridhallkeep1.MatrixRing'. -/
def matrixRingUptoCard : Claim7 := { stood := { row := matrixRingUptoRow, standIns := [], harness := (true, "00461757f6200982730a9ad1540c9158d33939386b7ae1b2d6784e5871d16cea"), looks := true }, kinds := [], alts := [], laidByText := true, laidKinds := [.data, .data, .data, .sentinel, .sentinel], laidTests := true, laidLooks := .later }
def MatrixRingUptoCardSaid : Prop := Claim7.holds Tryz.pinned (.plain (OpenSpec.upto matrixRingSpec)) matrixRingUptoCard

/-- THE SECOND FORM's CARD OF 'gridhallkeep1.MatrixTurns'. -/
def matrixTurnsUptoCard : Claim7 := { stood := { row := matrixTurnsUptoRow, standIns := [], harness := (true, "00461757f6200982730a9ad1540c9158d33939386b7ae1b2d6784e5871d16cea"), looks := true }, kinds := [], alts := [], laidByText := true, laidKinds := [.data, .data, .data, .sentinel, .sentinel], laidTests := true, laidLooks := .later }
def MatrixTurnsUptoCardSaid : Prop := Claim7.holds Tryz.pinned (.plain (OpenSpec.upto matrixTurnsSpec)) matrixTurnsUptoCard

/-- THE SECOND FORM's CARD OF 'gridhallkeep1.MatrixUnits'. -/
def matrixUnitsUptoCard : Claim7 := { stood := { row := matrixUnitsUptoRow, standIns := [], harness := (true, "00461757f6200982730a9ad1540c9158d33939386b7ae1b2d6784e5871d16cea"), looks := true }, kinds := [], alts := [], laidByText := true, laidKinds := [.data, .data, .data, .sentinel, .sentinel], laidTests := true, laidLooks := .later }
def MatrixUnitsUptoCardSaid : Prop := Claim7.holds Tryz.pinned (.plain (OpenSpec.upto matrixUnitsSpec)) matrixUnitsUptoCard

/-- THE SECOND FORM's CARD OF 'gridhallkeep1.SolveEchelons'. -/
def solveEchelonsUptoCard : Claim7 := { stood := { row := solveEchelonsUptoRow, standIns := [], harness := (true, "00461757f6200982730a9ad1540c9158d33939386b7ae1b2d6784e5871d16cea"), looks := true }, kinds := [], alts := [], laidByText := true, laidKinds := [.data, .data, .data, .sentinel, .sentinel], laidTests := true, laidLooks := .later }
def SolveEchelonsUptoCardSaid : Prop := Claim7.holds Tryz.pinned (.plain (OpenSpec.upto solveEchelonsSpec)) solveEchelonsUptoCard

/-- THE SECOND FORM's CARD OF 'gridhallkeep1.SolveBases'. -/
def solveBasesUptoCard : Claim7 := { stood := { row := solveBasesUptoRow, standIns := [], harness := (true, "00461757f6200982730a9ad1540c9158d33939386b7ae1b2d6784e5871d16cea"), looks := true }, kinds := [], alts := [], laidByText := true, laidKinds := [.data, .data, .data, .sentinel, .sentinel], laidTests := true, laidLooks := .later }
def SolveBasesUptoCardSaid : Prop := Claim7.holds Tryz.pinned (.plain (OpenSpec.upto solveBasesSpec)) solveBasesUptoCard

/-- THE SECOND FORM's CARD OF 'gridhallkeep1.SolveKinds'. -/
def solveKindsUptoCard : Claim7 := { stood := { row := solveKindsUptoRow, standIns := [], harness := (true, "00461757f6200982730a9ad1540c9158d33939386b7ae1b2d6784e5871d16cea"), looks := true }, kinds := [], alts := [], laidByText := true, laidKinds := [.data, .data, .data, .sentinel, .sentinel], laidTests := true, laidLooks := .later }
def SolveKindsUptoCardSaid : Prop := Claim7.holds Tryz.pinned (.plain (OpenSpec.upto solveKindsSpec)) solveKindsUptoCard

/-- THE SECOND FORM's CARD OF 'gridhallkeep1.SolveKernels'. -/
def solveKernelsUptoCard : Claim7 := { stood := { row := solveKernelsUptoRow, standIns := [], harness := (true, "00461757f6200982730a9ad1540c9158d33939386b7ae1b2d6784e5871d16cea"), looks := true }, kinds := [], alts := [], laidByText := true, laidKinds := [.data, .data, .data, .sentinel, .sentinel], laidTests := true, laidLooks := .later }
def SolveKernelsUptoCardSaid : Prop := Claim7.holds Tryz.pinned (.plain (OpenSpec.upto solveKernelsSpec)) solveKernelsUptoCard

/-- THE SECOND FORM's CARD OF 'gridhallkeep1.SolveInverts'. -/
def solveInvertsUptoCard : Claim7 := { stood := { row := solveInvertsUptoRow, standIns := [], harness := (true, "00461757f6200982730a9ad1540c9158d33939386b7ae1b2d6784e5871d16cea"), looks := true }, kinds := [], alts := [], laidByText := true, laidKinds := [.data, .data, .data, .sentinel, .sentinel], laidTests := true, laidLooks := .later }
def SolveInvertsUptoCardSaid : Prop := Claim7.holds Tryz.pinned (.plain (OpenSpec.upto solveInvertsSpec)) solveInvertsUptoCard

/-- THE SECOND FORM's CARD OF 'gridhallkeep1.SolveProducts'. -/
def solveProductsUptoCard : Claim7 := { stood := { row := solveProductsUptoRow, standIns := [], harness := (true, "00461757f6200982730a9ad1540c9158d33939386b7ae1b2d6784e5871d16cea"), looks := true }, kinds := [], alts := [], laidByText := true, laidKinds := [.data, .data, .data, .sentinel, .sentinel], laidTests := true, laidLooks := .later }
def SolveProductsUptoCardSaid : Prop := Claim7.holds Tryz.pinned (.plain (OpenSpec.upto solveProductsSpec)) solveProductsUptoCard
end Rows
end Go.Proofs.YtmnedfkinepnfaaGreatDoor
