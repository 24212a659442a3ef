/-
  DERIVED. GIVEN WITH THE SEED: THE CARDS: each row of YtpbdlmjfjkfphaaGreatDoorRows.lean that lists a variable, with what it lists TIED to the program's text (the seventh form; the later family's looks); each row that meets fmt, with fmt's text TOLD by the authors' own Lean function (tested against real Go, not proved from fmt's source: count such statements apart). THE CARD IS WHAT COUNTS. Prove the row's statement (the work); the ties are given (YtpbdlmjfjkfphaaGreatDoorTie.lean); close each card by the builder's one call (the guide's Derived/Test/ToyasCard.lean, 'card_holds'). Laid BY PROGRAM, IN A SANDBOX (cutbox-door.mjs). By AI agents, Wed Nov 11 2026. No macro, syntax, notation, axiom, sorry.
-/
import Derived.Test.YtpbdlmjfjkfphaaGreatDoorRows
import GoSem.ClaimSeven
namespace Go.Proofs.YtpbdlmjfjkfphaaGreatDoor
namespace Rows

/-- THE TIED CARD OF 'gridhallkeep1.RatField'. -/
def ratFieldCard : Claim7 := { stood := { row := ratFieldRow, standIns := [], harness := (true, "d64d68d8a9beddafd9fdc9530b1c21150b08fa9822c23e4abc03bb4117c57b3c"), looks := true }, kinds := [], alts := [], laidByText := true, laidKinds := [.data, .data, .data, .sentinel, .sentinel], laidTests := true, laidLooks := .later }
def RatFieldCardSaid : Prop := Claim7.holds Tryz.pinned (.plain (OpenSpec.ofChange ratFieldSpec)) ratFieldCard

/-- THE TIED CARD OF 'gridhallkeep1.RatOrder'. -/
def ratOrderCard : Claim7 := { stood := { row := ratOrderRow, standIns := [], harness := (true, "d64d68d8a9beddafd9fdc9530b1c21150b08fa9822c23e4abc03bb4117c57b3c"), looks := true }, kinds := [], alts := [], laidByText := true, laidKinds := [.data, .data, .data, .sentinel, .sentinel], laidTests := true, laidLooks := .later }
def RatOrderCardSaid : Prop := Claim7.holds Tryz.pinned (.plain (OpenSpec.ofChange ratOrderSpec)) ratOrderCard

/-- THE TIED CARD OF 'gridhallkeep1.RatRounds'. -/
def ratRoundsCard : Claim7 := { stood := { row := ratRoundsRow, standIns := [], harness := (true, "d64d68d8a9beddafd9fdc9530b1c21150b08fa9822c23e4abc03bb4117c57b3c"), looks := true }, kinds := [], alts := [], laidByText := true, laidKinds := [.data, .data, .data, .sentinel, .sentinel], laidTests := true, laidLooks := .later }
def RatRoundsCardSaid : Prop := Claim7.holds Tryz.pinned (.plain (OpenSpec.ofChange ratRoundsSpec)) ratRoundsCard

/-- THE SECOND FORM's CARD OF 'gridhallkeep1.RatField'. -/
def ratFieldUptoCard : Claim7 := { stood := { row := ratFieldUptoRow, standIns := [], harness := (true, "d64d68d8a9beddafd9fdc9530b1c21150b08fa9822c23e4abc03bb4117c57b3c"), looks := true }, kinds := [], alts := [], laidByText := true, laidKinds := [.data, .data, .data, .sentinel, .sentinel], laidTests := true, laidLooks := .later }
def RatFieldUptoCardSaid : Prop := Claim7.holds Tryz.pinned (.plain (OpenSpec.upto ratFieldSpec)) ratFieldUptoCard

/-- THE SECOND FORM's CARD OF 'gridhallkeep1.RatOrder'. -/
def ratOrderUptoCard : Claim7 := { stood := { row := ratOrderUptoRow, standIns := [], harness := (true, "d64d68d8a9beddafd9fdc9530b1c21150b08fa9822c23e4abc03bb4117c57b3c"), looks := true }, kinds := [], alts := [], laidByText := true, laidKinds := [.data, .data, .data, .sentinel, .sentinel], laidTests := true, laidLooks := .later }
def RatOrderUptoCardSaid : Prop := Claim7.holds Tryz.pinned (.plain (OpenSpec.upto ratOrderSpec)) ratOrderUptoCard

/-- THE SECOND FORM's CARD OF 'gridhallkeep1.RatRounds'. -/
def ratRoundsUptoCard : Claim7 := { stood := { row := ratRoundsUptoRow, standIns := [], harness := (true, "d64d68d8a9beddafd9fdc9530b1c21150b08fa9822c23e4abc03bb4117c57b3c"), looks := true }, kinds := [], alts := [], laidByText := true, laidKinds := [.data, .data, .data, .sentinel, .sentinel], laidTests := true, laidLooks := .later }
def RatRoundsUptoCardSaid : Prop := Claim7.holds Tryz.pinned (.plain (OpenSpec.upto ratRoundsSpec)) ratRoundsUptoCard
end Rows
end Go.Proofs.YtpbdlmjfjkfphaaGreatDoor
