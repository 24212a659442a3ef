/-
  DERIVED. GIVEN WITH THE SEED: THE CARDS: each row of YtfigffaghaaaoaaGreatDoorRows.lean that lists a variable, with what it lists TIED to the program's text (the seventh form; the later family's looks); each row that meets fmt, with fmt's text TOLD by the authors' own Lean function (tested against real Go, not proved from fmt's source: count such statements apart). THE CARD IS WHAT COUNTS. Prove the row's statement (the work); the ties are given (YtfigffaghaaaoaaGreatDoorTie.lean); close each card by the builder's one call (the guide's Derived/Test/ToyasCard.lean, 'card_holds'). Laid BY PROGRAM, IN A SANDBOX (cutbox-door.mjs). By AI agents, Wed Nov 11 2026. No macro, syntax, notation, axiom, sorry.
-/
import Derived.Test.YtfigffaghaaaoaaGreatDoorRows
import GoSem.ClaimSeven
namespace Go.Proofs.YtfigffaghaaaoaaGreatDoor
namespace Rows

/-- THE TIED CARD OF 'gridhallkeep1.RatingLefts'. -/
def ratingLeftsCard : Claim7 := { stood := { row := ratingLeftsRow, standIns := [], harness := (true, "7aa3e75410f88249261a6bcb3178f492f9af18867a09a945f35b56c5016f41a6"), looks := true }, kinds := [], alts := [], laidByText := true, laidKinds := [.data, .data, .data, .sentinel, .sentinel], laidTests := true, laidLooks := .later }
def RatingLeftsCardSaid : Prop := Claim7.holds Tryz.pinned (.plain (OpenSpec.ofChange ratingLeftsSpec)) ratingLeftsCard

/-- THE TIED CARD OF 'gridhallkeep1.RatingSplits'. -/
def ratingSplitsCard : Claim7 := { stood := { row := ratingSplitsRow, standIns := [], harness := (true, "7aa3e75410f88249261a6bcb3178f492f9af18867a09a945f35b56c5016f41a6"), looks := true }, kinds := [], alts := [], laidByText := true, laidKinds := [.data, .data, .data, .sentinel, .sentinel], laidTests := true, laidLooks := .later }
def RatingSplitsCardSaid : Prop := Claim7.holds Tryz.pinned (.plain (OpenSpec.ofChange ratingSplitsSpec)) ratingSplitsCard

/-- THE TIED CARD OF 'gridhallkeep1.RatingRests'. -/
def ratingRestsCard : Claim7 := { stood := { row := ratingRestsRow, standIns := [], harness := (true, "7aa3e75410f88249261a6bcb3178f492f9af18867a09a945f35b56c5016f41a6"), looks := true }, kinds := [], alts := [], laidByText := true, laidKinds := [.data, .data, .data, .sentinel, .sentinel], laidTests := true, laidLooks := .later }
def RatingRestsCardSaid : Prop := Claim7.holds Tryz.pinned (.plain (OpenSpec.ofChange ratingRestsSpec)) ratingRestsCard

/-- THE SECOND FORM's CARD OF 'gridhallkeep1.RatingLefts'. -/
def ratingLeftsUptoCard : Claim7 := { stood := { row := ratingLeftsUptoRow, standIns := [], harness := (true, "7aa3e75410f88249261a6bcb3178f492f9af18867a09a945f35b56c5016f41a6"), looks := true }, kinds := [], alts := [], laidByText := true, laidKinds := [.data, .data, .data, .sentinel, .sentinel], laidTests := true, laidLooks := .later }
def RatingLeftsUptoCardSaid : Prop := Claim7.holds Tryz.pinned (.plain (OpenSpec.upto ratingLeftsSpec)) ratingLeftsUptoCard

/-- THE SECOND FORM's CARD OF 'gridhallkeep1.RatingSplits'. -/
def ratingSplitsUptoCard : Claim7 := { stood := { row := ratingSplitsUptoRow, standIns := [], harness := (true, "7aa3e75410f88249261a6bcb3178f492f9af18867a09a945f35b56c5016f41a6"), looks := true }, kinds := [], alts := [], laidByText := true, laidKinds := [.data, .data, .data, .sentinel, .sentinel], laidTests := true, laidLooks := .later }
def RatingSplitsUptoCardSaid : Prop := Claim7.holds Tryz.pinned (.plain (OpenSpec.upto ratingSplitsSpec)) ratingSplitsUptoCard

/-- THE SECOND FORM's CARD OF 'gridhallkeep1.RatingRests'. -/
def ratingRestsUptoCard : Claim7 := { stood := { row := ratingRestsUptoRow, standIns := [], harness := (true, "7aa3e75410f88249261a6bcb3178f492f9af18867a09a945f35b56c5016f41a6"), looks := true }, kinds := [], alts := [], laidByText := true, laidKinds := [.data, .data, .data, .sentinel, .sentinel], laidTests := true, laidLooks := .later }
def RatingRestsUptoCardSaid : Prop := Claim7.holds Tryz.pinned (.plain (OpenSpec.upto ratingRestsSpec)) ratingRestsUptoCard
end Rows
end Go.Proofs.YtfigffaghaaaoaaGreatDoor
