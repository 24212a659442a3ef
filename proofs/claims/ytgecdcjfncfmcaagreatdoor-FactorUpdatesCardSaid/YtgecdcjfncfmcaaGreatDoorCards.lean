/-
  DERIVED. GIVEN WITH THE SEED: THE CARDS: each row of YtgecdcjfncfmcaaGreatDoorRows.lean that lists a variable, with what it lists TIED to the program's text (the seventh form; the later family's looks); each row that meets fmt, with fmt's text TOLD by the authors' own Lean function (tested against real Go, not proved from fmt's source: count such statements apart). THE CARD IS WHAT COUNTS. Prove the row's statement (the work); the ties are given (YtgecdcjfncfmcaaGreatDoorTie.lean); close each card by the builder's one call (the guide's Derived/Test/ToyasCard.lean, 'card_holds'). Laid BY PROGRAM, IN A SANDBOX (cutbox-door.mjs). By AI agents, Wed Nov 11 2026. No macro, syntax, notation, axiom, sorry.
-/
import Derived.Test.YtgecdcjfncfmcaaGreatDoorRows
import GoSem.ClaimSeven
namespace Go.Proofs.YtgecdcjfncfmcaaGreatDoor
namespace Rows

/-- THE TIED CARD OF 'gridhallkeep1.RatingLefts'. -/
def ratingLeftsCard : Claim7 := { stood := { row := ratingLeftsRow, standIns := [], harness := (true, "1ed2719bbf45b698de9801eff80c149e5f37ad2a8d7f90571cd26800b5c1a5b3"), looks := true }, kinds := [], alts := [], laidByText := true, laidKinds := [.data, .data, .data, .sentinel, .sentinel], laidTests := true, laidLooks := .later }
def RatingLeftsCardSaid : Prop := Claim7.holds Tryz.pinned (.plain (OpenSpec.ofChange ratingLeftsSpec)) ratingLeftsCard

/-- THE TIED CARD OF 'gridhallkeep1.RatingSplits'. -/
def ratingSplitsCard : Claim7 := { stood := { row := ratingSplitsRow, standIns := [], harness := (true, "1ed2719bbf45b698de9801eff80c149e5f37ad2a8d7f90571cd26800b5c1a5b3"), looks := true }, kinds := [], alts := [], laidByText := true, laidKinds := [.data, .data, .data, .sentinel, .sentinel], laidTests := true, laidLooks := .later }
def RatingSplitsCardSaid : Prop := Claim7.holds Tryz.pinned (.plain (OpenSpec.ofChange ratingSplitsSpec)) ratingSplitsCard

/-- THE TIED CARD OF 'gridhallkeep1.RatingRests'. -/
def ratingRestsCard : Claim7 := { stood := { row := ratingRestsRow, standIns := [], harness := (true, "1ed2719bbf45b698de9801eff80c149e5f37ad2a8d7f90571cd26800b5c1a5b3"), looks := true }, kinds := [], alts := [], laidByText := true, laidKinds := [.data, .data, .data, .sentinel, .sentinel], laidTests := true, laidLooks := .later }
def RatingRestsCardSaid : Prop := Claim7.holds Tryz.pinned (.plain (OpenSpec.ofChange ratingRestsSpec)) ratingRestsCard

/-- THE TIED CARD OF 'gridhallkeep1.FactorBack'. -/
def factorBackCard : Claim7 := { stood := { row := factorBackRow, standIns := [], harness := (true, "1ed2719bbf45b698de9801eff80c149e5f37ad2a8d7f90571cd26800b5c1a5b3"), looks := true }, kinds := [], alts := [], laidByText := true, laidKinds := [.data, .data, .data, .sentinel, .sentinel], laidTests := true, laidLooks := .later }
def FactorBackCardSaid : Prop := Claim7.holds Tryz.pinned (.plain (OpenSpec.ofChange factorBackSpec)) factorBackCard

/-- THE TIED CARD OF 'gridhallkeep1.FactorSolves'. -/
def factorSolvesCard : Claim7 := { stood := { row := factorSolvesRow, standIns := [], harness := (true, "1ed2719bbf45b698de9801eff80c149e5f37ad2a8d7f90571cd26800b5c1a5b3"), looks := true }, kinds := [], alts := [], laidByText := true, laidKinds := [.data, .data, .data, .sentinel, .sentinel], laidTests := true, laidLooks := .later }
def FactorSolvesCardSaid : Prop := Claim7.holds Tryz.pinned (.plain (OpenSpec.ofChange factorSolvesSpec)) factorSolvesCard

/-- THE TIED CARD OF 'gridhallkeep1.FactorUpdates'. -/
def factorUpdatesCard : Claim7 := { stood := { row := factorUpdatesRow, standIns := [], harness := (true, "1ed2719bbf45b698de9801eff80c149e5f37ad2a8d7f90571cd26800b5c1a5b3"), looks := true }, kinds := [], alts := [], laidByText := true, laidKinds := [.data, .data, .data, .sentinel, .sentinel], laidTests := true, laidLooks := .later }
def FactorUpdatesCardSaid : Prop := Claim7.holds Tryz.pinned (.plain (OpenSpec.ofChange factorUpdatesSpec)) factorUpdatesCard

/-- THE TIED CARD OF 'gridhallkeep1.FlowProves'. -/
def flowProvesCard : Claim7 := { stood := { row := flowProvesRow, standIns := [], harness := (true, "1ed2719bbf45b698de9801eff80c149e5f37ad2a8d7f90571cd26800b5c1a5b3"), looks := true }, kinds := [], alts := [], laidByText := true, laidKinds := [.data, .data, .data, .sentinel, .sentinel], laidTests := true, laidLooks := .later }
def FlowProvesCardSaid : Prop := Claim7.holds Tryz.pinned (.plain (OpenSpec.ofChange flowProvesSpec)) flowProvesCard

/-- THE TIED CARD OF 'gridhallkeep1.FlowSwitches'. -/
def flowSwitchesCard : Claim7 := { stood := { row := flowSwitchesRow, standIns := [], harness := (true, "1ed2719bbf45b698de9801eff80c149e5f37ad2a8d7f90571cd26800b5c1a5b3"), looks := true }, kinds := [], alts := [], laidByText := true, laidKinds := [.data, .data, .data, .sentinel, .sentinel], laidTests := true, laidLooks := .later }
def FlowSwitchesCardSaid : Prop := Claim7.holds Tryz.pinned (.plain (OpenSpec.ofChange flowSwitchesSpec)) flowSwitchesCard

/-- THE TIED CARD OF 'gridhallkeep1.FlowRefuses'. -/
def flowRefusesCard : Claim7 := { stood := { row := flowRefusesRow, standIns := [], harness := (true, "1ed2719bbf45b698de9801eff80c149e5f37ad2a8d7f90571cd26800b5c1a5b3"), looks := true }, kinds := [], alts := [], laidByText := true, laidKinds := [.data, .data, .data, .sentinel, .sentinel], laidTests := true, laidLooks := .later }
def FlowRefusesCardSaid : Prop := Claim7.holds Tryz.pinned (.plain (OpenSpec.ofChange flowRefusesSpec)) flowRefusesCard

/-- THE TIED CARD OF 'gridhallkeep1.FlowAdds'. -/
def flowAddsCard : Claim7 := { stood := { row := flowAddsRow, standIns := [], harness := (true, "1ed2719bbf45b698de9801eff80c149e5f37ad2a8d7f90571cd26800b5c1a5b3"), looks := true }, kinds := [], alts := [], laidByText := true, laidKinds := [.data, .data, .data, .sentinel, .sentinel], laidTests := true, laidLooks := .later }
def FlowAddsCardSaid : Prop := Claim7.holds Tryz.pinned (.plain (OpenSpec.ofChange flowAddsSpec)) flowAddsCard

/-- THE TIED CARD OF 'gridhallkeep1.ShiftBack'. -/
def shiftBackCard : Claim7 := { stood := { row := shiftBackRow, standIns := [], harness := (true, "1ed2719bbf45b698de9801eff80c149e5f37ad2a8d7f90571cd26800b5c1a5b3"), looks := true }, kinds := [], alts := [], laidByText := true, laidKinds := [.data, .data, .data, .sentinel, .sentinel], laidTests := true, laidLooks := .later }
def ShiftBackCardSaid : Prop := Claim7.holds Tryz.pinned (.plain (OpenSpec.ofChange shiftBackSpec)) shiftBackCard

/-- THE TIED CARD OF 'gridhallkeep1.ShiftAdds'. -/
def shiftAddsCard : Claim7 := { stood := { row := shiftAddsRow, standIns := [], harness := (true, "1ed2719bbf45b698de9801eff80c149e5f37ad2a8d7f90571cd26800b5c1a5b3"), looks := true }, kinds := [], alts := [], laidByText := true, laidKinds := [.data, .data, .data, .sentinel, .sentinel], laidTests := true, laidLooks := .later }
def ShiftAddsCardSaid : Prop := Claim7.holds Tryz.pinned (.plain (OpenSpec.ofChange shiftAddsSpec)) shiftAddsCard

/-- THE SECOND FORM's CARD OF 'gridhallkeep1.RatingLefts'. -/
def ratingLeftsUptoCard : Claim7 := { stood := { row := ratingLeftsUptoRow, standIns := [], harness := (true, "1ed2719bbf45b698de9801eff80c149e5f37ad2a8d7f90571cd26800b5c1a5b3"), looks := true }, kinds := [], alts := [], laidByText := true, laidKinds := [.data, .data, .data, .sentinel, .sentinel], laidTests := true, laidLooks := .later }
def RatingLeftsUptoCardSaid : Prop := Claim7.holds Tryz.pinned (.plain (OpenSpec.upto ratingLeftsSpec)) ratingLeftsUptoCard

/-- THE SECOND FORM's CARD OF 'gridhallkeep1.RatingSplits'. -/
def ratingSplitsUptoCard : Claim7 := { stood := { row := ratingSplitsUptoRow, standIns := [], harness := (true, "1ed2719bbf45b698de9801eff80c149e5f37ad2a8d7f90571cd26800b5c1a5b3"), looks := true }, kinds := [], alts := [], laidByText := true, laidKinds := [.data, .data, .data, .sentinel, .sentinel], laidTests := true, laidLooks := .later }
def RatingSplitsUptoCardSaid : Prop := Claim7.holds Tryz.pinned (.plain (OpenSpec.upto ratingSplitsSpec)) ratingSplitsUptoCard

/-- THE SECOND FORM's CARD OF 'gridhallkeep1.RatingRests'. -/
def ratingRestsUptoCard : Claim7 := { stood := { row := ratingRestsUptoRow, standIns := [], harness := (true, "1ed2719bbf45b698de9801eff80c149e5f37ad2a8d7f90571cd26800b5c1a5b3"), looks := true }, kinds := [], alts := [], laidByText := true, laidKinds := [.data, .data, .data, .sentinel, .sentinel], laidTests := true, laidLooks := .later }
def RatingRestsUptoCardSaid : Prop := Claim7.holds Tryz.pinned (.plain (OpenSpec.upto ratingRestsSpec)) ratingRestsUptoCard

/-- THE SECOND FORM's CARD OF 'gridhallkeep1.FactorBack'. -/
def factorBackUptoCard : Claim7 := { stood := { row := factorBackUptoRow, standIns := [], harness := (true, "1ed2719bbf45b698de9801eff80c149e5f37ad2a8d7f90571cd26800b5c1a5b3"), looks := true }, kinds := [], alts := [], laidByText := true, laidKinds := [.data, .data, .data, .sentinel, .sentinel], laidTests := true, laidLooks := .later }
def FactorBackUptoCardSaid : Prop := Claim7.holds Tryz.pinned (.plain (OpenSpec.upto factorBackSpec)) factorBackUptoCard

/-- THE SECOND FORM's CARD OF 'gridhallkeep1.FactorSolves'. -/
def factorSolvesUptoCard : Claim7 := { stood := { row := factorSolvesUptoRow, standIns := [], harness := (true, "1ed2719bbf45b698de9801eff80c149e5f37ad2a8d7f90571cd26800b5c1a5b3"), looks := true }, kinds := [], alts := [], laidByText := true, laidKinds := [.data, .data, .data, .sentinel, .sentinel], laidTests := true, laidLooks := .later }
def FactorSolvesUptoCardSaid : Prop := Claim7.holds Tryz.pinned (.plain (OpenSpec.upto factorSolvesSpec)) factorSolvesUptoCard

/-- THE SECOND FORM's CARD OF 'gridhallkeep1.FactorUpdates'. -/
def factorUpdatesUptoCard : Claim7 := { stood := { row := factorUpdatesUptoRow, standIns := [], harness := (true, "1ed2719bbf45b698de9801eff80c149e5f37ad2a8d7f90571cd26800b5c1a5b3"), looks := true }, kinds := [], alts := [], laidByText := true, laidKinds := [.data, .data, .data, .sentinel, .sentinel], laidTests := true, laidLooks := .later }
def FactorUpdatesUptoCardSaid : Prop := Claim7.holds Tryz.pinned (.plain (OpenSpec.upto factorUpdatesSpec)) factorUpdatesUptoCard

/-- THE SECOND FORM's CARD OF 'gridhallkeep1.FlowProves'. -/
def flowProvesUptoCard : Claim7 := { stood := { row := flowProvesUptoRow, standIns := [], harness := (true, "1ed2719bbf45b698de9801eff80c149e5f37ad2a8d7f90571cd26800b5c1a5b3"), looks := true }, kinds := [], alts := [], laidByText := true, laidKinds := [.data, .data, .data, .sentinel, .sentinel], laidTests := true, laidLooks := .later }
def FlowProvesUptoCardSaid : Prop := Claim7.holds Tryz.pinned (.plain (OpenSpec.upto flowProvesSpec)) flowProvesUptoCard

/-- THE SECOND FORM's CARD OF 'gridhallkeep1.FlowSwitches'. -/
def flowSwitchesUptoCard : Claim7 := { stood := { row := flowSwitchesUptoRow, standIns := [], harness := (true, "1ed2719bbf45b698de9801eff80c149e5f37ad2a8d7f90571cd26800b5c1a5b3"), looks := true }, kinds := [], alts := [], laidByText := true, laidKinds := [.data, .data, .data, .sentinel, .sentinel], laidTests := true, laidLooks := .later }
def FlowSwitchesUptoCardSaid : Prop := Claim7.holds Tryz.pinned (.plain (OpenSpec.upto flowSwitchesSpec)) flowSwitchesUptoCard

/-- THE SECOND FORM's CARD OF 'gridhallkeep1.FlowRefuses'. -/
def flowRefusesUptoCard : Claim7 := { stood := { row := flowRefusesUptoRow, standIns := [], harness := (true, "1ed2719bbf45b698de9801eff80c149e5f37ad2a8d7f90571cd26800b5c1a5b3"), looks := true }, kinds := [], alts := [], laidByText := true, laidKinds := [.data, .data, .data, .sentinel, .sentinel], laidTests := true, laidLooks := .later }
def FlowRefusesUptoCardSaid : Prop := Claim7.holds Tryz.pinned (.plain (OpenSpec.upto flowRefusesSpec)) flowRefusesUptoCard

/-- THE SECOND FORM's CARD OF 'gridhallkeep1.FlowAdds'. -/
def flowAddsUptoCard : Claim7 := { stood := { row := flowAddsUptoRow, standIns := [], harness := (true, "1ed2719bbf45b698de9801eff80c149e5f37ad2a8d7f90571cd26800b5c1a5b3"), looks := true }, kinds := [], alts := [], laidByText := true, laidKinds := [.data, .data, .data, .sentinel, .sentinel], laidTests := true, laidLooks := .later }
def FlowAddsUptoCardSaid : Prop := Claim7.holds Tryz.pinned (.plain (OpenSpec.upto flowAddsSpec)) flowAddsUptoCard

/-- THE SECOND FORM's CARD OF 'gridhallkeep1.ShiftBack'. -/
def shiftBackUptoCard : Claim7 := { stood := { row := shiftBackUptoRow, standIns := [], harness := (true, "1ed2719bbf45b698de9801eff80c149e5f37ad2a8d7f90571cd26800b5c1a5b3"), looks := true }, kinds := [], alts := [], laidByText := true, laidKinds := [.data, .data, .data, .sentinel, .sentinel], laidTests := true, laidLooks := .later }
def ShiftBackUptoCardSaid : Prop := Claim7.holds Tryz.pinned (.plain (OpenSpec.upto shiftBackSpec)) shiftBackUptoCard

/-- THE SECOND FORM's CARD OF 'gridhallkeep1.ShiftAdds'. -/
def shiftAddsUptoCard : Claim7 := { stood := { row := shiftAddsUptoRow, standIns := [], harness := (true, "1ed2719bbf45b698de9801eff80c149e5f37ad2a8d7f90571cd26800b5c1a5b3"), looks := true }, kinds := [], alts := [], laidByText := true, laidKinds := [.data, .data, .data, .sentinel, .sentinel], laidTests := true, laidLooks := .later }
def ShiftAddsUptoCardSaid : Prop := Claim7.holds Tryz.pinned (.plain (OpenSpec.upto shiftAddsSpec)) shiftAddsUptoCard
end Rows
end Go.Proofs.YtgecdcjfncfmcaaGreatDoor
