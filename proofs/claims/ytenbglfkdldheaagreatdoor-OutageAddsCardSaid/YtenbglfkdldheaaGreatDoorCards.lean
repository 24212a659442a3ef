/-
  DERIVED. GIVEN WITH THE SEED: THE CARDS: each row of YtenbglfkdldheaaGreatDoorRows.lean that lists a variable, with what it lists TIED to the program's text (the seventh form; the later family's looks); each row that meets fmt, with fmt's text TOLD by the authors' own Lean function (tested against real Go, not proved from fmt's source: count such statements apart). THE CARD IS WHAT COUNTS. Prove the row's statement (the work); the ties are given (YtenbglfkdldheaaGreatDoorTie.lean); close each card by the builder's one call (the guide's Derived/Test/ToyasCard.lean, 'card_holds'). Laid BY PROGRAM, IN A SANDBOX (cutbox-door.mjs). By AI agents, Wed Nov 11 2026. No macro, syntax, notation, axiom, sorry.
-/
import Derived.Test.YtenbglfkdldheaaGreatDoorRows
import GoSem.ClaimSeven
namespace Go.Proofs.YtenbglfkdldheaaGreatDoor
namespace Rows

/-- THE TIED CARD OF 'gridhallkeep1.ShiftBridges'. -/
def shiftBridgesCard : Claim7 := { stood := { row := shiftBridgesRow, standIns := [], harness := (true, "73a35c28a6f9e155e35e27c53cd7f1f219ac307553e21136365d692777a53f55"), looks := true }, kinds := [], alts := [], laidByText := true, laidKinds := [.data, .data, .data], laidTests := true, laidLooks := .later }
def ShiftBridgesCardSaid : Prop := Claim7.holds Tryz.pinned (.plain (OpenSpec.ofChange shiftBridgesSpec)) shiftBridgesCard

/-- THE TIED CARD OF 'gridhallkeep1.OutageLimits'. -/
def outageLimitsCard : Claim7 := { stood := { row := outageLimitsRow, standIns := [], harness := (true, "73a35c28a6f9e155e35e27c53cd7f1f219ac307553e21136365d692777a53f55"), looks := true }, kinds := [], alts := [], laidByText := true, laidKinds := [.data, .data, .data], laidTests := true, laidLooks := .later }
def OutageLimitsCardSaid : Prop := Claim7.holds Tryz.pinned (.plain (OpenSpec.ofChange outageLimitsSpec)) outageLimitsCard

/-- THE TIED CARD OF 'gridhallkeep1.DoubleTurns'. -/
def doubleTurnsCard : Claim7 := { stood := { row := doubleTurnsRow, standIns := [], harness := (true, "73a35c28a6f9e155e35e27c53cd7f1f219ac307553e21136365d692777a53f55"), looks := true }, kinds := [], alts := [], laidByText := true, laidKinds := [.data, .data, .data], laidTests := true, laidLooks := .later }
def DoubleTurnsCardSaid : Prop := Claim7.holds Tryz.pinned (.plain (OpenSpec.ofChange doubleTurnsSpec)) doubleTurnsCard

/-- THE TIED CARD OF 'gridhallkeep1.FlowProves'. -/
def flowProvesCard : Claim7 := { stood := { row := flowProvesRow, standIns := [], harness := (true, "73a35c28a6f9e155e35e27c53cd7f1f219ac307553e21136365d692777a53f55"), looks := true }, kinds := [], alts := [], laidByText := true, laidKinds := [.data, .data, .data, .sentinel, .sentinel], laidTests := true, laidLooks := .later }
def FlowProvesCardSaid : Prop := Claim7.holds Tryz.pinned (.plain (OpenSpec.ofChange flowProvesSpec)) flowProvesCard

/-- THE TIED CARD OF 'gridhallkeep1.FlowSwitches'. -/
def flowSwitchesCard : Claim7 := { stood := { row := flowSwitchesRow, standIns := [], harness := (true, "73a35c28a6f9e155e35e27c53cd7f1f219ac307553e21136365d692777a53f55"), looks := true }, kinds := [], alts := [], laidByText := true, laidKinds := [.data, .data, .data, .sentinel, .sentinel], laidTests := true, laidLooks := .later }
def FlowSwitchesCardSaid : Prop := Claim7.holds Tryz.pinned (.plain (OpenSpec.ofChange flowSwitchesSpec)) flowSwitchesCard

/-- THE TIED CARD OF 'gridhallkeep1.FlowRefuses'. -/
def flowRefusesCard : Claim7 := { stood := { row := flowRefusesRow, standIns := [], harness := (true, "73a35c28a6f9e155e35e27c53cd7f1f219ac307553e21136365d692777a53f55"), looks := true }, kinds := [], alts := [], laidByText := true, laidKinds := [.data, .data, .data, .sentinel, .sentinel], laidTests := true, laidLooks := .later }
def FlowRefusesCardSaid : Prop := Claim7.holds Tryz.pinned (.plain (OpenSpec.ofChange flowRefusesSpec)) flowRefusesCard

/-- THE TIED CARD OF 'gridhallkeep1.FlowAdds'. -/
def flowAddsCard : Claim7 := { stood := { row := flowAddsRow, standIns := [], harness := (true, "73a35c28a6f9e155e35e27c53cd7f1f219ac307553e21136365d692777a53f55"), looks := true }, kinds := [], alts := [], laidByText := true, laidKinds := [.data, .data, .data, .sentinel, .sentinel], laidTests := true, laidLooks := .later }
def FlowAddsCardSaid : Prop := Claim7.holds Tryz.pinned (.plain (OpenSpec.ofChange flowAddsSpec)) flowAddsCard

/-- THE TIED CARD OF 'gridhallkeep1.ShiftBack'. -/
def shiftBackCard : Claim7 := { stood := { row := shiftBackRow, standIns := [], harness := (true, "73a35c28a6f9e155e35e27c53cd7f1f219ac307553e21136365d692777a53f55"), looks := true }, kinds := [], alts := [], laidByText := true, laidKinds := [.data, .data, .data, .sentinel, .sentinel], laidTests := true, laidLooks := .later }
def ShiftBackCardSaid : Prop := Claim7.holds Tryz.pinned (.plain (OpenSpec.ofChange shiftBackSpec)) shiftBackCard

/-- THE TIED CARD OF 'gridhallkeep1.DoubleBounds'. -/
def doubleBoundsCard : Claim7 := { stood := { row := doubleBoundsRow, standIns := [], harness := (true, "73a35c28a6f9e155e35e27c53cd7f1f219ac307553e21136365d692777a53f55"), looks := true }, kinds := [], alts := [], laidByText := true, laidKinds := [.data, .data, .data, .sentinel, .sentinel], laidTests := true, laidLooks := .later }
def DoubleBoundsCardSaid : Prop := Claim7.holds Tryz.pinned (.plain (OpenSpec.ofChange doubleBoundsSpec)) doubleBoundsCard

/-- THE TIED CARD OF 'gridhallkeep1.ShiftAdds'. -/
def shiftAddsCard : Claim7 := { stood := { row := shiftAddsRow, standIns := [], harness := (true, "73a35c28a6f9e155e35e27c53cd7f1f219ac307553e21136365d692777a53f55"), looks := true }, kinds := [], alts := [], laidByText := true, laidKinds := [.data, .data, .data, .sentinel, .sentinel], laidTests := true, laidLooks := .later }
def ShiftAddsCardSaid : Prop := Claim7.holds Tryz.pinned (.plain (OpenSpec.ofChange shiftAddsSpec)) shiftAddsCard

/-- THE TIED CARD OF 'gridhallkeep1.OutageAdds'. -/
def outageAddsCard : Claim7 := { stood := { row := outageAddsRow, standIns := [], harness := (true, "73a35c28a6f9e155e35e27c53cd7f1f219ac307553e21136365d692777a53f55"), looks := true }, kinds := [], alts := [], laidByText := true, laidKinds := [.data, .data, .data, .sentinel, .sentinel], laidTests := true, laidLooks := .later }
def OutageAddsCardSaid : Prop := Claim7.holds Tryz.pinned (.plain (OpenSpec.ofChange outageAddsSpec)) outageAddsCard

/-- THE SECOND FORM's CARD OF 'gridhallkeep1.ShiftBridges'. -/
def shiftBridgesUptoCard : Claim7 := { stood := { row := shiftBridgesUptoRow, standIns := [], harness := (true, "73a35c28a6f9e155e35e27c53cd7f1f219ac307553e21136365d692777a53f55"), looks := true }, kinds := [], alts := [], laidByText := true, laidKinds := [.data, .data, .data], laidTests := true, laidLooks := .later }
def ShiftBridgesUptoCardSaid : Prop := Claim7.holds Tryz.pinned (.plain (OpenSpec.upto shiftBridgesSpec)) shiftBridgesUptoCard

/-- THE SECOND FORM's CARD OF 'gridhallkeep1.OutageLimits'. -/
def outageLimitsUptoCard : Claim7 := { stood := { row := outageLimitsUptoRow, standIns := [], harness := (true, "73a35c28a6f9e155e35e27c53cd7f1f219ac307553e21136365d692777a53f55"), looks := true }, kinds := [], alts := [], laidByText := true, laidKinds := [.data, .data, .data], laidTests := true, laidLooks := .later }
def OutageLimitsUptoCardSaid : Prop := Claim7.holds Tryz.pinned (.plain (OpenSpec.upto outageLimitsSpec)) outageLimitsUptoCard

/-- THE SECOND FORM's CARD OF 'gridhallkeep1.DoubleTurns'. -/
def doubleTurnsUptoCard : Claim7 := { stood := { row := doubleTurnsUptoRow, standIns := [], harness := (true, "73a35c28a6f9e155e35e27c53cd7f1f219ac307553e21136365d692777a53f55"), looks := true }, kinds := [], alts := [], laidByText := true, laidKinds := [.data, .data, .data], laidTests := true, laidLooks := .later }
def DoubleTurnsUptoCardSaid : Prop := Claim7.holds Tryz.pinned (.plain (OpenSpec.upto doubleTurnsSpec)) doubleTurnsUptoCard

/-- THE SECOND FORM's CARD OF 'gridhallkeep1.FlowProves'. -/
def flowProvesUptoCard : Claim7 := { stood := { row := flowProvesUptoRow, standIns := [], harness := (true, "73a35c28a6f9e155e35e27c53cd7f1f219ac307553e21136365d692777a53f55"), looks := true }, kinds := [], alts := [], laidByText := true, laidKinds := [.data, .data, .data, .sentinel, .sentinel], laidTests := true, laidLooks := .later }
def FlowProvesUptoCardSaid : Prop := Claim7.holds Tryz.pinned (.plain (OpenSpec.upto flowProvesSpec)) flowProvesUptoCard

/-- THE SECOND FORM's CARD OF 'gridhallkeep1.FlowSwitches'. -/
def flowSwitchesUptoCard : Claim7 := { stood := { row := flowSwitchesUptoRow, standIns := [], harness := (true, "73a35c28a6f9e155e35e27c53cd7f1f219ac307553e21136365d692777a53f55"), looks := true }, kinds := [], alts := [], laidByText := true, laidKinds := [.data, .data, .data, .sentinel, .sentinel], laidTests := true, laidLooks := .later }
def FlowSwitchesUptoCardSaid : Prop := Claim7.holds Tryz.pinned (.plain (OpenSpec.upto flowSwitchesSpec)) flowSwitchesUptoCard

/-- THE SECOND FORM's CARD OF 'gridhallkeep1.FlowRefuses'. -/
def flowRefusesUptoCard : Claim7 := { stood := { row := flowRefusesUptoRow, standIns := [], harness := (true, "73a35c28a6f9e155e35e27c53cd7f1f219ac307553e21136365d692777a53f55"), looks := true }, kinds := [], alts := [], laidByText := true, laidKinds := [.data, .data, .data, .sentinel, .sentinel], laidTests := true, laidLooks := .later }
def FlowRefusesUptoCardSaid : Prop := Claim7.holds Tryz.pinned (.plain (OpenSpec.upto flowRefusesSpec)) flowRefusesUptoCard

/-- THE SECOND FORM's CARD OF 'gridhallkeep1.FlowAdds'. -/
def flowAddsUptoCard : Claim7 := { stood := { row := flowAddsUptoRow, standIns := [], harness := (true, "73a35c28a6f9e155e35e27c53cd7f1f219ac307553e21136365d692777a53f55"), looks := true }, kinds := [], alts := [], laidByText := true, laidKinds := [.data, .data, .data, .sentinel, .sentinel], laidTests := true, laidLooks := .later }
def FlowAddsUptoCardSaid : Prop := Claim7.holds Tryz.pinned (.plain (OpenSpec.upto flowAddsSpec)) flowAddsUptoCard

/-- THE SECOND FORM's CARD OF 'gridhallkeep1.ShiftBack'. -/
def shiftBackUptoCard : Claim7 := { stood := { row := shiftBackUptoRow, standIns := [], harness := (true, "73a35c28a6f9e155e35e27c53cd7f1f219ac307553e21136365d692777a53f55"), looks := true }, kinds := [], alts := [], laidByText := true, laidKinds := [.data, .data, .data, .sentinel, .sentinel], laidTests := true, laidLooks := .later }
def ShiftBackUptoCardSaid : Prop := Claim7.holds Tryz.pinned (.plain (OpenSpec.upto shiftBackSpec)) shiftBackUptoCard

/-- THE SECOND FORM's CARD OF 'gridhallkeep1.DoubleBounds'. -/
def doubleBoundsUptoCard : Claim7 := { stood := { row := doubleBoundsUptoRow, standIns := [], harness := (true, "73a35c28a6f9e155e35e27c53cd7f1f219ac307553e21136365d692777a53f55"), looks := true }, kinds := [], alts := [], laidByText := true, laidKinds := [.data, .data, .data, .sentinel, .sentinel], laidTests := true, laidLooks := .later }
def DoubleBoundsUptoCardSaid : Prop := Claim7.holds Tryz.pinned (.plain (OpenSpec.upto doubleBoundsSpec)) doubleBoundsUptoCard

/-- THE SECOND FORM's CARD OF 'gridhallkeep1.ShiftAdds'. -/
def shiftAddsUptoCard : Claim7 := { stood := { row := shiftAddsUptoRow, standIns := [], harness := (true, "73a35c28a6f9e155e35e27c53cd7f1f219ac307553e21136365d692777a53f55"), looks := true }, kinds := [], alts := [], laidByText := true, laidKinds := [.data, .data, .data, .sentinel, .sentinel], laidTests := true, laidLooks := .later }
def ShiftAddsUptoCardSaid : Prop := Claim7.holds Tryz.pinned (.plain (OpenSpec.upto shiftAddsSpec)) shiftAddsUptoCard

/-- THE SECOND FORM's CARD OF 'gridhallkeep1.OutageAdds'. -/
def outageAddsUptoCard : Claim7 := { stood := { row := outageAddsUptoRow, standIns := [], harness := (true, "73a35c28a6f9e155e35e27c53cd7f1f219ac307553e21136365d692777a53f55"), looks := true }, kinds := [], alts := [], laidByText := true, laidKinds := [.data, .data, .data, .sentinel, .sentinel], laidTests := true, laidLooks := .later }
def OutageAddsUptoCardSaid : Prop := Claim7.holds Tryz.pinned (.plain (OpenSpec.upto outageAddsSpec)) outageAddsUptoCard
end Rows
end Go.Proofs.YtenbglfkdldheaaGreatDoor
