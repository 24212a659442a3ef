/-
  DERIVED. GIVEN WITH THE SEED: THE CARDS: each row of YtglbelmljdgaoaaDoorRows.lean that lists a variable, with what it lists TIED to the program's text (the seventh form; the later family's looks); each row that meets fmt, with fmt's text TOLD by the authors' own Lean function (tested against real Go, not proved from fmt's source: count such statements apart). THE CARD IS WHAT COUNTS. Prove the row's statement (the work); the ties are given (YtglbelmljdgaoaaDoorTie.lean); close each card by the builder's one call (the guide's Derived/Test/ToyasCard.lean, 'card_holds'). Laid BY PROGRAM, IN A SANDBOX (cutbox-door.mjs). By AI agents, Wed Nov 11 2026. No macro, syntax, notation, axiom, sorry.
-/
import Derived.Test.YtglbelmljdgaoaaDoorRows
import GoSem.ClaimSeven
namespace Go.Proofs.YtglbelmljdgaoaaDoor
namespace Rows

/-- THE TIED CARD OF 'gridhallkeep1.TopologyFollows'. -/
def topologyFollowsCard : Claim7 := { stood := { row := topologyFollowsRow, standIns := [], harness := (true, "9849960aff91e150755a9810b47228059b78e75e4c87779c724f111000163352"), looks := true }, kinds := [], alts := [], laidByText := true, laidKinds := [.data, .data, .data], laidTests := true, laidLooks := .later }
def TopologyFollowsCardSaid : Prop := Claim7.holds Tryd.pinned (.plain (OpenSpec.ofChange topologyFollowsSpec)) topologyFollowsCard

/-- THE TIED CARD OF 'gridhallkeep1.NettextBack'. -/
def nettextBackCard : Claim7 := { stood := { row := nettextBackRow, standIns := [], harness := (true, "9849960aff91e150755a9810b47228059b78e75e4c87779c724f111000163352"), looks := true }, kinds := [], alts := [], laidByText := true, laidKinds := [.data, .data, .data, .data, .sentinel, .sentinel, .pinned], laidTests := true, laidLooks := .later }
def NettextBackCardSaid : Prop := Claim7.holds Tryd.pinned (.plain (OpenSpec.ofChange nettextBackSpec)) nettextBackCard

/-- THE TIED CARD OF 'gridhallkeep1.NettextReads'. -/
def nettextReadsCard : Claim7 := { stood := { row := nettextReadsRow, standIns := [], harness := (true, "9849960aff91e150755a9810b47228059b78e75e4c87779c724f111000163352"), looks := true }, kinds := [], alts := [], laidByText := true, laidKinds := [.data, .data, .data, .data, .sentinel, .sentinel, .pinned], laidTests := true, laidLooks := .later }
def NettextReadsCardSaid : Prop := Claim7.holds Tryd.pinned (.plain (OpenSpec.ofChange nettextReadsSpec)) nettextReadsCard

/-- THE SECOND FORM's CARD OF 'gridhallkeep1.TopologyFollows'. -/
def topologyFollowsUptoCard : Claim7 := { stood := { row := topologyFollowsUptoRow, standIns := [], harness := (true, "9849960aff91e150755a9810b47228059b78e75e4c87779c724f111000163352"), looks := true }, kinds := [], alts := [], laidByText := true, laidKinds := [.data, .data, .data], laidTests := true, laidLooks := .later }
def TopologyFollowsUptoCardSaid : Prop := Claim7.holds Tryd.pinned (.plain (OpenSpec.upto topologyFollowsSpec)) topologyFollowsUptoCard

/-- THE SECOND FORM's CARD OF 'gridhallkeep1.NettextBack'. -/
def nettextBackUptoCard : Claim7 := { stood := { row := nettextBackUptoRow, standIns := [], harness := (true, "9849960aff91e150755a9810b47228059b78e75e4c87779c724f111000163352"), looks := true }, kinds := [], alts := [], laidByText := true, laidKinds := [.data, .data, .data, .data, .sentinel, .sentinel, .pinned], laidTests := true, laidLooks := .later }
def NettextBackUptoCardSaid : Prop := Claim7.holds Tryd.pinned (.plain (OpenSpec.upto nettextBackSpec)) nettextBackUptoCard

/-- THE SECOND FORM's CARD OF 'gridhallkeep1.NettextReads'. -/
def nettextReadsUptoCard : Claim7 := { stood := { row := nettextReadsUptoRow, standIns := [], harness := (true, "9849960aff91e150755a9810b47228059b78e75e4c87779c724f111000163352"), looks := true }, kinds := [], alts := [], laidByText := true, laidKinds := [.data, .data, .data, .data, .sentinel, .sentinel, .pinned], laidTests := true, laidLooks := .later }
def NettextReadsUptoCardSaid : Prop := Claim7.holds Tryd.pinned (.plain (OpenSpec.upto nettextReadsSpec)) nettextReadsUptoCard
end Rows
end Go.Proofs.YtglbelmljdgaoaaDoor
