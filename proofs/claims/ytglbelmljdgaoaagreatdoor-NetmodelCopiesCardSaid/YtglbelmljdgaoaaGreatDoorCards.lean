/-
  DERIVED. GIVEN WITH THE SEED: THE CARDS: each row of YtglbelmljdgaoaaGreatDoorRows.lean that lists a variable, with what it lists TIED to the program's text (the seventh form; the later family's looks); each row that meets fmt, with fmt's text TOLD by the authors' own Lean function (tested against real Go, not proved from fmt's source: count such statements apart). THE CARD IS WHAT COUNTS. Prove the row's statement (the work); the ties are given (YtglbelmljdgaoaaGreatDoorTie.lean); close each card by the builder's one call (the guide's Derived/Test/ToyasCard.lean, 'card_holds'). Laid BY PROGRAM, IN A SANDBOX (cutbox-door.mjs). By AI agents, Wed Nov 11 2026. No macro, syntax, notation, axiom, sorry.
-/
import Derived.Test.YtglbelmljdgaoaaGreatDoorRows
import GoSem.ClaimSeven
namespace Go.Proofs.YtglbelmljdgaoaaGreatDoor
namespace Rows

/-- THE TIED CARD OF 'gridhallkeep1.NetmodelKeeps'. -/
def netmodelKeepsCard : Claim7 := { stood := { row := netmodelKeepsRow, standIns := [], harness := (true, "84a80f8d6a444f139964685db602775db741314c47ff6724aa1ac5a13039a373"), looks := true }, kinds := [], alts := [], laidByText := true, laidKinds := [.data, .data, .data, .data, .sentinel, .sentinel, .pinned], laidTests := true, laidLooks := .later }
def NetmodelKeepsCardSaid : Prop := Claim7.holds Tryz.pinned (.plain (OpenSpec.ofChange netmodelKeepsSpec)) netmodelKeepsCard

/-- THE TIED CARD OF 'gridhallkeep1.NetmodelCopies'. -/
def netmodelCopiesCard : Claim7 := { stood := { row := netmodelCopiesRow, standIns := [], harness := (true, "84a80f8d6a444f139964685db602775db741314c47ff6724aa1ac5a13039a373"), looks := true }, kinds := [], alts := [], laidByText := true, laidKinds := [.data, .data, .data, .data, .sentinel, .sentinel, .pinned], laidTests := true, laidLooks := .later }
def NetmodelCopiesCardSaid : Prop := Claim7.holds Tryz.pinned (.plain (OpenSpec.ofChange netmodelCopiesSpec)) netmodelCopiesCard

/-- THE SECOND FORM's CARD OF 'gridhallkeep1.NetmodelKeeps'. -/
def netmodelKeepsUptoCard : Claim7 := { stood := { row := netmodelKeepsUptoRow, standIns := [], harness := (true, "84a80f8d6a444f139964685db602775db741314c47ff6724aa1ac5a13039a373"), looks := true }, kinds := [], alts := [], laidByText := true, laidKinds := [.data, .data, .data, .data, .sentinel, .sentinel, .pinned], laidTests := true, laidLooks := .later }
def NetmodelKeepsUptoCardSaid : Prop := Claim7.holds Tryz.pinned (.plain (OpenSpec.upto netmodelKeepsSpec)) netmodelKeepsUptoCard

/-- THE SECOND FORM's CARD OF 'gridhallkeep1.NetmodelCopies'. -/
def netmodelCopiesUptoCard : Claim7 := { stood := { row := netmodelCopiesUptoRow, standIns := [], harness := (true, "84a80f8d6a444f139964685db602775db741314c47ff6724aa1ac5a13039a373"), looks := true }, kinds := [], alts := [], laidByText := true, laidKinds := [.data, .data, .data, .data, .sentinel, .sentinel, .pinned], laidTests := true, laidLooks := .later }
def NetmodelCopiesUptoCardSaid : Prop := Claim7.holds Tryz.pinned (.plain (OpenSpec.upto netmodelCopiesSpec)) netmodelCopiesUptoCard
end Rows
end Go.Proofs.YtglbelmljdgaoaaGreatDoor
