/-
  DERIVED. GIVEN WITH THE SEED: THE CARDS: each row of YtpbdlmjfjkfphaaDoorRows.lean that lists a variable, with what it lists TIED to the program's text (the seventh form; the later family's looks); each row that meets fmt, with fmt's text TOLD by the authors' own Lean function (tested against real Go, not proved from fmt's source: count such statements apart). THE CARD IS WHAT COUNTS. Prove the row's statement (the work); the ties are given (YtpbdlmjfjkfphaaDoorTie.lean); close each card by the builder's one call (the guide's Derived/Test/ToyasCard.lean, 'card_holds'). Laid BY PROGRAM, IN A SANDBOX (cutbox-door.mjs). By AI agents, Wed Nov 11 2026. No macro, syntax, notation, axiom, sorry.
-/
import Derived.Test.YtpbdlmjfjkfphaaDoorRows
import GoSem.ClaimSeven
namespace Go.Proofs.YtpbdlmjfjkfphaaDoor
namespace Rows

/-- THE TIED CARD OF 'gridhallkeep1.NatRing'. -/
def natRingCard : Claim7 := { stood := { row := natRingRow, standIns := [], harness := (true, "e61d4ed7383571d1f24c8b0cef65b2dadec2063d636ca53828b1239a54e5c781"), looks := true }, kinds := [], alts := [], laidByText := true, laidKinds := [.data, .data, .data, .sentinel, .sentinel], laidTests := true, laidLooks := .later }
def NatRingCardSaid : Prop := Claim7.holds Tryd.pinned (.plain (OpenSpec.ofChange natRingSpec)) natRingCard

/-- THE TIED CARD OF 'gridhallkeep1.NatEuclid'. -/
def natEuclidCard : Claim7 := { stood := { row := natEuclidRow, standIns := [], harness := (true, "e61d4ed7383571d1f24c8b0cef65b2dadec2063d636ca53828b1239a54e5c781"), looks := true }, kinds := [], alts := [], laidByText := true, laidKinds := [.data, .data, .data, .sentinel, .sentinel], laidTests := true, laidLooks := .later }
def NatEuclidCardSaid : Prop := Claim7.holds Tryd.pinned (.plain (OpenSpec.ofChange natEuclidSpec)) natEuclidCard

/-- THE TIED CARD OF 'gridhallkeep1.NatOrders'. -/
def natOrdersCard : Claim7 := { stood := { row := natOrdersRow, standIns := [], harness := (true, "e61d4ed7383571d1f24c8b0cef65b2dadec2063d636ca53828b1239a54e5c781"), looks := true }, kinds := [], alts := [], laidByText := true, laidKinds := [.data, .data, .data, .sentinel, .sentinel], laidTests := true, laidLooks := .later }
def NatOrdersCardSaid : Prop := Claim7.holds Tryd.pinned (.plain (OpenSpec.ofChange natOrdersSpec)) natOrdersCard

/-- THE TIED CARD OF 'gridhallkeep1.NatRoots'. -/
def natRootsCard : Claim7 := { stood := { row := natRootsRow, standIns := [], harness := (true, "e61d4ed7383571d1f24c8b0cef65b2dadec2063d636ca53828b1239a54e5c781"), looks := true }, kinds := [], alts := [], laidByText := true, laidKinds := [.data, .data, .data, .sentinel, .sentinel], laidTests := true, laidLooks := .later }
def NatRootsCardSaid : Prop := Claim7.holds Tryd.pinned (.plain (OpenSpec.ofChange natRootsSpec)) natRootsCard

/-- THE TIED CARD OF 'gridhallkeep1.NatPowersAdd'. -/
def natPowersAddCard : Claim7 := { stood := { row := natPowersAddRow, standIns := [], harness := (true, "e61d4ed7383571d1f24c8b0cef65b2dadec2063d636ca53828b1239a54e5c781"), looks := true }, kinds := [], alts := [], laidByText := true, laidKinds := [.data, .data, .data, .sentinel, .sentinel], laidTests := true, laidLooks := .later }
def NatPowersAddCardSaid : Prop := Claim7.holds Tryd.pinned (.plain (OpenSpec.ofChange natPowersAddSpec)) natPowersAddCard

/-- THE SECOND FORM's CARD OF 'gridhallkeep1.NatRing'. -/
def natRingUptoCard : Claim7 := { stood := { row := natRingUptoRow, standIns := [], harness := (true, "e61d4ed7383571d1f24c8b0cef65b2dadec2063d636ca53828b1239a54e5c781"), looks := true }, kinds := [], alts := [], laidByText := true, laidKinds := [.data, .data, .data, .sentinel, .sentinel], laidTests := true, laidLooks := .later }
def NatRingUptoCardSaid : Prop := Claim7.holds Tryd.pinned (.plain (OpenSpec.upto natRingSpec)) natRingUptoCard

/-- THE SECOND FORM's CARD OF 'gridhallkeep1.NatEuclid'. -/
def natEuclidUptoCard : Claim7 := { stood := { row := natEuclidUptoRow, standIns := [], harness := (true, "e61d4ed7383571d1f24c8b0cef65b2dadec2063d636ca53828b1239a54e5c781"), looks := true }, kinds := [], alts := [], laidByText := true, laidKinds := [.data, .data, .data, .sentinel, .sentinel], laidTests := true, laidLooks := .later }
def NatEuclidUptoCardSaid : Prop := Claim7.holds Tryd.pinned (.plain (OpenSpec.upto natEuclidSpec)) natEuclidUptoCard

/-- THE SECOND FORM's CARD OF 'gridhallkeep1.NatOrders'. -/
def natOrdersUptoCard : Claim7 := { stood := { row := natOrdersUptoRow, standIns := [], harness := (true, "e61d4ed7383571d1f24c8b0cef65b2dadec2063d636ca53828b1239a54e5c781"), looks := true }, kinds := [], alts := [], laidByText := true, laidKinds := [.data, .data, .data, .sentinel, .sentinel], laidTests := true, laidLooks := .later }
def NatOrdersUptoCardSaid : Prop := Claim7.holds Tryd.pinned (.plain (OpenSpec.upto natOrdersSpec)) natOrdersUptoCard

/-- THE SECOND FORM's CARD OF 'gridhallkeep1.NatRoots'. -/
def natRootsUptoCard : Claim7 := { stood := { row := natRootsUptoRow, standIns := [], harness := (true, "e61d4ed7383571d1f24c8b0cef65b2dadec2063d636ca53828b1239a54e5c781"), looks := true }, kinds := [], alts := [], laidByText := true, laidKinds := [.data, .data, .data, .sentinel, .sentinel], laidTests := true, laidLooks := .later }
def NatRootsUptoCardSaid : Prop := Claim7.holds Tryd.pinned (.plain (OpenSpec.upto natRootsSpec)) natRootsUptoCard

/-- THE SECOND FORM's CARD OF 'gridhallkeep1.NatPowersAdd'. -/
def natPowersAddUptoCard : Claim7 := { stood := { row := natPowersAddUptoRow, standIns := [], harness := (true, "e61d4ed7383571d1f24c8b0cef65b2dadec2063d636ca53828b1239a54e5c781"), looks := true }, kinds := [], alts := [], laidByText := true, laidKinds := [.data, .data, .data, .sentinel, .sentinel], laidTests := true, laidLooks := .later }
def NatPowersAddUptoCardSaid : Prop := Claim7.holds Tryd.pinned (.plain (OpenSpec.upto natPowersAddSpec)) natPowersAddUptoCard
end Rows
end Go.Proofs.YtpbdlmjfjkfphaaDoor
