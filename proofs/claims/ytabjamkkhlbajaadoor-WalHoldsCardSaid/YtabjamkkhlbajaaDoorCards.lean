/-
  DERIVED. GIVEN WITH THE SEED: THE CARDS: each row of YtabjamkkhlbajaaDoorRows.lean that lists a variable, with what it lists TIED to the program's text (the seventh form; the later family's looks); each row that meets fmt, with fmt's text TOLD by the authors' own Lean function (tested against real Go, not proved from fmt's source: count such statements apart). THE CARD IS WHAT COUNTS. Prove the row's statement (the work); the ties are given (YtabjamkkhlbajaaDoorTie.lean); close each card by the builder's one call (the guide's Derived/Test/ToyasCard.lean, 'card_holds'). Laid BY PROGRAM, IN A SANDBOX (cutbox-door.mjs). By AI agents, Wed Nov 11 2026. No macro, syntax, notation, axiom, sorry.
-/
import Derived.Test.YtabjamkkhlbajaaDoorRows
import GoSem.ClaimSeven
namespace Go.Proofs.YtabjamkkhlbajaaDoor
namespace Rows

/-- THE TIED CARD OF 'tallyhouselaw04.WalNothing'. -/
def walNothingCard : Claim7 := { stood := { row := walNothingRow, standIns := [], harness := (true, "0fa2e841b9d111fc3e44cf6074a366bb1855bc24d37f9ca1c1ed23fded609f5c"), looks := false }, kinds := [], alts := [], laidByText := true, laidKinds := [.widerDeep, .data, .data], laidTests := true, laidLooks := .later }
def WalNothingCardSaid : Prop := Claim7.holds Tryd.pinned (.plain (OpenSpec.ofChange walNothingSpec)) walNothingCard

/-- THE TIED CARD OF 'tallyhouselaw04.WalSides'. -/
def walSidesCard : Claim7 := { stood := { row := walSidesRow, standIns := [], harness := (true, "0fa2e841b9d111fc3e44cf6074a366bb1855bc24d37f9ca1c1ed23fded609f5c"), looks := false }, kinds := [], alts := [], laidByText := true, laidKinds := [.widerDeep, .data, .data], laidTests := true, laidLooks := .later }
def WalSidesCardSaid : Prop := Claim7.holds Tryd.pinned (.plain (OpenSpec.ofChange walSidesSpec)) walSidesCard

/-- THE TIED CARD OF 'tallyhouselaw04.WalTold'. -/
def walToldCard : Claim7 := { stood := { row := walToldRow, standIns := [], harness := (true, "0fa2e841b9d111fc3e44cf6074a366bb1855bc24d37f9ca1c1ed23fded609f5c"), looks := false }, kinds := [], alts := [], laidByText := true, laidKinds := [.widerDeep, .data, .data], laidTests := true, laidLooks := .later }
def WalToldCardSaid : Prop := Claim7.holds Tryd.pinned (.plain (OpenSpec.ofChange walToldSpec)) walToldCard

/-- THE TIED CARD OF 'tallyhouselaw04.WalHolds'. -/
def walHoldsCard : Claim7 := { stood := { row := walHoldsRow, standIns := [], harness := (true, "0fa2e841b9d111fc3e44cf6074a366bb1855bc24d37f9ca1c1ed23fded609f5c"), looks := false }, kinds := [], alts := [], laidByText := true, laidKinds := [.widerDeep, .data, .data], laidTests := true, laidLooks := .later }
def WalHoldsCardSaid : Prop := Claim7.holds Tryd.pinned (.plain (OpenSpec.ofChange walHoldsSpec)) walHoldsCard

/-- THE SECOND FORM's CARD OF 'tallyhouselaw04.WalNothing'. -/
def walNothingUptoCard : Claim7 := { stood := { row := walNothingUptoRow, standIns := [], harness := (true, "0fa2e841b9d111fc3e44cf6074a366bb1855bc24d37f9ca1c1ed23fded609f5c"), looks := false }, kinds := [], alts := [], laidByText := true, laidKinds := [.widerDeep, .data, .data], laidTests := true, laidLooks := .later }
def WalNothingUptoCardSaid : Prop := Claim7.holds Tryd.pinned (.plain (OpenSpec.upto walNothingSpec)) walNothingUptoCard

/-- THE SECOND FORM's CARD OF 'tallyhouselaw04.WalSides'. -/
def walSidesUptoCard : Claim7 := { stood := { row := walSidesUptoRow, standIns := [], harness := (true, "0fa2e841b9d111fc3e44cf6074a366bb1855bc24d37f9ca1c1ed23fded609f5c"), looks := false }, kinds := [], alts := [], laidByText := true, laidKinds := [.widerDeep, .data, .data], laidTests := true, laidLooks := .later }
def WalSidesUptoCardSaid : Prop := Claim7.holds Tryd.pinned (.plain (OpenSpec.upto walSidesSpec)) walSidesUptoCard

/-- THE SECOND FORM's CARD OF 'tallyhouselaw04.WalTold'. -/
def walToldUptoCard : Claim7 := { stood := { row := walToldUptoRow, standIns := [], harness := (true, "0fa2e841b9d111fc3e44cf6074a366bb1855bc24d37f9ca1c1ed23fded609f5c"), looks := false }, kinds := [], alts := [], laidByText := true, laidKinds := [.widerDeep, .data, .data], laidTests := true, laidLooks := .later }
def WalToldUptoCardSaid : Prop := Claim7.holds Tryd.pinned (.plain (OpenSpec.upto walToldSpec)) walToldUptoCard

/-- THE SECOND FORM's CARD OF 'tallyhouselaw04.WalHolds'. -/
def walHoldsUptoCard : Claim7 := { stood := { row := walHoldsUptoRow, standIns := [], harness := (true, "0fa2e841b9d111fc3e44cf6074a366bb1855bc24d37f9ca1c1ed23fded609f5c"), looks := false }, kinds := [], alts := [], laidByText := true, laidKinds := [.widerDeep, .data, .data], laidTests := true, laidLooks := .later }
def WalHoldsUptoCardSaid : Prop := Claim7.holds Tryd.pinned (.plain (OpenSpec.upto walHoldsSpec)) walHoldsUptoCard
end Rows
end Go.Proofs.YtabjamkkhlbajaaDoor
