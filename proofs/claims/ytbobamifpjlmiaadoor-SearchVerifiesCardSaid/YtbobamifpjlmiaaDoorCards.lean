/-
  DERIVED. GIVEN WITH THE SEED: THE CARDS: each row of YtbobamifpjlmiaaDoorRows.lean that lists a variable, with what it lists TIED to the program's text (the seventh form; the later family's looks); each row that meets fmt, with fmt's text TOLD by the authors' own Lean function (tested against real Go, not proved from fmt's source: count such statements apart). THE CARD IS WHAT COUNTS. Prove the row's statement (the work); the ties are given (YtbobamifpjlmiaaDoorTie.lean); close each card by the builder's one call (the guide's Derived/Test/ToyasCard.lean, 'card_holds'). Laid BY PROGRAM, IN A SANDBOX (cutbox-door.mjs). By AI agents, Wed Nov 11 2026. No macro, syntax, notation, axiom, sorry.
-/
import Derived.Test.YtbobamifpjlmiaaDoorRows
import GoSem.ClaimSeven
namespace Go.Proofs.YtbobamifpjlmiaaDoor
namespace Rows

/-- THE TIED CARD OF 'tallyhouselaw16.HistoryRoots'. -/
def historyRootsCard : Claim7 := { stood := { row := historyRootsRow, standIns := [], harness := (true, "eaa2440033d0f8540e18c9317346d3a8680fa64b9eb5e130dec7dba073d576f7"), looks := false }, kinds := [], alts := [], laidByText := true, laidKinds := [.widerDeep, .data, .data], laidTests := true, laidLooks := .later }
def HistoryRootsCardSaid : Prop := Claim7.holds Tryd.pinned (.plain (OpenSpec.ofChange historyRootsSpec)) historyRootsCard

/-- THE TIED CARD OF 'tallyhouselaw16.HistoryDigests'. -/
def historyDigestsCard : Claim7 := { stood := { row := historyDigestsRow, standIns := [], harness := (true, "eaa2440033d0f8540e18c9317346d3a8680fa64b9eb5e130dec7dba073d576f7"), looks := false }, kinds := [], alts := [], laidByText := true, laidKinds := [.widerDeep, .data, .data], laidTests := true, laidLooks := .later }
def HistoryDigestsCardSaid : Prop := Claim7.holds Tryd.pinned (.plain (OpenSpec.ofChange historyDigestsSpec)) historyDigestsCard

/-- THE TIED CARD OF 'tallyhouselaw16.HistoryClimbs'. -/
def historyClimbsCard : Claim7 := { stood := { row := historyClimbsRow, standIns := [], harness := (true, "eaa2440033d0f8540e18c9317346d3a8680fa64b9eb5e130dec7dba073d576f7"), looks := false }, kinds := [], alts := [], laidByText := true, laidKinds := [.widerDeep, .data, .data], laidTests := true, laidLooks := .later }
def HistoryClimbsCardSaid : Prop := Claim7.holds Tryd.pinned (.plain (OpenSpec.ofChange historyClimbsSpec)) historyClimbsCard

/-- THE TIED CARD OF 'tallyhouselaw16.HistoryHalves'. -/
def historyHalvesCard : Claim7 := { stood := { row := historyHalvesRow, standIns := [], harness := (true, "eaa2440033d0f8540e18c9317346d3a8680fa64b9eb5e130dec7dba073d576f7"), looks := false }, kinds := [], alts := [], laidByText := true, laidKinds := [.widerDeep, .data, .data], laidTests := true, laidLooks := .later }
def HistoryHalvesCardSaid : Prop := Claim7.holds Tryd.pinned (.plain (OpenSpec.ofChange historyHalvesSpec)) historyHalvesCard

/-- THE TIED CARD OF 'tallyhouselaw16.HistoryProves'. -/
def historyProvesCard : Claim7 := { stood := { row := historyProvesRow, standIns := [], harness := (true, "eaa2440033d0f8540e18c9317346d3a8680fa64b9eb5e130dec7dba073d576f7"), looks := false }, kinds := [], alts := [], laidByText := true, laidKinds := [.widerDeep, .data, .data], laidTests := true, laidLooks := .later }
def HistoryProvesCardSaid : Prop := Claim7.holds Tryd.pinned (.plain (OpenSpec.ofChange historyProvesSpec)) historyProvesCard

/-- THE TIED CARD OF 'tallyhouselaw15.SearchRoots'. -/
def searchRootsCard : Claim7 := { stood := { row := searchRootsRow, standIns := [], harness := (true, "eaa2440033d0f8540e18c9317346d3a8680fa64b9eb5e130dec7dba073d576f7"), looks := false }, kinds := [], alts := [], laidByText := true, laidKinds := [.widerDeep, .data, .data], laidTests := true, laidLooks := .later }
def SearchRootsCardSaid : Prop := Claim7.holds Tryd.pinned (.plain (OpenSpec.ofChange searchRootsSpec)) searchRootsCard

/-- THE TIED CARD OF 'tallyhouselaw15.SearchProves'. -/
def searchProvesCard : Claim7 := { stood := { row := searchProvesRow, standIns := [], harness := (true, "eaa2440033d0f8540e18c9317346d3a8680fa64b9eb5e130dec7dba073d576f7"), looks := false }, kinds := [], alts := [], laidByText := true, laidKinds := [.widerDeep, .data, .data], laidTests := true, laidLooks := .later }
def SearchProvesCardSaid : Prop := Claim7.holds Tryd.pinned (.plain (OpenSpec.ofChange searchProvesSpec)) searchProvesCard

/-- THE TIED CARD OF 'tallyhouselaw15.SearchVerifies'. -/
def searchVerifiesCard : Claim7 := { stood := { row := searchVerifiesRow, standIns := [], harness := (true, "eaa2440033d0f8540e18c9317346d3a8680fa64b9eb5e130dec7dba073d576f7"), looks := false }, kinds := [], alts := [], laidByText := true, laidKinds := [.widerDeep, .data, .data], laidTests := true, laidLooks := .later }
def SearchVerifiesCardSaid : Prop := Claim7.holds Tryd.pinned (.plain (OpenSpec.ofChange searchVerifiesSpec)) searchVerifiesCard

/-- THE TIED CARD OF 'tallyhouselaw15.SearchDigests'. -/
def searchDigestsCard : Claim7 := { stood := { row := searchDigestsRow, standIns := [], harness := (true, "eaa2440033d0f8540e18c9317346d3a8680fa64b9eb5e130dec7dba073d576f7"), looks := false }, kinds := [], alts := [], laidByText := true, laidKinds := [.widerDeep, .data, .data], laidTests := true, laidLooks := .later }
def SearchDigestsCardSaid : Prop := Claim7.holds Tryd.pinned (.plain (OpenSpec.ofChange searchDigestsSpec)) searchDigestsCard

/-- THE TIED CARD OF 'tallyhouselaw15.SearchBack'. -/
def searchBackCard : Claim7 := { stood := { row := searchBackRow, standIns := [], harness := (true, "eaa2440033d0f8540e18c9317346d3a8680fa64b9eb5e130dec7dba073d576f7"), looks := false }, kinds := [], alts := [], laidByText := true, laidKinds := [.widerDeep, .data, .data], laidTests := true, laidLooks := .later }
def SearchBackCardSaid : Prop := Claim7.holds Tryd.pinned (.plain (OpenSpec.ofChange searchBackSpec)) searchBackCard

/-- THE TIED CARD OF 'tallyhouselaw16.HistoryGrowths'. -/
def historyGrowthsCard : Claim7 := { stood := { row := historyGrowthsRow, standIns := [], harness := (true, "eaa2440033d0f8540e18c9317346d3a8680fa64b9eb5e130dec7dba073d576f7"), looks := false }, kinds := [], alts := [], laidByText := true, laidKinds := [.widerDeep, .data, .data], laidTests := true, laidLooks := .later }
def HistoryGrowthsCardSaid : Prop := Claim7.holds Tryd.pinned (.plain (OpenSpec.ofChange historyGrowthsSpec)) historyGrowthsCard

/-- THE TIED CARD OF 'tallyhouselaw16.HistoryGrows'. -/
def historyGrowsCard : Claim7 := { stood := { row := historyGrowsRow, standIns := [], harness := (true, "eaa2440033d0f8540e18c9317346d3a8680fa64b9eb5e130dec7dba073d576f7"), looks := false }, kinds := [], alts := [], laidByText := true, laidKinds := [.widerDeep, .data, .data], laidTests := true, laidLooks := .later }
def HistoryGrowsCardSaid : Prop := Claim7.holds Tryd.pinned (.plain (OpenSpec.ofChange historyGrowsSpec)) historyGrowsCard

/-- THE SECOND FORM's CARD OF 'tallyhouselaw16.HistoryRoots'. -/
def historyRootsUptoCard : Claim7 := { stood := { row := historyRootsUptoRow, standIns := [], harness := (true, "eaa2440033d0f8540e18c9317346d3a8680fa64b9eb5e130dec7dba073d576f7"), looks := false }, kinds := [], alts := [], laidByText := true, laidKinds := [.widerDeep, .data, .data], laidTests := true, laidLooks := .later }
def HistoryRootsUptoCardSaid : Prop := Claim7.holds Tryd.pinned (.plain (OpenSpec.upto historyRootsSpec)) historyRootsUptoCard

/-- THE SECOND FORM's CARD OF 'tallyhouselaw16.HistoryDigests'. -/
def historyDigestsUptoCard : Claim7 := { stood := { row := historyDigestsUptoRow, standIns := [], harness := (true, "eaa2440033d0f8540e18c9317346d3a8680fa64b9eb5e130dec7dba073d576f7"), looks := false }, kinds := [], alts := [], laidByText := true, laidKinds := [.widerDeep, .data, .data], laidTests := true, laidLooks := .later }
def HistoryDigestsUptoCardSaid : Prop := Claim7.holds Tryd.pinned (.plain (OpenSpec.upto historyDigestsSpec)) historyDigestsUptoCard

/-- THE SECOND FORM's CARD OF 'tallyhouselaw16.HistoryClimbs'. -/
def historyClimbsUptoCard : Claim7 := { stood := { row := historyClimbsUptoRow, standIns := [], harness := (true, "eaa2440033d0f8540e18c9317346d3a8680fa64b9eb5e130dec7dba073d576f7"), looks := false }, kinds := [], alts := [], laidByText := true, laidKinds := [.widerDeep, .data, .data], laidTests := true, laidLooks := .later }
def HistoryClimbsUptoCardSaid : Prop := Claim7.holds Tryd.pinned (.plain (OpenSpec.upto historyClimbsSpec)) historyClimbsUptoCard

/-- THE SECOND FORM's CARD OF 'tallyhouselaw16.HistoryHalves'. -/
def historyHalvesUptoCard : Claim7 := { stood := { row := historyHalvesUptoRow, standIns := [], harness := (true, "eaa2440033d0f8540e18c9317346d3a8680fa64b9eb5e130dec7dba073d576f7"), looks := false }, kinds := [], alts := [], laidByText := true, laidKinds := [.widerDeep, .data, .data], laidTests := true, laidLooks := .later }
def HistoryHalvesUptoCardSaid : Prop := Claim7.holds Tryd.pinned (.plain (OpenSpec.upto historyHalvesSpec)) historyHalvesUptoCard

/-- THE SECOND FORM's CARD OF 'tallyhouselaw16.HistoryProves'. -/
def historyProvesUptoCard : Claim7 := { stood := { row := historyProvesUptoRow, standIns := [], harness := (true, "eaa2440033d0f8540e18c9317346d3a8680fa64b9eb5e130dec7dba073d576f7"), looks := false }, kinds := [], alts := [], laidByText := true, laidKinds := [.widerDeep, .data, .data], laidTests := true, laidLooks := .later }
def HistoryProvesUptoCardSaid : Prop := Claim7.holds Tryd.pinned (.plain (OpenSpec.upto historyProvesSpec)) historyProvesUptoCard

/-- THE SECOND FORM's CARD OF 'tallyhouselaw15.SearchRoots'. -/
def searchRootsUptoCard : Claim7 := { stood := { row := searchRootsUptoRow, standIns := [], harness := (true, "eaa2440033d0f8540e18c9317346d3a8680fa64b9eb5e130dec7dba073d576f7"), looks := false }, kinds := [], alts := [], laidByText := true, laidKinds := [.widerDeep, .data, .data], laidTests := true, laidLooks := .later }
def SearchRootsUptoCardSaid : Prop := Claim7.holds Tryd.pinned (.plain (OpenSpec.upto searchRootsSpec)) searchRootsUptoCard

/-- THE SECOND FORM's CARD OF 'tallyhouselaw15.SearchProves'. -/
def searchProvesUptoCard : Claim7 := { stood := { row := searchProvesUptoRow, standIns := [], harness := (true, "eaa2440033d0f8540e18c9317346d3a8680fa64b9eb5e130dec7dba073d576f7"), looks := false }, kinds := [], alts := [], laidByText := true, laidKinds := [.widerDeep, .data, .data], laidTests := true, laidLooks := .later }
def SearchProvesUptoCardSaid : Prop := Claim7.holds Tryd.pinned (.plain (OpenSpec.upto searchProvesSpec)) searchProvesUptoCard

/-- THE SECOND FORM's CARD OF 'tallyhouselaw15.SearchVerifies'. -/
def searchVerifiesUptoCard : Claim7 := { stood := { row := searchVerifiesUptoRow, standIns := [], harness := (true, "eaa2440033d0f8540e18c9317346d3a8680fa64b9eb5e130dec7dba073d576f7"), looks := false }, kinds := [], alts := [], laidByText := true, laidKinds := [.widerDeep, .data, .data], laidTests := true, laidLooks := .later }
def SearchVerifiesUptoCardSaid : Prop := Claim7.holds Tryd.pinned (.plain (OpenSpec.upto searchVerifiesSpec)) searchVerifiesUptoCard

/-- THE SECOND FORM's CARD OF 'tallyhouselaw15.SearchDigests'. -/
def searchDigestsUptoCard : Claim7 := { stood := { row := searchDigestsUptoRow, standIns := [], harness := (true, "eaa2440033d0f8540e18c9317346d3a8680fa64b9eb5e130dec7dba073d576f7"), looks := false }, kinds := [], alts := [], laidByText := true, laidKinds := [.widerDeep, .data, .data], laidTests := true, laidLooks := .later }
def SearchDigestsUptoCardSaid : Prop := Claim7.holds Tryd.pinned (.plain (OpenSpec.upto searchDigestsSpec)) searchDigestsUptoCard

/-- THE SECOND FORM's CARD OF 'tallyhouselaw15.SearchBack'. -/
def searchBackUptoCard : Claim7 := { stood := { row := searchBackUptoRow, standIns := [], harness := (true, "eaa2440033d0f8540e18c9317346d3a8680fa64b9eb5e130dec7dba073d576f7"), looks := false }, kinds := [], alts := [], laidByText := true, laidKinds := [.widerDeep, .data, .data], laidTests := true, laidLooks := .later }
def SearchBackUptoCardSaid : Prop := Claim7.holds Tryd.pinned (.plain (OpenSpec.upto searchBackSpec)) searchBackUptoCard

/-- THE SECOND FORM's CARD OF 'tallyhouselaw16.HistoryGrowths'. -/
def historyGrowthsUptoCard : Claim7 := { stood := { row := historyGrowthsUptoRow, standIns := [], harness := (true, "eaa2440033d0f8540e18c9317346d3a8680fa64b9eb5e130dec7dba073d576f7"), looks := false }, kinds := [], alts := [], laidByText := true, laidKinds := [.widerDeep, .data, .data], laidTests := true, laidLooks := .later }
def HistoryGrowthsUptoCardSaid : Prop := Claim7.holds Tryd.pinned (.plain (OpenSpec.upto historyGrowthsSpec)) historyGrowthsUptoCard

/-- THE SECOND FORM's CARD OF 'tallyhouselaw16.HistoryGrows'. -/
def historyGrowsUptoCard : Claim7 := { stood := { row := historyGrowsUptoRow, standIns := [], harness := (true, "eaa2440033d0f8540e18c9317346d3a8680fa64b9eb5e130dec7dba073d576f7"), looks := false }, kinds := [], alts := [], laidByText := true, laidKinds := [.widerDeep, .data, .data], laidTests := true, laidLooks := .later }
def HistoryGrowsUptoCardSaid : Prop := Claim7.holds Tryd.pinned (.plain (OpenSpec.upto historyGrowsSpec)) historyGrowsUptoCard
end Rows
end Go.Proofs.YtbobamifpjlmiaaDoor
