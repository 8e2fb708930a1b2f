/-
  DERIVED. GIVEN WITH THE SEED: THE CARDS: each row of YtcdocklbpfdmeaaDoorRows.lean that lists a variable, with what it lists TIED to the program's text (the seventh form; the later family's looks); each row that meets fmt, with fmt's text TOLD by the authors' own Lean function (tested against real Go, not proved from fmt's source: count such statements apart). THE CARD IS WHAT COUNTS. Prove the row's statement (the work); the ties are given (YtcdocklbpfdmeaaDoorTie.lean); close each card by the builder's one call (the guide's Derived/Test/ToyasCard.lean, 'card_holds'). Laid BY PROGRAM, IN A SANDBOX (cutbox-door.mjs). By AI agents, Wed Nov 11 2026. No macro, syntax, notation, axiom, sorry.
-/
import Derived.Test.YtcdocklbpfdmeaaDoorRows
import GoSem.ClaimSeven
namespace Go.Proofs.YtcdocklbpfdmeaaDoor
namespace Rows

/-- THE TIED CARD OF 'tallyhouselaw18.CollideRange'. -/
def collideRangeCard : Claim7 := { stood := { row := collideRangeRow, standIns := [], harness := (true, "0a516b6d580772f46523b88f3caee5c54000ba24dfb04cae8c5e14e996520b08"), looks := true }, kinds := [], alts := [], laidByText := true, laidKinds := [.widerDeep, .data, .data], laidTests := true, laidLooks := .later }
def CollideRangeCardSaid : Prop := Claim7.holds Tryd.pinned (.plain (OpenSpec.ofChange collideRangeSpec)) collideRangeCard

/-- THE TIED CARD OF 'tallyhouselaw18.CollideDigests'. -/
def collideDigestsCard : Claim7 := { stood := { row := collideDigestsRow, standIns := [], harness := (true, "0a516b6d580772f46523b88f3caee5c54000ba24dfb04cae8c5e14e996520b08"), looks := true }, kinds := [], alts := [], laidByText := true, laidKinds := [.widerDeep, .data, .data], laidTests := true, laidLooks := .later }
def CollideDigestsCardSaid : Prop := Claim7.holds Tryd.pinned (.plain (OpenSpec.ofChange collideDigestsSpec)) collideDigestsCard

/-- THE TIED CARD OF 'tallyhouselaw18.CollideClaims'. -/
def collideClaimsCard : Claim7 := { stood := { row := collideClaimsRow, standIns := [], harness := (true, "0a516b6d580772f46523b88f3caee5c54000ba24dfb04cae8c5e14e996520b08"), looks := true }, kinds := [], alts := [], laidByText := true, laidKinds := [.widerDeep, .data, .data], laidTests := true, laidLooks := .later }
def CollideClaimsCardSaid : Prop := Claim7.holds Tryd.pinned (.plain (OpenSpec.ofChange collideClaimsSpec)) collideClaimsCard

/-- THE TIED CARD OF 'tallyhouselaw18.CollideGrowths'. -/
def collideGrowthsCard : Claim7 := { stood := { row := collideGrowthsRow, standIns := [], harness := (true, "0a516b6d580772f46523b88f3caee5c54000ba24dfb04cae8c5e14e996520b08"), looks := true }, kinds := [], alts := [], laidByText := true, laidKinds := [.widerDeep, .data, .data], laidTests := true, laidLooks := .later }
def CollideGrowthsCardSaid : Prop := Claim7.holds Tryd.pinned (.plain (OpenSpec.ofChange collideGrowthsSpec)) collideGrowthsCard

/-- THE TIED CARD OF 'tallyhouselaw18.CollideRoots'. -/
def collideRootsCard : Claim7 := { stood := { row := collideRootsRow, standIns := [], harness := (true, "0a516b6d580772f46523b88f3caee5c54000ba24dfb04cae8c5e14e996520b08"), looks := true }, kinds := [], alts := [], laidByText := true, laidKinds := [.widerDeep, .data, .data], laidTests := true, laidLooks := .later }
def CollideRootsCardSaid : Prop := Claim7.holds Tryd.pinned (.plain (OpenSpec.ofChange collideRootsSpec)) collideRootsCard

/-- THE TIED CARD OF 'tallyhouselaw18.CollideLeaf'. -/
def collideLeafCard : Claim7 := { stood := { row := collideLeafRow, standIns := [], harness := (true, "0a516b6d580772f46523b88f3caee5c54000ba24dfb04cae8c5e14e996520b08"), looks := true }, kinds := [], alts := [], laidByText := true, laidKinds := [.widerDeep, .data, .data], laidTests := true, laidLooks := .later }
def CollideLeafCardSaid : Prop := Claim7.holds Tryd.pinned (.plain (OpenSpec.ofChange collideLeafSpec)) collideLeafCard

/-- THE TIED CARD OF 'tallyhouselaw18.CollideSpans'. -/
def collideSpansCard : Claim7 := { stood := { row := collideSpansRow, standIns := [], harness := (true, "0a516b6d580772f46523b88f3caee5c54000ba24dfb04cae8c5e14e996520b08"), looks := true }, kinds := [], alts := [], laidByText := true, laidKinds := [.widerDeep, .data, .data], laidTests := true, laidLooks := .later }
def CollideSpansCardSaid : Prop := Claim7.holds Tryd.pinned (.plain (OpenSpec.ofChange collideSpansSpec)) collideSpansCard

/-- THE TIED CARD OF 'tallyhouselaw18.CollideOld'. -/
def collideOldCard : Claim7 := { stood := { row := collideOldRow, standIns := [], harness := (true, "0a516b6d580772f46523b88f3caee5c54000ba24dfb04cae8c5e14e996520b08"), looks := true }, kinds := [], alts := [], laidByText := true, laidKinds := [.widerDeep, .data, .data], laidTests := true, laidLooks := .later }
def CollideOldCardSaid : Prop := Claim7.holds Tryd.pinned (.plain (OpenSpec.ofChange collideOldSpec)) collideOldCard

/-- THE SECOND FORM's CARD OF 'tallyhouselaw18.CollideRange'. -/
def collideRangeUptoCard : Claim7 := { stood := { row := collideRangeUptoRow, standIns := [], harness := (true, "0a516b6d580772f46523b88f3caee5c54000ba24dfb04cae8c5e14e996520b08"), looks := true }, kinds := [], alts := [], laidByText := true, laidKinds := [.widerDeep, .data, .data], laidTests := true, laidLooks := .later }
def CollideRangeUptoCardSaid : Prop := Claim7.holds Tryd.pinned (.plain (OpenSpec.upto collideRangeSpec)) collideRangeUptoCard

/-- THE SECOND FORM's CARD OF 'tallyhouselaw18.CollideDigests'. -/
def collideDigestsUptoCard : Claim7 := { stood := { row := collideDigestsUptoRow, standIns := [], harness := (true, "0a516b6d580772f46523b88f3caee5c54000ba24dfb04cae8c5e14e996520b08"), looks := true }, kinds := [], alts := [], laidByText := true, laidKinds := [.widerDeep, .data, .data], laidTests := true, laidLooks := .later }
def CollideDigestsUptoCardSaid : Prop := Claim7.holds Tryd.pinned (.plain (OpenSpec.upto collideDigestsSpec)) collideDigestsUptoCard

/-- THE SECOND FORM's CARD OF 'tallyhouselaw18.CollideClaims'. -/
def collideClaimsUptoCard : Claim7 := { stood := { row := collideClaimsUptoRow, standIns := [], harness := (true, "0a516b6d580772f46523b88f3caee5c54000ba24dfb04cae8c5e14e996520b08"), looks := true }, kinds := [], alts := [], laidByText := true, laidKinds := [.widerDeep, .data, .data], laidTests := true, laidLooks := .later }
def CollideClaimsUptoCardSaid : Prop := Claim7.holds Tryd.pinned (.plain (OpenSpec.upto collideClaimsSpec)) collideClaimsUptoCard

/-- THE SECOND FORM's CARD OF 'tallyhouselaw18.CollideGrowths'. -/
def collideGrowthsUptoCard : Claim7 := { stood := { row := collideGrowthsUptoRow, standIns := [], harness := (true, "0a516b6d580772f46523b88f3caee5c54000ba24dfb04cae8c5e14e996520b08"), looks := true }, kinds := [], alts := [], laidByText := true, laidKinds := [.widerDeep, .data, .data], laidTests := true, laidLooks := .later }
def CollideGrowthsUptoCardSaid : Prop := Claim7.holds Tryd.pinned (.plain (OpenSpec.upto collideGrowthsSpec)) collideGrowthsUptoCard

/-- THE SECOND FORM's CARD OF 'tallyhouselaw18.CollideRoots'. -/
def collideRootsUptoCard : Claim7 := { stood := { row := collideRootsUptoRow, standIns := [], harness := (true, "0a516b6d580772f46523b88f3caee5c54000ba24dfb04cae8c5e14e996520b08"), looks := true }, kinds := [], alts := [], laidByText := true, laidKinds := [.widerDeep, .data, .data], laidTests := true, laidLooks := .later }
def CollideRootsUptoCardSaid : Prop := Claim7.holds Tryd.pinned (.plain (OpenSpec.upto collideRootsSpec)) collideRootsUptoCard

/-- THE SECOND FORM's CARD OF 'tallyhouselaw18.CollideLeaf'. -/
def collideLeafUptoCard : Claim7 := { stood := { row := collideLeafUptoRow, standIns := [], harness := (true, "0a516b6d580772f46523b88f3caee5c54000ba24dfb04cae8c5e14e996520b08"), looks := true }, kinds := [], alts := [], laidByText := true, laidKinds := [.widerDeep, .data, .data], laidTests := true, laidLooks := .later }
def CollideLeafUptoCardSaid : Prop := Claim7.holds Tryd.pinned (.plain (OpenSpec.upto collideLeafSpec)) collideLeafUptoCard

/-- THE SECOND FORM's CARD OF 'tallyhouselaw18.CollideSpans'. -/
def collideSpansUptoCard : Claim7 := { stood := { row := collideSpansUptoRow, standIns := [], harness := (true, "0a516b6d580772f46523b88f3caee5c54000ba24dfb04cae8c5e14e996520b08"), looks := true }, kinds := [], alts := [], laidByText := true, laidKinds := [.widerDeep, .data, .data], laidTests := true, laidLooks := .later }
def CollideSpansUptoCardSaid : Prop := Claim7.holds Tryd.pinned (.plain (OpenSpec.upto collideSpansSpec)) collideSpansUptoCard

/-- THE SECOND FORM's CARD OF 'tallyhouselaw18.CollideOld'. -/
def collideOldUptoCard : Claim7 := { stood := { row := collideOldUptoRow, standIns := [], harness := (true, "0a516b6d580772f46523b88f3caee5c54000ba24dfb04cae8c5e14e996520b08"), looks := true }, kinds := [], alts := [], laidByText := true, laidKinds := [.widerDeep, .data, .data], laidTests := true, laidLooks := .later }
def CollideOldUptoCardSaid : Prop := Claim7.holds Tryd.pinned (.plain (OpenSpec.upto collideOldSpec)) collideOldUptoCard
end Rows
end Go.Proofs.YtcdocklbpfdmeaaDoor
