/-
  DERIVED. GIVEN WITH THE SEED: THE CARDS: each row of YtnkegapccacndaaGreatDoorRows.lean that lists a variable, with what it lists TIED to the program's text (the seventh form; the later family's looks); each row that meets fmt, with fmt's text TOLD by the authors' own Lean function (tested against real Go, not proved from fmt's source: count such statements apart). THE CARD IS WHAT COUNTS. Prove the row's statement (the work); the ties are given (YtnkegapccacndaaGreatDoorTie.lean); close each card by the builder's one call (the guide's Derived/Test/ToyasCard.lean, 'card_holds'). Laid BY PROGRAM, IN A SANDBOX (cutbox-door.mjs). By AI agents, Wed Nov 11 2026. No macro, syntax, notation, axiom, sorry.
-/
import Derived.Test.YtnkegapccacndaaGreatDoorRows
import GoSem.ClaimSeven
namespace Go.Proofs.YtnkegapccacndaaGreatDoor
namespace Rows

/-- THE TIED CARD OF 'rainbooklaw.WorldRuns'. -/
def worldRunsCard : Claim7 := { stood := { row := worldRunsRow, standIns := [], harness := (true, "fd5058a5286d32271cdb1a7a369f7a187e9a9b837220eb930f5496108c1ea2be"), looks := true }, kinds := [], alts := [], laidByText := true, laidKinds := [.data, .data, .data, .data, .sentinel, .sentinel, .pinned], laidTests := true, laidLooks := .later }
def WorldRunsCardSaid : Prop := Claim7.holds Tryz.pinned (.plain (OpenSpec.ofChange worldRunsSpec)) worldRunsCard

/-- THE TIED CARD OF 'rainbooklaw.WorldDoes'. -/
def worldDoesCard : Claim7 := { stood := { row := worldDoesRow, standIns := [], harness := (true, "fd5058a5286d32271cdb1a7a369f7a187e9a9b837220eb930f5496108c1ea2be"), looks := true }, kinds := [], alts := [], laidByText := true, laidKinds := [.data, .data, .data, .data, .sentinel, .sentinel, .pinned], laidTests := true, laidLooks := .later }
def WorldDoesCardSaid : Prop := Claim7.holds Tryz.pinned (.plain (OpenSpec.ofChange worldDoesSpec)) worldDoesCard

/-- THE TIED CARD OF 'rainbooklaw.StoreParts'. -/
def storePartsCard : Claim7 := { stood := { row := storePartsRow, standIns := [], harness := (true, "fd5058a5286d32271cdb1a7a369f7a187e9a9b837220eb930f5496108c1ea2be"), looks := true }, kinds := [], alts := [], laidByText := true, laidKinds := [.data, .data, .data, .data, .sentinel, .sentinel, .pinned], laidTests := true, laidLooks := .later }
def StorePartsCardSaid : Prop := Claim7.holds Tryz.pinned (.plain (OpenSpec.ofChange storePartsSpec)) storePartsCard

/-- THE TIED CARD OF 'rainbooklaw.WorldParts'. -/
def worldPartsCard : Claim7 := { stood := { row := worldPartsRow, standIns := [], harness := (true, "fd5058a5286d32271cdb1a7a369f7a187e9a9b837220eb930f5496108c1ea2be"), looks := true }, kinds := [], alts := [], laidByText := true, laidKinds := [.data, .data, .data, .data, .sentinel, .sentinel, .pinned], laidTests := true, laidLooks := .later }
def WorldPartsCardSaid : Prop := Claim7.holds Tryz.pinned (.plain (OpenSpec.ofChange worldPartsSpec)) worldPartsCard

/-- THE TIED CARD OF 'rainbooklaw.StoryGrows'. -/
def storyGrowsCard : Claim7 := { stood := { row := storyGrowsRow, standIns := [], harness := (true, "fd5058a5286d32271cdb1a7a369f7a187e9a9b837220eb930f5496108c1ea2be"), looks := true }, kinds := [], alts := [], laidByText := true, laidKinds := [.data, .data, .data, .data, .sentinel, .sentinel, .pinned], laidTests := true, laidLooks := .later }
def StoryGrowsCardSaid : Prop := Claim7.holds Tryz.pinned (.plain (OpenSpec.ofChange storyGrowsSpec)) storyGrowsCard

/-- THE TIED CARD OF 'rainbooklaw.StoryWhole'. -/
def storyWholeCard : Claim7 := { stood := { row := storyWholeRow, standIns := [], harness := (true, "fd5058a5286d32271cdb1a7a369f7a187e9a9b837220eb930f5496108c1ea2be"), looks := true }, kinds := [], alts := [], laidByText := true, laidKinds := [.data, .data, .data, .data, .sentinel, .sentinel, .pinned], laidTests := true, laidLooks := .later }
def StoryWholeCardSaid : Prop := Claim7.holds Tryz.pinned (.plain (OpenSpec.ofChange storyWholeSpec)) storyWholeCard

/-- THE TIED CARD OF 'rainbooklaw.WorldSame'. -/
def worldSameCard : Claim7 := { stood := { row := worldSameRow, standIns := [], harness := (true, "fd5058a5286d32271cdb1a7a369f7a187e9a9b837220eb930f5496108c1ea2be"), looks := true }, kinds := [], alts := [], laidByText := true, laidKinds := [.data, .data, .data, .data, .sentinel, .sentinel, .pinned], laidTests := true, laidLooks := .later }
def WorldSameCardSaid : Prop := Claim7.holds Tryz.pinned (.plain (OpenSpec.ofChange worldSameSpec)) worldSameCard

/-- THE TIED CARD OF 'rainbooklaw.WorldSnap'. -/
def worldSnapCard : Claim7 := { stood := { row := worldSnapRow, standIns := [], harness := (true, "fd5058a5286d32271cdb1a7a369f7a187e9a9b837220eb930f5496108c1ea2be"), looks := true }, kinds := [], alts := [], laidByText := true, laidKinds := [.data, .data, .data, .data, .sentinel, .sentinel, .pinned], laidTests := true, laidLooks := .later }
def WorldSnapCardSaid : Prop := Claim7.holds Tryz.pinned (.plain (OpenSpec.ofChange worldSnapSpec)) worldSnapCard

/-- THE TIED CARD OF 'rainbooklaw.StoryRises'. -/
def storyRisesCard : Claim7 := { stood := { row := storyRisesRow, standIns := [], harness := (true, "fd5058a5286d32271cdb1a7a369f7a187e9a9b837220eb930f5496108c1ea2be"), looks := true }, kinds := [], alts := [], laidByText := true, laidKinds := [.data, .data, .data, .data, .sentinel, .sentinel, .pinned], laidTests := true, laidLooks := .later }
def StoryRisesCardSaid : Prop := Claim7.holds Tryz.pinned (.plain (OpenSpec.ofChange storyRisesSpec)) storyRisesCard

/-- THE TIED CARD OF 'rainbooklaw.WorldTorn'. -/
def worldTornCard : Claim7 := { stood := { row := worldTornRow, standIns := [], harness := (true, "fd5058a5286d32271cdb1a7a369f7a187e9a9b837220eb930f5496108c1ea2be"), looks := true }, kinds := [], alts := [], laidByText := true, laidKinds := [.data, .data, .data, .data, .sentinel, .sentinel, .pinned], laidTests := true, laidLooks := .later }
def WorldTornCardSaid : Prop := Claim7.holds Tryz.pinned (.plain (OpenSpec.ofChange worldTornSpec)) worldTornCard

/-- THE TIED CARD OF 'rainbooklaw.WorldStands'. -/
def worldStandsCard : Claim7 := { stood := { row := worldStandsRow, standIns := [], harness := (true, "fd5058a5286d32271cdb1a7a369f7a187e9a9b837220eb930f5496108c1ea2be"), looks := true }, kinds := [], alts := [], laidByText := true, laidKinds := [.data, .data, .data, .data, .sentinel, .sentinel, .pinned], laidTests := true, laidLooks := .later }
def WorldStandsCardSaid : Prop := Claim7.holds Tryz.pinned (.plain (OpenSpec.ofChange worldStandsSpec)) worldStandsCard

/-- THE TIED CARD OF 'rainbooklaw.StorySays'. -/
def storySaysCard : Claim7 := { stood := { row := storySaysRow, standIns := [], harness := (true, "fd5058a5286d32271cdb1a7a369f7a187e9a9b837220eb930f5496108c1ea2be"), looks := true }, kinds := [], alts := [], laidByText := true, laidKinds := [.data, .data, .data, .data, .sentinel, .sentinel, .pinned], laidTests := true, laidLooks := .later }
def StorySaysCardSaid : Prop := Claim7.holds Tryz.pinned (.plain (OpenSpec.ofChange storySaysSpec)) storySaysCard

/-- THE TIED CARD OF 'rainbooklaw.WorldReads'. -/
def worldReadsCard : Claim7 := { stood := { row := worldReadsRow, standIns := [], harness := (true, "fd5058a5286d32271cdb1a7a369f7a187e9a9b837220eb930f5496108c1ea2be"), looks := true }, kinds := [], alts := [], laidByText := true, laidKinds := [.data, .data, .data, .data, .sentinel, .sentinel, .pinned], laidTests := true, laidLooks := .later }
def WorldReadsCardSaid : Prop := Claim7.holds Tryz.pinned (.plain (OpenSpec.ofChange worldReadsSpec)) worldReadsCard

/-- THE TIED CARD OF 'rainbooklaw.StoryReaders'. -/
def storyReadersCard : Claim7 := { stood := { row := storyReadersRow, standIns := [], harness := (true, "fd5058a5286d32271cdb1a7a369f7a187e9a9b837220eb930f5496108c1ea2be"), looks := true }, kinds := [], alts := [], laidByText := true, laidKinds := [.data, .data, .data, .data, .sentinel, .sentinel, .pinned], laidTests := true, laidLooks := .later }
def StoryReadersCardSaid : Prop := Claim7.holds Tryz.pinned (.plain (OpenSpec.ofChange storyReadersSpec)) storyReadersCard

/-- THE SECOND FORM's CARD OF 'rainbooklaw.WorldRuns'. -/
def worldRunsUptoCard : Claim7 := { stood := { row := worldRunsUptoRow, standIns := [], harness := (true, "fd5058a5286d32271cdb1a7a369f7a187e9a9b837220eb930f5496108c1ea2be"), looks := true }, kinds := [], alts := [], laidByText := true, laidKinds := [.data, .data, .data, .data, .sentinel, .sentinel, .pinned], laidTests := true, laidLooks := .later }
def WorldRunsUptoCardSaid : Prop := Claim7.holds Tryz.pinned (.plain (OpenSpec.upto worldRunsSpec)) worldRunsUptoCard

/-- THE SECOND FORM's CARD OF 'rainbooklaw.WorldDoes'. -/
def worldDoesUptoCard : Claim7 := { stood := { row := worldDoesUptoRow, standIns := [], harness := (true, "fd5058a5286d32271cdb1a7a369f7a187e9a9b837220eb930f5496108c1ea2be"), looks := true }, kinds := [], alts := [], laidByText := true, laidKinds := [.data, .data, .data, .data, .sentinel, .sentinel, .pinned], laidTests := true, laidLooks := .later }
def WorldDoesUptoCardSaid : Prop := Claim7.holds Tryz.pinned (.plain (OpenSpec.upto worldDoesSpec)) worldDoesUptoCard

/-- THE SECOND FORM's CARD OF 'rainbooklaw.StoreParts'. -/
def storePartsUptoCard : Claim7 := { stood := { row := storePartsUptoRow, standIns := [], harness := (true, "fd5058a5286d32271cdb1a7a369f7a187e9a9b837220eb930f5496108c1ea2be"), looks := true }, kinds := [], alts := [], laidByText := true, laidKinds := [.data, .data, .data, .data, .sentinel, .sentinel, .pinned], laidTests := true, laidLooks := .later }
def StorePartsUptoCardSaid : Prop := Claim7.holds Tryz.pinned (.plain (OpenSpec.upto storePartsSpec)) storePartsUptoCard

/-- THE SECOND FORM's CARD OF 'rainbooklaw.WorldParts'. -/
def worldPartsUptoCard : Claim7 := { stood := { row := worldPartsUptoRow, standIns := [], harness := (true, "fd5058a5286d32271cdb1a7a369f7a187e9a9b837220eb930f5496108c1ea2be"), looks := true }, kinds := [], alts := [], laidByText := true, laidKinds := [.data, .data, .data, .data, .sentinel, .sentinel, .pinned], laidTests := true, laidLooks := .later }
def WorldPartsUptoCardSaid : Prop := Claim7.holds Tryz.pinned (.plain (OpenSpec.upto worldPartsSpec)) worldPartsUptoCard

/-- THE SECOND FORM's CARD OF 'rainbooklaw.StoryGrows'. -/
def storyGrowsUptoCard : Claim7 := { stood := { row := storyGrowsUptoRow, standIns := [], harness := (true, "fd5058a5286d32271cdb1a7a369f7a187e9a9b837220eb930f5496108c1ea2be"), looks := true }, kinds := [], alts := [], laidByText := true, laidKinds := [.data, .data, .data, .data, .sentinel, .sentinel, .pinned], laidTests := true, laidLooks := .later }
def StoryGrowsUptoCardSaid : Prop := Claim7.holds Tryz.pinned (.plain (OpenSpec.upto storyGrowsSpec)) storyGrowsUptoCard

/-- THE SECOND FORM's CARD OF 'rainbooklaw.StoryWhole'. -/
def storyWholeUptoCard : Claim7 := { stood := { row := storyWholeUptoRow, standIns := [], harness := (true, "fd5058a5286d32271cdb1a7a369f7a187e9a9b837220eb930f5496108c1ea2be"), looks := true }, kinds := [], alts := [], laidByText := true, laidKinds := [.data, .data, .data, .data, .sentinel, .sentinel, .pinned], laidTests := true, laidLooks := .later }
def StoryWholeUptoCardSaid : Prop := Claim7.holds Tryz.pinned (.plain (OpenSpec.upto storyWholeSpec)) storyWholeUptoCard

/-- THE SECOND FORM's CARD OF 'rainbooklaw.WorldSame'. -/
def worldSameUptoCard : Claim7 := { stood := { row := worldSameUptoRow, standIns := [], harness := (true, "fd5058a5286d32271cdb1a7a369f7a187e9a9b837220eb930f5496108c1ea2be"), looks := true }, kinds := [], alts := [], laidByText := true, laidKinds := [.data, .data, .data, .data, .sentinel, .sentinel, .pinned], laidTests := true, laidLooks := .later }
def WorldSameUptoCardSaid : Prop := Claim7.holds Tryz.pinned (.plain (OpenSpec.upto worldSameSpec)) worldSameUptoCard

/-- THE SECOND FORM's CARD OF 'rainbooklaw.WorldSnap'. -/
def worldSnapUptoCard : Claim7 := { stood := { row := worldSnapUptoRow, standIns := [], harness := (true, "fd5058a5286d32271cdb1a7a369f7a187e9a9b837220eb930f5496108c1ea2be"), looks := true }, kinds := [], alts := [], laidByText := true, laidKinds := [.data, .data, .data, .data, .sentinel, .sentinel, .pinned], laidTests := true, laidLooks := .later }
def WorldSnapUptoCardSaid : Prop := Claim7.holds Tryz.pinned (.plain (OpenSpec.upto worldSnapSpec)) worldSnapUptoCard

/-- THE SECOND FORM's CARD OF 'rainbooklaw.StoryRises'. -/
def storyRisesUptoCard : Claim7 := { stood := { row := storyRisesUptoRow, standIns := [], harness := (true, "fd5058a5286d32271cdb1a7a369f7a187e9a9b837220eb930f5496108c1ea2be"), looks := true }, kinds := [], alts := [], laidByText := true, laidKinds := [.data, .data, .data, .data, .sentinel, .sentinel, .pinned], laidTests := true, laidLooks := .later }
def StoryRisesUptoCardSaid : Prop := Claim7.holds Tryz.pinned (.plain (OpenSpec.upto storyRisesSpec)) storyRisesUptoCard

/-- THE SECOND FORM's CARD OF 'rainbooklaw.WorldTorn'. -/
def worldTornUptoCard : Claim7 := { stood := { row := worldTornUptoRow, standIns := [], harness := (true, "fd5058a5286d32271cdb1a7a369f7a187e9a9b837220eb930f5496108c1ea2be"), looks := true }, kinds := [], alts := [], laidByText := true, laidKinds := [.data, .data, .data, .data, .sentinel, .sentinel, .pinned], laidTests := true, laidLooks := .later }
def WorldTornUptoCardSaid : Prop := Claim7.holds Tryz.pinned (.plain (OpenSpec.upto worldTornSpec)) worldTornUptoCard

/-- THE SECOND FORM's CARD OF 'rainbooklaw.WorldStands'. -/
def worldStandsUptoCard : Claim7 := { stood := { row := worldStandsUptoRow, standIns := [], harness := (true, "fd5058a5286d32271cdb1a7a369f7a187e9a9b837220eb930f5496108c1ea2be"), looks := true }, kinds := [], alts := [], laidByText := true, laidKinds := [.data, .data, .data, .data, .sentinel, .sentinel, .pinned], laidTests := true, laidLooks := .later }
def WorldStandsUptoCardSaid : Prop := Claim7.holds Tryz.pinned (.plain (OpenSpec.upto worldStandsSpec)) worldStandsUptoCard

/-- THE SECOND FORM's CARD OF 'rainbooklaw.StorySays'. -/
def storySaysUptoCard : Claim7 := { stood := { row := storySaysUptoRow, standIns := [], harness := (true, "fd5058a5286d32271cdb1a7a369f7a187e9a9b837220eb930f5496108c1ea2be"), looks := true }, kinds := [], alts := [], laidByText := true, laidKinds := [.data, .data, .data, .data, .sentinel, .sentinel, .pinned], laidTests := true, laidLooks := .later }
def StorySaysUptoCardSaid : Prop := Claim7.holds Tryz.pinned (.plain (OpenSpec.upto storySaysSpec)) storySaysUptoCard

/-- THE SECOND FORM's CARD OF 'rainbooklaw.WorldReads'. -/
def worldReadsUptoCard : Claim7 := { stood := { row := worldReadsUptoRow, standIns := [], harness := (true, "fd5058a5286d32271cdb1a7a369f7a187e9a9b837220eb930f5496108c1ea2be"), looks := true }, kinds := [], alts := [], laidByText := true, laidKinds := [.data, .data, .data, .data, .sentinel, .sentinel, .pinned], laidTests := true, laidLooks := .later }
def WorldReadsUptoCardSaid : Prop := Claim7.holds Tryz.pinned (.plain (OpenSpec.upto worldReadsSpec)) worldReadsUptoCard

/-- THE SECOND FORM's CARD OF 'rainbooklaw.StoryReaders'. -/
def storyReadersUptoCard : Claim7 := { stood := { row := storyReadersUptoRow, standIns := [], harness := (true, "fd5058a5286d32271cdb1a7a369f7a187e9a9b837220eb930f5496108c1ea2be"), looks := true }, kinds := [], alts := [], laidByText := true, laidKinds := [.data, .data, .data, .data, .sentinel, .sentinel, .pinned], laidTests := true, laidLooks := .later }
def StoryReadersUptoCardSaid : Prop := Claim7.holds Tryz.pinned (.plain (OpenSpec.upto storyReadersSpec)) storyReadersUptoCard
end Rows
end Go.Proofs.YtnkegapccacndaaGreatDoor
