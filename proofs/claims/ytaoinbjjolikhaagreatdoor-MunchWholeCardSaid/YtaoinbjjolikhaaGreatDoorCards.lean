/-
  DERIVED. GIVEN WITH THE SEED: THE CARDS: each row of YtaoinbjjolikhaaGreatDoorRows.lean that lists a variable, with what it lists TIED to the program's text (the seventh form; the later family's looks); each row that meets fmt, with fmt's text TOLD by the authors' own Lean function (tested against real Go, not proved from fmt's source: count such statements apart). THE CARD IS WHAT COUNTS. Prove the row's statement (the work); the ties are given (YtaoinbjjolikhaaGreatDoorTie.lean); close each card by the builder's one call (the guide's Derived/Test/ToyasCard.lean, 'card_holds'). Laid BY PROGRAM, IN A SANDBOX (cutbox-door.mjs). By AI agents, Wed Nov 11 2026. No macro, syntax, notation, axiom, sorry.
-/
import Derived.Test.YtaoinbjjolikhaaGreatDoorRows
import GoSem.ClaimSeven
namespace Go.Proofs.YtaoinbjjolikhaaGreatDoor
namespace Rows

/-- THE TIED CARD OF 'doubletlaw33.MunchTokens'. -/
def munchTokensCard : Claim7 := { stood := { row := munchTokensRow, standIns := [], harness := (true, "b6500712820cdc2959f2e7ade07ea5b58638fcd9bd2559eae4d3d33f67680e13"), looks := true }, kinds := [], alts := [], laidByText := true, laidKinds := [.data], laidTests := true, laidLooks := .later }
def MunchTokensCardSaid : Prop := Claim7.holds Tryz.pinned (.plain (OpenSpec.ofChange munchTokensSpec)) munchTokensCard

/-- THE TIED CARD OF 'doubletlaw33.MunchNext'. -/
def munchNextCard : Claim7 := { stood := { row := munchNextRow, standIns := [], harness := (true, "b6500712820cdc2959f2e7ade07ea5b58638fcd9bd2559eae4d3d33f67680e13"), looks := true }, kinds := [], alts := [], laidByText := true, laidKinds := [.data], laidTests := true, laidLooks := .later }
def MunchNextCardSaid : Prop := Claim7.holds Tryz.pinned (.plain (OpenSpec.ofChange munchNextSpec)) munchNextCard

/-- THE TIED CARD OF 'doubletlaw33.MunchNames'. -/
def munchNamesCard : Claim7 := { stood := { row := munchNamesRow, standIns := [], harness := (true, "b6500712820cdc2959f2e7ade07ea5b58638fcd9bd2559eae4d3d33f67680e13"), looks := true }, kinds := [], alts := [], laidByText := true, laidKinds := [.data], laidTests := true, laidLooks := .later }
def MunchNamesCardSaid : Prop := Claim7.holds Tryz.pinned (.plain (OpenSpec.ofChange munchNamesSpec)) munchNamesCard

/-- THE TIED CARD OF 'doubletlaw33.MunchWhole'. -/
def munchWholeCard : Claim7 := { stood := { row := munchWholeRow, standIns := [], harness := (true, "b6500712820cdc2959f2e7ade07ea5b58638fcd9bd2559eae4d3d33f67680e13"), looks := true }, kinds := [], alts := [], laidByText := true, laidKinds := [.data], laidTests := true, laidLooks := .later }
def MunchWholeCardSaid : Prop := Claim7.holds Tryz.pinned (.plain (OpenSpec.ofChange munchWholeSpec)) munchWholeCard

/-- THE TIED CARD OF 'doubletlaw34.StreamFeeds'. -/
def streamFeedsCard : Claim7 := { stood := { row := streamFeedsRow, standIns := [], harness := (true, "b6500712820cdc2959f2e7ade07ea5b58638fcd9bd2559eae4d3d33f67680e13"), looks := true }, kinds := [], alts := [], laidByText := true, laidKinds := [.data], laidTests := true, laidLooks := .later }
def StreamFeedsCardSaid : Prop := Claim7.holds Tryz.pinned (.plain (OpenSpec.ofChange streamFeedsSpec)) streamFeedsCard

/-- THE TIED CARD OF 'doubletlaw34.StreamNil'. -/
def streamNilCard : Claim7 := { stood := { row := streamNilRow, standIns := [], harness := (true, "b6500712820cdc2959f2e7ade07ea5b58638fcd9bd2559eae4d3d33f67680e13"), looks := true }, kinds := [], alts := [], laidByText := true, laidKinds := [.data], laidTests := true, laidLooks := .later }
def StreamNilCardSaid : Prop := Claim7.holds Tryz.pinned (.plain (OpenSpec.ofChange streamNilSpec)) streamNilCard

/-- THE TIED CARD OF 'doubletlaw34.StreamParts'. -/
def streamPartsCard : Claim7 := { stood := { row := streamPartsRow, standIns := [], harness := (true, "b6500712820cdc2959f2e7ade07ea5b58638fcd9bd2559eae4d3d33f67680e13"), looks := true }, kinds := [], alts := [], laidByText := true, laidKinds := [.data], laidTests := true, laidLooks := .later }
def StreamPartsCardSaid : Prop := Claim7.holds Tryz.pinned (.plain (OpenSpec.ofChange streamPartsSpec)) streamPartsCard

/-- THE SECOND FORM's CARD OF 'doubletlaw33.MunchTokens'. -/
def munchTokensUptoCard : Claim7 := { stood := { row := munchTokensUptoRow, standIns := [], harness := (true, "b6500712820cdc2959f2e7ade07ea5b58638fcd9bd2559eae4d3d33f67680e13"), looks := true }, kinds := [], alts := [], laidByText := true, laidKinds := [.data], laidTests := true, laidLooks := .later }
def MunchTokensUptoCardSaid : Prop := Claim7.holds Tryz.pinned (.plain (OpenSpec.upto munchTokensSpec)) munchTokensUptoCard

/-- THE SECOND FORM's CARD OF 'doubletlaw33.MunchNext'. -/
def munchNextUptoCard : Claim7 := { stood := { row := munchNextUptoRow, standIns := [], harness := (true, "b6500712820cdc2959f2e7ade07ea5b58638fcd9bd2559eae4d3d33f67680e13"), looks := true }, kinds := [], alts := [], laidByText := true, laidKinds := [.data], laidTests := true, laidLooks := .later }
def MunchNextUptoCardSaid : Prop := Claim7.holds Tryz.pinned (.plain (OpenSpec.upto munchNextSpec)) munchNextUptoCard

/-- THE SECOND FORM's CARD OF 'doubletlaw33.MunchNames'. -/
def munchNamesUptoCard : Claim7 := { stood := { row := munchNamesUptoRow, standIns := [], harness := (true, "b6500712820cdc2959f2e7ade07ea5b58638fcd9bd2559eae4d3d33f67680e13"), looks := true }, kinds := [], alts := [], laidByText := true, laidKinds := [.data], laidTests := true, laidLooks := .later }
def MunchNamesUptoCardSaid : Prop := Claim7.holds Tryz.pinned (.plain (OpenSpec.upto munchNamesSpec)) munchNamesUptoCard

/-- THE SECOND FORM's CARD OF 'doubletlaw33.MunchWhole'. -/
def munchWholeUptoCard : Claim7 := { stood := { row := munchWholeUptoRow, standIns := [], harness := (true, "b6500712820cdc2959f2e7ade07ea5b58638fcd9bd2559eae4d3d33f67680e13"), looks := true }, kinds := [], alts := [], laidByText := true, laidKinds := [.data], laidTests := true, laidLooks := .later }
def MunchWholeUptoCardSaid : Prop := Claim7.holds Tryz.pinned (.plain (OpenSpec.upto munchWholeSpec)) munchWholeUptoCard

/-- THE SECOND FORM's CARD OF 'doubletlaw34.StreamFeeds'. -/
def streamFeedsUptoCard : Claim7 := { stood := { row := streamFeedsUptoRow, standIns := [], harness := (true, "b6500712820cdc2959f2e7ade07ea5b58638fcd9bd2559eae4d3d33f67680e13"), looks := true }, kinds := [], alts := [], laidByText := true, laidKinds := [.data], laidTests := true, laidLooks := .later }
def StreamFeedsUptoCardSaid : Prop := Claim7.holds Tryz.pinned (.plain (OpenSpec.upto streamFeedsSpec)) streamFeedsUptoCard

/-- THE SECOND FORM's CARD OF 'doubletlaw34.StreamNil'. -/
def streamNilUptoCard : Claim7 := { stood := { row := streamNilUptoRow, standIns := [], harness := (true, "b6500712820cdc2959f2e7ade07ea5b58638fcd9bd2559eae4d3d33f67680e13"), looks := true }, kinds := [], alts := [], laidByText := true, laidKinds := [.data], laidTests := true, laidLooks := .later }
def StreamNilUptoCardSaid : Prop := Claim7.holds Tryz.pinned (.plain (OpenSpec.upto streamNilSpec)) streamNilUptoCard

/-- THE SECOND FORM's CARD OF 'doubletlaw34.StreamParts'. -/
def streamPartsUptoCard : Claim7 := { stood := { row := streamPartsUptoRow, standIns := [], harness := (true, "b6500712820cdc2959f2e7ade07ea5b58638fcd9bd2559eae4d3d33f67680e13"), looks := true }, kinds := [], alts := [], laidByText := true, laidKinds := [.data], laidTests := true, laidLooks := .later }
def StreamPartsUptoCardSaid : Prop := Claim7.holds Tryz.pinned (.plain (OpenSpec.upto streamPartsSpec)) streamPartsUptoCard
end Rows
end Go.Proofs.YtaoinbjjolikhaaGreatDoor
