/-
  DERIVED. GIVEN WITH THE SEED: THE CARDS: each row of YtengfapcaaacaaaGreatDoorRows.lean that lists a variable, with what it lists TIED to the program's text (the seventh form; the later family's looks); each row that meets fmt, with fmt's text TOLD by the authors' own Lean function (tested against real Go, not proved from fmt's source: count such statements apart). THE CARD IS WHAT COUNTS. Prove the row's statement (the work); the ties are given (YtengfapcaaacaaaGreatDoorTie.lean); close each card by the builder's one call (the guide's Derived/Test/ToyasCard.lean, 'card_holds'). Laid BY PROGRAM, IN A SANDBOX (cutbox-door.mjs). By AI agents, Wed Nov 11 2026. No macro, syntax, notation, axiom, sorry.
-/
import Derived.Test.YtengfapcaaacaaaGreatDoorRows
import GoSem.ClaimSeven
namespace Go.Proofs.YtengfapcaaacaaaGreatDoor
namespace Rows

/-- THE TIED CARD OF 'doubletlaw30.EquivTells'. -/
def equivTellsCard : Claim7 := { stood := { row := equivTellsRow, standIns := [], harness := (true, "e6fee54bdaf4e2914899e24c9ef362d460a980e6b74ce5c3118f5dcdd3551f35"), looks := true }, kinds := [], alts := [], laidByText := true, laidKinds := [.data], laidTests := true, laidLooks := .later }
def EquivTellsCardSaid : Prop := Claim7.holds Tryz.pinned (.plain (OpenSpec.ofChange equivTellsSpec)) equivTellsCard

/-- THE TIED CARD OF 'doubletlaw30.EquivInside'. -/
def equivInsideCard : Claim7 := { stood := { row := equivInsideRow, standIns := [], harness := (true, "e6fee54bdaf4e2914899e24c9ef362d460a980e6b74ce5c3118f5dcdd3551f35"), looks := true }, kinds := [], alts := [], laidByText := true, laidKinds := [.data], laidTests := true, laidLooks := .later }
def EquivInsideCardSaid : Prop := Claim7.holds Tryz.pinned (.plain (OpenSpec.ofChange equivInsideSpec)) equivInsideCard

/-- THE TIED CARD OF 'doubletlaw31.ProductLeast'. -/
def productLeastCard : Claim7 := { stood := { row := productLeastRow, standIns := [], harness := (true, "e6fee54bdaf4e2914899e24c9ef362d460a980e6b74ce5c3118f5dcdd3551f35"), looks := true }, kinds := [], alts := [], laidByText := true, laidKinds := [.data], laidTests := true, laidLooks := .later }
def ProductLeastCardSaid : Prop := Claim7.holds Tryz.pinned (.plain (OpenSpec.ofChange productLeastSpec)) productLeastCard

/-- THE TIED CARD OF 'doubletlaw31.ProductClashes'. -/
def productClashesCard : Claim7 := { stood := { row := productClashesRow, standIns := [], harness := (true, "e6fee54bdaf4e2914899e24c9ef362d460a980e6b74ce5c3118f5dcdd3551f35"), looks := true }, kinds := [], alts := [], laidByText := true, laidKinds := [.data], laidTests := true, laidLooks := .later }
def ProductClashesCardSaid : Prop := Claim7.holds Tryz.pinned (.plain (OpenSpec.ofChange productClashesSpec)) productClashesCard

/-- THE TIED CARD OF 'doubletlaw30.EquivStates'. -/
def equivStatesCard : Claim7 := { stood := { row := equivStatesRow, standIns := [], harness := (true, "e6fee54bdaf4e2914899e24c9ef362d460a980e6b74ce5c3118f5dcdd3551f35"), looks := true }, kinds := [], alts := [], laidByText := true, laidKinds := [.data], laidTests := true, laidLooks := .later }
def EquivStatesCardSaid : Prop := Claim7.holds Tryz.pinned (.plain (OpenSpec.ofChange equivStatesSpec)) equivStatesCard

/-- THE TIED CARD OF 'doubletlaw31.ProductNames'. -/
def productNamesCard : Claim7 := { stood := { row := productNamesRow, standIns := [], harness := (true, "e6fee54bdaf4e2914899e24c9ef362d460a980e6b74ce5c3118f5dcdd3551f35"), looks := true }, kinds := [], alts := [], laidByText := true, laidKinds := [.data], laidTests := true, laidLooks := .later }
def ProductNamesCardSaid : Prop := Claim7.holds Tryz.pinned (.plain (OpenSpec.ofChange productNamesSpec)) productNamesCard

/-- THE TIED CARD OF 'doubletlaw33.MunchNames'. -/
def munchNamesCard : Claim7 := { stood := { row := munchNamesRow, standIns := [], harness := (true, "e6fee54bdaf4e2914899e24c9ef362d460a980e6b74ce5c3118f5dcdd3551f35"), looks := true }, kinds := [], alts := [], laidByText := true, laidKinds := [.data], laidTests := true, laidLooks := .later }
def MunchNamesCardSaid : Prop := Claim7.holds Tryz.pinned (.plain (OpenSpec.ofChange munchNamesSpec)) munchNamesCard

/-- THE SECOND FORM's CARD OF 'doubletlaw30.EquivTells'. -/
def equivTellsUptoCard : Claim7 := { stood := { row := equivTellsUptoRow, standIns := [], harness := (true, "e6fee54bdaf4e2914899e24c9ef362d460a980e6b74ce5c3118f5dcdd3551f35"), looks := true }, kinds := [], alts := [], laidByText := true, laidKinds := [.data], laidTests := true, laidLooks := .later }
def EquivTellsUptoCardSaid : Prop := Claim7.holds Tryz.pinned (.plain (OpenSpec.upto equivTellsSpec)) equivTellsUptoCard

/-- THE SECOND FORM's CARD OF 'doubletlaw30.EquivInside'. -/
def equivInsideUptoCard : Claim7 := { stood := { row := equivInsideUptoRow, standIns := [], harness := (true, "e6fee54bdaf4e2914899e24c9ef362d460a980e6b74ce5c3118f5dcdd3551f35"), looks := true }, kinds := [], alts := [], laidByText := true, laidKinds := [.data], laidTests := true, laidLooks := .later }
def EquivInsideUptoCardSaid : Prop := Claim7.holds Tryz.pinned (.plain (OpenSpec.upto equivInsideSpec)) equivInsideUptoCard

/-- THE SECOND FORM's CARD OF 'doubletlaw31.ProductLeast'. -/
def productLeastUptoCard : Claim7 := { stood := { row := productLeastUptoRow, standIns := [], harness := (true, "e6fee54bdaf4e2914899e24c9ef362d460a980e6b74ce5c3118f5dcdd3551f35"), looks := true }, kinds := [], alts := [], laidByText := true, laidKinds := [.data], laidTests := true, laidLooks := .later }
def ProductLeastUptoCardSaid : Prop := Claim7.holds Tryz.pinned (.plain (OpenSpec.upto productLeastSpec)) productLeastUptoCard

/-- THE SECOND FORM's CARD OF 'doubletlaw31.ProductClashes'. -/
def productClashesUptoCard : Claim7 := { stood := { row := productClashesUptoRow, standIns := [], harness := (true, "e6fee54bdaf4e2914899e24c9ef362d460a980e6b74ce5c3118f5dcdd3551f35"), looks := true }, kinds := [], alts := [], laidByText := true, laidKinds := [.data], laidTests := true, laidLooks := .later }
def ProductClashesUptoCardSaid : Prop := Claim7.holds Tryz.pinned (.plain (OpenSpec.upto productClashesSpec)) productClashesUptoCard

/-- THE SECOND FORM's CARD OF 'doubletlaw30.EquivStates'. -/
def equivStatesUptoCard : Claim7 := { stood := { row := equivStatesUptoRow, standIns := [], harness := (true, "e6fee54bdaf4e2914899e24c9ef362d460a980e6b74ce5c3118f5dcdd3551f35"), looks := true }, kinds := [], alts := [], laidByText := true, laidKinds := [.data], laidTests := true, laidLooks := .later }
def EquivStatesUptoCardSaid : Prop := Claim7.holds Tryz.pinned (.plain (OpenSpec.upto equivStatesSpec)) equivStatesUptoCard

/-- THE SECOND FORM's CARD OF 'doubletlaw31.ProductNames'. -/
def productNamesUptoCard : Claim7 := { stood := { row := productNamesUptoRow, standIns := [], harness := (true, "e6fee54bdaf4e2914899e24c9ef362d460a980e6b74ce5c3118f5dcdd3551f35"), looks := true }, kinds := [], alts := [], laidByText := true, laidKinds := [.data], laidTests := true, laidLooks := .later }
def ProductNamesUptoCardSaid : Prop := Claim7.holds Tryz.pinned (.plain (OpenSpec.upto productNamesSpec)) productNamesUptoCard

/-- THE SECOND FORM's CARD OF 'doubletlaw33.MunchNames'. -/
def munchNamesUptoCard : Claim7 := { stood := { row := munchNamesUptoRow, standIns := [], harness := (true, "e6fee54bdaf4e2914899e24c9ef362d460a980e6b74ce5c3118f5dcdd3551f35"), looks := true }, kinds := [], alts := [], laidByText := true, laidKinds := [.data], laidTests := true, laidLooks := .later }
def MunchNamesUptoCardSaid : Prop := Claim7.holds Tryz.pinned (.plain (OpenSpec.upto munchNamesSpec)) munchNamesUptoCard
end Rows
end Go.Proofs.YtengfapcaaacaaaGreatDoor
