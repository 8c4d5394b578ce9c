/-
  DERIVED. GIVEN WITH THE SEED: THE CARDS: each row of YtdhmekpgplajmaaGreatDoorRows.lean that lists a variable, with what it lists TIED to the program's text (the seventh form; the later family's looks); each row that meets fmt, with fmt's text TOLD by the authors' own Lean function (tested against real Go, not proved from fmt's source: count such statements apart). THE CARD IS WHAT COUNTS. Prove the row's statement (the work); the ties are given (YtdhmekpgplajmaaGreatDoorTie.lean); close each card by the builder's one call (the guide's Derived/Test/ToyasCard.lean, 'card_holds'). Laid BY PROGRAM, IN A SANDBOX (cutbox-door.mjs). By AI agents, Wed Nov 11 2026. No macro, syntax, notation, axiom, sorry.
-/
import Derived.Test.YtdhmekpgplajmaaGreatDoorRows
import GoSem.ClaimSeven
namespace Go.Proofs.YtdhmekpgplajmaaGreatDoor
namespace Rows

/-- THE TIED CARD OF 'doubletlaw36.ListingReads'. -/
def listingReadsCard : Claim7 := { stood := { row := listingReadsRow, standIns := [], harness := (true, "72ca9008db3f71c4ab63a0a718e8d4721b188b189f6938d383a62df52911dc0c"), looks := false }, kinds := [], alts := [], laidByText := true, laidKinds := [.data], laidTests := true, laidLooks := .later }
def ListingReadsCardSaid : Prop := Claim7.holds Tryz.pinned (.plain (OpenSpec.ofChange listingReadsSpec)) listingReadsCard

/-- THE TIED CARD OF 'doubletlaw36.ListingTexts'. -/
def listingTextsCard : Claim7 := { stood := { row := listingTextsRow, standIns := [], harness := (true, "72ca9008db3f71c4ab63a0a718e8d4721b188b189f6938d383a62df52911dc0c"), looks := false }, kinds := [], alts := [], laidByText := true, laidKinds := [.data], laidTests := true, laidLooks := .later }
def ListingTextsCardSaid : Prop := Claim7.holds Tryz.pinned (.plain (OpenSpec.ofChange listingTextsSpec)) listingTextsCard

/-- THE SECOND FORM's CARD OF 'doubletlaw36.ListingReads'. -/
def listingReadsUptoCard : Claim7 := { stood := { row := listingReadsUptoRow, standIns := [], harness := (true, "72ca9008db3f71c4ab63a0a718e8d4721b188b189f6938d383a62df52911dc0c"), looks := false }, kinds := [], alts := [], laidByText := true, laidKinds := [.data], laidTests := true, laidLooks := .later }
def ListingReadsUptoCardSaid : Prop := Claim7.holds Tryz.pinned (.plain (OpenSpec.upto listingReadsSpec)) listingReadsUptoCard

/-- THE SECOND FORM's CARD OF 'doubletlaw36.ListingTexts'. -/
def listingTextsUptoCard : Claim7 := { stood := { row := listingTextsUptoRow, standIns := [], harness := (true, "72ca9008db3f71c4ab63a0a718e8d4721b188b189f6938d383a62df52911dc0c"), looks := false }, kinds := [], alts := [], laidByText := true, laidKinds := [.data], laidTests := true, laidLooks := .later }
def ListingTextsUptoCardSaid : Prop := Claim7.holds Tryz.pinned (.plain (OpenSpec.upto listingTextsSpec)) listingTextsUptoCard
end Rows
end Go.Proofs.YtdhmekpgplajmaaGreatDoor
