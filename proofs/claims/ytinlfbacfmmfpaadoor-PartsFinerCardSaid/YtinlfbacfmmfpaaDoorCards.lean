/-
  DERIVED. GIVEN WITH THE SEED: THE CARDS: each row of YtinlfbacfmmfpaaDoorRows.lean that lists a variable, with what it lists TIED to the program's text (the seventh form; the later family's looks); each row that meets fmt, with fmt's text TOLD by the authors' own Lean function (tested against real Go, not proved from fmt's source: count such statements apart). THE CARD IS WHAT COUNTS. Prove the row's statement (the work); the ties are given (YtinlfbacfmmfpaaDoorTie.lean); close each card by the builder's one call (the guide's Derived/Test/ToyasCard.lean, 'card_holds'). Laid BY PROGRAM, IN A SANDBOX (cutbox-door.mjs). By AI agents, Wed Nov 11 2026. No macro, syntax, notation, axiom, sorry.
-/
import Derived.Test.YtinlfbacfmmfpaaDoorRows
import GoSem.ClaimSeven
namespace Go.Proofs.YtinlfbacfmmfpaaDoor
namespace Rows

/-- THE TIED CARD OF 'doubletlaw19.PartsAsks'. -/
def partsAsksCard : Claim7 := { stood := { row := partsAsksRow, standIns := [], harness := (true, "22460202c6b1350294f89b22b5d82788ba621fd2cc054c2f0fbe05d40440ff2b"), looks := false }, kinds := [], alts := [], laidByText := true, laidKinds := [.data], laidTests := true, laidLooks := .later }
def PartsAsksCardSaid : Prop := Claim7.holds Tryd.pinned (.plain (OpenSpec.ofChange partsAsksSpec)) partsAsksCard

/-- THE TIED CARD OF 'doubletlaw02.SetsMade'. -/
def setsMadeCard : Claim7 := { stood := { row := setsMadeRow, standIns := [], harness := (true, "22460202c6b1350294f89b22b5d82788ba621fd2cc054c2f0fbe05d40440ff2b"), looks := false }, kinds := [], alts := [], laidByText := true, laidKinds := [.data], laidTests := true, laidLooks := .later }
def SetsMadeCardSaid : Prop := Claim7.holds Tryd.pinned (.plain (OpenSpec.ofChange setsMadeSpec)) setsMadeCard

/-- THE TIED CARD OF 'doubletlaw02.SetsListed'. -/
def setsListedCard : Claim7 := { stood := { row := setsListedRow, standIns := [], harness := (true, "22460202c6b1350294f89b22b5d82788ba621fd2cc054c2f0fbe05d40440ff2b"), looks := false }, kinds := [], alts := [], laidByText := true, laidKinds := [.data], laidTests := true, laidLooks := .later }
def SetsListedCardSaid : Prop := Claim7.holds Tryd.pinned (.plain (OpenSpec.ofChange setsListedSpec)) setsListedCard

/-- THE TIED CARD OF 'doubletlaw19.PartsFiner'. -/
def partsFinerCard : Claim7 := { stood := { row := partsFinerRow, standIns := [], harness := (true, "22460202c6b1350294f89b22b5d82788ba621fd2cc054c2f0fbe05d40440ff2b"), looks := false }, kinds := [], alts := [], laidByText := true, laidKinds := [.data], laidTests := true, laidLooks := .later }
def PartsFinerCardSaid : Prop := Claim7.holds Tryd.pinned (.plain (OpenSpec.ofChange partsFinerSpec)) partsFinerCard

/-- THE TIED CARD OF 'doubletlaw02.SetsJoined'. -/
def setsJoinedCard : Claim7 := { stood := { row := setsJoinedRow, standIns := [], harness := (true, "22460202c6b1350294f89b22b5d82788ba621fd2cc054c2f0fbe05d40440ff2b"), looks := false }, kinds := [], alts := [], laidByText := true, laidKinds := [.data], laidTests := true, laidLooks := .later }
def SetsJoinedCardSaid : Prop := Claim7.holds Tryd.pinned (.plain (OpenSpec.ofChange setsJoinedSpec)) setsJoinedCard

/-- THE TIED CARD OF 'doubletlaw02.SetsLaws'. -/
def setsLawsCard : Claim7 := { stood := { row := setsLawsRow, standIns := [], harness := (true, "22460202c6b1350294f89b22b5d82788ba621fd2cc054c2f0fbe05d40440ff2b"), looks := false }, kinds := [], alts := [], laidByText := true, laidKinds := [.data], laidTests := true, laidLooks := .later }
def SetsLawsCardSaid : Prop := Claim7.holds Tryd.pinned (.plain (OpenSpec.ofChange setsLawsSpec)) setsLawsCard

/-- THE SECOND FORM's CARD OF 'doubletlaw19.PartsAsks'. -/
def partsAsksUptoCard : Claim7 := { stood := { row := partsAsksUptoRow, standIns := [], harness := (true, "22460202c6b1350294f89b22b5d82788ba621fd2cc054c2f0fbe05d40440ff2b"), looks := false }, kinds := [], alts := [], laidByText := true, laidKinds := [.data], laidTests := true, laidLooks := .later }
def PartsAsksUptoCardSaid : Prop := Claim7.holds Tryd.pinned (.plain (OpenSpec.upto partsAsksSpec)) partsAsksUptoCard

/-- THE SECOND FORM's CARD OF 'doubletlaw02.SetsMade'. -/
def setsMadeUptoCard : Claim7 := { stood := { row := setsMadeUptoRow, standIns := [], harness := (true, "22460202c6b1350294f89b22b5d82788ba621fd2cc054c2f0fbe05d40440ff2b"), looks := false }, kinds := [], alts := [], laidByText := true, laidKinds := [.data], laidTests := true, laidLooks := .later }
def SetsMadeUptoCardSaid : Prop := Claim7.holds Tryd.pinned (.plain (OpenSpec.upto setsMadeSpec)) setsMadeUptoCard

/-- THE SECOND FORM's CARD OF 'doubletlaw02.SetsListed'. -/
def setsListedUptoCard : Claim7 := { stood := { row := setsListedUptoRow, standIns := [], harness := (true, "22460202c6b1350294f89b22b5d82788ba621fd2cc054c2f0fbe05d40440ff2b"), looks := false }, kinds := [], alts := [], laidByText := true, laidKinds := [.data], laidTests := true, laidLooks := .later }
def SetsListedUptoCardSaid : Prop := Claim7.holds Tryd.pinned (.plain (OpenSpec.upto setsListedSpec)) setsListedUptoCard

/-- THE SECOND FORM's CARD OF 'doubletlaw19.PartsFiner'. -/
def partsFinerUptoCard : Claim7 := { stood := { row := partsFinerUptoRow, standIns := [], harness := (true, "22460202c6b1350294f89b22b5d82788ba621fd2cc054c2f0fbe05d40440ff2b"), looks := false }, kinds := [], alts := [], laidByText := true, laidKinds := [.data], laidTests := true, laidLooks := .later }
def PartsFinerUptoCardSaid : Prop := Claim7.holds Tryd.pinned (.plain (OpenSpec.upto partsFinerSpec)) partsFinerUptoCard

/-- THE SECOND FORM's CARD OF 'doubletlaw02.SetsJoined'. -/
def setsJoinedUptoCard : Claim7 := { stood := { row := setsJoinedUptoRow, standIns := [], harness := (true, "22460202c6b1350294f89b22b5d82788ba621fd2cc054c2f0fbe05d40440ff2b"), looks := false }, kinds := [], alts := [], laidByText := true, laidKinds := [.data], laidTests := true, laidLooks := .later }
def SetsJoinedUptoCardSaid : Prop := Claim7.holds Tryd.pinned (.plain (OpenSpec.upto setsJoinedSpec)) setsJoinedUptoCard

/-- THE SECOND FORM's CARD OF 'doubletlaw02.SetsLaws'. -/
def setsLawsUptoCard : Claim7 := { stood := { row := setsLawsUptoRow, standIns := [], harness := (true, "22460202c6b1350294f89b22b5d82788ba621fd2cc054c2f0fbe05d40440ff2b"), looks := false }, kinds := [], alts := [], laidByText := true, laidKinds := [.data], laidTests := true, laidLooks := .later }
def SetsLawsUptoCardSaid : Prop := Claim7.holds Tryd.pinned (.plain (OpenSpec.upto setsLawsSpec)) setsLawsUptoCard
end Rows
end Go.Proofs.YtinlfbacfmmfpaaDoor
