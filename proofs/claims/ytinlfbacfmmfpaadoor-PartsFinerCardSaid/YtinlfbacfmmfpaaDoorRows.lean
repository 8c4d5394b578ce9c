/-
  NARROWER THAN 'FOR EVERY INPUT', by the rows' own cells (each row's printed sentence says how): PartsAsks: laid · SetsMade: laid · SetsListed: laid · PartsFiner: laid · SetsJoined: laid · SetsLaws: laid.
  DERIVED. THE GIVEN ROWS OF THIS SEAT. 6 by the template 'for every input the law returns true; each argument reads behind the call as it read before'; 0 by the template 'total and deterministic' (their statements: YtinlfbacfmmfpaaDoorTotals.lean).
  GIVEN WITH THE SEED: the statements are not yours to turn. If you find one false, say at which input.
  Laid BY PROGRAM, IN A SANDBOX (cutbox-rows.mjs): the forced cells as the released guide's own fill.sh prints them over the translation b4039dbe40e347cc… (all of the seat's roots in one cut). By AI agents, Wed Nov 11 2026. No macro, syntax, notation, axiom, sorry.
-/
import Derived.Test.YtinlfbacfmmfpaaDoorChecked
import GoSem.Claim
import GoSem.ClaimJoined
import GoSem.ClaimMapViews
import Derived.JoinedTies
import Derived.KernelRfl
namespace Go.Proofs.YtinlfbacfmmfpaaDoor
/- THE CELL 'sum', in the pinned program and in every row, IS THE sha256 OF THE DUMP (.gsa) THAT YtinlfbacfmmfpaaDoorProg.lean LOADS. Nothing in Lean hashes anything: it is a label: what it is worth is what the hold of that sum in a sandbox is worth. -/
noncomputable def Tryd.pinned : Pinned := { name := "ytinlfbacfmmfpaadoor", sum := "b4039dbe40e347ccccf665dd74c8db4500dbc250673e8196f99f75f688b14621", checked := Tryd.checked }
namespace Rows
def none {H : Type} : Left H := { results := [], args := [] }

/- WHAT THE LISTED PACKAGE-LEVEL VARIABLES READ AS WHEN THE CALL BEGINS. Each datum BY PROGRAM (the guide's laid-datum.mjs) off the statement by which the dump's own 'gosem.cut.vars' lays the variable. In a bare row this is a premise. The card (YtinlfbacfmmfpaaDoorCards.lean) ties it to the program's text. -/
def laid_math_bits_deBruijn64tab {H : Type} : DataW H := .agg [.lit (.int .u8 0), .lit (.int .u8 1), .lit (.int .u8 56), .lit (.int .u8 2), .lit (.int .u8 57), .lit (.int .u8 49), .lit (.int .u8 28), .lit (.int .u8 3), .lit (.int .u8 61), .lit (.int .u8 58), .lit (.int .u8 42), .lit (.int .u8 50), .lit (.int .u8 38), .lit (.int .u8 29), .lit (.int .u8 17), .lit (.int .u8 4), .lit (.int .u8 62), .lit (.int .u8 47), .lit (.int .u8 59), .lit (.int .u8 36), .lit (.int .u8 45), .lit (.int .u8 43), .lit (.int .u8 51), .lit (.int .u8 22), .lit (.int .u8 53), .lit (.int .u8 39), .lit (.int .u8 33), .lit (.int .u8 30), .lit (.int .u8 24), .lit (.int .u8 18), .lit (.int .u8 12), .lit (.int .u8 5), .lit (.int .u8 63), .lit (.int .u8 55), .lit (.int .u8 48), .lit (.int .u8 27), .lit (.int .u8 60), .lit (.int .u8 41), .lit (.int .u8 37), .lit (.int .u8 16), .lit (.int .u8 46), .lit (.int .u8 35), .lit (.int .u8 44), .lit (.int .u8 21), .lit (.int .u8 52), .lit (.int .u8 32), .lit (.int .u8 23), .lit (.int .u8 11), .lit (.int .u8 54), .lit (.int .u8 26), .lit (.int .u8 40), .lit (.int .u8 15), .lit (.int .u8 34), .lit (.int .u8 20), .lit (.int .u8 31), .lit (.int .u8 10), .lit (.int .u8 25), .lit (.int .u8 14), .lit (.int .u8 19), .lit (.int .u8 9), .lit (.int .u8 13), .lit (.int .u8 8), .lit (.int .u8 7), .lit (.int .u8 6)]

/-- 'doubletlaw19.PartsAsks': WHATEVER THE INPUT: true; the input reads as it did. -/
def partsAsksSpec : ChangeSpec := { name := "partsAsks", fn := fun _ => fun
  | [d1, d2] => { results := [.lit (.bool true)], args := [d1, d2] }
  | _ => none }
def partsAsksRow : OpenClaim := { program := "ytinlfbacfmmfpaadoor", sum := "b4039dbe40e347ccccf665dd74c8db4500dbc250673e8196f99f75f688b14621", func := "doublet/doubletlaw19.PartsAsks", spec := "partsAsks", unfollowed := true, recurses := true, named := ["math/bits.deBruijn64tab"], plainKeys := false, apart := false, laid := [("math/bits.deBruijn64tab", laid_math_bits_deBruijn64tab)] }
def PartsAsksSaid : Prop := partsAsksRow.holds Tryd.pinned (OpenSpec.ofChange partsAsksSpec)

/-- ITS FALSE NEIGHBOUR: 'it returns false'. Refute it at one input. -/
def partsAsksWrong : ChangeSpec := { name := "partsAsks", fn := fun _ => fun
  | [d1, d2] => { results := [.lit (.bool false)], args := [d1, d2] }
  | _ => none }
def PartsAsksWrongFalsely : Prop := partsAsksRow.holds Tryd.pinned (OpenSpec.ofChange partsAsksWrong)

/-- 'doubletlaw02.SetsMade': WHATEVER THE INPUT: true; the input reads as it did. -/
def setsMadeSpec : ChangeSpec := { name := "setsMade", fn := fun _ => fun
  | [d1, d2, d3] => { results := [.lit (.bool true)], args := [d1, d2, d3] }
  | _ => none }
def setsMadeRow : OpenClaim := { program := "ytinlfbacfmmfpaadoor", sum := "b4039dbe40e347ccccf665dd74c8db4500dbc250673e8196f99f75f688b14621", func := "doublet/doubletlaw02.SetsMade", spec := "setsMade", unfollowed := true, recurses := true, named := ["math/bits.deBruijn64tab"], plainKeys := false, apart := false, laid := [("math/bits.deBruijn64tab", laid_math_bits_deBruijn64tab)] }
def SetsMadeSaid : Prop := setsMadeRow.holds Tryd.pinned (OpenSpec.ofChange setsMadeSpec)

/-- ITS FALSE NEIGHBOUR: 'it returns false'. Refute it at one input. -/
def setsMadeWrong : ChangeSpec := { name := "setsMade", fn := fun _ => fun
  | [d1, d2, d3] => { results := [.lit (.bool false)], args := [d1, d2, d3] }
  | _ => none }
def SetsMadeWrongFalsely : Prop := setsMadeRow.holds Tryd.pinned (OpenSpec.ofChange setsMadeWrong)

/-- 'doubletlaw02.SetsListed': WHATEVER THE INPUT: true; the input reads as it did. -/
def setsListedSpec : ChangeSpec := { name := "setsListed", fn := fun _ => fun
  | [d] => { results := [.lit (.bool true)], args := [d] }
  | _ => none }
def setsListedRow : OpenClaim := { program := "ytinlfbacfmmfpaadoor", sum := "b4039dbe40e347ccccf665dd74c8db4500dbc250673e8196f99f75f688b14621", func := "doublet/doubletlaw02.SetsListed", spec := "setsListed", unfollowed := true, recurses := true, named := ["math/bits.deBruijn64tab"], plainKeys := false, apart := false, laid := [("math/bits.deBruijn64tab", laid_math_bits_deBruijn64tab)] }
def SetsListedSaid : Prop := setsListedRow.holds Tryd.pinned (OpenSpec.ofChange setsListedSpec)

/-- ITS FALSE NEIGHBOUR: 'it returns false'. Refute it at one input. -/
def setsListedWrong : ChangeSpec := { name := "setsListed", fn := fun _ => fun
  | [d] => { results := [.lit (.bool false)], args := [d] }
  | _ => none }
def SetsListedWrongFalsely : Prop := setsListedRow.holds Tryd.pinned (OpenSpec.ofChange setsListedWrong)

/-- 'doubletlaw19.PartsFiner': WHATEVER THE INPUT: true; the input reads as it did. -/
def partsFinerSpec : ChangeSpec := { name := "partsFiner", fn := fun _ => fun
  | [d] => { results := [.lit (.bool true)], args := [d] }
  | _ => none }
def partsFinerRow : OpenClaim := { program := "ytinlfbacfmmfpaadoor", sum := "b4039dbe40e347ccccf665dd74c8db4500dbc250673e8196f99f75f688b14621", func := "doublet/doubletlaw19.PartsFiner", spec := "partsFiner", unfollowed := true, recurses := true, named := ["math/bits.deBruijn64tab"], plainKeys := false, apart := false, laid := [("math/bits.deBruijn64tab", laid_math_bits_deBruijn64tab)] }
def PartsFinerSaid : Prop := partsFinerRow.holds Tryd.pinned (OpenSpec.ofChange partsFinerSpec)

/-- ITS FALSE NEIGHBOUR: 'it returns false'. Refute it at one input. -/
def partsFinerWrong : ChangeSpec := { name := "partsFiner", fn := fun _ => fun
  | [d] => { results := [.lit (.bool false)], args := [d] }
  | _ => none }
def PartsFinerWrongFalsely : Prop := partsFinerRow.holds Tryd.pinned (OpenSpec.ofChange partsFinerWrong)

/-- 'doubletlaw02.SetsJoined': WHATEVER THE INPUT: true; the input reads as it did. -/
def setsJoinedSpec : ChangeSpec := { name := "setsJoined", fn := fun _ => fun
  | [d1, d2, d3] => { results := [.lit (.bool true)], args := [d1, d2, d3] }
  | _ => none }
def setsJoinedRow : OpenClaim := { program := "ytinlfbacfmmfpaadoor", sum := "b4039dbe40e347ccccf665dd74c8db4500dbc250673e8196f99f75f688b14621", func := "doublet/doubletlaw02.SetsJoined", spec := "setsJoined", unfollowed := true, recurses := true, named := ["math/bits.deBruijn64tab"], plainKeys := false, apart := false, laid := [("math/bits.deBruijn64tab", laid_math_bits_deBruijn64tab)] }
def SetsJoinedSaid : Prop := setsJoinedRow.holds Tryd.pinned (OpenSpec.ofChange setsJoinedSpec)

/-- ITS FALSE NEIGHBOUR: 'it returns false'. Refute it at one input. -/
def setsJoinedWrong : ChangeSpec := { name := "setsJoined", fn := fun _ => fun
  | [d1, d2, d3] => { results := [.lit (.bool false)], args := [d1, d2, d3] }
  | _ => none }
def SetsJoinedWrongFalsely : Prop := setsJoinedRow.holds Tryd.pinned (OpenSpec.ofChange setsJoinedWrong)

/-- 'doubletlaw02.SetsLaws': WHATEVER THE INPUT: true; the input reads as it did. -/
def setsLawsSpec : ChangeSpec := { name := "setsLaws", fn := fun _ => fun
  | [d1, d2] => { results := [.lit (.bool true)], args := [d1, d2] }
  | _ => none }
def setsLawsRow : OpenClaim := { program := "ytinlfbacfmmfpaadoor", sum := "b4039dbe40e347ccccf665dd74c8db4500dbc250673e8196f99f75f688b14621", func := "doublet/doubletlaw02.SetsLaws", spec := "setsLaws", unfollowed := true, recurses := true, named := ["math/bits.deBruijn64tab"], plainKeys := false, apart := false, laid := [("math/bits.deBruijn64tab", laid_math_bits_deBruijn64tab)] }
def SetsLawsSaid : Prop := setsLawsRow.holds Tryd.pinned (OpenSpec.ofChange setsLawsSpec)

/-- ITS FALSE NEIGHBOUR: 'it returns false'. Refute it at one input. -/
def setsLawsWrong : ChangeSpec := { name := "setsLaws", fn := fun _ => fun
  | [d1, d2] => { results := [.lit (.bool false)], args := [d1, d2] }
  | _ => none }
def SetsLawsWrongFalsely : Prop := setsLawsRow.holds Tryd.pinned (OpenSpec.ofChange setsLawsWrong)

/- THE SECOND FORM. 'bulk': how many values and letters a reading holds, each counted each time it is reached (what is shared counts as often as it is met; a slice's spare places count too). A statement '..UptoSaid' is the law's where the arguments, and the package variables that the reading takes, are together of bulk at most 1048576: NARROWER than '..Said'. Prove '..Said' where nothing that the law and all that it calls make is longer than what came in: it says more and counts as full. Else prove '..UptoSaid'. A law counts once. -/
mutual
def uptoBulk {H : Type} : DataW H → Nat
  | .lit (.string bytes) => bytes.length + 1
  | .lit _ => 1
  | .nil => 1
  | .ptr d => uptoBulk d + 1
  | .slice elems spare => uptoBulkAll elems + uptoBulkAll spare + 1
  | .agg parts => uptoBulkAll parts + 1
  | .iface _ d => uptoBulk d + 1
  | .map entries => uptoBulkEntries entries + 1
  | .held _ => 1
def uptoBulkAll {H : Type} : List (DataW H) → Nat
  | [] => 0
  | d :: r => uptoBulk d + uptoBulkAll r
def uptoBulkEntries {H : Type} : List (Lit × DataW H) → Nat
  | [] => 0
  | x :: r => uptoBulkEntry x + uptoBulkEntries r
def uptoBulkEntry {H : Type} : Lit × DataW H → Nat
  | (.string bytes, d) => bytes.length + uptoBulk d + 1
  | (_, d) => uptoBulk d + 1
 end
def uptoSmall : (H : Type) → List (DataW H) → Bool := fun _ ds => decide (uptoBulkAll ds ≤ 1048576)
def OpenSpec.upto (s : _root_.Go.ChangeSpec) : _root_.Go.OpenSpec := { _root_.Go.OpenSpec.ofChange s with cond := some uptoSmall }

/-- 'doubletlaw19.PartsAsks', WHERE WHAT IT READS IS OF BULK AT MOST 1048576: true; the input reads as it did. -/
def partsAsksUptoRow : OpenClaim := { program := "ytinlfbacfmmfpaadoor", sum := "b4039dbe40e347ccccf665dd74c8db4500dbc250673e8196f99f75f688b14621", func := "doublet/doubletlaw19.PartsAsks", spec := "partsAsks", unfollowed := true, recurses := true, named := ["math/bits.deBruijn64tab"], plainKeys := false, apart := false, laid := [("math/bits.deBruijn64tab", laid_math_bits_deBruijn64tab)], narrowed := true }
def PartsAsksUptoSaid : Prop := partsAsksUptoRow.holds Tryd.pinned (OpenSpec.upto partsAsksSpec)

/-- 'doubletlaw02.SetsMade', WHERE WHAT IT READS IS OF BULK AT MOST 1048576: true; the input reads as it did. -/
def setsMadeUptoRow : OpenClaim := { program := "ytinlfbacfmmfpaadoor", sum := "b4039dbe40e347ccccf665dd74c8db4500dbc250673e8196f99f75f688b14621", func := "doublet/doubletlaw02.SetsMade", spec := "setsMade", unfollowed := true, recurses := true, named := ["math/bits.deBruijn64tab"], plainKeys := false, apart := false, laid := [("math/bits.deBruijn64tab", laid_math_bits_deBruijn64tab)], narrowed := true }
def SetsMadeUptoSaid : Prop := setsMadeUptoRow.holds Tryd.pinned (OpenSpec.upto setsMadeSpec)

/-- 'doubletlaw02.SetsListed', WHERE WHAT IT READS IS OF BULK AT MOST 1048576: true; the input reads as it did. -/
def setsListedUptoRow : OpenClaim := { program := "ytinlfbacfmmfpaadoor", sum := "b4039dbe40e347ccccf665dd74c8db4500dbc250673e8196f99f75f688b14621", func := "doublet/doubletlaw02.SetsListed", spec := "setsListed", unfollowed := true, recurses := true, named := ["math/bits.deBruijn64tab"], plainKeys := false, apart := false, laid := [("math/bits.deBruijn64tab", laid_math_bits_deBruijn64tab)], narrowed := true }
def SetsListedUptoSaid : Prop := setsListedUptoRow.holds Tryd.pinned (OpenSpec.upto setsListedSpec)

/-- 'doubletlaw19.PartsFiner', WHERE WHAT IT READS IS OF BULK AT MOST 1048576: true; the input reads as it did. -/
def partsFinerUptoRow : OpenClaim := { program := "ytinlfbacfmmfpaadoor", sum := "b4039dbe40e347ccccf665dd74c8db4500dbc250673e8196f99f75f688b14621", func := "doublet/doubletlaw19.PartsFiner", spec := "partsFiner", unfollowed := true, recurses := true, named := ["math/bits.deBruijn64tab"], plainKeys := false, apart := false, laid := [("math/bits.deBruijn64tab", laid_math_bits_deBruijn64tab)], narrowed := true }
def PartsFinerUptoSaid : Prop := partsFinerUptoRow.holds Tryd.pinned (OpenSpec.upto partsFinerSpec)

/-- 'doubletlaw02.SetsJoined', WHERE WHAT IT READS IS OF BULK AT MOST 1048576: true; the input reads as it did. -/
def setsJoinedUptoRow : OpenClaim := { program := "ytinlfbacfmmfpaadoor", sum := "b4039dbe40e347ccccf665dd74c8db4500dbc250673e8196f99f75f688b14621", func := "doublet/doubletlaw02.SetsJoined", spec := "setsJoined", unfollowed := true, recurses := true, named := ["math/bits.deBruijn64tab"], plainKeys := false, apart := false, laid := [("math/bits.deBruijn64tab", laid_math_bits_deBruijn64tab)], narrowed := true }
def SetsJoinedUptoSaid : Prop := setsJoinedUptoRow.holds Tryd.pinned (OpenSpec.upto setsJoinedSpec)

/-- 'doubletlaw02.SetsLaws', WHERE WHAT IT READS IS OF BULK AT MOST 1048576: true; the input reads as it did. -/
def setsLawsUptoRow : OpenClaim := { program := "ytinlfbacfmmfpaadoor", sum := "b4039dbe40e347ccccf665dd74c8db4500dbc250673e8196f99f75f688b14621", func := "doublet/doubletlaw02.SetsLaws", spec := "setsLaws", unfollowed := true, recurses := true, named := ["math/bits.deBruijn64tab"], plainKeys := false, apart := false, laid := [("math/bits.deBruijn64tab", laid_math_bits_deBruijn64tab)], narrowed := true }
def SetsLawsUptoSaid : Prop := setsLawsUptoRow.holds Tryd.pinned (OpenSpec.upto setsLawsSpec)

end Rows
end Go.Proofs.YtinlfbacfmmfpaaDoor
