/-
  NARROWER THAN 'FOR EVERY INPUT', by the rows' own cells (each row's printed sentence says how): EquivTells: laid · EquivInside: laid · ProductLeast: laid · ProductClashes: laid · EquivStates: laid · ProductNames: laid · MunchNames: laid.
  DERIVED. THE GIVEN ROWS OF THIS SEAT. 7 by the template 'for every input the law returns true; each argument reads behind the call as it read before'; 0 by the template 'total and deterministic' (their statements: YtengfapcaaacaaaGreatDoorTotals.lean).
  GIVEN WITH THE SEED: the statements are not yours to turn. If you find one false, say at which input.
  Laid BY PROGRAM, IN A SANDBOX (cutbox-rows.mjs): the forced cells as the released guide's own fill.sh prints them over the translation 8e40989d6703c849… (all of the seat's roots in one cut). By AI agents, Wed Nov 11 2026. No macro, syntax, notation, axiom, sorry.
-/
import Derived.Test.YtengfapcaaacaaaGreatDoorChecked
import GoSem.Claim
import GoSem.ClaimJoined
import GoSem.ClaimMapViews
import Derived.JoinedTies
import Derived.KernelRfl
namespace Go.Proofs.YtengfapcaaacaaaGreatDoor
/- THE CELL 'sum', in the pinned program and in every row, IS THE sha256 OF THE DUMP (.gsa) THAT YtengfapcaaacaaaGreatDoorProg.lean LOADS. Nothing in Lean hashes anything: it is a label: what it is worth is what the hold of that sum in a sandbox is worth. -/
noncomputable def Tryz.pinned : Pinned := { name := "ytengfapcaaacaaagreatdoor", sum := "8e40989d6703c84978bd4071ea16cd718da480106d5181e4ecd82af3612e1792", checked := Tryz.checked }
namespace Rows
def none {H : Type} : Left H := { results := [], args := [] }

/- WHAT THE LISTED PACKAGE-LEVEL VARIABLES READ AS WHEN THE CALL BEGINS. Each datum BY PROGRAM (the guide's laid-datum.mjs) off the statement by which the dump's own 'gosem.cut.vars' lays the variable. In a bare row this is a premise. The card (YtengfapcaaacaaaGreatDoorCards.lean) ties it to the program's text. -/
def laid_math_bits_deBruijn64tab {H : Type} : DataW H := .agg [.lit (.int .u8 0), .lit (.int .u8 1), .lit (.int .u8 56), .lit (.int .u8 2), .lit (.int .u8 57), .lit (.int .u8 49), .lit (.int .u8 28), .lit (.int .u8 3), .lit (.int .u8 61), .lit (.int .u8 58), .lit (.int .u8 42), .lit (.int .u8 50), .lit (.int .u8 38), .lit (.int .u8 29), .lit (.int .u8 17), .lit (.int .u8 4), .lit (.int .u8 62), .lit (.int .u8 47), .lit (.int .u8 59), .lit (.int .u8 36), .lit (.int .u8 45), .lit (.int .u8 43), .lit (.int .u8 51), .lit (.int .u8 22), .lit (.int .u8 53), .lit (.int .u8 39), .lit (.int .u8 33), .lit (.int .u8 30), .lit (.int .u8 24), .lit (.int .u8 18), .lit (.int .u8 12), .lit (.int .u8 5), .lit (.int .u8 63), .lit (.int .u8 55), .lit (.int .u8 48), .lit (.int .u8 27), .lit (.int .u8 60), .lit (.int .u8 41), .lit (.int .u8 37), .lit (.int .u8 16), .lit (.int .u8 46), .lit (.int .u8 35), .lit (.int .u8 44), .lit (.int .u8 21), .lit (.int .u8 52), .lit (.int .u8 32), .lit (.int .u8 23), .lit (.int .u8 11), .lit (.int .u8 54), .lit (.int .u8 26), .lit (.int .u8 40), .lit (.int .u8 15), .lit (.int .u8 34), .lit (.int .u8 20), .lit (.int .u8 31), .lit (.int .u8 10), .lit (.int .u8 25), .lit (.int .u8 14), .lit (.int .u8 19), .lit (.int .u8 9), .lit (.int .u8 13), .lit (.int .u8 8), .lit (.int .u8 7), .lit (.int .u8 6)]

/-- 'doubletlaw30.EquivTells': WHATEVER THE INPUT: true; the input reads as it did. -/
def equivTellsSpec : ChangeSpec := { name := "equivTells", fn := fun _ => fun
  | [d1, d2, d3] => { results := [.lit (.bool true)], args := [d1, d2, d3] }
  | _ => none }
def equivTellsRow : OpenClaim := { program := "ytengfapcaaacaaagreatdoor", sum := "8e40989d6703c84978bd4071ea16cd718da480106d5181e4ecd82af3612e1792", func := "doublet/doubletlaw30.EquivTells", spec := "equivTells", inPlace := ["internal/bytealg.IndexByte", "internal/bytealg.Index"], unfollowed := true, recurses := true, named := ["internal/bytealg.MaxLen", "math/bits.deBruijn64tab"], plainKeys := false, apart := false, laid := [("math/bits.deBruijn64tab", laid_math_bits_deBruijn64tab)] }
def EquivTellsSaid : Prop := equivTellsRow.holds Tryz.pinned (OpenSpec.ofChange equivTellsSpec)

/-- ITS FALSE NEIGHBOUR: 'it returns false'. Refute it at one input. -/
def equivTellsWrong : ChangeSpec := { name := "equivTells", fn := fun _ => fun
  | [d1, d2, d3] => { results := [.lit (.bool false)], args := [d1, d2, d3] }
  | _ => none }
def EquivTellsWrongFalsely : Prop := equivTellsRow.holds Tryz.pinned (OpenSpec.ofChange equivTellsWrong)

/-- 'doubletlaw30.EquivInside': WHATEVER THE INPUT: true; the input reads as it did. -/
def equivInsideSpec : ChangeSpec := { name := "equivInside", fn := fun _ => fun
  | [d1, d2, d3] => { results := [.lit (.bool true)], args := [d1, d2, d3] }
  | _ => none }
def equivInsideRow : OpenClaim := { program := "ytengfapcaaacaaagreatdoor", sum := "8e40989d6703c84978bd4071ea16cd718da480106d5181e4ecd82af3612e1792", func := "doublet/doubletlaw30.EquivInside", spec := "equivInside", inPlace := ["internal/bytealg.IndexByte", "internal/bytealg.Index"], unfollowed := true, recurses := true, named := ["internal/bytealg.MaxLen", "math/bits.deBruijn64tab"], plainKeys := false, apart := false, laid := [("math/bits.deBruijn64tab", laid_math_bits_deBruijn64tab)] }
def EquivInsideSaid : Prop := equivInsideRow.holds Tryz.pinned (OpenSpec.ofChange equivInsideSpec)

/-- ITS FALSE NEIGHBOUR: 'it returns false'. Refute it at one input. -/
def equivInsideWrong : ChangeSpec := { name := "equivInside", fn := fun _ => fun
  | [d1, d2, d3] => { results := [.lit (.bool false)], args := [d1, d2, d3] }
  | _ => none }
def EquivInsideWrongFalsely : Prop := equivInsideRow.holds Tryz.pinned (OpenSpec.ofChange equivInsideWrong)

/-- 'doubletlaw31.ProductLeast': WHATEVER THE INPUT: true; the input reads as it did. -/
def productLeastSpec : ChangeSpec := { name := "productLeast", fn := fun _ => fun
  | [d1, d2, d3, d4] => { results := [.lit (.bool true)], args := [d1, d2, d3, d4] }
  | _ => none }
def productLeastRow : OpenClaim := { program := "ytengfapcaaacaaagreatdoor", sum := "8e40989d6703c84978bd4071ea16cd718da480106d5181e4ecd82af3612e1792", func := "doublet/doubletlaw31.ProductLeast", spec := "productLeast", inPlace := ["internal/bytealg.IndexByte", "internal/bytealg.Index", "slices.overlaps[[]int]", "slices.overlaps[int]"], unfollowed := true, recurses := true, named := ["internal/bytealg.MaxLen", "math/bits.deBruijn64tab"], plainKeys := false, apart := false, laid := [("math/bits.deBruijn64tab", laid_math_bits_deBruijn64tab)] }
def ProductLeastSaid : Prop := productLeastRow.holds Tryz.pinned (OpenSpec.ofChange productLeastSpec)

/-- ITS FALSE NEIGHBOUR: 'it returns false'. Refute it at one input. -/
def productLeastWrong : ChangeSpec := { name := "productLeast", fn := fun _ => fun
  | [d1, d2, d3, d4] => { results := [.lit (.bool false)], args := [d1, d2, d3, d4] }
  | _ => none }
def ProductLeastWrongFalsely : Prop := productLeastRow.holds Tryz.pinned (OpenSpec.ofChange productLeastWrong)

/-- 'doubletlaw31.ProductClashes': WHATEVER THE INPUT: true; the input reads as it did. -/
def productClashesSpec : ChangeSpec := { name := "productClashes", fn := fun _ => fun
  | [d1, d2] => { results := [.lit (.bool true)], args := [d1, d2] }
  | _ => none }
def productClashesRow : OpenClaim := { program := "ytengfapcaaacaaagreatdoor", sum := "8e40989d6703c84978bd4071ea16cd718da480106d5181e4ecd82af3612e1792", func := "doublet/doubletlaw31.ProductClashes", spec := "productClashes", inPlace := ["internal/bytealg.IndexByte", "internal/bytealg.Index", "slices.overlaps[[]int]", "slices.overlaps[int]"], unfollowed := true, recurses := true, named := ["internal/bytealg.MaxLen", "math/bits.deBruijn64tab"], plainKeys := false, apart := false, laid := [("math/bits.deBruijn64tab", laid_math_bits_deBruijn64tab)] }
def ProductClashesSaid : Prop := productClashesRow.holds Tryz.pinned (OpenSpec.ofChange productClashesSpec)

/-- ITS FALSE NEIGHBOUR: 'it returns false'. Refute it at one input. -/
def productClashesWrong : ChangeSpec := { name := "productClashes", fn := fun _ => fun
  | [d1, d2] => { results := [.lit (.bool false)], args := [d1, d2] }
  | _ => none }
def ProductClashesWrongFalsely : Prop := productClashesRow.holds Tryz.pinned (OpenSpec.ofChange productClashesWrong)

/-- 'doubletlaw30.EquivStates': WHATEVER THE INPUT: true; the input reads as it did. -/
def equivStatesSpec : ChangeSpec := { name := "equivStates", fn := fun _ => fun
  | [d1, d2, d3] => { results := [.lit (.bool true)], args := [d1, d2, d3] }
  | _ => none }
def equivStatesRow : OpenClaim := { program := "ytengfapcaaacaaagreatdoor", sum := "8e40989d6703c84978bd4071ea16cd718da480106d5181e4ecd82af3612e1792", func := "doublet/doubletlaw30.EquivStates", spec := "equivStates", inPlace := ["internal/bytealg.IndexByte", "internal/bytealg.Index"], unfollowed := true, recurses := true, named := ["math/bits.deBruijn64tab", "internal/bytealg.MaxLen"], plainKeys := false, apart := false, laid := [("math/bits.deBruijn64tab", laid_math_bits_deBruijn64tab)] }
def EquivStatesSaid : Prop := equivStatesRow.holds Tryz.pinned (OpenSpec.ofChange equivStatesSpec)

/-- ITS FALSE NEIGHBOUR: 'it returns false'. Refute it at one input. -/
def equivStatesWrong : ChangeSpec := { name := "equivStates", fn := fun _ => fun
  | [d1, d2, d3] => { results := [.lit (.bool false)], args := [d1, d2, d3] }
  | _ => none }
def EquivStatesWrongFalsely : Prop := equivStatesRow.holds Tryz.pinned (OpenSpec.ofChange equivStatesWrong)

/-- 'doubletlaw31.ProductNames': WHATEVER THE INPUT: true; the input reads as it did. -/
def productNamesSpec : ChangeSpec := { name := "productNames", fn := fun _ => fun
  | [d1, d2, d3] => { results := [.lit (.bool true)], args := [d1, d2, d3] }
  | _ => none }
def productNamesRow : OpenClaim := { program := "ytengfapcaaacaaagreatdoor", sum := "8e40989d6703c84978bd4071ea16cd718da480106d5181e4ecd82af3612e1792", func := "doublet/doubletlaw31.ProductNames", spec := "productNames", inPlace := ["internal/bytealg.IndexByte", "internal/bytealg.Index", "slices.overlaps[[]int]", "slices.overlaps[int]"], unfollowed := true, recurses := true, named := ["internal/bytealg.MaxLen", "math/bits.deBruijn64tab"], plainKeys := false, apart := false, laid := [("math/bits.deBruijn64tab", laid_math_bits_deBruijn64tab)] }
def ProductNamesSaid : Prop := productNamesRow.holds Tryz.pinned (OpenSpec.ofChange productNamesSpec)

/-- ITS FALSE NEIGHBOUR: 'it returns false'. Refute it at one input. -/
def productNamesWrong : ChangeSpec := { name := "productNames", fn := fun _ => fun
  | [d1, d2, d3] => { results := [.lit (.bool false)], args := [d1, d2, d3] }
  | _ => none }
def ProductNamesWrongFalsely : Prop := productNamesRow.holds Tryz.pinned (OpenSpec.ofChange productNamesWrong)

/-- 'doubletlaw33.MunchNames': WHATEVER THE INPUT: true; the input reads as it did. -/
def munchNamesSpec : ChangeSpec := { name := "munchNames", fn := fun _ => fun
  | [d1, d2, d3] => { results := [.lit (.bool true)], args := [d1, d2, d3] }
  | _ => none }
def munchNamesRow : OpenClaim := { program := "ytengfapcaaacaaagreatdoor", sum := "8e40989d6703c84978bd4071ea16cd718da480106d5181e4ecd82af3612e1792", func := "doublet/doubletlaw33.MunchNames", spec := "munchNames", inPlace := ["internal/bytealg.IndexByte", "internal/bytealg.Index"], unfollowed := true, recurses := true, named := ["internal/bytealg.MaxLen", "math/bits.deBruijn64tab"], plainKeys := false, apart := false, laid := [("math/bits.deBruijn64tab", laid_math_bits_deBruijn64tab)] }
def MunchNamesSaid : Prop := munchNamesRow.holds Tryz.pinned (OpenSpec.ofChange munchNamesSpec)

/-- ITS FALSE NEIGHBOUR: 'it returns false'. Refute it at one input. -/
def munchNamesWrong : ChangeSpec := { name := "munchNames", fn := fun _ => fun
  | [d1, d2, d3] => { results := [.lit (.bool false)], args := [d1, d2, d3] }
  | _ => none }
def MunchNamesWrongFalsely : Prop := munchNamesRow.holds Tryz.pinned (OpenSpec.ofChange munchNamesWrong)

/- THE SECOND FORM. 'bulk': how many values and letters a reading holds, each counted each time it is reached (what is shared counts as often as it is met; a slice's spare places count too). A statement '..UptoSaid' is the law's where the arguments, and the package variables that the reading takes, are together of bulk at most 1048576: NARROWER than '..Said'. Prove '..Said' where nothing that the law and all that it calls make is longer than what came in: it says more and counts as full. Else prove '..UptoSaid'. A law counts once. -/
mutual
def uptoBulk {H : Type} : DataW H → Nat
  | .lit (.string bytes) => bytes.length + 1
  | .lit _ => 1
  | .nil => 1
  | .ptr d => uptoBulk d + 1
  | .slice elems spare => uptoBulkAll elems + uptoBulkAll spare + 1
  | .agg parts => uptoBulkAll parts + 1
  | .iface _ d => uptoBulk d + 1
  | .map entries => uptoBulkEntries entries + 1
  | .held _ => 1
def uptoBulkAll {H : Type} : List (DataW H) → Nat
  | [] => 0
  | d :: r => uptoBulk d + uptoBulkAll r
def uptoBulkEntries {H : Type} : List (Lit × DataW H) → Nat
  | [] => 0
  | x :: r => uptoBulkEntry x + uptoBulkEntries r
def uptoBulkEntry {H : Type} : Lit × DataW H → Nat
  | (.string bytes, d) => bytes.length + uptoBulk d + 1
  | (_, d) => uptoBulk d + 1
 end
def uptoSmall : (H : Type) → List (DataW H) → Bool := fun _ ds => decide (uptoBulkAll ds ≤ 1048576)
def OpenSpec.upto (s : _root_.Go.ChangeSpec) : _root_.Go.OpenSpec := { _root_.Go.OpenSpec.ofChange s with cond := some uptoSmall }

/-- 'doubletlaw30.EquivTells', WHERE WHAT IT READS IS OF BULK AT MOST 1048576: true; the input reads as it did. -/
def equivTellsUptoRow : OpenClaim := { program := "ytengfapcaaacaaagreatdoor", sum := "8e40989d6703c84978bd4071ea16cd718da480106d5181e4ecd82af3612e1792", func := "doublet/doubletlaw30.EquivTells", spec := "equivTells", inPlace := ["internal/bytealg.IndexByte", "internal/bytealg.Index"], unfollowed := true, recurses := true, named := ["internal/bytealg.MaxLen", "math/bits.deBruijn64tab"], plainKeys := false, apart := false, laid := [("math/bits.deBruijn64tab", laid_math_bits_deBruijn64tab)], narrowed := true }
def EquivTellsUptoSaid : Prop := equivTellsUptoRow.holds Tryz.pinned (OpenSpec.upto equivTellsSpec)

/-- 'doubletlaw30.EquivInside', WHERE WHAT IT READS IS OF BULK AT MOST 1048576: true; the input reads as it did. -/
def equivInsideUptoRow : OpenClaim := { program := "ytengfapcaaacaaagreatdoor", sum := "8e40989d6703c84978bd4071ea16cd718da480106d5181e4ecd82af3612e1792", func := "doublet/doubletlaw30.EquivInside", spec := "equivInside", inPlace := ["internal/bytealg.IndexByte", "internal/bytealg.Index"], unfollowed := true, recurses := true, named := ["internal/bytealg.MaxLen", "math/bits.deBruijn64tab"], plainKeys := false, apart := false, laid := [("math/bits.deBruijn64tab", laid_math_bits_deBruijn64tab)], narrowed := true }
def EquivInsideUptoSaid : Prop := equivInsideUptoRow.holds Tryz.pinned (OpenSpec.upto equivInsideSpec)

/-- 'doubletlaw31.ProductLeast', WHERE WHAT IT READS IS OF BULK AT MOST 1048576: true; the input reads as it did. -/
def productLeastUptoRow : OpenClaim := { program := "ytengfapcaaacaaagreatdoor", sum := "8e40989d6703c84978bd4071ea16cd718da480106d5181e4ecd82af3612e1792", func := "doublet/doubletlaw31.ProductLeast", spec := "productLeast", inPlace := ["internal/bytealg.IndexByte", "internal/bytealg.Index", "slices.overlaps[[]int]", "slices.overlaps[int]"], unfollowed := true, recurses := true, named := ["internal/bytealg.MaxLen", "math/bits.deBruijn64tab"], plainKeys := false, apart := false, laid := [("math/bits.deBruijn64tab", laid_math_bits_deBruijn64tab)], narrowed := true }
def ProductLeastUptoSaid : Prop := productLeastUptoRow.holds Tryz.pinned (OpenSpec.upto productLeastSpec)

/-- 'doubletlaw31.ProductClashes', WHERE WHAT IT READS IS OF BULK AT MOST 1048576: true; the input reads as it did. -/
def productClashesUptoRow : OpenClaim := { program := "ytengfapcaaacaaagreatdoor", sum := "8e40989d6703c84978bd4071ea16cd718da480106d5181e4ecd82af3612e1792", func := "doublet/doubletlaw31.ProductClashes", spec := "productClashes", inPlace := ["internal/bytealg.IndexByte", "internal/bytealg.Index", "slices.overlaps[[]int]", "slices.overlaps[int]"], unfollowed := true, recurses := true, named := ["internal/bytealg.MaxLen", "math/bits.deBruijn64tab"], plainKeys := false, apart := false, laid := [("math/bits.deBruijn64tab", laid_math_bits_deBruijn64tab)], narrowed := true }
def ProductClashesUptoSaid : Prop := productClashesUptoRow.holds Tryz.pinned (OpenSpec.upto productClashesSpec)

/-- 'doubletlaw30.EquivStates', WHERE WHAT IT READS IS OF BULK AT MOST 1048576: true; the input reads as it did. -/
def equivStatesUptoRow : OpenClaim := { program := "ytengfapcaaacaaagreatdoor", sum := "8e40989d6703c84978bd4071ea16cd718da480106d5181e4ecd82af3612e1792", func := "doublet/doubletlaw30.EquivStates", spec := "equivStates", inPlace := ["internal/bytealg.IndexByte", "internal/bytealg.Index"], unfollowed := true, recurses := true, named := ["math/bits.deBruijn64tab", "internal/bytealg.MaxLen"], plainKeys := false, apart := false, laid := [("math/bits.deBruijn64tab", laid_math_bits_deBruijn64tab)], narrowed := true }
def EquivStatesUptoSaid : Prop := equivStatesUptoRow.holds Tryz.pinned (OpenSpec.upto equivStatesSpec)

/-- 'doubletlaw31.ProductNames', WHERE WHAT IT READS IS OF BULK AT MOST 1048576: true; the input reads as it did. -/
def productNamesUptoRow : OpenClaim := { program := "ytengfapcaaacaaagreatdoor", sum := "8e40989d6703c84978bd4071ea16cd718da480106d5181e4ecd82af3612e1792", func := "doublet/doubletlaw31.ProductNames", spec := "productNames", inPlace := ["internal/bytealg.IndexByte", "internal/bytealg.Index", "slices.overlaps[[]int]", "slices.overlaps[int]"], unfollowed := true, recurses := true, named := ["internal/bytealg.MaxLen", "math/bits.deBruijn64tab"], plainKeys := false, apart := false, laid := [("math/bits.deBruijn64tab", laid_math_bits_deBruijn64tab)], narrowed := true }
def ProductNamesUptoSaid : Prop := productNamesUptoRow.holds Tryz.pinned (OpenSpec.upto productNamesSpec)

/-- 'doubletlaw33.MunchNames', WHERE WHAT IT READS IS OF BULK AT MOST 1048576: true; the input reads as it did. -/
def munchNamesUptoRow : OpenClaim := { program := "ytengfapcaaacaaagreatdoor", sum := "8e40989d6703c84978bd4071ea16cd718da480106d5181e4ecd82af3612e1792", func := "doublet/doubletlaw33.MunchNames", spec := "munchNames", inPlace := ["internal/bytealg.IndexByte", "internal/bytealg.Index"], unfollowed := true, recurses := true, named := ["internal/bytealg.MaxLen", "math/bits.deBruijn64tab"], plainKeys := false, apart := false, laid := [("math/bits.deBruijn64tab", laid_math_bits_deBruijn64tab)], narrowed := true }
def MunchNamesUptoSaid : Prop := munchNamesUptoRow.holds Tryz.pinned (OpenSpec.upto munchNamesSpec)

end Rows
end Go.Proofs.YtengfapcaaacaaaGreatDoor
