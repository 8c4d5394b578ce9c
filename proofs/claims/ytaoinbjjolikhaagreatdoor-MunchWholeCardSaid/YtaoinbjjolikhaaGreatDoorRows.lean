/-
  NARROWER THAN 'FOR EVERY INPUT', by the rows' own cells (each row's printed sentence says how): MunchTokens: laid · MunchNext: laid · MunchNames: laid · MunchWhole: laid · StreamFeeds: laid · StreamNil: laid · StreamParts: laid.
  DERIVED. THE GIVEN ROWS OF THIS SEAT. 7 by the template 'for every input the law returns true; each argument reads behind the call as it read before'; 0 by the template 'total and deterministic' (their statements: YtaoinbjjolikhaaGreatDoorTotals.lean).
  GIVEN WITH THE SEED: the statements are not yours to turn. If you find one false, say at which input.
  Laid BY PROGRAM, IN A SANDBOX (cutbox-rows.mjs): the forced cells as the released guide's own fill.sh prints them over the translation b67cc24bdbd91fac… (all of the seat's roots in one cut). By AI agents, Wed Nov 11 2026. No macro, syntax, notation, axiom, sorry.
-/
import Derived.Test.YtaoinbjjolikhaaGreatDoorChecked
import GoSem.Claim
import GoSem.ClaimJoined
import GoSem.ClaimMapViews
import Derived.JoinedTies
import Derived.KernelRfl
namespace Go.Proofs.YtaoinbjjolikhaaGreatDoor
/- THE CELL 'sum', in the pinned program and in every row, IS THE sha256 OF THE DUMP (.gsa) THAT YtaoinbjjolikhaaGreatDoorProg.lean LOADS. Nothing in Lean hashes anything: it is a label: what it is worth is what the hold of that sum in a sandbox is worth. -/
noncomputable def Tryz.pinned : Pinned := { name := "ytaoinbjjolikhaagreatdoor", sum := "b67cc24bdbd91fac453163e46aff034db0d557fc23702e54aaa5f4cdf5d60bae", checked := Tryz.checked }
namespace Rows
def none {H : Type} : Left H := { results := [], args := [] }

/- WHAT THE LISTED PACKAGE-LEVEL VARIABLES READ AS WHEN THE CALL BEGINS. Each datum BY PROGRAM (the guide's laid-datum.mjs) off the statement by which the dump's own 'gosem.cut.vars' lays the variable. In a bare row this is a premise. The card (YtaoinbjjolikhaaGreatDoorCards.lean) ties it to the program's text. -/
def laid_math_bits_deBruijn64tab {H : Type} : DataW H := .agg [.lit (.int .u8 0), .lit (.int .u8 1), .lit (.int .u8 56), .lit (.int .u8 2), .lit (.int .u8 57), .lit (.int .u8 49), .lit (.int .u8 28), .lit (.int .u8 3), .lit (.int .u8 61), .lit (.int .u8 58), .lit (.int .u8 42), .lit (.int .u8 50), .lit (.int .u8 38), .lit (.int .u8 29), .lit (.int .u8 17), .lit (.int .u8 4), .lit (.int .u8 62), .lit (.int .u8 47), .lit (.int .u8 59), .lit (.int .u8 36), .lit (.int .u8 45), .lit (.int .u8 43), .lit (.int .u8 51), .lit (.int .u8 22), .lit (.int .u8 53), .lit (.int .u8 39), .lit (.int .u8 33), .lit (.int .u8 30), .lit (.int .u8 24), .lit (.int .u8 18), .lit (.int .u8 12), .lit (.int .u8 5), .lit (.int .u8 63), .lit (.int .u8 55), .lit (.int .u8 48), .lit (.int .u8 27), .lit (.int .u8 60), .lit (.int .u8 41), .lit (.int .u8 37), .lit (.int .u8 16), .lit (.int .u8 46), .lit (.int .u8 35), .lit (.int .u8 44), .lit (.int .u8 21), .lit (.int .u8 52), .lit (.int .u8 32), .lit (.int .u8 23), .lit (.int .u8 11), .lit (.int .u8 54), .lit (.int .u8 26), .lit (.int .u8 40), .lit (.int .u8 15), .lit (.int .u8 34), .lit (.int .u8 20), .lit (.int .u8 31), .lit (.int .u8 10), .lit (.int .u8 25), .lit (.int .u8 14), .lit (.int .u8 19), .lit (.int .u8 9), .lit (.int .u8 13), .lit (.int .u8 8), .lit (.int .u8 7), .lit (.int .u8 6)]

/-- 'doubletlaw33.MunchTokens': WHATEVER THE INPUT: true; the input reads as it did. -/
def munchTokensSpec : ChangeSpec := { name := "munchTokens", fn := fun _ => fun
  | [d1, d2] => { results := [.lit (.bool true)], args := [d1, d2] }
  | _ => none }
def munchTokensRow : OpenClaim := { program := "ytaoinbjjolikhaagreatdoor", sum := "b67cc24bdbd91fac453163e46aff034db0d557fc23702e54aaa5f4cdf5d60bae", func := "doublet/doubletlaw33.MunchTokens", spec := "munchTokens", inPlace := ["internal/bytealg.IndexByte", "internal/bytealg.Index"], unfollowed := true, recurses := true, named := ["internal/bytealg.MaxLen", "math/bits.deBruijn64tab"], plainKeys := false, apart := false, laid := [("math/bits.deBruijn64tab", laid_math_bits_deBruijn64tab)] }
def MunchTokensSaid : Prop := munchTokensRow.holds Tryz.pinned (OpenSpec.ofChange munchTokensSpec)

/-- ITS FALSE NEIGHBOUR: 'it returns false'. Refute it at one input. -/
def munchTokensWrong : ChangeSpec := { name := "munchTokens", fn := fun _ => fun
  | [d1, d2] => { results := [.lit (.bool false)], args := [d1, d2] }
  | _ => none }
def MunchTokensWrongFalsely : Prop := munchTokensRow.holds Tryz.pinned (OpenSpec.ofChange munchTokensWrong)

/-- 'doubletlaw33.MunchNext': WHATEVER THE INPUT: true; the input reads as it did. -/
def munchNextSpec : ChangeSpec := { name := "munchNext", fn := fun _ => fun
  | [d1, d2, d3] => { results := [.lit (.bool true)], args := [d1, d2, d3] }
  | _ => none }
def munchNextRow : OpenClaim := { program := "ytaoinbjjolikhaagreatdoor", sum := "b67cc24bdbd91fac453163e46aff034db0d557fc23702e54aaa5f4cdf5d60bae", func := "doublet/doubletlaw33.MunchNext", spec := "munchNext", inPlace := ["internal/bytealg.IndexByte", "internal/bytealg.Index"], unfollowed := true, recurses := true, named := ["internal/bytealg.MaxLen", "math/bits.deBruijn64tab"], plainKeys := false, apart := false, laid := [("math/bits.deBruijn64tab", laid_math_bits_deBruijn64tab)] }
def MunchNextSaid : Prop := munchNextRow.holds Tryz.pinned (OpenSpec.ofChange munchNextSpec)

/-- ITS FALSE NEIGHBOUR: 'it returns false'. Refute it at one input. -/
def munchNextWrong : ChangeSpec := { name := "munchNext", fn := fun _ => fun
  | [d1, d2, d3] => { results := [.lit (.bool false)], args := [d1, d2, d3] }
  | _ => none }
def MunchNextWrongFalsely : Prop := munchNextRow.holds Tryz.pinned (OpenSpec.ofChange munchNextWrong)

/-- 'doubletlaw33.MunchNames': WHATEVER THE INPUT: true; the input reads as it did. -/
def munchNamesSpec : ChangeSpec := { name := "munchNames", fn := fun _ => fun
  | [d1, d2, d3] => { results := [.lit (.bool true)], args := [d1, d2, d3] }
  | _ => none }
def munchNamesRow : OpenClaim := { program := "ytaoinbjjolikhaagreatdoor", sum := "b67cc24bdbd91fac453163e46aff034db0d557fc23702e54aaa5f4cdf5d60bae", func := "doublet/doubletlaw33.MunchNames", spec := "munchNames", inPlace := ["internal/bytealg.IndexByte", "internal/bytealg.Index"], unfollowed := true, recurses := true, named := ["internal/bytealg.MaxLen", "math/bits.deBruijn64tab"], plainKeys := false, apart := false, laid := [("math/bits.deBruijn64tab", laid_math_bits_deBruijn64tab)] }
def MunchNamesSaid : Prop := munchNamesRow.holds Tryz.pinned (OpenSpec.ofChange munchNamesSpec)

/-- ITS FALSE NEIGHBOUR: 'it returns false'. Refute it at one input. -/
def munchNamesWrong : ChangeSpec := { name := "munchNames", fn := fun _ => fun
  | [d1, d2, d3] => { results := [.lit (.bool false)], args := [d1, d2, d3] }
  | _ => none }
def MunchNamesWrongFalsely : Prop := munchNamesRow.holds Tryz.pinned (OpenSpec.ofChange munchNamesWrong)

/-- 'doubletlaw33.MunchWhole': WHATEVER THE INPUT: true; the input reads as it did. -/
def munchWholeSpec : ChangeSpec := { name := "munchWhole", fn := fun _ => fun
  | [d1, d2] => { results := [.lit (.bool true)], args := [d1, d2] }
  | _ => none }
def munchWholeRow : OpenClaim := { program := "ytaoinbjjolikhaagreatdoor", sum := "b67cc24bdbd91fac453163e46aff034db0d557fc23702e54aaa5f4cdf5d60bae", func := "doublet/doubletlaw33.MunchWhole", spec := "munchWhole", inPlace := ["internal/bytealg.IndexByte", "internal/bytealg.Index"], unfollowed := true, recurses := true, named := ["internal/bytealg.MaxLen", "math/bits.deBruijn64tab"], plainKeys := false, apart := false, laid := [("math/bits.deBruijn64tab", laid_math_bits_deBruijn64tab)] }
def MunchWholeSaid : Prop := munchWholeRow.holds Tryz.pinned (OpenSpec.ofChange munchWholeSpec)

/-- ITS FALSE NEIGHBOUR: 'it returns false'. Refute it at one input. -/
def munchWholeWrong : ChangeSpec := { name := "munchWhole", fn := fun _ => fun
  | [d1, d2] => { results := [.lit (.bool false)], args := [d1, d2] }
  | _ => none }
def MunchWholeWrongFalsely : Prop := munchWholeRow.holds Tryz.pinned (OpenSpec.ofChange munchWholeWrong)

/-- 'doubletlaw34.StreamFeeds': WHATEVER THE INPUT: true; the input reads as it did. -/
def streamFeedsSpec : ChangeSpec := { name := "streamFeeds", fn := fun _ => fun
  | [d1, d2, d3] => { results := [.lit (.bool true)], args := [d1, d2, d3] }
  | _ => none }
def streamFeedsRow : OpenClaim := { program := "ytaoinbjjolikhaagreatdoor", sum := "b67cc24bdbd91fac453163e46aff034db0d557fc23702e54aaa5f4cdf5d60bae", func := "doublet/doubletlaw34.StreamFeeds", spec := "streamFeeds", inPlace := ["internal/bytealg.IndexByte", "internal/bytealg.Index"], unfollowed := true, recurses := true, named := ["internal/bytealg.MaxLen", "math/bits.deBruijn64tab"], plainKeys := false, apart := false, laid := [("math/bits.deBruijn64tab", laid_math_bits_deBruijn64tab)] }
def StreamFeedsSaid : Prop := streamFeedsRow.holds Tryz.pinned (OpenSpec.ofChange streamFeedsSpec)

/-- ITS FALSE NEIGHBOUR: 'it returns false'. Refute it at one input. -/
def streamFeedsWrong : ChangeSpec := { name := "streamFeeds", fn := fun _ => fun
  | [d1, d2, d3] => { results := [.lit (.bool false)], args := [d1, d2, d3] }
  | _ => none }
def StreamFeedsWrongFalsely : Prop := streamFeedsRow.holds Tryz.pinned (OpenSpec.ofChange streamFeedsWrong)

/-- 'doubletlaw34.StreamNil': WHATEVER THE INPUT: true; the input reads as it did. -/
def streamNilSpec : ChangeSpec := { name := "streamNil", fn := fun _ => fun
  | [d] => { results := [.lit (.bool true)], args := [d] }
  | _ => none }
def streamNilRow : OpenClaim := { program := "ytaoinbjjolikhaagreatdoor", sum := "b67cc24bdbd91fac453163e46aff034db0d557fc23702e54aaa5f4cdf5d60bae", func := "doublet/doubletlaw34.StreamNil", spec := "streamNil", inPlace := ["internal/bytealg.IndexByte", "internal/bytealg.Index"], unfollowed := true, recurses := true, named := ["internal/bytealg.MaxLen", "math/bits.deBruijn64tab"], plainKeys := false, apart := false, laid := [("math/bits.deBruijn64tab", laid_math_bits_deBruijn64tab)] }
def StreamNilSaid : Prop := streamNilRow.holds Tryz.pinned (OpenSpec.ofChange streamNilSpec)

/-- ITS FALSE NEIGHBOUR: 'it returns false'. Refute it at one input. -/
def streamNilWrong : ChangeSpec := { name := "streamNil", fn := fun _ => fun
  | [d] => { results := [.lit (.bool false)], args := [d] }
  | _ => none }
def StreamNilWrongFalsely : Prop := streamNilRow.holds Tryz.pinned (OpenSpec.ofChange streamNilWrong)

/-- 'doubletlaw34.StreamParts': WHATEVER THE INPUT: true; the input reads as it did. -/
def streamPartsSpec : ChangeSpec := { name := "streamParts", fn := fun _ => fun
  | [d1, d2] => { results := [.lit (.bool true)], args := [d1, d2] }
  | _ => none }
def streamPartsRow : OpenClaim := { program := "ytaoinbjjolikhaagreatdoor", sum := "b67cc24bdbd91fac453163e46aff034db0d557fc23702e54aaa5f4cdf5d60bae", func := "doublet/doubletlaw34.StreamParts", spec := "streamParts", inPlace := ["internal/bytealg.IndexByte", "internal/bytealg.Index"], unfollowed := true, recurses := true, named := ["internal/bytealg.MaxLen", "math/bits.deBruijn64tab"], plainKeys := false, apart := false, laid := [("math/bits.deBruijn64tab", laid_math_bits_deBruijn64tab)] }
def StreamPartsSaid : Prop := streamPartsRow.holds Tryz.pinned (OpenSpec.ofChange streamPartsSpec)

/-- ITS FALSE NEIGHBOUR: 'it returns false'. Refute it at one input. -/
def streamPartsWrong : ChangeSpec := { name := "streamParts", fn := fun _ => fun
  | [d1, d2] => { results := [.lit (.bool false)], args := [d1, d2] }
  | _ => none }
def StreamPartsWrongFalsely : Prop := streamPartsRow.holds Tryz.pinned (OpenSpec.ofChange streamPartsWrong)

/- THE SECOND FORM. 'bulk': how many values and letters a reading holds, each counted each time it is reached (what is shared counts as often as it is met; a slice's spare places count too). A statement '..UptoSaid' is the law's where the arguments, and the package variables that the reading takes, are together of bulk at most 1048576: NARROWER than '..Said'. Prove '..Said' where nothing that the law and all that it calls make is longer than what came in: it says more and counts as full. Else prove '..UptoSaid'. A law counts once. -/
mutual
def uptoBulk {H : Type} : DataW H → Nat
  | .lit (.string bytes) => bytes.length + 1
  | .lit _ => 1
  | .nil => 1
  | .ptr d => uptoBulk d + 1
  | .slice elems spare => uptoBulkAll elems + uptoBulkAll spare + 1
  | .agg parts => uptoBulkAll parts + 1
  | .iface _ d => uptoBulk d + 1
  | .map entries => uptoBulkEntries entries + 1
  | .held _ => 1
def uptoBulkAll {H : Type} : List (DataW H) → Nat
  | [] => 0
  | d :: r => uptoBulk d + uptoBulkAll r
def uptoBulkEntries {H : Type} : List (Lit × DataW H) → Nat
  | [] => 0
  | x :: r => uptoBulkEntry x + uptoBulkEntries r
def uptoBulkEntry {H : Type} : Lit × DataW H → Nat
  | (.string bytes, d) => bytes.length + uptoBulk d + 1
  | (_, d) => uptoBulk d + 1
 end
def uptoSmall : (H : Type) → List (DataW H) → Bool := fun _ ds => decide (uptoBulkAll ds ≤ 1048576)
def OpenSpec.upto (s : _root_.Go.ChangeSpec) : _root_.Go.OpenSpec := { _root_.Go.OpenSpec.ofChange s with cond := some uptoSmall }

/-- 'doubletlaw33.MunchTokens', WHERE WHAT IT READS IS OF BULK AT MOST 1048576: true; the input reads as it did. -/
def munchTokensUptoRow : OpenClaim := { program := "ytaoinbjjolikhaagreatdoor", sum := "b67cc24bdbd91fac453163e46aff034db0d557fc23702e54aaa5f4cdf5d60bae", func := "doublet/doubletlaw33.MunchTokens", spec := "munchTokens", inPlace := ["internal/bytealg.IndexByte", "internal/bytealg.Index"], unfollowed := true, recurses := true, named := ["internal/bytealg.MaxLen", "math/bits.deBruijn64tab"], plainKeys := false, apart := false, laid := [("math/bits.deBruijn64tab", laid_math_bits_deBruijn64tab)], narrowed := true }
def MunchTokensUptoSaid : Prop := munchTokensUptoRow.holds Tryz.pinned (OpenSpec.upto munchTokensSpec)

/-- 'doubletlaw33.MunchNext', WHERE WHAT IT READS IS OF BULK AT MOST 1048576: true; the input reads as it did. -/
def munchNextUptoRow : OpenClaim := { program := "ytaoinbjjolikhaagreatdoor", sum := "b67cc24bdbd91fac453163e46aff034db0d557fc23702e54aaa5f4cdf5d60bae", func := "doublet/doubletlaw33.MunchNext", spec := "munchNext", inPlace := ["internal/bytealg.IndexByte", "internal/bytealg.Index"], unfollowed := true, recurses := true, named := ["internal/bytealg.MaxLen", "math/bits.deBruijn64tab"], plainKeys := false, apart := false, laid := [("math/bits.deBruijn64tab", laid_math_bits_deBruijn64tab)], narrowed := true }
def MunchNextUptoSaid : Prop := munchNextUptoRow.holds Tryz.pinned (OpenSpec.upto munchNextSpec)

/-- 'doubletlaw33.MunchNames', WHERE WHAT IT READS IS OF BULK AT MOST 1048576: true; the input reads as it did. -/
def munchNamesUptoRow : OpenClaim := { program := "ytaoinbjjolikhaagreatdoor", sum := "b67cc24bdbd91fac453163e46aff034db0d557fc23702e54aaa5f4cdf5d60bae", func := "doublet/doubletlaw33.MunchNames", spec := "munchNames", inPlace := ["internal/bytealg.IndexByte", "internal/bytealg.Index"], unfollowed := true, recurses := true, named := ["internal/bytealg.MaxLen", "math/bits.deBruijn64tab"], plainKeys := false, apart := false, laid := [("math/bits.deBruijn64tab", laid_math_bits_deBruijn64tab)], narrowed := true }
def MunchNamesUptoSaid : Prop := munchNamesUptoRow.holds Tryz.pinned (OpenSpec.upto munchNamesSpec)

/-- 'doubletlaw33.MunchWhole', WHERE WHAT IT READS IS OF BULK AT MOST 1048576: true; the input reads as it did. -/
def munchWholeUptoRow : OpenClaim := { program := "ytaoinbjjolikhaagreatdoor", sum := "b67cc24bdbd91fac453163e46aff034db0d557fc23702e54aaa5f4cdf5d60bae", func := "doublet/doubletlaw33.MunchWhole", spec := "munchWhole", inPlace := ["internal/bytealg.IndexByte", "internal/bytealg.Index"], unfollowed := true, recurses := true, named := ["internal/bytealg.MaxLen", "math/bits.deBruijn64tab"], plainKeys := false, apart := false, laid := [("math/bits.deBruijn64tab", laid_math_bits_deBruijn64tab)], narrowed := true }
def MunchWholeUptoSaid : Prop := munchWholeUptoRow.holds Tryz.pinned (OpenSpec.upto munchWholeSpec)

/-- 'doubletlaw34.StreamFeeds', WHERE WHAT IT READS IS OF BULK AT MOST 1048576: true; the input reads as it did. -/
def streamFeedsUptoRow : OpenClaim := { program := "ytaoinbjjolikhaagreatdoor", sum := "b67cc24bdbd91fac453163e46aff034db0d557fc23702e54aaa5f4cdf5d60bae", func := "doublet/doubletlaw34.StreamFeeds", spec := "streamFeeds", inPlace := ["internal/bytealg.IndexByte", "internal/bytealg.Index"], unfollowed := true, recurses := true, named := ["internal/bytealg.MaxLen", "math/bits.deBruijn64tab"], plainKeys := false, apart := false, laid := [("math/bits.deBruijn64tab", laid_math_bits_deBruijn64tab)], narrowed := true }
def StreamFeedsUptoSaid : Prop := streamFeedsUptoRow.holds Tryz.pinned (OpenSpec.upto streamFeedsSpec)

/-- 'doubletlaw34.StreamNil', WHERE WHAT IT READS IS OF BULK AT MOST 1048576: true; the input reads as it did. -/
def streamNilUptoRow : OpenClaim := { program := "ytaoinbjjolikhaagreatdoor", sum := "b67cc24bdbd91fac453163e46aff034db0d557fc23702e54aaa5f4cdf5d60bae", func := "doublet/doubletlaw34.StreamNil", spec := "streamNil", inPlace := ["internal/bytealg.IndexByte", "internal/bytealg.Index"], unfollowed := true, recurses := true, named := ["internal/bytealg.MaxLen", "math/bits.deBruijn64tab"], plainKeys := false, apart := false, laid := [("math/bits.deBruijn64tab", laid_math_bits_deBruijn64tab)], narrowed := true }
def StreamNilUptoSaid : Prop := streamNilUptoRow.holds Tryz.pinned (OpenSpec.upto streamNilSpec)

/-- 'doubletlaw34.StreamParts', WHERE WHAT IT READS IS OF BULK AT MOST 1048576: true; the input reads as it did. -/
def streamPartsUptoRow : OpenClaim := { program := "ytaoinbjjolikhaagreatdoor", sum := "b67cc24bdbd91fac453163e46aff034db0d557fc23702e54aaa5f4cdf5d60bae", func := "doublet/doubletlaw34.StreamParts", spec := "streamParts", inPlace := ["internal/bytealg.IndexByte", "internal/bytealg.Index"], unfollowed := true, recurses := true, named := ["internal/bytealg.MaxLen", "math/bits.deBruijn64tab"], plainKeys := false, apart := false, laid := [("math/bits.deBruijn64tab", laid_math_bits_deBruijn64tab)], narrowed := true }
def StreamPartsUptoSaid : Prop := streamPartsUptoRow.holds Tryz.pinned (OpenSpec.upto streamPartsSpec)

end Rows
end Go.Proofs.YtaoinbjjolikhaaGreatDoor
