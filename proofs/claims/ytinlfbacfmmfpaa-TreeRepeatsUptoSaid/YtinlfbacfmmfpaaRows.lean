/-
  NARROWER THAN 'FOR EVERY INPUT', by the rows' own cells (each row's printed sentence says how): TreeSame: loops · TreeMakes: loops · TreeAsks: loops · TreeRepeats: loops.
  DERIVED. THE GIVEN ROWS OF THIS SEAT. 6 by the template 'for every input the law returns true; each argument reads behind the call as it read before'; 0 by the template 'total and deterministic' (their statements: YtinlfbacfmmfpaaTotals.lean).
  GIVEN WITH THE SEED: the statements are not yours to turn. If you find one false, say at which input.
  Laid BY PROGRAM, IN A SANDBOX (cutbox-rows.mjs): the forced cells as the released guide's own fill.sh prints them over the translation 7b0f4b766bbd62e8… (all of the seat's roots in one cut). By AI agents, Wed Nov 11 2026. No macro, syntax, notation, axiom, sorry.
-/
import Derived.Test.YtinlfbacfmmfpaaChecked
import GoSem.Claim
import GoSem.ClaimJoined
import GoSem.ClaimMapViews
import Derived.JoinedTies
import Derived.KernelRfl
namespace Go.Proofs.Ytinlfbacfmmfpaa
/- THE CELL 'sum', in the pinned program and in every row, IS THE sha256 OF THE DUMP (.gsa) THAT YtinlfbacfmmfpaaProg.lean LOADS. Nothing in Lean hashes anything: it is a label: what it is worth is what the hold of that sum in a sandbox is worth. -/
noncomputable def Try.pinned : Pinned := { name := "ytinlfbacfmmfpaa", sum := "7b0f4b766bbd62e89bff9e9bbaa58644554b46cdbd28516802157c1be0a61895", checked := Try.checked }
namespace Rows
def none {H : Type} : Left H := { results := [], args := [] }

/-- 'doubletlaw19.PartsOf': WHATEVER THE INPUT: true; the input reads as it did. -/
def partsOfSpec : ChangeSpec := { name := "partsOf", fn := fun _ => fun
  | [d] => { results := [.lit (.bool true)], args := [d] }
  | _ => none }
def partsOfRow : OpenClaim := { program := "ytinlfbacfmmfpaa", sum := "7b0f4b766bbd62e89bff9e9bbaa58644554b46cdbd28516802157c1be0a61895", func := "doublet/doubletlaw19.PartsOf", spec := "partsOf", unfollowed := true, recurses := true, plainKeys := false, apart := false }
def PartsOfSaid : Prop := partsOfRow.holds Try.pinned (OpenSpec.ofChange partsOfSpec)

/-- ITS FALSE NEIGHBOUR: 'it returns false'. Refute it at one input. -/
def partsOfWrong : ChangeSpec := { name := "partsOf", fn := fun _ => fun
  | [d] => { results := [.lit (.bool false)], args := [d] }
  | _ => none }
def PartsOfWrongFalsely : Prop := partsOfRow.holds Try.pinned (OpenSpec.ofChange partsOfWrong)

/-- 'doubletlaw19.PartsJoins': WHATEVER THE INPUT: true; the input reads as it did. -/
def partsJoinsSpec : ChangeSpec := { name := "partsJoins", fn := fun _ => fun
  | [d1, d2] => { results := [.lit (.bool true)], args := [d1, d2] }
  | _ => none }
def partsJoinsRow : OpenClaim := { program := "ytinlfbacfmmfpaa", sum := "7b0f4b766bbd62e89bff9e9bbaa58644554b46cdbd28516802157c1be0a61895", func := "doublet/doubletlaw19.PartsJoins", spec := "partsJoins", unfollowed := true, recurses := true, plainKeys := false, apart := false }
def PartsJoinsSaid : Prop := partsJoinsRow.holds Try.pinned (OpenSpec.ofChange partsJoinsSpec)

/-- ITS FALSE NEIGHBOUR: 'it returns false'. Refute it at one input. -/
def partsJoinsWrong : ChangeSpec := { name := "partsJoins", fn := fun _ => fun
  | [d1, d2] => { results := [.lit (.bool false)], args := [d1, d2] }
  | _ => none }
def PartsJoinsWrongFalsely : Prop := partsJoinsRow.holds Try.pinned (OpenSpec.ofChange partsJoinsWrong)

/-- 'doubletlaw06.TreeSame': WHATEVER THE INPUT: true; the input reads as it did. -/
def treeSameSpec : ChangeSpec := { name := "treeSame", fn := fun _ => fun
  | [d1, d2] => { results := [.lit (.bool true)], args := [d1, d2] }
  | _ => none }
def treeSameRow : OpenClaim := { program := "ytinlfbacfmmfpaa", sum := "7b0f4b766bbd62e89bff9e9bbaa58644554b46cdbd28516802157c1be0a61895", func := "doublet/doubletlaw06.TreeSame", spec := "treeSame", unfollowed := true, recurses := true, loops := true, plainKeys := false, apart := false }
def TreeSameSaid : Prop := treeSameRow.holds Try.pinned (OpenSpec.ofChange treeSameSpec)

/-- ITS FALSE NEIGHBOUR: 'it returns false'. Refute it at one input. -/
def treeSameWrong : ChangeSpec := { name := "treeSame", fn := fun _ => fun
  | [d1, d2] => { results := [.lit (.bool false)], args := [d1, d2] }
  | _ => none }
def TreeSameWrongFalsely : Prop := treeSameRow.holds Try.pinned (OpenSpec.ofChange treeSameWrong)

/-- 'doubletlaw06.TreeMakes': WHATEVER THE INPUT: true; the input reads as it did. -/
def treeMakesSpec : ChangeSpec := { name := "treeMakes", fn := fun _ => fun
  | [d1, d2] => { results := [.lit (.bool true)], args := [d1, d2] }
  | _ => none }
def treeMakesRow : OpenClaim := { program := "ytinlfbacfmmfpaa", sum := "7b0f4b766bbd62e89bff9e9bbaa58644554b46cdbd28516802157c1be0a61895", func := "doublet/doubletlaw06.TreeMakes", spec := "treeMakes", unfollowed := true, recurses := true, loops := true, plainKeys := false, apart := false }
def TreeMakesSaid : Prop := treeMakesRow.holds Try.pinned (OpenSpec.ofChange treeMakesSpec)

/-- ITS FALSE NEIGHBOUR: 'it returns false'. Refute it at one input. -/
def treeMakesWrong : ChangeSpec := { name := "treeMakes", fn := fun _ => fun
  | [d1, d2] => { results := [.lit (.bool false)], args := [d1, d2] }
  | _ => none }
def TreeMakesWrongFalsely : Prop := treeMakesRow.holds Try.pinned (OpenSpec.ofChange treeMakesWrong)

/-- 'doubletlaw06.TreeAsks': WHATEVER THE INPUT: true; the input reads as it did. -/
def treeAsksSpec : ChangeSpec := { name := "treeAsks", fn := fun _ => fun
  | [d] => { results := [.lit (.bool true)], args := [d] }
  | _ => none }
def treeAsksRow : OpenClaim := { program := "ytinlfbacfmmfpaa", sum := "7b0f4b766bbd62e89bff9e9bbaa58644554b46cdbd28516802157c1be0a61895", func := "doublet/doubletlaw06.TreeAsks", spec := "treeAsks", unfollowed := true, recurses := true, loops := true, plainKeys := false, apart := false }
def TreeAsksSaid : Prop := treeAsksRow.holds Try.pinned (OpenSpec.ofChange treeAsksSpec)

/-- ITS FALSE NEIGHBOUR: 'it returns false'. Refute it at one input. -/
def treeAsksWrong : ChangeSpec := { name := "treeAsks", fn := fun _ => fun
  | [d] => { results := [.lit (.bool false)], args := [d] }
  | _ => none }
def TreeAsksWrongFalsely : Prop := treeAsksRow.holds Try.pinned (OpenSpec.ofChange treeAsksWrong)

/-- 'doubletlaw06.TreeRepeats': WHATEVER THE INPUT: true; the input reads as it did. -/
def treeRepeatsSpec : ChangeSpec := { name := "treeRepeats", fn := fun _ => fun
  | [d1, d2, d3, d4] => { results := [.lit (.bool true)], args := [d1, d2, d3, d4] }
  | _ => none }
def treeRepeatsRow : OpenClaim := { program := "ytinlfbacfmmfpaa", sum := "7b0f4b766bbd62e89bff9e9bbaa58644554b46cdbd28516802157c1be0a61895", func := "doublet/doubletlaw06.TreeRepeats", spec := "treeRepeats", unfollowed := true, recurses := true, loops := true, plainKeys := false, apart := false }
def TreeRepeatsSaid : Prop := treeRepeatsRow.holds Try.pinned (OpenSpec.ofChange treeRepeatsSpec)

/-- ITS FALSE NEIGHBOUR: 'it returns false'. Refute it at one input. -/
def treeRepeatsWrong : ChangeSpec := { name := "treeRepeats", fn := fun _ => fun
  | [d1, d2, d3, d4] => { results := [.lit (.bool false)], args := [d1, d2, d3, d4] }
  | _ => none }
def TreeRepeatsWrongFalsely : Prop := treeRepeatsRow.holds Try.pinned (OpenSpec.ofChange treeRepeatsWrong)

/- THE SECOND FORM. 'bulk': how many values and letters a reading holds, each counted each time it is reached (what is shared counts as often as it is met; a slice's spare places count too). A statement '..UptoSaid' is the law's where the arguments, and the package variables that the reading takes, are together of bulk at most 1048576: NARROWER than '..Said'. Prove '..Said' where nothing that the law and all that it calls make is longer than what came in: it says more and counts as full. Else prove '..UptoSaid'. A law counts once. -/
mutual
def uptoBulk {H : Type} : DataW H → Nat
  | .lit (.string bytes) => bytes.length + 1
  | .lit _ => 1
  | .nil => 1
  | .ptr d => uptoBulk d + 1
  | .slice elems spare => uptoBulkAll elems + uptoBulkAll spare + 1
  | .agg parts => uptoBulkAll parts + 1
  | .iface _ d => uptoBulk d + 1
  | .map entries => uptoBulkEntries entries + 1
  | .held _ => 1
def uptoBulkAll {H : Type} : List (DataW H) → Nat
  | [] => 0
  | d :: r => uptoBulk d + uptoBulkAll r
def uptoBulkEntries {H : Type} : List (Lit × DataW H) → Nat
  | [] => 0
  | x :: r => uptoBulkEntry x + uptoBulkEntries r
def uptoBulkEntry {H : Type} : Lit × DataW H → Nat
  | (.string bytes, d) => bytes.length + uptoBulk d + 1
  | (_, d) => uptoBulk d + 1
 end
def uptoSmall : (H : Type) → List (DataW H) → Bool := fun _ ds => decide (uptoBulkAll ds ≤ 1048576)
def OpenSpec.upto (s : _root_.Go.ChangeSpec) : _root_.Go.OpenSpec := { _root_.Go.OpenSpec.ofChange s with cond := some uptoSmall }

/-- 'doubletlaw19.PartsOf', WHERE WHAT IT READS IS OF BULK AT MOST 1048576: true; the input reads as it did. -/
def partsOfUptoRow : OpenClaim := { program := "ytinlfbacfmmfpaa", sum := "7b0f4b766bbd62e89bff9e9bbaa58644554b46cdbd28516802157c1be0a61895", func := "doublet/doubletlaw19.PartsOf", spec := "partsOf", unfollowed := true, recurses := true, plainKeys := false, apart := false, narrowed := true }
def PartsOfUptoSaid : Prop := partsOfUptoRow.holds Try.pinned (OpenSpec.upto partsOfSpec)

/-- 'doubletlaw19.PartsJoins', WHERE WHAT IT READS IS OF BULK AT MOST 1048576: true; the input reads as it did. -/
def partsJoinsUptoRow : OpenClaim := { program := "ytinlfbacfmmfpaa", sum := "7b0f4b766bbd62e89bff9e9bbaa58644554b46cdbd28516802157c1be0a61895", func := "doublet/doubletlaw19.PartsJoins", spec := "partsJoins", unfollowed := true, recurses := true, plainKeys := false, apart := false, narrowed := true }
def PartsJoinsUptoSaid : Prop := partsJoinsUptoRow.holds Try.pinned (OpenSpec.upto partsJoinsSpec)

/-- 'doubletlaw06.TreeSame', WHERE WHAT IT READS IS OF BULK AT MOST 1048576: true; the input reads as it did. -/
def treeSameUptoRow : OpenClaim := { program := "ytinlfbacfmmfpaa", sum := "7b0f4b766bbd62e89bff9e9bbaa58644554b46cdbd28516802157c1be0a61895", func := "doublet/doubletlaw06.TreeSame", spec := "treeSame", unfollowed := true, recurses := true, loops := true, plainKeys := false, apart := false, narrowed := true }
def TreeSameUptoSaid : Prop := treeSameUptoRow.holds Try.pinned (OpenSpec.upto treeSameSpec)

/-- 'doubletlaw06.TreeMakes', WHERE WHAT IT READS IS OF BULK AT MOST 1048576: true; the input reads as it did. -/
def treeMakesUptoRow : OpenClaim := { program := "ytinlfbacfmmfpaa", sum := "7b0f4b766bbd62e89bff9e9bbaa58644554b46cdbd28516802157c1be0a61895", func := "doublet/doubletlaw06.TreeMakes", spec := "treeMakes", unfollowed := true, recurses := true, loops := true, plainKeys := false, apart := false, narrowed := true }
def TreeMakesUptoSaid : Prop := treeMakesUptoRow.holds Try.pinned (OpenSpec.upto treeMakesSpec)

/-- 'doubletlaw06.TreeAsks', WHERE WHAT IT READS IS OF BULK AT MOST 1048576: true; the input reads as it did. -/
def treeAsksUptoRow : OpenClaim := { program := "ytinlfbacfmmfpaa", sum := "7b0f4b766bbd62e89bff9e9bbaa58644554b46cdbd28516802157c1be0a61895", func := "doublet/doubletlaw06.TreeAsks", spec := "treeAsks", unfollowed := true, recurses := true, loops := true, plainKeys := false, apart := false, narrowed := true }
def TreeAsksUptoSaid : Prop := treeAsksUptoRow.holds Try.pinned (OpenSpec.upto treeAsksSpec)

/-- 'doubletlaw06.TreeRepeats', WHERE WHAT IT READS IS OF BULK AT MOST 1048576: true; the input reads as it did. -/
def treeRepeatsUptoRow : OpenClaim := { program := "ytinlfbacfmmfpaa", sum := "7b0f4b766bbd62e89bff9e9bbaa58644554b46cdbd28516802157c1be0a61895", func := "doublet/doubletlaw06.TreeRepeats", spec := "treeRepeats", unfollowed := true, recurses := true, loops := true, plainKeys := false, apart := false, narrowed := true }
def TreeRepeatsUptoSaid : Prop := treeRepeatsUptoRow.holds Try.pinned (OpenSpec.upto treeRepeatsSpec)

end Rows
end Go.Proofs.Ytinlfbacfmmfpaa
