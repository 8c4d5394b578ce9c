/- The types of a node in this program. -/
import Derived.Test.YtinlfbacfmmfpaaRows
import Derived.Test.YtinlfbacfmmfpaaTree
namespace Go.Proofs.Ytinlfbacfmmfpaa
theorem nodeTys : NodeTys Try.prog 37 31 34 32 35 3 (match Try.prog.underlying 37 with | some (.struct fs) => fs | _ => #[]) :=
  ⟨by kernel_rfl, by kernel_rfl, Try.underlying31, Try.underlying34, Try.underlying32, Try.underlying35, Try.underlying3, by kernel_rfl, by kernel_rfl, by kernel_rfl, by kernel_rfl, by kernel_rfl, by kernel_rfl⟩
theorem own : ownKnob Try.prog.godebug = none := by kernel_rfl
theorem laidOut : laidOutB Try.prog = true := by kernel_rfl
end Go.Proofs.Ytinlfbacfmmfpaa
