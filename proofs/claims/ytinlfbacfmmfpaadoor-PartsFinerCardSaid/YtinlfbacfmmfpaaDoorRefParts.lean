/- The classes of bytes, the document's: what the functions of the references come to. -/
import Derived.Test.YtinlfbacfmmfpaaDoorParts
import Derived.Test.YtinlfbacfmmfpaaDoorOwn
namespace Go.Proofs.YtinlfbacfmmfpaaDoor
open Go.RowKit

theorem elem_set : ElemOK Tryd.prog 27 34 (.agg #[.int .u64 0, .int .u64 0, .int .u64 0, .int .u64 0]) 4 32 :=
  ⟨Tryd.underlying27, info_parts (by kernel_rfl), rfl, by decide⟩
end Go.Proofs.YtinlfbacfmmfpaaDoor
