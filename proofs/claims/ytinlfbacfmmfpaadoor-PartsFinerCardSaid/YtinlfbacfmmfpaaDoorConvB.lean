/- A string out of a slice of bytes; a whole array read. No program in sight. -/
import Derived.Test.YtinlfbacfmmfpaaDoorOwn
import Derived.Laws.BytesArg
import Derived.Shelf.Bytes.SlSmallAll
namespace Go.Proofs.YtinlfbacfmmfpaaDoor
open Go.RowKit
/-- The string of a list of bytes. -/
def strB (l : List Nat) : ByteArray := strOfNums (l.map fun (x : Nat) => (x : Int))
theorem conv_strB {P : Program} {w : World} {src dst e : TypeId} (hs : P.underlying src = some (.slice e)) (he : P.underlying e = some (.int .u8)) (hd : P.underlying dst = some .string) {a : Option Addr} {cap n : Nat} {xs : List Nat} (hn : n = xs.length) (h : SliceR w (.slice a n cap) 1 encB xs) :
    (convert src dst (.slice a n cap)).run P w = .ok (.string (strB xs)) w := by
  subst hn
  obtain ⟨a', b, o, cap', hv, hl, hc, ha, hx⟩ := h
  obtain ⟨rfl, _, rfl⟩ := Value.slice.inj hv
  rcases ha with rfl | ⟨rfl, _⟩
  · refine run_convert_bytes_arg w src e hs he b o xs.length cap (xs.map fun (x : Nat) => (x : Int)) (by simp) (fun i hi => ?_) dst hd
    have := hx i hi 0 _ rfl
    rw [Nat.mul_one, Nat.add_zero] at this
    rw [this]
    simp [List.getD, hi]
  · exact run_convert_bytes_zero w src e hs he a cap dst hd
/-- A whole array (or struct) read out of a block. -/
theorem run_load_box {P : Program} {o : Oper} {a : Act} {w : World} (ty : TypeId) (x : Operand) (ho : o.op = .load ty x) (g : Nat) (hx : a.eval x = .pointer (some ⟨g, 0, none⟩)) {cs : Array Value} {E : Nat} (hb : Box w g cs E)
    {d : TypeDesc} (hu : P.underlying ty = some d) (hd : (match d with | .struct _ | .array _ _ => true | _ => false) = true) (hi : (P.info? ty).map (·.size) = some cs.size) : (execOp a.eval o).run P w = .ok (.value (.agg cs)) w := by
  unfold execOp
  simp only [ho, hx, Instr.loadAt, Instr.sureAddr, Sem.run_bind, Sem.run_pure, Result.andThen_ok, run_loadVar_row w g E ty cs (0, 0) d hb hu hd hi]
end Go.Proofs.YtinlfbacfmmfpaaDoor
