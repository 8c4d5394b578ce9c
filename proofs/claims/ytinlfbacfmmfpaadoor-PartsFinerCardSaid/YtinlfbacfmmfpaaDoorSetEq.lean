/- Whether two sets are one: the comparison of four words. No program in sight. -/
import Derived.Test.YtinlfbacfmmfpaaDoorBase
import Derived.Test.YtinlfbacfmmfpaaDoorMap
namespace Go.Proofs.YtinlfbacfmmfpaaDoor
open Go.RowKit

theorem run_eqS {P : Program} {t e : TypeId} (hu : P.underlying t = some (.array 4 e)) (he : P.underlying e = some (.int .u64)) (hi : (P.info? e).map (fun i => i.size) = some 1) (s u : BSet) (w : World) :
    (Op.equalIn 10000 t (setV s) (setV u)).run P w = .ok (decide (s = u)) w := by
  cases hq : P.info? e with
  | none => simp [hq] at hi
  | some i =>
    have hs : i.size = 1 := by simpa [hq] using hi
    have hc : P.cellsOf e = 1 := by simp [Program.cellsOf, hq, hs]
    have := run_equalIn_ints (P := P) 9998 (q := .u64) hu he hq hc [(word s 0 : Nat), (word s 1 : Nat), (word s 2 : Nat), (word s 3 : Nat)] [(word u 0 : Nat), (word u 1 : Nat), (word u 2 : Nat), (word u 3 : Nat)] rfl rfl w
    refine this.trans ?_
    congr 1
    rw [decide_eq_decide]
    constructor
    · intro h
      simp only [List.cons.injEq, and_true, Int.natCast_inj] at h
      obtain ⟨h0, h1, h2, h3⟩ := h
      refine word_inj fun i hi => ?_
      match i, hi with
      | 0, _ => exact h0
      | 1, _ => exact h1
      | 2, _ => exact h2
      | 3, _ => exact h3
    · rintro rfl; rfl
end Go.Proofs.YtinlfbacfmmfpaaDoor
