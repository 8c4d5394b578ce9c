/- A slice that was just made, all zero. No program in sight. -/
import Derived.Laws.MakeOwn
import Derived.Test.YtinlfbacfmmfpaaDoorOwn
namespace Go.Proofs.YtinlfbacfmmfpaaDoor
open Go.RowKit
theorem madeCells_get (z : Array Value) (n k : Nat) (h : k < n) (hz : 0 < z.size) : (madeCells z n)[k]? = z[k % z.size]? := by
  have hm : k % z.size < z.size := Nat.mod_lt _ hz
  simp [madeCells, h, getElem!_pos, hm]
theorem Own.made {α : Type} {enc : α → List Value} {size : Nat} (he : EncOK enc size) (w : World) (base E : Nat) (x0 : α) (z : Array Value) (hz : z.toList = enc x0) (hpos : 0 < size) (n : Nat) (hn : n ≤ maxLen) (hb : base ≤ w.heap.size) :
    Own (w.alloc (.cells (madeCells z (n * size)) E)) base E size enc (.slice (some ⟨w.heap.size, 0, none⟩) n n) (List.replicate n x0) := by
  have hsz : z.size = size := by rw [← Array.length_toList, hz, he.len]
  refine ⟨_, n, by rw [List.length_replicate], by rw [List.length_replicate]; exact Nat.le_refl _, hn, .inr ⟨w.heap.size, _, rfl, hb, Box.new _ _ _, size_madeCells _ _, fun i hi j hj => ?_⟩⟩
  rw [List.length_replicate] at hi
  have hk : i * size + j < n * size := by
    have : (i + 1) * size ≤ n * size := Nat.mul_le_mul_right _ hi
    rw [Nat.succ_mul] at this; omega
  rw [madeCells_get _ _ _ hk (by omega), hsz, List.getElem_replicate, ← hz, Array.getElem?_toList]
  congr 1
  rw [Nat.add_comm, Nat.add_mul_mod_self_right, Nat.mod_eq_of_lt hj]
/-- The operation. -/
theorem wpList_makeO {α : Type} {enc : α → List Value} {size : Nat} {P : Program} {ops : Array Oper} {rest : List Oper} {o : Oper} {a : Act} {w : World} {Q : Exit → Act → World → Prop} (hgd : o.guard = none) (t : TypeId) (x y : Operand) (ho : o.op = .makeSlice t x y)
    {E : TypeId} {z : Value} {bytes : Nat} (hE : ElemOK P t E z size bytes) (he : EncOK enc size) (x0 : α) (hz : z.cells.toList = enc x0) (n : Nat) (hx : a.eval x = .int .i64 n) (hy : a.eval y = .int .i64 n) (hbytes : bytes * n ≤ 281474976710656) (h63 : n ≤ maxLen) (base : Nat) (hb : base ≤ w.heap.size)
    (h : ∀ w1, Own w1 base E size enc (.slice (some ⟨w.heap.size, 0, none⟩) n n) (List.replicate n x0) → w1 = w.alloc (.cells (madeCells z.cells (n * size)) E) → wpList P ops Q rest (a.put o.dst (.slice (some ⟨w.heap.size, 0, none⟩) n n)) w1) : wpList P ops Q (o :: rest) a w := by
  obtain ⟨i, hi, hiz, his, hib⟩ := hE.info
  subst hib
  subst his
  refine wpList_plain hgd fun K hK => ?_
  have h63' : (n : Int) ≤ 9223372036854775807 := by have := h63; simp [maxLen] at this; omega
  have hb' : (i.bytes : Int) * (n : Int) ≤ 281474976710656 := by
    have : ((i.bytes * n : Nat) : Int) ≤ 281474976710656 := by omega
    rwa [Int.natCast_mul] at this
  have hr := run_make (P := P) w t E i z hE.slice hi hiz .i64 .i64 n n (Int.natCast_nonneg _) (Int.le_refl _) hb' h63'
  simp only [Int.toNat_natCast] at hr
  unfold Oper.wp execOp
  simp only [ho, hx, hy, Sem.run_bind, Sem.run_pure, Result.andThen_ok, hr, Oper.upon]
  exact hK _ _ (h _ (Own.made he w base E x0 z.cells hz hE.pos n h63 hb) rfl)
end Go.Proofs.YtinlfbacfmmfpaaDoor
