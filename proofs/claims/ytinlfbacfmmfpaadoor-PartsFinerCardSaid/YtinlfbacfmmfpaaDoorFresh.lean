/- Slices over blocks that were just laid, as arguments. No program in sight. -/
import Derived.Test.YtinlfbacfmmfpaaDoorOwn
namespace Go.Proofs.YtinlfbacfmmfpaaDoor
open Go.RowKit
theorem sl_new {α : Type} {enc : α → List Value} {size : Nat} (he : EncOK enc size) (w : World) (E : Nat) (xs : List α) (hm : xs.length ≤ maxLen) : SliceR (w.alloc (.cells (xs.flatMap enc).toArray E)) (.slice (some ⟨w.heap.size, 0, none⟩) xs.length xs.length) size enc xs := by
  refine ⟨_, w.heap.size, 0, _, rfl, Nat.le_refl _, hm, .inl rfl, fun i hi j u hu => ?_⟩
  have hj : j < size := by have := (List.getElem?_eq_some_iff.1 hu).1; rwa [he.len] at this
  rw [(Box.new w _ E).cell, Nat.zero_add]
  simpa [flatMap_get he.len xs i j hi hj] using hu
theorem sl_new2 (w : World) (a b : BSet) (E : Nat) : SliceR (w.alloc (.cells #[.int .u64 (word a 0 : Nat), .int .u64 (word a 1 : Nat), .int .u64 (word a 2 : Nat), .int .u64 (word a 3 : Nat), .int .u64 (word b 0 : Nat), .int .u64 (word b 1 : Nat), .int .u64 (word b 2 : Nat), .int .u64 (word b 3 : Nat)] E)) (.slice (some ⟨w.heap.size, 0, none⟩) 2 2) 4 encS [a, b] :=
  sl_new encS_ok w E [a, b] (by simp [maxLen])
theorem sl_newB1 (w : World) (x : Nat) (E : Nat) : SliceR (w.alloc (.cells #[.int .u8 (x : Nat)] E)) (.slice (some ⟨w.heap.size, 0, none⟩) 1 1) 1 encB [x] :=
  sl_new encB_ok w E [x] (by simp [maxLen])
theorem later_alloc (w : World) (o : Obj) : Below w.heap.size w (w.alloc o) := (Below.refl _ _).alloc (Nat.le_refl _) _
theorem two_or (a b : BSet) : [a, b].foldl (· ||| ·) 0 = a ||| b := set_ext fun c _ => by simp [mem_or]
theorem Box.store4at {w : World} {b g i E : Nat} {c : Array Value} (h : Box w b c E) (hne : b ≠ g) (v0 v1 v2 v3 : Value) :
    Box ((((w.setCell ⟨g, i, none⟩ v0).setCell ⟨g, i + 1, none⟩ v1).setCell ⟨g, i + 2, none⟩ v2).setCell ⟨g, i + 3, none⟩ v3) b c E :=
  (((h.other _ _ hne).other _ _ hne).other _ _ hne).other _ _ hne
theorem below_store4 {B g i : Nat} {a w : World} (h : Below B a w) (hg : B ≤ g) (v0 v1 v2 v3 : Value) :
    Below B a ((((w.setCell ⟨g, i, none⟩ v0).setCell ⟨g, i + 1, none⟩ v1).setCell ⟨g, i + 2, none⟩ v2).setCell ⟨g, i + 3, none⟩ v3) :=
  (((h.setCell (by simpa using hg) _).setCell (by simpa using hg) _).setCell (by simpa using hg) _).setCell (by simpa using hg) _
end Go.Proofs.YtinlfbacfmmfpaaDoor
