/- What a round of a range over a function keeps: all blocks of cells but the loop's own variables. No program in sight. -/
import Derived.RangeFuncNested
import Derived.RangeFuncBound
import Derived.RangeFuncCalls
import Derived.RangeFuncLeaves
import Derived.Shelf.Abstract
import Derived.Shelf.RegionOpen
import Derived.WalkKit
import Derived.OwnWalkIn
import Derived.TacticsInMore
import Derived.LoopNIn
import Derived.LoopIn
import Derived.Test.YtinlfbacfmmfpaaDoorBase
namespace Go.Proofs.YtinlfbacfmmfpaaDoor
open Go.RowKit

theorem room_of_none {F : Fence} (hd : F.depth = none) (k : Nat) : F.room k := fun d h => by rw [hd] at h; cases h
theorem round_any {F : Fence} (hd : F.depth = none) {m m' : Nat} {P : Program} {l : Nat} {f : FuncId} {tmps : Array Value} {assign body : Code} {w : World} {R : Ending → World → Prop}
    (h : RoundIn F m P l f tmps assign body w R) : RoundIn F m' P l f tmps assign body w R := ⟨h.1, fun c cs _ => h.2 c cs (room_of_none hd _)⟩
theorem yield_any {F : Fence} (hd : F.depth = none) {m : Nat} (m' : Nat) {P : Program} {l : Nat} {args : Array Value} {W : World} {R : Ending → World → Prop} (h : YieldAt F m P l args W R) : YieldAt F m' P l args W R := by
  obtain ⟨fn, tmps, assign, body, hy, hR⟩ := h
  exact ⟨fn, tmps, assign, body, hy, round_any hd hR⟩

/-- All blocks of cells lie as they lay, but those of which X holds. -/
structure KeepC (X : Nat → Prop) (W W' : World) : Prop where
  size : W.heap.size ≤ W'.heap.size
  same : ∀ b, ¬ X b → ∀ (c : Array Value) (E : Nat) (fr : Nat × Nat), W.heap[b]? = some (.cells c E fr) → W'.heap[b]? = some (.cells c E fr)
section
variable {X : Nat → Prop} {A B C W W' : World}
theorem KeepC.refl (X : Nat → Prop) (W : World) : KeepC X W W := ⟨Nat.le_refl _, fun _ _ _ _ _ h => h⟩
theorem KeepC.trans (h : KeepC X A B) (k : KeepC X B C) : KeepC X A C := ⟨Nat.le_trans h.size k.size, fun b hb c E fr e => k.same b hb c E fr (h.same b hb c E fr e)⟩
theorem KeepC.below (h : Below W.heap.size W W') : KeepC X W W' := ⟨h.size, fun b _ _ _ _ e => (h.block b (Array.getElem?_eq_some_iff.1 e).1).trans e⟩
theorem KeepC.set (W : World) (a : Addr) (v : Value) (h : X a.block) : KeepC X W (W.setCell a v) :=
  ⟨by simp [World.setCell], fun b hb _ _ _ e => (heap_setCell_other W a b v (fun e => hb (e ▸ h))).trans e⟩
theorem KeepC.put {l : Nat} {o o' : Obj} (h : W.heap[l]? = some o) (hc : o.isCells = false) : KeepC X W (W.putObj l o') :=
  ⟨by simp, fun b _ _ _ _ e => (World.putObj_heap_other (fun e2 => by subst e2; rw [h] at e; cases e; cases hc)).trans e⟩
theorem KeepC.cell (h : KeepC X W W') {a : Addr} {v : Value} (ha : ¬ X a.block) (hv : W.cell? a = some v) : W'.cell? a = some v := by
  obtain ⟨o, ho, hc⟩ := cells_of_cell hv
  cases o with
  | cells _ _ _ => rw [← hv]; exact World.cell?_of_block ((h.same _ ha _ _ _ ho).trans ho.symm)
  | _ => cases hc
theorem KeepC.box (h : KeepC X W W') {b E : Nat} {c : Array Value} (hb : ¬ X b) (hx : Box W b c E) : Box W' b c E := h.same b hb c E (0, 0) hx
theorem KeepC.slice (h : KeepC X W W') {α : Type} {a : Option Addr} {n cap size : Nat} {enc : α → List Value} {xs : List α} (hs : SliceR W (.slice a n cap) size enc xs) (ha : 0 < xs.length → ∀ ad, a = some ad → ¬ X ad.block) : SliceR W' (.slice a n cap) size enc xs := by
  obtain ⟨a', b, o, cap', hv, hl, hc, ha', hx⟩ := hs
  obtain ⟨rfl, rfl, rfl⟩ := Value.slice.inj hv
  refine ⟨a, b, o, cap, rfl, hl, hc, ha', fun i hi j u hu => ?_⟩
  rcases ha' with rfl | ⟨rfl, _⟩
  · exact h.cell (a := ⟨b, o + i * size + j, none⟩) (ha (by omega) ⟨b, o, none⟩ rfl) (hx i hi j u hu)
  · simp at hi
end
theorem keepC_b {X : Nat → Prop} {w : World} (W : World) (l : Nat) (o o' : Obj) (_ : w.heap.size ≤ l) (h : W.heap[l]? = some o) (hc : o.isCells = false) (_ : o.isWalk = false) : KeepC X W (W.putObj l o') := KeepC.put h hc
theorem abides_below {β : Type} {B : Nat} {J : β → World → Prop} (h : AbidesFrom B J) {s : β} {W W' : World} (hs : J s W) (hb : Below W.heap.size W W') : J s W' :=
  h s W W' none hs ⟨hb.os, hb.tape, hb.output, hb.size, fun k hk _ => hb.block k hk⟩ (fun r e => by cases e)
theorem ownFrom_box {β : Type} (B b E : Nat) (f : β → Array Value) : OwnFrom B (fun (s : β) W => Box W b (f s) E) := fun s W W' row hs hg hr => by
  refine (hg.block b hs.lt fun e => ?_).trans hs
  obtain ⟨_, o, ho, hc⟩ := hr b e.symm
  rw [show W.heap[b]? = _ from hs] at ho
  cases ho; cases hc
theorem ownFrom_false {β : Type} (B : Nat) : OwnFrom B (fun (_ : β) (_ : World) => False) := fun _ _ _ _ h _ _ => h
end Go.Proofs.YtinlfbacfmmfpaaDoor
