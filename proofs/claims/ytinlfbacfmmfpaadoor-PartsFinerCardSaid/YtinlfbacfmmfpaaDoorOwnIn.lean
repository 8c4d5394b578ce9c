/- An append within a round of a range over a function. No program in sight. -/
import Derived.Test.YtinlfbacfmmfpaaDoorOwn
import Derived.Test.YtinlfbacfmmfpaaDoorRange
namespace Go.Proofs.YtinlfbacfmmfpaaDoor
open Go.RowKit

theorem wpListIn_append1 {α : Type} {w : World} {base E size : Nat} {enc : α → List Value} {v : Value} {xs : List α} {F : Fence} {n : Nat} {P : Program} {ops : Array Oper} {rest : List Oper} {o : Oper} {a : Act} {Q : Exit → Act → World → Prop} (hgd : o.guard = none) (s x : Operand) (t : TypeId)
    (ho : o.op = .call { callee := .builtin .append, args := #[s, x], argTypes := #[t, t] }) {z : Value} {bytes : Nat} (hE : ElemOK P t E z size bytes) (he : EncOK enc size)
    (hs : a.eval s = v) (hown : Own w base E size enc v xs) (ad : Addr) (c : Nat) (y : α) (hx : a.eval x = .slice (some ad) 1 c) (hnews : ∀ j u, (enc y)[j]? = some u → w.cell? (ad.add j) = some u)
    (h63 : xs.length + 1 ≤ maxLen) (hbytes : (xs.length + 1) * bytes ≤ 140737488355328) (hbase : base ≤ w.heap.size)
    (h : ∀ a' cap' w', Own w' base E size enc (.slice a' (xs.length + 1) cap') (xs ++ [y]) → w.grownBy w' v.ownBlock → wpListIn F n P ops Q rest (a.put o.dst (.slice a' (xs.length + 1) cap')) w') : wpListIn F n P ops Q (o :: rest) a w := by
  obtain ⟨i, hi, hz, hsz, hby⟩ := hE.info
  refine wpListIn_append_own w hgd s x t ho base E i z size bytes hE.slice hi hz hsz hby hE.zsize hE.pos v xs.length (xs.flatMap enc) hs (hown.toRow he) ad 1 c (enc y) hx (by rw [he.len, Nat.one_mul]) hnews (he.one y) h63 hbytes hbase ?_
  intro v' w' hr hg _
  have hr' : Own w' base E size enc v' (xs ++ [y]) := by
    refine Own.ofRow ?_ he
    rw [List.length_append, List.flatMap_append]
    simpa using hr
  obtain ⟨a', cap', rfl⟩ := hr'.form
  have e : (xs ++ [y]).length = xs.length + 1 := by simp
  rw [e] at hr' ⊢
  exact h a' cap' w' hr' hg
theorem Own.block {α : Type} {w : World} {base E size : Nat} {enc : α → List Value} {v : Value} {xs : List α} (h : Own w base E size enc v xs) (g : Nat) (hg : v.ownBlock = some g) : base ≤ g ∧ ∃ cur, Box w g cur E := by
  obtain ⟨a, cap, rfl, _, _, hh⟩ := h
  rcases hh with ⟨rfl, _⟩ | ⟨g', cur, rfl, hb, hg', _⟩
  · simp [Value.ownBlock] at hg
  · simp [Value.ownBlock] at hg; subst hg; exact ⟨hb, cur, hg'⟩
theorem ownFrom_own {α β : Type} (B base E size : Nat) (enc : α → List Value) (v : β → Value) (xs : β → List α) : OwnFrom B (fun (s : β) W => Own W base E size enc (v s) (xs s)) := fun s W W' row hs hg hr => by
  obtain ⟨a, cap, hv, hle, hm, hh⟩ := hs
  refine ⟨a, cap, hv, hle, hm, ?_⟩
  rcases hh with hh | ⟨g, cur, ha, hb, hg', hc⟩
  · exact .inl hh
  · exact .inr ⟨g, cur, ha, hb, ownFrom_box B g E (fun _ : Unit => cur) () W W' row hg' hg hr, hc⟩
/-- What an append keeps. -/
theorem KeepC.grown {α : Type} {X : Nat → Prop} {w w' : World} {base E size : Nat} {enc : α → List Value} {v : Value} {xs : List α} (h : Own w base E size enc v xs) (hg : w.grownBy w' v.ownBlock) (hX : ∀ b, base ≤ b → X b) : KeepC X w w' :=
  ⟨hg.size, fun b hb _ _ _ e => (hg.block b (Array.getElem?_eq_some_iff.1 e).1 fun e2 => hb (hX b (h.block b e2.symm).1)).trans e⟩
theorem KeepsOthers.grownOwn {α : Type} {w w' : World} {base E size : Nat} {enc : α → List Value} {v : Value} {xs : List α} (h : Own w base E size enc v xs) (hg : w.grownBy w' v.ownBlock) : KeepsOthers w w' :=
  KeepsOthers.of_grownBy hg fun j o e ho => by
    obtain ⟨_, cur, hb⟩ := h.block j e
    rw [show w.heap[j]? = _ from hb] at ho
    cases ho; rfl
end Go.Proofs.YtinlfbacfmmfpaaDoor
