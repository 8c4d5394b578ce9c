/- An append of whatever slice the call has got, nil or not. No program in sight. -/
import Derived.Test.YtinlfbacfmmfpaaDoorOwn
import Derived.Laws.AppendOwnNone
namespace Go.Proofs.YtinlfbacfmmfpaaDoor
open Go.RowKit

theorem wpList_appendO {α : Type} {w : World} {base base2 E size : Nat} {enc : α → List Value} {v : Value} {xs ys : List α} {P : Program} {ops : Array Oper} {rest : List Oper} {o : Oper} {a : Act} {Q : Exit → Act → World → Prop} (hgd : o.guard = none) (s x : Operand) (t : TypeId)
    (ho : o.op = .call { callee := .builtin .append, args := #[s, x], argTypes := #[t, t] }) {z : Value} {bytes : Nat} (hE : ElemOK P t E z size bytes) (he : EncOK enc size)
    (hs : a.eval s = v) (hown : Own w base E size enc v xs) (a1 : Option Addr) (c1 : Nat) (hx : a.eval x = .slice a1 ys.length c1) (hown2 : Own w base2 E size enc (.slice a1 ys.length c1) ys)
    (h63 : xs.length + ys.length ≤ maxLen) (hbytes : (xs.length + ys.length) * bytes ≤ 140737488355328) (hbase : base ≤ w.heap.size)
    (h : ∀ a' cap' w', Own w' base E size enc (.slice a' (xs.length + ys.length) cap') (xs ++ ys) → w.grownBy w' v.ownBlock → wpList P ops Q rest (a.put o.dst (.slice a' (xs.length + ys.length) cap')) w') : wpList P ops Q (o :: rest) a w := by
  obtain ⟨a1', c1', hv, hle, hm, hh⟩ := hown2
  obtain ⟨rfl, _, rfl⟩ := Value.slice.inj hv
  rcases hh with ⟨rfl, rfl⟩ | ⟨g, cur, rfl, hb, hg, hsz, hcur⟩
  · obtain rfl : ys = [] := List.eq_nil_of_length_eq_zero (by omega)
    obtain ⟨i, hi, hz, hsz, hby⟩ := hE.info
    obtain ⟨a0, cap0, rfl⟩ := hown.form
    have := h a0 cap0 w (by simpa using hown) ⟨rfl, rfl, rfl, Nat.le_refl _, fun _ _ _ => rfl⟩
    exact wpList_append_own_none hgd s x t ho base E i size hE.slice hi _ xs.length (xs.flatMap enc) hs (hown.toRow he) (by simpa using hx) (by simpa using this)
  · have hown2 : Own w base2 E size enc (.slice (some ⟨g, 0, none⟩) ys.length c1) ys := ⟨_, c1, rfl, hle, hm, .inr ⟨g, cur, rfl, hb, hg, hsz, hcur⟩⟩
    exact wpList_appendN hgd s x t ho hE he hs hown ⟨g, 0, none⟩ c1 ys hx ((hown2.toRow he).cells (g := g) rfl) h63 hbytes hbase h
theorem Own.empty' {α : Type} {w : World} {b : Nat} (hb : b = w.heap.size) (base E size : Nat) (enc : α → List Value) (h : base ≤ w.heap.size) : Own (w.alloc (.cells #[] E)) base E size enc (.slice (some ⟨b, 0, none⟩) 0 0) [] := by
  subst hb; exact Own.empty w base E size enc h
theorem RetOwn.open {α : Type} {w w' : World} {E size : Nat} {enc : α → List Value} {L : List α} {e : Ending} (h : RetOwn w E size enc L e w') : ∃ (a : Option Addr) (cap : Nat), e = .returned (.slice a L.length cap) ∧ Own w' w.heap.size E size enc (.slice a L.length cap) L ∧ Below w.heap.size w w' := h
end Go.Proofs.YtinlfbacfmmfpaaDoor
