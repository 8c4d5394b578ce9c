/- Joined by tools/merge.py: Reader, RClass. -/
import Derived.Test.YtdhmekpgplajmaaGreatDoorJ15
import Derived.Test.YtdhmekpgplajmaaGreatDoorJ17
import Derived.Test.YtdhmekpgplajmaaGreatDoorJ10
import Derived.Test.YtdhmekpgplajmaaGreatDoorJ18
import Derived.Test.YtdhmekpgplajmaaGreatDoorJ20
import Derived.Test.YtdhmekpgplajmaaGreatDoorJ2
section
namespace Go.Proofs.YtdhmekpgplajmaaGreatDoor
open Go.RowKit
/-- A reader's cells: the machine so far, and the bytes that were there. -/
def rcells (V : VDfa) (t : BSet) : Array Value := V.cells ++ setC t
theorem rcells_size (V : VDfa) (t : BSet) : (rcells V t).size = 264 := by unfold rcells; rw [Array.size_append, VDfa.size]; rfl
theorem rcells_low (V : VDfa) (t : BSet) {i : Nat} (h : i < 260) : (rcells V t)[i]? = V.cells[i]? := by
  unfold rcells; rw [Array.getElem?_append_left (by rw [VDfa.size]; exact h)]
theorem rcells_there (V : VDfa) (t : BSet) : (rcells V t)[260]? = some (.int .u64 (word t 0 : Nat)) ∧ (rcells V t)[261]? = some (.int .u64 (word t 1 : Nat)) ∧ (rcells V t)[262]? = some (.int .u64 (word t 2 : Nat)) ∧ (rcells V t)[263]? = some (.int .u64 (word t 3 : Nat)) := by
  unfold rcells
  refine ⟨?_, ?_, ?_, ?_⟩ <;> rw [Array.getElem?_append_right (by rw [VDfa.size]; decide), VDfa.size] <;> rfl
theorem rcells_ext {A : Array Value} {V : VDfa} {t : BSet} (hs : A.size = 264) (h0 : ∀ i, i < 256 → A[i]? = some (.int .u8 (V.of i : Nat))) (h1 : A[256]? = some (.int .i64 V.width)) (h2 : A[257]? = some (.slice V.na V.nn V.nc))
    (h3 : A[258]? = some (.slice V.la V.ln V.lc)) (h4 : A[259]? = some (.slice V.ma V.mn V.mc)) (h5 : A[260]? = some (.int .u64 (word t 0 : Nat))) (h6 : A[261]? = some (.int .u64 (word t 1 : Nat))) (h7 : A[262]? = some (.int .u64 (word t 2 : Nat))) (h8 : A[263]? = some (.int .u64 (word t 3 : Nat))) : A = rcells V t := by
  obtain ⟨r0, r1, r2, r3⟩ := rcells_there V t
  refine Array.ext_getElem? fun i => ?_
  rcases Nat.lt_or_ge i 256 with h | h
  · rw [h0 i h, rcells_low _ _ (by omega), V.get_of i h]
  · rcases Nat.lt_or_ge i 264 with hh | hh
    · have : i = 256 ∨ i = 257 ∨ i = 258 ∨ i = 259 ∨ i = 260 ∨ i = 261 ∨ i = 262 ∨ i = 263 := by omega
      rcases this with rfl | rfl | rfl | rfl | rfl | rfl | rfl | rfl
      · rw [h1, rcells_low _ _ (by omega), V.get_width]
      · rw [h2, rcells_low _ _ (by omega), V.get_next]
      · rw [h3, rcells_low _ _ (by omega), V.get_label]
      · rw [h4, rcells_low _ _ (by omega), V.get_names]
      · rw [h5, r0]
      · rw [h6, r1]
      · rw [h7, r2]
      · rw [h8, r3]
    · rw [Array.getElem?_eq_none (by omega), Array.getElem?_eq_none (by rw [rcells_size]; exact hh)]
theorem rcells_gets (V : VDfa) (t : BSet) : (rcells V t)[256]? = some (.int .i64 V.width) ∧ (rcells V t)[257]? = some (.slice V.na V.nn V.nc) ∧ (rcells V t)[258]? = some (.slice V.la V.ln V.lc) ∧ (rcells V t)[259]? = some (.slice V.ma V.mn V.mc) :=
  ⟨by rw [rcells_low _ _ (by omega), V.get_width], by rw [rcells_low _ _ (by omega), V.get_next], by rw [rcells_low _ _ (by omega), V.get_label], by rw [rcells_low _ _ (by omega), V.get_names]⟩
theorem rcells_of (V : VDfa) (t : BSet) {b : Nat} (hb : b < 256) (k : Nat) : (rcells V t).setIfInBounds b (.int .u8 (k : Nat)) = rcells { V with of := fun x => if x = b then k else V.of x } t := by
  obtain ⟨r0, r1, r2, r3⟩ := rcells_there V t
  obtain ⟨g0, g1, g2, g3⟩ := rcells_gets V t
  refine rcells_ext (by simp [rcells_size]) (fun i hi => ?_) ?_ ?_ ?_ ?_ ?_ ?_ ?_ ?_
  · rw [Array.getElem?_setIfInBounds]
    by_cases h : b = i
    · subst h; simp [rcells_size]; omega
    · rw [if_neg h, rcells_low _ _ (by omega), V.get_of i hi]; simp [Ne.symm h]
  all_goals (rw [Array.getElem?_setIfInBounds, if_neg (by omega)]; assumption)
theorem rcells_width (V : VDfa) (t : BSet) (x : Int) : (rcells V t).setIfInBounds 256 (.int .i64 x) = rcells { V with width := x } t := by
  obtain ⟨r0, r1, r2, r3⟩ := rcells_there V t
  obtain ⟨g0, g1, g2, g3⟩ := rcells_gets V t
  refine rcells_ext (by simp [rcells_size]) (fun i hi => ?_) ?_ ?_ ?_ ?_ ?_ ?_ ?_ ?_
  · rw [Array.getElem?_setIfInBounds, if_neg (by omega), rcells_low _ _ (by omega), V.get_of i hi]
  · simp [rcells_size]
  all_goals (rw [Array.getElem?_setIfInBounds, if_neg (by omega)]; assumption)
theorem rcells_next (V : VDfa) (t : BSet) (a : Option Addr) (n c : Nat) : (rcells V t).setIfInBounds 257 (.slice a n c) = rcells { V with na := a, nn := n, nc := c } t := by
  obtain ⟨r0, r1, r2, r3⟩ := rcells_there V t
  obtain ⟨g0, g1, g2, g3⟩ := rcells_gets V t
  refine rcells_ext (by simp [rcells_size]) (fun i hi => ?_) ?_ ?_ ?_ ?_ ?_ ?_ ?_ ?_
  · rw [Array.getElem?_setIfInBounds, if_neg (by omega), rcells_low _ _ (by omega), V.get_of i hi]
  · rw [Array.getElem?_setIfInBounds, if_neg (by omega)]; assumption
  · simp [rcells_size]
  all_goals (rw [Array.getElem?_setIfInBounds, if_neg (by omega)]; assumption)
theorem rcells_label (V : VDfa) (t : BSet) (a : Option Addr) (n c : Nat) : (rcells V t).setIfInBounds 258 (.slice a n c) = rcells { V with la := a, ln := n, lc := c } t := by
  obtain ⟨r0, r1, r2, r3⟩ := rcells_there V t
  obtain ⟨g0, g1, g2, g3⟩ := rcells_gets V t
  refine rcells_ext (by simp [rcells_size]) (fun i hi => ?_) ?_ ?_ ?_ ?_ ?_ ?_ ?_ ?_
  · rw [Array.getElem?_setIfInBounds, if_neg (by omega), rcells_low _ _ (by omega), V.get_of i hi]
  · rw [Array.getElem?_setIfInBounds, if_neg (by omega)]; assumption
  · rw [Array.getElem?_setIfInBounds, if_neg (by omega)]; assumption
  · simp [rcells_size]
  all_goals (rw [Array.getElem?_setIfInBounds, if_neg (by omega)]; assumption)
theorem rcells_names (V : VDfa) (t : BSet) (a : Option Addr) (n c : Nat) : (rcells V t).setIfInBounds 259 (.slice a n c) = rcells { V with ma := a, mn := n, mc := c } t := by
  obtain ⟨r0, r1, r2, r3⟩ := rcells_there V t
  obtain ⟨g0, g1, g2, g3⟩ := rcells_gets V t
  refine rcells_ext (by simp [rcells_size]) (fun i hi => ?_) ?_ ?_ ?_ ?_ ?_ ?_ ?_ ?_
  · rw [Array.getElem?_setIfInBounds, if_neg (by omega), rcells_low _ _ (by omega), V.get_of i hi]
  · rw [Array.getElem?_setIfInBounds, if_neg (by omega)]; assumption
  · rw [Array.getElem?_setIfInBounds, if_neg (by omega)]; assumption
  · rw [Array.getElem?_setIfInBounds, if_neg (by omega)]; assumption
  · simp [rcells_size]
  all_goals (rw [Array.getElem?_setIfInBounds, if_neg (by omega)]; assumption)
theorem rcells_set (V : VDfa) (t u : BSet) : ((((rcells V t).setIfInBounds 260 (.int .u64 (word u 0 : Nat))).setIfInBounds 261 (.int .u64 (word u 1 : Nat))).setIfInBounds 262 (.int .u64 (word u 2 : Nat))).setIfInBounds 263 (.int .u64 (word u 3 : Nat)) = rcells V u := by
  obtain ⟨g0, g1, g2, g3⟩ := rcells_gets V t
  refine rcells_ext (by simp [rcells_size]) (fun i hi => ?_) ?_ ?_ ?_ ?_ ?_ ?_ ?_ ?_
  · rw [Array.getElem?_setIfInBounds, if_neg (by omega), Array.getElem?_setIfInBounds, if_neg (by omega), Array.getElem?_setIfInBounds, if_neg (by omega), Array.getElem?_setIfInBounds, if_neg (by omega), rcells_low _ _ (by omega), V.get_of i hi]
  · rw [Array.getElem?_setIfInBounds, if_neg (by omega), Array.getElem?_setIfInBounds, if_neg (by omega), Array.getElem?_setIfInBounds, if_neg (by omega), Array.getElem?_setIfInBounds, if_neg (by omega)]; exact g0
  · rw [Array.getElem?_setIfInBounds, if_neg (by omega), Array.getElem?_setIfInBounds, if_neg (by omega), Array.getElem?_setIfInBounds, if_neg (by omega), Array.getElem?_setIfInBounds, if_neg (by omega)]; exact g1
  · rw [Array.getElem?_setIfInBounds, if_neg (by omega), Array.getElem?_setIfInBounds, if_neg (by omega), Array.getElem?_setIfInBounds, if_neg (by omega), Array.getElem?_setIfInBounds, if_neg (by omega)]; exact g2
  · rw [Array.getElem?_setIfInBounds, if_neg (by omega), Array.getElem?_setIfInBounds, if_neg (by omega), Array.getElem?_setIfInBounds, if_neg (by omega), Array.getElem?_setIfInBounds, if_neg (by omega)]; exact g3
  all_goals simp [rcells_size]
attribute [irreducible] rcells
/-- What lies in a reader's block. -/
theorem Box.reader {w : World} {b E : Nat} {V : VDfa} {t : BSet} (h : Box w b (rcells V t) E) : w.cell? ⟨b, 256, none⟩ = some (.int .i64 V.width) ∧ w.cell? ⟨b, 257, none⟩ = some (.slice V.na V.nn V.nc) ∧ w.cell? ⟨b, 258, none⟩ = some (.slice V.la V.ln V.lc) ∧ w.cell? ⟨b, 259, none⟩ = some (.slice V.ma V.mn V.mc) := by
  obtain ⟨g0, g1, g2, g3⟩ := rcells_gets V t
  exact ⟨(h.cell _).trans g0, (h.cell _).trans g1, (h.cell _).trans g2, (h.cell _).trans g3⟩
theorem Box.readerT {w : World} {b E : Nat} {V : VDfa} {t : BSet} (h : Box w b (rcells V t) E) : w.cell? ⟨b, 260, none⟩ = some (.int .u64 (word t 0 : Nat)) ∧ w.cell? ⟨b, 261, none⟩ = some (.int .u64 (word t 1 : Nat)) ∧ w.cell? ⟨b, 262, none⟩ = some (.int .u64 (word t 2 : Nat)) ∧ w.cell? ⟨b, 263, none⟩ = some (.int .u64 (word t 3 : Nat)) := by
  obtain ⟨g0, g1, g2, g3⟩ := rcells_there V t
  exact ⟨(h.cell _).trans g0, (h.cell _).trans g1, (h.cell _).trans g2, (h.cell _).trans g3⟩
/-! ### Its slices -/
abbrev encR (x : Option Addr × Nat × Nat) : List Value := [.slice x.1 x.2.1 x.2.2]
theorem encR_ok : EncOK encR 1 := ⟨fun _ => rfl, fun x u hu => by simp [encR] at hu; subst hu; rfl⟩
theorem elem_int : ElemOK Tryz.prog 25 3 (.int .i64 0) 1 8 := ⟨Tryz.underlying25, info_parts (by kernel_rfl), rfl, by decide⟩
theorem elem_ints : ElemOK Tryz.prog 24 25 (.slice none 0 0) 1 24 := ⟨Tryz.underlying24, info_parts (by kernel_rfl), rfl, by decide⟩
def VDfa.lv (V : VDfa) : Value := .slice V.la V.ln V.lc
abbrev rowV (x : Option Addr × Nat × Nat) : Value := .slice x.1 x.2.1 x.2.2
/-- The rows: slices of their own, none over the labels' block. -/
def RowsR (w : World) (base : Nat) (V : VDfa) (next : List (List Int)) : Prop :=
  ∃ rows : List (Option Addr × Nat × Nat), Own w base 25 1 encR (.slice V.na V.nn V.nc) rows ∧ rows.length = next.length ∧
    ∀ i (h1 : i < rows.length) (h2 : i < next.length), Own w base 3 1 encI (rowV rows[i]) next[i] ∧ ∀ k, (rowV rows[i]).ownBlock = some k → V.lv.ownBlock ≠ some k
structure RdR (w : World) (r base : Nat) (V : VDfa) (t : BSet) (D : PDfa) : Prop where
  box : Box w r (rcells V t) 45
  of : V.of = D.of
  width : V.width = D.width
  lab : Own w base 3 1 encI V.lv D.label
  nam : Own w base 9 1 encT (.slice V.ma V.mn V.mc) D.names
  nxt : RowsR w base V D.next
theorem RowsR.kept {w w' : World} {base : Nat} {V : VDfa} {next : List (List Int)} (h : RowsR w base V next) (hb : Below w.heap.size w w') : RowsR w' base V next := by
  obtain ⟨rows, h1, h2, h3⟩ := h
  exact ⟨rows, h1.kept hb, h2, fun i a b => ⟨((h3 i a b).1).kept hb, (h3 i a b).2⟩⟩
theorem RdR.kept {w w' : World} {r base : Nat} {V : VDfa} {t : BSet} {D : PDfa} (h : RdR w r base V t D) (hb : Below w.heap.size w w') : RdR w' r base V t D :=
  ⟨h.box.kept hb, h.of, h.width, h.lab.kept hb, h.nam.kept hb, h.nxt.kept hb⟩
theorem slice_map {α β : Type} {w : World} {v : Value} {f : α → Value} {g : β → Value} {m : α → β} {xs : List α} (h : SliceR w v 1 (fun x => [f x]) xs) (hm : ∀ x, g (m x) = f x) : SliceR w v 1 (fun x => [g x]) (xs.map m) := by
  obtain ⟨a, b, o, cap, hv, h1, h2, h3, h4⟩ := h
  refine ⟨a, b, o, cap, by rw [List.length_map]; exact hv, by rw [List.length_map]; exact h1, h2, ?_, fun i hi j u hu => ?_⟩
  · rcases h3 with h3 | ⟨rfl, h3⟩
    · exact .inl h3
    · exact .inr ⟨rfl, h3⟩
  · have hi' : i < xs.length := by simpa using hi
    simp only [List.getElem_map, hm] at hu
    exact h4 i hi' j u hu
theorem RdR.reads {w : World} {r base : Nat} {V : VDfa} {t : BSet} {D : PDfa} (h : RdR w r base V t D) : ReadsD w V D := by
  obtain ⟨rows, h1, h2, h3⟩ := h.nxt
  refine ⟨h.of, h.width, h.lab.slice encI_ok, h.nam.slice encT_ok, rows.map rowV, slice_map (m := rowV) (f := rowV) (g := fun v => v) (h1.slice encR_ok) (fun _ => rfl), by rw [List.length_map]; exact h2, fun i a b => ?_⟩
  have ha : i < rows.length := by simpa using a
  obtain ⟨h4, _⟩ := h3 i ha b
  obtain ⟨a', c', hv⟩ := h4.form
  refine ⟨a', c', by rw [List.getElem_map]; exact hv, ?_⟩
  rw [← hv]
  exact h4.slice encI_ok
theorem RowsR.other {w : World} {base : Nat} {V : VDfa} {next : List (List Int)} (h : RowsR w base V next) (a : Addr) (u : Value) (hne : a.block < base) : RowsR (w.setCell a u) base V next := by
  obtain ⟨rows, h1, h2, h3⟩ := h
  exact ⟨rows, h1.other a u hne, h2, fun i x y => ⟨((h3 i x y).1).other a u hne, (h3 i x y).2⟩⟩
theorem RdR.of_set {w : World} {r base : Nat} {V : VDfa} {t : BSet} {D : PDfa} (h : RdR w r base V t D) (hr : r < base) {b : Nat} (hb : b < 256) (k : Nat) :
    RdR (w.setCell ⟨r, b, none⟩ (.int .u8 (k : Nat))) r base { V with of := fun x => if x = b then k else V.of x } t { D with of := fun x => if x = b then k else D.of x } :=
  ⟨by rw [← rcells_of V t hb]; exact h.box.set b _, by simp only [h.of], h.width, h.lab.other _ _ hr, h.nam.other _ _ hr, h.nxt.other _ _ hr⟩
theorem RdR.width_set {w : World} {r base : Nat} {V : VDfa} {t : BSet} {D : PDfa} (h : RdR w r base V t D) (hr : r < base) (x : Int) :
    RdR (w.setCell ⟨r, 256, none⟩ (.int .i64 x)) r base { V with width := x } t { D with width := x } :=
  ⟨by rw [← rcells_width V t x]; exact h.box.set 256 _, h.of, rfl, h.lab.other _ _ hr, h.nam.other _ _ hr, h.nxt.other _ _ hr⟩
theorem RdR.there_set {w : World} {r base : Nat} {V : VDfa} {t : BSet} {D : PDfa} (h : RdR w r base V t D) (hr : r < base) (u : BSet) :
    RdR ((((w.setCell ⟨r, 260, none⟩ (.int .u64 (word u 0 : Nat))).setCell ⟨r, 261, none⟩ (.int .u64 (word u 1 : Nat))).setCell ⟨r, 262, none⟩ (.int .u64 (word u 2 : Nat))).setCell ⟨r, 263, none⟩ (.int .u64 (word u 3 : Nat))) r base V u D :=
  ⟨by rw [← rcells_set V t u]; exact (((h.box.set 260 _).set 261 _).set 262 _).set 263 _, h.of, h.width, (((h.lab.other _ _ hr).other _ _ hr).other _ _ hr).other _ _ hr, (((h.nam.other _ _ hr).other _ _ hr).other _ _ hr).other _ _ hr, (((h.nxt.other _ _ hr).other _ _ hr).other _ _ hr).other _ _ hr⟩
/-- What a reader's method keeps: all blocks of cells but the reader's and those behind base; all that is no cells. -/
structure KeptR (r base : Nat) (w w' : World) : Prop where
  low : Below r w w'
  cells : KeepC (fun k => k = r ∨ base ≤ k) w w'
  others : KeepsOthers w w'
theorem KeptR.refl (r base : Nat) (w : World) : KeptR r base w w := ⟨Below.refl _ _, KeepC.refl _ _, KeepsOthers.refl _⟩
theorem KeptR.trans {r base : Nat} {a b c : World} (h : KeptR r base a b) (k : KeptR r base b c) : KeptR r base a c := ⟨h.low.trans k.low, h.cells.trans k.cells, h.others.trans k.others⟩
theorem others_below {w w' : World} (h : Below w.heap.size w w') : KeepsOthers w w' := ⟨h.size, fun k _ hk _ => (h.block k (Array.getElem?_eq_some_iff.1 hk).1).trans hk⟩
theorem KeptR.below {r base : Nat} {w w' : World} (hr : r ≤ w.heap.size) (h : Below w.heap.size w w') : KeptR r base w w' := ⟨h.mono hr, KeepC.below h, others_below h⟩
theorem KeptR.set {r base : Nat} (w : World) (i : Nat) (v : Value) : KeptR r base w (w.setCell ⟨r, i, none⟩ v) := ⟨(Below.refl r w).setCell (by simp) v, KeepC.set w _ v (.inl rfl), KeepsOthers.setCell w _ v⟩
end Go.Proofs.YtdhmekpgplajmaaGreatDoor
end
section
namespace Go.Proofs.YtdhmekpgplajmaaGreatDoor
open Go.RowKit
def setOf (l : List Nat) (k : Nat) (of : Nat → Nat) : Nat → Nat := fun b => if b ∈ l then k else of b
/-- A class's line: its number and its text. -/
def classL (D : PDfa) (t : BSet) (k : Nat) (s : List UInt8) : Option (PDfa × BSet) :=
  match readR s with
  | .inl _ => none
  | .inr (f, j) => if j = s.length ∧ k < 256 ∧ f &&& t = 0 then some ({ D with of := setOf (elems f) k D.of }, t ||| f) else none
theorem readR_prefix {s : List UInt8} (h : Lib.hasPrefix s [91] = false) : readR s = .inl (1, 0) := by
  have : hereB s 0 91 = false := by
    cases s with
    | nil => rfl
    | cons x l =>
      simp only [Lib.hasPrefix, List.isPrefixOf, Bool.and_true] at h
      unfold hereB
      simp only [List.length_cons, List.getD_cons_zero]
      have : (x == 91) = false := by
        rw [beq_eq_false_iff_ne] at h ⊢; exact fun e => h e.symm
      rw [this]; simp
  unfold readR
  rw [this]; rfl
theorem loopR_ne {l : List UInt8} {fr kd ps : Nat} : ∀ (n : Nat) (s : BSet) (i : Nat), loopR l fr n s i = .inl (kd, ps) → kd ≠ 0
  | 0, _, _, h => by rw [loopR] at h; cases h; decide
  | n + 1, s, i, h => by
    rw [loopR_succ] at h
    split at h
    · cases h
    · split at h
      · rename_i hq
        cases h
        exact itemR_ne hq
      · exact loopR_ne n _ _ h
theorem readR_ne {l : List UInt8} {kd ps : Nat} (h : readR l = .inl (kd, ps)) : kd ≠ 0 := by
  unfold readR firstR at h
  repeat' split at h
  all_goals first | (cases h; decide) | skip
  · rename_i hq
    split at hq
    · rename_i h2
      cases h
      cases hq
      exact itemR_ne h2
    · cases h
      exact loopR_ne _ _ _ hq
  all_goals cases h
/-- A class reader's results, both ways at once. -/
theorem retR_form (s : List UInt8) : ∃ (f : BSet) (j kd ps : Nat), retR (readR s) = .tuple #[.agg (setC f), .int .i64 j, .agg #[.int .i64 kd, .int .i64 ps]] ∧ ((kd = 0 ∧ readR s = .inr (f, j)) ∨ (kd ≠ 0 ∧ ∃ q, readR s = .inl q)) := by
  cases h : readR s with
  | inl q => exact ⟨0, 0, q.1, q.2, rfl, .inr ⟨readR_ne (kd := q.1) (ps := q.2) h, q, rfl⟩⟩
  | inr q => exact ⟨q.1, q.2, 0, 0, rfl, .inl ⟨rfl, rfl⟩⟩
theorem setC_four (f : BSet) : setC f = #[.int .u64 (word f 0 : Nat), .int .u64 (word f 1 : Nat), .int .u64 (word f 2 : Nat), .int .u64 (word f 3 : Nat)] := rfl
/-- A class's line, under way. -/
structure RC (w W : World) (r base : Nat) (V : VDfa) (t : BSet) (D : PDfa) (b : Nat) (f : BSet) (kd ps : Nat) : Prop where
  set : Box W b (setC f) 43
  bad : Box W (b + 1) #[.int .i64 kd, .int .i64 ps] 80
  rd : RdR W r base V t D
  below : Below w.heap.size w W
  tab : Tab W
theorem RC.kept {w W W' : World} {r base b kd ps : Nat} {V : VDfa} {t f : BSet} {D : PDfa} (h : RC w W r base V t D b f kd ps) (hb : Below W.heap.size W W') : RC w W' r base V t D b f kd ps :=
  ⟨h.set.kept hb, h.bad.kept hb, h.rd.kept hb, h.below.trans (hb.mono h.below.size), h.tab.kept hb⟩
theorem setOf_nil (k : Nat) (of : Nat → Nat) : setOf [] k of = of := by funext x; simp [setOf]
theorem setOf_snoc (l : List Nat) (b k : Nat) (of : Nat → Nat) : (fun x => if x = b then k else setOf l k of x) = setOf (l ++ [b]) k of := by
  funext x
  unfold setOf
  by_cases h1 : x = b <;> by_cases h2 : x ∈ l <;> simp [h1, h2]
def RCLoop (w : World) (r base : Nat) (V : VDfa) (t : BSet) (D : PDfa) (k : Nat) (L : List Nat) (a : Option Addr) (cap B : Nat) (i : Value) (wr : World) : Prop :=
  ∃ j : Nat, j ≤ L.length ∧ i = .int .i64 j ∧ RdR wr r base { V with of := setOf (L.take j) k V.of } t { D with of := setOf (L.take j) k D.of } ∧ Own wr B 5 1 encB (.slice a L.length cap) L ∧ KeptR r base w wr
def RetClass (r base : Nat) (w : World) (o : Option (PDfa × BSet)) (e : Ending) (w' : World) : Prop :=
  match o with
  | some (D, t) => e = .returned (.tuple #[]) ∧ (∃ V, RdR w' r base V t D) ∧ KeptR r base w w'
  | none => Left w e w'
end Go.Proofs.YtdhmekpgplajmaaGreatDoor
end
