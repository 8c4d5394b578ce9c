/- Joined by tools/merge.py: Pieces, Reader, RClass. -/
import Derived.Test.YtdhmekpgplajmaaDoorShelf
import Derived.Test.YtdhmekpgplajmaaDoorJ6
import Derived.Test.YtdhmekpgplajmaaDoorJ8
import Derived.Test.YtdhmekpgplajmaaDoorJ14
import Derived.Test.YtdhmekpgplajmaaDoorJ16
import Derived.Test.YtdhmekpgplajmaaDoorJ17
import Derived.Test.YtdhmekpgplajmaaDoorJ2
section
namespace Go.Proofs.YtdhmekpgplajmaaDoor
open Go.RowKit
attribute [local go_sem] Oper.semAt_some
/-- The pieces of a text between the bytes c. -/
def splitL (c : UInt8) : List UInt8 → List (List UInt8)
  | [] => [[]]
  | x :: l => if x = c then [] :: splitL c l else match splitL c l with
    | [] => [[x]]
    | y :: ys => (x :: y) :: ys
theorem splitL_ne (c : UInt8) : ∀ l, splitL c l ≠ []
  | [] => by simp [splitL]
  | x :: l => by
    unfold splitL
    split
    · simp
    · split <;> simp
/-- The first piece, what stands behind, and whether there is more. -/
theorem cut_split (c : UInt8) : ∀ l : List UInt8, (Lib.cut l [c]).1.length ≤ l.length ∧ (Lib.cut l [c]).2.1.length ≤ l.length ∧
    (((Lib.cut l [c]).2.2 = true ∧ splitL c l = (Lib.cut l [c]).1 :: splitL c (Lib.cut l [c]).2.1 ∧ (Lib.cut l [c]).2.1.length < l.length) ∨ ((Lib.cut l [c]).2.2 = false ∧ splitL c l = [(Lib.cut l [c]).1]))
  | [] => by
    have : Lib.cut [] [c] = ([], [], false) := by simp [Lib.cut, Lib.index]
    rw [this]; exact ⟨by simp, by simp, .inr ⟨rfl, rfl⟩⟩
  | x :: l => by
    by_cases h : x = c
    · subst h
      have : Lib.cut (x :: l) [x] = ([], l, true) := by simp [Lib.cut, Lib.index]
      rw [this]
      exact ⟨by simp, by simp, .inl ⟨rfl, by rw [splitL, if_pos rfl], by simp⟩⟩
    · obtain ⟨i1, i2, ih⟩ := cut_split c l
      have hg := Lib.index_ge l [c]
      have hx : Lib.index (x :: l) [c] = if Lib.index l [c] = -1 then -1 else Lib.index l [c] + 1 := by
        rw [Lib.index]
        simp [Ne.symm h]
      by_cases hi : Lib.index l [c] = -1
      · have e1 : Lib.cut l [c] = (l, [], false) := by simp [Lib.cut, hi]
        have e2 : Lib.cut (x :: l) [c] = (x :: l, [], false) := by simp [Lib.cut, hx, hi]
        rw [e1] at ih
        rw [e2]
        rcases ih with ⟨h1, _⟩ | ⟨_, h2⟩
        · cases h1
        · exact ⟨by simp, by simp, .inr ⟨rfl, by rw [splitL, if_neg h, h2]⟩⟩
      · have h0 : 0 ≤ Lib.index l [c] := by omega
        have e1 : Lib.cut l [c] = (l.take (Lib.index l [c]).toNat, l.drop ((Lib.index l [c]).toNat + 1), true) := by simp [Lib.cut, h0]
        have e2 : Lib.cut (x :: l) [c] = (x :: l.take (Lib.index l [c]).toNat, l.drop ((Lib.index l [c]).toNat + 1), true) := by
          have h3 : 0 ≤ Lib.index l [c] + 1 := by omega
          have h4 : (Lib.index l [c] + 1).toNat = (Lib.index l [c]).toNat + 1 := by omega
          simp [Lib.cut, hx, hi, h3, h4]
        rw [e1] at ih i1 i2
        rw [e2]
        rcases ih with ⟨_, h2, h3⟩ | ⟨h1, _⟩
        · refine ⟨by simpa using i1, by simp at i2 ⊢; omega, .inl ⟨rfl, ?_, by simp at h3 ⊢; omega⟩⟩
          rw [splitL, if_neg h, h2]
        · cases h1
theorem list_pieces (s by' : List UInt8) (w : World) : Calls Tryd.prog 21 #[sv s, sv by'] w fun e w' =>
    e = .returned (.func (.func 39) #[] #[.pointer (some ⟨w.heap.size, 0, none⟩), .pointer (some ⟨w.heap.size + 1, 0, none⟩)]) ∧ w' = (w.alloc (.cells #[sv s] 9)).alloc (.cells #[sv by'] 9) := by
  go_enter Tryd.func21, Tryd.ntmps21
  go_wp2
  go_ret
  exact ⟨rfl, rfl⟩
/-- The library's variable lies where it is. -/
def MaxL (w : World) : Prop := ∃ m, w.cell? ⟨0, 0, none⟩ = some (.int .i64 m)
theorem MaxL.kept {w w' : World} (h : MaxL w) (hb : Below w.heap.size w w') : MaxL w' := by
  obtain ⟨m, hm⟩ := h
  obtain ⟨o, ho, _⟩ := cells_of_cell hm
  exact ⟨m, (World.cell?_of_block (hb.block 0 (Array.getElem?_eq_some_iff.1 ho).1)).trans hm⟩
theorem MaxL.same {w w' : World} (h : MaxL w) (hb : w'.heap[0]? = w.heap[0]?) : MaxL w' := by
  obtain ⟨m, hm⟩ := h
  exact ⟨m, (World.cell?_of_block hb).trans hm⟩
def PiecesRel (c : UInt8) (J : List (List UInt8) → World → Prop) (all : List (List UInt8)) (N sB bB : Nat) (i : Value) (wr : World) : Prop :=
  ∃ (pre : List (List UInt8)) (rest : List UInt8) (more : Bool), i = .bool more ∧ pre ++ (if more then splitL c rest else []) = all ∧ rest.length ≤ N ∧ J pre wr ∧ Box wr sB #[sv rest] 9 ∧ Box wr bB #[sv [c]] 9 ∧ MaxL wr
def PiecesM (sB : Nat) (i : Value) (w : World) : Nat := match i, w.cell? ⟨sB, 0, none⟩ with
  | .bool true, some (.string s) => s.size + 1
  | _, _ => 0
set_option maxRecDepth 100000 in
set_option maxHeartbeats 2000000 in
theorem pieces_in (l sB bB : Nat) (c : UInt8) (J : List (List UInt8) → World → Prop) (Jp : List PanicEntry → World → Prop) (s : List UInt8) (hs : s.length < 4294967281) (h0 : sB ≠ 0) (hbs : bB ≠ sB)
    (hJ : ∀ s A B, J s A → A.grownBy B (some sB) → J s B) (hJp : ∀ c A B, Jp c A → A.grownBy B (some sB) → Jp c B)
    (hY : ∀ pre x post W1, splitL c s = pre ++ x :: post → J pre W1 → YieldAt Fence.wide 0 Tryd.prog l #[sv x] W1 fun e W' => (e = .returned (.bool true) ∧ J (pre ++ [x]) W' ∧ W1.heap.size ≤ W'.heap.size ∧ ∀ k ∈ [0, sB, bB], W'.heap[k]? = W1.heap[k]?) ∨ (∃ c, e = .panicked c ∧ Jp c W'))
    (W : World) (hM : MaxL W) (hBs : Box W sB #[sv s] 9) (hBb : Box W bB #[sv [c]] 9) (hj : J [] W) :
    CallsIn Fence.wide 0 Tryd.prog 39 #[.func (.yield l) #[] #[], .pointer (some ⟨sB, 0, none⟩), .pointer (some ⟨bB, 0, none⟩)] W fun e W' => (∃ v, e = .returned v ∧ J (splitL c s) W') ∨ (∃ c, e = .panicked c ∧ Jp c W') := by
  refine callsIn_of_wp Tryd.func39 rfl trivial ?_ rfl
  simp only [Tryd.ntmps39, List.size_toArray, List.length_cons, List.length_nil, Nat.reduceAdd, Nat.reduceSub, Array.replicate_succ, Array.replicate_zero, List.push_toArray, List.append_toArray, List.nil_append, List.cons_append]
  gi_wp2
  gi_loopw [4] (fun i wr => PiecesRel c J (splitL c s) s.length sB bB i wr) (fun i wr => PiecesM sB i wr)
  case atStart => exact ⟨[], s, true, rfl, by simp, Nat.le_refl _, hj, hBs, hBb, hM⟩
  case round =>
    obtain ⟨pre, rest, more, rfl, hall, hlen, hJr, hb1, hb2, hMr⟩ := hrel
    cases more with
    | false =>
      simp only [Bool.false_eq_true, if_false, List.append_nil] at hall
      subst hall
      gi_wp2
      go_end0
      exact .inl ⟨_, rfl, hJr⟩
    | true =>
      simp only [if_true] at hall
      obtain ⟨hq1, hq2, hor⟩ := cut_split c rest
      have hcut := fun (w : World) (m : Int) (hm : w.cell? ⟨0, 0, none⟩ = some (.int .i64 m)) => Tryd.strings_Cut ⟨rest.toArray⟩ ⟨#[c]⟩ m w (by simp [ByteArray.size]; omega) hm
      simp only at hcut
      generalize Lib.cut rest [c] = q at *
      obtain ⟨x, r2, m2⟩ := q
      simp only at hcut hq1 hq2 hor
      have HC := Lib.hid hcut
      obtain ⟨m, hm⟩ := hMr
      have hsp : splitL c rest = x :: (if m2 then splitL c r2 else []) := by
        rcases hor with ⟨rfl, h1, _⟩ | ⟨rfl, h1⟩
        · simpa using h1
        · simpa using h1
      rw [hsp] at hall
      have k1 := hb1.cell 0
      have k2 := hb2.cell 0
      have f1 := hb1.free 0
      have hdd : ∀ k : Nat, (Fence.wide.depth.isSome = true → 1 ≤ k) := fun k h => by cases h
      have hgrow : ∀ nd, wr.grownBy ((wr.drewN nd).setCell ⟨sB, 0, none⟩ (.string ⟨r2.toArray⟩)) (some sB) := fun nd =>
        ⟨rfl, rfl, rfl, by simp [World.setCell], fun k _ hk => Below.heap_setCell _ _ _ _ (fun e => hk (by rw [e]))⟩
      have hb1' := fun nd => (hb1.drewN (n := nd)).set 0 (.string ⟨r2.toArray⟩)
      have hb2' := fun nd => (hb2.drewN (n := nd)).other ⟨sB, 0, none⟩ (.string ⟨r2.toArray⟩) hbs
      have hm' := fun nd => MaxL.same ⟨m, hm⟩ ((hgrow nd).block 0 (by obtain ⟨o, ho, _⟩ := cells_of_cell hm; exact (Array.getElem?_eq_some_iff.1 ho).1) (by intro e; cases e; exact h0 rfl))
      have hYY := fun nd => hY pre x _ _ hall.symm (hJ pre _ _ hJr (hgrow nd))
      have HY := Lib.hid hYY
      have HB1 := Lib.hid hb1'
      have HB2 := Lib.hid hb2'
      have HM := Lib.hid hm'
      have HA := Lib.hid hall
      have HO := Lib.hid hor
      clear hYY hb1' hb2' hm' hgrow hall hor hY hsp
      gi_wp2_with (first | (refine ⟨trivial, rfl, ?_⟩; gi_at_call 40; go_must (refine (callsIn_wide.2 (HC.out _ m hm)).mono ?_; rintro e w1 ⟨rfl, nd, rfl⟩; obtain ⟨fn, tmps, assign, body, hy, hR⟩ := HY.out nd)) | (refine ⟨rfl, ?_⟩; refine hR.mono ?_; clear hR; rintro e W3 (⟨rfl, hJ3, hsz, hk3⟩ | ⟨ch, rfl, hp3⟩)))
      · have hx1 : Box W3 sB #[sv r2] 9 := by unfold Box; rw [hk3 sB (by simp)]; exact HB1.out nd
        have hx2 : Box W3 bB #[sv [c]] 9 := by unfold Box; rw [hk3 bB (by simp)]; exact HB2.out nd
        refine ⟨⟨pre ++ [x], r2, m2, rfl, ?_, Nat.le_trans hq2 hlen, hJ3, hx1, hx2, (HM.out nd).same (hk3 0 (by simp))⟩, ?_⟩
        · rw [← HA.out]; simp
        · unfold PiecesM
          rw [hx1.cell 0, k1]
          rcases HO.out with ⟨rfl, _, h3⟩ | ⟨rfl, _⟩
          · simpa [sv, ByteArray.size] using h3
          · simp [sv]
      · exact ⟨rfl, .inr ⟨ch, rfl, hp3⟩⟩
theorem pieces_seq (sB bB : Nat) (c : UInt8) (s : List UInt8) (hs : s.length < 4294967281) (h0 : sB ≠ 0) (hbs : bB ≠ sB) (w : World) (hM : MaxL w) (hBs : Box w sB #[sv s] 9) (hBb : Box w bB #[sv [c]] 9) :
    SeqP Tryd.prog 39 #[.pointer (some ⟨sB, 0, none⟩), .pointer (some ⟨bB, 0, none⟩)] (fun x => #[sv x]) (splitL c s) sB [0, sB, bB] w := fun l J Jp W hW hJ hJp hY hj =>
  pieces_in l sB bB c J Jp s hs h0 hbs hJ hJp hY W (hM.kept hW) (hBs.kept hW) (hBb.kept hW) hj
end Go.Proofs.YtdhmekpgplajmaaDoor
end
section
namespace Go.Proofs.YtdhmekpgplajmaaDoor
open Go.RowKit
/-- A reader's cells: the machine so far, and the bytes that were there. -/
def rcells (V : VDfa) (t : BSet) : Array Value := V.cells ++ setC t
theorem rcells_size (V : VDfa) (t : BSet) : (rcells V t).size = 264 := by unfold rcells; rw [Array.size_append, VDfa.size]; rfl
theorem rcells_low (V : VDfa) (t : BSet) {i : Nat} (h : i < 260) : (rcells V t)[i]? = V.cells[i]? := by
  unfold rcells; rw [Array.getElem?_append_left (by rw [VDfa.size]; exact h)]
theorem rcells_there (V : VDfa) (t : BSet) : (rcells V t)[260]? = some (.int .u64 (word t 0 : Nat)) ∧ (rcells V t)[261]? = some (.int .u64 (word t 1 : Nat)) ∧ (rcells V t)[262]? = some (.int .u64 (word t 2 : Nat)) ∧ (rcells V t)[263]? = some (.int .u64 (word t 3 : Nat)) := by
  unfold rcells
  refine ⟨?_, ?_, ?_, ?_⟩ <;> rw [Array.getElem?_append_right (by rw [VDfa.size]; decide), VDfa.size] <;> rfl
theorem rcells_ext {A : Array Value} {V : VDfa} {t : BSet} (hs : A.size = 264) (h0 : ∀ i, i < 256 → A[i]? = some (.int .u8 (V.of i : Nat))) (h1 : A[256]? = some (.int .i64 V.width)) (h2 : A[257]? = some (.slice V.na V.nn V.nc))
    (h3 : A[258]? = some (.slice V.la V.ln V.lc)) (h4 : A[259]? = some (.slice V.ma V.mn V.mc)) (h5 : A[260]? = some (.int .u64 (word t 0 : Nat))) (h6 : A[261]? = some (.int .u64 (word t 1 : Nat))) (h7 : A[262]? = some (.int .u64 (word t 2 : Nat))) (h8 : A[263]? = some (.int .u64 (word t 3 : Nat))) : A = rcells V t := by
  obtain ⟨r0, r1, r2, r3⟩ := rcells_there V t
  refine Array.ext_getElem? fun i => ?_
  rcases Nat.lt_or_ge i 256 with h | h
  · rw [h0 i h, rcells_low _ _ (by omega), V.get_of i h]
  · rcases Nat.lt_or_ge i 264 with hh | hh
    · have : i = 256 ∨ i = 257 ∨ i = 258 ∨ i = 259 ∨ i = 260 ∨ i = 261 ∨ i = 262 ∨ i = 263 := by omega
      rcases this with rfl | rfl | rfl | rfl | rfl | rfl | rfl | rfl
      · rw [h1, rcells_low _ _ (by omega), V.get_width]
      · rw [h2, rcells_low _ _ (by omega), V.get_next]
      · rw [h3, rcells_low _ _ (by omega), V.get_label]
      · rw [h4, rcells_low _ _ (by omega), V.get_names]
      · rw [h5, r0]
      · rw [h6, r1]
      · rw [h7, r2]
      · rw [h8, r3]
    · rw [Array.getElem?_eq_none (by omega), Array.getElem?_eq_none (by rw [rcells_size]; exact hh)]
theorem rcells_gets (V : VDfa) (t : BSet) : (rcells V t)[256]? = some (.int .i64 V.width) ∧ (rcells V t)[257]? = some (.slice V.na V.nn V.nc) ∧ (rcells V t)[258]? = some (.slice V.la V.ln V.lc) ∧ (rcells V t)[259]? = some (.slice V.ma V.mn V.mc) :=
  ⟨by rw [rcells_low _ _ (by omega), V.get_width], by rw [rcells_low _ _ (by omega), V.get_next], by rw [rcells_low _ _ (by omega), V.get_label], by rw [rcells_low _ _ (by omega), V.get_names]⟩
theorem rcells_of (V : VDfa) (t : BSet) {b : Nat} (hb : b < 256) (k : Nat) : (rcells V t).setIfInBounds b (.int .u8 (k : Nat)) = rcells { V with of := fun x => if x = b then k else V.of x } t := by
  obtain ⟨r0, r1, r2, r3⟩ := rcells_there V t
  obtain ⟨g0, g1, g2, g3⟩ := rcells_gets V t
  refine rcells_ext (by simp [rcells_size]) (fun i hi => ?_) ?_ ?_ ?_ ?_ ?_ ?_ ?_ ?_
  · rw [Array.getElem?_setIfInBounds]
    by_cases h : b = i
    · subst h; simp [rcells_size]; omega
    · rw [if_neg h, rcells_low _ _ (by omega), V.get_of i hi]; simp [Ne.symm h]
  all_goals (rw [Array.getElem?_setIfInBounds, if_neg (by omega)]; assumption)
theorem rcells_width (V : VDfa) (t : BSet) (x : Int) : (rcells V t).setIfInBounds 256 (.int .i64 x) = rcells { V with width := x } t := by
  obtain ⟨r0, r1, r2, r3⟩ := rcells_there V t
  obtain ⟨g0, g1, g2, g3⟩ := rcells_gets V t
  refine rcells_ext (by simp [rcells_size]) (fun i hi => ?_) ?_ ?_ ?_ ?_ ?_ ?_ ?_ ?_
  · rw [Array.getElem?_setIfInBounds, if_neg (by omega), rcells_low _ _ (by omega), V.get_of i hi]
  · simp [rcells_size]
  all_goals (rw [Array.getElem?_setIfInBounds, if_neg (by omega)]; assumption)
theorem rcells_next (V : VDfa) (t : BSet) (a : Option Addr) (n c : Nat) : (rcells V t).setIfInBounds 257 (.slice a n c) = rcells { V with na := a, nn := n, nc := c } t := by
  obtain ⟨r0, r1, r2, r3⟩ := rcells_there V t
  obtain ⟨g0, g1, g2, g3⟩ := rcells_gets V t
  refine rcells_ext (by simp [rcells_size]) (fun i hi => ?_) ?_ ?_ ?_ ?_ ?_ ?_ ?_ ?_
  · rw [Array.getElem?_setIfInBounds, if_neg (by omega), rcells_low _ _ (by omega), V.get_of i hi]
  · rw [Array.getElem?_setIfInBounds, if_neg (by omega)]; assumption
  · simp [rcells_size]
  all_goals (rw [Array.getElem?_setIfInBounds, if_neg (by omega)]; assumption)
theorem rcells_label (V : VDfa) (t : BSet) (a : Option Addr) (n c : Nat) : (rcells V t).setIfInBounds 258 (.slice a n c) = rcells { V with la := a, ln := n, lc := c } t := by
  obtain ⟨r0, r1, r2, r3⟩ := rcells_there V t
  obtain ⟨g0, g1, g2, g3⟩ := rcells_gets V t
  refine rcells_ext (by simp [rcells_size]) (fun i hi => ?_) ?_ ?_ ?_ ?_ ?_ ?_ ?_ ?_
  · rw [Array.getElem?_setIfInBounds, if_neg (by omega), rcells_low _ _ (by omega), V.get_of i hi]
  · rw [Array.getElem?_setIfInBounds, if_neg (by omega)]; assumption
  · rw [Array.getElem?_setIfInBounds, if_neg (by omega)]; assumption
  · simp [rcells_size]
  all_goals (rw [Array.getElem?_setIfInBounds, if_neg (by omega)]; assumption)
theorem rcells_names (V : VDfa) (t : BSet) (a : Option Addr) (n c : Nat) : (rcells V t).setIfInBounds 259 (.slice a n c) = rcells { V with ma := a, mn := n, mc := c } t := by
  obtain ⟨r0, r1, r2, r3⟩ := rcells_there V t
  obtain ⟨g0, g1, g2, g3⟩ := rcells_gets V t
  refine rcells_ext (by simp [rcells_size]) (fun i hi => ?_) ?_ ?_ ?_ ?_ ?_ ?_ ?_ ?_
  · rw [Array.getElem?_setIfInBounds, if_neg (by omega), rcells_low _ _ (by omega), V.get_of i hi]
  · rw [Array.getElem?_setIfInBounds, if_neg (by omega)]; assumption
  · rw [Array.getElem?_setIfInBounds, if_neg (by omega)]; assumption
  · rw [Array.getElem?_setIfInBounds, if_neg (by omega)]; assumption
  · simp [rcells_size]
  all_goals (rw [Array.getElem?_setIfInBounds, if_neg (by omega)]; assumption)
theorem rcells_set (V : VDfa) (t u : BSet) : ((((rcells V t).setIfInBounds 260 (.int .u64 (word u 0 : Nat))).setIfInBounds 261 (.int .u64 (word u 1 : Nat))).setIfInBounds 262 (.int .u64 (word u 2 : Nat))).setIfInBounds 263 (.int .u64 (word u 3 : Nat)) = rcells V u := by
  obtain ⟨g0, g1, g2, g3⟩ := rcells_gets V t
  refine rcells_ext (by simp [rcells_size]) (fun i hi => ?_) ?_ ?_ ?_ ?_ ?_ ?_ ?_ ?_
  · rw [Array.getElem?_setIfInBounds, if_neg (by omega), Array.getElem?_setIfInBounds, if_neg (by omega), Array.getElem?_setIfInBounds, if_neg (by omega), Array.getElem?_setIfInBounds, if_neg (by omega), rcells_low _ _ (by omega), V.get_of i hi]
  · rw [Array.getElem?_setIfInBounds, if_neg (by omega), Array.getElem?_setIfInBounds, if_neg (by omega), Array.getElem?_setIfInBounds, if_neg (by omega), Array.getElem?_setIfInBounds, if_neg (by omega)]; exact g0
  · rw [Array.getElem?_setIfInBounds, if_neg (by omega), Array.getElem?_setIfInBounds, if_neg (by omega), Array.getElem?_setIfInBounds, if_neg (by omega), Array.getElem?_setIfInBounds, if_neg (by omega)]; exact g1
  · rw [Array.getElem?_setIfInBounds, if_neg (by omega), Array.getElem?_setIfInBounds, if_neg (by omega), Array.getElem?_setIfInBounds, if_neg (by omega), Array.getElem?_setIfInBounds, if_neg (by omega)]; exact g2
  · rw [Array.getElem?_setIfInBounds, if_neg (by omega), Array.getElem?_setIfInBounds, if_neg (by omega), Array.getElem?_setIfInBounds, if_neg (by omega), Array.getElem?_setIfInBounds, if_neg (by omega)]; exact g3
  all_goals simp [rcells_size]
attribute [irreducible] rcells
/-- What lies in a reader's block. -/
theorem Box.reader {w : World} {b E : Nat} {V : VDfa} {t : BSet} (h : Box w b (rcells V t) E) : w.cell? ⟨b, 256, none⟩ = some (.int .i64 V.width) ∧ w.cell? ⟨b, 257, none⟩ = some (.slice V.na V.nn V.nc) ∧ w.cell? ⟨b, 258, none⟩ = some (.slice V.la V.ln V.lc) ∧ w.cell? ⟨b, 259, none⟩ = some (.slice V.ma V.mn V.mc) := by
  obtain ⟨g0, g1, g2, g3⟩ := rcells_gets V t
  exact ⟨(h.cell _).trans g0, (h.cell _).trans g1, (h.cell _).trans g2, (h.cell _).trans g3⟩
theorem Box.readerT {w : World} {b E : Nat} {V : VDfa} {t : BSet} (h : Box w b (rcells V t) E) : w.cell? ⟨b, 260, none⟩ = some (.int .u64 (word t 0 : Nat)) ∧ w.cell? ⟨b, 261, none⟩ = some (.int .u64 (word t 1 : Nat)) ∧ w.cell? ⟨b, 262, none⟩ = some (.int .u64 (word t 2 : Nat)) ∧ w.cell? ⟨b, 263, none⟩ = some (.int .u64 (word t 3 : Nat)) := by
  obtain ⟨g0, g1, g2, g3⟩ := rcells_there V t
  exact ⟨(h.cell _).trans g0, (h.cell _).trans g1, (h.cell _).trans g2, (h.cell _).trans g3⟩
/-! ### Its slices -/
abbrev encR (x : Option Addr × Nat × Nat) : List Value := [.slice x.1 x.2.1 x.2.2]
theorem encR_ok : EncOK encR 1 := ⟨fun _ => rfl, fun x u hu => by simp [encR] at hu; subst hu; rfl⟩
theorem elem_int : ElemOK Tryd.prog 24 3 (.int .i64 0) 1 8 := ⟨Tryd.underlying24, info_parts (by kernel_rfl), rfl, by decide⟩
theorem elem_ints : ElemOK Tryd.prog 23 24 (.slice none 0 0) 1 24 := ⟨Tryd.underlying23, info_parts (by kernel_rfl), rfl, by decide⟩
def VDfa.lv (V : VDfa) : Value := .slice V.la V.ln V.lc
abbrev rowV (x : Option Addr × Nat × Nat) : Value := .slice x.1 x.2.1 x.2.2
/-- The rows: slices of their own, none over the labels' block. -/
def RowsR (w : World) (base : Nat) (V : VDfa) (next : List (List Int)) : Prop :=
  ∃ rows : List (Option Addr × Nat × Nat), Own w base 24 1 encR (.slice V.na V.nn V.nc) rows ∧ rows.length = next.length ∧
    ∀ i (h1 : i < rows.length) (h2 : i < next.length), Own w base 3 1 encI (rowV rows[i]) next[i] ∧ ∀ k, (rowV rows[i]).ownBlock = some k → V.lv.ownBlock ≠ some k
structure RdR (w : World) (r base : Nat) (V : VDfa) (t : BSet) (D : PDfa) : Prop where
  box : Box w r (rcells V t) 60
  of : V.of = D.of
  width : V.width = D.width
  lab : Own w base 3 1 encI V.lv D.label
  nam : Own w base 9 1 encT (.slice V.ma V.mn V.mc) D.names
  nxt : RowsR w base V D.next
theorem RowsR.kept {w w' : World} {base : Nat} {V : VDfa} {next : List (List Int)} (h : RowsR w base V next) (hb : Below w.heap.size w w') : RowsR w' base V next := by
  obtain ⟨rows, h1, h2, h3⟩ := h
  exact ⟨rows, h1.kept hb, h2, fun i a b => ⟨((h3 i a b).1).kept hb, (h3 i a b).2⟩⟩
theorem RdR.kept {w w' : World} {r base : Nat} {V : VDfa} {t : BSet} {D : PDfa} (h : RdR w r base V t D) (hb : Below w.heap.size w w') : RdR w' r base V t D :=
  ⟨h.box.kept hb, h.of, h.width, h.lab.kept hb, h.nam.kept hb, h.nxt.kept hb⟩
theorem slice_map {α β : Type} {w : World} {v : Value} {f : α → Value} {g : β → Value} {m : α → β} {xs : List α} (h : SliceR w v 1 (fun x => [f x]) xs) (hm : ∀ x, g (m x) = f x) : SliceR w v 1 (fun x => [g x]) (xs.map m) := by
  obtain ⟨a, b, o, cap, hv, h1, h2, h3, h4⟩ := h
  refine ⟨a, b, o, cap, by rw [List.length_map]; exact hv, by rw [List.length_map]; exact h1, h2, ?_, fun i hi j u hu => ?_⟩
  · rcases h3 with h3 | ⟨rfl, h3⟩
    · exact .inl h3
    · exact .inr ⟨rfl, h3⟩
  · have hi' : i < xs.length := by simpa using hi
    simp only [List.getElem_map, hm] at hu
    exact h4 i hi' j u hu
theorem RdR.reads {w : World} {r base : Nat} {V : VDfa} {t : BSet} {D : PDfa} (h : RdR w r base V t D) : ReadsD w V D := by
  obtain ⟨rows, h1, h2, h3⟩ := h.nxt
  refine ⟨h.of, h.width, h.lab.slice encI_ok, h.nam.slice encT_ok, rows.map rowV, slice_map (m := rowV) (f := rowV) (g := fun v => v) (h1.slice encR_ok) (fun _ => rfl), by rw [List.length_map]; exact h2, fun i a b => ?_⟩
  have ha : i < rows.length := by simpa using a
  obtain ⟨h4, _⟩ := h3 i ha b
  obtain ⟨a', c', hv⟩ := h4.form
  refine ⟨a', c', by rw [List.getElem_map]; exact hv, ?_⟩
  rw [← hv]
  exact h4.slice encI_ok
theorem RowsR.other {w : World} {base : Nat} {V : VDfa} {next : List (List Int)} (h : RowsR w base V next) (a : Addr) (u : Value) (hne : a.block < base) : RowsR (w.setCell a u) base V next := by
  obtain ⟨rows, h1, h2, h3⟩ := h
  exact ⟨rows, h1.other a u hne, h2, fun i x y => ⟨((h3 i x y).1).other a u hne, (h3 i x y).2⟩⟩
theorem RdR.of_set {w : World} {r base : Nat} {V : VDfa} {t : BSet} {D : PDfa} (h : RdR w r base V t D) (hr : r < base) {b : Nat} (hb : b < 256) (k : Nat) :
    RdR (w.setCell ⟨r, b, none⟩ (.int .u8 (k : Nat))) r base { V with of := fun x => if x = b then k else V.of x } t { D with of := fun x => if x = b then k else D.of x } :=
  ⟨by rw [← rcells_of V t hb]; exact h.box.set b _, by simp only [h.of], h.width, h.lab.other _ _ hr, h.nam.other _ _ hr, h.nxt.other _ _ hr⟩
theorem RdR.width_set {w : World} {r base : Nat} {V : VDfa} {t : BSet} {D : PDfa} (h : RdR w r base V t D) (hr : r < base) (x : Int) :
    RdR (w.setCell ⟨r, 256, none⟩ (.int .i64 x)) r base { V with width := x } t { D with width := x } :=
  ⟨by rw [← rcells_width V t x]; exact h.box.set 256 _, h.of, rfl, h.lab.other _ _ hr, h.nam.other _ _ hr, h.nxt.other _ _ hr⟩
theorem RdR.there_set {w : World} {r base : Nat} {V : VDfa} {t : BSet} {D : PDfa} (h : RdR w r base V t D) (hr : r < base) (u : BSet) :
    RdR ((((w.setCell ⟨r, 260, none⟩ (.int .u64 (word u 0 : Nat))).setCell ⟨r, 261, none⟩ (.int .u64 (word u 1 : Nat))).setCell ⟨r, 262, none⟩ (.int .u64 (word u 2 : Nat))).setCell ⟨r, 263, none⟩ (.int .u64 (word u 3 : Nat))) r base V u D :=
  ⟨by rw [← rcells_set V t u]; exact (((h.box.set 260 _).set 261 _).set 262 _).set 263 _, h.of, h.width, (((h.lab.other _ _ hr).other _ _ hr).other _ _ hr).other _ _ hr, (((h.nam.other _ _ hr).other _ _ hr).other _ _ hr).other _ _ hr, (((h.nxt.other _ _ hr).other _ _ hr).other _ _ hr).other _ _ hr⟩
/-- What a reader's method keeps: all blocks of cells but the reader's and those behind base; all that is no cells. -/
structure KeptR (r base : Nat) (w w' : World) : Prop where
  low : Below r w w'
  cells : KeepC (fun k => k = r ∨ base ≤ k) w w'
  others : KeepsOthers w w'
theorem KeptR.refl (r base : Nat) (w : World) : KeptR r base w w := ⟨Below.refl _ _, KeepC.refl _ _, KeepsOthers.refl _⟩
theorem KeptR.trans {r base : Nat} {a b c : World} (h : KeptR r base a b) (k : KeptR r base b c) : KeptR r base a c := ⟨h.low.trans k.low, h.cells.trans k.cells, h.others.trans k.others⟩
theorem others_below {w w' : World} (h : Below w.heap.size w w') : KeepsOthers w w' := ⟨h.size, fun k _ hk _ => (h.block k (Array.getElem?_eq_some_iff.1 hk).1).trans hk⟩
theorem KeptR.below {r base : Nat} {w w' : World} (hr : r ≤ w.heap.size) (h : Below w.heap.size w w') : KeptR r base w w' := ⟨h.mono hr, KeepC.below h, others_below h⟩
theorem KeptR.set {r base : Nat} (w : World) (i : Nat) (v : Value) : KeptR r base w (w.setCell ⟨r, i, none⟩ v) := ⟨(Below.refl r w).setCell (by simp) v, KeepC.set w _ v (.inl rfl), KeepsOthers.setCell w _ v⟩
end Go.Proofs.YtdhmekpgplajmaaDoor
end
section
namespace Go.Proofs.YtdhmekpgplajmaaDoor
open Go.RowKit
def setOf (l : List Nat) (k : Nat) (of : Nat → Nat) : Nat → Nat := fun b => if b ∈ l then k else of b
/-- A class's line: its number and its text. -/
def classL (D : PDfa) (t : BSet) (k : Nat) (s : List UInt8) : Option (PDfa × BSet) :=
  match readR s with
  | .inl _ => none
  | .inr (f, j) => if j = s.length ∧ k < 256 ∧ f &&& t = 0 then some ({ D with of := setOf (elems f) k D.of }, t ||| f) else none
theorem readR_prefix {s : List UInt8} (h : Lib.hasPrefix s [91] = false) : readR s = .inl (1, 0) := by
  have : hereB s 0 91 = false := by
    cases s with
    | nil => rfl
    | cons x l =>
      simp only [Lib.hasPrefix, List.isPrefixOf, Bool.and_true] at h
      unfold hereB
      simp only [List.length_cons, List.getD_cons_zero]
      have : (x == 91) = false := by
        rw [beq_eq_false_iff_ne] at h ⊢; exact fun e => h e.symm
      rw [this]; simp
  unfold readR
  rw [this]; rfl
theorem loopR_ne {l : List UInt8} {fr kd ps : Nat} : ∀ (n : Nat) (s : BSet) (i : Nat), loopR l fr n s i = .inl (kd, ps) → kd ≠ 0
  | 0, _, _, h => by rw [loopR] at h; cases h; decide
  | n + 1, s, i, h => by
    rw [loopR_succ] at h
    split at h
    · cases h
    · split at h
      · rename_i hq
        cases h
        exact itemR_ne hq
      · exact loopR_ne n _ _ h
theorem readR_ne {l : List UInt8} {kd ps : Nat} (h : readR l = .inl (kd, ps)) : kd ≠ 0 := by
  unfold readR firstR at h
  repeat' split at h
  all_goals first | (cases h; decide) | skip
  · rename_i hq
    split at hq
    · rename_i h2
      cases h
      cases hq
      exact itemR_ne h2
    · cases h
      exact loopR_ne _ _ _ hq
  all_goals cases h
/-- A class reader's results, both ways at once. -/
theorem retR_form (s : List UInt8) : ∃ (f : BSet) (j kd ps : Nat), retR (readR s) = .tuple #[.agg (setC f), .int .i64 j, .agg #[.int .i64 kd, .int .i64 ps]] ∧ ((kd = 0 ∧ readR s = .inr (f, j)) ∨ (kd ≠ 0 ∧ ∃ q, readR s = .inl q)) := by
  cases h : readR s with
  | inl q => exact ⟨0, 0, q.1, q.2, rfl, .inr ⟨readR_ne (kd := q.1) (ps := q.2) h, q, rfl⟩⟩
  | inr q => exact ⟨q.1, q.2, 0, 0, rfl, .inl ⟨rfl, rfl⟩⟩
theorem setC_four (f : BSet) : setC f = #[.int .u64 (word f 0 : Nat), .int .u64 (word f 1 : Nat), .int .u64 (word f 2 : Nat), .int .u64 (word f 3 : Nat)] := rfl
/-- A class's line, under way. -/
structure RC (w W : World) (r base : Nat) (V : VDfa) (t : BSet) (D : PDfa) (b : Nat) (f : BSet) (kd ps : Nat) : Prop where
  set : Box W b (setC f) 53
  bad : Box W (b + 1) #[.int .i64 kd, .int .i64 ps] 106
  rd : RdR W r base V t D
  below : Below w.heap.size w W
  tab : Tab W
theorem RC.kept {w W W' : World} {r base b kd ps : Nat} {V : VDfa} {t f : BSet} {D : PDfa} (h : RC w W r base V t D b f kd ps) (hb : Below W.heap.size W W') : RC w W' r base V t D b f kd ps :=
  ⟨h.set.kept hb, h.bad.kept hb, h.rd.kept hb, h.below.trans (hb.mono h.below.size), h.tab.kept hb⟩
theorem setOf_nil (k : Nat) (of : Nat → Nat) : setOf [] k of = of := by funext x; simp [setOf]
theorem setOf_snoc (l : List Nat) (b k : Nat) (of : Nat → Nat) : (fun x => if x = b then k else setOf l k of x) = setOf (l ++ [b]) k of := by
  funext x
  unfold setOf
  by_cases h1 : x = b <;> by_cases h2 : x ∈ l <;> simp [h1, h2]
def RCLoop (w : World) (r base : Nat) (V : VDfa) (t : BSet) (D : PDfa) (k : Nat) (L : List Nat) (a : Option Addr) (cap B : Nat) (i : Value) (wr : World) : Prop :=
  ∃ j : Nat, j ≤ L.length ∧ i = .int .i64 j ∧ RdR wr r base { V with of := setOf (L.take j) k V.of } t { D with of := setOf (L.take j) k D.of } ∧ Own wr B 5 1 encB (.slice a L.length cap) L ∧ KeptR r base w wr
def RetClass (r base : Nat) (w : World) (o : Option (PDfa × BSet)) (e : Ending) (w' : World) : Prop :=
  match o with
  | some (D, t) => e = .returned (.tuple #[]) ∧ (∃ V, RdR w' r base V t D) ∧ KeptR r base w w'
  | none => Left w e w'
end Go.Proofs.YtdhmekpgplajmaaDoor
end
