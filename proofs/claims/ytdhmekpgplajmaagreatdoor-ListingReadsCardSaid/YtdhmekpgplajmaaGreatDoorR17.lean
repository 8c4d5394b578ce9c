/- Joined by tools/merge.py: Dfa, DfaRight. -/
import Derived.Test.YtdhmekpgplajmaaGreatDoorR16
import Derived.Test.YtdhmekpgplajmaaGreatDoorR3
import Derived.Deep.DeepCutAuto
import Derived.Test.YtdhmekpgplajmaaGreatDoorR2
section
namespace Go.Proofs.YtdhmekpgplajmaaGreatDoor
open Go.RowKit
/-- A machine, plain. -/
structure PDfa where
  of : Nat → Nat
  width : Int
  next : List (List Int)
  label : List Int
  names : List (List UInt8)
/-- A machine's value: its classes, its width, its three slices. -/
structure VDfa where
  of : Nat → Nat
  width : Int
  na : Option Addr
  nn : Nat
  nc : Nat
  la : Option Addr
  ln : Nat
  lc : Nat
  ma : Option Addr
  mn : Nat
  mc : Nat
def VDfa.cells (V : VDfa) : Array Value := arr8 V.of ++ #[.int .i64 V.width, .slice V.na V.nn V.nc, .slice V.la V.ln V.lc, .slice V.ma V.mn V.mc]
theorem VDfa.size (V : VDfa) : V.cells.size = 260 := by unfold VDfa.cells; rw [Array.size_append, arr8_size]; rfl
theorem VDfa.sizes (V U : VDfa) : V.cells.size = U.cells.size := by rw [VDfa.size, VDfa.size]
theorem VDfa.get_of (V : VDfa) (i : Nat) (h : i < 256) : V.cells[i]? = some (.int .u8 (V.of i : Nat)) := by
  unfold VDfa.cells; rw [Array.getElem?_append_left (by rw [arr8_size]; exact h), arr8_get _ _ h]
theorem VDfa.get_width (V : VDfa) : V.cells[256]? = some (.int .i64 V.width) := by
  unfold VDfa.cells; rw [Array.getElem?_append_right (by rw [arr8_size]; exact Nat.le_refl _), arr8_size]; rfl
theorem VDfa.get_next (V : VDfa) : V.cells[257]? = some (.slice V.na V.nn V.nc) := by
  unfold VDfa.cells; rw [Array.getElem?_append_right (by rw [arr8_size]; decide), arr8_size]; rfl
theorem VDfa.get_label (V : VDfa) : V.cells[258]? = some (.slice V.la V.ln V.lc) := by
  unfold VDfa.cells; rw [Array.getElem?_append_right (by rw [arr8_size]; decide), arr8_size]; rfl
theorem VDfa.get_names (V : VDfa) : V.cells[259]? = some (.slice V.ma V.mn V.mc) := by
  unfold VDfa.cells; rw [Array.getElem?_append_right (by rw [arr8_size]; decide), arr8_size]; rfl
theorem VDfa.all (V : VDfa) : V.cells.all (·.oneCell') = true := by
  unfold VDfa.cells; rw [Array.all_append, arr8_all, Bool.true_and]
  exact Array.all_eq_true_iff_forall_mem.2 (by intro v hv; simp at hv; rcases hv with rfl | rfl | rfl | rfl <;> rfl)
/-- What lies in a machine's block. -/
theorem Box.dfa {w : World} {b E : Nat} {V : VDfa} (h : Box w b V.cells E) : w.cell? ⟨b, 256, none⟩ = some (.int .i64 V.width) ∧ w.cell? ⟨b, 257, none⟩ = some (.slice V.na V.nn V.nc) ∧ w.cell? ⟨b, 258, none⟩ = some (.slice V.la V.ln V.lc) ∧ w.cell? ⟨b, 259, none⟩ = some (.slice V.ma V.mn V.mc) :=
  ⟨(h.cell _).trans V.get_width, (h.cell _).trans V.get_next, (h.cell _).trans V.get_label, (h.cell _).trans V.get_names⟩
theorem Box.dfaOf {w : World} {b E : Nat} {V : VDfa} (h : Box w b V.cells E) : w.rangeAt b 0 (arr8 V.of).toList := fun j v hv => by
  have hj : j < 256 := by have := (List.getElem?_eq_some_iff.1 hv).1; rwa [Array.length_toList, arr8_size] at this
  rw [h.cell, Nat.zero_add, V.get_of j hj]
  rw [Array.getElem?_toList, arr8_get _ _ hj] at hv
  exact hv
attribute [irreducible] VDfa.cells
/-- The value V, where it lies, reads as the machine D. -/
def ReadsD (w : World) (V : VDfa) (D : PDfa) : Prop := V.of = D.of ∧ V.width = D.width ∧ SliceR w (.slice V.la V.ln V.lc) 1 encI D.label ∧ SliceR w (.slice V.ma V.mn V.mc) 1 encT D.names ∧
  ∃ rows : List Value, SliceR w (.slice V.na V.nn V.nc) 1 encV rows ∧ rows.length = D.next.length ∧ ∀ i (h1 : i < rows.length) (h2 : i < D.next.length), ∃ a c, rows[i] = .slice a (D.next[i]).length c ∧ SliceR w (.slice a (D.next[i]).length c) 1 encI D.next[i]
theorem ReadsD.kept {w w' : World} {V : VDfa} {D : PDfa} (h : ReadsD w V D) (hb : Below w.heap.size w w') : ReadsD w' V D := by
  obtain ⟨h1, h2, h3, h4, rows, h5, h6, h7⟩ := h
  exact ⟨h1, h2, h3.kept hb, h4.kept hb, rows, h5.kept hb, h6, fun i a b => by obtain ⟨x, c, e, k⟩ := h7 i a b; exact ⟨x, c, e, k.kept hb⟩⟩
theorem ReadsD.lens {w : World} {V : VDfa} {D : PDfa} (h : ReadsD w V D) : V.ln = D.label.length ∧ V.mn = D.names.length ∧ V.nn = D.next.length := by
  obtain ⟨_, _, h3, h4, rows, h5, h6, _⟩ := h
  obtain ⟨_, _, e3, _⟩ := h3.open
  obtain ⟨_, _, e4, _⟩ := h4.open
  obtain ⟨_, _, e5, _⟩ := h5.open
  exact ⟨e3, e4, e5.trans h6⟩
/-! ### May it be? -/
def rowOK (D : PDfa) (i : Nat) : Bool := (decide ((((D.next.getD i []).length : Nat) : Int) = D.width) && (decide (0 ≤ D.label.getD i 0) && decide (D.label.getD i 0 ≤ (D.names.length : Nat)))) && (D.next.getD i []).all fun t => decide (0 ≤ t) && decide (t < (D.label.length : Nat))
def rowsTo (D : PDfa) (k : Nat) : Bool := (List.range k).all (rowOK D)
theorem rowsTo_succ (D : PDfa) (k : Nat) : rowsTo D (k + 1) = (rowsTo D k && rowOK D k) := by
  unfold rowsTo; rw [List.range_succ, List.all_append]; simp
theorem rowsTo_false (D : PDfa) (k n : Nat) (hk : k < n) (h : rowOK D k = false) : rowsTo D n = false := by
  unfold rowsTo
  rw [List.all_eq_false]
  exact ⟨k, by simpa using hk, by simp [h]⟩
def rightD (D : PDfa) : Bool := (decide (1 ≤ D.label.length) && (decide (D.label.length ≤ 65536) && decide (D.next.length = D.label.length))) && ((sameArr (numR (Kern (keyN D.of))) D.of && ((widR (Kern (keyN D.of)) : Nat) == D.width)) && (namesOK D.names && rowsTo D D.next.length))
theorem info_dfa : (Tryz.prog.info? 28).map (·.size) = some 260 := by kernel_rfl
theorem size_dfa (V : VDfa) : (Tryz.prog.info? 28).map (·.size) = some V.cells.size := by rw [VDfa.size]; exact info_dfa
theorem rowOK_at {of : Nat → Nat} {wd : Int} {nx : List (List Int)} {lb : List Int} {nm : List (List UInt8)} {n m : Nat} (hn : n = lb.length) (hm : m = nm.length) {k : Nat} (h1 : k < nx.length) (h2 : k < lb.length) :
    rowOK ⟨of, wd, nx, lb, nm⟩ k = ((decide (((nx[k].length : Nat) : Int) = wd) && (decide (0 ≤ lb[k]) && decide (lb[k] ≤ (m : Nat)))) && nx[k].all fun t => decide (0 ≤ t) && decide (t < (n : Nat))) := by
  subst hn; subst hm
  unfold rowOK
  simp only [List.getD_eq_getElem?_getD, List.getElem?_eq_getElem h1, List.getElem?_eq_getElem h2, Option.getD_some]
def rowAt (r : List Int) (n k : Nat) : Bool := (List.range k).all fun i => decide (0 ≤ r.getD i 0) && decide (r.getD i 0 < (n : Nat))
theorem rowAt_succ (r : List Int) (n k : Nat) (h : k < r.length) : rowAt r n (k + 1) = (rowAt r n k && (decide (0 ≤ r[k]) && decide (r[k] < (n : Nat)))) := by
  unfold rowAt; rw [List.range_succ, List.all_append]; simp [List.getD_eq_getElem?_getD, List.getElem?_eq_getElem h]
theorem rowAt_all (r : List Int) (n : Nat) : rowAt r n r.length = r.all fun t => decide (0 ≤ t) && decide (t < (n : Nat)) := by
  unfold rowAt
  rw [Bool.eq_iff_iff, List.all_eq_true, List.all_eq_true]
  constructor
  · intro h t ht
    obtain ⟨i, hi, rfl⟩ := List.mem_iff_getElem.1 ht
    have := h i (by simpa using hi)
    rwa [List.getD_eq_getElem?_getD, List.getElem?_eq_getElem hi] at this
  · intro h i hi
    have hi2 : i < r.length := by simpa using hi
    rw [List.getD_eq_getElem?_getD, List.getElem?_eq_getElem hi2]
    exact h _ (List.getElem_mem hi2)
theorem all_false {r : List Int} {p : Int → Bool} {k : Nat} (h : k < r.length) (hp : p r[k] = false) : r.all p = false := by
  rw [List.all_eq_false]; exact ⟨r[k], List.getElem_mem h, by simp [hp]⟩
set_option maxRecDepth 20000 in
set_option maxHeartbeats 1600000 in
theorem dfa_rows (V : VDfa) (D : PDfa) (w : World) (h : ReadsD w V D) (hnl : D.next.length = D.label.length) : Calls Tryz.prog 56 #[.agg V.cells] w (Ret w (.bool (rowsTo D D.next.length))) := by
  obtain ⟨of, wd, na, nn, nc, la, n, lc, ma, mn, mc⟩ := V
  obtain ⟨of', wd', nx, lb, nm⟩ := D
  have hst := rowsTo_succ ⟨of', wd', nx, lb, nm⟩
  have hfa := rowsTo_false ⟨of', wd', nx, lb, nm⟩
  obtain ⟨h0, h1, h3, h4, rows, h5, h6, h7⟩ := h
  dsimp only at *
  subst h0
  subst h1
  obtain ⟨b5, o5, e5, c5, c5', a5, k5⟩ := h5.cells1
  obtain ⟨b3, o3, e3, c3, c3', a3, k3⟩ := h3.cells1
  obtain ⟨_, _, e4, c4, c4', _⟩ := h4.cells1
  obtain rfl : nn = n := by omega
  have hnb : nn ≤ 9223372036854775807 := by omega
  have hmb : mn ≤ 9223372036854775807 := by omega
  rw [show nx.length = nn by omega]
  have hat := fun k => @rowOK_at of wd nx lb nm nn mn e3 e4 k
  have HR0 : Hid (rowsTo ⟨of, wd, nx, lb, nm⟩ 0 = true) := Lib.hid rfl
  generalize rowsTo ⟨of, wd, nx, lb, nm⟩ = rt at *
  generalize rowOK ⟨of, wd, nx, lb, nm⟩ = ro at *
  have HN : Hid (nx.length = nn ∧ lb.length = nn ∧ rows.length = nn) := Lib.hid ⟨by omega, by omega, by omega⟩
  have H7 := Lib.hid h7
  have HST := Lib.hid hst
  have HFA := Lib.hid hfa
  have HAT := Lib.hid hat
  have HK5 := Lib.hid k5
  have HK3 := Lib.hid k3
  have HA5 := Lib.hid a5
  have HA3 := Lib.hid a3
  clear hnl h6 h7 hst hfa hat e5 e3 e4 k5 k3 a5 a3 h3 h5 h4 c5 c5' c3 c3' c4 c4'
  have hbx := Box.new w (VDfa.cells ⟨of, wd, na, nn, nc, la, nn, lc, ma, mn, mc⟩) 28
  have hB0 := later_alloc w (.cells (VDfa.cells ⟨of, wd, na, nn, nc, la, nn, lc, ma, mn, mc⟩) 28)
  obtain ⟨x0, x1, x2, x3⟩ := hbx.dfa
  dsimp only at x0 x1 x2 x3
  go_enter Tryz.func56, Tryz.ntmps56
  go_wp2
  have hrt0 := HR0.out
  go_loopw [14] (fun i wr => ∃ k : Nat, k ≤ nn ∧ i = .int .i64 k ∧ rt k = true ∧ Box wr w.heap.size (VDfa.cells ⟨of, wd, na, nn, nc, la, nn, lc, ma, mn, mc⟩) 28 ∧ Below w.heap.size w wr) (fun i _ => nn - (intOf i).toNat)
  case atStart => exact ⟨0, Nat.zero_le _, rfl, hrt0, hbx, hB0⟩
  case round =>
    clear x0 x1 x2 x3 hbx hB0 hrt0
    obtain ⟨k, hk, rfl, hok, hbx, hB⟩ := hrel
    obtain ⟨x0, x1, x2, x3⟩ := hbx.dfa
    dsimp only at x0 x1 x2 x3
    by_cases hlt : k < nn
    · have hk1 : k < nx.length := by rw [HN.out.1]; exact hlt
      have hk2 : k < lb.length := by rw [HN.out.2.1]; exact hlt
      have hk3 : k < rows.length := by rw [HN.out.2.2]; exact hlt
      obtain rfl := HA5.out k hk3
      obtain rfl := HA3.out k hk2
      have c5 := HK5.out k hk3 wr hB
      have c3 := HK3.out k hk2 wr hB
      have hro := HAT.out k hk1 hk2
      obtain ⟨ra, rc, hr, hrs⟩ := H7.out k hk3 hk1
      rw [hr] at c5
      have hsucc := HST.out k
      rw [hok, Bool.true_and] at hsucc
      have hfalse := HFA.out k nn hlt
      generalize nx[k] = row at *
      generalize lb[k] = lab at *
      have HRO := Lib.hid hro
      have HSU := Lib.hid hsucc
      have HFL := Lib.hid hfalse
      have hk0 : (0 : Int) ≤ (k : Int) := by omega
      have hkm : (k : Int) < (nn : Int) := by omega
      clear hro hr hsucc hfalse hok
      have hrl : row.length ≤ 9223372036854775807 := by obtain ⟨_, _, _, h1, h2, _⟩ := hrs.cells1; omega
      obtain ⟨b6, o6, _, _, _, a6, k6⟩ := hrs.cells1
      have hra := fun q => rowAt_succ row nn q
      have hrz := rowAt_all row nn
      have hraf := fun q h hp => all_false (r := row) (p := fun t => decide (0 ≤ t) && decide (t < (nn : Nat))) (k := q) h hp
      obtain ⟨r, hrr⟩ : ∃ r, row.length = r := ⟨_, rfl⟩
      rw [hrr] at hrl
      have HRR := Lib.hid hrr
      have HRA := Lib.hid hra
      have HRZ := Lib.hid hrz
      have HRF := Lib.hid hraf
      have HA6 := Lib.hid a6
      have HK6 := Lib.hid k6
      rw [hrr] at c5
      have hro2 : ro k = ((decide (((r : Nat) : Int) = wd) && (decide (0 ≤ lab) && decide (lab ≤ (mn : Nat)))) && row.all fun t => decide (0 ≤ t) && decide (t < (nn : Nat))) := by rw [HRO.out, HRR.out]
      have HRO2 := Lib.hid hro2
      have HF : Hid (∀ v, Later wr.drew v → Box v w.heap.size (VDfa.cells ⟨of, wd, some ⟨b5, o5, none⟩, nn, nc, some ⟨b3, o3, none⟩, nn, lc, ma, mn, mc⟩) 28 ∧ v.cell? ⟨b5, o5 + k, none⟩ = some (.slice ra r rc) ∧ v.cell? ⟨b3, o3 + k, none⟩ = some (.int .i64 lab) ∧ Below w.heap.size w v) := Lib.hid fun v hl =>
        ⟨hbx.drew.kept hl, (Below.cell hl (World.block_lt_of_cell? wr _ c5)).trans c5, (Below.cell hl (World.block_lt_of_cell? wr _ c3)).trans c3, hB.drew.trans (Below.mono hl hB.size)⟩
      clear hro2 hrr hra hrz hraf a6 k6 hrs HRO
      clear hbx hB x0 x1 x2 x3
      have c5' := (HF.out wr.drew (Below.refl _ _)).2.1
      have c3' := (HF.out wr.drew (Below.refl _ _)).2.2.1
      by_cases h1 : (r : Int) = wd
      · have e1 : ((r : Int) != wd) = false := by simp [h1]
        by_cases h2 : lab < 0
        · have e2 : decide (lab < 0) = true := by simp [h2]
          go_wp2_with fail
          refine wp_region_M (R := Later) 24 (by kernel_rfl) ?_
          refine tkM 0 ?_ rfl (fun w1 hl => ?_) ?_
          rotate_left
          · obtain ⟨hbx, c5, c3, _⟩ := HF.out w1 hl; obtain ⟨x0, x1, x2, x3⟩ := hbx.dfa; dsimp only at x0 x1 x2 x3; go_simp; try with_reducible rfl
          simp only [eA, eB, Act.put, eD, eE, eF]
          refine tkM 1 ?_ rfl (fun w1 hl => ?_) ?_
          rotate_left
          · obtain ⟨hbx, c5, c3, _⟩ := HF.out w1 hl; obtain ⟨x0, x1, x2, x3⟩ := hbx.dfa; dsimp only at x0 x1 x2 x3; go_simp; try with_reducible rfl
          simp only [eA, eB, eC, Act.put, eD, eE, eF]
          refine tkM 2 ?_ rfl (fun w1 hl => ?_) ?_
          rotate_left
          · obtain ⟨hbx, c5, c3, _⟩ := HF.out w1 hl; obtain ⟨x0, x1, x2, x3⟩ := hbx.dfa; dsimp only at x0 x1 x2 x3; go_simp; try with_reducible rfl
          simp only [eA, eB, eC, Act.put, eD, eE, eF]
          refine tkM 3 ?_ rfl (fun w1 hl => ?_) ?_
          rotate_left
          · obtain ⟨hbx, c5, c3, _⟩ := HF.out w1 hl; obtain ⟨x0, x1, x2, x3⟩ := hbx.dfa; dsimp only at x0 x1 x2 x3; go_simp; try with_reducible rfl
          simp only [eA, eB, eC, Act.put, eD, eE, eF]
          refine tkM 4 ?_ rfl (fun w1 hl => ?_) ?_
          rotate_left
          · obtain ⟨hbx, c5, c3, _⟩ := HF.out w1 hl; obtain ⟨x0, x1, x2, x3⟩ := hbx.dfa; dsimp only at x0 x1 x2 x3; go_simp; try with_reducible rfl
          simp only [eA, eB, eC, Act.put, eD, eE, eF]
          refine tkM 5 ?_ rfl (fun w1 hl => ?_) ?_
          rotate_left
          · obtain ⟨hbx, c5, c3, _⟩ := HF.out w1 hl; obtain ⟨x0, x1, x2, x3⟩ := hbx.dfa; dsimp only at x0 x1 x2 x3; go_simp; try with_reducible rfl
          simp only [eA, eB, eC, Act.put, eD, eE, eF]
          refine tkM 6 ?_ rfl (fun w1 hl => ?_) ?_
          rotate_left
          · obtain ⟨hbx, c5, c3, _⟩ := HF.out w1 hl; obtain ⟨x0, x1, x2, x3⟩ := hbx.dfa; dsimp only at x0 x1 x2 x3; go_simp; try with_reducible rfl
          simp only [eA, eB, eC, Act.put, eD, eE, eF]
          refine tkM 7 ?_ rfl (fun w1 hl => ?_) ?_
          rotate_left
          · obtain ⟨hbx, c5, c3, _⟩ := HF.out w1 hl; obtain ⟨x0, x1, x2, x3⟩ := hbx.dfa; dsimp only at x0 x1 x2 x3; go_simp; try with_reducible rfl
          simp only [eA, eB, eC, Act.put, eD, eE, eF]
          refine tkM 8 ?_ rfl (fun w1 hl => ?_) ?_
          rotate_left
          · obtain ⟨hbx, c5, c3, _⟩ := HF.out w1 hl; obtain ⟨x0, x1, x2, x3⟩ := hbx.dfa; dsimp only at x0 x1 x2 x3; go_simp; try with_reducible rfl
          simp only [eA, eB, eC, Act.put, eD, eE, eF]
          refine tkM 9 ?_ rfl (fun w1 hl => ?_) ?_
          rotate_left
          · obtain ⟨hbx, c5, c3, _⟩ := HF.out w1 hl; obtain ⟨x0, x1, x2, x3⟩ := hbx.dfa; dsimp only at x0 x1 x2 x3; go_simp; try with_reducible rfl
          simp only [eA, eB, eC, Act.put, eD, eE, eF]
          refine tkM 10 ?_ rfl (fun w1 hl => ?_) ?_
          rotate_left
          · obtain ⟨hbx, c5, c3, _⟩ := HF.out w1 hl; obtain ⟨x0, x1, x2, x3⟩ := hbx.dfa; dsimp only at x0 x1 x2 x3; go_simp; try with_reducible rfl
          simp only [eA, eB, eC, Act.put, eD, eE, eF]
          refine tkM 11 ?_ rfl (fun w1 hl => ?_) ?_
          rotate_left
          · obtain ⟨hbx, c5, c3, _⟩ := HF.out w1 hl; obtain ⟨x0, x1, x2, x3⟩ := hbx.dfa; dsimp only at x0 x1 x2 x3; go_simp; try with_reducible rfl
          simp only [eA, eB, eC, Act.put, eD, eE, eF]
          refine tkM 12 ?_ rfl (fun w1 hl => ?_) ?_
          rotate_left
          · obtain ⟨hbx, c5, c3, _⟩ := HF.out w1 hl; obtain ⟨x0, x1, x2, x3⟩ := hbx.dfa; dsimp only at x0 x1 x2 x3; go_simp; try with_reducible rfl
          simp only [eA, eB, eC, Act.put, eD, eE, eF]
          refine tkM 13 ?_ rfl (fun w1 hl => ?_) ?_
          rotate_left
          · obtain ⟨hbx, c5, c3, _⟩ := HF.out w1 hl; obtain ⟨x0, x1, x2, x3⟩ := hbx.dfa; dsimp only at x0 x1 x2 x3; go_simp; try with_reducible rfl
          simp only [eA, eB, eC, Act.put, eD, eE, eF]
          refine skM 14 rfl ?_
          simp only [eA, eB, eC, Act.put, eD, eE, eF]
          refine skM 15 rfl ?_
          simp only [eA, eB, eC, Act.put, eD, eE, eF]
          refine skM 16 rfl ?_
          simp only [eA, eB, eC, Act.put, eD, eE, eF]
          refine skM 17 rfl ?_
          simp only [eA, eB, eC, Act.put, eD, eE, eF]
          refine skM 18 rfl ?_
          simp only [eA, eB, eC, Act.put, eD, eE, eF]
          refine skM 19 rfl ?_
          simp only [eA, eB, eC, Act.put, eD, eE, eF]
          refine skM 20 rfl ?_
          simp only [eA, eB, eC, Act.put, eD, eE, eF]
          refine skM 21 rfl ?_
          simp only [eA, eB, eC, Act.put, eD, eE, eF]
          refine skM 22 rfl ?_
          simp only [eA, eB, eC, Act.put, eD, eE, eF]
          refine tkM 23 ?_ rfl (fun w1 hl => ?_) ?_
          rotate_left
          · obtain ⟨hbx, c5, c3, _⟩ := HF.out w1 hl; obtain ⟨x0, x1, x2, x3⟩ := hbx.dfa; dsimp only at x0 x1 x2 x3; go_simp; try with_reducible rfl
          simp only [eA, eB, eC, Act.put, eD, eE, eF]
          refine wpM_done (by kernel_rfl) (fun w1 hl => ?_) _
          have hB9 := (HF.out _ hl).2.2.2
          go_wp2
          go_ret
          exact ⟨by rw [HFL.out (by rw [HRO2.out]; simp; omega)]; rfl, hB9⟩
        · have e2 : decide (lab < 0) = false := by simp; omega
          by_cases h3 : (mn : Int) < lab
          · have e3 : decide ((mn : Int) < lab) = true := by simp [h3]
            go_wp2_with fail
            refine wp_region_M (R := Later) 24 (by kernel_rfl) ?_
            refine tkM 0 ?_ rfl (fun w1 hl => ?_) ?_
            rotate_left
            · obtain ⟨hbx, c5, c3, _⟩ := HF.out w1 hl; obtain ⟨x0, x1, x2, x3⟩ := hbx.dfa; dsimp only at x0 x1 x2 x3; go_simp; try with_reducible rfl
            simp only [eA, eB, Act.put, eD, eE, eF]
            refine tkM 1 ?_ rfl (fun w1 hl => ?_) ?_
            rotate_left
            · obtain ⟨hbx, c5, c3, _⟩ := HF.out w1 hl; obtain ⟨x0, x1, x2, x3⟩ := hbx.dfa; dsimp only at x0 x1 x2 x3; go_simp; try with_reducible rfl
            simp only [eA, eB, eC, Act.put, eD, eE, eF]
            refine tkM 2 ?_ rfl (fun w1 hl => ?_) ?_
            rotate_left
            · obtain ⟨hbx, c5, c3, _⟩ := HF.out w1 hl; obtain ⟨x0, x1, x2, x3⟩ := hbx.dfa; dsimp only at x0 x1 x2 x3; go_simp; try with_reducible rfl
            simp only [eA, eB, eC, Act.put, eD, eE, eF]
            refine tkM 3 ?_ rfl (fun w1 hl => ?_) ?_
            rotate_left
            · obtain ⟨hbx, c5, c3, _⟩ := HF.out w1 hl; obtain ⟨x0, x1, x2, x3⟩ := hbx.dfa; dsimp only at x0 x1 x2 x3; go_simp; try with_reducible rfl
            simp only [eA, eB, eC, Act.put, eD, eE, eF]
            refine tkM 4 ?_ rfl (fun w1 hl => ?_) ?_
            rotate_left
            · obtain ⟨hbx, c5, c3, _⟩ := HF.out w1 hl; obtain ⟨x0, x1, x2, x3⟩ := hbx.dfa; dsimp only at x0 x1 x2 x3; go_simp; try with_reducible rfl
            simp only [eA, eB, eC, Act.put, eD, eE, eF]
            refine tkM 5 ?_ rfl (fun w1 hl => ?_) ?_
            rotate_left
            · obtain ⟨hbx, c5, c3, _⟩ := HF.out w1 hl; obtain ⟨x0, x1, x2, x3⟩ := hbx.dfa; dsimp only at x0 x1 x2 x3; go_simp; try with_reducible rfl
            simp only [eA, eB, eC, Act.put, eD, eE, eF]
            refine tkM 6 ?_ rfl (fun w1 hl => ?_) ?_
            rotate_left
            · obtain ⟨hbx, c5, c3, _⟩ := HF.out w1 hl; obtain ⟨x0, x1, x2, x3⟩ := hbx.dfa; dsimp only at x0 x1 x2 x3; go_simp; try with_reducible rfl
            simp only [eA, eB, eC, Act.put, eD, eE, eF]
            refine tkM 7 ?_ rfl (fun w1 hl => ?_) ?_
            rotate_left
            · obtain ⟨hbx, c5, c3, _⟩ := HF.out w1 hl; obtain ⟨x0, x1, x2, x3⟩ := hbx.dfa; dsimp only at x0 x1 x2 x3; go_simp; try with_reducible rfl
            simp only [eA, eB, eC, Act.put, eD, eE, eF]
            refine tkM 8 ?_ rfl (fun w1 hl => ?_) ?_
            rotate_left
            · obtain ⟨hbx, c5, c3, _⟩ := HF.out w1 hl; obtain ⟨x0, x1, x2, x3⟩ := hbx.dfa; dsimp only at x0 x1 x2 x3; go_simp; try with_reducible rfl
            simp only [eA, eB, eC, Act.put, eD, eE, eF]
            refine tkM 9 ?_ rfl (fun w1 hl => ?_) ?_
            rotate_left
            · obtain ⟨hbx, c5, c3, _⟩ := HF.out w1 hl; obtain ⟨x0, x1, x2, x3⟩ := hbx.dfa; dsimp only at x0 x1 x2 x3; go_simp; try with_reducible rfl
            simp only [eA, eB, eC, Act.put, eD, eE, eF]
            refine tkM 10 ?_ rfl (fun w1 hl => ?_) ?_
            rotate_left
            · obtain ⟨hbx, c5, c3, _⟩ := HF.out w1 hl; obtain ⟨x0, x1, x2, x3⟩ := hbx.dfa; dsimp only at x0 x1 x2 x3; go_simp; try with_reducible rfl
            simp only [eA, eB, eC, Act.put, eD, eE, eF]
            refine tkM 11 ?_ rfl (fun w1 hl => ?_) ?_
            rotate_left
            · obtain ⟨hbx, c5, c3, _⟩ := HF.out w1 hl; obtain ⟨x0, x1, x2, x3⟩ := hbx.dfa; dsimp only at x0 x1 x2 x3; go_simp; try with_reducible rfl
            simp only [eA, eB, eC, Act.put, eD, eE, eF]
            refine tkM 12 ?_ rfl (fun w1 hl => ?_) ?_
            rotate_left
            · obtain ⟨hbx, c5, c3, _⟩ := HF.out w1 hl; obtain ⟨x0, x1, x2, x3⟩ := hbx.dfa; dsimp only at x0 x1 x2 x3; go_simp; try with_reducible rfl
            simp only [eA, eB, eC, Act.put, eD, eE, eF]
            refine tkM 13 ?_ rfl (fun w1 hl => ?_) ?_
            rotate_left
            · obtain ⟨hbx, c5, c3, _⟩ := HF.out w1 hl; obtain ⟨x0, x1, x2, x3⟩ := hbx.dfa; dsimp only at x0 x1 x2 x3; go_simp; try with_reducible rfl
            simp only [eA, eB, eC, Act.put, eD, eE, eF]
            refine tkM 14 ?_ rfl (fun w1 hl => ?_) ?_
            rotate_left
            · obtain ⟨hbx, c5, c3, _⟩ := HF.out w1 hl; obtain ⟨x0, x1, x2, x3⟩ := hbx.dfa; dsimp only at x0 x1 x2 x3; go_simp; try with_reducible rfl
            simp only [eA, eB, eC, Act.put, eD, eE, eF]
            refine tkM 15 ?_ rfl (fun w1 hl => ?_) ?_
            rotate_left
            · obtain ⟨hbx, c5, c3, _⟩ := HF.out w1 hl; obtain ⟨x0, x1, x2, x3⟩ := hbx.dfa; dsimp only at x0 x1 x2 x3; go_simp; try with_reducible rfl
            simp only [eA, eB, eC, Act.put, eD, eE, eF]
            refine tkM 16 ?_ rfl (fun w1 hl => ?_) ?_
            rotate_left
            · obtain ⟨hbx, c5, c3, _⟩ := HF.out w1 hl; obtain ⟨x0, x1, x2, x3⟩ := hbx.dfa; dsimp only at x0 x1 x2 x3; go_simp; try with_reducible rfl
            simp only [eA, eB, eC, Act.put, eD, eE, eF]
            refine tkM 17 ?_ rfl (fun w1 hl => ?_) ?_
            rotate_left
            · obtain ⟨hbx, c5, c3, _⟩ := HF.out w1 hl; obtain ⟨x0, x1, x2, x3⟩ := hbx.dfa; dsimp only at x0 x1 x2 x3; go_simp; try with_reducible rfl
            simp only [eA, eB, eC, Act.put, eD, eE, eF]
            refine tkM 18 ?_ rfl (fun w1 hl => ?_) ?_
            rotate_left
            · obtain ⟨hbx, c5, c3, _⟩ := HF.out w1 hl; obtain ⟨x0, x1, x2, x3⟩ := hbx.dfa; dsimp only at x0 x1 x2 x3; go_simp; try with_reducible rfl
            simp only [eA, eB, eC, Act.put, eD, eE, eF]
            refine tkM 19 ?_ rfl (fun w1 hl => ?_) ?_
            rotate_left
            · obtain ⟨hbx, c5, c3, _⟩ := HF.out w1 hl; obtain ⟨x0, x1, x2, x3⟩ := hbx.dfa; dsimp only at x0 x1 x2 x3; go_simp; try with_reducible rfl
            simp only [eA, eB, eC, Act.put, eD, eE, eF]
            refine tkM 20 ?_ rfl (fun w1 hl => ?_) ?_
            rotate_left
            · obtain ⟨hbx, c5, c3, _⟩ := HF.out w1 hl; obtain ⟨x0, x1, x2, x3⟩ := hbx.dfa; dsimp only at x0 x1 x2 x3; go_simp; try with_reducible rfl
            simp only [eA, eB, eC, Act.put, eD, eE, eF]
            refine tkM 21 ?_ rfl (fun w1 hl => ?_) ?_
            rotate_left
            · obtain ⟨hbx, c5, c3, _⟩ := HF.out w1 hl; obtain ⟨x0, x1, x2, x3⟩ := hbx.dfa; dsimp only at x0 x1 x2 x3; go_simp; try with_reducible rfl
            simp only [eA, eB, eC, Act.put, eD, eE, eF]
            refine tkM 22 ?_ rfl (fun w1 hl => ?_) ?_
            rotate_left
            · obtain ⟨hbx, c5, c3, _⟩ := HF.out w1 hl; obtain ⟨x0, x1, x2, x3⟩ := hbx.dfa; dsimp only at x0 x1 x2 x3; go_simp; try with_reducible rfl
            simp only [eA, eB, eC, Act.put, eD, eE, eF]
            refine tkM 23 ?_ rfl (fun w1 hl => ?_) ?_
            rotate_left
            · obtain ⟨hbx, c5, c3, _⟩ := HF.out w1 hl; obtain ⟨x0, x1, x2, x3⟩ := hbx.dfa; dsimp only at x0 x1 x2 x3; go_simp; try with_reducible rfl
            simp only [eA, eB, eC, Act.put, eD, eE, eF]
            refine wpM_done (by kernel_rfl) (fun w1 hl => ?_) _
            have hB9 := (HF.out _ hl).2.2.2
            go_wp2
            go_ret
            exact ⟨by rw [HFL.out (by rw [HRO2.out]; simp; omega)]; rfl, hB9⟩
          · have e3 : decide ((mn : Int) < lab) = false := by simp; omega
            go_wp2_with fail
            refine wp_region_M (R := Later) 24 (by kernel_rfl) ?_
            refine tkM 0 ?_ rfl (fun w1 hl => ?_) ?_
            rotate_left
            · obtain ⟨hbx, c5, c3, _⟩ := HF.out w1 hl; obtain ⟨x0, x1, x2, x3⟩ := hbx.dfa; dsimp only at x0 x1 x2 x3; go_simp; try with_reducible rfl
            simp only [eA, eB, Act.put, eD, eE, eF]
            refine tkM 1 ?_ rfl (fun w1 hl => ?_) ?_
            rotate_left
            · obtain ⟨hbx, c5, c3, _⟩ := HF.out w1 hl; obtain ⟨x0, x1, x2, x3⟩ := hbx.dfa; dsimp only at x0 x1 x2 x3; go_simp; try with_reducible rfl
            simp only [eA, eB, eC, Act.put, eD, eE, eF]
            refine tkM 2 ?_ rfl (fun w1 hl => ?_) ?_
            rotate_left
            · obtain ⟨hbx, c5, c3, _⟩ := HF.out w1 hl; obtain ⟨x0, x1, x2, x3⟩ := hbx.dfa; dsimp only at x0 x1 x2 x3; go_simp; try with_reducible rfl
            simp only [eA, eB, eC, Act.put, eD, eE, eF]
            refine tkM 3 ?_ rfl (fun w1 hl => ?_) ?_
            rotate_left
            · obtain ⟨hbx, c5, c3, _⟩ := HF.out w1 hl; obtain ⟨x0, x1, x2, x3⟩ := hbx.dfa; dsimp only at x0 x1 x2 x3; go_simp; try with_reducible rfl
            simp only [eA, eB, eC, Act.put, eD, eE, eF]
            refine tkM 4 ?_ rfl (fun w1 hl => ?_) ?_
            rotate_left
            · obtain ⟨hbx, c5, c3, _⟩ := HF.out w1 hl; obtain ⟨x0, x1, x2, x3⟩ := hbx.dfa; dsimp only at x0 x1 x2 x3; go_simp; try with_reducible rfl
            simp only [eA, eB, eC, Act.put, eD, eE, eF]
            refine tkM 5 ?_ rfl (fun w1 hl => ?_) ?_
            rotate_left
            · obtain ⟨hbx, c5, c3, _⟩ := HF.out w1 hl; obtain ⟨x0, x1, x2, x3⟩ := hbx.dfa; dsimp only at x0 x1 x2 x3; go_simp; try with_reducible rfl
            simp only [eA, eB, eC, Act.put, eD, eE, eF]
            refine tkM 6 ?_ rfl (fun w1 hl => ?_) ?_
            rotate_left
            · obtain ⟨hbx, c5, c3, _⟩ := HF.out w1 hl; obtain ⟨x0, x1, x2, x3⟩ := hbx.dfa; dsimp only at x0 x1 x2 x3; go_simp; try with_reducible rfl
            simp only [eA, eB, eC, Act.put, eD, eE, eF]
            refine tkM 7 ?_ rfl (fun w1 hl => ?_) ?_
            rotate_left
            · obtain ⟨hbx, c5, c3, _⟩ := HF.out w1 hl; obtain ⟨x0, x1, x2, x3⟩ := hbx.dfa; dsimp only at x0 x1 x2 x3; go_simp; try with_reducible rfl
            simp only [eA, eB, eC, Act.put, eD, eE, eF]
            refine tkM 8 ?_ rfl (fun w1 hl => ?_) ?_
            rotate_left
            · obtain ⟨hbx, c5, c3, _⟩ := HF.out w1 hl; obtain ⟨x0, x1, x2, x3⟩ := hbx.dfa; dsimp only at x0 x1 x2 x3; go_simp; try with_reducible rfl
            simp only [eA, eB, eC, Act.put, eD, eE, eF]
            refine tkM 9 ?_ rfl (fun w1 hl => ?_) ?_
            rotate_left
            · obtain ⟨hbx, c5, c3, _⟩ := HF.out w1 hl; obtain ⟨x0, x1, x2, x3⟩ := hbx.dfa; dsimp only at x0 x1 x2 x3; go_simp; try with_reducible rfl
            simp only [eA, eB, eC, Act.put, eD, eE, eF]
            refine tkM 10 ?_ rfl (fun w1 hl => ?_) ?_
            rotate_left
            · obtain ⟨hbx, c5, c3, _⟩ := HF.out w1 hl; obtain ⟨x0, x1, x2, x3⟩ := hbx.dfa; dsimp only at x0 x1 x2 x3; go_simp; try with_reducible rfl
            simp only [eA, eB, eC, Act.put, eD, eE, eF]
            refine tkM 11 ?_ rfl (fun w1 hl => ?_) ?_
            rotate_left
            · obtain ⟨hbx, c5, c3, _⟩ := HF.out w1 hl; obtain ⟨x0, x1, x2, x3⟩ := hbx.dfa; dsimp only at x0 x1 x2 x3; go_simp; try with_reducible rfl
            simp only [eA, eB, eC, Act.put, eD, eE, eF]
            refine tkM 12 ?_ rfl (fun w1 hl => ?_) ?_
            rotate_left
            · obtain ⟨hbx, c5, c3, _⟩ := HF.out w1 hl; obtain ⟨x0, x1, x2, x3⟩ := hbx.dfa; dsimp only at x0 x1 x2 x3; go_simp; try with_reducible rfl
            simp only [eA, eB, eC, Act.put, eD, eE, eF]
            refine tkM 13 ?_ rfl (fun w1 hl => ?_) ?_
            rotate_left
            · obtain ⟨hbx, c5, c3, _⟩ := HF.out w1 hl; obtain ⟨x0, x1, x2, x3⟩ := hbx.dfa; dsimp only at x0 x1 x2 x3; go_simp; try with_reducible rfl
            simp only [eA, eB, eC, Act.put, eD, eE, eF]
            refine tkM 14 ?_ rfl (fun w1 hl => ?_) ?_
            rotate_left
            · obtain ⟨hbx, c5, c3, _⟩ := HF.out w1 hl; obtain ⟨x0, x1, x2, x3⟩ := hbx.dfa; dsimp only at x0 x1 x2 x3; go_simp; try with_reducible rfl
            simp only [eA, eB, eC, Act.put, eD, eE, eF]
            refine tkM 15 ?_ rfl (fun w1 hl => ?_) ?_
            rotate_left
            · obtain ⟨hbx, c5, c3, _⟩ := HF.out w1 hl; obtain ⟨x0, x1, x2, x3⟩ := hbx.dfa; dsimp only at x0 x1 x2 x3; go_simp; try with_reducible rfl
            simp only [eA, eB, eC, Act.put, eD, eE, eF]
            refine tkM 16 ?_ rfl (fun w1 hl => ?_) ?_
            rotate_left
            · obtain ⟨hbx, c5, c3, _⟩ := HF.out w1 hl; obtain ⟨x0, x1, x2, x3⟩ := hbx.dfa; dsimp only at x0 x1 x2 x3; go_simp; try with_reducible rfl
            simp only [eA, eB, eC, Act.put, eD, eE, eF]
            refine tkM 17 ?_ rfl (fun w1 hl => ?_) ?_
            rotate_left
            · obtain ⟨hbx, c5, c3, _⟩ := HF.out w1 hl; obtain ⟨x0, x1, x2, x3⟩ := hbx.dfa; dsimp only at x0 x1 x2 x3; go_simp; try with_reducible rfl
            simp only [eA, eB, eC, Act.put, eD, eE, eF]
            refine tkM 18 ?_ rfl (fun w1 hl => ?_) ?_
            rotate_left
            · obtain ⟨hbx, c5, c3, _⟩ := HF.out w1 hl; obtain ⟨x0, x1, x2, x3⟩ := hbx.dfa; dsimp only at x0 x1 x2 x3; go_simp; try with_reducible rfl
            simp only [eA, eB, eC, Act.put, eD, eE, eF]
            refine tkM 19 ?_ rfl (fun w1 hl => ?_) ?_
            rotate_left
            · obtain ⟨hbx, c5, c3, _⟩ := HF.out w1 hl; obtain ⟨x0, x1, x2, x3⟩ := hbx.dfa; dsimp only at x0 x1 x2 x3; go_simp; try with_reducible rfl
            simp only [eA, eB, eC, Act.put, eD, eE, eF]
            refine tkM 20 ?_ rfl (fun w1 hl => ?_) ?_
            rotate_left
            · obtain ⟨hbx, c5, c3, _⟩ := HF.out w1 hl; obtain ⟨x0, x1, x2, x3⟩ := hbx.dfa; dsimp only at x0 x1 x2 x3; go_simp; try with_reducible rfl
            simp only [eA, eB, eC, Act.put, eD, eE, eF]
            refine tkM 21 ?_ rfl (fun w1 hl => ?_) ?_
            rotate_left
            · obtain ⟨hbx, c5, c3, _⟩ := HF.out w1 hl; obtain ⟨x0, x1, x2, x3⟩ := hbx.dfa; dsimp only at x0 x1 x2 x3; go_simp; try with_reducible rfl
            simp only [eA, eB, eC, Act.put, eD, eE, eF]
            refine tkM 22 ?_ rfl (fun w1 hl => ?_) ?_
            rotate_left
            · obtain ⟨hbx, c5, c3, _⟩ := HF.out w1 hl; obtain ⟨x0, x1, x2, x3⟩ := hbx.dfa; dsimp only at x0 x1 x2 x3; go_simp; try with_reducible rfl
            simp only [eA, eB, eC, Act.put, eD, eE, eF]
            refine tkM 23 ?_ rfl (fun w1 hl => ?_) ?_
            rotate_left
            · obtain ⟨hbx, c5, c3, _⟩ := HF.out w1 hl; obtain ⟨x0, x1, x2, x3⟩ := hbx.dfa; dsimp only at x0 x1 x2 x3; go_simp; try with_reducible rfl
            simp only [eA, eB, eC, Act.put, eD, eE, eF]
            refine wpM_done (by kernel_rfl) (fun w1 hl => ?_) _
            have hF9 := HF.out _ hl
            clear hl
            go_wp2
            have hrow0 : rowAt row nn 0 = true := rfl
            have HF9 := Lib.hid hF9
            obtain ⟨hbx9, _, _, hB9⟩ := hF9
            go_loopw [45] (fun i wr => ∃ q : Nat, q ≤ r ∧ i = .int .i64 q ∧ rowAt row nn q = true ∧ Box wr w.heap.size (VDfa.cells ⟨of, wd, some ⟨b5, o5, none⟩, nn, nc, some ⟨b3, o3, none⟩, nn, lc, ma, mn, mc⟩) 28 ∧ Below w.heap.size w wr) (fun i _ => r - (intOf i).toNat)
            case atStart => exact ⟨0, Nat.zero_le _, rfl, hrow0, hbx9, hB9⟩
            case round =>
              clear hrow0 hbx9 hB9
              obtain ⟨q, hq, rfl, hrq, hbx, hB⟩ := hrel
              by_cases hlt3 : q < r
              · have hq2 : q < row.length := by rw [HRR.out]; exact hlt3
                obtain rfl := HA6.out q hq2
                have c6 := HK6.out q hq2 wr hB
                have hra := HRA.out q hq2
                have hrf := HRF.out q hq2
                rw [hrq, Bool.true_and] at hra
                generalize row[q] = tt at *
                have HRA2 := Lib.hid hra
                have HRF2 := Lib.hid hrf
                have hq0 : (0 : Int) ≤ (q : Int) := by omega
                have hqm : (q : Int) < (r : Int) := by omega
                clear hra hrf hrq
                by_cases t1 : tt < 0
                · have e4 : decide (tt < 0) = true := by simp [t1]
                  go_wp2
                  go_ret
                  exact ⟨by rw [HFL.out (by rw [HRO2.out, HRF2.out (by simp; omega), Bool.and_false])]; rfl, hB⟩
                · have e4 : decide (tt < 0) = false := by simp; omega
                  by_cases t2 : (nn : Int) ≤ tt
                  · have e5 : decide ((nn : Int) ≤ tt) = true := by simp [t2]
                    go_wp2
                    go_ret
                    exact ⟨by rw [HFL.out (by rw [HRO2.out, HRF2.out (by simp; omega), Bool.and_false])]; rfl, hB⟩
                  · have e5 : decide ((nn : Int) ≤ tt) = false := by simp; omega
                    go_wp2
                    go_roundw
                    case rel => exact ⟨q + 1, hlt3, by go_num, by rw [HRA2.out]; simp; omega, hbx, hB⟩
                    case measure => simp [intOf]; omega
              · obtain rfl : q = r := by omega
                have hall : (row.all fun t => decide (0 ≤ t) && decide (t < (nn : Nat))) = true := by rw [← HRZ.out, HRR.out]; exact hrq
                have hrok : ro k = true := by rw [HRO2.out, hall]; simp; omega
                have HRK := Lib.hid hrok
                clear hall hrok hrq
                go_wp2
                go_roundw
                case rel => exact ⟨k + 1, hlt, by go_num, by rw [HSU.out, HRK.out], hbx, hB⟩
                case measure => simp [intOf]; omega
      · have e1 : ((r : Int) != wd) = true := by simp [h1]
        go_wp2_with fail
        refine wp_region_M (R := Later) 24 (by kernel_rfl) ?_
        refine tkM 0 ?_ rfl (fun w1 hl => ?_) ?_
        rotate_left
        · obtain ⟨hbx, c5, c3, _⟩ := HF.out w1 hl; obtain ⟨x0, x1, x2, x3⟩ := hbx.dfa; dsimp only at x0 x1 x2 x3; go_simp; try with_reducible rfl
        simp only [eA, eB, Act.put, eD, eE, eF]
        refine tkM 1 ?_ rfl (fun w1 hl => ?_) ?_
        rotate_left
        · obtain ⟨hbx, c5, c3, _⟩ := HF.out w1 hl; obtain ⟨x0, x1, x2, x3⟩ := hbx.dfa; dsimp only at x0 x1 x2 x3; go_simp; try with_reducible rfl
        simp only [eA, eB, eC, Act.put, eD, eE, eF]
        refine tkM 2 ?_ rfl (fun w1 hl => ?_) ?_
        rotate_left
        · obtain ⟨hbx, c5, c3, _⟩ := HF.out w1 hl; obtain ⟨x0, x1, x2, x3⟩ := hbx.dfa; dsimp only at x0 x1 x2 x3; go_simp; try with_reducible rfl
        simp only [eA, eB, eC, Act.put, eD, eE, eF]
        refine tkM 3 ?_ rfl (fun w1 hl => ?_) ?_
        rotate_left
        · obtain ⟨hbx, c5, c3, _⟩ := HF.out w1 hl; obtain ⟨x0, x1, x2, x3⟩ := hbx.dfa; dsimp only at x0 x1 x2 x3; go_simp; try with_reducible rfl
        simp only [eA, eB, eC, Act.put, eD, eE, eF]
        refine tkM 4 ?_ rfl (fun w1 hl => ?_) ?_
        rotate_left
        · obtain ⟨hbx, c5, c3, _⟩ := HF.out w1 hl; obtain ⟨x0, x1, x2, x3⟩ := hbx.dfa; dsimp only at x0 x1 x2 x3; go_simp; try with_reducible rfl
        simp only [eA, eB, eC, Act.put, eD, eE, eF]
        refine tkM 5 ?_ rfl (fun w1 hl => ?_) ?_
        rotate_left
        · obtain ⟨hbx, c5, c3, _⟩ := HF.out w1 hl; obtain ⟨x0, x1, x2, x3⟩ := hbx.dfa; dsimp only at x0 x1 x2 x3; go_simp; try with_reducible rfl
        simp only [eA, eB, eC, Act.put, eD, eE, eF]
        refine skM 6 rfl ?_
        simp only [eA, eB, eC, Act.put, eD, eE, eF]
        refine skM 7 rfl ?_
        simp only [eA, eB, eC, Act.put, eD, eE, eF]
        refine skM 8 rfl ?_
        simp only [eA, eB, eC, Act.put, eD, eE, eF]
        refine skM 9 rfl ?_
        simp only [eA, eB, eC, Act.put, eD, eE, eF]
        refine skM 10 rfl ?_
        simp only [eA, eB, eC, Act.put, eD, eE, eF]
        refine skM 11 rfl ?_
        simp only [eA, eB, eC, Act.put, eD, eE, eF]
        refine tkM 12 ?_ rfl (fun w1 hl => ?_) ?_
        rotate_left
        · obtain ⟨hbx, c5, c3, _⟩ := HF.out w1 hl; obtain ⟨x0, x1, x2, x3⟩ := hbx.dfa; dsimp only at x0 x1 x2 x3; go_simp; try with_reducible rfl
        simp only [eA, eB, eC, Act.put, eD, eE, eF]
        refine tkM 13 ?_ rfl (fun w1 hl => ?_) ?_
        rotate_left
        · obtain ⟨hbx, c5, c3, _⟩ := HF.out w1 hl; obtain ⟨x0, x1, x2, x3⟩ := hbx.dfa; dsimp only at x0 x1 x2 x3; go_simp; try with_reducible rfl
        simp only [eA, eB, eC, Act.put, eD, eE, eF]
        refine skM 14 rfl ?_
        simp only [eA, eB, eC, Act.put, eD, eE, eF]
        refine skM 15 rfl ?_
        simp only [eA, eB, eC, Act.put, eD, eE, eF]
        refine skM 16 rfl ?_
        simp only [eA, eB, eC, Act.put, eD, eE, eF]
        refine skM 17 rfl ?_
        simp only [eA, eB, eC, Act.put, eD, eE, eF]
        refine skM 18 rfl ?_
        simp only [eA, eB, eC, Act.put, eD, eE, eF]
        refine skM 19 rfl ?_
        simp only [eA, eB, eC, Act.put, eD, eE, eF]
        refine skM 20 rfl ?_
        simp only [eA, eB, eC, Act.put, eD, eE, eF]
        refine skM 21 rfl ?_
        simp only [eA, eB, eC, Act.put, eD, eE, eF]
        refine skM 22 rfl ?_
        simp only [eA, eB, eC, Act.put, eD, eE, eF]
        refine tkM 23 ?_ rfl (fun w1 hl => ?_) ?_
        rotate_left
        · obtain ⟨hbx, c5, c3, _⟩ := HF.out w1 hl; obtain ⟨x0, x1, x2, x3⟩ := hbx.dfa; dsimp only at x0 x1 x2 x3; go_simp; try with_reducible rfl
        simp only [eA, eB, eC, Act.put, eD, eE, eF]
        refine wpM_done (by kernel_rfl) (fun w1 hl => ?_) _
        have hB9 := (HF.out _ hl).2.2.2
        go_wp2
        go_ret
        exact ⟨by rw [HFL.out (by rw [HRO2.out]; simp [h1])]; rfl, hB9⟩
    · obtain rfl : k = nn := by omega
      have HOK := Lib.hid hok
      clear hok
      go_wp2
      go_ret
      exact ⟨by rw [HOK.out]; rfl, hB⟩
/-- An array out of the middle of a block, under a guard that says yes. -/
theorem wpList_load_mid_g {P : Program} {ops : Array Oper} {rest : List Oper} {op : Oper} {a : Act} {w : World} {Q : Exit → Act → World → Prop} (hw : Region.wanted op (yielded ops a.tmps) = true) (ty : TypeId) (x : Operand) (ho : op.op = .load ty x)
    (b o : Nat) (hx : a.eval x = .pointer (some ⟨b, o, none⟩)) (cs : List Value) (d : TypeDesc) (hc : w.rangeAt b o cs)
    (hu : P.underlying ty = some d) (hd : d.isRow = true) (hi : (P.info? ty).map (·.size) = some cs.length)
    (h : wpList P ops Q rest (a.put op.dst (.agg cs.toArray)) w) : wpList P ops Q (op :: rest) a w :=
  BigFrame.wpList_want hw fun _ hK => wp_load_mid ty x ho b o hx cs d hc hu hd hi (hK _ _ h)
theorem wpList_load_of {P : Program} {ops : Array Oper} {rest : List Oper} {op : Oper} {a : Act} {w : World} {Q : Exit → Act → World → Prop} (hw : Region.wanted op (yielded ops a.tmps) = true) (ty : TypeId) (x : Operand) (ho : op.op = .load ty x)
    (b : Nat) (hx : a.eval x = .pointer (some ⟨b, 0, none⟩)) {V : VDfa} {E : TypeId} (hb : Box w b V.cells E) {d : TypeDesc}
    (hu : P.underlying ty = some d) (hd : d.isRow = true) (hi : (P.info? ty).map (·.size) = some (arr8 V.of).size)
    (h : wpList P ops Q rest (a.put op.dst (.agg (arr8 V.of))) w) : wpList P ops Q (op :: rest) a w :=
  wpList_load_mid_g hw ty x ho b 0 hx (arr8 V.of).toList d hb.dfaOf hu hd (by rw [Array.length_toList]; exact hi) h
end Go.Proofs.YtdhmekpgplajmaaGreatDoor
end
section
namespace Go.Proofs.YtdhmekpgplajmaaGreatDoor
open Go.RowKit
set_option maxRecDepth 20000 in
set_option maxHeartbeats 1600000 in
theorem dfa_Right (V : VDfa) (D : PDfa) (w : World) (h : ReadsD w V D) (hl : ∀ x ∈ D.names, x.length ≤ 9223372036854775807) : Calls Tryz.prog 28 #[.agg V.cells] w (Ret w (.bool (rightD D))) := by
  have hbx := Box.new w V.cells 28
  have hB0 := later_alloc w (.cells V.cells 28)
  obtain ⟨x0, x1, x2, x3⟩ := hbx.dfa
  obtain ⟨e1, e2, e3⟩ := h.lens
  have hk := fun w1 (hb : Below w.heap.size w w1) => h.kept hb
  have hpr := fun w1 => parts_Right V.of V.width w1
  have hnm := fun w1 (hb : Below w.heap.size w w1) => dfa_names V.ma V.mc V.mn D.names w1 (by have := h.2.2.2.1; rw [← e2] at *; exact this.kept hb) hl
  have hrw := fun w1 (hb : Below w.heap.size w w1) hnl => dfa_rows V D w1 (h.kept hb) hnl
  have hnb : V.ln ≤ 9223372036854775807 := by obtain ⟨_, _, _, c3, c3', _⟩ := h.2.2.1.cells1; omega
  have hnb2 : V.nn ≤ 9223372036854775807 := by obtain ⟨_, h5, _, _⟩ := h.2.2.2.2; obtain ⟨_, _, _, c3, c3', _⟩ := h5.cells1; omega
  have hr : rightD D = ((decide (1 ≤ V.ln) && (decide (V.ln ≤ 65536) && decide (V.nn = V.ln))) && ((sameArr (numR (Kern (keyN V.of))) V.of && ((widR (Kern (keyN V.of)) : Nat) == V.width)) && (namesOK D.names && rowsTo D D.next.length))) := by
    rw [e1, e3, h.1, h.2.1]; rfl
  have hnl2 : V.nn = V.ln → D.next.length = D.label.length := fun e => by omega
  rw [hr]
  have hnl3 := Lib.hid hnl2
  have HPR := Lib.hid hpr
  have HNM := Lib.hid hnm
  clear hk hpr hnm hr hnl2 e1 e2 e3
  generalize hp : (sameArr (numR (Kern (keyN V.of))) V.of && ((widR (Kern (keyN V.of)) : Nat) == V.width)) = p at *
  generalize namesOK D.names = nm at *
  generalize rowsTo D D.next.length = rw at *
  clear hp h hl
  by_cases b1 : 1 ≤ V.ln
  · have e1 : decide (1 ≤ (V.ln : Int)) = true := by simp; omega
    by_cases b2 : V.ln ≤ 65536
    · have e2 : decide ((V.ln : Int) ≤ 65536) = true := by simp; omega
      by_cases b3 : V.nn = V.ln
      · have HRW := Lib.hid (fun w1 hb => hrw w1 hb (hnl3.out b3))
        have q : (decide (1 ≤ V.ln) && (decide (V.ln ≤ 65536) && decide (V.nn = V.ln))) = true := by simp [b1, b2, b3]
        rw [q, Bool.true_and]
        have e3 : ((V.nn : Int) == (V.ln : Int)) = true := by simp [b3]
        have e3' : (V.nn == V.ln) = true := by simp [b3]
        clear b1 b2 b3 q hrw
        cases p with
        | false =>
          go_enter Tryz.func28, Tryz.ntmps28
          go_wp2_with (first | (refine wpList_load_of (by rfl) 23 _ rfl w.heap.size rfl hbx Tryz.underlying23 rfl (size_256 _) ?_) | (go_at_call 54; go_must (refine (HPR.out _).mono ?_; rintro e w1 ⟨rfl, hB1⟩; have hbx1 := hbx.kept hB1; have hB1 := hB0.trans (hB1.mono (by simp)); obtain ⟨y0, y1, y2, y3⟩ := hbx1.dfa)) | (go_at_call 55; go_must (refine (HNM.out _ hB1).mono ?_; rintro e w2 ⟨rfl, hB2⟩; have hbx2 := hbx1.kept hB2; have hB2 := hB1.trans (hB2.mono hB1.size))) | (refine wpList_load_row_g (by rfl) 28 _ rfl w.heap.size rfl _ _ _ _ hbx2 Tryz.underlying28 rfl (size_dfa _) ?_) | (go_at_call 56; go_must (refine (HRW.out _ hB2).mono ?_; rintro e w3 ⟨rfl, hB3⟩)))
          go_ret
          exact ⟨rfl, hB1⟩
        | true =>
          cases nm with
          | false =>
            go_enter Tryz.func28, Tryz.ntmps28
            go_wp2_with (first | (refine wpList_load_of (by rfl) 23 _ rfl w.heap.size rfl hbx Tryz.underlying23 rfl (size_256 _) ?_) | (go_at_call 54; go_must (refine (HPR.out _).mono ?_; rintro e w1 ⟨rfl, hB1⟩; have hbx1 := hbx.kept hB1; have hB1 := hB0.trans (hB1.mono (by simp)); obtain ⟨y0, y1, y2, y3⟩ := hbx1.dfa)) | (go_at_call 55; go_must (refine (HNM.out _ hB1).mono ?_; rintro e w2 ⟨rfl, hB2⟩; have hbx2 := hbx1.kept hB2; have hB2 := hB1.trans (hB2.mono hB1.size))) | (refine wpList_load_row_g (by rfl) 28 _ rfl w.heap.size rfl _ _ _ _ hbx2 Tryz.underlying28 rfl (size_dfa _) ?_) | (go_at_call 56; go_must (refine (HRW.out _ hB2).mono ?_; rintro e w3 ⟨rfl, hB3⟩)))
            go_ret
            exact ⟨rfl, hB2⟩
          | true =>
            go_enter Tryz.func28, Tryz.ntmps28
            go_wp2_with (first | (refine wpList_load_of (by rfl) 23 _ rfl w.heap.size rfl hbx Tryz.underlying23 rfl (size_256 _) ?_) | (go_at_call 54; go_must (refine (HPR.out _).mono ?_; rintro e w1 ⟨rfl, hB1⟩; have hbx1 := hbx.kept hB1; have hB1 := hB0.trans (hB1.mono (by simp)); obtain ⟨y0, y1, y2, y3⟩ := hbx1.dfa)) | (go_at_call 55; go_must (refine (HNM.out _ hB1).mono ?_; rintro e w2 ⟨rfl, hB2⟩; have hbx2 := hbx1.kept hB2; have hB2 := hB1.trans (hB2.mono hB1.size))) | (refine wpList_load_row_g (by rfl) 28 _ rfl w.heap.size rfl _ _ _ _ hbx2 Tryz.underlying28 rfl (size_dfa _) ?_) | (go_at_call 56; go_must (refine (HRW.out _ hB2).mono ?_; rintro e w3 ⟨rfl, hB3⟩)))
            go_ret
            exact ⟨rfl, hB2.trans (hB3.mono hB2.size)⟩
      · have q : (decide (1 ≤ V.ln) && (decide (V.ln ≤ 65536) && decide (V.nn = V.ln))) = false := by simp [b3]
        rw [q, Bool.false_and]
        have e3 : ((V.nn : Int) == (V.ln : Int)) = false := by simp; omega
        have e3' : (V.nn == V.ln) = false := by simp [b3]
        clear b1 b2 b3 q hrw
        go_enter Tryz.func28, Tryz.ntmps28
        go_wp2
        go_ret
        exact ⟨rfl, hB0⟩
    · have q : (decide (1 ≤ V.ln) && (decide (V.ln ≤ 65536) && decide (V.nn = V.ln))) = false := by simp [b2]
      rw [q, Bool.false_and]
      have e2 : decide ((V.ln : Int) ≤ 65536) = false := by simp; omega
      clear b1 b2 q hrw
      go_enter Tryz.func28, Tryz.ntmps28
      go_wp2
      go_ret
      exact ⟨rfl, hB0⟩
  · have q : (decide (1 ≤ V.ln) && (decide (V.ln ≤ 65536) && decide (V.nn = V.ln))) = false := by simp [b1]
    rw [q, Bool.false_and]
    have e1 : decide (1 ≤ (V.ln : Int)) = false := by simp; omega
    clear b1 q hrw
    go_enter Tryz.func28, Tryz.ntmps28
    go_wp2
    go_ret
    exact ⟨rfl, hB0⟩
end Go.Proofs.YtdhmekpgplajmaaGreatDoor
end
