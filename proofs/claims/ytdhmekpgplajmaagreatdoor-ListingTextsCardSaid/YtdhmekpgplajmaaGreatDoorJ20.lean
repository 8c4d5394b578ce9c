/- Joined by tools/merge.py: ListRow2, Ref36Row, OpenD, Pieces. -/
import Derived.Test.YtdhmekpgplajmaaGreatDoorJ18
import Derived.Test.YtdhmekpgplajmaaGreatDoorJ19
import Derived.Test.YtdhmekpgplajmaaGreatDoorJ17
import Derived.Test.YtdhmekpgplajmaaGreatDoorJ4
import Derived.Test.YtdhmekpgplajmaaGreatDoorShelf
import Derived.Test.YtdhmekpgplajmaaGreatDoorJ6
import Derived.Test.YtdhmekpgplajmaaGreatDoorJ9
section
namespace Go.Proofs.YtdhmekpgplajmaaGreatDoor
open Go.RowKit
/-- A state's line; of no state, or of a machine that may not be, nothing. -/
def rowI (D : PDfa) (s : Int) : List UInt8 := if rightD D = true ∧ 0 ≤ s ∧ s < (D.label.length : Nat) then rowT D s.toNat else []
set_option maxRecDepth 20000 in
set_option maxHeartbeats 1600000 in
theorem list_Row (V : VDfa) (D : PDfa) (s : Int) (w : World) (h : ReadsD w V D) (hl : ∀ x ∈ D.names, x.length ≤ 9223372036854775807) : Calls Tryz.prog 13 #[.agg V.cells, .int .i64 s] w (Ret w (sv (rowI D s))) := by
  have hRt := fun w1 (hb : Below w.heap.size w w1) => dfa_Right V D w1 (h.kept hb) hl
  have hbx := Box.new w V.cells 28
  have hB0 := later_alloc w (.cells V.cells 28)
  obtain ⟨hln, _, _⟩ := h.lens
  have hlb : V.ln ≤ 9223372036854775807 := by obtain ⟨_, _, _, c3, c3', _⟩ := h.2.2.1.cells1; omega
  unfold rowI
  rw [← hln]
  by_cases hR : rightD D = true
  · rw [hR] at hRt
    by_cases h1 : s < 0
    · have e1 : decide (s < 0) = true := by simp [h1]
      rw [if_neg (by omega)]
      have HRt := Lib.hid hRt
      clear hRt h hR hl hln h1
      go_enter Tryz.func13, Tryz.ntmps13
      go_wp2_with (first | (refine wpList_load_row rfl 28 (.tmp 2) rfl w.heap.size rfl _ _ _ _ hbx Tryz.underlying28 rfl (size_dfa _) ?_) | (go_at_call 28; go_must (refine (HRt.out _ hB0).mono ?_; rintro e w2 ⟨rfl, hB2⟩; have hbx2 := hbx.kept hB2; obtain ⟨x0, x1, x2, x3⟩ := hbx2.dfa)))
      go_ret
      exact ⟨rfl, hB0.trans (hB2.mono (by simp))⟩
    · have e1 : decide (s < 0) = false := by simp; omega
      obtain ⟨k, rfl⟩ : ∃ k : Nat, s = k := ⟨s.toNat, by omega⟩
      by_cases h2 : k < V.ln
      · have e2 : decide ((V.ln : Int) ≤ (k : Int)) = false := by simp; omega
        have e2' : decide (V.ln ≤ k) = false := by simp; omega
        have hrw := fun w1 (hb : Below w.heap.size w w1) => list_row V D k w1 (h.kept hb) hR (by omega)
        rw [if_pos ⟨hR, by omega, by omega⟩, Int.toNat_natCast]
        have HRt := Lib.hid hRt
        have HRW := Lib.hid hrw
        clear hRt h hR hl hln h1 hrw h2
        go_enter Tryz.func13, Tryz.ntmps13
        go_wp2_with (first | (refine wpList_load_row rfl 28 (.tmp 2) rfl w.heap.size rfl _ _ _ _ hbx Tryz.underlying28 rfl (size_dfa _) ?_) | (refine wpList_load_row rfl 28 (.tmp 2) rfl w.heap.size rfl _ _ _ _ hbx2 Tryz.underlying28 rfl (size_dfa _) ?_) | (go_at_call 28; go_must (refine (HRt.out _ hB0).mono ?_; rintro e w2 ⟨rfl, hB2⟩; have hbx2 := hbx.kept hB2; obtain ⟨x0, x1, x2, x3⟩ := hbx2.dfa; have hB3 := hB0.trans (hB2.mono (by simp)))) | (go_at_call 36; go_must (refine (HRW.out _ hB3).mono ?_; rintro e w4 ⟨rfl, hB4⟩)))
        go_ret
        exact ⟨rfl, hB3.trans (hB4.mono hB3.size)⟩
      · have e2 : decide ((V.ln : Int) ≤ (k : Int)) = true := by simp; omega
        have e2' : decide (V.ln ≤ k) = true := by simp; omega
        rw [if_neg (by omega)]
        have HRt := Lib.hid hRt
        clear hRt h hR hl hln h1 h2
        go_enter Tryz.func13, Tryz.ntmps13
        go_wp2_with (first | (refine wpList_load_row rfl 28 (.tmp 2) rfl w.heap.size rfl _ _ _ _ hbx Tryz.underlying28 rfl (size_dfa _) ?_) | (go_at_call 28; go_must (refine (HRt.out _ hB0).mono ?_; rintro e w2 ⟨rfl, hB2⟩; have hbx2 := hbx.kept hB2; obtain ⟨x0, x1, x2, x3⟩ := hbx2.dfa)))
        go_ret
        exact ⟨rfl, hB0.trans (hB2.mono (by simp))⟩
  · have hR2 := Bool.eq_false_iff.2 hR
    rw [hR2] at hRt
    rw [if_neg (fun q => hR q.1)]
    have HRt := Lib.hid hRt
    clear hRt h hR hR2 hl hln
    go_enter Tryz.func13, Tryz.ntmps13
    go_wp2_with (first | (refine wpList_load_row rfl 28 (.tmp 2) rfl w.heap.size rfl _ _ _ _ hbx Tryz.underlying28 rfl (size_dfa _) ?_) | (go_at_call 28; go_must (refine (HRt.out _ hB0).mono ?_; rintro e w2 ⟨rfl, hB2⟩)))
    go_ret
    exact ⟨rfl, hB0.trans (hB2.mono (by simp))⟩
end Go.Proofs.YtdhmekpgplajmaaGreatDoor
end
section
namespace Go.Proofs.YtdhmekpgplajmaaGreatDoor
open Go.RowKit
set_option maxRecDepth 20000 in
set_option maxHeartbeats 1600000 in
theorem ref24_Right (V : VDfa) (D : PDfa) (n : Int) (w : World) (h : ReadsD w V D) (hof : ∀ b, V.of b < 256) (hl : ∀ x ∈ D.names, x.length ≤ 9223372036854775807) :
    Calls Tryz.prog 10 #[.agg V.cells, .int .i64 n] w (Ret w (.bool (rightD D && decide ((V.ln : Int) ≤ n)))) := by
  have hRt := fun w1 (hb : Below w.heap.size w w1) => ref20_Right V D w1 (h.kept hb) hof hl
  have hbx := Box.new w V.cells 28
  have hB0 := later_alloc w (.cells V.cells 28)
  have hlb : V.ln ≤ 9223372036854775807 := by obtain ⟨_, _, _, c3, c3', _⟩ := h.2.2.1.cells1; omega
  have HRt := Lib.hid hRt
  clear h hof hl hRt
  generalize rightD D = rr at *
  cases rr with
  | false =>
    go_enter Tryz.func10, Tryz.ntmps10
    go_wp2_with (first | (refine wpList_load_row rfl 28 (.tmp 2) rfl w.heap.size rfl _ _ _ _ hbx Tryz.underlying28 rfl (size_dfa _) ?_) | (go_at_call 9; go_must (refine (HRt.out _ hB0).mono ?_; rintro e w2 ⟨rfl, hB2⟩; have hbx2 := hbx.kept hB2; obtain ⟨x0, x1, x2, x3⟩ := hbx2.dfa)))
    go_ret
    exact ⟨rfl, hB0.trans (hB2.mono (by simp))⟩
  | true =>
    rw [Bool.true_and]
    go_enter Tryz.func10, Tryz.ntmps10
    go_wp2_with (first | (refine wpList_load_row rfl 28 (.tmp 2) rfl w.heap.size rfl _ _ _ _ hbx Tryz.underlying28 rfl (size_dfa _) ?_) | (go_at_call 9; go_must (refine (HRt.out _ hB0).mono ?_; rintro e w2 ⟨rfl, hB2⟩; have hbx2 := hbx.kept hB2; obtain ⟨x0, x1, x2, x3⟩ := hbx2.dfa)))
    go_ret
    exact ⟨rfl, hB0.trans (hB2.mono (by simp))⟩
/-- A state's line, up to so many of its next states. -/
def accT (s : Nat) (lab : Int) (row : List Int) (k : Nat) : List UInt8 := [115, 116, 97, 116, 101, 32] ++ showI s ++ [32] ++ showI lab ++ (row.take k).flatMap fun t => 32 :: showI t
theorem accT_succ (s : Nat) (lab : Int) (row : List Int) (k : Nat) (h : k < row.length) : accT s lab row (k + 1) = accT s lab row k ++ [32] ++ showI row[k] := by
  unfold accT
  rw [List.take_succ_eq_append_getElem h, List.flatMap_append]
  simp
theorem accT_all (D : PDfa) (s : Nat) : accT s (D.label.getD s 0) (D.next.getD s []) (D.next.getD s []).length = rowT D s := by
  unfold accT rowT rowWords
  rw [List.take_length, Lib.join_cons]
  unfold Lib.joinTail
  simp [List.flatMap, List.map_map, Function.comp_def]
theorem accT_length (s : Nat) (lab : Int) (row : List Int) (hs : (s : Int) ≤ 65536) (hl : lab ≤ 65536) (hr : ∀ t ∈ row, t ≤ 65536) (k : Nat) (hk : k ≤ 256) : (accT s lab row k).length ≤ 6000 := by
  have h1 := showI_length (s : Int) (by omega)
  have h2 := showI_length lab (by omega)
  have h3 : ∀ l : List Int, (∀ t ∈ l, t ≤ 65536) → (l.flatMap fun t => 32 :: showI t).length ≤ l.length * 20
    | [], _ => by simp
    | t :: l, h => by
      have ht := showI_length t (by have := h t (by simp); omega)
      have ih : (l.flatMap fun t => 32 :: showI t).length ≤ l.length * 20 := by
        clear ht
        have hl : ∀ t ∈ l, t ≤ 65536 := fun x hx => h x (by simp [hx])
        clear h
        induction l with
        | nil => simp
        | cons t l ih =>
          have ht := showI_length t (by have := hl t (by simp); omega)
          have := ih (fun x hx => hl x (by simp [hx]))
          rw [List.flatMap_cons, List.length_append, List.length_cons, List.length_cons]; omega
      rw [List.flatMap_cons, List.length_append, List.length_cons, List.length_cons]; omega
  have h4 := h3 (row.take k) (fun t ht => hr t (List.mem_of_mem_take ht))
  have h5 : (row.take k).length ≤ k := List.length_take_le _ _
  unfold accT
  simp only [List.length_append, List.length_cons, List.length_nil]
  omega
set_option maxRecDepth 20000 in
set_option maxHeartbeats 1600000 in
theorem ref36_Row (V : VDfa) (D : PDfa) (s : Int) (w : World) (h : ReadsD w V D) (hof : ∀ b, V.of b < 256) (hl : ∀ x ∈ D.names, x.length ≤ 9223372036854775807) : Calls Tryz.prog 14 #[.agg V.cells, .int .i64 s] w (Ret w (sv (rowI D s))) := by
  have hRt := fun w1 (hb : Below w.heap.size w w1) => ref20_Right V D w1 (h.kept hb) hof hl
  have hbx := Box.new w V.cells 28
  have hB0 := later_alloc w (.cells V.cells 28)
  obtain ⟨hln, _, _⟩ := h.lens
  have hlb : V.ln ≤ 9223372036854775807 := by obtain ⟨_, _, _, c3, c3', _⟩ := h.2.2.1.cells1; omega
  unfold rowI
  rw [← hln]
  by_cases hR : rightD D = true
  · rw [hR] at hRt
    by_cases h1 : s < 0
    · have e1 : decide (s < 0) = true := by simp [h1]
      rw [if_neg (by omega)]
      have HRt := Lib.hid hRt
      clear hRt h hR hl hln h1 hof
      go_enter Tryz.func14, Tryz.ntmps14
      go_wp2_with (first | (refine wpList_load_row rfl 28 (.tmp 2) rfl w.heap.size rfl _ _ _ _ hbx Tryz.underlying28 rfl (size_dfa _) ?_) | (go_at_call 9; go_must (refine (HRt.out _ hB0).mono ?_; rintro e w2 ⟨rfl, hB2⟩; have hbx2 := hbx.kept hB2; obtain ⟨x0, x1, x2, x3⟩ := hbx2.dfa)))
      go_ret
      exact ⟨rfl, hB0.trans (hB2.mono (by simp))⟩
    · have e1 : decide (s < 0) = false := by simp; omega
      obtain ⟨k, rfl⟩ : ∃ k : Nat, s = k := ⟨s.toNat, by omega⟩
      by_cases h2 : k < V.ln
      · have e2 : decide ((V.ln : Int) ≤ (k : Int)) = false := by simp; omega
        have e2' : decide (V.ln ≤ k) = false := by simp; omega
        obtain ⟨f1, f2, f3, f4, f5, f6, f7⟩ := rightD_facts hR
        rw [if_pos ⟨hR, by omega, by omega⟩, Int.toNat_natCast]
        have hk1 : k < D.next.length := by omega
        have hk2 : k < D.label.length := by omega
        obtain ⟨g1, g2, g3, g4⟩ := f7 k hk1 hk2
        obtain ⟨b3, o3, b5, o5, ra, rc, l3, l5, hc⟩ := h.row k hk1 hk2
        have hall := accT_all D k
        rw [List.getD_eq_getElem?_getD, List.getElem?_eq_getElem hk2, List.getD_eq_getElem?_getD, List.getElem?_eq_getElem hk1, Option.getD_some, Option.getD_some] at hall
        rw [← hall]
        have hw := h.2.1
        rw [← hw] at g1
        obtain ⟨hc0, hc1, hc2⟩ := hc w (Below.refl _ _)
        obtain ⟨b6, o6, _, _, _, a6, k6⟩ := hc2.cells1
        have hsh1 := fun w => ref01_Show (k : Int) w (by omega)
        have hsh2 := fun w => ref01_Show D.label[k] w (by omega)
        have hsh3 := fun t (ht : t ∈ D.next[k]) w => ref01_Show t w (by have := g4 t ht; omega)
        have hac := accT_succ k D.label[k] D.next[k]
        have hal := accT_length k D.label[k] D.next[k] (by omega) (by omega) (fun t ht => by have := g4 t ht; omega)
        have ha0 : [115, 116, 97, 116, 101, 32] ++ showI (k : Int) ++ [32] ++ showI D.label[k] = accT k D.label[k] D.next[k] 0 := by unfold accT; simp
        have hs1 := showI_length (k : Int) (by omega)
        have hs2 := showI_length D.label[k] (by omega)
        have hs3 := fun t (ht : t ∈ D.next[k]) => showI_length t (by have := g4 t ht; omega)
        have hle : D.next[k].length ≤ 256 := by omega
        have hc' := fun w' hb => (hc w' hb).1
        have hc'' := fun w' hb => (hc w' hb).2.1
        clear hc hc0 hc1 hc2
        generalize D.label[k] = lab at *
        generalize D.next[k] = row at *
        obtain ⟨r, hr⟩ : ∃ r, row.length = r := ⟨_, rfl⟩
        rw [hr] at hc'' hle ⊢ g1
        generalize accT k lab row = acc at *
        have H1 := Lib.hid hsh1
        have H2 := Lib.hid hsh2
        have H3 := Lib.hid hsh3
        have HAC := Lib.hid hac
        have HAL := Lib.hid hal
        have HA0 := Lib.hid ha0
        have HS3 := Lib.hid hs3
        have HR := Lib.hid hr
        have HC := Lib.hid hc'
        have HD := Lib.hid hc''
        have HA6 := Lib.hid a6
        have HK6 := Lib.hid k6
        have HRt := Lib.hid hRt
        have hk0 : (0 : Int) ≤ (k : Int) := by omega
        have hkn : (k : Int) < (V.ln : Int) := by omega
        have hkn2 : (k : Int) < (V.nn : Int) := by have := h.lens.2.2; omega
        obtain ⟨of, wd, na, nn, nc, la, n, lc, ma, mn, mc⟩ := V
        dsimp only at l3 l5 g1
        subst l3
        subst l5
        subst g1
        generalize showI (k : Int) = t1 at *
        generalize showI lab = t2 at *
        clear hRt h hR hl hln h1 hof hsh1 hsh2 hsh3 hac hal ha0 hs3 hr hc' hc'' a6 k6 g2 g3 g4 f1 f2 f3 f4 f5 f6 f7 hall h2 hk1 hk2 hw
        have hsap := sv_append
        have n1 : ¬ 9223372036854775807 < 6 + t1.length := by omega
        have n2 : ¬ 9223372036854775807 < t1.length + 1 + 1 + 1 + 1 + 1 + 1 + 1 := by omega
        have n3 : ¬ 9223372036854775807 < t1.length + 1 + 1 + 1 + 1 + 1 + 1 + 1 + t2.length := by omega
        go_enter Tryz.func14, Tryz.ntmps14
        go_wp2_with (first | (refine wpList_load_row rfl 28 (.tmp 2) rfl w.heap.size rfl _ _ _ _ hbx Tryz.underlying28 rfl (size_dfa _) ?_) | (go_at_call 9; go_must (refine (HRt.out _ hB0).mono ?_; rintro e w2 ⟨rfl, hB2⟩; have hbx2 := hbx.kept hB2; have hB3 := hB0.trans (hB2.mono (by simp)); obtain ⟨x0, x1, x2, x3⟩ := hbx2.dfa)))
        have HF : Hid (∀ v, Later w2.drew v → Box v w.heap.size (VDfa.cells ⟨of, (r : Int), some ⟨b5, o5, none⟩, nn, nc, some ⟨b3, o3, none⟩, n, lc, ma, mn, mc⟩) 28 ∧ v.cell? ⟨b3, o3 + k, none⟩ = some (.int .i64 lab) ∧ Below w.heap.size w v) := Lib.hid fun v hl =>
          ⟨hbx2.drew.kept hl, HC.out _ (hB3.drew.trans (Below.mono hl hB3.size)), hB3.drew.trans (Below.mono hl hB3.size)⟩
        clear hbx2 hB2 hB3 hbx hB0 x0 x1 x2 x3
        refine wp_region_M (R := Later) 12 (by kernel_rfl) ?_
        refine wpM_take (t := 12) (i := 0) (v := ?_) rfl (by kernel_rfl) (by kernel_rfl) (by kernel_rfl) (by kernel_rfl) (fun _ _ _ h => h) (by rfl) (fun w1 hl => ?_) ?_
        rotate_left
        · obtain ⟨hbx, c3, _⟩ := HF.out w1 hl; obtain ⟨x0, x1, x2, x3⟩ := hbx.dfa; go_simp; try with_reducible rfl
        simp only [List.getElem_toArray, List.getElem_cons_zero, Act.put, List.setIfInBounds_toArray, List.set_cons_zero, List.set_cons_succ]
        refine wpM_take (t := 12) (i := 4) (v := ?_) rfl (by kernel_rfl) (by kernel_rfl) (by kernel_rfl) (by kernel_rfl) (fun _ _ _ h => h) (by rfl) (fun w1 hl => ?_) ?_
        rotate_left
        · obtain ⟨hbx, c3, _⟩ := HF.out w1 hl; obtain ⟨x0, x1, x2, x3⟩ := hbx.dfa; go_simp; try with_reducible rfl
        simp only [List.getElem_toArray, List.getElem_cons_zero, List.getElem_cons_succ, Act.put, List.setIfInBounds_toArray, List.set_cons_zero, List.set_cons_succ]
        refine wpM_take (t := 12) (i := 5) (v := ?_) rfl (by kernel_rfl) (by kernel_rfl) (by kernel_rfl) (by kernel_rfl) (fun _ _ _ h => h) (by rfl) (fun w1 hl => ?_) ?_
        rotate_left
        · obtain ⟨hbx, c3, _⟩ := HF.out w1 hl; obtain ⟨x0, x1, x2, x3⟩ := hbx.dfa; go_simp; try with_reducible rfl
        simp only [List.getElem_toArray, List.getElem_cons_zero, List.getElem_cons_succ, Act.put, List.setIfInBounds_toArray, List.set_cons_zero, List.set_cons_succ]
        refine wpM_take (t := 12) (i := 6) (v := ?_) rfl (by kernel_rfl) (by kernel_rfl) (by kernel_rfl) (by kernel_rfl) (fun _ _ _ h => h) (by rfl) (fun w1 hl => ?_) ?_
        rotate_left
        · obtain ⟨hbx, c3, _⟩ := HF.out w1 hl; obtain ⟨x0, x1, x2, x3⟩ := hbx.dfa; go_simp; try with_reducible rfl
        simp only [List.getElem_toArray, List.getElem_cons_zero, List.getElem_cons_succ, Act.put, List.setIfInBounds_toArray, List.set_cons_zero, List.set_cons_succ]
        refine wpM_take (t := 12) (i := 7) (v := ?_) rfl (by kernel_rfl) (by kernel_rfl) (by kernel_rfl) (by kernel_rfl) (fun _ _ _ h => h) (by rfl) (fun w1 hl => ?_) ?_
        rotate_left
        · obtain ⟨hbx, c3, _⟩ := HF.out w1 hl; obtain ⟨x0, x1, x2, x3⟩ := hbx.dfa; go_simp; try with_reducible rfl
        simp only [List.getElem_toArray, List.getElem_cons_zero, List.getElem_cons_succ, Act.put, List.setIfInBounds_toArray, List.set_cons_zero, List.set_cons_succ]
        refine wpM_take (t := 12) (i := 8) (v := ?_) rfl (by kernel_rfl) (by kernel_rfl) (by kernel_rfl) (by kernel_rfl) (fun _ _ _ h => h) (by rfl) (fun w1 hl => ?_) ?_
        rotate_left
        · obtain ⟨hbx, c3, _⟩ := HF.out w1 hl; obtain ⟨x0, x1, x2, x3⟩ := hbx.dfa; go_simp; try with_reducible rfl
        simp only [List.getElem_toArray, List.getElem_cons_zero, List.getElem_cons_succ, Act.put, List.setIfInBounds_toArray, List.set_cons_zero, List.set_cons_succ]
        refine wpM_call (t := 12) (i := 1) (f := ?_) (args := ?_) (v := ?_) rfl (by kernel_rfl) (by kernel_rfl) (by kernel_rfl) (by kernel_rfl) (fun _ _ _ h => h) (by rfl) (fun w1 => ?_) (fun w1 hl => ?_) ?_
        rotate_left 4
        · exact H1.out w1
        rotate_left
        · go_simp
        simp only [List.getElem_toArray, List.getElem_cons_zero, List.getElem_cons_succ, Act.put, List.setIfInBounds_toArray, List.set_cons_zero, List.set_cons_succ]
        refine wpM_take (t := 12) (i := 2) (v := ?_) rfl (by kernel_rfl) (by kernel_rfl) (by kernel_rfl) (by kernel_rfl) (fun _ _ _ h => h) (by rfl) (fun w1 hl => ?_) ?_
        rotate_left
        · obtain ⟨hbx, c3, _⟩ := HF.out w1 hl; obtain ⟨x0, x1, x2, x3⟩ := hbx.dfa; go_simp; try with_reducible rfl
        simp only [List.getElem_toArray, List.getElem_cons_zero, List.getElem_cons_succ, Act.put, List.setIfInBounds_toArray, List.set_cons_zero, List.set_cons_succ]
        refine wpM_take (t := 12) (i := 3) (v := ?_) rfl (by kernel_rfl) (by kernel_rfl) (by kernel_rfl) (by kernel_rfl) (fun _ _ _ h => h) (by rfl) (fun w1 hl => ?_) ?_
        rotate_left
        · obtain ⟨hbx, c3, _⟩ := HF.out w1 hl; obtain ⟨x0, x1, x2, x3⟩ := hbx.dfa; go_simp; try with_reducible rfl
        simp only [List.getElem_toArray, List.getElem_cons_zero, List.getElem_cons_succ, Act.put, List.setIfInBounds_toArray, List.set_cons_zero, List.set_cons_succ]
        refine wpM_call (t := 12) (i := 9) (f := ?_) (args := ?_) (v := ?_) rfl (by kernel_rfl) (by kernel_rfl) (by kernel_rfl) (by kernel_rfl) (fun _ _ _ h => h) (by rfl) (fun w1 => ?_) (fun w1 hl => ?_) ?_
        rotate_left 4
        · exact H2.out w1
        rotate_left
        · go_simp
        simp only [List.getElem_toArray, List.getElem_cons_zero, List.getElem_cons_succ, Act.put, List.setIfInBounds_toArray, List.set_cons_zero, List.set_cons_succ]
        refine wpM_take (t := 12) (i := 10) (v := ?_) rfl (by kernel_rfl) (by kernel_rfl) (by kernel_rfl) (by kernel_rfl) (fun _ _ _ h => h) (by rfl) (fun w1 hl => ?_) ?_
        rotate_left
        · obtain ⟨hbx, c3, _⟩ := HF.out w1 hl; obtain ⟨x0, x1, x2, x3⟩ := hbx.dfa; go_simp; try with_reducible rfl
        simp only [List.getElem_toArray, List.getElem_cons_zero, List.getElem_cons_succ, Act.put, List.setIfInBounds_toArray, List.set_cons_zero, List.set_cons_succ]
        refine wpM_take (t := 12) (i := 11) (v := ?_) rfl (by kernel_rfl) (by kernel_rfl) (by kernel_rfl) (by kernel_rfl) (fun _ _ _ h => h) (by rfl) (fun w1 hl => ?_) ?_
        rotate_left
        · obtain ⟨hbx, c3, _⟩ := HF.out w1 hl; obtain ⟨x0, x1, x2, x3⟩ := hbx.dfa; go_simp; try with_reducible rfl
        simp only [List.getElem_toArray, List.getElem_cons_zero, List.getElem_cons_succ, Act.put, List.setIfInBounds_toArray, List.set_cons_zero, List.set_cons_succ]
        refine wpM_done (by kernel_rfl) (fun w1 hl => ?_) _
        obtain ⟨hbx, _, hB⟩ := HF.out w1 hl
        clear hl
        obtain ⟨x0, x1, x2, x3⟩ := hbx.dfa
        go_wp2
        go_loopw [5, 6] (fun v i wr => ∃ q : Nat, q ≤ r ∧ i = .int .i64 q ∧ v = sv (acc q) ∧ Box wr w.heap.size (VDfa.cells ⟨of, (r : Int), some ⟨b5, o5, none⟩, nn, nc, some ⟨b3, o3, none⟩, n, lc, ma, mn, mc⟩) 28 ∧ Below w.heap.size w wr) (fun _ i _ => r - (intOf i).toNat)
        case atStart => exact ⟨0, Nat.zero_le _, rfl, by rw [← HA0.out]; simp, hbx, hB⟩
        case round =>
          clear hbx hB x0 x1 x2 x3
          obtain ⟨q, hq, rfl, rfl, hbx, hB⟩ := hrel
          obtain ⟨x0, x1, x2, x3⟩ := hbx.dfa
          by_cases hlt : q < r
          · have hq2 : q < row.length := by rw [HR.out]; exact hlt
            obtain rfl := HA6.out q hq2
            have c6 := HK6.out q hq2 wr hB
            have c5 := HD.out wr hB
            have hac := HAC.out q hq2
            have hal := HAL.out q (by omega)
            have hsh := H3.out row[q] (List.getElem_mem hq2)
            have hs3 := HS3.out row[q] (List.getElem_mem hq2)
            generalize row[q] = t at *
            generalize hac0 : acc q = a0 at *
            generalize showI t = t3 at *
            have HSH := Lib.hid hsh
            have HAC2 := Lib.hid hac
            have hq0 : (0 : Int) ≤ (q : Int) := by omega
            have hqm : (q : Int) < (r : Int) := by omega
            have m1 : ¬ 9223372036854775807 < a0.length + 1 := by omega
            have m2 : ¬ 9223372036854775807 < a0.length + 1 + t3.length := by omega
            clear hac hsh hac0
            go_wp2_with (go_at_call 38; go_must (refine (HSH.out _).mono ?_; rintro e w5 ⟨rfl, hb5⟩))
            go_roundw
            case rel => exact ⟨q + 1, hlt, by go_num, by rw [HAC2.out]; simp, hbx.kept hb5, hB.trans (hb5.mono hB.size)⟩
            case measure => simp [intOf]; omega
          · obtain rfl : q = r := by omega
            go_wp2
            go_ret
            exact ⟨rfl, hB⟩
      · have e2 : decide ((V.ln : Int) ≤ (k : Int)) = true := by simp; omega
        have e2' : decide (V.ln ≤ k) = true := by simp; omega
        rw [if_neg (by omega)]
        have HRt := Lib.hid hRt
        clear hRt h hR hl hln h1 h2 hof
        go_enter Tryz.func14, Tryz.ntmps14
        go_wp2_with (first | (refine wpList_load_row rfl 28 (.tmp 2) rfl w.heap.size rfl _ _ _ _ hbx Tryz.underlying28 rfl (size_dfa _) ?_) | (go_at_call 9; go_must (refine (HRt.out _ hB0).mono ?_; rintro e w2 ⟨rfl, hB2⟩; have hbx2 := hbx.kept hB2; obtain ⟨x0, x1, x2, x3⟩ := hbx2.dfa)))
        go_ret
        exact ⟨rfl, hB0.trans (hB2.mono (by simp))⟩
  · have hR2 := Bool.eq_false_iff.2 hR
    rw [hR2] at hRt
    rw [if_neg (fun q => hR q.1)]
    have HRt := Lib.hid hRt
    clear hRt h hR hR2 hl hln hof
    go_enter Tryz.func14, Tryz.ntmps14
    go_wp2_with (first | (refine wpList_load_row rfl 28 (.tmp 2) rfl w.heap.size rfl _ _ _ _ hbx Tryz.underlying28 rfl (size_dfa _) ?_) | (go_at_call 9; go_must (refine (HRt.out _ hB0).mono ?_; rintro e w2 ⟨rfl, hB2⟩)))
    go_ret
    exact ⟨rfl, hB0.trans (hB2.mono (by simp))⟩
end Go.Proofs.YtdhmekpgplajmaaGreatDoor
end
section
namespace Go.Proofs.YtdhmekpgplajmaaGreatDoor
open Go.ChangeShapes Go.WideShapes Go.ChangeAt Go.RowKit Go.Deep
/-- The machine of the witnesses. -/
def zDfa : Value := .agg (Array.replicate 256 (.int .u8 0) ++ #[.int .i64 0, .slice none 0 0, .slice none 0 0, .slice none 0 0])
theorem sv_of (s : ByteArray) : Value.string s = sv s.data.toList := by
  unfold sv; cases s; rfl
theorem choose_ltA {α : Type} [Inhabited α] {n : Nat} {Q : Nat → α → Prop} (h : ∀ i, i < n → ∃ x, Q i x) : ∃ f : Nat → α, ∀ i, i < n → Q i (f i) :=
  ⟨fun i => if hi : i < n then (h i hi).choose else default, fun i hi => by simp only [hi, dif_pos]; exact (h i hi).choose_spec⟩
structure DfaTys (P : Program) (tD tA tU tI tN tL tM tS : TypeId) (fs : Array Field) : Prop where
  dfa : P.underlying tD = some (.struct fs)
  flds : fs.map (fun f => (f.type, f.offset)) = #[(tA, 0), (tI, 256), (tN, 257), (tL, 258), (tM, 259)]
  arr : P.underlying tA = some (.array 256 tU)
  u8 : P.underlying tU = some (.int .u8)
  int : P.underlying tI = some (.int .i64)
  rows : P.underlying tN = some (.slice tL)
  ints : P.underlying tL = some (.slice tI)
  strs : P.underlying tM = some (.slice tS)
  str : P.underlying tS = some .string
  cD : P.cellsOf tD = 260
  cA : P.cellsOf tA = 256
  cU : P.cellsOf tU = 1
  cI : P.cellsOf tI = 1
  cN : P.cellsOf tN = 1
  cL : P.cellsOf tL = 1
  cM : P.cellsOf tM = 1
  cS : P.cellsOf tS = 1
theorem dfaTys : ∃ fs, DfaTys Tryz.prog 28 23 5 3 24 25 26 9 fs :=
  ⟨_, Tryz.underlying28, by kernel_rfl, Tryz.underlying23, Tryz.underlying5, Tryz.underlying3, Tryz.underlying24, Tryz.underlying25, Tryz.underlying26, Tryz.underlying9,
    by kernel_rfl, by kernel_rfl, by kernel_rfl, by kernel_rfl, by kernel_rfl, by kernel_rfl, by kernel_rfl, by kernel_rfl⟩
section
variable {H : Type} {enc : TypeId × Value → H} {P : Program} {w : World} {base : Nat} {spare : Nat → Bool} {held : Bool}
/-- A slice whose elements have one cell each. -/
theorem trod_slice1 {α : Type} [Inhabited α] {f : α → Value} {Ok : α → Prop} {t e : TypeId} (hs : P.underlying t = some (.slice e)) (hc : P.cellsOf e = 1) (fuel : Nat)
    (ih : ∀ m c x, DataW.trod enc P w base spare held m e [c] = some x → ∃ y : α, c = f y ∧ Ok y)
    {c : Value} {x : DataW H × List MemPlace} (h : DataW.trod enc P w base spare held fuel t [c] = some x) :
    ∃ (a : Option Addr) (cap : Nat) (l : List α), c = .slice a l.length cap ∧ SliceR w (.slice a l.length cap) 1 (fun x => [f x]) l ∧ ∀ i (h : i < l.length), Ok l[i] := by
  rcases DataW.trod_slice hs h with ⟨h0, _⟩ | ⟨a', len, cap, elems, rest, n, hf, h0, _, _, hle, hm, _, hel, _⟩
  · simp at h0
    exact ⟨none, 0, [], h0, ⟨none, 0, 0, 0, rfl, Nat.le_refl _, by simp [maxLen], .inr ⟨rfl, fun _ => rfl⟩, fun i hi => by simp at hi⟩, fun i hi => by simp at hi⟩
  · simp at h0
    subst h0
    have key : ∀ i, i < len → ∃ y : α, w.cell? (a'.add i) = some (f y) ∧ Ok y := fun i hi => by
      have h1 := hel i hi
      rw [hc, Nat.mul_one, List.getElem?_eq_getElem (show i < elems.length by omega)] at h1
      obtain ⟨cs', h2, h3⟩ := Option.bind_eq_some_iff.1 h1
      obtain ⟨h5, _, h4⟩ := World.cells?_some h2
      match cs', h5, h3, h4 with
      | [c], _, h3, h4 =>
        obtain ⟨y, rfl, hy⟩ := ih n _ _ h3
        refine ⟨y, ?_, hy⟩
        have := h4 0 (by simp)
        simpa [Addr.add] using this
    obtain ⟨g, hg⟩ := choose_ltA key
    have hspot : 0 < len → a'.spot = none := fun h0 => by
      have := World.cell?_spot (hg 0 h0).1
      simpa [Addr.add] using this
    obtain ⟨b, o, spot⟩ := a'
    refine ⟨some ⟨b, o, spot⟩, cap, (List.range len).map g, by simp, ⟨some ⟨b, o, spot⟩, b, o, cap, by simp, by simpa using hle, hm, ?_, fun i hi j u hu => ?_⟩, fun i hi => ?_⟩
    · by_cases h0 : len = 0
      · exact .inr ⟨by simp [h0], fun h => by cases h⟩
      · have h1 := hspot (by omega)
        simp only at h1
        exact .inl (by rw [h1])
    · have hi' : i < len := by simpa using hi
      have := (hg i hi').1
      have hs2 : spot = none := hspot (by omega)
      subst hs2
      rw [Addr.add_mid] at this
      have hj : j = 0 := by have := (List.getElem?_eq_some_iff.1 hu).1; simpa using this
      subst hj
      simp at hu
      rw [← hu, Nat.mul_one, Nat.add_zero]; exact this
    · have hi' : i < len := by simpa using hi
      simpa using (hg i hi').2
/-- A machine that comes in. -/
theorem trod_dfa {tD tA tU tI tN tL tM tS : TypeId} {fs : Array Field} (N : DfaTys P tD tA tU tI tN tL tM tS fs) {fuel : Nat} {cs : List Value} {x : DataW H × List MemPlace} (h : DataW.trod enc P w base spare held fuel tD cs = some x) :
    ∃ (V : VDfa) (D : PDfa), cs = V.cells.toList ∧ ReadsD w V D ∧ (∀ b, V.of b < 256) ∧ (∀ x ∈ D.names, x.length ≤ 9223372036854775807) ∧ (Lit.int .i64 D.width).wf = true ∧ (∀ x ∈ D.label, (Lit.int .i64 x).wf = true) ∧ ∀ r ∈ D.next, ∀ x ∈ r, (Lit.int .i64 x).wf = true := by
  obtain ⟨xs, n, hfu, _, hl, hxl, hf⟩ := DataW.trod_struct N.dfa h
  rw [N.cD] at hl
  have fl := N.flds
  obtain ⟨f0, f1, f2, f3, f4, rfl⟩ : ∃ a b c d e, fs = #[a, b, c, d, e] := by
    obtain ⟨l⟩ := fs
    have : l.length = 5 := by have := congrArg Array.size fl; simpa using this
    match l, this with
    | [a, b, c, d, e], _ => exact ⟨a, b, c, d, e, rfl⟩
  simp only [List.map_toArray, List.map_cons, List.map_nil, Array.mk.injEq, List.cons.injEq, Prod.mk.injEq, and_true] at fl
  obtain ⟨⟨t0, o0⟩, ⟨t1, o1⟩, ⟨t2, o2⟩, ⟨t3, o3⟩, ⟨t4, o4⟩⟩ := fl
  have e0 := hf 0 f0 rfl; have e1 := hf 1 f1 rfl; have e2 := hf 2 f2 rfl; have e3 := hf 3 f3 rfl; have e4 := hf 4 f4 rfl
  rw [t0, o0, N.cA] at e0; rw [t1, o1, N.cI] at e1; rw [t2, o2, N.cN] at e2; rw [t3, o3, N.cL] at e3; rw [t4, o4, N.cM] at e4
  simp only [List.size_toArray, List.length_cons, List.length_nil] at hxl
  rw [List.getElem?_eq_getElem (by omega)] at e0 e1 e2 e3 e4
  have one : ∀ k, k < 260 → (cs.drop k).take 1 = [cs.getD k default] := fun k hk => by
    rw [List.drop_eq_getElem_cons (by omega), List.take_succ_cons, List.take_zero]
    simp [List.getD, List.getElem?_eq_getElem (show k < cs.length by omega)]
  rw [one 256 (by decide)] at e1; rw [one 257 (by decide)] at e2; rw [one 258 (by decide)] at e3; rw [one 259 (by decide)] at e4
  rw [List.drop_zero] at e0
  obtain ⟨of, c0, hof⟩ := trod_arr8 N.arr N.u8 N.cU N.cA e0
  obtain ⟨wd, c1, _, hwd⟩ := DataW.trod_int N.int e1
  have ints : ∀ m c x, DataW.trod enc P w base spare held m tI [c] = some x → ∃ y : Int, c = .int .i64 y ∧ (Lit.int .i64 y).wf = true := fun m c x h => by
    obtain ⟨z, h1, _, h2⟩ := DataW.trod_int N.int h
    simp at h1
    exact ⟨z, h1, h2⟩
  have rows : ∀ m c x, DataW.trod enc P w base spare held m tL [c] = some x → ∃ y : Value, c = y ∧ ∃ (r : List Int) (a : Option Addr) (cap : Nat), y = .slice a r.length cap ∧ SliceR w (.slice a r.length cap) 1 encI r ∧ ∀ x ∈ r, (Lit.int .i64 x).wf = true := fun m c x h => by
    obtain ⟨a, cap, l, h1, h2, h3⟩ := trod_slice1 (f := Value.int .i64) N.ints N.cI m ints h
    exact ⟨c, rfl, l, a, cap, h1, h2, fun x hx => by obtain ⟨i, hi, rfl⟩ := List.getElem_of_mem hx; exact h3 i hi⟩
  have strs : ∀ m c x, DataW.trod enc P w base spare held m tS [c] = some x → ∃ y : List UInt8, c = sv y ∧ y.length ≤ 9223372036854775807 := fun m c x h => by
    obtain ⟨s, h1, _, h2⟩ := DataW.trod_string N.str h
    simp at h1
    refine ⟨s.data.toList, by rw [h1, sv_of], ?_⟩
    rw [Array.length_toList]; exact h2
  obtain ⟨na, nc, vrows, c2, n1, n2⟩ := trod_slice1 (f := id) N.rows N.cL _ rows e2
  obtain ⟨la, lc, lab, c3, l1, l2⟩ := trod_slice1 (f := Value.int .i64) N.ints N.cI _ ints e3
  obtain ⟨ma, mc, nms, c4, m1, m2⟩ := trod_slice1 (f := sv) N.strs N.cS _ strs e4
  obtain ⟨g, hg⟩ := choose_ltA (n := vrows.length) (Q := fun i (r : List Int) => ∃ (a : Option Addr) (cap : Nat), vrows.getD i default = .slice a r.length cap ∧ SliceR w (.slice a r.length cap) 1 encI r ∧ ∀ x ∈ r, (Lit.int .i64 x).wf = true) (fun i hi => by
    obtain ⟨r, a, cap, h1, h2⟩ := n2 i hi
    exact ⟨r, a, cap, by simpa [List.getD, List.getElem?_eq_getElem hi] using h1, h2⟩)
  refine ⟨⟨of, wd, na, vrows.length, nc, la, lab.length, lc, ma, nms.length, mc⟩, ⟨of, wd, (List.range vrows.length).map g, lab, nms⟩, ?_, ⟨rfl, rfl, l1, m1, vrows, n1, by simp, fun i h1 h2 => ?_⟩, hof, fun x hx => ?_, hwd, fun x hx => ?_, fun r hr => ?_⟩
  · have : cs = cs.take 256 ++ [cs.getD 256 default, cs.getD 257 default, cs.getD 258 default, cs.getD 259 default] := by
      conv => lhs; rw [← List.take_append_drop 256 cs]
      congr 1
      apply List.ext_getElem?
      intro i
      rw [List.getElem?_drop]
      match i with
      | 0 => simp [List.getD, List.getElem?_eq_getElem (show 256 < cs.length by omega)]
      | 1 => simp [List.getD, List.getElem?_eq_getElem (show 257 < cs.length by omega)]
      | 2 => simp [List.getD, List.getElem?_eq_getElem (show 258 < cs.length by omega)]
      | 3 => simp [List.getD, List.getElem?_eq_getElem (show 259 < cs.length by omega)]
      | i + 4 => rw [List.getElem?_eq_none (by omega)]; simp
    simp only [List.cons.injEq, and_true] at c1
    rw [this, c0, c1, c2, c3, c4]
    simp [VDfa.cells]
  · obtain ⟨a, cap, h3, h4, _⟩ := hg i h1
    rw [List.getD, List.getElem?_eq_getElem h1] at h3
    refine ⟨a, cap, ?_, ?_⟩
    · simpa using h3
    · simpa using h4
  · obtain ⟨i, hi, rfl⟩ := List.getElem_of_mem hx; exact m2 i hi
  · obtain ⟨i, hi, rfl⟩ := List.getElem_of_mem hx; exact l2 i hi
  · obtain ⟨i, hi, rfl⟩ := List.mem_map.1 hr
    obtain ⟨_, _, _, _, h⟩ := hg i (by simpa using hi)
    exact h
end
end Go.Proofs.YtdhmekpgplajmaaGreatDoor
end
section
namespace Go.Proofs.YtdhmekpgplajmaaGreatDoor
open Go.RowKit
attribute [local go_sem] Oper.semAt_some
/-- The pieces of a text between the bytes c. -/
def splitL (c : UInt8) : List UInt8 → List (List UInt8)
  | [] => [[]]
  | x :: l => if x = c then [] :: splitL c l else match splitL c l with
    | [] => [[x]]
    | y :: ys => (x :: y) :: ys
theorem splitL_ne (c : UInt8) : ∀ l, splitL c l ≠ []
  | [] => by simp [splitL]
  | x :: l => by
    unfold splitL
    split
    · simp
    · split <;> simp
/-- The first piece, what stands behind, and whether there is more. -/
theorem cut_split (c : UInt8) : ∀ l : List UInt8, (Lib.cut l [c]).1.length ≤ l.length ∧ (Lib.cut l [c]).2.1.length ≤ l.length ∧
    (((Lib.cut l [c]).2.2 = true ∧ splitL c l = (Lib.cut l [c]).1 :: splitL c (Lib.cut l [c]).2.1 ∧ (Lib.cut l [c]).2.1.length < l.length) ∨ ((Lib.cut l [c]).2.2 = false ∧ splitL c l = [(Lib.cut l [c]).1]))
  | [] => by
    have : Lib.cut [] [c] = ([], [], false) := by simp [Lib.cut, Lib.index]
    rw [this]; exact ⟨by simp, by simp, .inr ⟨rfl, rfl⟩⟩
  | x :: l => by
    by_cases h : x = c
    · subst h
      have : Lib.cut (x :: l) [x] = ([], l, true) := by simp [Lib.cut, Lib.index]
      rw [this]
      exact ⟨by simp, by simp, .inl ⟨rfl, by rw [splitL, if_pos rfl], by simp⟩⟩
    · obtain ⟨i1, i2, ih⟩ := cut_split c l
      have hg := Lib.index_ge l [c]
      have hx : Lib.index (x :: l) [c] = if Lib.index l [c] = -1 then -1 else Lib.index l [c] + 1 := by
        rw [Lib.index]
        simp [Ne.symm h]
      by_cases hi : Lib.index l [c] = -1
      · have e1 : Lib.cut l [c] = (l, [], false) := by simp [Lib.cut, hi]
        have e2 : Lib.cut (x :: l) [c] = (x :: l, [], false) := by simp [Lib.cut, hx, hi]
        rw [e1] at ih
        rw [e2]
        rcases ih with ⟨h1, _⟩ | ⟨_, h2⟩
        · cases h1
        · exact ⟨by simp, by simp, .inr ⟨rfl, by rw [splitL, if_neg h, h2]⟩⟩
      · have h0 : 0 ≤ Lib.index l [c] := by omega
        have e1 : Lib.cut l [c] = (l.take (Lib.index l [c]).toNat, l.drop ((Lib.index l [c]).toNat + 1), true) := by simp [Lib.cut, h0]
        have e2 : Lib.cut (x :: l) [c] = (x :: l.take (Lib.index l [c]).toNat, l.drop ((Lib.index l [c]).toNat + 1), true) := by
          have h3 : 0 ≤ Lib.index l [c] + 1 := by omega
          have h4 : (Lib.index l [c] + 1).toNat = (Lib.index l [c]).toNat + 1 := by omega
          simp [Lib.cut, hx, hi, h3, h4]
        rw [e1] at ih i1 i2
        rw [e2]
        rcases ih with ⟨_, h2, h3⟩ | ⟨h1, _⟩
        · refine ⟨by simpa using i1, by simp at i2 ⊢; omega, .inl ⟨rfl, ?_, by simp at h3 ⊢; omega⟩⟩
          rw [splitL, if_neg h, h2]
        · cases h1
theorem list_pieces (s by' : List UInt8) (w : World) : Calls Tryz.prog 19 #[sv s, sv by'] w fun e w' =>
    e = .returned (.func (.func 45) #[] #[.pointer (some ⟨w.heap.size, 0, none⟩), .pointer (some ⟨w.heap.size + 1, 0, none⟩)]) ∧ w' = (w.alloc (.cells #[sv s] 9)).alloc (.cells #[sv by'] 9) := by
  go_enter Tryz.func19, Tryz.ntmps19
  go_wp2
  go_ret
  exact ⟨rfl, rfl⟩
/-- The library's variable lies where it is. -/
def MaxL (w : World) : Prop := ∃ m, w.cell? ⟨0, 0, none⟩ = some (.int .i64 m)
theorem MaxL.kept {w w' : World} (h : MaxL w) (hb : Below w.heap.size w w') : MaxL w' := by
  obtain ⟨m, hm⟩ := h
  obtain ⟨o, ho, _⟩ := cells_of_cell hm
  exact ⟨m, (World.cell?_of_block (hb.block 0 (Array.getElem?_eq_some_iff.1 ho).1)).trans hm⟩
theorem MaxL.same {w w' : World} (h : MaxL w) (hb : w'.heap[0]? = w.heap[0]?) : MaxL w' := by
  obtain ⟨m, hm⟩ := h
  exact ⟨m, (World.cell?_of_block hb).trans hm⟩
def PiecesRel (c : UInt8) (J : List (List UInt8) → World → Prop) (all : List (List UInt8)) (N sB bB : Nat) (i : Value) (wr : World) : Prop :=
  ∃ (pre : List (List UInt8)) (rest : List UInt8) (more : Bool), i = .bool more ∧ pre ++ (if more then splitL c rest else []) = all ∧ rest.length ≤ N ∧ J pre wr ∧ Box wr sB #[sv rest] 9 ∧ Box wr bB #[sv [c]] 9 ∧ MaxL wr
def PiecesM (sB : Nat) (i : Value) (w : World) : Nat := match i, w.cell? ⟨sB, 0, none⟩ with
  | .bool true, some (.string s) => s.size + 1
  | _, _ => 0
set_option maxRecDepth 100000 in
set_option maxHeartbeats 2000000 in
theorem pieces_in (l sB bB : Nat) (c : UInt8) (J : List (List UInt8) → World → Prop) (Jp : List PanicEntry → World → Prop) (s : List UInt8) (hs : s.length < 4294967281) (h0 : sB ≠ 0) (hbs : bB ≠ sB)
    (hJ : ∀ s A B, J s A → A.grownBy B (some sB) → J s B) (hJp : ∀ c A B, Jp c A → A.grownBy B (some sB) → Jp c B)
    (hY : ∀ pre x post W1, splitL c s = pre ++ x :: post → J pre W1 → YieldAt Fence.wide 0 Tryz.prog l #[sv x] W1 fun e W' => (e = .returned (.bool true) ∧ J (pre ++ [x]) W' ∧ W1.heap.size ≤ W'.heap.size ∧ ∀ k ∈ [0, sB, bB], W'.heap[k]? = W1.heap[k]?) ∨ (∃ c, e = .panicked c ∧ Jp c W'))
    (W : World) (hM : MaxL W) (hBs : Box W sB #[sv s] 9) (hBb : Box W bB #[sv [c]] 9) (hj : J [] W) :
    CallsIn Fence.wide 0 Tryz.prog 45 #[.func (.yield l) #[] #[], .pointer (some ⟨sB, 0, none⟩), .pointer (some ⟨bB, 0, none⟩)] W fun e W' => (∃ v, e = .returned v ∧ J (splitL c s) W') ∨ (∃ c, e = .panicked c ∧ Jp c W') := by
  refine callsIn_of_wp Tryz.func45 rfl trivial ?_ rfl
  simp only [Tryz.ntmps45, List.size_toArray, List.length_cons, List.length_nil, Nat.reduceAdd, Nat.reduceSub, Array.replicate_succ, Array.replicate_zero, List.push_toArray, List.append_toArray, List.nil_append, List.cons_append]
  gi_wp2
  gi_loopw [4] (fun i wr => PiecesRel c J (splitL c s) s.length sB bB i wr) (fun i wr => PiecesM sB i wr)
  case atStart => exact ⟨[], s, true, rfl, by simp, Nat.le_refl _, hj, hBs, hBb, hM⟩
  case round =>
    obtain ⟨pre, rest, more, rfl, hall, hlen, hJr, hb1, hb2, hMr⟩ := hrel
    cases more with
    | false =>
      simp only [Bool.false_eq_true, if_false, List.append_nil] at hall
      subst hall
      gi_wp2
      go_end0
      exact .inl ⟨_, rfl, hJr⟩
    | true =>
      simp only [if_true] at hall
      obtain ⟨hq1, hq2, hor⟩ := cut_split c rest
      have hcut := fun (w : World) (m : Int) (hm : w.cell? ⟨0, 0, none⟩ = some (.int .i64 m)) => Tryz.strings_Cut ⟨rest.toArray⟩ ⟨#[c]⟩ m w (by simp [ByteArray.size]; omega) hm
      simp only at hcut
      generalize Lib.cut rest [c] = q at *
      obtain ⟨x, r2, m2⟩ := q
      simp only at hcut hq1 hq2 hor
      have HC := Lib.hid hcut
      obtain ⟨m, hm⟩ := hMr
      have hsp : splitL c rest = x :: (if m2 then splitL c r2 else []) := by
        rcases hor with ⟨rfl, h1, _⟩ | ⟨rfl, h1⟩
        · simpa using h1
        · simpa using h1
      rw [hsp] at hall
      have k1 := hb1.cell 0
      have k2 := hb2.cell 0
      have f1 := hb1.free 0
      have hdd : ∀ k : Nat, (Fence.wide.depth.isSome = true → 1 ≤ k) := fun k h => by cases h
      have hgrow : ∀ nd, wr.grownBy ((wr.drewN nd).setCell ⟨sB, 0, none⟩ (.string ⟨r2.toArray⟩)) (some sB) := fun nd =>
        ⟨rfl, rfl, rfl, by simp [World.setCell], fun k _ hk => Below.heap_setCell _ _ _ _ (fun e => hk (by rw [e]))⟩
      have hb1' := fun nd => (hb1.drewN (n := nd)).set 0 (.string ⟨r2.toArray⟩)
      have hb2' := fun nd => (hb2.drewN (n := nd)).other ⟨sB, 0, none⟩ (.string ⟨r2.toArray⟩) hbs
      have hm' := fun nd => MaxL.same ⟨m, hm⟩ ((hgrow nd).block 0 (by obtain ⟨o, ho, _⟩ := cells_of_cell hm; exact (Array.getElem?_eq_some_iff.1 ho).1) (by intro e; cases e; exact h0 rfl))
      have hYY := fun nd => hY pre x _ _ hall.symm (hJ pre _ _ hJr (hgrow nd))
      have HY := Lib.hid hYY
      have HB1 := Lib.hid hb1'
      have HB2 := Lib.hid hb2'
      have HM := Lib.hid hm'
      have HA := Lib.hid hall
      have HO := Lib.hid hor
      clear hYY hb1' hb2' hm' hgrow hall hor hY hsp
      gi_wp2_with (first | (refine ⟨trivial, rfl, ?_⟩; gi_at_call 46; go_must (refine (callsIn_wide.2 (HC.out _ m hm)).mono ?_; rintro e w1 ⟨rfl, nd, rfl⟩; obtain ⟨fn, tmps, assign, body, hy, hR⟩ := HY.out nd)) | (refine ⟨rfl, ?_⟩; refine hR.mono ?_; clear hR; rintro e W3 (⟨rfl, hJ3, hsz, hk3⟩ | ⟨ch, rfl, hp3⟩)))
      · have hx1 : Box W3 sB #[sv r2] 9 := by unfold Box; rw [hk3 sB (by simp)]; exact HB1.out nd
        have hx2 : Box W3 bB #[sv [c]] 9 := by unfold Box; rw [hk3 bB (by simp)]; exact HB2.out nd
        refine ⟨⟨pre ++ [x], r2, m2, rfl, ?_, Nat.le_trans hq2 hlen, hJ3, hx1, hx2, (HM.out nd).same (hk3 0 (by simp))⟩, ?_⟩
        · rw [← HA.out]; simp
        · unfold PiecesM
          rw [hx1.cell 0, k1]
          rcases HO.out with ⟨rfl, _, h3⟩ | ⟨rfl, _⟩
          · simpa [sv, ByteArray.size] using h3
          · simp [sv]
      · exact ⟨rfl, .inr ⟨ch, rfl, hp3⟩⟩
theorem pieces_seq (sB bB : Nat) (c : UInt8) (s : List UInt8) (hs : s.length < 4294967281) (h0 : sB ≠ 0) (hbs : bB ≠ sB) (w : World) (hM : MaxL w) (hBs : Box w sB #[sv s] 9) (hBb : Box w bB #[sv [c]] 9) :
    SeqP Tryz.prog 45 #[.pointer (some ⟨sB, 0, none⟩), .pointer (some ⟨bB, 0, none⟩)] (fun x => #[sv x]) (splitL c s) sB [0, sB, bB] w := fun l J Jp W hW hJ hJp hY hj =>
  pieces_in l sB bB c J Jp s hs h0 hbs hJ hJp hY W (hM.kept hW) (hBs.kept hW) (hBb.kept hW) hj
end Go.Proofs.YtdhmekpgplajmaaGreatDoor
end
