/- Joined by tools/merge.py: ListingTexts. -/
import Derived.Test.YtdhmekpgplajmaaGreatDoorJ28
import Derived.Test.YtdhmekpgplajmaaGreatDoorJ27
import Derived.Test.YtdhmekpgplajmaaGreatDoorJ20
import Derived.Test.YtdhmekpgplajmaaGreatDoorJ8
import Derived.ProofKit
section
namespace Go.Proofs.YtdhmekpgplajmaaGreatDoor
open Go.RowKit Go.ChangeShapes Go.WideShapes Go.ChangeAt
set_option maxRecDepth 20000
set_option maxHeartbeats 3200000 in
theorem law_ListingTexts (V : VDfa) (D : PDfa) (s : Int) (w : World) (h : ReadsD w V D) (hof : ∀ b, V.of b < 256) (hl : ∀ x ∈ D.names, x.length ≤ 9223372036854775807) (hT : Tab w) (hM : MaxL w) :
    Calls Tryz.prog 4 #[.agg V.cells, .int .i64 s] w (Ret w (.bool true)) := by
  have hx := Box.new w V.cells 28
  have hb0 := later_alloc w (.cells V.cells 28)
  have h20 := fun w1 (hb : Below w.heap.size w w1) => ref20_Right V D w1 (h.kept hb) hof hl
  have h24 := fun w1 (hb : Below w.heap.size w w1) => ref24_Right V D 200 w1 (h.kept hb) hof hl
  have hT1 := fun w1 (hb : Below w.heap.size w w1) => list_Text V D w1 (h.kept hb) hl (hT.kept hb)
  have hT2 := fun w1 (hb : Below w.heap.size w w1) => ref36_Text V D w1 (h.kept hb) hof hl
  have hR1 := fun w1 (hb : Below w.heap.size w w1) => list_Row V D s w1 (h.kept hb) hl
  have hR2 := fun w1 (hb : Below w.heap.size w w1) => ref36_Row V D s w1 (h.kept hb) hof hl
  have hk := fun w1 (hb : Below w.heap.size w w1) => knows36 w1 (hT.kept hb) (hM.kept hb)
  obtain ⟨t, e, hte⟩ : ∃ (t : List UInt8) (e : Nat), (if rightD D = true then Value.tuple #[sv (textD D), .int .i64 0] else .tuple #[sv [], .int .i64 6]) = .tuple #[sv t, .int .i64 e] := by
    cases rightD D with
    | true => exact ⟨textD D, 0, rfl⟩
    | false => exact ⟨[], 6, rfl⟩
  rw [hte] at hT1 hT2
  clear hte
  have H24 := Lib.hid h24
  have H1 := Lib.hid hT1
  have H2 := Lib.hid hT2
  have HR1 := Lib.hid hR1
  have HR2 := Lib.hid hR2
  have HK := Lib.hid hk
  generalize rowI D s = rw at *
  clear hT1 hT2 hR1 hR2 hk h24
  cases hr : rightD D with
  | false =>
    rw [hr] at h20
    have H20 := Lib.hid h20
    clear h20 hr h hT hM hl hof
    go_enter Tryz.func4, Tryz.ntmps4
    go_wp2_with (first | (refine wpList_load_row rfl 28 (.tmp 2) rfl w.heap.size rfl _ _ _ _ hx Tryz.underlying28 rfl (size_dfa V) ?_) | (go_at_call 9; go_must (refine (H20.out _ hb0).mono ?_; rintro e w2 ⟨rfl, hB2⟩; have hx2 := hx.kept hB2; have hb2 := hb0.trans (hB2.mono hb0.size))) | (refine wpList_load_row rfl 28 (.tmp 2) rfl w.heap.size rfl _ _ _ _ hx2 Tryz.underlying28 rfl (size_dfa V) ?_) | (go_at_call 11; go_must (refine (H1.out _ hb2).mono ?_; rintro e w3 ⟨rfl, hB3⟩; have hx3 := hx2.kept hB3; have hb3 := hb2.trans (hB3.mono hb2.size))) | (refine wpList_load_row rfl 28 (.tmp 2) rfl w.heap.size rfl _ _ _ _ hx3 Tryz.underlying28 rfl (size_dfa V) ?_) | (go_at_call 12; go_must (refine (H2.out _ hb3).mono ?_; rintro e w4 ⟨rfl, hB4⟩; have hx4 := hx3.kept hB4; have hb4 := hb3.trans (hB4.mono hb3.size))))
    have hx4 := hx4.drew
    have HF : Hid (∀ w1, Later w4.drew w1 → Box w1 w.heap.size V.cells 28 ∧ Below w.heap.size w w1) := Lib.hid fun w1 hl => ⟨hx4.kept hl, hb4.trans (((Below.refl _ w4).drew.trans hl).mono hb4.size)⟩
    clear hx hx2 hx3 hx4 hb0 hb2 hb3 hb4 hB2 hB3 hB4
    refine wp_region_M (R := Later) 21 (by kernel_rfl) ?_
    refine wpM_take (t := 21) (i := 0) (v := ?_) rfl (by kernel_rfl) (by kernel_rfl) (by kernel_rfl) (by kernel_rfl) (fun _ _ _ h => h) (by rfl) (fun w1 hl => ?_) ?_
    rotate_left
    · go_simp; try with_reducible rfl
    simp only [List.getElem_toArray, List.getElem_cons_zero, Act.put, List.setIfInBounds_toArray, List.set_cons_zero, List.set_cons_succ]
    refine wpM_take (t := 21) (i := 1) (v := ?_) rfl (by kernel_rfl) (by kernel_rfl) (by kernel_rfl) (by kernel_rfl) (fun _ _ _ h => h) (by rfl) (fun w1 hl => ?_) ?_
    rotate_left
    · go_simp; try with_reducible rfl
    simp only [List.getElem_toArray, List.getElem_cons_zero, List.getElem_cons_succ, Act.put, List.setIfInBounds_toArray, List.set_cons_zero, List.set_cons_succ]
    refine wpM_take (t := 21) (i := 2) (v := ?_) rfl (by kernel_rfl) (by kernel_rfl) (by kernel_rfl) (by kernel_rfl) (fun _ _ _ h => h) (by rfl) (fun w1 hl => ?_) ?_
    rotate_left
    · go_simp; try with_reducible rfl
    simp only [List.getElem_toArray, List.getElem_cons_zero, List.getElem_cons_succ, Act.put, List.setIfInBounds_toArray, List.set_cons_zero, List.set_cons_succ]
    refine wpM_take (t := 21) (i := 3) (v := ?_) rfl (by kernel_rfl) (by kernel_rfl) (by kernel_rfl) (by kernel_rfl) (fun _ _ _ h => h) (by rfl) (fun w1 hl => ?_) ?_
    rotate_left
    · go_simp; try with_reducible rfl
    simp only [List.getElem_toArray, List.getElem_cons_zero, List.getElem_cons_succ, Act.put, List.setIfInBounds_toArray, List.set_cons_zero, List.set_cons_succ]
    refine wpM_take (t := 21) (i := 4) (v := ?_) rfl (by kernel_rfl) (by kernel_rfl) (by kernel_rfl) (by kernel_rfl) (fun _ _ _ h => h) (by rfl) (fun w1 hl => ?_) ?_
    rotate_left
    · skip; go_simp; try with_reducible rfl
    simp only [List.getElem_toArray, List.getElem_cons_zero, List.getElem_cons_succ, Act.put, List.setIfInBounds_toArray, List.set_cons_zero, List.set_cons_succ]
    refine wpM_take (t := 21) (i := 5) (v := ?_) rfl (by kernel_rfl) (by kernel_rfl) (by kernel_rfl) (by kernel_rfl) (fun _ _ _ h => h) (by rfl) (fun w1 hl => ?_) ?_
    rotate_left
    · skip; go_simp; try with_reducible rfl
    simp only [List.getElem_toArray, List.getElem_cons_zero, List.getElem_cons_succ, Act.put, List.setIfInBounds_toArray, List.set_cons_zero, List.set_cons_succ]
    refine wpM_take (t := 21) (i := 6) (v := ?_) rfl (by kernel_rfl) (by kernel_rfl) (by kernel_rfl) (by kernel_rfl) (fun _ _ _ h => h) (by rfl) (fun w1 hl => ?_) ?_
    rotate_left
    · skip; go_simp; try with_reducible rfl
    simp only [List.getElem_toArray, List.getElem_cons_zero, List.getElem_cons_succ, Act.put, List.setIfInBounds_toArray, List.set_cons_zero, List.set_cons_succ]
    refine wpM_take (t := 21) (i := 7) (v := ?_) rfl (by kernel_rfl) (by kernel_rfl) (by kernel_rfl) (by kernel_rfl) (fun _ _ _ h => h) (by rfl) (fun w1 hl => ?_) ?_
    rotate_left
    · skip; go_simp; try with_reducible rfl
    simp only [List.getElem_toArray, List.getElem_cons_zero, List.getElem_cons_succ, Act.put, List.setIfInBounds_toArray, List.set_cons_zero, List.set_cons_succ]
    refine wpM_take (t := 21) (i := 8) (v := ?_) rfl (by kernel_rfl) (by kernel_rfl) (by kernel_rfl) (by kernel_rfl) (fun _ _ _ h => h) (by rfl) (fun w1 hl => ?_) ?_
    rotate_left
    · skip; go_simp; try with_reducible rfl
    simp only [List.getElem_toArray, List.getElem_cons_zero, List.getElem_cons_succ, Act.put, List.setIfInBounds_toArray, List.set_cons_zero, List.set_cons_succ]
    refine wpM_take (t := 21) (i := 10) (v := ?_) rfl (by kernel_rfl) (by kernel_rfl) (by kernel_rfl) (by kernel_rfl) (fun _ _ _ h => h) (by rfl) (fun w1 hl => ?_) ?_
    rotate_left
    · skip; go_simp; try with_reducible rfl
    simp only [List.getElem_toArray, List.getElem_cons_zero, List.getElem_cons_succ, Act.put, List.setIfInBounds_toArray, List.set_cons_zero, List.set_cons_succ]
    refine wpM_take (t := 21) (i := 13) (v := ?_) rfl (by kernel_rfl) (by kernel_rfl) (by kernel_rfl) (by kernel_rfl) (fun _ _ _ h => h) (by rfl) (fun w1 hl => ?_) ?_
    rotate_left
    · skip; go_simp; try with_reducible rfl
    simp only [List.getElem_toArray, List.getElem_cons_zero, List.getElem_cons_succ, Act.put, List.setIfInBounds_toArray, List.set_cons_zero, List.set_cons_succ]
    refine wpM_take (t := 21) (i := 9) rfl (by kernel_rfl) (by kernel_rfl) (by kernel_rfl) (by kernel_rfl) (fun _ _ _ h => h) (by rfl) (fun w1 hl => run_load_box 28 _ rfl _ rfl ((HF.out w1 hl).1) Tryz.underlying28 rfl (size_dfa V)) ?_
    simp only [List.getElem_toArray, List.getElem_cons_zero, List.getElem_cons_succ, Act.put, List.setIfInBounds_toArray, List.set_cons_zero, List.set_cons_succ]
    refine wpM_call (t := 21) (i := 11) (f := ?_) (args := ?_) (v := ?_) rfl (by kernel_rfl) (by kernel_rfl) (by kernel_rfl) (by kernel_rfl) (fun _ _ _ h => h) (by rfl) (fun w1 => ?_) (fun w1 hl => ?_) ?_
    rotate_left 4
    · exact HR1.out w1 (HF.out w1 hl).2
    rotate_left
    · go_simp
    simp only [List.getElem_toArray, List.getElem_cons_zero, List.getElem_cons_succ, Act.put, List.setIfInBounds_toArray, List.set_cons_zero, List.set_cons_succ]
    refine wpM_take (t := 21) (i := 12) rfl (by kernel_rfl) (by kernel_rfl) (by kernel_rfl) (by kernel_rfl) (fun _ _ _ h => h) (by rfl) (fun w1 hl => run_load_box 28 _ rfl _ rfl ((HF.out w1 hl).1) Tryz.underlying28 rfl (size_dfa V)) ?_
    simp only [List.getElem_toArray, List.getElem_cons_zero, List.getElem_cons_succ, Act.put, List.setIfInBounds_toArray, List.set_cons_zero, List.set_cons_succ]
    refine wpM_call (t := 21) (i := 14) (f := ?_) (args := ?_) (v := ?_) rfl (by kernel_rfl) (by kernel_rfl) (by kernel_rfl) (by kernel_rfl) (fun _ _ _ h => h) (by rfl) (fun w1 => ?_) (fun w1 hl => ?_) ?_
    rotate_left 4
    · exact HR2.out w1 (HF.out w1 hl).2
    rotate_left
    · go_simp
    simp only [List.getElem_toArray, List.getElem_cons_zero, List.getElem_cons_succ, Act.put, List.setIfInBounds_toArray, List.set_cons_zero, List.set_cons_succ]
    refine wpM_take (t := 21) (i := 15) (v := ?_) rfl (by kernel_rfl) (by kernel_rfl) (by kernel_rfl) (by kernel_rfl) (fun _ _ _ h => h) (by rfl) (fun w1 hl => ?_) ?_
    rotate_left
    · skip; go_simp; try with_reducible rfl
    simp only [List.getElem_toArray, List.getElem_cons_zero, List.getElem_cons_succ, Act.put, List.setIfInBounds_toArray, List.set_cons_zero, List.set_cons_succ]
    refine wpM_take (t := 21) (i := 16) (v := ?_) rfl (by kernel_rfl) (by kernel_rfl) (by kernel_rfl) (by kernel_rfl) (fun _ _ _ h => h) (by rfl) (fun w1 hl => ?_) ?_
    rotate_left
    · skip; go_simp; try with_reducible rfl
    simp only [List.getElem_toArray, List.getElem_cons_zero, List.getElem_cons_succ, Act.put, List.setIfInBounds_toArray, List.set_cons_zero, List.set_cons_succ]
    refine wpM_take (t := 21) (i := 17) (v := ?_) rfl (by kernel_rfl) (by kernel_rfl) (by kernel_rfl) (by kernel_rfl) (fun _ _ _ h => h) (by rfl) (fun w1 hl => ?_) ?_
    rotate_left
    · skip; go_simp; try with_reducible rfl
    simp only [List.getElem_toArray, List.getElem_cons_zero, List.getElem_cons_succ, Act.put, List.setIfInBounds_toArray, List.set_cons_zero, List.set_cons_succ]
    refine wpM_call (t := 21) (i := 18) (f := ?_) (args := ?_) (v := ?_) rfl (by kernel_rfl) (by kernel_rfl) (by kernel_rfl) (by kernel_rfl) (fun _ _ _ h => h) (by rfl) (fun w1 => ?_) (fun w1 hl => ?_) ?_
    rotate_left 4
    · exact HK.out w1 (HF.out w1 hl).2
    rotate_left
    · go_simp
    simp only [List.getElem_toArray, List.getElem_cons_zero, List.getElem_cons_succ, Act.put, List.setIfInBounds_toArray, List.set_cons_zero, List.set_cons_succ]
    refine wpM_take (t := 21) (i := 19) (v := ?_) rfl (by kernel_rfl) (by kernel_rfl) (by kernel_rfl) (by kernel_rfl) (fun _ _ _ h => h) (by rfl) (fun w1 hl => ?_) ?_
    rotate_left
    · skip; go_simp; try with_reducible rfl
    simp only [List.getElem_toArray, List.getElem_cons_zero, List.getElem_cons_succ, Act.put, List.setIfInBounds_toArray, List.set_cons_zero, List.set_cons_succ]
    refine wpM_take (t := 21) (i := 20) (v := ?_) rfl (by kernel_rfl) (by kernel_rfl) (by kernel_rfl) (by kernel_rfl) (fun _ _ _ h => h) (by rfl) (fun w1 hl => ?_) ?_
    rotate_left
    · skip; go_simp; try with_reducible rfl
    simp only [List.getElem_toArray, List.getElem_cons_zero, List.getElem_cons_succ, Act.put, List.setIfInBounds_toArray, List.set_cons_zero, List.set_cons_succ]
    refine wpM_done (by kernel_rfl) (fun w1 hl => ?_) _
    go_wp2
    go_ret
    exact ⟨rfl, (HF.out w1 hl).2⟩
  | true =>
    rw [hr] at h20 H24
    have H20 := Lib.hid h20
    cases hq : decide ((V.ln : Int) ≤ 200) with
    | true =>
      rw [hq] at H24
      clear h20 hr h hT hM hl hof hq
      go_enter Tryz.func4, Tryz.ntmps4
      go_wp2_with (first | (refine wpList_load_row rfl 28 (.tmp 2) rfl w.heap.size rfl _ _ _ _ hx Tryz.underlying28 rfl (size_dfa V) ?_) | (go_at_call 9; go_must (refine (H20.out _ hb0).mono ?_; rintro e w2 ⟨rfl, hB2⟩; have hx2 := hx.kept hB2; have hb2 := hb0.trans (hB2.mono hb0.size))) | (refine wpList_load_row_g (by rfl) 28 (.tmp 2) rfl w.heap.size rfl _ _ _ _ hx2 Tryz.underlying28 rfl (size_dfa V) ?_) | (go_at_call 10; go_must (refine (H24.out _ hb2).mono ?_; rintro e w5 ⟨rfl, hB5⟩; have hx5 := hx2.kept hB5; have hb5 := hb2.trans (hB5.mono hb2.size))) | (refine wpList_load_row rfl 28 (.tmp 2) rfl w.heap.size rfl _ _ _ _ hx5 Tryz.underlying28 rfl (size_dfa V) ?_) | (go_at_call 11; go_must (refine (H1.out _ hb5).mono ?_; rintro e w3 ⟨rfl, hB3⟩; have hx3 := hx5.kept hB3; have hb3 := hb5.trans (hB3.mono hb5.size))) | (refine wpList_load_row rfl 28 (.tmp 2) rfl w.heap.size rfl _ _ _ _ hx3 Tryz.underlying28 rfl (size_dfa V) ?_) | (go_at_call 12; go_must (refine (H2.out _ hb3).mono ?_; rintro e w4 ⟨rfl, hB4⟩; have hx4 := hx3.kept hB4; have hb4 := hb3.trans (hB4.mono hb3.size))))
      have hx4 := hx4.drew
      have HF : Hid (∀ w1, Later w4.drew w1 → Box w1 w.heap.size V.cells 28 ∧ Below w.heap.size w w1) := Lib.hid fun w1 hl => ⟨hx4.kept hl, hb4.trans (((Below.refl _ w4).drew.trans hl).mono hb4.size)⟩
      clear hx hx2 hx3 hx4 hx5 hb0 hb2 hb3 hb4 hb5 hB2 hB3 hB4 hB5
      refine wp_region_M (R := Later) 21 (by kernel_rfl) ?_
      refine wpM_take (t := 21) (i := 0) (v := ?_) rfl (by kernel_rfl) (by kernel_rfl) (by kernel_rfl) (by kernel_rfl) (fun _ _ _ h => h) (by rfl) (fun w1 hl => ?_) ?_
      rotate_left
      · go_simp; try with_reducible rfl
      simp only [List.getElem_toArray, List.getElem_cons_zero, Act.put, List.setIfInBounds_toArray, List.set_cons_zero, List.set_cons_succ]
      refine wpM_take (t := 21) (i := 1) (v := ?_) rfl (by kernel_rfl) (by kernel_rfl) (by kernel_rfl) (by kernel_rfl) (fun _ _ _ h => h) (by rfl) (fun w1 hl => ?_) ?_
      rotate_left
      · go_simp; try with_reducible rfl
      simp only [List.getElem_toArray, List.getElem_cons_zero, List.getElem_cons_succ, Act.put, List.setIfInBounds_toArray, List.set_cons_zero, List.set_cons_succ]
      refine wpM_take (t := 21) (i := 2) (v := ?_) rfl (by kernel_rfl) (by kernel_rfl) (by kernel_rfl) (by kernel_rfl) (fun _ _ _ h => h) (by rfl) (fun w1 hl => ?_) ?_
      rotate_left
      · go_simp; try with_reducible rfl
      simp only [List.getElem_toArray, List.getElem_cons_zero, List.getElem_cons_succ, Act.put, List.setIfInBounds_toArray, List.set_cons_zero, List.set_cons_succ]
      refine wpM_take (t := 21) (i := 3) (v := ?_) rfl (by kernel_rfl) (by kernel_rfl) (by kernel_rfl) (by kernel_rfl) (fun _ _ _ h => h) (by rfl) (fun w1 hl => ?_) ?_
      rotate_left
      · go_simp; try with_reducible rfl
      simp only [List.getElem_toArray, List.getElem_cons_zero, List.getElem_cons_succ, Act.put, List.setIfInBounds_toArray, List.set_cons_zero, List.set_cons_succ]
      refine wpM_take (t := 21) (i := 4) (v := ?_) rfl (by kernel_rfl) (by kernel_rfl) (by kernel_rfl) (by kernel_rfl) (fun _ _ _ h => h) (by rfl) (fun w1 hl => ?_) ?_
      rotate_left
      · skip; go_simp; try with_reducible rfl
      simp only [List.getElem_toArray, List.getElem_cons_zero, List.getElem_cons_succ, Act.put, List.setIfInBounds_toArray, List.set_cons_zero, List.set_cons_succ]
      refine wpM_take (t := 21) (i := 5) (v := ?_) rfl (by kernel_rfl) (by kernel_rfl) (by kernel_rfl) (by kernel_rfl) (fun _ _ _ h => h) (by rfl) (fun w1 hl => ?_) ?_
      rotate_left
      · skip; go_simp; try with_reducible rfl
      simp only [List.getElem_toArray, List.getElem_cons_zero, List.getElem_cons_succ, Act.put, List.setIfInBounds_toArray, List.set_cons_zero, List.set_cons_succ]
      refine wpM_take (t := 21) (i := 6) (v := ?_) rfl (by kernel_rfl) (by kernel_rfl) (by kernel_rfl) (by kernel_rfl) (fun _ _ _ h => h) (by rfl) (fun w1 hl => ?_) ?_
      rotate_left
      · skip; go_simp; try with_reducible rfl
      simp only [List.getElem_toArray, List.getElem_cons_zero, List.getElem_cons_succ, Act.put, List.setIfInBounds_toArray, List.set_cons_zero, List.set_cons_succ]
      refine wpM_take (t := 21) (i := 7) (v := ?_) rfl (by kernel_rfl) (by kernel_rfl) (by kernel_rfl) (by kernel_rfl) (fun _ _ _ h => h) (by rfl) (fun w1 hl => ?_) ?_
      rotate_left
      · skip; go_simp; try with_reducible rfl
      simp only [List.getElem_toArray, List.getElem_cons_zero, List.getElem_cons_succ, Act.put, List.setIfInBounds_toArray, List.set_cons_zero, List.set_cons_succ]
      refine wpM_take (t := 21) (i := 8) (v := ?_) rfl (by kernel_rfl) (by kernel_rfl) (by kernel_rfl) (by kernel_rfl) (fun _ _ _ h => h) (by rfl) (fun w1 hl => ?_) ?_
      rotate_left
      · skip; go_simp; try with_reducible rfl
      simp only [List.getElem_toArray, List.getElem_cons_zero, List.getElem_cons_succ, Act.put, List.setIfInBounds_toArray, List.set_cons_zero, List.set_cons_succ]
      refine wpM_take (t := 21) (i := 10) (v := ?_) rfl (by kernel_rfl) (by kernel_rfl) (by kernel_rfl) (by kernel_rfl) (fun _ _ _ h => h) (by rfl) (fun w1 hl => ?_) ?_
      rotate_left
      · skip; go_simp; try with_reducible rfl
      simp only [List.getElem_toArray, List.getElem_cons_zero, List.getElem_cons_succ, Act.put, List.setIfInBounds_toArray, List.set_cons_zero, List.set_cons_succ]
      refine wpM_take (t := 21) (i := 13) (v := ?_) rfl (by kernel_rfl) (by kernel_rfl) (by kernel_rfl) (by kernel_rfl) (fun _ _ _ h => h) (by rfl) (fun w1 hl => ?_) ?_
      rotate_left
      · skip; go_simp; try with_reducible rfl
      simp only [List.getElem_toArray, List.getElem_cons_zero, List.getElem_cons_succ, Act.put, List.setIfInBounds_toArray, List.set_cons_zero, List.set_cons_succ]
      refine wpM_take (t := 21) (i := 9) rfl (by kernel_rfl) (by kernel_rfl) (by kernel_rfl) (by kernel_rfl) (fun _ _ _ h => h) (by rfl) (fun w1 hl => run_load_box 28 _ rfl _ rfl ((HF.out w1 hl).1) Tryz.underlying28 rfl (size_dfa V)) ?_
      simp only [List.getElem_toArray, List.getElem_cons_zero, List.getElem_cons_succ, Act.put, List.setIfInBounds_toArray, List.set_cons_zero, List.set_cons_succ]
      refine wpM_call (t := 21) (i := 11) (f := ?_) (args := ?_) (v := ?_) rfl (by kernel_rfl) (by kernel_rfl) (by kernel_rfl) (by kernel_rfl) (fun _ _ _ h => h) (by rfl) (fun w1 => ?_) (fun w1 hl => ?_) ?_
      rotate_left 4
      · exact HR1.out w1 (HF.out w1 hl).2
      rotate_left
      · go_simp
      simp only [List.getElem_toArray, List.getElem_cons_zero, List.getElem_cons_succ, Act.put, List.setIfInBounds_toArray, List.set_cons_zero, List.set_cons_succ]
      refine wpM_take (t := 21) (i := 12) rfl (by kernel_rfl) (by kernel_rfl) (by kernel_rfl) (by kernel_rfl) (fun _ _ _ h => h) (by rfl) (fun w1 hl => run_load_box 28 _ rfl _ rfl ((HF.out w1 hl).1) Tryz.underlying28 rfl (size_dfa V)) ?_
      simp only [List.getElem_toArray, List.getElem_cons_zero, List.getElem_cons_succ, Act.put, List.setIfInBounds_toArray, List.set_cons_zero, List.set_cons_succ]
      refine wpM_call (t := 21) (i := 14) (f := ?_) (args := ?_) (v := ?_) rfl (by kernel_rfl) (by kernel_rfl) (by kernel_rfl) (by kernel_rfl) (fun _ _ _ h => h) (by rfl) (fun w1 => ?_) (fun w1 hl => ?_) ?_
      rotate_left 4
      · exact HR2.out w1 (HF.out w1 hl).2
      rotate_left
      · go_simp
      simp only [List.getElem_toArray, List.getElem_cons_zero, List.getElem_cons_succ, Act.put, List.setIfInBounds_toArray, List.set_cons_zero, List.set_cons_succ]
      refine wpM_take (t := 21) (i := 15) (v := ?_) rfl (by kernel_rfl) (by kernel_rfl) (by kernel_rfl) (by kernel_rfl) (fun _ _ _ h => h) (by rfl) (fun w1 hl => ?_) ?_
      rotate_left
      · skip; go_simp; try with_reducible rfl
      simp only [List.getElem_toArray, List.getElem_cons_zero, List.getElem_cons_succ, Act.put, List.setIfInBounds_toArray, List.set_cons_zero, List.set_cons_succ]
      refine wpM_take (t := 21) (i := 16) (v := ?_) rfl (by kernel_rfl) (by kernel_rfl) (by kernel_rfl) (by kernel_rfl) (fun _ _ _ h => h) (by rfl) (fun w1 hl => ?_) ?_
      rotate_left
      · skip; go_simp; try with_reducible rfl
      simp only [List.getElem_toArray, List.getElem_cons_zero, List.getElem_cons_succ, Act.put, List.setIfInBounds_toArray, List.set_cons_zero, List.set_cons_succ]
      refine wpM_take (t := 21) (i := 17) (v := ?_) rfl (by kernel_rfl) (by kernel_rfl) (by kernel_rfl) (by kernel_rfl) (fun _ _ _ h => h) (by rfl) (fun w1 hl => ?_) ?_
      rotate_left
      · skip; go_simp; try with_reducible rfl
      simp only [List.getElem_toArray, List.getElem_cons_zero, List.getElem_cons_succ, Act.put, List.setIfInBounds_toArray, List.set_cons_zero, List.set_cons_succ]
      refine wpM_call (t := 21) (i := 18) (f := ?_) (args := ?_) (v := ?_) rfl (by kernel_rfl) (by kernel_rfl) (by kernel_rfl) (by kernel_rfl) (fun _ _ _ h => h) (by rfl) (fun w1 => ?_) (fun w1 hl => ?_) ?_
      rotate_left 4
      · exact HK.out w1 (HF.out w1 hl).2
      rotate_left
      · go_simp
      simp only [List.getElem_toArray, List.getElem_cons_zero, List.getElem_cons_succ, Act.put, List.setIfInBounds_toArray, List.set_cons_zero, List.set_cons_succ]
      refine wpM_take (t := 21) (i := 19) (v := ?_) rfl (by kernel_rfl) (by kernel_rfl) (by kernel_rfl) (by kernel_rfl) (fun _ _ _ h => h) (by rfl) (fun w1 hl => ?_) ?_
      rotate_left
      · skip; go_simp; try with_reducible rfl
      simp only [List.getElem_toArray, List.getElem_cons_zero, List.getElem_cons_succ, Act.put, List.setIfInBounds_toArray, List.set_cons_zero, List.set_cons_succ]
      refine wpM_take (t := 21) (i := 20) (v := ?_) rfl (by kernel_rfl) (by kernel_rfl) (by kernel_rfl) (by kernel_rfl) (fun _ _ _ h => h) (by rfl) (fun w1 hl => ?_) ?_
      rotate_left
      · skip; go_simp; try with_reducible rfl
      simp only [List.getElem_toArray, List.getElem_cons_zero, List.getElem_cons_succ, Act.put, List.setIfInBounds_toArray, List.set_cons_zero, List.set_cons_succ]
      refine wpM_done (by kernel_rfl) (fun w1 hl => ?_) _
      go_wp2
      go_ret
      exact ⟨rfl, (HF.out w1 hl).2⟩
    | false =>
      rw [hq] at H24
      clear h20 hr h hT hM hl hof hq
      go_enter Tryz.func4, Tryz.ntmps4
      go_wp2_with (first | (refine wpList_load_row rfl 28 (.tmp 2) rfl w.heap.size rfl _ _ _ _ hx Tryz.underlying28 rfl (size_dfa V) ?_) | (go_at_call 9; go_must (refine (H20.out _ hb0).mono ?_; rintro e w2 ⟨rfl, hB2⟩; have hx2 := hx.kept hB2; have hb2 := hb0.trans (hB2.mono hb0.size))) | (refine wpList_load_row_g (by rfl) 28 (.tmp 2) rfl w.heap.size rfl _ _ _ _ hx2 Tryz.underlying28 rfl (size_dfa V) ?_) | (go_at_call 10; go_must (refine (H24.out _ hb2).mono ?_; rintro e w5 ⟨rfl, hB5⟩; have hx5 := hx2.kept hB5; have hb5 := hb2.trans (hB5.mono hb2.size))) | (go_at_call 5; go_must (refine (HK.out _ hb5).mono ?_; rintro e w4 ⟨rfl, hB4⟩; have hb4 := hb5.trans (hB4.mono hb5.size))))
      go_ret
      exact ⟨rfl, hb4⟩
theorem table_ListingTexts {W : World} (h : laidMetH Tryz.prog Rows.listingTextsRow.laid W) : Tab W := tab_of_tabIs (Lib.tabIs_of_head (zs := Lib.deBruijn64tab.map fun (x : Nat) => (x : Int)) (rest := []) gTab gTabType Tryz.underlying146 Tryz.underlying5 (by kernel_rfl) (by kernel_rfl) h)
set_option maxRecDepth 100000 in
theorem contract_ListingTexts (H : Type) (enc : TypeId × Value → H) (W : World) (base : Nat) (args : Array Value) (ds gs : List (DataW H)) (before : List MemPlace)
    (hval0 : ∀ (j : Nat) t v, Tryz.f4.params[j]? = some t → args[j]? = some v → Value.okWide Tryz.prog W .any base t v)
    (hW : DataW.Whole enc Tryz.prog Tryz.f4.params.toList Rows.listingTextsSpec.vars false W args.toList ds gs before) (hsh : W.ShapedOpen Tryz.prog) (hL : laidMetH Tryz.prog Rows.listingTextsRow.laid W) :
    Calls Tryz.prog 4 args W fun e W' => ∃ v, e = .returned v ∧ Rows.listingTextsSpec.post enc Tryz.prog Tryz.f4 false true false false W args v W' := by
  have hval : ∀ (j : Nat) t v, Tryz.f4.params[j]? = some t → args[j]? = some v → Value.okWide Tryz.prog W .any base t v := hval0
  have hW' := hW
  have hT := table_ListingTexts hL
  have hM : MaxL W := Go.Proofs.cell_of_shapedOpen_int (zero := #[.int .i64 0]) (t := 3) hsh (of_decide_eq_true (by kernel_rfl)) (by kernel_rfl) rfl (by kernel_rfl) (by kernel_rfl) Tryz.underlying3
  obtain ⟨p, q, hA0, hV, rfl, hfz, hnd⟩ := hW
  have hA : DataW.TrodAll enc Tryz.prog W 0 (fun _ => true) true Tryz.f4.params.toList args.toList ds p := hA0
  rw [Tryz.params4] at hA hval
  obtain ⟨v0, vs0, d0, ds0, p0, q0, hargs, rfl, rfl, h00, r0⟩ := trodAll_cons hA
  obtain ⟨v1, vs1, d1, ds1, p1, q1, rfl, rfl, rfl, h01, r1⟩ := trodAll_cons r0
  obtain ⟨rfl, rfl, rfl⟩ := trodAll_nil r1
  obtain rfl : args = #[v0, v1] := by cases args; simp_all
  obtain ⟨rfl, rfl⟩ := trodVars_none hV
  have k00 := h00
  have lt0 : ∀ x ∈ p0, x.block < W.heap.size := by obtain ⟨m, hm⟩ := k00; exact DataW.trod_lt m _ _ _ hm
  have k01 := h01
  have lt1 : ∀ x ∈ p1, x.block < W.heap.size := by obtain ⟨m, hm⟩ := k01; exact DataW.trod_lt m _ _ _ hm
  obtain ⟨Vd, d, rfl, Rd, ofd, nmd, wdd, lbd, nxd⟩ : ∃ (V : VDfa) (D : PDfa), v0 = .agg V.cells ∧ ReadsD W V D ∧ (∀ b, V.of b < 256) ∧ (∀ x ∈ D.names, x.length ≤ 9223372036854775807) ∧ (Lit.int .i64 D.width).wf = true ∧ (∀ x ∈ D.label, (Lit.int .i64 x).wf = true) ∧ ∀ r ∈ D.next, ∀ x ∈ r, (Lit.int .i64 x).wf = true := by
    obtain ⟨fuel, hfu⟩ := h00
    obtain ⟨cs, hcs, _⟩ := okWide_struct Tryz.underlying28 (hval 0 28 v0 rfl rfl)
    subst hcs
    obtain ⟨fs, N⟩ := dfaTys
    obtain ⟨V, D, h2, h3⟩ := trod_dfa N hfu
    exact ⟨V, D, by rw [show cs = V.cells from Array.ext' h2], h3⟩
  obtain ⟨s, rfl⟩ := okWide_int Tryz.underlying3 (hval 1 3 v1 rfl rfl)
  have hs : (Lit.int .i64 s).wf = true := by
    obtain ⟨fuel, hfu⟩ := h01
    obtain ⟨z, hz1, _, hz2⟩ := DataW.trod_int Tryz.underlying3 hfu
    simp [Value.cells] at hz1
    subst hz1; exact hz2
  clear hA0 hval0
  refine (law_ListingTexts Vd d s W Rd ofd nmd hT hM).mono fun e W' ⟨he, bel⟩ => ?_
  subst he
  exact ⟨_, rfl, _, _, _, [], _, [], hW', trodAll_mk1 (shut_bool Tryz.underlying4 _), (trodAll_cons_mk (Below.trod laidOut (by kernel_rfl) (of_decide_eq_true (by kernel_rfl)) k00 bel lt0) (trodAll_cons_mk (Below.trod laidOut (by kernel_rfl) (of_decide_eq_true (by kernel_rfl)) k01 bel lt1) trodAll_mk0)), rfl, bel.frame _, fun h => by cases h⟩
theorem laid_met_ListingTexts (os : Os) : laidMet Tryz.prog Rows.listingTextsRow.laid ((laidWorld os).forCall (fun _ _ => 0) ⟨#[], #[zDfa, .int .i64 0], []⟩).memory :=
  laidMet_of_run' 8 (by kernel_rfl) (by kernel_rfl)
theorem reads_ListingTexts (os : Os) {H : Type} (enc : TypeId × Value → H) : ∃ places, DataW.whole enc Tryz.prog ((laidWorld os).forCall (fun _ _ => 0) ⟨#[], #[zDfa, .int .i64 0], []⟩).memory Tryz.f4.params.toList Rows.listingTextsSpec.vars false (#[zDfa, .int .i64 0] : Array Value).toList 8 = some ([.agg [.agg (List.replicate 256 (.lit (.int .u8 0))), .lit (.int .i64 0), .nil, .nil, .nil], .lit (.int .i64 0)], [], places) :=
  ⟨[], by kernel_rfl⟩
set_option maxRecDepth 100000 in
theorem lifted_ListingTexts (os : Os) (started : os.Started) (H : Type) (enc : TypeId × Value → H) (F : Stop.Interp) :
    ReturnsInHanded {} Tryz.checked os 4 .any ((OpenSpec.ofChange Rows.listingTextsSpec).preRow enc Tryz.prog Tryz.f4 Rows.listingTextsRow.domain false Rows.listingTextsRow.laid) (((OpenSpec.ofChange Rows.listingTextsSpec).at F).post enc Tryz.prog Tryz.f4 false true false false) := by
  obtain ⟨places, hx⟩ := reads_ListingTexts os enc
  refine returnsInHanded_of_row (C := Tryz.checked) (s := OpenSpec.ofChange Rows.listingTextsSpec) own started (by kernel_rfl) Tryz.func4
    (witness_row_at (enc := enc) (C := Tryz.checked) false (laidWorld os) #[zDfa, .int .i64 0] rfl (by kernel_rfl) (by kernel_rfl) (by kernel_rfl)
      (OpenSpec.preRow_of_cond 8 hx (by kernel_rfl) (fun k hk => by cases hk) (by kernel_rfl) (laid_met_ListingTexts os))) ?_
  intro W base args ds gs before hval hW _ _ _ hL hsh _
  exact contract_ListingTexts H enc W base args ds gs before hval hW hsh hL
theorem said_ListingTexts : Rows.ListingTextsSaid :=
  OpenClaim.holds_of_cond 4 Tryz.f4 rfl rfl rfl rfl rfl rfl rfl ⟨rfl, rfl, rfl, rfl, rfl⟩ rfl rfl rfl rfl rfl (by kernel_rfl) Tryz.func4 (by kernel_rfl)
    (of_decide_eq_true (by kernel_rfl)) (by unfold Func.isWrapper; first | (rw [if_pos (by decide +kernel)]; kernel_rfl) | (rw [if_neg (by decide +kernel)]; exact ⟨rfl, rfl⟩))
    (fun os started H enc _ F => by rw [OpenClaim.pre_eq_preRow]; exact lifted_ListingTexts os started H enc F)
theorem plain_ListingTexts (f : FuncId) (fn : Func) (hf : Tryz.pinned.checked.prog.funcNamed "doublet/doubletlaw36.ListingTexts" = some f) (hfn : Tryz.pinned.checked.prog.funcs[f]? = some fn) :
    false = Tryz.pinned.checked.prog.looks [] ∧ ∀ (j : Nat) t, fn.params[j]? = some t → Tryz.pinned.checked.prog.wantsStandIn t = false := by
  obtain rfl : f = 4 := Option.some.inj ((show Tryz.prog.funcNamed "doublet/doubletlaw36.ListingTexts" = some 4 by kernel_rfl).symm.trans hf) |>.symm
  obtain rfl : fn = Tryz.f4 := (Option.some.inj (Tryz.func4.symm.trans hfn)).symm
  refine ⟨by kernel_rfl, fun j t ht => ?_⟩
  rw [Tryz.params4] at ht
  have hm := Array.mem_of_getElem? ht
  simp only [List.mem_toArray, List.mem_cons, List.not_mem_nil, or_false] at hm
  rcases hm with rfl | rfl
  · exact (show Tryz.prog.wantsStandIn 28 = false by kernel_rfl)
  · exact (show Tryz.prog.wantsStandIn 3 = false by kernel_rfl)
theorem ListingTexts_holds : Rows.ListingTextsCardSaid :=
  Claim7.holds_tied_plain_at .later [] _ _ _ _ said_ListingTexts (fun _ h => by cases h) (by kernel_rfl) (fun _ h => by cases h) listingTexts_row_tie rfl ⟨rfl, rfl⟩ (by kernel_rfl) rfl plain_ListingTexts (by kernel_rfl)
#print axioms ListingTexts_holds
end Go.Proofs.YtdhmekpgplajmaaGreatDoor
end
