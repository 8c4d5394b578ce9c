/- Joined by tools/merge.py: Ref36Text, Read0, Read1. -/
import Derived.Test.YtdhmekpgplajmaaGreatDoorJ20
import Derived.Test.YtdhmekpgplajmaaGreatDoorJ26
import Derived.Test.YtdhmekpgplajmaaGreatDoorJ25
import Derived.RecoverIn
section
namespace Go.Proofs.YtdhmekpgplajmaaGreatDoor
open Go.RowKit
theorem line3 (a b c : List UInt8) : lineT [a, b, c] = a ++ 32 :: (b ++ 32 :: (c ++ [10])) := by
  rw [lineT, Lib.join_cons]
  simp [Lib.joinTail]
theorem line1 (a : List UInt8) : lineT [a] = a ++ [10] := by
  rw [lineT, Lib.join_cons]
  simp [Lib.joinTail]
set_option maxRecDepth 20000 in
set_option maxHeartbeats 3200000 in
theorem ref36_Text (V : VDfa) (D : PDfa) (w : World) (h : ReadsD w V D) (hof : ∀ b, V.of b < 256) (hl : ∀ x ∈ D.names, x.length ≤ 9223372036854775807) :
    Calls Tryz.prog 12 #[.agg V.cells] w (Ret w (if rightD D = true then .tuple #[sv (textD D), .int .i64 0] else .tuple #[sv [], .int .i64 6])) := by
  have hRt := fun w1 (hb : Below w.heap.size w w1) => ref20_Right V D w1 (h.kept hb) hof hl
  have hbx := Box.new w V.cells 28
  have hB0 := later_alloc w (.cells V.cells 28)
  by_cases hR : rightD D = true
  · rw [hR] at hRt
    rw [if_pos hR]
    obtain ⟨f1, f2, f3, f4, f5, f6, f7⟩ := rightD_facts hR
    obtain ⟨hln, hmn, hnn⟩ := h.lens
    have hwd := h.2.1
    have hlb : V.ln ≤ 65536 := by omega
    have hmb : V.mn ≤ 64 := by omega
    have hs1 := fun w => ref01_Show (V.ln : Int) w (by omega)
    have hs2 := fun w => ref01_Show V.width w (by omega)
    have hhd : namesT D 0 = lineT [[109, 97, 99, 104, 105, 110, 101], showI (V.ln : Int), showI V.width] := by rw [namesT, List.range_zero, List.flatMap_nil, List.append_nil, headT, hln, hwd]
    rw [line3] at hhd
    have hl1 := showI_length (V.ln : Int) (by omega)
    have hl2 := showI_length V.width (by omega)
    have hcs := fun w => conv_strU (P := Tryz.prog) (src := 56) (dst := 9) Tryz.underlying56 Tryz.underlying5 Tryz.underlying9 (xs := [10]) rfl (sl_new encU_ok w 5 [10] (by simp [maxLen]))
    have hcs2 : ∀ w : World, (convert 56 9 (.slice (some ⟨w.heap.size, 0, none⟩) 1 1)).run Tryz.prog (w.alloc (.cells #[.int .u8 10] 5)) = .ok (sv [10]) (w.alloc (.cells #[.int .u8 10] 5)) := hcs
    clear hcs
    generalize showI (V.ln : Int) = t1 at *
    generalize showI V.width = t2 at *
    have HRt := Lib.hid hRt
    have HS1 := Lib.hid hs1
    have HS2 := Lib.hid hs2
    have HHD := Lib.hid hhd
    have HH := Lib.hid h
    have HRR := Lib.hid hR
    have HLN := Lib.hid hln
    have HMN := Lib.hid hmn
    have HNL := Lib.hid hl
    clear hRt hs1 hs2 hhd h hR hln hmn hnn hwd f7 hl
    have hsap := sv_append
    have n1 : ¬ 9223372036854775807 < 8 + t1.length := by omega
    have n2 : ¬ 9223372036854775807 < t1.length + 1 + 1 + 1 + 1 + 1 + 1 + 1 + 1 + 1 := by omega
    have n3 : ¬ 9223372036854775807 < t1.length + 1 + 1 + 1 + 1 + 1 + 1 + 1 + 1 + 1 + t2.length := by omega
    have n4 : ¬ 9223372036854775807 < t1.length + (t2.length + 1) + 1 + 1 + 1 + 1 + 1 + 1 + 1 + 1 + 1 := by omega
    go_enter Tryz.func12, Tryz.ntmps12
    go_wp2_with (first | (refine wpList_load_row rfl 28 (.tmp 1) rfl w.heap.size rfl _ _ _ _ hbx Tryz.underlying28 rfl (size_dfa _) ?_) | (go_at_call 9; go_must (refine (HRt.out _ hB0).mono ?_; rintro e w2 ⟨rfl, hB2⟩; have hbx2 := hbx.kept hB2; have hB3 := hB0.trans (hB2.mono (by simp)); have hcs3 := hcs2 w2)))
    have HF : Hid (∀ v, Later (w2.alloc (.cells #[.int .u8 10] 5)).drew v → Box v w.heap.size V.cells 28 ∧ Below w.heap.size w v) := Lib.hid fun v hl =>
      ⟨(hbx2.alloc _).drew.kept hl, ((hB3.alloc hB3.size _).drew).trans (Below.mono hl (by have := hB3.size; simp; omega))⟩
    clear hbx2 hB2 hB3 hbx hB0
    generalize w2.alloc (.cells #[.int .u8 10] 5) = W at *
    refine wp_region_M (R := Later) 13 (by kernel_rfl) ?_
    refine wpM_take (t := 13) (i := 0) (v := ?_) rfl (by kernel_rfl) (by kernel_rfl) (by kernel_rfl) (by kernel_rfl) (fun _ _ _ h => h) (by rfl) (fun w1 hl => ?_) ?_
    rotate_left
    · obtain ⟨hbx, _⟩ := HF.out w1 hl; obtain ⟨x0, x1, x2, x3⟩ := hbx.dfa; go_simp; try with_reducible rfl
    simp only [List.getElem_toArray, List.getElem_cons_zero, Act.put, List.setIfInBounds_toArray, List.set_cons_zero, List.set_cons_succ]
    refine wpM_take (t := 13) (i := 1) (v := ?_) rfl (by kernel_rfl) (by kernel_rfl) (by kernel_rfl) (by kernel_rfl) (fun _ _ _ h => h) (by rfl) (fun w1 hl => ?_) ?_
    rotate_left
    · obtain ⟨hbx, _⟩ := HF.out w1 hl; obtain ⟨x0, x1, x2, x3⟩ := hbx.dfa; go_simp; try with_reducible rfl
    simp only [List.getElem_toArray, List.getElem_cons_zero, List.getElem_cons_succ, Act.put, List.setIfInBounds_toArray, List.set_cons_zero, List.set_cons_succ]
    refine wpM_take (t := 13) (i := 2) (v := ?_) rfl (by kernel_rfl) (by kernel_rfl) (by kernel_rfl) (by kernel_rfl) (fun _ _ _ h => h) (by rfl) (fun w1 hl => ?_) ?_
    rotate_left
    · obtain ⟨hbx, _⟩ := HF.out w1 hl; obtain ⟨x0, x1, x2, x3⟩ := hbx.dfa; go_simp; try with_reducible rfl
    simp only [List.getElem_toArray, List.getElem_cons_zero, List.getElem_cons_succ, Act.put, List.setIfInBounds_toArray, List.set_cons_zero, List.set_cons_succ]
    refine wpM_take (t := 13) (i := 6) (v := ?_) rfl (by kernel_rfl) (by kernel_rfl) (by kernel_rfl) (by kernel_rfl) (fun _ _ _ h => h) (by rfl) (fun w1 hl => ?_) ?_
    rotate_left
    · obtain ⟨hbx, _⟩ := HF.out w1 hl; obtain ⟨x0, x1, x2, x3⟩ := hbx.dfa; go_simp; try with_reducible rfl
    simp only [List.getElem_toArray, List.getElem_cons_zero, List.getElem_cons_succ, Act.put, List.setIfInBounds_toArray, List.set_cons_zero, List.set_cons_succ]
    refine wpM_take (t := 13) (i := 7) (v := ?_) rfl (by kernel_rfl) (by kernel_rfl) (by kernel_rfl) (by kernel_rfl) (fun _ _ _ h => h) (by rfl) (fun w1 hl => ?_) ?_
    rotate_left
    · obtain ⟨hbx, _⟩ := HF.out w1 hl; obtain ⟨x0, x1, x2, x3⟩ := hbx.dfa; go_simp; try with_reducible rfl
    simp only [List.getElem_toArray, List.getElem_cons_zero, List.getElem_cons_succ, Act.put, List.setIfInBounds_toArray, List.set_cons_zero, List.set_cons_succ]
    refine wpM_take (t := 13) (i := 10) (v := ?_) rfl (by kernel_rfl) (by kernel_rfl) (by kernel_rfl) (by kernel_rfl) (fun _ _ _ h => h) (by rfl) (fun w1 hl => ?_) ?_
    rotate_left
    · obtain ⟨hbx, _⟩ := HF.out w1 hl; obtain ⟨x0, x1, x2, x3⟩ := hbx.dfa; go_simp; try with_reducible rfl
    simp only [List.getElem_toArray, List.getElem_cons_zero, List.getElem_cons_succ, Act.put, List.setIfInBounds_toArray, List.set_cons_zero, List.set_cons_succ]
    refine wpM_call (t := 13) (i := 3) (f := ?_) (args := ?_) (v := ?_) rfl (by kernel_rfl) (by kernel_rfl) (by kernel_rfl) (by kernel_rfl) (fun _ _ _ h => h) (by rfl) (fun w1 => ?_) (fun w1 hl => ?_) ?_
    rotate_left 4
    · exact HS1.out w1
    rotate_left
    · go_simp
    simp only [List.getElem_toArray, List.getElem_cons_zero, List.getElem_cons_succ, Act.put, List.setIfInBounds_toArray, List.set_cons_zero, List.set_cons_succ]
    refine wpM_take (t := 13) (i := 4) (v := ?_) rfl (by kernel_rfl) (by kernel_rfl) (by kernel_rfl) (by kernel_rfl) (fun _ _ _ h => h) (by rfl) (fun w1 hl => ?_) ?_
    rotate_left
    · obtain ⟨hbx, _⟩ := HF.out w1 hl; obtain ⟨x0, x1, x2, x3⟩ := hbx.dfa; go_simp; try with_reducible rfl
    simp only [List.getElem_toArray, List.getElem_cons_zero, List.getElem_cons_succ, Act.put, List.setIfInBounds_toArray, List.set_cons_zero, List.set_cons_succ]
    refine wpM_take (t := 13) (i := 5) (v := ?_) rfl (by kernel_rfl) (by kernel_rfl) (by kernel_rfl) (by kernel_rfl) (fun _ _ _ h => h) (by rfl) (fun w1 hl => ?_) ?_
    rotate_left
    · obtain ⟨hbx, _⟩ := HF.out w1 hl; obtain ⟨x0, x1, x2, x3⟩ := hbx.dfa; go_simp; try with_reducible rfl
    simp only [List.getElem_toArray, List.getElem_cons_zero, List.getElem_cons_succ, Act.put, List.setIfInBounds_toArray, List.set_cons_zero, List.set_cons_succ]
    refine wpM_call (t := 13) (i := 8) (f := ?_) (args := ?_) (v := ?_) rfl (by kernel_rfl) (by kernel_rfl) (by kernel_rfl) (by kernel_rfl) (fun _ _ _ h => h) (by rfl) (fun w1 => ?_) (fun w1 hl => ?_) ?_
    rotate_left 4
    · exact HS2.out w1
    rotate_left
    · go_simp
    simp only [List.getElem_toArray, List.getElem_cons_zero, List.getElem_cons_succ, Act.put, List.setIfInBounds_toArray, List.set_cons_zero, List.set_cons_succ]
    refine wpM_take (t := 13) (i := 9) (v := ?_) rfl (by kernel_rfl) (by kernel_rfl) (by kernel_rfl) (by kernel_rfl) (fun _ _ _ h => h) (by rfl) (fun w1 hl => ?_) ?_
    rotate_left
    · obtain ⟨hbx, _⟩ := HF.out w1 hl; obtain ⟨x0, x1, x2, x3⟩ := hbx.dfa; go_simp; try with_reducible rfl
    simp only [List.getElem_toArray, List.getElem_cons_zero, List.getElem_cons_succ, Act.put, List.setIfInBounds_toArray, List.set_cons_zero, List.set_cons_succ]
    refine wpM_take (t := 13) (i := 11) (v := ?_) rfl (by kernel_rfl) (by kernel_rfl) (by kernel_rfl) (by kernel_rfl) (fun _ _ _ h => h) (by rfl) (fun w1 hl => ?_) ?_
    rotate_left
    · obtain ⟨hbx, _⟩ := HF.out w1 hl; obtain ⟨x0, x1, x2, x3⟩ := hbx.dfa; go_simp; try with_reducible rfl
    simp only [List.getElem_toArray, List.getElem_cons_zero, List.getElem_cons_succ, Act.put, List.setIfInBounds_toArray, List.set_cons_zero, List.set_cons_succ]
    refine wpM_take (t := 13) (i := 12) (v := ?_) rfl (by kernel_rfl) (by kernel_rfl) (by kernel_rfl) (by kernel_rfl) (fun _ _ _ h => h) (by rfl) (fun w1 hl => ?_) ?_
    rotate_left
    · obtain ⟨hbx, _⟩ := HF.out w1 hl; obtain ⟨x0, x1, x2, x3⟩ := hbx.dfa; go_simp; try with_reducible rfl
    simp only [List.getElem_toArray, List.getElem_cons_zero, List.getElem_cons_succ, Act.put, List.setIfInBounds_toArray, List.set_cons_zero, List.set_cons_succ]
    refine wpM_done (by kernel_rfl) (fun w1 hl => ?_) _
    obtain ⟨hbx, hB⟩ := HF.out w1 hl
    clear hl HF hcs2 hcs3 n1 n2 n3 n4
    obtain ⟨b4, o4, e4, _, _, a4, k4⟩ := HH.out.2.2.2.1.cells1
    have HA4 := Lib.hid a4
    have HK4 := Lib.hid k4
    obtain ⟨x0, x1, x2, x3⟩ := hbx.dfa
    clear e4 a4 k4
    go_wp2
    clear x0 x1 x2 x3
    go_loopw [5, 6] (fun v i wr => ∃ k : Nat, k ≤ V.mn ∧ i = .int .i64 k ∧ v = sv (namesT D k) ∧ Box wr w.heap.size V.cells 28 ∧ Below w.heap.size w wr) (fun _ i _ => V.mn - (intOf i).toNat)
    case atStart => exact ⟨0, Nat.zero_le _, rfl, by rw [HHD.out]; rfl, hbx, hB⟩
    case round =>
      clear hbx hB
      obtain ⟨k, hk, rfl, rfl, hbx, hB⟩ := hrel
      by_cases hlt : k < V.mn
      · have hk2 : k < D.names.length := by rw [← HMN.out]; exact hlt
        have ha := HA4.out k hk2
        have c4 := HK4.out k hk2 wr hB
        have hsh := fun w => ref01_Show ((k : Int) + 1) w (by omega)
        have hs3 := showI_length ((k : Int) + 1) (by omega)
        have hnl : nameLine D k = lineT [[110, 97, 109, 101], showI ((k : Int) + 1), D.names[k]] := by
          rw [nameLine, List.getD_eq_getElem?_getD, List.getElem?_eq_getElem hk2]; rfl
        have hsu := namesT_succ D k
        have hln := namesT_length HRR.out k (by omega)
        have hnm := name_length HRR.out _ (List.getElem_mem hk2)
        rw [hnl, line3] at hsu
        generalize D.names[k] = nm at *
        generalize showI ((k : Int) + 1) = t3 at *
        generalize hacc : namesT D k = acc at *
        have HSU := Lib.hid hsu
        have HSH := Lib.hid hsh
        have hk0 : (0 : Int) ≤ (k : Int) := by omega
        have hkm : (k : Int) < (V.mn : Int) := by omega
        have HF : Hid (∀ v, Later wr.drew v → Box v w.heap.size V.cells 28 ∧ v.cell? ⟨b4, o4 + k, none⟩ = some (sv nm) ∧ Below w.heap.size w v) := Lib.hid fun v hl =>
          ⟨hbx.drew.kept hl, (Below.cell hl (World.block_lt_of_cell? wr _ c4)).trans c4, hB.drew.trans (Below.mono hl hB.size)⟩
        obtain ⟨x0, x1, x2, x3⟩ := hbx.dfa
        clear hsh hnl hsu hbx hB c4 hacc
        have m1 : ¬ 9223372036854775807 < acc.length + 5 := by omega
        have m2 : ¬ 9223372036854775807 < acc.length + 5 + t3.length := by omega
        have m3 : ¬ 9223372036854775807 < acc.length + (t3.length + 1 + 1 + 1 + 1 + 1) + 1 := by omega
        have m4 : ¬ 9223372036854775807 < acc.length + (t3.length + 1 + 1 + 1 + 1 + 1 + 1) + nm.length := by omega
        have m5 : ¬ 9223372036854775807 < acc.length + (t3.length + (nm.length + 1) + 1 + 1 + 1 + 1 + 1) + 1 := by omega
        have hwr : IntKind.i64.wrap ((k : Int) + 1) = (k : Int) + 1 := IntWalk.i64_in _ (by omega)
        go_wp2_with fail
        clear x0 x1 x2 x3
        refine wp_region_M (R := Later) 16 (by kernel_rfl) ?_
        refine wpM_take (t := 16) (i := 0) (v := ?_) rfl (by kernel_rfl) (by kernel_rfl) (by kernel_rfl) (by kernel_rfl) (fun _ _ _ h => h) (by rfl) (fun w1 hl => ?_) ?_
        rotate_left
        · obtain ⟨hbx, c4, _⟩ := HF.out w1 hl; obtain ⟨x0, x1, x2, x3⟩ := hbx.dfa; rw [ha] at x3; go_simp; try with_reducible rfl
        simp only [List.getElem_toArray, List.getElem_cons_zero, Act.put, List.setIfInBounds_toArray, List.set_cons_zero, List.set_cons_succ]
        refine wpM_take (t := 16) (i := 1) (v := ?_) rfl (by kernel_rfl) (by kernel_rfl) (by kernel_rfl) (by kernel_rfl) (fun _ _ _ h => h) (by rfl) (fun w1 hl => ?_) ?_
        rotate_left
        · obtain ⟨hbx, c4, _⟩ := HF.out w1 hl; obtain ⟨x0, x1, x2, x3⟩ := hbx.dfa; rw [ha] at x3; go_simp; try with_reducible rfl
        simp only [List.getElem_toArray, List.getElem_cons_zero, List.getElem_cons_succ, Act.put, List.setIfInBounds_toArray, List.set_cons_zero, List.set_cons_succ]
        refine wpM_take (t := 16) (i := 2) (v := ?_) rfl (by kernel_rfl) (by kernel_rfl) (by kernel_rfl) (by kernel_rfl) (fun _ _ _ h => h) (by rfl) (fun w1 hl => ?_) ?_
        rotate_left
        · obtain ⟨hbx, c4, _⟩ := HF.out w1 hl; obtain ⟨x0, x1, x2, x3⟩ := hbx.dfa; rw [ha] at x3; go_simp; try with_reducible rfl
        simp only [List.getElem_toArray, List.getElem_cons_zero, List.getElem_cons_succ, Act.put, List.setIfInBounds_toArray, List.set_cons_zero, List.set_cons_succ]
        refine wpM_take (t := 16) (i := 3) (v := ?_) rfl (by kernel_rfl) (by kernel_rfl) (by kernel_rfl) (by kernel_rfl) (fun _ _ _ h => h) (by rfl) (fun w1 hl => ?_) ?_
        rotate_left
        · obtain ⟨hbx, c4, _⟩ := HF.out w1 hl; obtain ⟨x0, x1, x2, x3⟩ := hbx.dfa; rw [ha] at x3; go_simp; try with_reducible rfl
        simp only [List.getElem_toArray, List.getElem_cons_zero, List.getElem_cons_succ, Act.put, List.setIfInBounds_toArray, List.set_cons_zero, List.set_cons_succ]
        refine wpM_take (t := 16) (i := 7) (v := ?_) rfl (by kernel_rfl) (by kernel_rfl) (by kernel_rfl) (by kernel_rfl) (fun _ _ _ h => h) (by rfl) (fun w1 hl => ?_) ?_
        rotate_left
        · obtain ⟨hbx, c4, _⟩ := HF.out w1 hl; obtain ⟨x0, x1, x2, x3⟩ := hbx.dfa; rw [ha] at x3; go_simp; try with_reducible rfl
        simp only [List.getElem_toArray, List.getElem_cons_zero, List.getElem_cons_succ, Act.put, List.setIfInBounds_toArray, List.set_cons_zero, List.set_cons_succ]
        refine wpM_take (t := 16) (i := 8) (v := ?_) rfl (by kernel_rfl) (by kernel_rfl) (by kernel_rfl) (by kernel_rfl) (fun _ _ _ h => h) (by rfl) (fun w1 hl => ?_) ?_
        rotate_left
        · obtain ⟨hbx, c4, _⟩ := HF.out w1 hl; obtain ⟨x0, x1, x2, x3⟩ := hbx.dfa; rw [ha] at x3; go_simp; try with_reducible rfl
        simp only [List.getElem_toArray, List.getElem_cons_zero, List.getElem_cons_succ, Act.put, List.setIfInBounds_toArray, List.set_cons_zero, List.set_cons_succ]
        refine wpM_take (t := 16) (i := 9) (v := ?_) rfl (by kernel_rfl) (by kernel_rfl) (by kernel_rfl) (by kernel_rfl) (fun _ _ _ h => h) (by rfl) (fun w1 hl => ?_) ?_
        rotate_left
        · obtain ⟨hbx, c4, _⟩ := HF.out w1 hl; obtain ⟨x0, x1, x2, x3⟩ := hbx.dfa; rw [ha] at x3; go_simp; try with_reducible rfl
        simp only [List.getElem_toArray, List.getElem_cons_zero, List.getElem_cons_succ, Act.put, List.setIfInBounds_toArray, List.set_cons_zero, List.set_cons_succ]
        refine wpM_take (t := 16) (i := 10) (v := ?_) rfl (by kernel_rfl) (by kernel_rfl) (by kernel_rfl) (by kernel_rfl) (fun _ _ _ h => h) (by rfl) (fun w1 hl => ?_) ?_
        rotate_left
        · obtain ⟨hbx, c4, _⟩ := HF.out w1 hl; obtain ⟨x0, x1, x2, x3⟩ := hbx.dfa; rw [ha] at x3; go_simp; try with_reducible rfl
        simp only [List.getElem_toArray, List.getElem_cons_zero, List.getElem_cons_succ, Act.put, List.setIfInBounds_toArray, List.set_cons_zero, List.set_cons_succ]
        refine wpM_take (t := 16) (i := 11) (v := ?_) rfl (by kernel_rfl) (by kernel_rfl) (by kernel_rfl) (by kernel_rfl) (fun _ _ _ h => h) (by rfl) (fun w1 hl => ?_) ?_
        rotate_left
        · obtain ⟨hbx, c4, _⟩ := HF.out w1 hl; obtain ⟨x0, x1, x2, x3⟩ := hbx.dfa; rw [ha] at x3; go_simp; try with_reducible rfl
        simp only [List.getElem_toArray, List.getElem_cons_zero, List.getElem_cons_succ, Act.put, List.setIfInBounds_toArray, List.set_cons_zero, List.set_cons_succ]
        refine wpM_take (t := 16) (i := 13) (v := ?_) rfl (by kernel_rfl) (by kernel_rfl) (by kernel_rfl) (by kernel_rfl) (fun _ _ _ h => h) (by rfl) (fun w1 hl => ?_) ?_
        rotate_left
        · obtain ⟨hbx, c4, _⟩ := HF.out w1 hl; obtain ⟨x0, x1, x2, x3⟩ := hbx.dfa; rw [ha] at x3; go_simp; try with_reducible rfl
        simp only [List.getElem_toArray, List.getElem_cons_zero, List.getElem_cons_succ, Act.put, List.setIfInBounds_toArray, List.set_cons_zero, List.set_cons_succ]
        refine wpM_call (t := 16) (i := 4) (f := ?_) (args := ?_) (v := ?_) rfl (by kernel_rfl) (by kernel_rfl) (by kernel_rfl) (by kernel_rfl) (fun _ _ _ h => h) (by rfl) (fun w1 => ?_) (fun w1 hl => ?_) ?_
        rotate_left 4
        · exact HSH.out w1
        rotate_left
        · go_simp
        simp only [List.getElem_toArray, List.getElem_cons_zero, List.getElem_cons_succ, Act.put, List.setIfInBounds_toArray, List.set_cons_zero, List.set_cons_succ]
        refine wpM_take (t := 16) (i := 5) (v := ?_) rfl (by kernel_rfl) (by kernel_rfl) (by kernel_rfl) (by kernel_rfl) (fun _ _ _ h => h) (by rfl) (fun w1 hl => ?_) ?_
        rotate_left
        · obtain ⟨hbx, c4, _⟩ := HF.out w1 hl; obtain ⟨x0, x1, x2, x3⟩ := hbx.dfa; rw [ha] at x3; go_simp; try with_reducible rfl
        simp only [List.getElem_toArray, List.getElem_cons_zero, List.getElem_cons_succ, Act.put, List.setIfInBounds_toArray, List.set_cons_zero, List.set_cons_succ]
        refine wpM_take (t := 16) (i := 6) (v := ?_) rfl (by kernel_rfl) (by kernel_rfl) (by kernel_rfl) (by kernel_rfl) (fun _ _ _ h => h) (by rfl) (fun w1 hl => ?_) ?_
        rotate_left
        · obtain ⟨hbx, c4, _⟩ := HF.out w1 hl; obtain ⟨x0, x1, x2, x3⟩ := hbx.dfa; rw [ha] at x3; go_simp; try with_reducible rfl
        simp only [List.getElem_toArray, List.getElem_cons_zero, List.getElem_cons_succ, Act.put, List.setIfInBounds_toArray, List.set_cons_zero, List.set_cons_succ]
        refine wpM_take (t := 16) (i := 12) (v := ?_) rfl (by kernel_rfl) (by kernel_rfl) (by kernel_rfl) (by kernel_rfl) (fun _ _ _ h => h) (by rfl) (fun w1 hl => ?_) ?_
        rotate_left
        · obtain ⟨hbx, c4, _⟩ := HF.out w1 hl; obtain ⟨x0, x1, x2, x3⟩ := hbx.dfa; rw [ha] at x3; go_simp; try with_reducible rfl
        simp only [List.getElem_toArray, List.getElem_cons_zero, List.getElem_cons_succ, Act.put, List.setIfInBounds_toArray, List.set_cons_zero, List.set_cons_succ]
        refine wpM_take (t := 16) (i := 14) (v := ?_) rfl (by kernel_rfl) (by kernel_rfl) (by kernel_rfl) (by kernel_rfl) (fun _ _ _ h => h) (by rfl) (fun w1 hl => ?_) ?_
        rotate_left
        · obtain ⟨hbx, c4, _⟩ := HF.out w1 hl; obtain ⟨x0, x1, x2, x3⟩ := hbx.dfa; rw [ha] at x3; go_simp; try with_reducible rfl
        simp only [List.getElem_toArray, List.getElem_cons_zero, List.getElem_cons_succ, Act.put, List.setIfInBounds_toArray, List.set_cons_zero, List.set_cons_succ]
        refine wpM_take (t := 16) (i := 15) (v := ?_) rfl (by kernel_rfl) (by kernel_rfl) (by kernel_rfl) (by kernel_rfl) (fun _ _ _ h => h) (by rfl) (fun w1 hl => ?_) ?_
        rotate_left
        · obtain ⟨hbx, c4, _⟩ := HF.out w1 hl; obtain ⟨x0, x1, x2, x3⟩ := hbx.dfa; rw [ha] at x3; go_simp; try with_reducible rfl
        simp only [List.getElem_toArray, List.getElem_cons_zero, List.getElem_cons_succ, Act.put, List.setIfInBounds_toArray, List.set_cons_zero, List.set_cons_succ]
        refine wpM_done (by kernel_rfl) (fun w1 hl => ?_) _
        obtain ⟨hbx, _, hB⟩ := HF.out w1 hl
        clear hl m1 m2 m3 m4 m5
        go_wp2
        go_roundw
        case rel => exact ⟨k + 1, hlt, by go_num, by rw [HSU.out]; simp, hbx, hB⟩
        case measure => simp [intOf]; omega
      · obtain rfl : k = V.mn := by omega
        have hps := fun w => ref_Sets19 V.of hof w
        have hsd : (reps (Kern (keyN V.of)) 256).map (cls (Kern (keyN V.of)) 256) = setsD D := by rw [HH.out.1]; rfl
        simp only [hsd] at hps
        have hLl := setsD_length D
        have hns : namesT D V.mn = classesT D 0 := by rw [classesT, List.range_zero, List.flatMap_nil, List.append_nil, HMN.out]
        rw [hns]
        obtain ⟨m, hm⟩ : ∃ m, (setsD D).length = m := ⟨_, rfl⟩
        rw [hm] at hLl
        have HPS := Lib.hid hps
        have HM := Lib.hid hm
        obtain ⟨x0, x1, x2, x3⟩ := hbx.dfa
        clear hps hsd hm hns
        go_wp2_with (first | (refine wpList_load_of (by rfl) 23 _ rfl w.heap.size rfl hbx Tryz.underlying23 rfl (size_256 _) ?_) | (go_at_call 39; go_must (refine (HPS.out _).mono ?_; intro e w5 h5; obtain ⟨a5, cap5, rfl, o5, hB5⟩ := h5; rw [HM.out] at o5 ⊢)))
        have hbx5 := hbx.kept hB5
        have hB6 := hB.trans (hB5.mono hB.size)
        have o6 := o5.mono (base' := w.heap.size) hB.size
        clear hbx hB5 o5 HPS x0 x1 x2 x3
        go_loopw [5, 8] (fun v i wr => ∃ k : Nat, k ≤ m ∧ i = .int .i64 k ∧ v = sv (classesT D k) ∧ Box wr w.heap.size V.cells 28 ∧ Own wr w.heap.size 43 4 encS (.slice a5 m cap5) (setsD D) ∧ Below w.heap.size w wr) (fun _ i _ => m - (intOf i).toNat)
        case atStart => exact ⟨0, Nat.zero_le _, rfl, rfl, hbx5, o6, hB6⟩
        case round =>
          clear hbx5 o6 hB6 hB
          obtain ⟨k, hk2, rfl, rfl, hbx, ho, hB⟩ := hrel
          by_cases hlt2 : k < m
          · obtain ⟨g5, rfl, _, _⟩ := ho.addr (by omega)
            have hk3 : k < (setsD D).length := by rw [HM.out]; exact hlt2
            have hq := fun v (hl : Later wr.drew v) => ((ho.drew'.kept hl).cells4 hk3).1
            have hsh := fun w => ref01_Show (k : Int) w (by omega)
            have hcl : classLine D k = lineT [[99, 108, 97, 115, 115], showI (k : Int), showS (setsD D)[k]] := by
              rw [classLine, List.getD_eq_getElem?_getD, List.getElem?_eq_getElem hk3]; rfl
            have hsu := classesT_succ D k
            have hln := classesT_length HRR.out k (by omega)
            rw [hcl, line3] at hsu
            have hs3 := showI_length (k : Int) (by omega)
            have hs4 := showS_length (setsD D)[k]
            have hcs := fun w => ref04_Show (setsD D)[k] w
            generalize (setsD D)[k] = st at *
            generalize showI (k : Int) = t3 at *
            generalize showS st = nm at *
            generalize classesT D k = acc at *
            have HSU := Lib.hid hsu
            have HSH := Lib.hid hsh
            have HCS := Lib.hid hcs
            have HQ := Lib.hid hq
            have hk0 : (0 : Int) ≤ (k : Int) := by omega
            have hkm : (k : Int) < (m : Int) := by omega
            have HF : Hid (∀ v, Later wr.drew v → Box v w.heap.size V.cells 28 ∧ Own v w.heap.size 43 4 encS (.slice (some ⟨g5, 0, none⟩) m cap5) (setsD D) ∧ Below w.heap.size w v) := Lib.hid fun v hl =>
              ⟨hbx.drew.kept hl, ho.drew'.kept hl, hB.drew.trans (Below.mono hl hB.size)⟩
            clear hsh hcl hsu hcs hq hbx hB ho hk3
            have m1 : ¬ 9223372036854775807 < acc.length + 6 := by omega
            have m2 : ¬ 9223372036854775807 < acc.length + 6 + t3.length := by omega
            have m3 : ¬ 9223372036854775807 < acc.length + (t3.length + 1 + 1 + 1 + 1 + 1 + 1) + 1 := by omega
            have m4 : ¬ 9223372036854775807 < acc.length + (t3.length + 1 + 1 + 1 + 1 + 1 + 1 + 1) + nm.length := by omega
            have m5 : ¬ 9223372036854775807 < acc.length + (t3.length + (nm.length + 1) + 1 + 1 + 1 + 1 + 1 + 1) + 1 := by omega
            go_wp2_with fail
            refine wp_region_M (R := Later) 15 (by kernel_rfl) ?_
            refine wpM_take (t := 15) (i := 0) (v := ?_) rfl (by kernel_rfl) (by kernel_rfl) (by kernel_rfl) (by kernel_rfl) (fun _ _ _ h => h) (by rfl) (fun w1 hl => ?_) ?_
            rotate_left
            · obtain ⟨q0, q1, q2, q3⟩ := HQ.out w1 hl; go_simp; try with_reducible rfl
            simp only [List.getElem_toArray, List.getElem_cons_zero, Act.put, List.setIfInBounds_toArray, List.set_cons_zero, List.set_cons_succ]
            refine wpM_take (t := 15) (i := 1) (v := ?_) rfl (by kernel_rfl) (by kernel_rfl) (by kernel_rfl) (by kernel_rfl) (fun _ _ _ h => h) (by rfl) (fun w1 hl => ?_) ?_
            rotate_left
            · obtain ⟨q0, q1, q2, q3⟩ := HQ.out w1 hl; go_simp; try with_reducible rfl
            simp only [List.getElem_toArray, List.getElem_cons_zero, List.getElem_cons_succ, Act.put, List.setIfInBounds_toArray, List.set_cons_zero, List.set_cons_succ]
            refine wpM_take (t := 15) (i := 2) (v := ?_) rfl (by kernel_rfl) (by kernel_rfl) (by kernel_rfl) (by kernel_rfl) (fun _ _ _ h => h) (by rfl) (fun w1 hl => ?_) ?_
            rotate_left
            · obtain ⟨q0, q1, q2, q3⟩ := HQ.out w1 hl; go_simp; try with_reducible rfl
            simp only [List.getElem_toArray, List.getElem_cons_zero, List.getElem_cons_succ, Act.put, List.setIfInBounds_toArray, List.set_cons_zero, List.set_cons_succ]
            refine wpM_take (t := 15) (i := 6) (v := ?_) rfl (by kernel_rfl) (by kernel_rfl) (by kernel_rfl) (by kernel_rfl) (fun _ _ _ h => h) (by rfl) (fun w1 hl => ?_) ?_
            rotate_left
            · obtain ⟨q0, q1, q2, q3⟩ := HQ.out w1 hl; go_simp; try with_reducible rfl
            simp only [List.getElem_toArray, List.getElem_cons_zero, List.getElem_cons_succ, Act.put, List.setIfInBounds_toArray, List.set_cons_zero, List.set_cons_succ]
            refine wpM_take (t := 15) (i := 7) (v := ?_) rfl (by kernel_rfl) (by kernel_rfl) (by kernel_rfl) (by kernel_rfl) (fun _ _ _ h => h) (by rfl) (fun w1 hl => ?_) ?_
            rotate_left
            · obtain ⟨q0, q1, q2, q3⟩ := HQ.out w1 hl; go_simp; try with_reducible rfl
            simp only [List.getElem_toArray, List.getElem_cons_zero, List.getElem_cons_succ, Act.put, List.setIfInBounds_toArray, List.set_cons_zero, List.set_cons_succ]
            refine wpM_take (t := 15) (i := 8) (v := ?_) rfl (by kernel_rfl) (by kernel_rfl) (by kernel_rfl) (by kernel_rfl) (fun _ _ _ h => h) (by rfl) (fun w1 hl => ?_) ?_
            rotate_left
            · obtain ⟨q0, q1, q2, q3⟩ := HQ.out w1 hl; go_simp; try with_reducible rfl
            simp only [List.getElem_toArray, List.getElem_cons_zero, List.getElem_cons_succ, Act.put, List.setIfInBounds_toArray, List.set_cons_zero, List.set_cons_succ]
            refine wpM_take (t := 15) (i := 9) (v := ?_) rfl (by kernel_rfl) (by kernel_rfl) (by kernel_rfl) (by kernel_rfl) (fun _ _ _ h => h) (by rfl) (fun w1 hl => ?_) ?_
            rotate_left
            · obtain ⟨q0, q1, q2, q3⟩ := HQ.out w1 hl; go_simp; try with_reducible rfl
            simp only [List.getElem_toArray, List.getElem_cons_zero, List.getElem_cons_succ, Act.put, List.setIfInBounds_toArray, List.set_cons_zero, List.set_cons_succ]
            refine wpM_take (t := 15) (i := 12) (v := ?_) rfl (by kernel_rfl) (by kernel_rfl) (by kernel_rfl) (by kernel_rfl) (fun _ _ _ h => h) (by rfl) (fun w1 hl => ?_) ?_
            rotate_left
            · obtain ⟨q0, q1, q2, q3⟩ := HQ.out w1 hl; go_simp; try with_reducible rfl
            simp only [List.getElem_toArray, List.getElem_cons_zero, List.getElem_cons_succ, Act.put, List.setIfInBounds_toArray, List.set_cons_zero, List.set_cons_succ]
            refine wpM_call (t := 15) (i := 3) (f := ?_) (args := ?_) (v := ?_) rfl (by kernel_rfl) (by kernel_rfl) (by kernel_rfl) (by kernel_rfl) (fun _ _ _ h => h) (by rfl) (fun w1 => ?_) (fun w1 hl => ?_) ?_
            rotate_left 4
            · exact HSH.out w1
            rotate_left
            · go_simp
            simp only [List.getElem_toArray, List.getElem_cons_zero, List.getElem_cons_succ, Act.put, List.setIfInBounds_toArray, List.set_cons_zero, List.set_cons_succ]
            refine wpM_take (t := 15) (i := 4) (v := ?_) rfl (by kernel_rfl) (by kernel_rfl) (by kernel_rfl) (by kernel_rfl) (fun _ _ _ h => h) (by rfl) (fun w1 hl => ?_) ?_
            rotate_left
            · obtain ⟨q0, q1, q2, q3⟩ := HQ.out w1 hl; go_simp; try with_reducible rfl
            simp only [List.getElem_toArray, List.getElem_cons_zero, List.getElem_cons_succ, Act.put, List.setIfInBounds_toArray, List.set_cons_zero, List.set_cons_succ]
            refine wpM_take (t := 15) (i := 5) (v := ?_) rfl (by kernel_rfl) (by kernel_rfl) (by kernel_rfl) (by kernel_rfl) (fun _ _ _ h => h) (by rfl) (fun w1 hl => ?_) ?_
            rotate_left
            · obtain ⟨q0, q1, q2, q3⟩ := HQ.out w1 hl; go_simp; try with_reducible rfl
            simp only [List.getElem_toArray, List.getElem_cons_zero, List.getElem_cons_succ, Act.put, List.setIfInBounds_toArray, List.set_cons_zero, List.set_cons_succ]
            refine wpM_call (t := 15) (i := 10) (f := ?_) (args := ?_) (v := ?_) rfl (by kernel_rfl) (by kernel_rfl) (by kernel_rfl) (by kernel_rfl) (fun _ _ _ h => h) (by rfl) (fun w1 => ?_) (fun w1 hl => ?_) ?_
            rotate_left 4
            · exact HCS.out w1
            rotate_left
            · go_simp
            simp only [List.getElem_toArray, List.getElem_cons_zero, List.getElem_cons_succ, Act.put, List.setIfInBounds_toArray, List.set_cons_zero, List.set_cons_succ]
            refine wpM_take (t := 15) (i := 11) (v := ?_) rfl (by kernel_rfl) (by kernel_rfl) (by kernel_rfl) (by kernel_rfl) (fun _ _ _ h => h) (by rfl) (fun w1 hl => ?_) ?_
            rotate_left
            · obtain ⟨q0, q1, q2, q3⟩ := HQ.out w1 hl; go_simp; try with_reducible rfl
            simp only [List.getElem_toArray, List.getElem_cons_zero, List.getElem_cons_succ, Act.put, List.setIfInBounds_toArray, List.set_cons_zero, List.set_cons_succ]
            refine wpM_take (t := 15) (i := 13) (v := ?_) rfl (by kernel_rfl) (by kernel_rfl) (by kernel_rfl) (by kernel_rfl) (fun _ _ _ h => h) (by rfl) (fun w1 hl => ?_) ?_
            rotate_left
            · obtain ⟨q0, q1, q2, q3⟩ := HQ.out w1 hl; go_simp; try with_reducible rfl
            simp only [List.getElem_toArray, List.getElem_cons_zero, List.getElem_cons_succ, Act.put, List.setIfInBounds_toArray, List.set_cons_zero, List.set_cons_succ]
            refine wpM_take (t := 15) (i := 14) (v := ?_) rfl (by kernel_rfl) (by kernel_rfl) (by kernel_rfl) (by kernel_rfl) (fun _ _ _ h => h) (by rfl) (fun w1 hl => ?_) ?_
            rotate_left
            · obtain ⟨q0, q1, q2, q3⟩ := HQ.out w1 hl; go_simp; try with_reducible rfl
            simp only [List.getElem_toArray, List.getElem_cons_zero, List.getElem_cons_succ, Act.put, List.setIfInBounds_toArray, List.set_cons_zero, List.set_cons_succ]
            refine wpM_done (by kernel_rfl) (fun w1 hl => ?_) _
            obtain ⟨hbx, ho, hB⟩ := HF.out w1 hl
            clear hl m1 m2 m3 m4 m5
            go_wp2
            go_roundw
            case rel => exact ⟨k + 1, hlt2, by go_num, by rw [HSU.out]; simp, hbx, ho, hB⟩
            case measure => simp [intOf]; omega
          · obtain rfl : k = m := by omega
            have hns : classesT D k = statesT D 0 := by rw [statesT, List.range_zero, List.flatMap_nil, List.append_nil, HM.out]
            rw [hns]
            clear hns ho
            obtain ⟨x0, x1, x2, x3⟩ := hbx.dfa
            go_wp2
            go_loopw [5, 9] (fun v i wr => ∃ k : Nat, k ≤ V.ln ∧ i = .int .i64 k ∧ v = sv (statesT D k) ∧ Box wr w.heap.size V.cells 28 ∧ Below w.heap.size w wr) (fun _ i _ => V.ln - (intOf i).toNat)
            case atStart => exact ⟨0, Nat.zero_le _, rfl, rfl, hbx, hB⟩
            case round =>
              clear hbx hB x0 x1 x2 x3
              obtain ⟨q, hq3, rfl, rfl, hbx, hB⟩ := hrel
              obtain ⟨x0, x1, x2, x3⟩ := hbx.dfa
              by_cases hlt3 : q < V.ln
              · have hq4 : q < D.label.length := by rw [← HLN.out]; exact hlt3
                have hrw := fun w1 (hb : Below w.heap.size w w1) => ref36_Row V D (q : Int) w1 (HH.out.kept hb) hof HNL.out
                have hri : rowI D (q : Int) = rowT D q := by
                  unfold rowI; rw [if_pos ⟨HRR.out, by omega, by omega⟩, Int.toNat_natCast]
                rw [hri] at hrw
                have hsu : statesT D (q + 1) = statesT D q ++ (rowT D q ++ [10]) := by rw [statesT_succ, stateLine, line1]
                have hl3 := statesT_length HRR.out q (by omega)
                have hl4 := rowT_length HRR.out q hq4
                generalize rowT D q = t3 at *
                generalize statesT D q = acc at *
                have m1 : ¬ 9223372036854775807 < acc.length + t3.length := by omega
                have m2 : ¬ 9223372036854775807 < acc.length + t3.length + 1 := by omega
                have HRW := Lib.hid hrw
                have HSU := Lib.hid hsu
                clear hrw hri hsu
                go_wp2_with (first | (refine wpList_load_row_g (by rfl) 28 _ rfl w.heap.size rfl _ _ _ _ hbx Tryz.underlying28 rfl (size_dfa _) ?_) | (go_at_call 14; go_must (refine (HRW.out _ hB).mono ?_; rintro e w5 ⟨rfl, hb5⟩)))
                go_roundw
                case rel => exact ⟨q + 1, hlt3, by go_num, by rw [HSU.out, ← List.append_assoc], hbx.kept hb5, hB.trans (hb5.mono hB.size)⟩
                case measure => simp [intOf]; omega
              · obtain rfl : q = V.ln := by omega
                have hte : statesT D V.ln = textD D := by rw [HLN.out]; rfl
                have HTE := Lib.hid hte
                clear hte
                go_wp2
                go_ret2
                exact ⟨by rw [← HTE.out]; rfl, hB⟩
  · have hR2 := Bool.eq_false_iff.2 hR
    rw [hR2] at hRt
    rw [if_neg hR]
    have HRt := Lib.hid hRt
    clear hRt h hR hR2 hl hof
    go_enter Tryz.func12, Tryz.ntmps12
    go_wp2_with (first | (refine wpList_load_row rfl 28 (.tmp 1) rfl w.heap.size rfl _ _ _ _ hbx Tryz.underlying28 rfl (size_dfa _) ?_) | (go_at_call 9; go_must (refine (HRt.out _ hB0).mono ?_; rintro e w2 ⟨rfl, hB2⟩)))
    go_ret2
    exact ⟨rfl, hB0.trans (hB2.mono (by simp))⟩
end Go.Proofs.YtdhmekpgplajmaaGreatDoor
end
section
namespace Go.Proofs.YtdhmekpgplajmaaGreatDoor
open Go.RowKit
/-- The machine that is nothing. -/
def V0 : VDfa := ⟨fun _ => 0, 0, none, 0, 0, none, 0, 0, none, 0, 0⟩
def D0 : PDfa := ⟨fun _ => 0, 0, [], [], []⟩
theorem info_dfa0 : (Tryz.prog.info? 28).map (fun i => (i.zero, i.size)) = some (some (.agg V0.cells), 260) := by kernel_rfl
theorem zeroV_dfa (w : World) : (zeroValue 28).run Tryz.prog w = .ok (.agg V0.cells) w := (zero_of_info info_dfa0).1 w
theorem info_reader0 : (Tryz.prog.info? 45).map (fun i => (i.zero, i.size)) = some (some (.agg (rcells V0 0)), 264) := by kernel_rfl
theorem zeroV_reader (w : World) : (zeroValue 45).run Tryz.prog w = .ok (.agg (rcells V0 0)) w := (zero_of_info info_reader0).1 w
/-- The lines, one behind the other. -/
def foldP : PDfa × BSet → List (List UInt8) → Option (PDfa × BSet)
  | x, [] => some x
  | x, s :: l => match stepL x.1 x.2 s with
    | some y => foldP y l
    | none => none
theorem foldP_append (x : PDfa × BSet) (l m : List (List UInt8)) : foldP x (l ++ m) = (foldP x l).bind fun y => foldP y m := by
  induction l generalizing x with
  | nil => rfl
  | cons s l ih =>
    rw [List.cons_append, foldP, foldP]
    cases stepL x.1 x.2 s with
    | none => rfl
    | some y => exact ih y
def linesP (s : List UInt8) : List (List UInt8) := splitL 10 (s.take (s.length - 1))
/-- What the reader makes of a text: a machine, or nothing. -/
def readP (s : List UInt8) : Option PDfa :=
  if Lib.hasSuffix s [10] = true then
    (match foldP (D0, 0) (linesP s) with
     | some (D, _) => if rightD D = true ∧ textD D = s then some D else none
     | none => none)
  else none
set_option maxRecDepth 20000 in
theorem read_idle (b0 b1 : Nat) (w : World) : CallsDIn Fence.wide 0 Tryz.prog 16 #[.pointer (some ⟨b0, 0, none⟩), .pointer (some ⟨b1, 0, none⟩)] .returning w fun e u' w' => e = .returned (.tuple #[]) ∧ u' = .returning ∧ w' = w := by
  refine callsDIn_of_wpSIn Tryz.func16 rfl trivial fun c₀ cs hu => ?_
  apply wpSIn_seq
  apply wpSIn_region
  simp [wpOpsSIn, go_sem, recoverD, hu, Tryz.ntmps16, Exit.thenS]
  simp only [Array.replicate_succ, Array.replicate_zero, List.push_toArray, List.append_toArray, List.nil_append, List.cons_append, List.setIfInBounds_toArray, List.set_cons_zero, List.set_cons_succ]
  refine wpSIn_of_wpIn rfl (wpIn_wide.2 ?_)
  go_wp2
  obtain ⟨fn, tm, td, df, mo, ki, ro⟩ := c₀
  obtain rfl : mo = _ := hu
  exact ⟨rfl, .returning, rfl, .tuple #[], by simp [results, Tryz.f16, go_sem], rfl, rfl, rfl⟩
set_option maxRecDepth 20000 in
theorem read_catch (b0 b1 : Nat) (w : World) (c : Array Value) (h0 : Box w b0 c 28) (hc : c.size = 260) (h1 : Box w b1 #[.int .i64 0] 29) (hne : b1 ≠ b0) : CallsDIn Fence.wide 0 Tryz.prog 16 #[.pointer (some ⟨b0, 0, none⟩), .pointer (some ⟨b1, 0, none⟩)] (.panicking oddC) w fun e u' w' =>
    e = .returned (.tuple #[]) ∧ u' = .panicking [{ v := .iface 73 (.agg #[]), recovered := true }] ∧ w' = (w.setRow b0 V0.cells).setCell ⟨b1, 0, none⟩ (.int .i64 3) := by
  have hz := zeroV_dfa
  have h1' := h1.setRow_other V0.cells hne
  have c1 := h1'.cell 0
  have f1 := h1'.free 0
  refine callsDIn_of_wpSIn Tryz.func16 rfl trivial fun c₀ cs hu => ?_
  apply wpSIn_seq
  apply wpSIn_region
  unfold oddC at hu
  simp [wpOpsSIn, go_sem, recoverD, hu, Tryz.ntmps16, Exit.thenS]
  simp only [Array.replicate_succ, Array.replicate_zero, List.push_toArray, List.append_toArray, List.nil_append, List.cons_append, List.setIfInBounds_toArray, List.set_cons_zero, List.set_cons_succ]
  refine wpSIn_of_wpIn rfl (wpIn_wide.2 ?_)
  go_wp2_with (refine wpList_store_row rfl 28 (.tmp 0) (.tmp 6) rfl b0 _ rfl rfl _ _ h0 (size_dfa V0) (by rw [VDfa.size, hc]) V0.all ?_)
  exact ⟨rfl, _, rfl, .tuple #[], by simp [results, Tryz.f16, go_sem], rfl, rfl, rfl⟩
end Go.Proofs.YtdhmekpgplajmaaGreatDoor
end
section
namespace Go.Proofs.YtdhmekpgplajmaaGreatDoor
open Go.RowKit
theorem read_results {W : World} {b0 b1 : Nat} {V : VDfa} {k : Int} {tmps : Array Value} (h0 : Box W b0 V.cells 28) (h1 : Box W b1 #[.int .i64 k] 29) (t2 : tmps.getD 2 undef = .pointer (some ⟨b0, 0, none⟩)) (t3 : tmps.getD 3 undef = .pointer (some ⟨b1, 0, none⟩)) :
    (results Tryz.f6 tmps).run Tryz.prog W = .ok (.tuple #[.agg V.cells, .int .i64 k]) W := by
  have t2' : tmps[2]?.getD undef = .pointer (some ⟨b0, 0, none⟩) := by simpa using t2
  have t3' : tmps[3]?.getD undef = .pointer (some ⟨b1, 0, none⟩) := by simpa using t3
  have c1 := h1.cell 0
  have hl := run_loadVar_row (P := Tryz.prog) W b0 28 28 V.cells (0, 0) _ h0 Tryz.underlying28 rfl (size_dfa V)
  have h2 : (loadVar 29 ⟨b1, 0, none⟩).run Tryz.prog W = .ok (.int .i64 k) W := by
    go_simp
  simp [results, Tryz.f6, t2', t3', asAddr, hl, h2]
def closR (b0 b1 : Nat) : Deferred := { target := .fn (.func 16) #[.pointer (some ⟨b0, 0, none⟩), .pointer (some ⟨b1, 0, none⟩)], args := #[] }
theorem leaves_panic {W : World} {b0 b1 : Nat} {V : VDfa} {R : Ending → World → Prop} {tmps : Array Value} (h0 : Box W b0 V.cells 28) (h1 : Box W b1 #[.int .i64 0] 29) (hne : b1 ≠ b0) (t2 : tmps.getD 2 undef = .pointer (some ⟨b0, 0, none⟩)) (t3 : tmps.getD 3 undef = .pointer (some ⟨b1, 0, none⟩))
    (hR : R (.returned (.tuple #[.agg V0.cells, .int .i64 3])) ((W.setRow b0 V0.cells).setCell ⟨b1, 0, none⟩ (.int .i64 3))) : LeavesInM Fence.wide 0 Tryz.prog Tryz.f6 tmps R [closR b0 b1] (.panicking oddC) W := by
  refine ⟨by simp [oddC], .inr ⟨(fun h => by cases h), _, _, _, _, rfl, enters_of Tryz.func16 (by kernel_rfl) rfl _ _, fun _ _ => trivial, ?_⟩⟩
  obtain ⟨_, hc⟩ := read_catch b0 b1 W V.cells h0 V.size h1 hne
  refine ⟨trivial, fun c cs hu hroom => ?_⟩
  obtain ⟨e, u', w', fr, ⟨rfl, rfl, rfl⟩, hs⟩ := hc c cs hu hroom
  refine ⟨_, _, _, fr, ?_, hs⟩
  have hx0 : Box ((W.setRow b0 V0.cells).setCell ⟨b1, 0, none⟩ (.int .i64 3)) b0 V0.cells 28 := (h0.setRow V0.cells).other _ _ (Ne.symm hne)
  have hx1 : Box ((W.setRow b0 V0.cells).setCell ⟨b1, 0, none⟩ (.int .i64 3)) b1 #[.int .i64 3] 29 := (h1.setRow_other V0.cells hne).set 0 _
  exact ⟨_, read_results hx0 hx1 t2 t3, hR⟩
theorem leaves_return {W : World} {b0 b1 : Nat} {V : VDfa} {R : Ending → World → Prop} {tmps : Array Value} (h0 : Box W b0 V.cells 28) (h1 : Box W b1 #[.int .i64 0] 29) (t2 : tmps.getD 2 undef = .pointer (some ⟨b0, 0, none⟩)) (t3 : tmps.getD 3 undef = .pointer (some ⟨b1, 0, none⟩))
    (hR : R (.returned (.tuple #[.agg V.cells, .int .i64 0])) W) : LeavesInM Fence.wide 0 Tryz.prog Tryz.f6 tmps R [closR b0 b1] .returning W := by
  refine ⟨by simp, .inr ⟨(fun h => by cases h), _, _, _, _, rfl, enters_of Tryz.func16 (by kernel_rfl) rfl _ _, fun _ _ => trivial, ?_⟩⟩
  obtain ⟨_, hc⟩ := read_idle b0 b1 W
  refine ⟨trivial, fun c cs hu hroom => ?_⟩
  obtain ⟨e, u', w', fr, ⟨rfl, rfl, rfl⟩, hs⟩ := hc c cs hu hroom
  refine ⟨_, _, _, fr, ?_, hs⟩
  exact ⟨_, read_results h0 h1 t2 t3, hR⟩
end Go.Proofs.YtdhmekpgplajmaaGreatDoor
end
