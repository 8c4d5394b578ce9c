/- The document's complement, its bytes and its pieces of a set. -/
import Derived.Test.YtinlfbacfmmfpaaDoorRefTwo
namespace Go.Proofs.YtinlfbacfmmfpaaDoor
open Go.RowKit

theorem Box.rangeS {w : World} {b E : Nat} {s : BSet} (h : Box w b (setC s) E) : w.rangeAt b 0 (encS s) := fun j v hv => by
  rw [Nat.zero_add, h.cell]; simpa using hv
theorem all_set : (ofP fun b => decide (0 ≤ b) && decide (b ≤ 255)) = ~~~(0 : BSet) := (eq_ofP _ _ fun b hb => by rw [mem_not _ _ hb, mem_zero]; simp; omega).symm
theorem all_less (s : BSet) : twoS 2 (~~~(0 : BSet)) s = ~~~s := by
  rw [twoS_less]; exact set_ext fun b hb => by rw [mem_and, mem_not _ _ hb, mem_not _ _ hb, mem_zero]; rfl
theorem setC_all (s : BSet) : (setC s).all (·.oneCell') = true := by simp [setC, Value.oneCell']
def NotS (s : BSet) (w w' : World) : Prop := Box w' w.heap.size (setC s) 34 ∧ (∃ u, Box w' (w.heap.size + 1) (setC u) 34) ∧ Below w.heap.size w w'
theorem NotS.kept {s : BSet} {w wi w1 : World} (h : NotS s w wi) (hb : Below wi.heap.size wi w1) : NotS s w w1 := by
  obtain ⟨k0, ⟨u, k1⟩, k3⟩ := h
  exact ⟨k0.kept hb, ⟨u, k1.kept hb⟩, k3.trans (hb.mono k3.size)⟩
set_option maxRecDepth 20000 in
set_option maxHeartbeats 800000 in
theorem ref_Not (s : BSet) (w : World) : Calls Tryd.prog 39 #[setV s] w (Ret w (setV (~~~s))) := by
  have h1 := fun w => ref_Span 0 255 w (by decide)
  rw [all_set] at h1
  have h2 := fun w => ref_Two2 (~~~(0 : BSet)) s w
  rw [all_less] at h2
  generalize ~~~(0 : BSet) = z at *
  generalize ~~~s = t at *
  have H1 := Lib.hid h1
  have H2 := Lib.hid h2
  clear h1 h2
  go_enter Tryd.func39, Tryd.ntmps39
  go_wp2
  have hb0 := (Box.new w (setC s) 34).alloc (.cells #[.int .u64 0, .int .u64 0, .int .u64 0, .int .u64 0] 34)
  have hb1 := Box.new' (w := w.alloc (.cells (setC s) 34)) (World.size_alloc _ _).symm (setC 0) 34
  rw [setC_zero] at hb1
  have hB : Below w.heap.size w ((w.alloc (.cells (setC s) 34)).alloc (.cells #[.int .u64 0, .int .u64 0, .int .u64 0, .int .u64 0] 34)) := by go_grown
  generalize (w.alloc (.cells (setC s) 34)).alloc (.cells #[.int .u64 0, .int .u64 0, .int .u64 0, .int .u64 0] 34) = W at *
  have hu := Tryd.underlying34
  have hi : (Tryd.prog.info? 34).map (·.size) = some 4 := by kernel_rfl
  have hS0 : NotS s w W.drew := ⟨hb0.drew, ⟨0, by rw [setC_zero]; exact hb1.drew⟩, hB.drew⟩
  clear hb0 hb1 hB
  refine wp_region_held_drew (S := NotS s w) (by kernel_rfl) hS0 (fun hH => ?_)
  refine wpAnyH_take (i := 1) (v := .agg (encS s).toArray) rfl (by kernel_rfl) (by kernel_rfl) (by kernel_rfl) (fun _ _ _ h => h) (yieldsIf_load_mid (by rfl) _ _ rfl _ _ rfl _ _ (fun w' hS' => hS'.1.rangeS) hu rfl hi) hH ?_
  simp only [List.getElem_toArray, Act.put, List.setIfInBounds_toArray]
  refine wpAnyH_ready (rs := [0]) (by kernel_rfl) (by simp) (AllReadyH.cons rfl (fun K hK => ?_) AllReadyH.nil)
  go_simp
  refine (H1.out _).mono ?_
  rintro e w1 ⟨rfl, hb⟩
  refine hK.out _ _ (hH.kept hb) (fun hH1 => ?_)
  clear hK K
  refine wpAnyH_ready (rs := [2]) (by kernel_rfl) (by simp) (AllReadyH.cons rfl (fun K hK => ?_) AllReadyH.nil)
  go_simp
  refine (H2.out _).mono ?_
  rintro e w2 ⟨rfl, hb2⟩
  refine hK.out _ _ (hH1.kept hb2) (fun hH2 => ?_)
  clear hK K
  obtain ⟨u, hx⟩ := hH2.2.1
  refine wpAnyH_ready (rs := [3]) (by kernel_rfl) (by simp) (AllReadyH.cons rfl (fun K hK => ?_) AllReadyH.nil)
  rw [if_pos (by rfl)]
  refine wp_store_row 34 _ _ rfl (w.heap.size + 1) (setC t) rfl rfl _ _ hx (by kernel_rfl) rfl (setC_all _) ?_
  have hy := hx.setRow (setC t)
  have hB2 := below_setRow (g := w.heap.size + 1) hH2.2.2 (by omega) (setC t)
  refine hK.out _ _ ⟨hH2.1.setRow_other _ (by omega), ⟨t, hy⟩, hB2⟩ (fun hH3 => ?_)
  clear hK K
  refine wpAnyH_done (by kernel_rfl) ?_ _
  go_wp2
  exact ret_box Tryd.results39 rfl hy Tryd.underlying34 rfl (by kernel_rfl) rfl ⟨rfl, hB2⟩
/-- The bytes of a set below a bound. -/
def elemsU (s : BSet) (j : Nat) : List Nat := (List.range j).filter (mem s)
theorem elemsU_succ (s : BSet) (j : Nat) : elemsU s (j + 1) = if mem s j then elemsU s j ++ [j] else elemsU s j := by
  unfold elemsU
  rw [List.range_succ, List.filter_append]
  cases h : mem s j <;> simp [h]
theorem elemsU_length (s : BSet) (j : Nat) : (elemsU s j).length ≤ j := by
  have := List.length_filter_le (mem s) (List.range j)
  simpa [elemsU] using this
theorem elemsU_end (s : BSet) : elemsU s 256 = elems s := rfl
set_option maxRecDepth 20000 in
set_option maxHeartbeats 800000 in
theorem ref_Bytes (s : BSet) (w : World) : Calls Tryd.prog 28 #[setV s] w (RetOwn w 5 1 encB (elems s)) := by
  go_enter Tryd.func28, Tryd.ntmps28
  go_wp2
  go_loopw [3, 4] (fun v i wr => ∃ (j : Nat) (a : Option Addr) (cap : Nat), j ≤ 256 ∧ i = .int .i64 j ∧ v = .slice a (elemsU s j).length cap ∧ Box wr w.heap.size (setC s) 34 ∧ Own wr (w.heap.size + 1) 5 1 encB (.slice a (elemsU s j).length cap) (elemsU s j) ∧ Below w.heap.size w wr) (fun _ i _ => 256 - (intOf i).toNat)
  case atStart =>
    refine ⟨0, some ⟨w.heap.size + 1, 0, none⟩, 0, Nat.zero_le _, rfl, rfl, (Box.new' rfl _ _).alloc _, ?_, by go_grown⟩
    have := Own.empty (α := Nat) (w.alloc (.cells (setC s) 34)) (w.heap.size + 1) 5 1 encB (by simp)
    rw [World.size_alloc] at this; exact this
  case round =>
    obtain ⟨j, a, cap, hj, rfl, rfl, hb, hown, hB⟩ := hrel
    by_cases hlt : j < 256
    · obtain ⟨⟨p0, p1, p2, p3⟩, _⟩ := hb.set4
      have HA := Lib.hid (fun w => ref_Has s j w hlt)
      have HE := Lib.hid (elemsU_succ s j)
      have hl := elemsU_length s j
      have hdj : decide ((j : Int) < 256) = true := decide_eq_true (by omega)
      generalize mem s j = x at *
      generalize elemsU s j = L at *
      go_wp2_with fail
      refine (HA.out _).mono ?_
      rintro e w1 ⟨rfl, hb1⟩
      have hB1 := hB.trans (hb1.mono hB.size)
      have hbx := hb.kept hb1
      have hown1 := hown.kept hb1
      have hsz := hbx.lt
      clear HA
      cases x with
      | false =>
        go_wp2
        go_roundw
        case rel => exact ⟨j + 1, a, cap, hlt, by go_num, by rw [HE.out]; rfl, hbx, by rw [HE.out]; exact hown1, hB1⟩
        case measure => simp [intOf]; omega
      | true =>
        go_wp2_with (at_builtin; go_must (refine wpList_append1 rfl _ _ 29 rfl elem_u8 encB_ok rfl (hown1.alloc _) ⟨w1.heap.size, 0, none⟩ 1 j rfl ?_ ?_ ?_ ?_ ?_))
        · exact new_cells w1 [.int .u8 (j : Nat)] _
        · simp [maxLen]; omega
        · simp; omega
        · simp; omega
        intro a2 cap2 w6 hown6 hgr6
        have hB5 := below_grown (hB1.alloc hB1.size _) (hown1.alloc _) hgr6 (by omega) (by have := hB1.size; simp; omega)
        have hy0 := (hbx.alloc (.cells #[.int .u8 (j : Nat)] 5)).grownT (hown1.alloc _) hgr6 (by decide)
        go_wp2
        go_roundw
        case rel => exact ⟨j + 1, a2, cap2, hlt, by go_num, by rw [HE.out]; simp, hy0, by rw [HE.out, if_pos trivial, List.length_append]; exact hown6, hB5⟩
        case measure => simp [intOf]; omega
    · obtain rfl : j = 256 := by omega
      rw [elemsU_end] at hown ⊢
      go_wp2
      go_ret
      exact ⟨a, cap, rfl, hown.mono (by omega), hB⟩
end Go.Proofs.YtinlfbacfmmfpaaDoor
