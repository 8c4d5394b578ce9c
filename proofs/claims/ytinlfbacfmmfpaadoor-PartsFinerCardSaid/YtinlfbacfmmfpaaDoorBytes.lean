/- The list of a set's bytes. -/
import Derived.Test.YtinlfbacfmmfpaaDoorEach
import Derived.Test.YtinlfbacfmmfpaaDoorOwnIn
import Derived.Test.YtinlfbacfmmfpaaDoorSetEq
namespace Go.Proofs.YtinlfbacfmmfpaaDoor
open Go.RowKit Go.Shelf
attribute [local go_sem] Oper.semAt_some

theorem elems_zero : elems 0 = [] := by
  unfold elems
  exact List.filter_eq_nil_iff.2 fun x _ => by rw [mem_zero]; simp
theorem elem_u8 : ElemOK Tryd.prog 29 5 (.int .u8 0) 1 1 := ⟨Tryd.underlying29, info_parts (by kernel_rfl), rfl, by decide⟩
def BytesI (b B0 : Nat) (w : World) (pre : List Nat) (W : World) : Prop := (∃ (a : Option Addr) (cap : Nat), Box W (b + 1) #[.slice a pre.length cap] 29 ∧ Own W B0 5 1 encB (.slice a pre.length cap) pre) ∧ B0 ≤ W.heap.size ∧ Below b w W
set_option maxRecDepth 100000 in
set_option maxHeartbeats 2000000 in
theorem sets_Bytes (s : BSet) (w : World) (hT : Tab w) : Calls Tryd.prog 25 #[.agg (setC s)] w (RetOwn w 5 1 encB (elems s)) := by
  have hq := run_eqS (P := Tryd.prog) (t := 34) (e := 32) Tryd.underlying34 Tryd.underlying32 (by kernel_rfl) s 0
  unfold setV at hq
  rw [setC_zero] at hq
  by_cases h0 : s = 0
  · rw [decide_eq_true h0] at hq
    have e : elems s = [] := by rw [h0]; exact elems_zero
    rw [e]
    clear h0 e
    go_enter Tryd.func25, Tryd.ntmps25
    go_wp2
    go_ret
    exact ⟨none, 0, rfl, Own.nil _ _ _ _ _, by go_grown⟩
  · rw [decide_eq_false h0] at hq
    clear h0
    have hlen := elems_length s
    have hN := each_at s
    refine (callsIn_wide (n := 6)).1 ?_
    refine callsIn_of_wp_marks Tryd.func25 rfl trivial ?_ rfl
    simp only [Tryd.ntmps25, List.size_toArray, List.length_cons, List.length_nil, Nat.reduceAdd, Nat.reduceSub, Array.replicate_succ, Array.replicate_zero, List.push_toArray, List.append_toArray, List.nil_append, List.cons_append]
    gi_wp2_with (refine ⟨trivial, ?_⟩; gi_at_call 46; refine (callsIn_wide.2 (hN _)).mono ?_; rintro e w' ⟨rfl, rfl⟩)
    obtain ⟨W0, hW0⟩ : ∃ W0, (((w.alloc (.cells (setC s) 34)).alloc (.cells #[.slice none 0 0] 29)).alloc (.cells (setC s) 34)) = W0 := ⟨_, rfl⟩
    have hB0 : Below w.heap.size w W0 := by rw [← hW0]; go_grown
    have hsz0 : W0.heap.size = w.heap.size + 1 + 1 + 1 := by rw [← hW0]; simp
    have hbt : Box W0 (w.heap.size + 1 + 1) (setC s) 34 := by rw [← hW0]; exact Box.new' (by simp) _ _
    have hn0 : Box W0 (w.heap.size + 1) #[.slice none 0 0] 29 := by rw [← hW0]; exact (Box.new' (by simp) _ _).alloc _
    rw [hW0]
    clear hW0 hq
    have hpos := hT.pos
    have hst := each_stops 5 (w.heap.size + 1 + 1) (fun b => b = w.heap.size + 1 ∨ W0.heap.size ≤ b) s W0 (by omega) (hT.kept hB0) hbt
    refine wpIn_rangeFunc_ownF rfl (by decide) (gf := 52) (lb := #[.pointer (some ⟨w.heap.size + 1 + 1, 0, none⟩)]) rfl trivial (enters_of Tryd.func52 (by kernel_rfl) rfl)
      hst (fun h k => h.trans k) keepC_b (Below.refl _ _) (fun _ => rfl)
      (BytesI w.heap.size W0.heap.size w) (fun _ _ _ => False)
      (OwnFrom.and (fun pre W W' row ⟨a, cap, h1, h2⟩ hg hr => ⟨a, cap, ownFrom_box _ _ _ (fun _ : Unit => #[.slice a pre.length cap]) () W W' row h1 hg hr, ownFrom_own _ _ _ _ _ (fun _ : Unit => .slice a pre.length cap) (fun _ => pre) () W W' row h2 hg hr⟩)
        (OwnFrom.and (fun _ _ _ _ h hg _ => Nat.le_trans h hg.size) (ownFrom_below (Nat.le_refl _) (by omega))))
      (fun _ => ownFrom_false _) ⟨⟨none, 0, hn0, Own.nil _ _ _ _ _⟩, Nat.le_refl _, hB0⟩
      (fun x => { tmps := #[.agg (setC s), .pointer (some ⟨w.heap.size, 0, none⟩), .slice none 0 0, .pointer (some ⟨w.heap.size + 1, 0, none⟩), .int .u8 (x : Nat), .agg (setC s), .agg #[.int .u64 0, .int .u64 0, .int .u64 0, .int .u64 0], .bool false, .agg (setC s), .func (.func 52) #[] #[.pointer (some ⟨w.heap.size + 1 + 1, 0, none⟩)], .int .u8 (x : Nat), undef, undef, undef, undef, undef], defers := [] }) ?assign ?body ?done ?stop
    case assign =>
      intro l x W K hK
      dsimp only [enc8]
      go_simp
      gi_wp2
      exact hK
    case body =>
      rintro l pre x W ⟨⟨a, cap, hb, hown⟩, hWs, hB⟩ hlt
      have c0 := hb.cell 0
      have f0 := hb.free 0
      have hle : pre.length + 1 ≤ 256 := by omega
      gi_wp2_with (gi_at_builtin; go_must (refine wpListIn_append1 rfl _ _ 29 rfl elem_u8 encB_ok rfl (hown.alloc _) ⟨W.heap.size, 0, none⟩ 1 x rfl (new_cells W [.int .u8 (x : Nat)] _) (by simp [maxLen]; omega) (by omega) (by simp; omega) ?_; intro a' cap' W' hown' hg; change (W.alloc _).grownBy W' (Value.slice a pre.length cap).ownBlock at hg; have hbs := (hb.alloc _).grown (hown.alloc _) hg (by omega); have hfs := hbs.free 0; have hcs := hbs.cell 0))
      have hlen' : (pre ++ [x]).length = pre.length + 1 := by simp
      refine ⟨((KeepsOthers.alloc _ _).trans (KeepsOthers.grownOwn (hown.alloc _) hg)).trans (KeepsOthers.setCell _ _ _), ((KeepC.below ((Below.refl _ W).alloc (Nat.le_refl _) _)).trans (KeepC.grown (hown.alloc _) hg (fun b hb => .inr hb))).trans (KeepC.set _ _ _ (.inl rfl)), ⟨a', cap', ?_, ?_⟩, ?_, ?_⟩
      · rw [hlen']; exact hbs.set 0 _
      · rw [hlen']; exact hown'.other _ _ (by simp; omega)
      · have := hg.size; simp at this ⊢; omega
      · exact (below_grown (hB.alloc hB.size _) (hown.alloc _) hg (by omega) (by simp; omega)).setCell (by simp) _
    case done =>
      rintro D ys W hD rfl ⟨⟨a, cap, hb, hown⟩, hWs, hB⟩ hK
      have c0 := hb.cell 0
      gi_wp2
      refine ⟨by simp, .inl ⟨_, _, rfl, run_takeDeferred hK, ?_⟩⟩
      refine ⟨_, results_tmp rfl _ _ _, a, cap, rfl, ?_, hB.trans (belowK_b (w := w) (Nat.le_refl _) W D _ _ (by omega) hK rfl rfl)⟩
      exact (ownFrom_own W0.heap.size W0.heap.size 5 1 encB (fun _ : Unit => .slice a (elems s).length cap) (fun _ => elems s) () _ _ (some D) hown (grownBy_putObj' _ D (.deferred none)) (fun r e => by cases e; exact ⟨by omega, _, hK, rfl⟩)).mono (by omega)
    case stop =>
      rintro D c pre W _ _ h _
      exact h.elim
end Go.Proofs.YtinlfbacfmmfpaaDoor
