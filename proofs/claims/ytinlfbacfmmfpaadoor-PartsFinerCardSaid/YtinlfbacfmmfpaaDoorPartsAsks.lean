/- The law PartsAsks returns true for all classes and every number, and leaves them as they were. No condition. -/
import Derived.Test.YtinlfbacfmmfpaaDoorRefLeasts
import Derived.Test.YtinlfbacfmmfpaaDoorKnows19
import Derived.Test.YtinlfbacfmmfpaaDoorConvB
import Derived.Test.YtinlfbacfmmfpaaDoorCard
namespace Go.Proofs.YtinlfbacfmmfpaaDoor
open Go.ChangeShapes Go.WideShapes Go.ChangeAt Go.RowKit
theorem same_self (f : Nat → Nat) : sameArr f f = true := (sameArr_iff f f).2 fun _ _ => rfl
/-- What lies while the law runs. -/
def AskS (f G : Nat → Nat) (b p q : Nat) (w w' : World) : Prop := Box w' b (arr8 f) 22 ∧ Box w' p (arr8 G) 22 ∧ Box w' q (arr8 G) 22 ∧ Below w.heap.size w w' ∧ Tab w'
theorem AskS.kept {f G : Nat → Nat} {b p q : Nat} {w w1 w2 : World} (h : AskS f G b p q w w1) (hb : Below w1.heap.size w1 w2) : AskS f G b p q w w2 :=
  ⟨h.1.kept hb, h.2.1.kept hb, h.2.2.1.kept hb, h.2.2.2.1.trans (hb.mono h.2.2.2.1.size), h.2.2.2.2.kept hb⟩
set_option maxRecDepth 20000 in
set_option maxHeartbeats 3200000 in
theorem law_PartsAsks (f : Nat → Nat) (hf : ∀ b, f b < 256) (n : Int) (w : World) (hT : Tab w) :
    Calls Tryd.prog 3 #[.agg (arr8 f), .int .i64 n] w (Ret w (.bool true)) := by
  have hz := zeroV_256
  have hN1 := fun w => parts_Norm f w
  have hN2 := fun w => ref_Norm19 f hf w
  have hR1 := fun w => parts_Right f n w
  have hR2 := fun w => ref_Right19 f hf n w
  have hS1 := fun w => parts_Sets f w
  have hS2 : ∀ wx, Calls Tryd.prog 15 #[.agg (arr8 f)] wx (RetOwn wx 34 4 encS (setsTo (Kern (keyN f)) 256)) := fun wx => ref_Sets19 f hf wx
  have hM1 := fun w hT => parts_Leasts f w hT
  have hM2 := fun w => ref_Leasts19 f hf w
  have hlen := setsTo_length (Kern (keyN f)) 256
  have hR3 := fun w => parts_Right (numR (Kern (keyN f))) (widR (Kern (keyN f)) : Nat) w
  obtain ⟨e1, e2⟩ := norm_num (kern_equi (keyN f))
  rw [e1, e2] at hR3
  have hq := run_eq256 (P := Tryd.prog) (t := 22) (e := 5) Tryd.underlying22 Tryd.underlying5 (by kernel_rfl) (numR (Kern (keyN f))) (numR (Kern (keyN f)))
  rw [same_self] at hq
  clear e1 e2
  generalize (sameArr (numR (Kern (keyN f))) f && (((widR (Kern (keyN f)) : Nat) : Int) == n)) = bb at *
  generalize setsTo (Kern (keyN f)) 256 = L at *
  generalize reps (Kern (keyN f)) 256 = xs at *
  generalize numR (Kern (keyN f)) = G at *
  generalize widR (Kern (keyN f)) = m at *
  simp only [beq_self_eq_true, Bool.and_self] at hR3
  obtain ⟨mx, hmx⟩ : ∃ mx, xs.length = mx := ⟨_, rfl⟩
  have hcv := fun (w : World) (a : Option Addr) (cap : Nat) (h : SliceR w (.slice a mx cap) 1 encB xs) => conv_strB (P := Tryd.prog) (src := 29) (dst := 9) Tryd.underlying29 Tryd.underlying5 Tryd.underlying9 hmx.symm h
  generalize strB xs = str at *
  have HN1 := Lib.hid hN1
  have HN2 := Lib.hid hN2
  have HR1 := Lib.hid hR1
  have HR2 := Lib.hid hR2
  have HS1 := Lib.hid hS1
  have HS2 := Lib.hid hS2
  have HM1 := Lib.hid hM1
  have HM2 := Lib.hid hM2
  have HR3 := Lib.hid hR3
  have HQ := Lib.hid hq
  have HL := Lib.hid hlen
  have HX := Lib.hid hmx
  have HCV := Lib.hid hcv
  have HT := Lib.hid hT
  clear hN1 hN2 hR1 hR2 hS1 hS2 hM1 hM2 hR3 hq hlen hmx hcv hT hf
  go_enter Tryd.func3, Tryd.ntmps3
  go_wp2_with (first | (refine wpList_load_row rfl 22 (.tmp 2) rfl _ rfl _ _ _ _ (Box.new _ _ _) Tryd.underlying22 rfl (size_256 _) ?_) | (refine wpList_store_new rfl 22 (.tmp 5) (.tmp 12) rfl _ _ rfl rfl rfl (size_256 _) (arr8_sizes _ _) (arr8_all _) ?_) | (refine wpList_store_new rfl 22 (.tmp 7) (.tmp 17) rfl _ _ rfl rfl rfl (size_256 _) (arr8_sizes _ _) (arr8_all _) ?_) | (go_at_call 9; go_must (refine (HN1.out _).mono ?_; rintro e w1 ⟨rfl, hB1⟩; have hx0 := (Box.new w (arr8 f) 22).kept hB1)) | (refine wpList_load_row rfl 22 (.tmp 2) rfl _ rfl _ _ _ _ (hx0.alloc _) Tryd.underlying22 rfl (size_256 _) ?_) | (go_at_call 10; go_must (refine (HN2.out _).mono ?_; rintro e w2 ⟨rfl, hB2⟩)))
  have hs1 : w.heap.size ≤ w1.heap.size := by have := hB1.size; simp at this; omega
  have hs2 : w1.heap.size + 1 ≤ w2.heap.size := by have := hB2.size; simp at this; omega
  have hJ : AskS f G w.heap.size w1.heap.size w2.heap.size w (w2.alloc (.cells (arr8 G) 22)) := by
    have h3 : Below w.heap.size w w2 := ((((Below.refl w.heap.size w).alloc (Nat.le_refl _) _).trans (hB1.mono (by simp))).alloc hs1 _).trans (hB2.mono (by simp; omega))
    have h4 := h3.alloc h3.size (.cells (arr8 G) 22)
    exact ⟨(((hx0.alloc _).kept hB2).alloc _), ((Box.new w1 _ _).kept hB2).alloc _, Box.new w2 _ _, h4, HT.out.kept h4⟩
  generalize w2.alloc (.cells (arr8 G) 22) = W at *
  generalize w2.heap.size = q at *
  generalize w1.heap.size = p at *
  clear hx0 hB1 hB2
  have HF : Hid (∀ w1, Later W.drew w1 → AskS f G w.heap.size p q w w1) := Lib.hid fun w1 hl => (hJ.kept (Below.refl _ _).drew).kept hl
  clear hJ
  refine wp_region_M 42 (by kernel_rfl) ?_
  refine wpM_take (t := 42) (i := 0) rfl (by kernel_rfl) (by kernel_rfl) (by kernel_rfl) (by kernel_rfl) (fun _ _ _ h => h) (by rfl) (fun w1 hl => run_load_box 22 _ rfl _ rfl ((HF.out w1 hl).2.1) Tryd.underlying22 rfl (size_256 _)) ?_
  simp only [List.getElem_toArray, List.getElem_cons_zero, Act.put, List.setIfInBounds_toArray, List.set_cons_zero, List.set_cons_succ]
  refine wpM_take (t := 42) (i := 1) rfl (by kernel_rfl) (by kernel_rfl) (by kernel_rfl) (by kernel_rfl) (fun _ _ _ h => h) (by rfl) (fun w1 hl => run_load_box 22 _ rfl _ rfl ((HF.out w1 hl).2.2.1) Tryd.underlying22 rfl (size_256 _)) ?_
  simp only [List.getElem_toArray, List.getElem_cons_zero, List.getElem_cons_succ, Act.put, List.setIfInBounds_toArray, List.set_cons_zero, List.set_cons_succ]
  refine wpM_take (t := 42) (i := 2) (v := ?_) rfl (by kernel_rfl) (by kernel_rfl) (by kernel_rfl) (by kernel_rfl) (fun _ _ _ h => h) (by rfl) (fun w1 hl => ?_) ?_
  rotate_left
  · have hq := HQ.out; go_simp; try with_reducible rfl
  simp only [List.getElem_toArray, List.getElem_cons_zero, List.getElem_cons_succ, Act.put, List.setIfInBounds_toArray, List.set_cons_zero, List.set_cons_succ]
  refine wpM_take (t := 42) (i := 3) (v := ?_) rfl (by kernel_rfl) (by kernel_rfl) (by kernel_rfl) (by kernel_rfl) (fun _ _ _ h => h) (by rfl) (fun w1 hl => ?_) ?_
  rotate_left
  · have hq := HQ.out; go_simp; try with_reducible rfl
  simp only [List.getElem_toArray, List.getElem_cons_zero, List.getElem_cons_succ, Act.put, List.setIfInBounds_toArray, List.set_cons_zero, List.set_cons_succ]
  refine wpM_take (t := 42) (i := 4) (v := ?_) rfl (by kernel_rfl) (by kernel_rfl) (by kernel_rfl) (by kernel_rfl) (fun _ _ _ h => h) (by rfl) (fun w1 hl => ?_) ?_
  rotate_left
  · skip; go_simp; try with_reducible rfl
  simp only [List.getElem_toArray, List.getElem_cons_zero, List.getElem_cons_succ, Act.put, List.setIfInBounds_toArray, List.set_cons_zero, List.set_cons_succ]
  refine wpM_take (t := 42) (i := 5) (v := ?_) rfl (by kernel_rfl) (by kernel_rfl) (by kernel_rfl) (by kernel_rfl) (fun _ _ _ h => h) (by rfl) (fun w1 hl => ?_) ?_
  rotate_left
  · skip; go_simp; try with_reducible rfl
  simp only [List.getElem_toArray, List.getElem_cons_zero, List.getElem_cons_succ, Act.put, List.setIfInBounds_toArray, List.set_cons_zero, List.set_cons_succ]
  refine wpM_take (t := 42) (i := 6) (v := ?_) rfl (by kernel_rfl) (by kernel_rfl) (by kernel_rfl) (by kernel_rfl) (fun _ _ _ h => h) (by rfl) (fun w1 hl => ?_) ?_
  rotate_left
  · skip; go_simp; try with_reducible rfl
  simp only [List.getElem_toArray, List.getElem_cons_zero, List.getElem_cons_succ, Act.put, List.setIfInBounds_toArray, List.set_cons_zero, List.set_cons_succ]
  refine wpM_take (t := 42) (i := 7) (v := ?_) rfl (by kernel_rfl) (by kernel_rfl) (by kernel_rfl) (by kernel_rfl) (fun _ _ _ h => h) (by rfl) (fun w1 hl => ?_) ?_
  rotate_left
  · skip; go_simp; try with_reducible rfl
  simp only [List.getElem_toArray, List.getElem_cons_zero, List.getElem_cons_succ, Act.put, List.setIfInBounds_toArray, List.set_cons_zero, List.set_cons_succ]
  refine wpM_take (t := 42) (i := 8) (v := ?_) rfl (by kernel_rfl) (by kernel_rfl) (by kernel_rfl) (by kernel_rfl) (fun _ _ _ h => h) (by rfl) (fun w1 hl => ?_) ?_
  rotate_left
  · skip; go_simp; try with_reducible rfl
  simp only [List.getElem_toArray, List.getElem_cons_zero, List.getElem_cons_succ, Act.put, List.setIfInBounds_toArray, List.set_cons_zero, List.set_cons_succ]
  refine wpM_take (t := 42) (i := 10) (v := ?_) rfl (by kernel_rfl) (by kernel_rfl) (by kernel_rfl) (by kernel_rfl) (fun _ _ _ h => h) (by rfl) (fun w1 hl => ?_) ?_
  rotate_left
  · skip; go_simp; try with_reducible rfl
  simp only [List.getElem_toArray, List.getElem_cons_zero, List.getElem_cons_succ, Act.put, List.setIfInBounds_toArray, List.set_cons_zero, List.set_cons_succ]
  refine wpM_take (t := 42) (i := 13) (v := ?_) rfl (by kernel_rfl) (by kernel_rfl) (by kernel_rfl) (by kernel_rfl) (fun _ _ _ h => h) (by rfl) (fun w1 hl => ?_) ?_
  rotate_left
  · skip; go_simp; try with_reducible rfl
  simp only [List.getElem_toArray, List.getElem_cons_zero, List.getElem_cons_succ, Act.put, List.setIfInBounds_toArray, List.set_cons_zero, List.set_cons_succ]
  refine wpM_take (t := 42) (i := 9) rfl (by kernel_rfl) (by kernel_rfl) (by kernel_rfl) (by kernel_rfl) (fun _ _ _ h => h) (by rfl) (fun w1 hl => run_load_box 22 _ rfl _ rfl ((HF.out w1 hl).1) Tryd.underlying22 rfl (size_256 _)) ?_
  simp only [List.getElem_toArray, List.getElem_cons_zero, List.getElem_cons_succ, Act.put, List.setIfInBounds_toArray, List.set_cons_zero, List.set_cons_succ]
  refine wpM_call (t := 42) (i := 11) (f := ?_) (args := ?_) (v := ?_) rfl (by kernel_rfl) (by kernel_rfl) (by kernel_rfl) (by kernel_rfl) (fun _ _ _ h => h) (by rfl) (fun w1 => ?_) (fun w1 hl => ?_) ?_
  rotate_left 4
  · exact HR1.out w1
  rotate_left
  · go_simp
  simp only [List.getElem_toArray, List.getElem_cons_zero, List.getElem_cons_succ, Act.put, List.setIfInBounds_toArray, List.set_cons_zero, List.set_cons_succ]
  refine wpM_take (t := 42) (i := 12) rfl (by kernel_rfl) (by kernel_rfl) (by kernel_rfl) (by kernel_rfl) (fun _ _ _ h => h) (by rfl) (fun w1 hl => run_load_box 22 _ rfl _ rfl ((HF.out w1 hl).1) Tryd.underlying22 rfl (size_256 _)) ?_
  simp only [List.getElem_toArray, List.getElem_cons_zero, List.getElem_cons_succ, Act.put, List.setIfInBounds_toArray, List.set_cons_zero, List.set_cons_succ]
  refine wpM_call (t := 42) (i := 14) (f := ?_) (args := ?_) (v := ?_) rfl (by kernel_rfl) (by kernel_rfl) (by kernel_rfl) (by kernel_rfl) (fun _ _ _ h => h) (by rfl) (fun w1 => ?_) (fun w1 hl => ?_) ?_
  rotate_left 4
  · exact HR2.out w1
  rotate_left
  · go_simp
  simp only [List.getElem_toArray, List.getElem_cons_zero, List.getElem_cons_succ, Act.put, List.setIfInBounds_toArray, List.set_cons_zero, List.set_cons_succ]
  refine wpM_take (t := 42) (i := 15) (v := ?_) rfl (by kernel_rfl) (by kernel_rfl) (by kernel_rfl) (by kernel_rfl) (fun _ _ _ h => h) (by rfl) (fun w1 hl => ?_) ?_
  rotate_left
  · skip; go_simp; try with_reducible rfl
  simp only [List.getElem_toArray, List.getElem_cons_zero, List.getElem_cons_succ, Act.put, List.setIfInBounds_toArray, List.set_cons_zero, List.set_cons_succ]
  refine wpM_take (t := 42) (i := 16) (v := ?_) rfl (by kernel_rfl) (by kernel_rfl) (by kernel_rfl) (by kernel_rfl) (fun _ _ _ h => h) (by rfl) (fun w1 hl => ?_) ?_
  rotate_left
  · skip; go_simp; try with_reducible rfl
  simp only [List.getElem_toArray, List.getElem_cons_zero, List.getElem_cons_succ, Act.put, List.setIfInBounds_toArray, List.set_cons_zero, List.set_cons_succ]
  refine wpM_take (t := 42) (i := 17) (v := ?_) rfl (by kernel_rfl) (by kernel_rfl) (by kernel_rfl) (by kernel_rfl) (fun _ _ _ h => h) (by rfl) (fun w1 hl => ?_) ?_
  rotate_left
  · skip; go_simp; try with_reducible rfl
  simp only [List.getElem_toArray, List.getElem_cons_zero, List.getElem_cons_succ, Act.put, List.setIfInBounds_toArray, List.set_cons_zero, List.set_cons_succ]
  refine wpM_take (t := 42) (i := 18) rfl (by kernel_rfl) (by kernel_rfl) (by kernel_rfl) (by kernel_rfl) (fun _ _ _ h => h) (by rfl) (fun w1 hl => run_load_box 22 _ rfl _ rfl ((HF.out w1 hl).1) Tryd.underlying22 rfl (size_256 _)) ?_
  simp only [List.getElem_toArray, List.getElem_cons_zero, List.getElem_cons_succ, Act.put, List.setIfInBounds_toArray, List.set_cons_zero, List.set_cons_succ]
  refine wpM_take (t := 42) (i := 20) rfl (by kernel_rfl) (by kernel_rfl) (by kernel_rfl) (by kernel_rfl) (fun _ _ _ h => h) (by rfl) (fun w1 hl => run_load_box 22 _ rfl _ rfl ((HF.out w1 hl).1) Tryd.underlying22 rfl (size_256 _)) ?_
  simp only [List.getElem_toArray, List.getElem_cons_zero, List.getElem_cons_succ, Act.put, List.setIfInBounds_toArray, List.set_cons_zero, List.set_cons_succ]
  refine wpM_one (t := 42) (i := 19) (by kernel_rfl) rfl (fun w1 hl K hK => ?_)
  go_simp
  refine (HS1.out _).mono ?_
  intro e w3 h3
  obtain ⟨a3, cap3, rfl, o3, hb3⟩ := h3
  rw [HL.out] at o3 ⊢
  refine hK.out _ _ (fun _ => hb3) ?_
  have l3 : Later W.drew w3 := Later.trans _ _ _ hl hb3
  clear hK K
  refine wpM_one (t := 42) (i := 21) (by kernel_rfl) rfl (fun w1 hl K hK => ?_)
  go_simp
  refine (HS2.out _).mono ?_
  intro e w4 h4
  obtain ⟨a4, cap4, rfl, o4, hb4⟩ := h4
  rw [HL.out] at o4 ⊢
  refine hK.out _ _ (fun _ => hb4) ?_
  have l4 : Later W.drew w4 := Later.trans _ _ _ (Later.trans _ _ _ l3 hl) hb4
  clear hK K
  have sl3 := (o3.kept hl).kept hb4 |>.slice encS_ok
  have sl4 := o4.slice encS_ok
  refine wpM_call (t := 42) (i := 22) (f := ?_) (args := ?_) (v := ?_) rfl (by kernel_rfl) (by kernel_rfl) (by kernel_rfl) (by kernel_rfl) (fun _ _ _ h => h) (by rfl) (fun w1 => ?_) (fun w1 hl => ?_) ?_
  rotate_left 4
  · exact law_same _ _ m _ _ L w1 (sl3.kept hl) (sl4.kept hl)
  rotate_left
  · go_simp
  simp only [List.getElem_toArray, List.getElem_cons_zero, List.getElem_cons_succ, Act.put, List.setIfInBounds_toArray, List.set_cons_zero, List.set_cons_succ]
  refine wpM_take (t := 42) (i := 23) (v := ?_) rfl (by kernel_rfl) (by kernel_rfl) (by kernel_rfl) (by kernel_rfl) (fun _ _ _ h => h) (by rfl) (fun w1 hl => ?_) ?_
  rotate_left
  · skip; go_simp; try with_reducible rfl
  simp only [List.getElem_toArray, List.getElem_cons_zero, List.getElem_cons_succ, Act.put, List.setIfInBounds_toArray, List.set_cons_zero, List.set_cons_succ]
  refine wpM_take (t := 42) (i := 24) (v := ?_) rfl (by kernel_rfl) (by kernel_rfl) (by kernel_rfl) (by kernel_rfl) (fun _ _ _ h => h) (by rfl) (fun w1 hl => ?_) ?_
  rotate_left
  · skip; go_simp; try with_reducible rfl
  simp only [List.getElem_toArray, List.getElem_cons_zero, List.getElem_cons_succ, Act.put, List.setIfInBounds_toArray, List.set_cons_zero, List.set_cons_succ]
  refine wpM_take (t := 42) (i := 25) rfl (by kernel_rfl) (by kernel_rfl) (by kernel_rfl) (by kernel_rfl) (fun _ _ _ h => h) (by rfl) (fun w1 hl => run_load_box 22 _ rfl _ rfl ((HF.out w1 (Later.trans _ _ _ l4 hl)).1) Tryd.underlying22 rfl (size_256 _)) ?_
  simp only [List.getElem_toArray, List.getElem_cons_zero, List.getElem_cons_succ, Act.put, List.setIfInBounds_toArray, List.set_cons_zero, List.set_cons_succ]
  refine wpM_take (t := 42) (i := 28) rfl (by kernel_rfl) (by kernel_rfl) (by kernel_rfl) (by kernel_rfl) (fun _ _ _ h => h) (by rfl) (fun w1 hl => run_load_box 22 _ rfl _ rfl ((HF.out w1 (Later.trans _ _ _ l4 hl)).1) Tryd.underlying22 rfl (size_256 _)) ?_
  simp only [List.getElem_toArray, List.getElem_cons_zero, List.getElem_cons_succ, Act.put, List.setIfInBounds_toArray, List.set_cons_zero, List.set_cons_succ]
  refine wpM_one (t := 42) (i := 26) (by kernel_rfl) rfl (fun w1 hl K hK => ?_)
  go_simp
  refine (HM1.out _ (HF.out w1 (Later.trans _ _ _ l4 hl)).2.2.2.2).mono ?_
  intro e w5 h5
  obtain ⟨a5, cap5, rfl, o5, hb5⟩ := h5
  rw [HX.out] at o5 ⊢
  refine hK.out _ _ (fun _ => hb5) ?_
  have l5 : Later W.drew w5 := Later.trans _ _ _ (Later.trans _ _ _ l4 hl) hb5
  clear hK K
  have sl5 := o5.slice encB_ok
  refine wpM_take (t := 42) (i := 27) (v := ?_) rfl (by kernel_rfl) (by kernel_rfl) (by kernel_rfl) (by kernel_rfl) (fun _ _ _ h => h) (by rfl) (fun w1 hl => ?_) ?_
  rotate_left
  · have hcv := HCV.out w1 _ _ (sl5.kept hl); go_simp; try with_reducible rfl
  simp only [List.getElem_toArray, List.getElem_cons_zero, List.getElem_cons_succ, Act.put, List.setIfInBounds_toArray, List.set_cons_zero, List.set_cons_succ]
  refine wpM_one (t := 42) (i := 29) (by kernel_rfl) rfl (fun w1 hl K hK => ?_)
  go_simp
  refine (HM2.out _).mono ?_
  intro e w6 h6
  obtain ⟨a6, cap6, rfl, o6, hb6⟩ := h6
  rw [HX.out] at o6 ⊢
  refine hK.out _ _ (fun _ => hb6) ?_
  have l6 : Later W.drew w6 := Later.trans _ _ _ (Later.trans _ _ _ l5 hl) hb6
  clear hK K
  have sl6 := o6.slice encB_ok
  refine wpM_take (t := 42) (i := 30) (v := ?_) rfl (by kernel_rfl) (by kernel_rfl) (by kernel_rfl) (by kernel_rfl) (fun _ _ _ h => h) (by rfl) (fun w1 hl => ?_) ?_
  rotate_left
  · have hcv := HCV.out w1 _ _ (sl6.kept hl); go_simp; try with_reducible rfl
  simp only [List.getElem_toArray, List.getElem_cons_zero, List.getElem_cons_succ, Act.put, List.setIfInBounds_toArray, List.set_cons_zero, List.set_cons_succ]
  refine wpM_take (t := 42) (i := 31) (v := ?_) rfl (by kernel_rfl) (by kernel_rfl) (by kernel_rfl) (by kernel_rfl) (fun _ _ _ h => h) (by rfl) (fun w1 hl => ?_) ?_
  rotate_left
  · skip; go_simp; try with_reducible rfl
  simp only [List.getElem_toArray, List.getElem_cons_zero, List.getElem_cons_succ, Act.put, List.setIfInBounds_toArray, List.set_cons_zero, List.set_cons_succ]
  refine wpM_take (t := 42) (i := 32) (v := ?_) rfl (by kernel_rfl) (by kernel_rfl) (by kernel_rfl) (by kernel_rfl) (fun _ _ _ h => h) (by rfl) (fun w1 hl => ?_) ?_
  rotate_left
  · skip; go_simp; try with_reducible rfl
  simp only [List.getElem_toArray, List.getElem_cons_zero, List.getElem_cons_succ, Act.put, List.setIfInBounds_toArray, List.set_cons_zero, List.set_cons_succ]
  refine wpM_take (t := 42) (i := 33) (v := ?_) rfl (by kernel_rfl) (by kernel_rfl) (by kernel_rfl) (by kernel_rfl) (fun _ _ _ h => h) (by rfl) (fun w1 hl => ?_) ?_
  rotate_left
  · skip; go_simp; try with_reducible rfl
  simp only [List.getElem_toArray, List.getElem_cons_zero, List.getElem_cons_succ, Act.put, List.setIfInBounds_toArray, List.set_cons_zero, List.set_cons_succ]
  refine wpM_take (t := 42) (i := 35) (v := ?_) rfl (by kernel_rfl) (by kernel_rfl) (by kernel_rfl) (by kernel_rfl) (fun _ _ _ h => h) (by rfl) (fun w1 hl => ?_) ?_
  rotate_left
  · skip; go_simp; try with_reducible rfl
  simp only [List.getElem_toArray, List.getElem_cons_zero, List.getElem_cons_succ, Act.put, List.setIfInBounds_toArray, List.set_cons_zero, List.set_cons_succ]
  refine wpM_take (t := 42) (i := 34) rfl (by kernel_rfl) (by kernel_rfl) (by kernel_rfl) (by kernel_rfl) (fun _ _ _ h => h) (by rfl) (fun w1 hl => run_load_box 22 _ rfl _ rfl ((HF.out w1 (Later.trans _ _ _ l6 hl)).2.1) Tryd.underlying22 rfl (size_256 _)) ?_
  simp only [List.getElem_toArray, List.getElem_cons_zero, List.getElem_cons_succ, Act.put, List.setIfInBounds_toArray, List.set_cons_zero, List.set_cons_succ]
  refine wpM_call (t := 42) (i := 36) (f := ?_) (args := ?_) (v := ?_) rfl (by kernel_rfl) (by kernel_rfl) (by kernel_rfl) (by kernel_rfl) (fun _ _ _ h => h) (by rfl) (fun w1 => ?_) (fun w1 hl => ?_) ?_
  rotate_left 4
  · exact HR3.out w1
  rotate_left
  · go_simp
  simp only [List.getElem_toArray, List.getElem_cons_zero, List.getElem_cons_succ, Act.put, List.setIfInBounds_toArray, List.set_cons_zero, List.set_cons_succ]
  refine wpM_take (t := 42) (i := 37) (v := ?_) rfl (by kernel_rfl) (by kernel_rfl) (by kernel_rfl) (by kernel_rfl) (fun _ _ _ h => h) (by rfl) (fun w1 hl => ?_) ?_
  rotate_left
  · skip; go_simp; try with_reducible rfl
  simp only [List.getElem_toArray, List.getElem_cons_zero, List.getElem_cons_succ, Act.put, List.setIfInBounds_toArray, List.set_cons_zero, List.set_cons_succ]
  refine wpM_take (t := 42) (i := 38) (v := ?_) rfl (by kernel_rfl) (by kernel_rfl) (by kernel_rfl) (by kernel_rfl) (fun _ _ _ h => h) (by rfl) (fun w1 hl => ?_) ?_
  rotate_left
  · skip; go_simp; try with_reducible rfl
  simp only [List.getElem_toArray, List.getElem_cons_zero, List.getElem_cons_succ, Act.put, List.setIfInBounds_toArray, List.set_cons_zero, List.set_cons_succ]
  refine wpM_call (t := 42) (i := 39) (f := ?_) (args := ?_) (v := ?_) rfl (by kernel_rfl) (by kernel_rfl) (by kernel_rfl) (by kernel_rfl) (fun _ _ _ h => h) (by rfl) (fun w1 => ?_) (fun w1 hl => ?_) ?_
  rotate_left 4
  · exact knows19 w1
  rotate_left
  · go_simp
  simp only [List.getElem_toArray, List.getElem_cons_zero, List.getElem_cons_succ, Act.put, List.setIfInBounds_toArray, List.set_cons_zero, List.set_cons_succ]
  refine wpM_take (t := 42) (i := 40) (v := ?_) rfl (by kernel_rfl) (by kernel_rfl) (by kernel_rfl) (by kernel_rfl) (fun _ _ _ h => h) (by rfl) (fun w1 hl => ?_) ?_
  rotate_left
  · skip; go_simp; try with_reducible rfl
  simp only [List.getElem_toArray, List.getElem_cons_zero, List.getElem_cons_succ, Act.put, List.setIfInBounds_toArray, List.set_cons_zero, List.set_cons_succ]
  refine wpM_take (t := 42) (i := 41) (v := ?_) rfl (by kernel_rfl) (by kernel_rfl) (by kernel_rfl) (by kernel_rfl) (fun _ _ _ h => h) (by rfl) (fun w1 hl => ?_) ?_
  rotate_left
  · skip; go_simp; try with_reducible rfl
  simp only [List.getElem_toArray, List.getElem_cons_zero, List.getElem_cons_succ, Act.put, List.setIfInBounds_toArray, List.set_cons_zero, List.set_cons_succ]
  refine wpM_done (by kernel_rfl) (fun w1 hl => ?_) _
  go_wp2
  go_ret
  exact ⟨rfl, (HF.out w1 (Later.trans _ _ _ l6 hl)).2.2.2.1⟩
theorem table_PartsAsks {W : World} (h : laidMetH Tryd.prog Rows.partsAsksRow.laid W) : Tab W := tab_of_tabIs (Lib.tabIs_of_head (zs := Lib.deBruijn64tab.map fun (x : Nat) => (x : Int)) (rest := []) gTab gTabType Tryd.underlying77 Tryd.underlying5 (by kernel_rfl) (by kernel_rfl) h)
set_option maxRecDepth 100000 in
theorem contract_PartsAsks (H : Type) (enc : TypeId × Value → H) (W : World) (base : Nat) (args : Array Value) (ds gs : List (DataW H)) (before : List MemPlace)
    (hval0 : ∀ (j : Nat) t v, Tryd.f3.params[j]? = some t → args[j]? = some v → Value.okWide Tryd.prog W .any base t v)
    (hW : DataW.Whole enc Tryd.prog Tryd.f3.params.toList Rows.partsAsksSpec.vars false W args.toList ds gs before) (hL : laidMetH Tryd.prog Rows.partsAsksRow.laid W) :
    Calls Tryd.prog 3 args W fun e W' => ∃ v, e = .returned v ∧ Rows.partsAsksSpec.post enc Tryd.prog Tryd.f3 false true false false W args v W' := by
  have hval : ∀ (j : Nat) t v, Tryd.f3.params[j]? = some t → args[j]? = some v → Value.okWide Tryd.prog W .any base t v := hval0
  have hW' := hW
  have hT := table_PartsAsks hL
  obtain ⟨p, q, hA0, hV, rfl, hfz, hnd⟩ := hW
  have hA : DataW.TrodAll enc Tryd.prog W 0 (fun _ => true) true Tryd.f3.params.toList args.toList ds p := hA0
  rw [Tryd.params3] at hA hval
  obtain ⟨v0, vs0, d0, ds0, p0, q0, hargs, rfl, rfl, h00, r0⟩ := trodAll_cons hA
  obtain ⟨v1, vs1, d1, ds1, p1, q1, rfl, rfl, rfl, h01, r1⟩ := trodAll_cons r0
  obtain ⟨rfl, rfl, rfl⟩ := trodAll_nil r1
  obtain rfl : args = #[v0, v1] := by cases args; simp_all
  obtain ⟨rfl, rfl⟩ := trodVars_none hV
  have k00 := h00
  have lt0 : ∀ x ∈ p0, x.block < W.heap.size := by obtain ⟨m, hm⟩ := k00; exact DataW.trod_lt m _ _ _ hm
  have k01 := h01
  have lt1 : ∀ x ∈ p1, x.block < W.heap.size := by obtain ⟨m, hm⟩ := k01; exact DataW.trod_lt m _ _ _ hm
  obtain ⟨f, rfl, hf⟩ : ∃ f : Nat → Nat, v0 = .agg (arr8 f) ∧ ∀ b, f b < 256 := by
    obtain ⟨fuel, hfu⟩ := h00
    obtain ⟨cs, hcs, _⟩ := okWide_arr Tryd.underlying22 (hval 0 22 v0 rfl rfl)
    subst hcs
    obtain ⟨f, h2, h3⟩ := trod_arr8 Tryd.underlying22 Tryd.underlying5 (by kernel_rfl) (by kernel_rfl) hfu
    exact ⟨f, by rw [show cs = arr8 f from Array.ext' h2], h3⟩
  obtain ⟨n, rfl⟩ := okWide_int Tryd.underlying3 (hval 1 3 v1 rfl rfl)
  have hn : (Lit.int .i64 n).wf = true := by
    obtain ⟨fuel, hfu⟩ := h01
    obtain ⟨z, hz1, _, hz2⟩ := DataW.trod_int Tryd.underlying3 hfu
    simp [Value.cells] at hz1
    subst hz1; exact hz2
  clear hA0 hval0
  refine (law_PartsAsks f hf n W hT).mono fun e W' ⟨he, bel⟩ => ?_
  subst he
  exact ⟨_, rfl, _, _, _, [], _, [], hW', trodAll_mk1 (shut_bool Tryd.underlying4 _), (trodAll_cons_mk (Below.trod laidOut (by kernel_rfl) (of_decide_eq_true (by kernel_rfl)) k00 bel lt0) (trodAll_cons_mk (Below.trod laidOut (by kernel_rfl) (of_decide_eq_true (by kernel_rfl)) k01 bel lt1) trodAll_mk0)), rfl, bel.frame _, fun h => by cases h⟩
theorem laid_met_PartsAsks (os : Os) : laidMet Tryd.prog Rows.partsAsksRow.laid ((laidWorld os).forCall (fun _ _ => 0) ⟨#[], #[.agg (Array.replicate 256 (.int .u8 0)), .int .i64 0], []⟩).memory :=
  laidMet_of_run' 8 (by kernel_rfl) (by kernel_rfl)
theorem reads_PartsAsks (os : Os) {H : Type} (enc : TypeId × Value → H) : ∃ places, DataW.whole enc Tryd.prog ((laidWorld os).forCall (fun _ _ => 0) ⟨#[], #[.agg (Array.replicate 256 (.int .u8 0)), .int .i64 0], []⟩).memory Tryd.f3.params.toList Rows.partsAsksSpec.vars false (#[.agg (Array.replicate 256 (.int .u8 0)), .int .i64 0] : Array Value).toList 8 = some ([.agg (List.replicate 256 (.lit (.int .u8 0))), .lit (.int .i64 0)], [], places) :=
  ⟨[], by kernel_rfl⟩
set_option maxRecDepth 100000 in
theorem lifted_PartsAsks (os : Os) (started : os.Started) (H : Type) (enc : TypeId × Value → H) (F : Stop.Interp) :
    ReturnsInHanded {} Tryd.checked os 3 .any ((OpenSpec.ofChange Rows.partsAsksSpec).preRow enc Tryd.prog Tryd.f3 Rows.partsAsksRow.domain false Rows.partsAsksRow.laid) (((OpenSpec.ofChange Rows.partsAsksSpec).at F).post enc Tryd.prog Tryd.f3 false true false false) := by
  obtain ⟨places, hx⟩ := reads_PartsAsks os enc
  refine returnsInHanded_of_row (C := Tryd.checked) (s := OpenSpec.ofChange Rows.partsAsksSpec) own started (by kernel_rfl) Tryd.func3
    (witness_row_at (enc := enc) (C := Tryd.checked) false (laidWorld os) #[.agg (Array.replicate 256 (.int .u8 0)), .int .i64 0] rfl (by kernel_rfl) (by kernel_rfl) (by kernel_rfl)
      (OpenSpec.preRow_of_cond 8 hx (by kernel_rfl) (fun k hk => by cases hk) (by kernel_rfl) (laid_met_PartsAsks os))) ?_
  intro W base args ds gs before hval hW _ _ _ hL _ _
  exact contract_PartsAsks H enc W base args ds gs before hval hW hL
theorem said_PartsAsks : Rows.PartsAsksSaid :=
  OpenClaim.holds_of_cond 3 Tryd.f3 rfl rfl rfl rfl rfl rfl rfl ⟨rfl, rfl, rfl, rfl, rfl⟩ rfl rfl rfl rfl rfl (by kernel_rfl) Tryd.func3 (by kernel_rfl)
    (of_decide_eq_true (by kernel_rfl)) (by unfold Func.isWrapper; first | (rw [if_pos (by decide +kernel)]; kernel_rfl) | (rw [if_neg (by decide +kernel)]; exact ⟨rfl, rfl⟩))
    (fun os started H enc _ F => by rw [OpenClaim.pre_eq_preRow]; exact lifted_PartsAsks os started H enc F)
theorem plain_PartsAsks (f : FuncId) (fn : Func) (hf : Tryd.pinned.checked.prog.funcNamed "doublet/doubletlaw19.PartsAsks" = some f) (hfn : Tryd.pinned.checked.prog.funcs[f]? = some fn) :
    false = Tryd.pinned.checked.prog.looks [] ∧ ∀ (j : Nat) t, fn.params[j]? = some t → Tryd.pinned.checked.prog.wantsStandIn t = false := by
  obtain rfl : f = 3 := Option.some.inj ((show Tryd.prog.funcNamed "doublet/doubletlaw19.PartsAsks" = some 3 by kernel_rfl).symm.trans hf) |>.symm
  obtain rfl : fn = Tryd.f3 := (Option.some.inj (Tryd.func3.symm.trans hfn)).symm
  refine ⟨by kernel_rfl, fun j t ht => ?_⟩
  rw [Tryd.params3] at ht
  have hm := Array.mem_of_getElem? ht
  simp only [List.mem_toArray, List.mem_cons, List.not_mem_nil, or_false] at hm
  rcases hm with rfl | rfl
  · exact (show Tryd.prog.wantsStandIn 22 = false by kernel_rfl)
  · exact (show Tryd.prog.wantsStandIn 3 = false by kernel_rfl)
theorem PartsAsks_holds : Rows.PartsAsksCardSaid :=
  Claim7.holds_tied_plain_at .later [] _ _ _ _ said_PartsAsks (fun _ h => by cases h) (by kernel_rfl) (fun _ h => by cases h) partsAsks_row_tie rfl ⟨rfl, rfl⟩ (by kernel_rfl) rfl plain_PartsAsks (by kernel_rfl)
#print axioms PartsAsks_holds
end Go.Proofs.YtinlfbacfmmfpaaDoor
