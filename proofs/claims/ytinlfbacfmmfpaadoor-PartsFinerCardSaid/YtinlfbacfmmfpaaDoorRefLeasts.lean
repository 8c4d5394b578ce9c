/- The document's normal classes, whether classes are right, their least bytes; whether two lists of sets are one. -/
import Derived.Test.YtinlfbacfmmfpaaDoorPartsLeasts
import Derived.Test.YtinlfbacfmmfpaaDoorRefNum
import Derived.Test.YtinlfbacfmmfpaaDoorRefSets
import Derived.Test.YtinlfbacfmmfpaaDoorSetEq
import Derived.Test.YtinlfbacfmmfpaaDoorOwn2
namespace Go.Proofs.YtinlfbacfmmfpaaDoor
open Go.RowKit
theorem Own.grownT {α β : Type} {w w' : World} {base base' E E' size size' : Nat} {enc : α → List Value} {enc' : β → List Value} {v v' : Value} {xs : List α} {ys : List β} (h : Own w base E size enc v xs) (hown : Own w base' E' size' enc' v' ys) (hg : w.grownBy w' v'.ownBlock) (hne : E' ≠ E) : Own w' base E size enc v xs := by
  obtain ⟨a, cap, hv, hle, hm, hh⟩ := h
  refine ⟨a, cap, hv, hle, hm, ?_⟩
  rcases hh with hh | ⟨g, cur, ha, hbg, hgb, hr⟩
  · exact .inl hh
  · exact .inr ⟨g, cur, ha, hbg, hgb.grownT hown hg hne, hr⟩
set_option maxRecDepth 20000 in
theorem ref_Norm19 (f : Nat → Nat) (hf : ∀ b, f b < 256) (w : World) :
    Calls Tryd.prog 10 #[.agg (arr8 f)] w (Ret w (.tuple #[.agg (arr8 (numR (Kern (keyN f)))), .int .i64 (widR (Kern (keyN f)) : Nat)])) := by
  have hz := zeroV_256
  have E := kern_equi (keyN f)
  obtain ⟨L, hP, e1, e2⟩ : ∃ L : List BSet, (∀ wx, Calls Tryd.prog 15 #[.agg (arr8 f)] wx (RetOwn wx 34 4 encS L)) ∧ arr8 (numF L) = arr8 (numR (Kern (keyN f))) ∧ L.length = widR (Kern (keyN f)) := by
    refine ⟨_, fun wx => ref_Sets19 f hf wx, arr8_congr fun c hc => ?_, by rw [List.length_map, widR_def]⟩
    have := numF_cls E hc _ (Nat.le_refl _)
    rw [List.take_length] at this
    rw [this, if_pos]; have := numR_lt E.refl hc; rwa [widR_def] at this
  have H1 := Lib.hid e1
  have H2 := Lib.hid e2
  have HP := Lib.hid hP
  have hle := widR_le (Kern (keyN f))
  clear e1 e2 hP
  go_enter Tryd.func10, Tryd.ntmps10
  go_wp2_with (first | (refine wpList_load_row rfl 22 (.tmp 1) rfl _ rfl _ _ _ _ ((Box.new _ _ _).alloc _) Tryd.underlying22 rfl (size_256 _) ?_) | (refine wpList_store_row rfl 22 (.tmp 2) (.tmp 7) rfl (w.heap.size + 1) _ rfl rfl _ _ hx0 (size_256 _) (arr8_sizes _ _) (arr8_all _) ?_) | (go_at_call 15; go_must (refine (HP.out _).mono ?_; rintro e w1 ⟨a1, cap1, rfl, hown, hB⟩)) | (go_at_call 43; go_must (refine (ref_numbers a1 cap1 _ _ (hown.slice encS_ok) (by rw [H2.out]; exact hle)).mono ?_; rintro e w2 ⟨rfl, hB2⟩; rw [H1.out, H2.out]; have hx0 := ((Box.new' (w := w.alloc (.cells (arr8 f) 22)) (b := w.heap.size + 1) (by simp) (arr8 fun _ => 0) 22).kept hB).kept hB2)))
  have hB3 := ((((Below.refl w.heap.size w).alloc (Nat.le_refl _) (.cells (arr8 f) 22)).alloc (by simp) (.cells (arr8 fun _ => 0) 22)).trans (hB.mono (by simp; omega))).trans (hB2.mono (by have := hB.size; simp at this; omega))
  exact ret_box_tmp Tryd.results10 rfl rfl (hx0.setRow _) Tryd.underlying22 rfl (size_256 _) rfl ⟨rfl, below_setRow hB3 (by omega) _⟩
set_option maxRecDepth 20000 in
set_option maxHeartbeats 400000 in
theorem ref_Right19 (f : Nat → Nat) (hf : ∀ b, f b < 256) (n : Int) (w : World) :
    Calls Tryd.prog 12 #[.agg (arr8 f), .int .i64 n] w (Ret w (.bool (sameArr (numR (Kern (keyN f))) f && ((widR (Kern (keyN f)) : Nat) == n)))) := by
  have hz := zeroV_256
  have hq := run_eq256 (P := Tryd.prog) (t := 22) (e := 5) Tryd.underlying22 Tryd.underlying5 (by kernel_rfl) (numR (Kern (keyN f))) f
  have hsz : ∀ w1 : World, Below (w.alloc (.cells (arr8 f) 22)).heap.size (w.alloc (.cells (arr8 f) 22)) w1 → Below w.heap.size w (w1.alloc (.cells (arr8 (numR (Kern (keyN f)))) 22)) := fun w1 hB => (((Below.refl w.heap.size w).alloc (Nat.le_refl _) _).trans (hB.mono (by go_size))).alloc (by have := hB.size; simp at this; omega) _
  have HS := Lib.hid hsz
  have HF := Lib.hid hf
  clear hsz hf
  cases hs : sameArr (numR (Kern (keyN f))) f with
  | true =>
    rw [hs] at hq
    clear hs
    go_enter Tryd.func12, Tryd.ntmps12
    go_wp2_with (first | (refine wpList_load_row rfl 22 (.tmp 2) rfl _ rfl _ _ _ _ (Box.new _ _ _) Tryd.underlying22 rfl (size_256 _) ?_) | (refine wpList_store_new rfl 22 (.tmp 5) (.tmp 10) rfl _ _ rfl rfl rfl (size_256 _) (arr8_sizes _ _) (arr8_all _) ?_) | (go_at_call 10; go_must (refine (ref_Norm19 f HF.out _).mono ?_; rintro e w1 ⟨rfl, hB⟩; have hx0 := (Box.new w (arr8 f) 22).kept hB)) | (refine wpList_load_row rfl 22 (.tmp 5) rfl _ rfl _ _ _ _ (Box.new _ _ _) Tryd.underlying22 rfl (size_256 _) ?_) | (refine wpList_load_row rfl 22 (.tmp 2) rfl _ rfl _ _ _ _ (hx0.alloc _) Tryd.underlying22 rfl (size_256 _) ?_))
    go_ret
    exact ⟨rfl, HS.out _ hB⟩
  | false =>
    rw [hs] at hq
    clear hs
    go_enter Tryd.func12, Tryd.ntmps12
    go_wp2_with (first | (refine wpList_load_row rfl 22 (.tmp 2) rfl _ rfl _ _ _ _ (Box.new _ _ _) Tryd.underlying22 rfl (size_256 _) ?_) | (refine wpList_store_new rfl 22 (.tmp 5) (.tmp 10) rfl _ _ rfl rfl rfl (size_256 _) (arr8_sizes _ _) (arr8_all _) ?_) | (go_at_call 10; go_must (refine (ref_Norm19 f HF.out _).mono ?_; rintro e w1 ⟨rfl, hB⟩; have hx0 := (Box.new w (arr8 f) 22).kept hB)) | (refine wpList_load_row rfl 22 (.tmp 5) rfl _ rfl _ _ _ _ (Box.new _ _ _) Tryd.underlying22 rfl (size_256 _) ?_) | (refine wpList_load_row rfl 22 (.tmp 2) rfl _ rfl _ _ _ _ (hx0.alloc _) Tryd.underlying22 rfl (size_256 _) ?_))
    go_ret
    exact ⟨rfl, HS.out _ hB⟩
set_option maxRecDepth 20000 in
set_option maxHeartbeats 800000 in
theorem ref_Leasts19 (f : Nat → Nat) (hf : ∀ b, f b < 256) (w : World) :
    Calls Tryd.prog 17 #[.agg (arr8 f)] w (RetOwn w 5 1 encB (reps (Kern (keyN f)) 256)) := by
  have hE := kern_equi (keyN f)
  have hS : ∀ wx, Calls Tryd.prog 15 #[.agg (arr8 f)] wx (RetOwn wx 34 4 encS (setsTo (Kern (keyN f)) 256)) := fun wx => ref_Sets19 f hf wx
  have hl := setsTo_length (Kern (keyN f)) 256
  have hat := leasts_at hE
  have hlt := fun x => reps_lt (Kern (keyN f)) 256 x
  have hm := reps_length (Kern (keyN f)) 256
  have hw := widR_def (Kern (keyN f))
  rw [hw] at hl
  generalize setsTo (Kern (keyN f)) 256 = L at *
  generalize reps (Kern (keyN f)) 256 = xs at *
  obtain ⟨m, hxm⟩ : ∃ m, xs.length = m := ⟨_, rfl⟩
  rw [hxm] at hl hm
  have HS := Lib.hid hS
  have HL := Lib.hid hl
  have HA := Lib.hid hat
  have HX := Lib.hid hlt
  have HM := Lib.hid hxm
  clear hE hS hl hat hlt hw hxm hf
  go_enter Tryd.func17, Tryd.ntmps17
  go_wp2_with (first | (refine wpList_load_row rfl 22 (.tmp 1) rfl _ rfl _ _ _ _ ((Box.new _ _ _).alloc _) Tryd.underlying22 rfl (size_256 _) ?_) | (go_at_call 15; go_must (refine (HS.out _).mono ?_; intro e w1 h1; obtain ⟨a1, cap1, rfl, o1, hb1⟩ := h1; rw [HL.out] at o1 ⊢)))
  have ho0 : Own w1 w.heap.size 5 1 encB (.slice (some ⟨w.heap.size + 1, 0, none⟩) 0 0) [] := (Own.empty' (by simp) w.heap.size 5 1 encB (by simp)).kept hb1
  have hB1 : Below w.heap.size w w1 := (((Below.refl w.heap.size w).alloc (Nat.le_refl _) (.cells (arr8 f) 22)).alloc (by simp) (.cells #[] 5)).trans (hb1.mono (by simp; omega))
  have hsz := hB1.size
  have hmx := hb1.size
  rw [World.size_alloc, World.size_alloc] at hmx
  clear hb1
  go_loopw [3, 5] (fun v i wr => ∃ (k : Nat) (a : Option Addr) (cap : Nat), k ≤ m ∧ i = .int .i64 k ∧ v = .slice a k cap ∧ Own wr w.heap.size 5 1 encB (.slice a k cap) (xs.take k) ∧ Own wr (w.heap.size + 1 + 1) 34 4 encS (.slice a1 m cap1) L ∧ Below w.heap.size w wr) (fun _ i _ => m - (intOf i).toNat)
  case atStart => exact ⟨0, _, 0, Nat.zero_le _, rfl, rfl, ho0, o1.mono (by simp), hB1⟩
  case round =>
    clear ho0 o1
    obtain ⟨k, a, cap, hk, rfl, rfl, hown, hS, hB⟩ := hrel
    by_cases hlt : k < m
    · have hk2 : k < L.length := by rw [HL.out]; exact hlt
      have hk3 : k < xs.length := by rw [HM.out]; exact hlt
      have hl1 := HA.out k hk2 hk3
      have hx := HX.out _ (List.getElem_mem hk3)
      obtain ⟨g1, rfl, hg1, _⟩ := hS.addr (by omega)
      obtain ⟨⟨c0, c1, c2, c3⟩, _⟩ := hS.cells4 hk2
      have htk : xs.take (k + 1) = xs.take k ++ [xs[k]] := List.take_succ_eq_append_getElem hk3
      have hln : (xs.take k).length = k := by rw [List.length_take]; omega
      have hle := fun w => ref_Least L[k] w
      rw [hl1] at hle
      generalize xs[k] = x at *
      generalize L[k] = s at *
      generalize xs.take k = ys at *
      have HLE := Lib.hid hle
      have HTK := Lib.hid htk
      have HLN := Lib.hid hln
      have hln2 : ys.length ≤ 256 := by omega
      have hu8 : IntKind.u8.wrap (x : Int) = (x : Int) := wrap_u8_nat x hx
      clear hl1 htk hln hle
      have hk0 : (0 : Int) ≤ (k : Int) := by omega
      have hkm : (k : Int) < (m : Int) := by omega
      go_wp2_with (first | (go_at_call 31; go_must (refine (HLE.out _).mono ?_; rintro e w5 ⟨rfl, hb5⟩; have hown5 := hown.kept hb5)) | (at_builtin; go_must (refine wpList_append1 rfl _ _ 29 rfl elem_u8 encB_ok rfl (hown5.alloc _) ⟨w5.heap.size, 0, none⟩ 1 x rfl (new_cells w5 [.int .u8 (x : Nat)] _) (by simp [maxLen]; omega) (by omega) (by have := hb5.size; have := hB.size; simp at *; omega) ?_; intro a' cap' W' hown' hg)))
      rw [HLN.out] at hown' ⊢
      go_roundw
      case rel =>
        refine ⟨k + 1, a', cap', hlt, by go_num, rfl, by rw [HTK.out]; exact hown', ((hS.kept hb5).alloc _).grownT (hown5.alloc _) hg (by decide), ?_⟩
        have h6 := hB.trans (hb5.mono hB.size)
        have h7 := h6.alloc h6.size (.cells #[.int .u8 (x : Nat)] 5)
        exact below_grown h7 (hown5.alloc _) hg (Nat.le_refl _) h7.size
      case measure => simp [intOf]; omega
    · obtain rfl : k = m := by omega
      have htk : xs.take k = xs := List.take_of_length_le (by rw [HM.out]; omega)
      go_wp2
      go_ret
      rw [htk] at hown
      exact ⟨a, cap, by rw [HM.out]; rfl, by rw [HM.out]; exact hown, hB⟩
set_option maxHeartbeats 400000 in
theorem law_same (a1 a2 : Option Addr) (n cap1 cap2 : Nat) (L : List BSet) (w : World) (h1 : SliceR w (.slice a1 n cap1) 4 encS L) (h2 : SliceR w (.slice a2 n cap2) 4 encS L) :
    Calls Tryd.prog 13 #[.slice a1 n cap1, .slice a2 n cap2] w (Ret w (.bool true)) := by
  obtain ⟨b1, o1, hlen1, hcap1, hcap1', ha1, _, hcell1⟩ := h1.sets
  obtain ⟨b2, o2, hlen2, hcap2, hcap2', ha2, _, hcell2⟩ := h2.sets
  have HC1 := Lib.hid hcell1
  have HC2 := Lib.hid hcell2
  have HL := Lib.hid hlen1
  have HA1 := Lib.hid ha1
  have HA2 := Lib.hid ha2
  have hnn : n ≤ 9223372036854775807 := by omega
  clear hcell1 hcell2 hlen1 hlen2 h1 h2 ha1 ha2
  go_enter Tryd.func13, Tryd.ntmps13
  go_wp2
  go_loopw [5] (fun i wr => ∃ k : Nat, k ≤ n ∧ i = .int .i64 k ∧ Below w.heap.size w wr) (fun i _ => n - (intOf i).toNat)
  case atStart => exact ⟨0, Nat.zero_le _, rfl, Below.refl _ _⟩
  case round =>
    obtain ⟨k, hk, rfl, hB⟩ := hrel
    by_cases hlt : k < n
    · have hk2 : k < L.length := by rw [← HL.out]; exact hlt
      obtain rfl := HA1.out k hk2
      obtain rfl := HA2.out k hk2
      have hc1 := HC1.out k hk2
      have hc2 := HC2.out k hk2
      have hqq := fun w => run_eqS (P := Tryd.prog) (t := 34) (e := 32) Tryd.underlying34 Tryd.underlying32 (by kernel_rfl) L[k] L[k] w
      simp only [decide_true] at hqq
      generalize L[k] = s at *
      have HQ := Lib.hid hqq
      have HF : Hid (∀ w1, Later wr.drew w1 → Below w.heap.size w w1) := Lib.hid fun w1 hl => (hB.drew).trans (Below.mono hl hB.size)
      have hK1 := Lib.hid hc1
      have hK2 := Lib.hid hc2
      have hk0 : (0 : Int) ≤ (k : Int) := by omega
      have hkm : (k : Int) < (n : Int) := by omega
      clear hqq hc1 hc2 hB
      go_wp2_with fail
      refine wp_region_M 9 (by kernel_rfl) ?_
      refine wpM_take (t := 9) (i := 0) (v := ?_) rfl (by kernel_rfl) (by kernel_rfl) (by kernel_rfl) (by kernel_rfl) (fun _ _ _ h => h) (by rfl) (fun w1 hl => ?_) ?_
      rotate_left
      · obtain ⟨c0, c1, c2, c3⟩ := hK1.out w1 (HF.out w1 hl); obtain ⟨d0, d1, d2, d3⟩ := hK2.out w1 (HF.out w1 hl); have hqq := HQ.out; go_simp; try with_reducible rfl
      simp only [List.getElem_toArray, List.getElem_cons_zero, Act.put, List.setIfInBounds_toArray, List.set_cons_zero, List.set_cons_succ]
      refine wpM_take (t := 9) (i := 1) (v := ?_) rfl (by kernel_rfl) (by kernel_rfl) (by kernel_rfl) (by kernel_rfl) (fun _ _ _ h => h) (by rfl) (fun w1 hl => ?_) ?_
      rotate_left
      · obtain ⟨c0, c1, c2, c3⟩ := hK1.out w1 (HF.out w1 hl); obtain ⟨d0, d1, d2, d3⟩ := hK2.out w1 (HF.out w1 hl); have hqq := HQ.out; go_simp; try with_reducible rfl
      simp only [List.getElem_toArray, List.getElem_cons_zero, List.getElem_cons_succ, Act.put, List.setIfInBounds_toArray, List.set_cons_zero, List.set_cons_succ]
      refine wpM_take (t := 9) (i := 2) (v := ?_) rfl (by kernel_rfl) (by kernel_rfl) (by kernel_rfl) (by kernel_rfl) (fun _ _ _ h => h) (by rfl) (fun w1 hl => ?_) ?_
      rotate_left
      · obtain ⟨c0, c1, c2, c3⟩ := hK1.out w1 (HF.out w1 hl); obtain ⟨d0, d1, d2, d3⟩ := hK2.out w1 (HF.out w1 hl); have hqq := HQ.out; go_simp; try with_reducible rfl
      simp only [List.getElem_toArray, List.getElem_cons_zero, List.getElem_cons_succ, Act.put, List.setIfInBounds_toArray, List.set_cons_zero, List.set_cons_succ]
      refine wpM_take (t := 9) (i := 3) (v := ?_) rfl (by kernel_rfl) (by kernel_rfl) (by kernel_rfl) (by kernel_rfl) (fun _ _ _ h => h) (by rfl) (fun w1 hl => ?_) ?_
      rotate_left
      · obtain ⟨c0, c1, c2, c3⟩ := hK1.out w1 (HF.out w1 hl); obtain ⟨d0, d1, d2, d3⟩ := hK2.out w1 (HF.out w1 hl); have hqq := HQ.out; go_simp; try with_reducible rfl
      simp only [List.getElem_toArray, List.getElem_cons_zero, List.getElem_cons_succ, Act.put, List.setIfInBounds_toArray, List.set_cons_zero, List.set_cons_succ]
      refine wpM_take (t := 9) (i := 4) (v := ?_) rfl (by kernel_rfl) (by kernel_rfl) (by kernel_rfl) (by kernel_rfl) (fun _ _ _ h => h) (by rfl) (fun w1 hl => ?_) ?_
      rotate_left
      · obtain ⟨c0, c1, c2, c3⟩ := hK1.out w1 (HF.out w1 hl); obtain ⟨d0, d1, d2, d3⟩ := hK2.out w1 (HF.out w1 hl); have hqq := HQ.out; go_simp; try with_reducible rfl
      simp only [List.getElem_toArray, List.getElem_cons_zero, List.getElem_cons_succ, Act.put, List.setIfInBounds_toArray, List.set_cons_zero, List.set_cons_succ]
      refine wpM_take (t := 9) (i := 5) (v := ?_) rfl (by kernel_rfl) (by kernel_rfl) (by kernel_rfl) (by kernel_rfl) (fun _ _ _ h => h) (by rfl) (fun w1 hl => ?_) ?_
      rotate_left
      · obtain ⟨c0, c1, c2, c3⟩ := hK1.out w1 (HF.out w1 hl); obtain ⟨d0, d1, d2, d3⟩ := hK2.out w1 (HF.out w1 hl); have hqq := HQ.out; go_simp; try with_reducible rfl
      simp only [List.getElem_toArray, List.getElem_cons_zero, List.getElem_cons_succ, Act.put, List.setIfInBounds_toArray, List.set_cons_zero, List.set_cons_succ]
      refine wpM_take (t := 9) (i := 6) (v := ?_) rfl (by kernel_rfl) (by kernel_rfl) (by kernel_rfl) (by kernel_rfl) (fun _ _ _ h => h) (by rfl) (fun w1 hl => ?_) ?_
      rotate_left
      · obtain ⟨c0, c1, c2, c3⟩ := hK1.out w1 (HF.out w1 hl); obtain ⟨d0, d1, d2, d3⟩ := hK2.out w1 (HF.out w1 hl); have hqq := HQ.out; go_simp; try with_reducible rfl
      simp only [List.getElem_toArray, List.getElem_cons_zero, List.getElem_cons_succ, Act.put, List.setIfInBounds_toArray, List.set_cons_zero, List.set_cons_succ]
      refine wpM_take (t := 9) (i := 7) (v := ?_) rfl (by kernel_rfl) (by kernel_rfl) (by kernel_rfl) (by kernel_rfl) (fun _ _ _ h => h) (by rfl) (fun w1 hl => ?_) ?_
      rotate_left
      · obtain ⟨c0, c1, c2, c3⟩ := hK1.out w1 (HF.out w1 hl); obtain ⟨d0, d1, d2, d3⟩ := hK2.out w1 (HF.out w1 hl); have hqq := HQ.out; go_simp; try with_reducible rfl
      simp only [List.getElem_toArray, List.getElem_cons_zero, List.getElem_cons_succ, Act.put, List.setIfInBounds_toArray, List.set_cons_zero, List.set_cons_succ]
      refine wpM_take (t := 9) (i := 8) (v := ?_) rfl (by kernel_rfl) (by kernel_rfl) (by kernel_rfl) (by kernel_rfl) (fun _ _ _ h => h) (by rfl) (fun w1 hl => ?_) ?_
      rotate_left
      · obtain ⟨c0, c1, c2, c3⟩ := hK1.out w1 (HF.out w1 hl); obtain ⟨d0, d1, d2, d3⟩ := hK2.out w1 (HF.out w1 hl); have hqq := HQ.out; go_simp; try with_reducible rfl
      simp only [List.getElem_toArray, List.getElem_cons_zero, List.getElem_cons_succ, Act.put, List.setIfInBounds_toArray, List.set_cons_zero, List.set_cons_succ]
      refine wpM_done (by kernel_rfl) (fun w1 hl => ?_) _
      go_wp2
      go_roundw
      case rel => exact ⟨k + 1, hlt, by go_num, HF.out _ hl⟩
      case measure => simp [intOf]; omega
    · go_wp2
      go_ret
      exact ⟨rfl, hB⟩
end Go.Proofs.YtinlfbacfmmfpaaDoor
