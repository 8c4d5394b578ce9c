/- Joined by tools/merge.py: ListText, Ref36Text, Read0, Read1. -/
import Derived.Test.YtdhmekpgplajmaaGreatDoorR18
import Derived.Test.YtdhmekpgplajmaaGreatDoorR11
import Derived.Test.YtdhmekpgplajmaaGreatDoorR4
import Derived.Test.YtdhmekpgplajmaaGreatDoorR20
import Derived.Test.YtdhmekpgplajmaaGreatDoorR22
import Derived.RecoverIn
import Derived.Test.YtdhmekpgplajmaaGreatDoorR19x
section
namespace Go.Proofs.YtdhmekpgplajmaaGreatDoor
open Go.RowKit
/-- A line of words. -/
def lineT (ws : List (List UInt8)) : List UInt8 := Lib.join ws [32] ++ [10]
def nameLine (D : PDfa) (i : Nat) : List UInt8 := lineT [[110, 97, 109, 101], showI ((i : Int) + 1), D.names.getD i []]
def setsD (D : PDfa) : List BSet := setsTo (Kern (keyN D.of)) 256
def classLine (D : PDfa) (i : Nat) : List UInt8 := lineT [[99, 108, 97, 115, 115], showI (i : Int), showS ((setsD D).getD i 0)]
def stateLine (D : PDfa) (i : Nat) : List UInt8 := lineT [rowT D i]
def headT (D : PDfa) : List UInt8 := lineT [[109, 97, 99, 104, 105, 110, 101], showI (D.label.length : Nat), showI D.width]
def namesT (D : PDfa) (k : Nat) : List UInt8 := headT D ++ (List.range k).flatMap (nameLine D)
def classesT (D : PDfa) (k : Nat) : List UInt8 := namesT D D.names.length ++ (List.range k).flatMap (classLine D)
def statesT (D : PDfa) (k : Nat) : List UInt8 := classesT D (setsD D).length ++ (List.range k).flatMap (stateLine D)
/-- A machine's text. -/
def textD (D : PDfa) : List UInt8 := statesT D D.label.length
theorem namesT_succ (D : PDfa) (k : Nat) : namesT D (k + 1) = namesT D k ++ nameLine D k := by unfold namesT; rw [List.range_succ, List.flatMap_append]; simp
theorem classesT_succ (D : PDfa) (k : Nat) : classesT D (k + 1) = classesT D k ++ classLine D k := by unfold classesT; rw [List.range_succ, List.flatMap_append]; simp
theorem statesT_succ (D : PDfa) (k : Nat) : statesT D (k + 1) = statesT D k ++ stateLine D k := by unfold statesT; rw [List.range_succ, List.flatMap_append]; simp
theorem lineT_length (ws : List (List UInt8)) (d : Nat) (h : ∀ x ∈ ws, x.length ≤ d) : (lineT ws).length ≤ ws.length * (d + 1) + 1 := by
  unfold lineT; rw [List.length_append]; have := join_length ws d h; simp; omega
theorem line_le (ws : List (List UInt8)) (d m q : Nat) (hm : ws.length = m) (hq : m * (d + 1) + 1 ≤ q) (h : ∀ x ∈ ws, x.length ≤ d) : (lineT ws).length ≤ q := by
  subst hm; exact Nat.le_trans (lineT_length ws d h) hq
theorem showS_length (s : BSet) : (showS s).length ≤ 2310 := by
  have h1 := piecesT_length s
  have h2 := piecesT_length (~~~s)
  unfold showS; split <;> simp <;> omega
theorem name_length {D : PDfa} (h : rightD D = true) : ∀ x ∈ D.names, x.length ≤ 32 := by
  intro x hx
  obtain ⟨i, hi, rfl⟩ := List.mem_iff_getElem.1 hx
  unfold rightD at h
  simp only [Bool.and_eq_true, decide_eq_true_eq, beq_iff_eq] at h
  obtain ⟨_, _, h5, _⟩ := h
  unfold namesOK namesTo at h5
  simp only [Bool.and_eq_true, List.all_eq_true] at h5
  have := h5.2 i (by simpa using hi)
  unfold nameAt nameT at this
  simp only [Bool.and_eq_true, decide_eq_true_eq, List.getD_eq_getElem?_getD, List.getElem?_eq_getElem hi, Option.getD_some] at this
  exact this.1.1.2
theorem rowT_length {D : PDfa} (h : rightD D = true) (s : Nat) (hs : s < D.label.length) : (rowT D s).length ≤ 5200 := by
  obtain ⟨f1, f2, f3, f4, f5, f6, f7⟩ := rightD_facts h
  obtain ⟨g1, g2, g3, g4⟩ := f7 s (by omega) hs
  unfold rowT
  refine Nat.le_trans (join_length _ 19 ?_) ?_
  · intro x hx
    unfold rowWords at hx
    simp only [List.getD_eq_getElem?_getD, List.getElem?_eq_getElem hs, List.getElem?_eq_getElem (show s < D.next.length by omega), Option.getD_some, List.mem_cons, List.mem_map] at hx
    rcases hx with rfl | rfl | rfl | ⟨y, hy, rfl⟩
    · decide
    · exact showI_length _ (by omega)
    · exact showI_length _ (by omega)
    · have := g4 y hy; exact showI_length _ (by omega)
  · unfold rowWords
    simp only [List.getD_eq_getElem?_getD, List.getElem?_eq_getElem (show s < D.next.length by omega), Option.getD_some, List.length_cons, List.length_map]
    omega
theorem flat_length (f : Nat → List UInt8) (d : Nat) : ∀ k, (∀ i, i < k → (f i).length ≤ d) → ((List.range k).flatMap f).length ≤ k * d
  | 0, _ => by simp
  | k + 1, h => by
    rw [List.range_succ, List.flatMap_append, List.length_append, Nat.succ_mul]
    have := flat_length f d k (fun i hi => h i (by omega))
    have := h k (by omega)
    rw [List.flatMap_cons, List.flatMap_nil, List.append_nil]; omega
theorem setsD_length (D : PDfa) : (setsD D).length ≤ 256 := by unfold setsD; rw [setsTo_length]; exact widR_le _
theorem namesT_length {D : PDfa} (h : rightD D = true) (k : Nat) (hk : k ≤ D.names.length) : (namesT D k).length ≤ 10000 := by
  obtain ⟨f1, f2, f3, f4, f5, f6, f7⟩ := rightD_facts h
  unfold namesT
  rw [List.length_append]
  have h1 : (headT D).length ≤ 3 * 20 + 1 := lineT_length _ 19 (by
    intro x hx; simp only [List.mem_cons, List.not_mem_nil, or_false] at hx
    rcases hx with rfl | rfl | rfl
    · decide
    · exact showI_length _ (by omega)
    · exact showI_length _ (by omega))
  have h2 := flat_length (nameLine D) 100 k (fun i hi => lineT_length _ 32 (by
    intro x hx; simp only [List.mem_cons, List.not_mem_nil, or_false] at hx
    rcases hx with rfl | rfl | rfl
    · decide
    · exact Nat.le_trans (showI_length _ (by omega)) (by decide)
    · rw [List.getD_eq_getElem?_getD, List.getElem?_eq_getElem (show i < D.names.length by omega)]; exact name_length h _ (List.getElem_mem _)))
  omega
theorem classesT_length {D : PDfa} (h : rightD D = true) (k : Nat) (hk : k ≤ 256) : (classesT D k).length ≤ 2000000 := by
  unfold classesT
  rw [List.length_append]
  have h1 := namesT_length h _ (Nat.le_refl _)
  have h2 := flat_length (classLine D) 6934 k (fun i hi => line_le _ 2310 3 6934 rfl (by omega) (by
    intro x hx; simp only [List.mem_cons, List.not_mem_nil, or_false] at hx
    rcases hx with rfl | rfl | rfl
    · decide
    · exact Nat.le_trans (showI_length _ (by omega)) (by decide)
    · exact showS_length _))
  omega
theorem statesT_length {D : PDfa} (h : rightD D = true) (k : Nat) (hk : k ≤ D.label.length) : (statesT D k).length ≤ 1000000000 := by
  obtain ⟨f1, f2, f3, f4, f5, f6, f7⟩ := rightD_facts h
  unfold statesT
  rw [List.length_append]
  have h1 := classesT_length h _ (setsD_length D)
  have h2 := flat_length (stateLine D) 5202 k (fun i hi => line_le [rowT D i] 5200 1 5202 rfl (by omega) (by
    intro x hx; simp only [List.mem_cons, List.not_mem_nil, or_false] at hx
    subst hx; exact rowT_length h i (by omega)))
  omega
/-- What lies while the text is written. -/
def TxtS (V : VDfa) (w : World) (b : Nat) (l : List UInt8) (w' : World) : Prop := Box w' w.heap.size V.cells 28 ∧ Bld b b l w' ∧ Below w.heap.size w w' ∧ w.heap.size < b
theorem TxtS.kept {V : VDfa} {w w1 w2 : World} {b : Nat} {l : List UInt8} (h : TxtS V w b l w1) (hb : Below w1.heap.size w1 w2) : TxtS V w b l w2 :=
  ⟨h.1.kept hb, h.2.1.kept hb, h.2.2.1.trans (hb.mono h.2.2.1.size), h.2.2.2⟩
theorem TxtS.wrote {V : VDfa} {w w1 w2 : World} {b : Nat} {l l2 : List UInt8} (h : TxtS V w b l w1) (hb : Bld b b l2 w2) (hB : Below b w1 w2) : TxtS V w b l2 w2 :=
  ⟨h.1.below hB h.2.2.2, hb, h.2.2.1.trans (hB.mono (Nat.le_of_lt h.2.2.2)), h.2.2.2⟩
theorem TxtS.le {V : VDfa} {w w1 : World} {b : Nat} {l : List UInt8} (h : TxtS V w b l w1) : b ≤ w1.heap.size := Nat.le_of_lt h.2.1.at.2
set_option maxRecDepth 20000 in
set_option maxHeartbeats 3200000 in
theorem list_Text (V : VDfa) (D : PDfa) (w : World) (h : ReadsD w V D) (hl : ∀ x ∈ D.names, x.length ≤ 9223372036854775807) (hT : Tab w) :
    Calls Tryz.prog 11 #[.agg V.cells] w (Ret w (if rightD D = true then .tuple #[sv (textD D), .int .i64 0] else .tuple #[sv [], .int .i64 6])) := by
  have hRt := fun w1 (hb : Below w.heap.size w w1) => dfa_Right V D w1 (h.kept hb) hl
  have hbx := Box.new w V.cells 28
  have hB0 := later_alloc w (.cells V.cells 28)
  by_cases hR : rightD D = true
  · rw [hR] at hRt
    rw [if_pos hR]
    obtain ⟨f1, f2, f3, f4, f5, f6, f7⟩ := rightD_facts hR
    obtain ⟨hln, hmn, hnn⟩ := h.lens
    have hwd := h.2.1
    have hlb : V.ln ≤ 65536 := by omega
    have hmb : V.mn ≤ 64 := by omega
    have hs1 := fun w => num_Show (V.ln : Int) w (by omega) (by omega)
    have hs2 := fun w => num_Show V.width w (by omega) (by omega)
    have hhd : headT D = lineT [[109, 97, 99, 104, 105, 110, 101], showI (V.ln : Int), showI V.width] := by rw [headT, hln, hwd]
    have HRt := Lib.hid hRt
    have HS1 := Lib.hid hs1
    have HS2 := Lib.hid hs2
    have HHD := Lib.hid hhd
    have hT1 := Lib.hid hT
    have HH := Lib.hid h
    have HRR := Lib.hid hR
    have HLN := Lib.hid hln
    have HMN := Lib.hid hmn
    clear hRt hs1 hs2 hhd hT h hR hln hmn hnn hwd f7 hl
    go_enter Tryz.func11, Tryz.ntmps11
    go_wp2_with (first | (refine wpList_load_row rfl 28 (.tmp 1) rfl w.heap.size rfl _ _ _ _ hbx Tryz.underlying28 rfl (size_dfa _) ?_) | (go_at_call 28; go_must (refine (HRt.out _ hB0).mono ?_; rintro e w2 ⟨rfl, hB2⟩)))
    have hB2' : Below w.heap.size w w2 := hB0.trans (hB2.mono (by simp))
    have hwb : w.heap.size < w2.heap.size := by have := hB2.size; simp at this; omega
    have hS0 : TxtS V w w2.heap.size [] (w2.alloc (.cells #[.pointer none, .slice none 0 0] 58)) :=
      ⟨(hbx.kept hB2).alloc _, Bld.fresh (Nat.le_refl _), hB2'.alloc hB2'.size _, hwb⟩
    generalize w2.alloc (.cells #[.pointer none, .slice none 0 0] 58) = W at *
    generalize w2.heap.size = b at *
    have HF : Hid (∀ v, Later W.drew v → TxtS V w b [] v) := Lib.hid fun v hl => (hS0.kept (Below.refl _ _).drew).kept hl
    clear hS0 hB2' hB2 hbx hB0 hwb
    refine wp_region_M (R := Later) 9 (by kernel_rfl) ?_
    refine tkM 0 ?_ rfl (fun w1 hl => ?_) ?_
    rotate_left
    · obtain ⟨x0, x1, x2, x3⟩ := (HF.out w1 hl).1.dfa; go_simp; try with_reducible rfl
    simp only [eA, eB, Act.put, eD, eE, eF]
    refine tkM 1 ?_ rfl (fun w1 hl => ?_) ?_
    rotate_left
    · obtain ⟨x0, x1, x2, x3⟩ := (HF.out w1 hl).1.dfa; go_simp; try with_reducible rfl
    simp only [eA, eB, eC, Act.put, eD, eE, eF]
    refine tkM 2 ?_ rfl (fun w1 hl => ?_) ?_
    rotate_left
    · obtain ⟨x0, x1, x2, x3⟩ := (HF.out w1 hl).1.dfa; go_simp; try with_reducible rfl
    simp only [eA, eB, eC, Act.put, eD, eE, eF]
    refine tkM 3 ?_ rfl (fun w1 hl => ?_) ?_
    rotate_left
    · obtain ⟨x0, x1, x2, x3⟩ := (HF.out w1 hl).1.dfa; go_simp; try with_reducible rfl
    simp only [eA, eB, eC, Act.put, eD, eE, eF]
    refine tkM 5 ?_ rfl (fun w1 hl => ?_) ?_
    rotate_left
    · obtain ⟨x0, x1, x2, x3⟩ := (HF.out w1 hl).1.dfa; go_simp; try with_reducible rfl
    simp only [eA, eB, eC, Act.put, eD, eE, eF]
    refine tkM 6 ?_ rfl (fun w1 hl => ?_) ?_
    rotate_left
    · obtain ⟨x0, x1, x2, x3⟩ := (HF.out w1 hl).1.dfa; go_simp; try with_reducible rfl
    simp only [eA, eB, eC, Act.put, eD, eE, eF]
    refine wpM_call (t := 9) (i := 4) (f := ?_) (args := ?_) (v := ?_) rfl (by kernel_rfl) (by kernel_rfl) (by kernel_rfl) (by kernel_rfl) (fun _ _ _ h => h) (by rfl) (fun w1 => ?_) (fun w1 hl => ?_) ?_
    rotate_left 4
    · exact HS1.out w1
    rotate_left
    · go_simp
    simp only [eA, eB, eC, Act.put, eD, eE, eF]
    refine wpM_call (t := 9) (i := 7) (f := ?_) (args := ?_) (v := ?_) rfl (by kernel_rfl) (by kernel_rfl) (by kernel_rfl) (by kernel_rfl) (fun _ _ _ h => h) (by rfl) (fun w1 => ?_) (fun w1 hl => ?_) ?_
    rotate_left 4
    · exact HS2.out w1
    rotate_left
    · go_simp
    simp only [eA, eB, eC, Act.put, eD, eE, eF]
    refine wpM_one (t := 9) (i := 8) (by kernel_rfl) rfl (fun w1 hl K hK => ?_)
    go_simp
    refine hK.out _ _ (fun _ => later_alloc _ _) ?_
    have hsl : SliceR (w1.alloc (.cells #[.string ⟨#[109, 97, 99, 104, 105, 110, 101]⟩, sv (showI (V.ln : Int)), sv (showI V.width)] 9)) (.slice (some ⟨w1.heap.size, 0, none⟩) 3 3) 1 encT [[109, 97, 99, 104, 105, 110, 101], showI (V.ln : Int), showI V.width] := sl_new encT_ok w1 9 [[109, 97, 99, 104, 105, 110, 101], showI (V.ln : Int), showI V.width] (by simp [maxLen])
    have hL1 : Later W.drew (w1.alloc (.cells #[.string ⟨#[109, 97, 99, 104, 105, 110, 101]⟩, sv (showI (V.ln : Int)), sv (showI V.width)] 9)) := Later.trans _ _ _ hl (later_alloc _ _)
    clear hK K
    refine wpM_one (t := 9) (i := 9) (by kernel_rfl) rfl (fun w1 hl K hK => ?_)
    have hS1 := HF.out w1 (Later.trans _ _ _ hL1 hl)
    have hjl := lineT_length [[109, 97, 99, 104, 105, 110, 101], showI (V.ln : Int), showI V.width] 19 (by
      intro x hx; simp only [List.mem_cons, List.not_mem_nil, or_false] at hx
      rcases hx with rfl | rfl | rfl
      · decide
      · exact showI_length _ (by omega)
      · exact showI_length _ (by have := HH.out.2.1; omega))
    unfold lineT at hjl
    rw [List.length_append] at hjl
    go_simp
    refine (text_line b b [] _ _ 3 _ w1 hS1.2.1 (hsl.kept hl) (by simp) (by simp) (by simp at hjl ⊢; omega) hS1.le).mono ?_
    rintro e w3 ⟨rfl, hb3, hB3, ho3⟩
    have hS3 := hS1.wrote hb3 hB3
    rw [List.nil_append] at hS3
    have e0 : Lib.join [[109, 97, 99, 104, 105, 110, 101], showI (V.ln : Int), showI V.width] [32] ++ [10] = namesT D 0 := by rw [namesT, List.range_zero, List.flatMap_nil, List.append_nil, HHD.out]; rfl
    rw [e0] at hS3
    refine hK.out _ _ (fun h => absurd rfl h) ?_
    clear hK K hS1 hb3 hB3 ho3 e0 hjl hsl hL1 HF HS1 HS2 HHD
    refine wpM_done (by kernel_rfl) (fun w1 hl => ?_) _
    have hS4 := hS3.kept hl
    clear hS3 hl
    obtain ⟨x0, x1, x2, x3⟩ := hS4.1.dfa
    obtain ⟨b4, o4, e4, _, _, a4, k4⟩ := HH.out.2.2.2.1.cells1
    have HA4 := Lib.hid a4
    have HK4 := Lib.hid k4
    clear e4 a4 k4
    go_wp2
    clear x0 x1 x2 x3
    go_loopw [28] (fun i wr => ∃ k : Nat, k ≤ V.mn ∧ i = .int .i64 k ∧ TxtS V w b (namesT D k) wr) (fun i _ => V.mn - (intOf i).toNat)
    case atStart => exact ⟨0, Nat.zero_le _, rfl, hS4⟩
    case round =>
      clear hS4
      obtain ⟨k, hk, rfl, hS⟩ := hrel
      by_cases hlt : k < V.mn
      · have hk2 : k < D.names.length := by rw [← HMN.out]; exact hlt
        have ha := HA4.out k hk2
        have c4 := HK4.out k hk2 wr hS.2.2.1
        have hsh := fun w => num_Show ((k : Int) + 1) w (by omega) (by omega)
        have hnl : nameLine D k = lineT [[110, 97, 109, 101], showI ((k : Int) + 1), D.names[k]] := by
          rw [nameLine, List.getD_eq_getElem?_getD, List.getElem?_eq_getElem hk2]; rfl
        have hsu := namesT_succ D k
        have hln := namesT_length HRR.out k (by omega)
        have hnm := name_length HRR.out _ (List.getElem_mem hk2)
        rw [hnl] at hsu
        have hjl := lineT_length [[110, 97, 109, 101], showI ((k : Int) + 1), D.names[k]] 32 (by
          intro x hx; simp only [List.mem_cons, List.not_mem_nil, or_false] at hx
          rcases hx with rfl | rfl | rfl
          · decide
          · exact Nat.le_trans (showI_length _ (by omega)) (by decide)
          · exact hnm)
        unfold lineT at hjl hsu
        rw [List.length_append] at hjl
        generalize D.names[k] = nm at *
        generalize showI ((k : Int) + 1) = t1 at *
        generalize namesT D k = acc at *
        have hll : acc.length + (Lib.join [[110, 97, 109, 101], t1, nm] [32]).length + 1 ≤ 140737488355328 := by simp at hjl; omega
        have HLL := Lib.hid hll
        have HSU := Lib.hid hsu
        have HSH := Lib.hid hsh
        have HS := Lib.hid hS
        have hk0 : (0 : Int) ≤ (k : Int) := by omega
        have hkm : (k : Int) < (V.mn : Int) := by omega
        clear hsh hnl hsu hln hnm hjl hll hS
        rw [ha]
        go_wp2_with (first | (go_at_call 33; go_must (refine (HSH.out _).mono ?_; rintro e w5 ⟨rfl, hb5⟩; have hS5 := HS.out.kept hb5)) | (go_at_call 29; go_must (refine (text_line b b acc _ _ 3 [[110, 97, 109, 101], t1, nm] _ (hS5.2.1.kept (later_alloc _ _)) (sl_new encT_ok w5 9 [[110, 97, 109, 101], t1, nm] (by simp [maxLen])) (by simp) (by simp) HLL.out (Nat.le_trans hS5.le (by simp))).mono ?_; rintro e w6 ⟨rfl, hb6, hB6, ho6⟩)))
        go_roundw
        case rel => exact ⟨k + 1, hlt, by go_num, by rw [HSU.out]; exact (hS5.kept (later_alloc _ _)).wrote hb6 hB6⟩
        case measure => simp [intOf]; omega
      · obtain rfl : k = V.mn := by omega
        have hps := fun w => parts_Sets V.of w
        have hsd : setsTo (Kern (keyN V.of)) 256 = setsD D := by rw [HH.out.1]; rfl
        rw [hsd] at hps
        have hLl := setsD_length D
        have hns : namesT D V.mn = classesT D 0 := by rw [classesT, List.range_zero, List.flatMap_nil, List.append_nil, HMN.out]
        rw [hns] at hS
        obtain ⟨m, hm⟩ : ∃ m, (setsD D).length = m := ⟨_, rfl⟩
        rw [hm] at hLl
        have HPS := Lib.hid hps
        have HM := Lib.hid hm
        have hbx := hS.1
        have HS := Lib.hid hS
        clear hps hsd hm hns hS
        go_wp2_with (first | (refine wpList_load_of (by rfl) 23 _ rfl w.heap.size rfl hbx Tryz.underlying23 rfl (size_256 _) ?_) | (go_at_call 34; go_must (refine (HPS.out _).mono ?_; intro e w5 h5; obtain ⟨a5, cap5, rfl, o5, hB5⟩ := h5; rw [HM.out] at o5 ⊢)))
        have hS5 := HS.out.kept hB5
        have o6 := o5.mono (base' := w.heap.size) HS.out.2.2.1.size
        clear hbx hB5 o5 HPS
        go_loopw [45] (fun i wr => ∃ k : Nat, k ≤ m ∧ i = .int .i64 k ∧ TxtS V w b (classesT D k) wr ∧ Own wr w.heap.size 43 4 encS (.slice a5 m cap5) (setsD D)) (fun i _ => m - (intOf i).toNat)
        case atStart => exact ⟨0, Nat.zero_le _, rfl, hS5, o6⟩
        case round =>
          clear hS5 o6 HS
          obtain ⟨k, hk2, rfl, hS, ho⟩ := hrel
          by_cases hlt2 : k < m
          · obtain ⟨g5, rfl, _, _⟩ := ho.addr (by omega)
            have hk3 : k < (setsD D).length := by rw [HM.out]; exact hlt2
            obtain ⟨⟨q0, q1, q2, q3⟩, _⟩ := ho.cells4 hk3
            have hsh := fun w => num_Show (k : Int) w (by omega) (by omega)
            have hcl : classLine D k = lineT [[99, 108, 97, 115, 115], showI (k : Int), showS (setsD D)[k]] := by
              rw [classLine, List.getD_eq_getElem?_getD, List.getElem?_eq_getElem hk3]; rfl
            have hsu := classesT_succ D k
            have hln := classesT_length HRR.out k (by omega)
            rw [hcl] at hsu
            have hjl := line_le [[99, 108, 97, 115, 115], showI (k : Int), showS (setsD D)[k]] 2310 3 6934 rfl (by omega) (by
              intro x hx; simp only [List.mem_cons, List.not_mem_nil, or_false] at hx
              rcases hx with rfl | rfl | rfl
              · decide
              · exact Nat.le_trans (showI_length _ (by omega)) (by decide)
              · exact showS_length _)
            have hcs := fun w hT => class_Show (setsD D)[k] w hT
            unfold lineT at hjl hsu
            rw [List.length_append] at hjl
            generalize (setsD D)[k] = st at *
            generalize showI (k : Int) = t1 at *
            generalize showS st = t2 at *
            generalize classesT D k = acc at *
            have hll : acc.length + (Lib.join [[99, 108, 97, 115, 115], t1, t2] [32]).length + 1 ≤ 140737488355328 := by simp at hjl; omega
            have HLL := Lib.hid hll
            have HSU := Lib.hid hsu
            have HSH := Lib.hid hsh
            have HCS := Lib.hid hcs
            have hk0 : (0 : Int) ≤ (k : Int) := by omega
            have hkm : (k : Int) < (m : Int) := by omega
            clear hsh hcl hsu hln hjl hll hcs hk3
            go_wp2_with fail
            have hx9 := Box.new wr (setC st) 43
            have hS9 := hS.kept (later_alloc wr (.cells (setC st) 43))
            have ho9 := ho.kept (later_alloc wr (.cells (setC st) 43))
            have HF : Hid (∀ v, Later (wr.alloc (.cells (setC st) 43)).drew v → TxtS V w b acc v ∧ Own v w.heap.size 43 4 encS (.slice (some ⟨g5, 0, none⟩) m cap5) (setsD D) ∧ Box v wr.heap.size (setC st) 43) :=
              Lib.hid fun v hl => ⟨(hS9.kept (Below.refl _ _).drew).kept hl, (ho9.kept (Below.refl _ _).drew).kept hl, hx9.drew.kept hl⟩
            clear hx9 hS9 ho9 hS ho q0 q1 q2 q3
            refine wp_region_M (R := Later) 6 (by kernel_rfl) ?_
            refine tkM 0 ?_ rfl (fun w1 hl => ?_) ?_
            rotate_left
            · obtain ⟨⟨x0, x1, x2, x3⟩, _⟩ := (HF.out w1 hl).2.2.set4; go_simp; try with_reducible rfl
            simp only [eA, eB, Act.put, eD, eE, eF]
            refine tkM 1 ?_ rfl (fun w1 hl => ?_) ?_
            rotate_left
            · obtain ⟨⟨x0, x1, x2, x3⟩, _⟩ := (HF.out w1 hl).2.2.set4; go_simp; try with_reducible rfl
            simp only [eA, eB, eC, Act.put, eD, eE, eF]
            refine tkM 3 ?_ rfl (fun w1 hl => ?_) ?_
            rotate_left
            · obtain ⟨⟨x0, x1, x2, x3⟩, _⟩ := (HF.out w1 hl).2.2.set4; go_simp; try with_reducible rfl
            simp only [eA, eB, eC, Act.put, eD, eE, eF]
            refine wpM_call (t := 6) (i := 2) (f := ?_) (args := ?_) (v := ?_) rfl (by kernel_rfl) (by kernel_rfl) (by kernel_rfl) (by kernel_rfl) (fun _ _ _ h => h) (by rfl) (fun w1 => ?_) (fun w1 hl => ?_) ?_
            rotate_left 4
            · exact HSH.out w1
            rotate_left
            · go_simp
            simp only [eA, eB, eC, Act.put, eD, eE, eF]
            refine wpM_call (t := 6) (i := 4) (f := ?_) (args := ?_) (v := ?_) rfl (by kernel_rfl) (by kernel_rfl) (by kernel_rfl) (by kernel_rfl) (fun _ _ _ h => h) (by rfl) (fun w1 => ?_) (fun w1 hl => ?_) ?_
            rotate_left 4
            · exact HCS.out w1 (hT1.out.kept (HF.out w1 hl).1.2.2.1)
            rotate_left
            · go_simp
            simp only [eA, eB, eC, Act.put, eD, eE, eF]
            refine wpM_one (t := 6) (i := 5) (by kernel_rfl) rfl (fun w1 hl K hK => ?_)
            go_simp
            refine hK.out _ _ (fun _ => later_alloc _ _) ?_
            have hsl := sl_new encT_ok w1 9 [[99, 108, 97, 115, 115], t1, t2] (by simp [maxLen])
            have hL1 := Later.trans _ _ _ hl (later_alloc w1 (.cells ([[99, 108, 97, 115, 115], t1, t2].flatMap encT).toArray 9))
            clear hK K
            refine wpM_one (t := 6) (i := 6) (by kernel_rfl) rfl (fun w1 hl K hK => ?_)
            obtain ⟨hS1, ho1, _⟩ := HF.out w1 (Later.trans _ _ _ hL1 hl)
            go_simp
            refine (text_line b b acc _ _ 3 _ w1 hS1.2.1 (hsl.kept hl) (by simp) (by simp) HLL.out hS1.le).mono ?_
            rintro e w3 ⟨rfl, hb3, hB3, ho3⟩
            have hS3 := hS1.wrote hb3 hB3
            have ho4 := ho3.own hS1.2.1 ho1 (by decide) (by decide)
            refine hK.out _ _ (fun h => absurd rfl h) ?_
            clear hK K hS1 ho1 hb3 hB3 ho3 hsl hL1 HF
            refine wpM_done (by kernel_rfl) (fun w1 hl => ?_) _
            have hS7 := hS3.kept hl
            have ho7 := ho4.kept hl
            clear hS3 ho4 hl
            go_wp2
            go_roundw
            case rel => exact ⟨k + 1, hlt2, by go_num, by rw [HSU.out]; exact hS7, ho7⟩
            case measure => simp [intOf]; omega
          · obtain rfl : k = m := by omega
            have hcs : classesT D k = statesT D 0 := by rw [statesT, List.range_zero, List.flatMap_nil, List.append_nil, HM.out]
            rw [hcs] at hS
            obtain ⟨x0, x1, x2, x3⟩ := hS.1.dfa
            have HS := Lib.hid hS
            clear hcs ho
            go_wp2
            clear x0 x1 x2 x3
            go_loopw [61] (fun i wr => ∃ k : Nat, k ≤ V.ln ∧ i = .int .i64 k ∧ TxtS V w b (statesT D k) wr) (fun i _ => V.ln - (intOf i).toNat)
            case atStart => exact ⟨0, Nat.zero_le _, rfl, HS.out⟩
            case round =>
              clear hS HS
              obtain ⟨k, hk, rfl, hS⟩ := hrel
              by_cases hlt3 : k < V.ln
              · have hk2 : k < D.label.length := by rw [← HLN.out]; exact hlt3
                have hrw := fun w1 (hb : Below w.heap.size w w1) => list_row V D k w1 (HH.out.kept hb) HRR.out hk2
                have hsu := statesT_succ D k
                have hln := statesT_length HRR.out k (by omega)
                have hrl := rowT_length HRR.out k hk2
                have hj1 : Lib.join [rowT D k] [32] = rowT D k := Lib.join_one _ _
                rw [stateLine, lineT, hj1] at hsu
                generalize rowT D k = t1 at *
                generalize statesT D k = acc at *
                have hll : acc.length + (Lib.join [t1] [32]).length + 1 ≤ 140737488355328 := by rw [Lib.join_one]; omega
                have HLL := Lib.hid hll
                have HSU := Lib.hid hsu
                have HRW := Lib.hid hrw
                have HJ1 := Lib.hid hj1
                have hbx := hS.1
                have HS := Lib.hid hS
                have hk0 : (0 : Int) ≤ (k : Int) := by omega
                have hkm : (k : Int) < (V.ln : Int) := by omega
                clear hsu hln hrl hrw hll hS hj1
                go_wp2_with (first | (refine wpList_load_row rfl 28 (.tmp 1) rfl w.heap.size rfl _ _ _ _ hbx Tryz.underlying28 rfl (size_dfa _) ?_) | (go_at_call 36; go_must (refine (HRW.out _ HS.out.2.2.1).mono ?_; rintro e w5 ⟨rfl, hb5⟩; have hS5 := HS.out.kept hb5)) | (go_at_call 29; go_must (refine (text_line b b acc _ _ 1 [t1] _ (hS5.2.1.kept (later_alloc _ _)) (sl_new encT_ok w5 9 [t1] (by simp [maxLen])) (by simp) (by simp) HLL.out (Nat.le_trans hS5.le (by simp))).mono ?_; rintro e w6 ⟨rfl, hb6, hB6, ho6⟩)))
                go_roundw
                case rel =>
                  have h7 := (hS5.kept (later_alloc _ _)).wrote hb6 hB6
                  rw [HJ1.out] at h7
                  exact ⟨k + 1, hlt3, by go_num, by rw [HSU.out]; exact h7⟩
                case measure => simp [intOf]; omega
              · obtain rfl : k = V.ln := by omega
                have hst : statesT D V.ln = textD D := by rw [HLN.out]; rfl
                rw [hst] at hS
                go_wp2_with (go_at_call 37; go_must (refine (b_String b b (textD D) _ hS.2.1 hS.le).mono ?_; rintro e w9 ⟨rfl, hb9, hB9, _⟩))
                go_ret2
                exact ⟨rfl, hS.2.2.1.trans (hB9.mono (Nat.le_of_lt hS.2.2.2))⟩
  · have hR2 := Bool.eq_false_iff.2 hR
    rw [hR2] at hRt
    rw [if_neg hR]
    have HRt := Lib.hid hRt
    clear hRt hT h hR hR2 hl
    go_enter Tryz.func11, Tryz.ntmps11
    go_wp2_with (first | (refine wpList_load_row rfl 28 (.tmp 1) rfl w.heap.size rfl _ _ _ _ hbx Tryz.underlying28 rfl (size_dfa _) ?_) | (go_at_call 28; go_must (refine (HRt.out _ hB0).mono ?_; rintro e w2 ⟨rfl, hB2⟩)))
    go_ret2
    exact ⟨rfl, hB0.trans (hB2.mono (by simp))⟩
end Go.Proofs.YtdhmekpgplajmaaGreatDoor
end
section
namespace Go.Proofs.YtdhmekpgplajmaaGreatDoor
open Go.RowKit
theorem line3 (a b c : List UInt8) : lineT [a, b, c] = a ++ 32 :: (b ++ 32 :: (c ++ [10])) := by
  rw [lineT, Lib.join_cons]
  simp [Lib.joinTail]
theorem line1 (a : List UInt8) : lineT [a] = a ++ [10] := by
  rw [lineT, Lib.join_cons]
  simp [Lib.joinTail]
set_option maxRecDepth 20000 in
set_option maxHeartbeats 3200000 in
theorem ref36_Text (V : VDfa) (D : PDfa) (w : World) (h : ReadsD w V D) (hof : ∀ b, V.of b < 256) (hl : ∀ x ∈ D.names, x.length ≤ 9223372036854775807) :
    Calls Tryz.prog 12 #[.agg V.cells] w (Ret w (if rightD D = true then .tuple #[sv (textD D), .int .i64 0] else .tuple #[sv [], .int .i64 6])) := by
  have hRt := fun w1 (hb : Below w.heap.size w w1) => ref20_Right V D w1 (h.kept hb) hof hl
  have hbx := Box.new w V.cells 28
  have hB0 := later_alloc w (.cells V.cells 28)
  by_cases hR : rightD D = true
  · rw [hR] at hRt
    rw [if_pos hR]
    obtain ⟨f1, f2, f3, f4, f5, f6, f7⟩ := rightD_facts hR
    obtain ⟨hln, hmn, hnn⟩ := h.lens
    have hwd := h.2.1
    have hlb : V.ln ≤ 65536 := by omega
    have hmb : V.mn ≤ 64 := by omega
    have hs1 := fun w => ref01_Show (V.ln : Int) w (by omega)
    have hs2 := fun w => ref01_Show V.width w (by omega)
    have hhd : namesT D 0 = lineT [[109, 97, 99, 104, 105, 110, 101], showI (V.ln : Int), showI V.width] := by rw [namesT, List.range_zero, List.flatMap_nil, List.append_nil, headT, hln, hwd]
    rw [line3] at hhd
    have hl1 := showI_length (V.ln : Int) (by omega)
    have hl2 := showI_length V.width (by omega)
    have hcs := fun w => conv_strU (P := Tryz.prog) (src := 56) (dst := 9) Tryz.underlying56 Tryz.underlying5 Tryz.underlying9 (xs := [10]) rfl (sl_new encU_ok w 5 [10] (by simp [maxLen]))
    have hcs2 : ∀ w : World, (convert 56 9 (.slice (some ⟨w.heap.size, 0, none⟩) 1 1)).run Tryz.prog (w.alloc (.cells #[.int .u8 10] 5)) = .ok (sv [10]) (w.alloc (.cells #[.int .u8 10] 5)) := hcs
    clear hcs
    generalize showI (V.ln : Int) = t1 at *
    generalize showI V.width = t2 at *
    have HRt := Lib.hid hRt
    have HS1 := Lib.hid hs1
    have HS2 := Lib.hid hs2
    have HHD := Lib.hid hhd
    have HH := Lib.hid h
    have HRR := Lib.hid hR
    have HLN := Lib.hid hln
    have HMN := Lib.hid hmn
    have HNL := Lib.hid hl
    clear hRt hs1 hs2 hhd h hR hln hmn hnn hwd f7 hl
    have hsap := sv_append
    have n1 : ¬ 9223372036854775807 < 8 + t1.length := by omega
    have n2 : ¬ 9223372036854775807 < t1.length + 1 + 1 + 1 + 1 + 1 + 1 + 1 + 1 + 1 := by omega
    have n3 : ¬ 9223372036854775807 < t1.length + 1 + 1 + 1 + 1 + 1 + 1 + 1 + 1 + 1 + t2.length := by omega
    have n4 : ¬ 9223372036854775807 < t1.length + (t2.length + 1) + 1 + 1 + 1 + 1 + 1 + 1 + 1 + 1 + 1 := by omega
    go_enter Tryz.func12, Tryz.ntmps12
    go_wp2_with (first | (refine wpList_load_row rfl 28 (.tmp 1) rfl w.heap.size rfl _ _ _ _ hbx Tryz.underlying28 rfl (size_dfa _) ?_) | (go_at_call 9; go_must (refine (HRt.out _ hB0).mono ?_; rintro e w2 ⟨rfl, hB2⟩; have hbx2 := hbx.kept hB2; have hB3 := hB0.trans (hB2.mono (by simp)); have hcs3 := hcs2 w2)))
    have HF : Hid (∀ v, Later (w2.alloc (.cells #[.int .u8 10] 5)).drew v → Box v w.heap.size V.cells 28 ∧ Below w.heap.size w v) := Lib.hid fun v hl =>
      ⟨(hbx2.alloc _).drew.kept hl, ((hB3.alloc hB3.size _).drew).trans (Below.mono hl (by have := hB3.size; simp; omega))⟩
    clear hbx2 hB2 hB3 hbx hB0
    generalize w2.alloc (.cells #[.int .u8 10] 5) = W at *
    refine wp_region_M (R := Later) 13 (by kernel_rfl) ?_
    refine tkM 0 ?_ rfl (fun w1 hl => ?_) ?_
    rotate_left
    · obtain ⟨hbx, _⟩ := HF.out w1 hl; obtain ⟨x0, x1, x2, x3⟩ := hbx.dfa; go_simp; try with_reducible rfl
    simp only [eA, eB, Act.put, eD, eE, eF]
    refine tkM 1 ?_ rfl (fun w1 hl => ?_) ?_
    rotate_left
    · obtain ⟨hbx, _⟩ := HF.out w1 hl; obtain ⟨x0, x1, x2, x3⟩ := hbx.dfa; go_simp; try with_reducible rfl
    simp only [eA, eB, eC, Act.put, eD, eE, eF]
    refine tkM 2 ?_ rfl (fun w1 hl => ?_) ?_
    rotate_left
    · obtain ⟨hbx, _⟩ := HF.out w1 hl; obtain ⟨x0, x1, x2, x3⟩ := hbx.dfa; go_simp; try with_reducible rfl
    simp only [eA, eB, eC, Act.put, eD, eE, eF]
    refine tkM 6 ?_ rfl (fun w1 hl => ?_) ?_
    rotate_left
    · obtain ⟨hbx, _⟩ := HF.out w1 hl; obtain ⟨x0, x1, x2, x3⟩ := hbx.dfa; go_simp; try with_reducible rfl
    simp only [eA, eB, eC, Act.put, eD, eE, eF]
    refine tkM 7 ?_ rfl (fun w1 hl => ?_) ?_
    rotate_left
    · obtain ⟨hbx, _⟩ := HF.out w1 hl; obtain ⟨x0, x1, x2, x3⟩ := hbx.dfa; go_simp; try with_reducible rfl
    simp only [eA, eB, eC, Act.put, eD, eE, eF]
    refine tkM 10 ?_ rfl (fun w1 hl => ?_) ?_
    rotate_left
    · obtain ⟨hbx, _⟩ := HF.out w1 hl; obtain ⟨x0, x1, x2, x3⟩ := hbx.dfa; go_simp; try with_reducible rfl
    simp only [eA, eB, eC, Act.put, eD, eE, eF]
    refine wpM_call (t := 13) (i := 3) (f := ?_) (args := ?_) (v := ?_) rfl (by kernel_rfl) (by kernel_rfl) (by kernel_rfl) (by kernel_rfl) (fun _ _ _ h => h) (by rfl) (fun w1 => ?_) (fun w1 hl => ?_) ?_
    rotate_left 4
    · exact HS1.out w1
    rotate_left
    · go_simp
    simp only [eA, eB, eC, Act.put, eD, eE, eF]
    refine tkM 4 ?_ rfl (fun w1 hl => ?_) ?_
    rotate_left
    · obtain ⟨hbx, _⟩ := HF.out w1 hl; obtain ⟨x0, x1, x2, x3⟩ := hbx.dfa; go_simp; try with_reducible rfl
    simp only [eA, eB, eC, Act.put, eD, eE, eF]
    refine tkM 5 ?_ rfl (fun w1 hl => ?_) ?_
    rotate_left
    · obtain ⟨hbx, _⟩ := HF.out w1 hl; obtain ⟨x0, x1, x2, x3⟩ := hbx.dfa; go_simp; try with_reducible rfl
    simp only [eA, eB, eC, Act.put, eD, eE, eF]
    refine wpM_call (t := 13) (i := 8) (f := ?_) (args := ?_) (v := ?_) rfl (by kernel_rfl) (by kernel_rfl) (by kernel_rfl) (by kernel_rfl) (fun _ _ _ h => h) (by rfl) (fun w1 => ?_) (fun w1 hl => ?_) ?_
    rotate_left 4
    · exact HS2.out w1
    rotate_left
    · go_simp
    simp only [eA, eB, eC, Act.put, eD, eE, eF]
    refine tkM 9 ?_ rfl (fun w1 hl => ?_) ?_
    rotate_left
    · obtain ⟨hbx, _⟩ := HF.out w1 hl; obtain ⟨x0, x1, x2, x3⟩ := hbx.dfa; go_simp; try with_reducible rfl
    simp only [eA, eB, eC, Act.put, eD, eE, eF]
    refine tkM 11 ?_ rfl (fun w1 hl => ?_) ?_
    rotate_left
    · obtain ⟨hbx, _⟩ := HF.out w1 hl; obtain ⟨x0, x1, x2, x3⟩ := hbx.dfa; go_simp; try with_reducible rfl
    simp only [eA, eB, eC, Act.put, eD, eE, eF]
    refine tkM 12 ?_ rfl (fun w1 hl => ?_) ?_
    rotate_left
    · obtain ⟨hbx, _⟩ := HF.out w1 hl; obtain ⟨x0, x1, x2, x3⟩ := hbx.dfa; go_simp; try with_reducible rfl
    simp only [eA, eB, eC, Act.put, eD, eE, eF]
    refine wpM_done (by kernel_rfl) (fun w1 hl => ?_) _
    obtain ⟨hbx, hB⟩ := HF.out w1 hl
    clear hl HF hcs2 hcs3 n1 n2 n3 n4
    obtain ⟨b4, o4, e4, _, _, a4, k4⟩ := HH.out.2.2.2.1.cells1
    have HA4 := Lib.hid a4
    have HK4 := Lib.hid k4
    obtain ⟨x0, x1, x2, x3⟩ := hbx.dfa
    clear e4 a4 k4
    go_wp2
    clear x0 x1 x2 x3
    go_loopw [5, 6] (fun v i wr => ∃ k : Nat, k ≤ V.mn ∧ i = .int .i64 k ∧ v = sv (namesT D k) ∧ Box wr w.heap.size V.cells 28 ∧ Below w.heap.size w wr) (fun _ i _ => V.mn - (intOf i).toNat)
    case atStart => exact ⟨0, Nat.zero_le _, rfl, by rw [HHD.out]; rfl, hbx, hB⟩
    case round =>
      clear hbx hB
      obtain ⟨k, hk, rfl, rfl, hbx, hB⟩ := hrel
      by_cases hlt : k < V.mn
      · have hk2 : k < D.names.length := by rw [← HMN.out]; exact hlt
        have ha := HA4.out k hk2
        have c4 := HK4.out k hk2 wr hB
        have hsh := fun w => ref01_Show ((k : Int) + 1) w (by omega)
        have hs3 := showI_length ((k : Int) + 1) (by omega)
        have hnl : nameLine D k = lineT [[110, 97, 109, 101], showI ((k : Int) + 1), D.names[k]] := by
          rw [nameLine, List.getD_eq_getElem?_getD, List.getElem?_eq_getElem hk2]; rfl
        have hsu := namesT_succ D k
        have hln := namesT_length HRR.out k (by omega)
        have hnm := name_length HRR.out _ (List.getElem_mem hk2)
        rw [hnl, line3] at hsu
        generalize D.names[k] = nm at *
        generalize showI ((k : Int) + 1) = t3 at *
        generalize hacc : namesT D k = acc at *
        have HSU := Lib.hid hsu
        have HSH := Lib.hid hsh
        have hk0 : (0 : Int) ≤ (k : Int) := by omega
        have hkm : (k : Int) < (V.mn : Int) := by omega
        have HF : Hid (∀ v, Later wr.drew v → Box v w.heap.size V.cells 28 ∧ v.cell? ⟨b4, o4 + k, none⟩ = some (sv nm) ∧ Below w.heap.size w v) := Lib.hid fun v hl =>
          ⟨hbx.drew.kept hl, (Below.cell hl (World.block_lt_of_cell? wr _ c4)).trans c4, hB.drew.trans (Below.mono hl hB.size)⟩
        obtain ⟨x0, x1, x2, x3⟩ := hbx.dfa
        clear hsh hnl hsu hbx hB c4 hacc
        have m1 : ¬ 9223372036854775807 < acc.length + 5 := by omega
        have m2 : ¬ 9223372036854775807 < acc.length + 5 + t3.length := by omega
        have m3 : ¬ 9223372036854775807 < acc.length + (t3.length + 1 + 1 + 1 + 1 + 1) + 1 := by omega
        have m4 : ¬ 9223372036854775807 < acc.length + (t3.length + 1 + 1 + 1 + 1 + 1 + 1) + nm.length := by omega
        have m5 : ¬ 9223372036854775807 < acc.length + (t3.length + (nm.length + 1) + 1 + 1 + 1 + 1 + 1) + 1 := by omega
        have hwr : IntKind.i64.wrap ((k : Int) + 1) = (k : Int) + 1 := IntWalk.i64_in _ (by omega)
        go_wp2_with fail
        clear x0 x1 x2 x3
        refine wp_region_M (R := Later) 16 (by kernel_rfl) ?_
        refine tkM 0 ?_ rfl (fun w1 hl => ?_) ?_
        rotate_left
        · obtain ⟨hbx, c4, _⟩ := HF.out w1 hl; obtain ⟨x0, x1, x2, x3⟩ := hbx.dfa; rw [ha] at x3; go_simp; try with_reducible rfl
        simp only [eA, eB, Act.put, eD, eE, eF]
        refine tkM 1 ?_ rfl (fun w1 hl => ?_) ?_
        rotate_left
        · obtain ⟨hbx, c4, _⟩ := HF.out w1 hl; obtain ⟨x0, x1, x2, x3⟩ := hbx.dfa; rw [ha] at x3; go_simp; try with_reducible rfl
        simp only [eA, eB, eC, Act.put, eD, eE, eF]
        refine tkM 2 ?_ rfl (fun w1 hl => ?_) ?_
        rotate_left
        · obtain ⟨hbx, c4, _⟩ := HF.out w1 hl; obtain ⟨x0, x1, x2, x3⟩ := hbx.dfa; rw [ha] at x3; go_simp; try with_reducible rfl
        simp only [eA, eB, eC, Act.put, eD, eE, eF]
        refine tkM 3 ?_ rfl (fun w1 hl => ?_) ?_
        rotate_left
        · obtain ⟨hbx, c4, _⟩ := HF.out w1 hl; obtain ⟨x0, x1, x2, x3⟩ := hbx.dfa; rw [ha] at x3; go_simp; try with_reducible rfl
        simp only [eA, eB, eC, Act.put, eD, eE, eF]
        refine tkM 7 ?_ rfl (fun w1 hl => ?_) ?_
        rotate_left
        · obtain ⟨hbx, c4, _⟩ := HF.out w1 hl; obtain ⟨x0, x1, x2, x3⟩ := hbx.dfa; rw [ha] at x3; go_simp; try with_reducible rfl
        simp only [eA, eB, eC, Act.put, eD, eE, eF]
        refine tkM 8 ?_ rfl (fun w1 hl => ?_) ?_
        rotate_left
        · obtain ⟨hbx, c4, _⟩ := HF.out w1 hl; obtain ⟨x0, x1, x2, x3⟩ := hbx.dfa; rw [ha] at x3; go_simp; try with_reducible rfl
        simp only [eA, eB, eC, Act.put, eD, eE, eF]
        refine tkM 9 ?_ rfl (fun w1 hl => ?_) ?_
        rotate_left
        · obtain ⟨hbx, c4, _⟩ := HF.out w1 hl; obtain ⟨x0, x1, x2, x3⟩ := hbx.dfa; rw [ha] at x3; go_simp; try with_reducible rfl
        simp only [eA, eB, eC, Act.put, eD, eE, eF]
        refine tkM 10 ?_ rfl (fun w1 hl => ?_) ?_
        rotate_left
        · obtain ⟨hbx, c4, _⟩ := HF.out w1 hl; obtain ⟨x0, x1, x2, x3⟩ := hbx.dfa; rw [ha] at x3; go_simp; try with_reducible rfl
        simp only [eA, eB, eC, Act.put, eD, eE, eF]
        refine tkM 11 ?_ rfl (fun w1 hl => ?_) ?_
        rotate_left
        · obtain ⟨hbx, c4, _⟩ := HF.out w1 hl; obtain ⟨x0, x1, x2, x3⟩ := hbx.dfa; rw [ha] at x3; go_simp; try with_reducible rfl
        simp only [eA, eB, eC, Act.put, eD, eE, eF]
        refine tkM 13 ?_ rfl (fun w1 hl => ?_) ?_
        rotate_left
        · obtain ⟨hbx, c4, _⟩ := HF.out w1 hl; obtain ⟨x0, x1, x2, x3⟩ := hbx.dfa; rw [ha] at x3; go_simp; try with_reducible rfl
        simp only [eA, eB, eC, Act.put, eD, eE, eF]
        refine wpM_call (t := 16) (i := 4) (f := ?_) (args := ?_) (v := ?_) rfl (by kernel_rfl) (by kernel_rfl) (by kernel_rfl) (by kernel_rfl) (fun _ _ _ h => h) (by rfl) (fun w1 => ?_) (fun w1 hl => ?_) ?_
        rotate_left 4
        · exact HSH.out w1
        rotate_left
        · go_simp
        simp only [eA, eB, eC, Act.put, eD, eE, eF]
        refine tkM 5 ?_ rfl (fun w1 hl => ?_) ?_
        rotate_left
        · obtain ⟨hbx, c4, _⟩ := HF.out w1 hl; obtain ⟨x0, x1, x2, x3⟩ := hbx.dfa; rw [ha] at x3; go_simp; try with_reducible rfl
        simp only [eA, eB, eC, Act.put, eD, eE, eF]
        refine tkM 6 ?_ rfl (fun w1 hl => ?_) ?_
        rotate_left
        · obtain ⟨hbx, c4, _⟩ := HF.out w1 hl; obtain ⟨x0, x1, x2, x3⟩ := hbx.dfa; rw [ha] at x3; go_simp; try with_reducible rfl
        simp only [eA, eB, eC, Act.put, eD, eE, eF]
        refine tkM 12 ?_ rfl (fun w1 hl => ?_) ?_
        rotate_left
        · obtain ⟨hbx, c4, _⟩ := HF.out w1 hl; obtain ⟨x0, x1, x2, x3⟩ := hbx.dfa; rw [ha] at x3; go_simp; try with_reducible rfl
        simp only [eA, eB, eC, Act.put, eD, eE, eF]
        refine tkM 14 ?_ rfl (fun w1 hl => ?_) ?_
        rotate_left
        · obtain ⟨hbx, c4, _⟩ := HF.out w1 hl; obtain ⟨x0, x1, x2, x3⟩ := hbx.dfa; rw [ha] at x3; go_simp; try with_reducible rfl
        simp only [eA, eB, eC, Act.put, eD, eE, eF]
        refine tkM 15 ?_ rfl (fun w1 hl => ?_) ?_
        rotate_left
        · obtain ⟨hbx, c4, _⟩ := HF.out w1 hl; obtain ⟨x0, x1, x2, x3⟩ := hbx.dfa; rw [ha] at x3; go_simp; try with_reducible rfl
        simp only [eA, eB, eC, Act.put, eD, eE, eF]
        refine wpM_done (by kernel_rfl) (fun w1 hl => ?_) _
        obtain ⟨hbx, _, hB⟩ := HF.out w1 hl
        clear hl m1 m2 m3 m4 m5
        go_wp2
        go_roundw
        case rel => exact ⟨k + 1, hlt, by go_num, by rw [HSU.out]; simp, hbx, hB⟩
        case measure => simp [intOf]; omega
      · obtain rfl : k = V.mn := by omega
        have hps := fun w => ref_Sets19 V.of hof w
        have hsd : (reps (Kern (keyN V.of)) 256).map (cls (Kern (keyN V.of)) 256) = setsD D := by rw [HH.out.1]; rfl
        simp only [hsd] at hps
        have hLl := setsD_length D
        have hns : namesT D V.mn = classesT D 0 := by rw [classesT, List.range_zero, List.flatMap_nil, List.append_nil, HMN.out]
        rw [hns]
        obtain ⟨m, hm⟩ : ∃ m, (setsD D).length = m := ⟨_, rfl⟩
        rw [hm] at hLl
        have HPS := Lib.hid hps
        have HM := Lib.hid hm
        obtain ⟨x0, x1, x2, x3⟩ := hbx.dfa
        clear hps hsd hm hns
        go_wp2_with (first | (refine wpList_load_of (by rfl) 23 _ rfl w.heap.size rfl hbx Tryz.underlying23 rfl (size_256 _) ?_) | (go_at_call 39; go_must (refine (HPS.out _).mono ?_; intro e w5 h5; obtain ⟨a5, cap5, rfl, o5, hB5⟩ := h5; rw [HM.out] at o5 ⊢)))
        have hbx5 := hbx.kept hB5
        have hB6 := hB.trans (hB5.mono hB.size)
        have o6 := o5.mono (base' := w.heap.size) hB.size
        clear hbx hB5 o5 HPS x0 x1 x2 x3
        go_loopw [5, 8] (fun v i wr => ∃ k : Nat, k ≤ m ∧ i = .int .i64 k ∧ v = sv (classesT D k) ∧ Box wr w.heap.size V.cells 28 ∧ Own wr w.heap.size 43 4 encS (.slice a5 m cap5) (setsD D) ∧ Below w.heap.size w wr) (fun _ i _ => m - (intOf i).toNat)
        case atStart => exact ⟨0, Nat.zero_le _, rfl, rfl, hbx5, o6, hB6⟩
        case round =>
          clear hbx5 o6 hB6 hB
          obtain ⟨k, hk2, rfl, rfl, hbx, ho, hB⟩ := hrel
          by_cases hlt2 : k < m
          · obtain ⟨g5, rfl, _, _⟩ := ho.addr (by omega)
            have hk3 : k < (setsD D).length := by rw [HM.out]; exact hlt2
            have hq := fun v (hl : Later wr.drew v) => ((ho.drew'.kept hl).cells4 hk3).1
            have hsh := fun w => ref01_Show (k : Int) w (by omega)
            have hcl : classLine D k = lineT [[99, 108, 97, 115, 115], showI (k : Int), showS (setsD D)[k]] := by
              rw [classLine, List.getD_eq_getElem?_getD, List.getElem?_eq_getElem hk3]; rfl
            have hsu := classesT_succ D k
            have hln := classesT_length HRR.out k (by omega)
            rw [hcl, line3] at hsu
            have hs3 := showI_length (k : Int) (by omega)
            have hs4 := showS_length (setsD D)[k]
            have hcs := fun w => ref04_Show (setsD D)[k] w
            generalize (setsD D)[k] = st at *
            generalize showI (k : Int) = t3 at *
            generalize showS st = nm at *
            generalize classesT D k = acc at *
            have HSU := Lib.hid hsu
            have HSH := Lib.hid hsh
            have HCS := Lib.hid hcs
            have HQ := Lib.hid hq
            have hk0 : (0 : Int) ≤ (k : Int) := by omega
            have hkm : (k : Int) < (m : Int) := by omega
            have HF : Hid (∀ v, Later wr.drew v → Box v w.heap.size V.cells 28 ∧ Own v w.heap.size 43 4 encS (.slice (some ⟨g5, 0, none⟩) m cap5) (setsD D) ∧ Below w.heap.size w v) := Lib.hid fun v hl =>
              ⟨hbx.drew.kept hl, ho.drew'.kept hl, hB.drew.trans (Below.mono hl hB.size)⟩
            clear hsh hcl hsu hcs hq hbx hB ho hk3
            have m1 : ¬ 9223372036854775807 < acc.length + 6 := by omega
            have m2 : ¬ 9223372036854775807 < acc.length + 6 + t3.length := by omega
            have m3 : ¬ 9223372036854775807 < acc.length + (t3.length + 1 + 1 + 1 + 1 + 1 + 1) + 1 := by omega
            have m4 : ¬ 9223372036854775807 < acc.length + (t3.length + 1 + 1 + 1 + 1 + 1 + 1 + 1) + nm.length := by omega
            have m5 : ¬ 9223372036854775807 < acc.length + (t3.length + (nm.length + 1) + 1 + 1 + 1 + 1 + 1 + 1) + 1 := by omega
            go_wp2_with fail
            refine wp_region_M (R := Later) 15 (by kernel_rfl) ?_
            refine tkM 0 ?_ rfl (fun w1 hl => ?_) ?_
            rotate_left
            · obtain ⟨q0, q1, q2, q3⟩ := HQ.out w1 hl; go_simp; try with_reducible rfl
            simp only [eA, eB, Act.put, eD, eE, eF]
            refine tkM 1 ?_ rfl (fun w1 hl => ?_) ?_
            rotate_left
            · obtain ⟨q0, q1, q2, q3⟩ := HQ.out w1 hl; go_simp; try with_reducible rfl
            simp only [eA, eB, eC, Act.put, eD, eE, eF]
            refine tkM 2 ?_ rfl (fun w1 hl => ?_) ?_
            rotate_left
            · obtain ⟨q0, q1, q2, q3⟩ := HQ.out w1 hl; go_simp; try with_reducible rfl
            simp only [eA, eB, eC, Act.put, eD, eE, eF]
            refine tkM 6 ?_ rfl (fun w1 hl => ?_) ?_
            rotate_left
            · obtain ⟨q0, q1, q2, q3⟩ := HQ.out w1 hl; go_simp; try with_reducible rfl
            simp only [eA, eB, eC, Act.put, eD, eE, eF]
            refine tkM 7 ?_ rfl (fun w1 hl => ?_) ?_
            rotate_left
            · obtain ⟨q0, q1, q2, q3⟩ := HQ.out w1 hl; go_simp; try with_reducible rfl
            simp only [eA, eB, eC, Act.put, eD, eE, eF]
            refine tkM 8 ?_ rfl (fun w1 hl => ?_) ?_
            rotate_left
            · obtain ⟨q0, q1, q2, q3⟩ := HQ.out w1 hl; go_simp; try with_reducible rfl
            simp only [eA, eB, eC, Act.put, eD, eE, eF]
            refine tkM 9 ?_ rfl (fun w1 hl => ?_) ?_
            rotate_left
            · obtain ⟨q0, q1, q2, q3⟩ := HQ.out w1 hl; go_simp; try with_reducible rfl
            simp only [eA, eB, eC, Act.put, eD, eE, eF]
            refine tkM 12 ?_ rfl (fun w1 hl => ?_) ?_
            rotate_left
            · obtain ⟨q0, q1, q2, q3⟩ := HQ.out w1 hl; go_simp; try with_reducible rfl
            simp only [eA, eB, eC, Act.put, eD, eE, eF]
            refine wpM_call (t := 15) (i := 3) (f := ?_) (args := ?_) (v := ?_) rfl (by kernel_rfl) (by kernel_rfl) (by kernel_rfl) (by kernel_rfl) (fun _ _ _ h => h) (by rfl) (fun w1 => ?_) (fun w1 hl => ?_) ?_
            rotate_left 4
            · exact HSH.out w1
            rotate_left
            · go_simp
            simp only [eA, eB, eC, Act.put, eD, eE, eF]
            refine tkM 4 ?_ rfl (fun w1 hl => ?_) ?_
            rotate_left
            · obtain ⟨q0, q1, q2, q3⟩ := HQ.out w1 hl; go_simp; try with_reducible rfl
            simp only [eA, eB, eC, Act.put, eD, eE, eF]
            refine tkM 5 ?_ rfl (fun w1 hl => ?_) ?_
            rotate_left
            · obtain ⟨q0, q1, q2, q3⟩ := HQ.out w1 hl; go_simp; try with_reducible rfl
            simp only [eA, eB, eC, Act.put, eD, eE, eF]
            refine wpM_call (t := 15) (i := 10) (f := ?_) (args := ?_) (v := ?_) rfl (by kernel_rfl) (by kernel_rfl) (by kernel_rfl) (by kernel_rfl) (fun _ _ _ h => h) (by rfl) (fun w1 => ?_) (fun w1 hl => ?_) ?_
            rotate_left 4
            · exact HCS.out w1
            rotate_left
            · go_simp
            simp only [eA, eB, eC, Act.put, eD, eE, eF]
            refine tkM 11 ?_ rfl (fun w1 hl => ?_) ?_
            rotate_left
            · obtain ⟨q0, q1, q2, q3⟩ := HQ.out w1 hl; go_simp; try with_reducible rfl
            simp only [eA, eB, eC, Act.put, eD, eE, eF]
            refine tkM 13 ?_ rfl (fun w1 hl => ?_) ?_
            rotate_left
            · obtain ⟨q0, q1, q2, q3⟩ := HQ.out w1 hl; go_simp; try with_reducible rfl
            simp only [eA, eB, eC, Act.put, eD, eE, eF]
            refine tkM 14 ?_ rfl (fun w1 hl => ?_) ?_
            rotate_left
            · obtain ⟨q0, q1, q2, q3⟩ := HQ.out w1 hl; go_simp; try with_reducible rfl
            simp only [eA, eB, eC, Act.put, eD, eE, eF]
            refine wpM_done (by kernel_rfl) (fun w1 hl => ?_) _
            obtain ⟨hbx, ho, hB⟩ := HF.out w1 hl
            clear hl m1 m2 m3 m4 m5
            go_wp2
            go_roundw
            case rel => exact ⟨k + 1, hlt2, by go_num, by rw [HSU.out]; simp, hbx, ho, hB⟩
            case measure => simp [intOf]; omega
          · obtain rfl : k = m := by omega
            have hns : classesT D k = statesT D 0 := by rw [statesT, List.range_zero, List.flatMap_nil, List.append_nil, HM.out]
            rw [hns]
            clear hns ho
            obtain ⟨x0, x1, x2, x3⟩ := hbx.dfa
            go_wp2
            go_loopw [5, 9] (fun v i wr => ∃ k : Nat, k ≤ V.ln ∧ i = .int .i64 k ∧ v = sv (statesT D k) ∧ Box wr w.heap.size V.cells 28 ∧ Below w.heap.size w wr) (fun _ i _ => V.ln - (intOf i).toNat)
            case atStart => exact ⟨0, Nat.zero_le _, rfl, rfl, hbx, hB⟩
            case round =>
              clear hbx hB x0 x1 x2 x3
              obtain ⟨q, hq3, rfl, rfl, hbx, hB⟩ := hrel
              obtain ⟨x0, x1, x2, x3⟩ := hbx.dfa
              by_cases hlt3 : q < V.ln
              · have hq4 : q < D.label.length := by rw [← HLN.out]; exact hlt3
                have hrw := fun w1 (hb : Below w.heap.size w w1) => ref36_Row V D (q : Int) w1 (HH.out.kept hb) hof HNL.out
                have hri : rowI D (q : Int) = rowT D q := by
                  unfold rowI; rw [if_pos ⟨HRR.out, by omega, by omega⟩, Int.toNat_natCast]
                rw [hri] at hrw
                have hsu : statesT D (q + 1) = statesT D q ++ (rowT D q ++ [10]) := by rw [statesT_succ, stateLine, line1]
                have hl3 := statesT_length HRR.out q (by omega)
                have hl4 := rowT_length HRR.out q hq4
                generalize rowT D q = t3 at *
                generalize statesT D q = acc at *
                have m1 : ¬ 9223372036854775807 < acc.length + t3.length := by omega
                have m2 : ¬ 9223372036854775807 < acc.length + t3.length + 1 := by omega
                have HRW := Lib.hid hrw
                have HSU := Lib.hid hsu
                clear hrw hri hsu
                go_wp2_with (first | (refine wpList_load_row_g (by rfl) 28 _ rfl w.heap.size rfl _ _ _ _ hbx Tryz.underlying28 rfl (size_dfa _) ?_) | (go_at_call 14; go_must (refine (HRW.out _ hB).mono ?_; rintro e w5 ⟨rfl, hb5⟩)))
                go_roundw
                case rel => exact ⟨q + 1, hlt3, by go_num, by rw [HSU.out, ← List.append_assoc], hbx.kept hb5, hB.trans (hb5.mono hB.size)⟩
                case measure => simp [intOf]; omega
              · obtain rfl : q = V.ln := by omega
                have hte : statesT D V.ln = textD D := by rw [HLN.out]; rfl
                have HTE := Lib.hid hte
                clear hte
                go_wp2
                go_ret2
                exact ⟨by rw [← HTE.out]; rfl, hB⟩
  · have hR2 := Bool.eq_false_iff.2 hR
    rw [hR2] at hRt
    rw [if_neg hR]
    have HRt := Lib.hid hRt
    clear hRt h hR hR2 hl hof
    go_enter Tryz.func12, Tryz.ntmps12
    go_wp2_with (first | (refine wpList_load_row rfl 28 (.tmp 1) rfl w.heap.size rfl _ _ _ _ hbx Tryz.underlying28 rfl (size_dfa _) ?_) | (go_at_call 9; go_must (refine (HRt.out _ hB0).mono ?_; rintro e w2 ⟨rfl, hB2⟩)))
    go_ret2
    exact ⟨rfl, hB0.trans (hB2.mono (by simp))⟩
end Go.Proofs.YtdhmekpgplajmaaGreatDoor
end
section
namespace Go.Proofs.YtdhmekpgplajmaaGreatDoor
open Go.RowKit
/-- The machine that is nothing. -/
def V0 : VDfa := ⟨fun _ => 0, 0, none, 0, 0, none, 0, 0, none, 0, 0⟩
def D0 : PDfa := ⟨fun _ => 0, 0, [], [], []⟩
theorem info_dfa0 : (Tryz.prog.info? 28).map (fun i => (i.zero, i.size)) = some (some (.agg V0.cells), 260) := by kernel_rfl
theorem zeroV_dfa (w : World) : (zeroValue 28).run Tryz.prog w = .ok (.agg V0.cells) w := (zero_of_info info_dfa0).1 w
theorem info_reader0 : (Tryz.prog.info? 45).map (fun i => (i.zero, i.size)) = some (some (.agg (rcells V0 0)), 264) := by kernel_rfl
theorem zeroV_reader (w : World) : (zeroValue 45).run Tryz.prog w = .ok (.agg (rcells V0 0)) w := (zero_of_info info_reader0).1 w
/-- The lines, one behind the other. -/
def foldP : PDfa × BSet → List (List UInt8) → Option (PDfa × BSet)
  | x, [] => some x
  | x, s :: l => match stepL x.1 x.2 s with
    | some y => foldP y l
    | none => none
theorem foldP_append (x : PDfa × BSet) (l m : List (List UInt8)) : foldP x (l ++ m) = (foldP x l).bind fun y => foldP y m := by
  induction l generalizing x with
  | nil => rfl
  | cons s l ih =>
    rw [List.cons_append, foldP, foldP]
    cases stepL x.1 x.2 s with
    | none => rfl
    | some y => exact ih y
def linesP (s : List UInt8) : List (List UInt8) := splitL 10 (s.take (s.length - 1))
/-- What the reader makes of a text: a machine, or nothing. -/
def readP (s : List UInt8) : Option PDfa :=
  if Lib.hasSuffix s [10] = true then
    (match foldP (D0, 0) (linesP s) with
     | some (D, _) => if rightD D = true ∧ textD D = s then some D else none
     | none => none)
  else none
set_option maxRecDepth 20000 in
theorem read_idle (b0 b1 : Nat) (w : World) : CallsDIn Fence.wide 0 Tryz.prog 16 #[.pointer (some ⟨b0, 0, none⟩), .pointer (some ⟨b1, 0, none⟩)] .returning w fun e u' w' => e = .returned (.tuple #[]) ∧ u' = .returning ∧ w' = w := by
  refine callsDIn_of_wpSIn Tryz.func16 rfl trivial fun c₀ cs hu => ?_
  apply wpSIn_seq
  apply wpSIn_region
  simp [wpOpsSIn, go_sem, recoverD, hu, Tryz.ntmps16, Exit.thenS]
  simp only [Array.replicate_succ, Array.replicate_zero, List.push_toArray, List.append_toArray, List.nil_append, List.cons_append, List.setIfInBounds_toArray, List.set_cons_zero, List.set_cons_succ]
  refine wpSIn_of_wpIn rfl (wpIn_wide.2 ?_)
  go_wp2
  obtain ⟨fn, tm, td, df, mo, ki, ro⟩ := c₀
  obtain rfl : mo = _ := hu
  exact ⟨rfl, .returning, rfl, .tuple #[], by simp [results, Tryz.f16, go_sem], rfl, rfl, rfl⟩
set_option maxRecDepth 20000 in
theorem read_catch (b0 b1 : Nat) (w : World) (c : Array Value) (h0 : Box w b0 c 28) (hc : c.size = 260) (h1 : Box w b1 #[.int .i64 0] 29) (hne : b1 ≠ b0) : CallsDIn Fence.wide 0 Tryz.prog 16 #[.pointer (some ⟨b0, 0, none⟩), .pointer (some ⟨b1, 0, none⟩)] (.panicking oddC) w fun e u' w' =>
    e = .returned (.tuple #[]) ∧ u' = .panicking [{ v := .iface 73 (.agg #[]), recovered := true }] ∧ w' = (w.setRow b0 V0.cells).setCell ⟨b1, 0, none⟩ (.int .i64 3) := by
  have hz := zeroV_dfa
  have h1' := h1.setRow_other V0.cells hne
  have c1 := h1'.cell 0
  have f1 := h1'.free 0
  refine callsDIn_of_wpSIn Tryz.func16 rfl trivial fun c₀ cs hu => ?_
  apply wpSIn_seq
  apply wpSIn_region
  unfold oddC at hu
  simp [wpOpsSIn, go_sem, recoverD, hu, Tryz.ntmps16, Exit.thenS]
  simp only [Array.replicate_succ, Array.replicate_zero, List.push_toArray, List.append_toArray, List.nil_append, List.cons_append, List.setIfInBounds_toArray, List.set_cons_zero, List.set_cons_succ]
  refine wpSIn_of_wpIn rfl (wpIn_wide.2 ?_)
  go_wp2_with (refine wpList_store_row rfl 28 (.tmp 0) (.tmp 6) rfl b0 _ rfl rfl _ _ h0 (size_dfa V0) (by rw [VDfa.size, hc]) V0.all ?_)
  exact ⟨rfl, _, rfl, .tuple #[], by simp [results, Tryz.f16, go_sem], rfl, rfl, rfl⟩
end Go.Proofs.YtdhmekpgplajmaaGreatDoor
end
section
namespace Go.Proofs.YtdhmekpgplajmaaGreatDoor
open Go.RowKit
theorem read_results {W : World} {b0 b1 : Nat} {V : VDfa} {k : Int} {tmps : Array Value} (h0 : Box W b0 V.cells 28) (h1 : Box W b1 #[.int .i64 k] 29) (t2 : tmps.getD 2 undef = .pointer (some ⟨b0, 0, none⟩)) (t3 : tmps.getD 3 undef = .pointer (some ⟨b1, 0, none⟩)) :
    (results Tryz.f6 tmps).run Tryz.prog W = .ok (.tuple #[.agg V.cells, .int .i64 k]) W := by
  have t2' : tmps[2]?.getD undef = .pointer (some ⟨b0, 0, none⟩) := by simpa using t2
  have t3' : tmps[3]?.getD undef = .pointer (some ⟨b1, 0, none⟩) := by simpa using t3
  have c1 := h1.cell 0
  have hl := run_loadVar_row (P := Tryz.prog) W b0 28 28 V.cells (0, 0) _ h0 Tryz.underlying28 rfl (size_dfa V)
  have h2 : (loadVar 29 ⟨b1, 0, none⟩).run Tryz.prog W = .ok (.int .i64 k) W := by
    go_simp
  simp [results, Tryz.f6, t2', t3', asAddr, hl, h2]
def closR (b0 b1 : Nat) : Deferred := { target := .fn (.func 16) #[.pointer (some ⟨b0, 0, none⟩), .pointer (some ⟨b1, 0, none⟩)], args := #[] }
theorem leaves_panic {W : World} {b0 b1 : Nat} {V : VDfa} {R : Ending → World → Prop} {tmps : Array Value} (h0 : Box W b0 V.cells 28) (h1 : Box W b1 #[.int .i64 0] 29) (hne : b1 ≠ b0) (t2 : tmps.getD 2 undef = .pointer (some ⟨b0, 0, none⟩)) (t3 : tmps.getD 3 undef = .pointer (some ⟨b1, 0, none⟩))
    (hR : R (.returned (.tuple #[.agg V0.cells, .int .i64 3])) ((W.setRow b0 V0.cells).setCell ⟨b1, 0, none⟩ (.int .i64 3))) : LeavesInM Fence.wide 0 Tryz.prog Tryz.f6 tmps R [closR b0 b1] (.panicking oddC) W := by
  refine ⟨by simp [oddC], .inr ⟨(fun h => by cases h), _, _, _, _, rfl, enters_of Tryz.func16 (by kernel_rfl) rfl _ _, fun _ _ => trivial, ?_⟩⟩
  obtain ⟨_, hc⟩ := read_catch b0 b1 W V.cells h0 V.size h1 hne
  refine ⟨trivial, fun c cs hu hroom => ?_⟩
  obtain ⟨e, u', w', fr, ⟨rfl, rfl, rfl⟩, hs⟩ := hc c cs hu hroom
  refine ⟨_, _, _, fr, ?_, hs⟩
  have hx0 : Box ((W.setRow b0 V0.cells).setCell ⟨b1, 0, none⟩ (.int .i64 3)) b0 V0.cells 28 := (h0.setRow V0.cells).other _ _ (Ne.symm hne)
  have hx1 : Box ((W.setRow b0 V0.cells).setCell ⟨b1, 0, none⟩ (.int .i64 3)) b1 #[.int .i64 3] 29 := (h1.setRow_other V0.cells hne).set 0 _
  exact ⟨_, read_results hx0 hx1 t2 t3, hR⟩
theorem leaves_return {W : World} {b0 b1 : Nat} {V : VDfa} {R : Ending → World → Prop} {tmps : Array Value} (h0 : Box W b0 V.cells 28) (h1 : Box W b1 #[.int .i64 0] 29) (t2 : tmps.getD 2 undef = .pointer (some ⟨b0, 0, none⟩)) (t3 : tmps.getD 3 undef = .pointer (some ⟨b1, 0, none⟩))
    (hR : R (.returned (.tuple #[.agg V.cells, .int .i64 0])) W) : LeavesInM Fence.wide 0 Tryz.prog Tryz.f6 tmps R [closR b0 b1] .returning W := by
  refine ⟨by simp, .inr ⟨(fun h => by cases h), _, _, _, _, rfl, enters_of Tryz.func16 (by kernel_rfl) rfl _ _, fun _ _ => trivial, ?_⟩⟩
  obtain ⟨_, hc⟩ := read_idle b0 b1 W
  refine ⟨trivial, fun c cs hu hroom => ?_⟩
  obtain ⟨e, u', w', fr, ⟨rfl, rfl, rfl⟩, hs⟩ := hc c cs hu hroom
  refine ⟨_, _, _, fr, ?_, hs⟩
  exact ⟨_, read_results h0 h1 t2 t3, hR⟩
end Go.Proofs.YtdhmekpgplajmaaGreatDoor
end
