/- Joined by tools/merge.py: Back, BackR, Ref36Lines, PutV. -/
import Derived.Test.YtdhmekpgplajmaaGreatDoorR24
import Derived.Test.YtdhmekpgplajmaaGreatDoorR8
import Derived.Test.YtdhmekpgplajmaaGreatDoorR22
import Derived.Test.YtdhmekpgplajmaaGreatDoorR19x
section
namespace Go.Proofs.YtdhmekpgplajmaaGreatDoor
open Go.RowKit
set_option maxRecDepth 20000
def wName (D : PDfa) (i : Nat) : List (List UInt8) := [[110, 97, 109, 101], showI ((i : Int) + 1), D.names.getD i []]
def wClass (D : PDfa) (i : Nat) : List (List UInt8) := [[99, 108, 97, 115, 115], showI (i : Int), showS ((setsD D).getD i 0)]
def wHead (D : PDfa) : List (List UInt8) := [[109, 97, 99, 104, 105, 110, 101], showI (D.label.length : Nat), showI D.width]
/-- The words of a machine's text, line by line. -/
def wordsD (D : PDfa) : List (List (List UInt8)) := wHead D :: ((List.range D.names.length).map (wName D) ++ ((List.range (setsD D).length).map (wClass D) ++ (List.range D.label.length).map (rowWords D)))
theorem stateLine_words (D : PDfa) : stateLine D = fun i => lineT (rowWords D i) := by
  funext i; unfold stateLine lineT; rw [Lib.join_one]; rfl
theorem text_words (D : PDfa) : textD D = (wordsD D).flatMap lineT := by
  unfold textD statesT classesT namesT wordsD
  rw [List.flatMap_cons, List.flatMap_append, List.flatMap_append, List.flatMap_map, List.flatMap_map, List.flatMap_map, stateLine_words]
  simp only [List.append_assoc]
  rfl
/-! ### No byte of a word is a blank, or ends a line -/
theorem mayN_ge {x : Nat} {b : Bool} (h : mayN x b = true) : 33 ≤ x := by
  unfold mayN letterN digitN at h; simp at h; omega
theorem allMay_ge : ∀ (b : Bool) (l : List UInt8), allMay b l = true → ∀ c ∈ l, 33 ≤ c.toNat
  | _, [], _, c, hc => by simp at hc
  | b, a :: r, h, c, hc => by
    rw [allMay, Bool.and_eq_true] at h
    rcases List.mem_cons.1 hc with rfl | hc
    · exact mayN_ge h.1
    · exact allMay_ge false r h.2 c hc
theorem name_bytes {D : PDfa} (h : rightD D = true) : ∀ x ∈ D.names, ∀ c ∈ x, 33 ≤ c.toNat := by
  intro x hx
  obtain ⟨i, hi, rfl⟩ := List.mem_iff_getElem.1 hx
  unfold rightD at h
  simp only [Bool.and_eq_true, decide_eq_true_eq, beq_iff_eq] at h
  obtain ⟨_, _, h5, _⟩ := h
  unfold namesOK namesTo at h5
  simp only [Bool.and_eq_true, List.all_eq_true] at h5
  have := h5.2 i (by simpa using hi)
  unfold nameAt at this
  rw [nameT_all] at this
  simp only [Bool.and_eq_true, List.getD_eq_getElem?_getD, List.getElem?_eq_getElem hi, Option.getD_some] at this
  exact allMay_ge true _ this.1.1
theorem words_ok {D : PDfa} (h : rightD D = true) : ∀ ws ∈ wordsD D, wordsOK ws := by
  intro ws hw
  unfold wordsD at hw
  simp only [List.mem_cons, List.mem_append, List.mem_map, List.mem_range] at hw
  rcases hw with rfl | ⟨i, hi, rfl⟩ | ⟨i, hi, rfl⟩ | ⟨i, hi, rfl⟩
  · refine ⟨by simp [wHead], fun w hw => ?_⟩
    unfold wHead at hw
    simp only [List.mem_cons, List.not_mem_nil, or_false] at hw
    rcases hw with rfl | rfl | rfl
    · decide
    · exact showI_bytes _
    · exact showI_bytes _
  · refine ⟨by simp [wName], fun w hw => ?_⟩
    unfold wName at hw
    simp only [List.mem_cons, List.not_mem_nil, or_false] at hw
    rcases hw with rfl | rfl | rfl
    · decide
    · exact showI_bytes _
    · rw [List.getD_eq_getElem?_getD, List.getElem?_eq_getElem hi, Option.getD_some]
      exact name_bytes h _ (List.getElem_mem hi)
  · refine ⟨by simp [wClass], fun w hw => ?_⟩
    unfold wClass at hw
    simp only [List.mem_cons, List.not_mem_nil, or_false] at hw
    rcases hw with rfl | rfl | rfl
    · decide
    · exact showI_bytes _
    · exact showS_bytes _
  · refine ⟨by simp [rowWords], fun w hw => ?_⟩
    unfold rowWords at hw
    simp only [List.mem_cons, List.mem_map] at hw
    rcases hw with rfl | rfl | rfl | ⟨y, _, rfl⟩
    · decide
    · exact showI_bytes _
    · exact showI_bytes _
    · exact showI_bytes _
/-! ### The lines, put to the reader -/
theorem foldW_one (x : PDfa × BSet) (ws : List (List UInt8)) : foldW x [ws] = lineW x.1 x.2 ws := by
  rw [foldW]; cases lineW x.1 x.2 ws <;> rfl
theorem take_next {α : Type} (l : List α) (k : Nat) (d : α) (h : k < l.length) : l.take (k + 1) = l.take k ++ [l.getD k d] := by
  rw [List.take_add_one, List.getElem?_eq_getElem h, List.getD_eq_getElem?_getD, List.getElem?_eq_getElem h]; rfl
theorem fold_names (D X : PDfa) (t : BSet) (hX : X.names = []) : ∀ k, k ≤ D.names.length → foldW (X, t) ((List.range k).map (wName D)) = some (⟨X.of, X.width, X.next, X.label, D.names.take k⟩, t)
  | 0, _ => by
    obtain ⟨o, wd, nx, lb, nm⟩ := X
    obtain rfl : nm = [] := hX
    rfl
  | k + 1, h => by
    rw [List.range_succ, List.map_append, foldW_append, fold_names D X t hX k (by omega), Option.bind_some, List.map_singleton, foldW_one, take_next _ _ [] (by omega)]
    rfl
def ofTo (D : PDfa) (k : Nat) : Nat → Nat := fun b => if b < 256 ∧ D.of b < k then D.of b else 0
def tTo (D : PDfa) (k : Nat) : BSet := ofP fun b => decide (D.of b < k)
theorem right_of {D : PDfa} (h : rightD D = true) : (∀ b, b < 256 → numR (Kern (keyN D.of)) b = D.of b) ∧ ((widR (Kern (keyN D.of)) : Nat) : Int) = D.width := by
  unfold rightD at h
  simp only [Bool.and_eq_true, decide_eq_true_eq, beq_iff_eq] at h
  exact ⟨(sameArr_iff _ _).1 h.2.1.1, h.2.1.2⟩
theorem rep_num {R : Nat → Nat → Bool} (E : Equi R) (k : Nat) (h : k < (reps R 256).length) : numR R (reps R 256)[k] = k := by
  unfold numR
  rw [posR_get h (E.refl _) fun i hi => reps_least E 256 _ _ (List.getElem_mem h) (reps_sorted R 256 i k hi h)]
  rfl
theorem mem_class {D : PDfa} (hr : rightD D = true) (k : Nat) (hk : k < (setsD D).length) (b : Nat) (hb : b < 256) : mem ((setsD D).getD k 0) b = decide (D.of b = k) := by
  have E := kern_equi (keyN D.of)
  obtain ⟨h1, _⟩ := right_of hr
  have hk2 : k < (reps (Kern (keyN D.of)) 256).length := by unfold setsD at hk; rw [setsTo_length, widR_def] at hk; exact hk
  have hc := reps_lt (Kern (keyN D.of)) 256 _ (List.getElem_mem hk2)
  have e : (setsD D).getD k 0 = cls (Kern (keyN D.of)) 256 ((reps (Kern (keyN D.of)) 256)[k]) := by
    rw [List.getD_eq_getElem?_getD, List.getElem?_eq_getElem hk, Option.getD_some]
    simp only [setsD, setsTo, List.getElem_map]
  rw [e, mem_cls, ← h1 b hb]
  have h3 := numR_eq E hc hb
  rw [rep_num E k hk2] at h3
  rw [Bool.eq_iff_iff]
  simp only [Bool.and_eq_true, decide_eq_true_eq, hb, true_and]
  rw [← h3]
  exact eq_comm
theorem fold_classes {D : PDfa} (hr : rightD D = true) (X : PDfa) (hX : X.of = fun _ => 0) : ∀ k, k ≤ (setsD D).length → foldW (X, 0) ((List.range k).map (wClass D)) = some (⟨ofTo D k, X.width, X.next, X.label, X.names⟩, tTo D k)
  | 0, _ => by
    obtain ⟨o, wd, nx, lb, nm⟩ := X
    obtain rfl : o = _ := hX
    have e1 : ofTo D 0 = fun _ => 0 := by funext b; simp [ofTo]
    have e2 : tTo D 0 = 0 := set_ext fun b _ => by unfold tTo; rw [mem_ofP, mem_zero]; simp
    rw [e1, e2]
    rfl
  | k + 1, h => by
    have hw := setsD_length D
    obtain ⟨n, e, hn, hs⟩ := numT_int (z := (k : Int)) (by omega) (by omega)
    obtain rfl : k = n := by omega
    have hm := mem_class hr k (by omega)
    rw [List.range_succ, List.map_append, foldW_append, fold_classes hr X hX k (by omega), Option.bind_some, List.map_singleton, foldW_one]
    unfold wClass
    simp only [lineW]
    rw [if_neg (by decide), if_neg (by decide), if_pos trivial, hs]
    dsimp only
    unfold classL
    rw [readR_show]
    dsimp only
    rw [if_pos ⟨rfl, by omega, set_ext fun b hb => by
      rw [mem_and, hm b hb, mem_zero]; unfold tTo; rw [mem_ofP, Bool.eq_false_iff]; simp; omega⟩]
    have e1 : setOf (elems ((setsD D).getD k 0)) k (ofTo D k) = ofTo D (k + 1) := by
      funext b
      unfold setOf ofTo
      by_cases hb : b < 256
      · have he : (b ∈ elems ((setsD D).getD k 0)) = (D.of b = k) := by rw [mem_elems, hm b hb]; simp
        by_cases h1 : D.of b = k
        · rw [if_pos (by rw [he]; exact h1), if_pos ⟨hb, by omega⟩, h1]
        · rw [if_neg (by rw [he]; exact h1)]
          by_cases h2 : D.of b < k
          · rw [if_pos ⟨hb, h2⟩, if_pos ⟨hb, by omega⟩]
          · rw [if_neg (by omega), if_neg (by omega)]
      · rw [if_neg (fun h => hb (elems_lt h)), if_neg (by omega), if_neg (by omega)]
    have e2 : tTo D k ||| (setsD D).getD k 0 = tTo D (k + 1) := set_ext fun b hb => by
      rw [mem_or, hm b hb]; unfold tTo; rw [mem_ofP, mem_ofP, Bool.eq_iff_iff]; simp [hb]; omega
    rw [e1, e2]
theorem rowN_show : ∀ r : List Int, (∀ t ∈ r, 0 ≤ t ∧ t ≤ 65536) → rowN (r.map showI) = some r
  | [], _ => rfl
  | a :: r, h => by
    obtain ⟨n, e, hn, hs⟩ := numT_int (h a (by simp)).1 (h a (by simp)).2
    rw [List.map_cons, rowN, hs, rowN_show r fun t ht => h t (by simp [ht]), e]
    rfl
theorem fold_states {D : PDfa} (hr : rightD D = true) (X : PDfa) (t : BSet) (h1 : X.label = []) (h2 : X.next = []) : ∀ k, k ≤ D.label.length → foldW (X, t) ((List.range k).map (rowWords D)) = some (⟨X.of, X.width, D.next.take k, D.label.take k, X.names⟩, t)
  | 0, _ => by
    obtain ⟨o, wd, nx, lb, nm⟩ := X
    obtain rfl : nx = [] := h2
    obtain rfl : lb = [] := h1
    rfl
  | k + 1, h => by
    obtain ⟨f1, f2, f3, f4, f5, f6, f7⟩ := rightD_facts hr
    obtain ⟨g1, g2, g3, g4⟩ := f7 k (by omega) (by omega)
    have eL : D.label.getD k 0 = D.label[k] := by rw [List.getD_eq_getElem?_getD, List.getElem?_eq_getElem (show k < D.label.length by omega), Option.getD_some]
    have eN : D.next.getD k [] = D.next[k] := by rw [List.getD_eq_getElem?_getD, List.getElem?_eq_getElem (show k < D.next.length by omega), Option.getD_some]
    rw [List.range_succ, List.map_append, foldW_append, fold_states hr X t h1 h2 k (by omega), Option.bind_some, List.map_singleton, foldW_one, take_next _ _ 0 (show k < D.label.length by omega), take_next _ _ [] (show k < D.next.length by omega)]
    unfold rowWords
    rw [eL, eN]
    obtain ⟨n, e, hn, hs⟩ := numT_int g2 (by omega)
    simp only [lineW]
    rw [if_neg (by decide), if_neg (by decide), if_neg (by decide), if_pos trivial, hs, rowN_show _ fun t ht => ⟨(g4 t ht).1, by have := g4 t ht; omega⟩, e]
theorem back_fold {D : PDfa} (hr : rightD D = true) (h0 : ∀ b, 256 ≤ b → D.of b = 0) : foldW (D0, 0) (wordsD D) = some (D, tTo D (setsD D).length) := by
  obtain ⟨f1, f2, f3, f4, f5, f6, _⟩ := rightD_facts hr
  obtain ⟨q1, q2⟩ := right_of hr
  obtain ⟨n, e, hn, hs⟩ := numT_int (z := ((D.label.length : Nat) : Int)) (by omega) (by omega)
  obtain ⟨m, e2, hm, hs2⟩ := numT_int (z := D.width) (by omega) (by omega)
  have hh : lineW D0 0 (wHead D) = some (⟨D0.of, D.width, D0.next, D0.label, D0.names⟩, 0) := by
    unfold wHead
    simp only [lineW]
    rw [if_pos trivial, hs, hs2]
    dsimp only
    rw [if_pos (by omega), e2]
  unfold wordsD
  rw [foldW]
  dsimp only
  rw [hh]
  dsimp only
  rw [foldW_append, fold_names D _ 0 rfl _ (Nat.le_refl _), Option.bind_some, foldW_append, fold_classes hr _ rfl _ (Nat.le_refl _), Option.bind_some, fold_states hr _ _ rfl rfl _ (Nat.le_refl _)]
  have ho : ofTo D (setsD D).length = D.of := by
    funext b
    unfold ofTo
    by_cases hb : b < 256
    · rw [if_pos ⟨hb, by unfold setsD; rw [setsTo_length, ← q1 b hb]; exact numR_lt (kern_equi _).refl hb⟩]
    · rw [if_neg (by omega), h0 b (by omega)]
  rw [List.take_length, List.take_length, show D.next.take D.label.length = D.next by rw [← f3, List.take_length], ho]
theorem back_text {D : PDfa} (hr : rightD D = true) (h0 : ∀ b, 256 ≤ b → D.of b = 0) : readP (textD D) = some D := by
  obtain ⟨l1, l2⟩ := linesP_flat (wordsD D) (by simp [wordsD]) (words_ok hr)
  unfold readP
  rw [text_words, if_pos l1, l2, foldP_W _ _ (words_ok hr), back_fold hr h0]
  dsimp only
  rw [if_pos ⟨hr, text_words D⟩]
end Go.Proofs.YtdhmekpgplajmaaGreatDoor
end
section
namespace Go.Proofs.YtdhmekpgplajmaaGreatDoor
open Go.RowKit
set_option maxRecDepth 20000
/-- A text's lines, each with its end. -/
def linesR (s : List UInt8) : List (List UInt8) := (splitL 10 s).dropLast
/-- What a line's words say, put to a machine as the document does it. -/
def putP (D : PDfa) : List (List UInt8) → PDfa
  | w0 :: _ :: w2 :: rest =>
    if w0 = [110, 97, 109, 101] then { D with names := D.names ++ [w2] }
    else if w0 = [99, 108, 97, 115, 115] then
      { D with of := (match readR w2 with | .inr (f, _) => setOf (elems f) (D.width % 256).toNat D.of | .inl _ => D.of), width := D.width + 1 }
    else if w0 = [115, 116, 97, 116, 101] then { D with label := D.label ++ [((read01 w2 : Nat) : Int)], next := D.next ++ [rest.map fun x => ((read01 x : Nat) : Int)] }
    else D
  | _ => D
def putAll (D : PDfa) (L : List (List (List UInt8))) : PDfa := L.foldl putP D
def refD (s : List UInt8) : PDfa := putAll D0 ((linesR s).map (splitL 32))
def refP (s : List UInt8) : Option PDfa := if rightD (refD s) = true ∧ textD (refD s) = s then some (refD s) else none
/-- Nothing is said of what is no byte. -/
def Zero (D : PDfa) : Prop := ∀ b, 256 ≤ b → D.of b = 0
theorem zero_setOf (f : BSet) (k : Nat) (of : Nat → Nat) (h : ∀ b, 256 ≤ b → of b = 0) : ∀ b, 256 ≤ b → setOf (elems f) k of b = 0 := fun b hb => by
  unfold setOf
  rw [if_neg (fun hm => by have := elems_lt hm; omega), h b hb]
theorem putP_zero (D : PDfa) (ws : List (List UInt8)) (h : Zero D) : Zero (putP D ws) := by
  unfold putP
  split
  · split
    · exact h
    · split
      · intro b hb
        dsimp only
        generalize readR _ = q
        cases q with
        | inl _ => exact h b hb
        | inr p => exact zero_setOf _ _ _ h b hb
      · split
        · exact h
        · exact h
  · exact h
theorem putAll_zero : ∀ (L : List (List (List UInt8))) (D : PDfa), Zero D → Zero (putAll D L)
  | [], _, h => h
  | ws :: L, D, h => putAll_zero L (putP D ws) (putP_zero D ws h)
theorem classL_zero {D D' : PDfa} {t t' : BSet} {k : Nat} {s : List UInt8} (h : Zero D) (he : classL D t k s = some (D', t')) : Zero D' := by
  unfold classL at he
  split at he
  · cases he
  · split at he
    · cases he; exact zero_setOf _ _ _ h
    · cases he
theorem lineW_zero {D D' : PDfa} {t t' : BSet} {ws : List (List UInt8)} (h : Zero D) (he : lineW D t ws = some (D', t')) : Zero D' := by
  unfold lineW at he
  split at he
  · split at he
    · split at he
      · split at he
        · split at he
          · cases he; exact h
          · cases he
        · cases he
      · cases he
    · split at he
      · cases he; exact h
      · split at he
        · split at he
          · exact classL_zero h he
          · cases he
        · split at he
          · split at he
            · split at he
              · cases he; exact h
              · cases he
            · cases he
          · cases he
  · cases he
theorem foldP_zero : ∀ (L : List (List UInt8)) (x y : PDfa × BSet), Zero x.1 → foldP x L = some y → Zero y.1
  | [], _, _, h, he => by cases he; exact h
  | s :: L, x, y, h, he => by
    rw [foldP] at he
    split at he
    · rename_i z hz
      exact foldP_zero L z y (lineW_zero h (by unfold stepL at hz; exact hz)) he
    · cases he
theorem readP_facts {s : List UInt8} {D : PDfa} (h : readP s = some D) : rightD D = true ∧ textD D = s ∧ Zero D := by
  unfold readP at h
  split at h
  · split at h
    · rename_i D' t' hf
      split at h
      · rename_i hq
        cases h
        exact ⟨hq.1, hq.2, foldP_zero _ _ _ (fun _ _ => rfl) hf⟩
      · cases h
    · cases h
  · cases h
/-! ### The document's reader on a machine's text -/
theorem valV_show (n : Nat) : valV (showN n) = n := by
  induction n using Nat.strongRecOn with
  | _ n ih =>
    by_cases h1 : n < 10
    · rw [showN_small h1]; simp [valV, dig_toNat _ h1]
    · rw [showN_big h1, valV_snoc, ih (n / 10) (by omega), dig_toNat _ (by omega)]; omega
theorem read01_show {z : Int} (h0 : 0 ≤ z) (h1 : z ≤ 65535) : ((read01 (showI z) : Nat) : Int) = z := by
  have hl := showI_length z (by omega)
  unfold showI at hl ⊢
  rw [if_neg (by omega)] at hl ⊢
  have hp := List.length_pos_iff.2 (showN_ne z.toNat)
  unfold read01
  rw [if_pos, valV_show]
  · omega
  · unfold ok01
    rw [valV_show]
    simp only [Bool.and_eq_true, Bool.not_eq_true', decide_eq_true_eq, List.all_eq_true, Bool.and_eq_false_iff, beq_eq_false_iff_ne, decide_eq_false_iff_not]
    refine ⟨showN_digits _, ?_, ?_, by omega, by omega⟩
    · cases he : showN z.toNat with
      | nil => exact absurd he (showN_ne _)
      | cons a r => rfl
    · by_cases h2 : z.toNat < 10
      · rw [showN_small h2]; exact .inr (by simp)
      · exact .inl (showN_first _ (by omega))
theorem putAll_append (D : PDfa) (L M : List (List (List UInt8))) : putAll D (L ++ M) = putAll (putAll D L) M := List.foldl_append ..
theorem put_names (D X : PDfa) (hX : X.names = []) : ∀ k, k ≤ D.names.length → putAll X ((List.range k).map (wName D)) = ⟨X.of, X.width, X.next, X.label, D.names.take k⟩
  | 0, _ => by
    obtain ⟨o, wd, nx, lb, nm⟩ := X
    obtain rfl : nm = [] := hX
    rfl
  | k + 1, h => by
    rw [List.range_succ, List.map_append, putAll_append, put_names D X hX k (by omega), List.map_singleton, take_next _ _ [] (by omega)]
    rfl
theorem put_classes {D : PDfa} (hr : rightD D = true) (X : PDfa) (hX : X.of = fun _ => 0) (hw : X.width = 0) : ∀ k, k ≤ (setsD D).length → putAll X ((List.range k).map (wClass D)) = ⟨ofTo D k, (k : Nat), X.next, X.label, X.names⟩
  | 0, _ => by
    obtain ⟨o, wd, nx, lb, nm⟩ := X
    obtain rfl : o = _ := hX
    obtain rfl : wd = 0 := hw
    have e1 : ofTo D 0 = fun _ => 0 := by funext b; simp [ofTo]
    rw [e1]
    rfl
  | k + 1, h => by
    have hw2 := setsD_length D
    have hm := mem_class hr k (by omega)
    rw [List.range_succ, List.map_append, putAll_append, put_classes hr X hX hw k (by omega), List.map_singleton]
    unfold putAll wClass
    rw [List.foldl_cons, List.foldl_nil]
    simp only [putP]
    rw [if_neg (by decide), if_pos trivial, readR_show]
    dsimp only
    have e0 : ((k : Int) % 256).toNat = k := by omega
    rw [e0]
    have e1 : setOf (elems ((setsD D).getD k 0)) k (ofTo D k) = ofTo D (k + 1) := by
      funext b
      unfold setOf ofTo
      by_cases hb : b < 256
      · have he : (b ∈ elems ((setsD D).getD k 0)) = (D.of b = k) := by rw [mem_elems, hm b hb]; simp
        by_cases h1 : D.of b = k
        · rw [if_pos (by rw [he]; exact h1), if_pos ⟨hb, by omega⟩, h1]
        · rw [if_neg (by rw [he]; exact h1)]
          by_cases h2 : D.of b < k
          · rw [if_pos ⟨hb, h2⟩, if_pos ⟨hb, by omega⟩]
          · rw [if_neg (by omega), if_neg (by omega)]
      · rw [if_neg (fun h => hb (elems_lt h)), if_neg (by omega), if_neg (by omega)]
    rw [e1]
    rfl
theorem read01_all : ∀ r : List Int, (∀ t ∈ r, 0 ≤ t ∧ t ≤ 65535) → (r.map showI).map (fun x => ((read01 x : Nat) : Int)) = r
  | [], _ => rfl
  | a :: r, h => by
    rw [List.map_cons, List.map_cons, read01_all r fun t ht => h t (by simp [ht]), read01_show (h a (by simp)).1 (h a (by simp)).2]
theorem put_states {D : PDfa} (hr : rightD D = true) (X : PDfa) (h1 : X.label = []) (h2 : X.next = []) : ∀ k, k ≤ D.label.length → putAll X ((List.range k).map (rowWords D)) = ⟨X.of, X.width, D.next.take k, D.label.take k, X.names⟩
  | 0, _ => by
    obtain ⟨o, wd, nx, lb, nm⟩ := X
    obtain rfl : nx = [] := h2
    obtain rfl : lb = [] := h1
    rfl
  | k + 1, h => by
    obtain ⟨f1, f2, f3, f4, f5, f6, f7⟩ := rightD_facts hr
    obtain ⟨g1, g2, g3, g4⟩ := f7 k (by omega) (by omega)
    have eL : D.label.getD k 0 = D.label[k] := by rw [List.getD_eq_getElem?_getD, List.getElem?_eq_getElem (show k < D.label.length by omega), Option.getD_some]
    have eN : D.next.getD k [] = D.next[k] := by rw [List.getD_eq_getElem?_getD, List.getElem?_eq_getElem (show k < D.next.length by omega), Option.getD_some]
    rw [List.range_succ, List.map_append, putAll_append, put_states hr X h1 h2 k (by omega), List.map_singleton, take_next _ _ 0 (show k < D.label.length by omega), take_next _ _ [] (show k < D.next.length by omega)]
    unfold putAll rowWords
    rw [eL, eN, List.foldl_cons, List.foldl_nil]
    simp only [putP]
    rw [if_neg (by decide), if_neg (by decide), if_pos trivial, read01_all _ fun t ht => ⟨(g4 t ht).1, by have := g4 t ht; omega⟩, read01_show g2 (by omega)]
theorem put_fold {D : PDfa} (hr : rightD D = true) (h0 : Zero D) : putAll D0 (wordsD D) = D := by
  obtain ⟨f1, f2, f3, f4, f5, f6, _⟩ := rightD_facts hr
  obtain ⟨q1, q2⟩ := right_of hr
  have hh : putP D0 (wHead D) = D0 := by
    unfold wHead
    simp only [putP]
    rw [if_neg (by decide), if_neg (by decide), if_neg (by decide)]
  have hw : (((setsD D).length : Nat) : Int) = D.width := by unfold setsD; rw [setsTo_length]; exact q2
  have ho : ofTo D (setsD D).length = D.of := by
    funext b
    unfold ofTo
    by_cases hb : b < 256
    · rw [if_pos ⟨hb, by unfold setsD; rw [setsTo_length, ← q1 b hb]; exact numR_lt (kern_equi _).refl hb⟩]
    · rw [if_neg (by omega), h0 b (by omega)]
  have e : putAll D0 (wordsD D) = putAll (putP D0 (wHead D)) ((List.range D.names.length).map (wName D) ++ ((List.range (setsD D).length).map (wClass D) ++ (List.range D.label.length).map (rowWords D))) := rfl
  rw [e, hh, putAll_append, put_names D _ rfl _ (Nat.le_refl _), putAll_append, put_classes hr _ rfl rfl _ (Nat.le_refl _), put_states hr _ rfl rfl _ (Nat.le_refl _), List.take_length, List.take_length, show D.next.take D.label.length = D.next by rw [← f3, List.take_length], ho, hw]
theorem splitL_snoc (c : UInt8) : ∀ s : List UInt8, splitL c (s ++ [c]) = splitL c s ++ [[]]
  | [] => by simp [splitL]
  | x :: s => by
    rw [List.cons_append, splitL, splitL]
    split
    · rw [splitL_snoc c s]; rfl
    · rw [splitL_snoc c s]
      cases hs : splitL c s with
      | nil => exact absurd hs (splitL_ne c s)
      | cons a l => rfl
theorem linesR_flat (L : List (List (List UInt8))) (hne : L ≠ []) (h : ∀ ws ∈ L, wordsOK ws) : linesR (L.flatMap lineT) = L.map fun ws => Lib.join ws [32] := by
  unfold linesR
  rw [flat_lines L hne, splitL_snoc, List.dropLast_concat]
  refine splitL_join 10 _ (by simpa using hne) fun w hw => ?_
  obtain ⟨ws, h1, rfl⟩ := List.mem_map.1 hw
  exact (h ws h1).noEnd
theorem refD_text {D : PDfa} (hr : rightD D = true) (h0 : Zero D) : refD (textD D) = D := by
  have hok := words_ok hr
  unfold refD
  rw [text_words, linesR_flat _ (by simp [wordsD]) hok, List.map_map]
  have : (wordsD D).map (splitL 32 ∘ fun ws => Lib.join ws [32]) = wordsD D := by
    conv => rhs; rw [← List.map_id (wordsD D)]
    exact List.map_congr_left fun ws hw => (hok ws hw).split
  rw [this, put_fold hr h0]
/-- Both readers make the same of each text. -/
theorem refP_eq (s : List UInt8) : refP s = readP s := by
  cases h : readP s with
  | some D =>
    obtain ⟨h1, h2, h3⟩ := readP_facts h
    unfold refP
    rw [← h2, refD_text h1 h3, if_pos ⟨h1, rfl⟩]
  | none =>
    unfold refP
    rw [if_neg]
    rintro ⟨h1, h2⟩
    have := back_text h1 (putAll_zero _ _ (fun _ _ => rfl) : Zero (refD s))
    rw [h2, h] at this
    cases this
end Go.Proofs.YtdhmekpgplajmaaGreatDoor
end
section
namespace Go.Proofs.YtdhmekpgplajmaaGreatDoor
open Go.RowKit
/-- What stands between two places. -/
def pieceL (s : List UInt8) (a i : Nat) : List UInt8 := (s.take i).drop a
def glue (p : List UInt8) : List (List UInt8) → List (List UInt8)
  | [] => [p]
  | y :: ys => (p ++ y) :: ys
theorem glue_nil {l : List (List UInt8)} (h : l ≠ []) : glue [] l = l := by
  cases l with
  | nil => exact absurd rfl h
  | cons y ys => rfl
theorem pieceL_self (s : List UInt8) (i : Nat) : pieceL s i i = [] := by
  unfold pieceL
  rw [List.drop_eq_nil_iff]
  exact List.length_take_le _ _
theorem pieceL_succ {s : List UInt8} {a i : Nat} (h : a ≤ i) (hi : i < s.length) : pieceL s a (i + 1) = pieceL s a i ++ [s[i]] := by
  unfold pieceL
  rw [List.take_succ_eq_append_getElem hi, List.drop_append_of_le_length (by rw [List.length_take]; omega)]
theorem sv_piece (s : List UInt8) (a i : Nat) : (Value.string (({ data := s.toArray } : ByteArray).extract a i)) = sv (pieceL s a i) := by
  have : ({ data := s.toArray } : ByteArray).extract a i = ⟨(pieceL s a i).toArray⟩ := by
    apply ByteArray.ext
    simp [pieceL, List.drop_take]
  rw [this]
/-- Where the cutting stands: the pieces so far, where the next one begins, and the place. -/
def CutQ (c : UInt8) (s : List UInt8) (L : List (List UInt8)) (a i : Nat) : Prop := a ≤ i ∧ L.length ≤ i ∧ splitL c s = L ++ glue (pieceL s a i) (splitL c (s.drop i))
theorem CutQ.start (c : UInt8) (s : List UInt8) : CutQ c s [] 0 0 := ⟨Nat.le_refl _, Nat.le_refl _, by rw [pieceL_self, List.drop_zero, glue_nil (splitL_ne c s)]; rfl⟩
theorem CutQ.cut {c : UInt8} {s : List UInt8} {L : List (List UInt8)} {a i : Nat} (h : CutQ c s L a i) (hi : i < s.length) (hc : s[i] = c) : CutQ c s (L ++ [pieceL s a i]) (i + 1) (i + 1) := by
  obtain ⟨h1, h2, h3⟩ := h
  refine ⟨Nat.le_refl _, by simp; omega, ?_⟩
  rw [h3, drop_at s i hi, splitL, if_pos hc, pieceL_self, glue_nil (splitL_ne c _)]
  simp [glue]
theorem CutQ.go {c : UInt8} {s : List UInt8} {L : List (List UInt8)} {a i : Nat} (h : CutQ c s L a i) (hi : i < s.length) (hc : s[i] ≠ c) : CutQ c s L a (i + 1) := by
  obtain ⟨h1, h2, h3⟩ := h
  refine ⟨by omega, by omega, ?_⟩
  rw [h3, drop_at s i hi, splitL, if_neg hc, pieceL_succ h1 hi]
  cases hs : splitL c (s.drop (i + 1)) with
  | nil => exact absurd hs (splitL_ne c _)
  | cons y ys => simp [glue]
theorem CutQ.fin {c : UInt8} {s : List UInt8} {L : List (List UInt8)} {a i : Nat} (h : CutQ c s L a i) (hi : s.length = i) : splitL c s = L ++ [pieceL s a i] := by
  obtain ⟨h1, h2, h3⟩ := h
  rw [h3, List.drop_eq_nil_of_le (by omega), splitL]
  simp [glue]
set_option maxHeartbeats 1600000 in
theorem ref36_lines (s : List UInt8) (w : World) (hs : s.length ≤ 4194304) : Calls Tryz.prog 21 #[sv s] w (RetOwn w 9 1 encT (linesR s)) := by
  obtain ⟨n, hn⟩ : ∃ n, s.length = n := ⟨_, rfl⟩
  have hix : ∀ (k : Nat) (h : k < (⟨s.toArray⟩ : ByteArray).size) (h2 : k < s.length), (⟨s.toArray⟩ : ByteArray)[k] = s[k] := fun k h h2 => rfl
  have hsz : (⟨s.toArray⟩ : ByteArray).size = n := by rw [sv_size, hn]
  have HIX := Lib.hid hix
  have HN := Lib.hid hn
  rw [hn] at hs
  clear hix hn
  go_enter Tryz.func21, Tryz.ntmps21
  go_wp2
  go_loopw [3, 4, 5] (fun v at' i wr => ∃ (k b : Nat) (L : List (List UInt8)) (a : Option Addr) (cap : Nat), k ≤ n ∧ v = .slice a L.length cap ∧ at' = .int .i64 b ∧ i = .int .i64 k ∧ CutQ 10 s L b k ∧ Own wr w.heap.size 9 1 encT (.slice a L.length cap) L ∧ Below w.heap.size w wr) (fun _ _ i _ => n - (intOf i).toNat)
  case atStart =>
    refine ⟨0, 0, [], some ⟨w.heap.size, 0, none⟩, 0, Nat.zero_le _, rfl, rfl, rfl, CutQ.start _ _, Own.empty w w.heap.size 9 1 encT (Nat.le_refl _), by go_grown⟩
  case round =>
    obtain ⟨k, b, L, a, cap, hk, rfl, rfl, rfl, hQ, hown, hB⟩ := hrel
    by_cases hlt : k < n
    · have hk2 : k < s.length := by rw [HN.out]; exact hlt
      have hi := fun h => HIX.out k h hk2
      have hbk := hQ.1
      have hLk := hQ.2.1
      have hx := sv_piece s b k
      have hb0 : (0 : Int) ≤ (b : Int) := by omega
      have hk0 : (0 : Int) ≤ (k : Int) := by omega
      have hbk2 : (b : Int) ≤ (k : Int) := by omega
      have hkn : (k : Int) ≤ (n : Int) := by omega
      have hcut : s[k].toNat = 10 → CutQ 10 s (L ++ [pieceL s b k]) (k + 1) (k + 1) := fun h => hQ.cut hk2 (UInt8.toNat_inj.1 h)
      have hgo : s[k].toNat ≠ 10 → CutQ 10 s L b (k + 1) := fun h => hQ.go hk2 (fun e => h (by rw [e]; rfl))
      generalize s[k] = c at *
      generalize pieceL s b k = p at *
      have HQ := Lib.hid hQ
      by_cases h10 : c.toNat = 10
      · have e1 : ((c.toNat : Int) == 10) = true := by rw [h10]; rfl
        have HC := Lib.hid (hcut h10)
        clear hQ hcut hgo h10
        go_wp2_with (at_builtin; go_must (refine wpList_append1 rfl _ _ 26 rfl elem_str encT_ok rfl (hown.alloc _) ⟨wr.heap.size, 0, none⟩ 1 p rfl (new_cells wr [sv p] _) (by simp [maxLen]; omega) (by omega) (by have := hB.size; simp at *; omega) ?_; intro a2 cap2 W' hown' hg))
        go_roundw
        case rel =>
          have h7 := hB.alloc hB.size (.cells #[sv p] 9)
          exact ⟨k + 1, k + 1, L ++ [p], a2, cap2, hlt, by simp, by go_num, by go_num, HC.out, by rw [List.length_append]; exact hown', below_grown h7 (hown.alloc _) hg (Nat.le_refl _) h7.size⟩
        case measure => simp [intOf]; omega
      · have e1 : ((c.toNat : Int) == 10) = false := by simp; omega
        have HC := Lib.hid (hgo h10)
        clear hQ hcut hgo h10
        go_wp2
        go_roundw
        case rel => exact ⟨k + 1, b, L, a, cap, hlt, rfl, rfl, by go_num, HC.out, hown, hB⟩
        case measure => simp [intOf]; omega
    · obtain rfl : k = n := by omega
      have hf := hQ.fin HN.out
      have hL : linesR s = L := by unfold linesR; rw [hf, List.dropLast_concat]
      have HL := Lib.hid hL
      clear hQ hf hL
      go_wp2
      go_ret
      exact ⟨a, cap, by rw [HL.out]; rfl, by rw [HL.out]; exact hown, hB⟩
set_option maxHeartbeats 1600000 in
theorem ref36_words (s : List UInt8) (w : World) (hs : s.length ≤ 4194304) : Calls Tryz.prog 23 #[sv s] w (RetOwn w 9 1 encT (splitL 32 s)) := by
  obtain ⟨n, hn⟩ : ∃ n, s.length = n := ⟨_, rfl⟩
  have hix : ∀ (k : Nat) (h : k < (⟨s.toArray⟩ : ByteArray).size) (h2 : k < s.length), (⟨s.toArray⟩ : ByteArray)[k] = s[k] := fun k h h2 => rfl
  have hsz : (⟨s.toArray⟩ : ByteArray).size = n := by rw [sv_size, hn]
  have HIX := Lib.hid hix
  have HN := Lib.hid hn
  rw [hn] at hs
  clear hix hn
  go_enter Tryz.func23, Tryz.ntmps23
  go_wp2
  go_loopw [3, 4, 5] (fun v at' i wr => ∃ (k b : Nat) (L : List (List UInt8)) (a : Option Addr) (cap : Nat), k ≤ n + 1 ∧ v = .slice a L.length cap ∧ at' = .int .i64 b ∧ i = .int .i64 k ∧ L.length ≤ k ∧ Hid ((k ≤ n ∧ CutQ 32 s L b k) ∨ (k = n + 1 ∧ splitL 32 s = L)) ∧ Own wr w.heap.size 9 1 encT (.slice a L.length cap) L ∧ Below w.heap.size w wr) (fun _ _ i _ => n + 1 - (intOf i).toNat)
  case atStart =>
    refine ⟨0, 0, [], some ⟨w.heap.size, 0, none⟩, 0, Nat.zero_le _, rfl, rfl, rfl, Nat.le_refl _, Lib.hid (.inl ⟨Nat.zero_le _, CutQ.start _ _⟩), Own.empty w w.heap.size 9 1 encT (Nat.le_refl _), by go_grown⟩
  case round =>
    obtain ⟨k, b, L, a, cap, hk, rfl, rfl, rfl, hLk, hQQ, hown, hB⟩ := hrel
    by_cases hlt : k ≤ n
    · have hQ : CutQ 32 s L b k := by
        rcases hQQ.out with ⟨_, h⟩ | ⟨h, _⟩
        · exact h
        · omega
      have hbk := hQ.1
      have hx := sv_piece s b k
      have hb0 : (0 : Int) ≤ (b : Int) := by omega
      have hk0 : (0 : Int) ≤ (k : Int) := by omega
      have hbk2 : (b : Int) ≤ (k : Int) := by omega
      have hkn : (k : Int) ≤ (n : Int) := by omega
      clear hQQ
      by_cases hend : k = n
      · subst hend
        have e0 : ((k : Int) == (k : Int)) = true := by simp
        have HC := Lib.hid (hQ.fin HN.out)
        generalize pieceL s b k = p at *
        clear hQ
        go_wp2_with (at_builtin; go_must (refine wpList_append1 rfl _ _ 26 rfl elem_str encT_ok rfl (hown.alloc _) ⟨wr.heap.size, 0, none⟩ 1 p rfl (new_cells wr [sv p] _) (by simp [maxLen]; omega) (by omega) (by have := hB.size; simp at *; omega) ?_; intro a2 cap2 W' hown' hg))
        go_roundw
        case rel =>
          have h7 := hB.alloc hB.size (.cells #[sv p] 9)
          exact ⟨k + 1, k + 1, L ++ [p], a2, cap2, Nat.le_refl _, by simp, by go_num, by go_num, by simp; omega, Lib.hid (.inr ⟨rfl, HC.out⟩), by rw [List.length_append]; exact hown', below_grown h7 (hown.alloc _) hg (Nat.le_refl _) h7.size⟩
        case measure => simp [intOf]
      · have hkn3 : k < n := by omega
        have e0 : ((k : Int) == (n : Int)) = false := by simp; omega
        have hk2 : k < s.length := by rw [HN.out]; exact hkn3
        have hi := fun h => HIX.out k h hk2
        have hcut : s[k].toNat = 32 → CutQ 32 s (L ++ [pieceL s b k]) (k + 1) (k + 1) := fun h => hQ.cut hk2 (UInt8.toNat_inj.1 h)
        have hgo : s[k].toNat ≠ 32 → CutQ 32 s L b (k + 1) := fun h => hQ.go hk2 (fun e => h (by rw [e]; rfl))
        generalize s[k] = c at *
        generalize pieceL s b k = p at *
        by_cases h10 : c.toNat = 32
        · have e1 : ((c.toNat : Int) == 32) = true := by rw [h10]; rfl
          have HC := Lib.hid (hcut h10)
          clear hQ hcut hgo h10
          go_wp2_with (at_builtin; go_must (refine wpList_append1 rfl _ _ 26 rfl elem_str encT_ok rfl (hown.alloc _) ⟨wr.heap.size, 0, none⟩ 1 p rfl (new_cells wr [sv p] _) (by simp [maxLen]; omega) (by omega) (by have := hB.size; simp at *; omega) ?_; intro a2 cap2 W' hown' hg))
          go_roundw
          case rel =>
            have h7 := hB.alloc hB.size (.cells #[sv p] 9)
            exact ⟨k + 1, k + 1, L ++ [p], a2, cap2, by omega, by simp, by go_num, by go_num, by simp; omega, Lib.hid (.inl ⟨hkn3, HC.out⟩), by rw [List.length_append]; exact hown', below_grown h7 (hown.alloc _) hg (Nat.le_refl _) h7.size⟩
          case measure => simp [intOf]; omega
        · have e1 : ((c.toNat : Int) == 32) = false := by simp; omega
          have HC := Lib.hid (hgo h10)
          clear hQ hcut hgo h10
          go_wp2
          go_roundw
          case rel => exact ⟨k + 1, b, L, a, cap, by omega, rfl, rfl, by go_num, by omega, Lib.hid (.inl ⟨hkn3, HC.out⟩), hown, hB⟩
          case measure => simp [intOf]; omega
    · obtain rfl : k = n + 1 := by omega
      have hL : splitL 32 s = L := by
        rcases hQQ.out with ⟨h, _⟩ | ⟨_, h⟩
        · omega
        · exact h
      have HL := Lib.hid hL
      clear hQQ hL
      go_wp2
      go_ret
      exact ⟨a, cap, by rw [HL.out]; rfl, by rw [HL.out]; exact hown, hB⟩
end Go.Proofs.YtdhmekpgplajmaaGreatDoor
end
section
namespace Go.Proofs.YtdhmekpgplajmaaGreatDoor
open Go.RowKit
theorem vcells_ext {A : Array Value} {V : VDfa} (hs : A.size = 260) (h0 : ∀ i, i < 256 → A[i]? = some (.int .u8 (V.of i : Nat))) (h1 : A[256]? = some (.int .i64 V.width)) (h2 : A[257]? = some (.slice V.na V.nn V.nc))
    (h3 : A[258]? = some (.slice V.la V.ln V.lc)) (h4 : A[259]? = some (.slice V.ma V.mn V.mc)) : A = V.cells := by
  refine Array.ext_getElem? fun i => ?_
  rcases Nat.lt_or_ge i 256 with h | h
  · rw [h0 i h, V.get_of i h]
  · rcases Nat.lt_or_ge i 260 with hh | hh
    · have : i = 256 ∨ i = 257 ∨ i = 258 ∨ i = 259 := by omega
      rcases this with rfl | rfl | rfl | rfl
      · rw [h1, V.get_width]
      · rw [h2, V.get_next]
      · rw [h3, V.get_label]
      · rw [h4, V.get_names]
    · rw [Array.getElem?_eq_none (by omega), Array.getElem?_eq_none (by rw [VDfa.size]; exact hh)]
theorem vcells_of (V : VDfa) {b : Nat} (hb : b < 256) (k : Nat) : V.cells.setIfInBounds b (.int .u8 (k : Nat)) = VDfa.cells { V with of := fun x => if x = b then k else V.of x } := by
  refine vcells_ext (by simp [VDfa.size]) (fun i hi => ?_) ?_ ?_ ?_ ?_
  · rw [Array.getElem?_setIfInBounds]
    by_cases h : b = i
    · subst h; simp [VDfa.size]; omega
    · rw [if_neg h, V.get_of i hi]; simp [Ne.symm h]
  · rw [Array.getElem?_setIfInBounds, if_neg (by omega)]; exact V.get_width
  · rw [Array.getElem?_setIfInBounds, if_neg (by omega)]; exact V.get_next
  · rw [Array.getElem?_setIfInBounds, if_neg (by omega)]; exact V.get_label
  · rw [Array.getElem?_setIfInBounds, if_neg (by omega)]; exact V.get_names
theorem vcells_width (V : VDfa) (x : Int) : V.cells.setIfInBounds 256 (.int .i64 x) = VDfa.cells { V with width := x } := by
  refine vcells_ext (by simp [VDfa.size]) (fun i hi => ?_) ?_ ?_ ?_ ?_
  · rw [Array.getElem?_setIfInBounds, if_neg (by omega), V.get_of i hi]
  · simp [VDfa.size]
  · rw [Array.getElem?_setIfInBounds, if_neg (by omega)]; exact V.get_next
  · rw [Array.getElem?_setIfInBounds, if_neg (by omega)]; exact V.get_label
  · rw [Array.getElem?_setIfInBounds, if_neg (by omega)]; exact V.get_names
theorem vcells_next (V : VDfa) (a : Option Addr) (n c : Nat) : V.cells.setIfInBounds 257 (.slice a n c) = VDfa.cells { V with na := a, nn := n, nc := c } := by
  refine vcells_ext (by simp [VDfa.size]) (fun i hi => ?_) ?_ ?_ ?_ ?_
  · rw [Array.getElem?_setIfInBounds, if_neg (by omega), V.get_of i hi]
  · rw [Array.getElem?_setIfInBounds, if_neg (by omega)]; exact V.get_width
  · simp [VDfa.size]
  · rw [Array.getElem?_setIfInBounds, if_neg (by omega)]; exact V.get_label
  · rw [Array.getElem?_setIfInBounds, if_neg (by omega)]; exact V.get_names
theorem vcells_label (V : VDfa) (a : Option Addr) (n c : Nat) : V.cells.setIfInBounds 258 (.slice a n c) = VDfa.cells { V with la := a, ln := n, lc := c } := by
  refine vcells_ext (by simp [VDfa.size]) (fun i hi => ?_) ?_ ?_ ?_ ?_
  · rw [Array.getElem?_setIfInBounds, if_neg (by omega), V.get_of i hi]
  · rw [Array.getElem?_setIfInBounds, if_neg (by omega)]; exact V.get_width
  · rw [Array.getElem?_setIfInBounds, if_neg (by omega)]; exact V.get_next
  · simp [VDfa.size]
  · rw [Array.getElem?_setIfInBounds, if_neg (by omega)]; exact V.get_names
theorem vcells_names (V : VDfa) (a : Option Addr) (n c : Nat) : V.cells.setIfInBounds 259 (.slice a n c) = VDfa.cells { V with ma := a, mn := n, mc := c } := by
  refine vcells_ext (by simp [VDfa.size]) (fun i hi => ?_) ?_ ?_ ?_ ?_
  · rw [Array.getElem?_setIfInBounds, if_neg (by omega), V.get_of i hi]
  · rw [Array.getElem?_setIfInBounds, if_neg (by omega)]; exact V.get_width
  · rw [Array.getElem?_setIfInBounds, if_neg (by omega)]; exact V.get_next
  · rw [Array.getElem?_setIfInBounds, if_neg (by omega)]; exact V.get_label
  · simp [VDfa.size]
/-- A row: all but the first element of a block of its own, which is not the labels'. -/
def RowP (w : World) (base : Nat) (lb : Option Nat) (x : Option Addr × Nat × Nat) (l : List Int) : Prop :=
  ∃ g o c cur, x = (some ⟨g, o, none⟩, l.length, c) ∧ base ≤ g ∧ l.length ≤ c ∧ c ≤ maxLen ∧ Box w g cur 3 ∧ (∀ i (h : i < l.length), cur[o + i]? = some (.int .i64 l[i])) ∧ lb ≠ some g
theorem RowP.kept {w w' : World} {base : Nat} {lb : Option Nat} {x : Option Addr × Nat × Nat} {l : List Int} (h : RowP w base lb x l) (hb : Below w.heap.size w w') : RowP w' base lb x l := by
  obtain ⟨g, o, c, cur, h1, h2, h3, h4, h5, h6, h7⟩ := h
  exact ⟨g, o, c, cur, h1, h2, h3, h4, h5.kept hb, h6, h7⟩
theorem RowP.slice {w : World} {base : Nat} {lb : Option Nat} {x : Option Addr × Nat × Nat} {l : List Int} (h : RowP w base lb x l) : ∃ a c, rowV x = .slice a l.length c ∧ SliceR w (.slice a l.length c) 1 encI l := by
  obtain ⟨g, o, c, cur, rfl, h2, h3, h4, h5, h6, h7⟩ := h
  refine ⟨_, c, rfl, ⟨_, g, o, c, rfl, h3, h4, .inl rfl, fun i hi j u hu => ?_⟩⟩
  cases j with
  | zero =>
    simp only [encI, List.getElem?_cons_zero, Option.some.injEq] at hu
    subst hu
    rw [h5.cell, Nat.mul_one, Nat.add_zero, h6 i hi]
  | succ j => simp [encI] at hu
theorem RowP.grownT {α : Type} {w w' : World} {base b2 E size : Nat} {enc : α → List Value} {v : Value} {xs : List α} {lb : Option Nat} {x : Option Addr × Nat × Nat} {l : List Int} (h : RowP w base lb x l) (ho : Own w b2 E size enc v xs) (hg : w.grownBy w' v.ownBlock) (hE : E ≠ 3) : RowP w' base lb x l := by
  obtain ⟨g, o, c, cur, h1, h2, h3, h4, h5, h6, h7⟩ := h
  exact ⟨g, o, c, cur, h1, h2, h3, h4, h5.grownT ho hg hE, h6, h7⟩
theorem RowP.grownL {w w' : World} {base : Nat} {lb lb2 : Option Nat} {x : Option Addr × Nat × Nat} {l : List Int} (h : RowP w base lb x l) (hg : w.grownBy w' lb) (hl : lb2 = lb ∨ lb2 = some w.heap.size) : RowP w' base lb2 x l := by
  obtain ⟨g, o, c, cur, h1, h2, h3, h4, h5, h6, h7⟩ := h
  refine ⟨g, o, c, cur, h1, h2, h3, h4, (hg.block g h5.lt (fun e => h7 e.symm)).trans h5, h6, ?_⟩
  rcases hl with rfl | rfl
  · exact h7
  · intro e
    have := h5.lt
    cases e
    omega
structure PutD (w : World) (base : Nat) (V : VDfa) (D : PDfa) : Prop where
  of : V.of = D.of
  width : V.width = D.width
  lab : Own w base 3 1 encI V.lv D.label
  nam : Own w base 9 1 encT (.slice V.ma V.mn V.mc) D.names
  nxt : ∃ rows : List (Option Addr × Nat × Nat), Own w base 25 1 encR (.slice V.na V.nn V.nc) rows ∧ rows.length = D.next.length ∧ ∀ i (_ : i < rows.length) (_ : i < D.next.length), RowP w base V.lv.ownBlock rows[i] D.next[i]
theorem PutD.kept {w w' : World} {base : Nat} {V : VDfa} {D : PDfa} (h : PutD w base V D) (hb : Below w.heap.size w w') : PutD w' base V D := by
  obtain ⟨rows, h1, h2, h3⟩ := h.nxt
  exact ⟨h.of, h.width, h.lab.kept hb, h.nam.kept hb, rows, h1.kept hb, h2, fun i p q => (h3 i p q).kept hb⟩
theorem PutD.reads {w : World} {base : Nat} {V : VDfa} {D : PDfa} (h : PutD w base V D) : ReadsD w V D := by
  obtain ⟨rows, h1, h2, h3⟩ := h.nxt
  refine ⟨h.of, h.width, h.lab.slice encI_ok, h.nam.slice encT_ok, rows.map rowV, slice_map (m := rowV) (f := rowV) (g := fun v => v) (h1.slice encR_ok) (fun _ => rfl), by rw [List.length_map]; exact h2, fun i a b => ?_⟩
  have ha : i < rows.length := by simpa using a
  obtain ⟨a', c', h4, h5⟩ := (h3 i ha b).slice
  exact ⟨a', c', by rw [List.getElem_map]; exact h4, h5⟩
theorem PutD.start (w : World) (base : Nat) : PutD w base V0 D0 :=
  ⟨rfl, rfl, Own.nil _ _ _ _ _, Own.nil _ _ _ _ _, [], Own.nil _ _ _ _ _, rfl, fun i h => by simp at h⟩
/-- A name more. -/
theorem PutD.names_append {w w' : World} {base : Nat} {V : VDfa} {D : PDfa} {a' : Option Addr} {n' cap' : Nat} {x : List UInt8} (h : PutD w base V D) (hg : w.grownBy w' (Value.slice V.ma V.mn V.mc).ownBlock)
    (ho : Own w' base 9 1 encT (.slice a' n' cap') (D.names ++ [x])) : PutD w' base { V with ma := a', mn := n', mc := cap' } { D with names := D.names ++ [x] } := by
  obtain ⟨rows, h1, h2, h3⟩ := h.nxt
  exact ⟨h.of, h.width, h.lab.grownT h.nam hg (by decide), ho, rows, h1.grownT h.nam hg (by decide), h2, fun i p q => (h3 i p q).grownT h.nam hg (by decide)⟩
/-- A label more. -/
theorem PutD.label_append {w w' : World} {base : Nat} {V : VDfa} {D : PDfa} {a' : Option Addr} {n' cap' : Nat} {x : Int} (h : PutD w base V D) (hg : w.grownBy w' V.lv.ownBlock)
    (ho : Own w' base 3 1 encI (.slice a' n' cap') (D.label ++ [x])) (hfr : (Value.slice a' n' cap').ownBlock = V.lv.ownBlock ∨ (Value.slice a' n' cap').ownBlock = some w.heap.size) : PutD w' base { V with la := a', ln := n', lc := cap' } { D with label := D.label ++ [x] } := by
  obtain ⟨rows, h1, h2, h3⟩ := h.nxt
  exact ⟨h.of, h.width, ho, h.nam.grownT h.lab hg (by decide), rows, h1.grownT h.lab hg (by decide), h2, fun i p q => (h3 i p q).grownL hg hfr⟩
/-- A row more. -/
theorem PutD.next_append {w w' : World} {base : Nat} {V : VDfa} {D : PDfa} {a' : Option Addr} {n' cap' : Nat} {rows : List (Option Addr × Nat × Nat)} {x : Option Addr × Nat × Nat} {l : List Int} (h : PutD w base V D)
    (h1 : Own w base 25 1 encR (.slice V.na V.nn V.nc) rows) (h2 : rows.length = D.next.length) (h3 : ∀ i (_ : i < rows.length) (_ : i < D.next.length), RowP w base V.lv.ownBlock rows[i] D.next[i])
    (hg : w.grownBy w' (Value.slice V.na V.nn V.nc).ownBlock) (ho : Own w' base 25 1 encR (.slice a' n' cap') (rows ++ [x])) (hx : RowP w base V.lv.ownBlock x l) : PutD w' base { V with na := a', nn := n', nc := cap' } { D with next := D.next ++ [l] } := by
  refine ⟨h.of, h.width, h.lab.grownT h1 hg (by decide), h.nam.grownT h1 hg (by decide), rows ++ [x], ho, by simp [h2], fun i p q => ?_⟩
  by_cases hi : i < rows.length
  · have e1 : (rows ++ [x])[i] = rows[i] := List.getElem_append_left hi
    have e2 : (D.next ++ [l])[i] = D.next[i]'(by omega) := List.getElem_append_left (by omega)
    rw [e1, e2]
    exact (h3 i hi (by omega)).grownT h1 hg (by decide)
  · obtain rfl : i = rows.length := by simp at p; omega
    have e1 : (rows ++ [x])[rows.length] = x := by simp
    have e2 : (D.next ++ [l])[rows.length]'(by simp; omega) = l := by simp [h2]
    rw [e1, e2]
    exact hx.grownT h1 hg (by decide)
theorem PutD.other {w : World} {base b i E : Nat} {V : VDfa} {D : PDfa} {c : Array Value} (h : PutD w base V D) (hb : Box w b c E) (e1 : E ≠ 3) (e2 : E ≠ 9) (e3 : E ≠ 25) (u : Value) : PutD (w.setCell ⟨b, i, none⟩ u) base V D := by
  obtain ⟨rows, h1, h2, h3⟩ := h.nxt
  refine ⟨h.of, h.width, h.lab.otherT hb (Ne.symm e1) _ _, h.nam.otherT hb (Ne.symm e2) _ _, rows, h1.otherT hb (Ne.symm e3) _ _, h2, fun i p q => ?_⟩
  obtain ⟨g, o, c', cur, k1, k2, k3, k4, k5, k6, k7⟩ := h3 i p q
  exact ⟨g, o, c', cur, k1, k2, k3, k4, k5.other _ u (by rintro rfl; exact e1 (hb.type_eq k5)), k6, k7⟩
theorem Own.setRowT {α : Type} {w : World} {base E E' size b : Nat} {enc : α → List Value} {v : Value} {xs : List α} {c : Array Value} (h : Own w base E size enc v xs) (hb : Box w b c E') (hne : E ≠ E') (c' : Array Value) : Own (w.setRow b c') base E size enc v xs := by
  obtain ⟨a', cap, hv, hle, hm, hh⟩ := h
  refine ⟨a', cap, hv, hle, hm, ?_⟩
  rcases hh with hh | ⟨g, cur, ha, hbg, hg, hr⟩
  · exact .inl hh
  · exact .inr ⟨g, cur, ha, hbg, hg.setRow_other c' (by rintro rfl; exact hne (hg.type_eq hb)), hr⟩
theorem PutD.setRow {w : World} {base b E : Nat} {V : VDfa} {D : PDfa} {c : Array Value} (h : PutD w base V D) (hb : Box w b c E) (e1 : E ≠ 3) (e2 : E ≠ 9) (e3 : E ≠ 25) (c' : Array Value) : PutD (w.setRow b c') base V D := by
  obtain ⟨rows, h1, h2, h3⟩ := h.nxt
  refine ⟨h.of, h.width, h.lab.setRowT hb (Ne.symm e1) _, h.nam.setRowT hb (Ne.symm e2) _, rows, h1.setRowT hb (Ne.symm e3) _, h2, fun i p q => ?_⟩
  obtain ⟨g, o, c2, cur, k1, k2, k3, k4, k5, k6, k7⟩ := h3 i p q
  exact ⟨g, o, c2, cur, k1, k2, k3, k4, k5.setRow_other c' (by rintro rfl; exact e1 (hb.type_eq k5)), k6, k7⟩
/-- The machine as an argument, in a box of its own, at first; and what the call gives. -/
def RetPut (w : World) (base : Nat) (D : PDfa) (e : Ending) (w' : World) : Prop := Below base w w' ∧ ∃ V, e = .returned (.agg V.cells) ∧ PutD w' base V D
/-- Within put: the box of the machine is b, the words are there. -/
structure InPut (w : World) (base : Nat) (ws : List (List UInt8)) (a : Option Addr) (cap : Nat) (V : VDfa) (D : PDfa) (w' : World) : Prop where
  box : Box w' w.heap.size V.cells 28
  res : Box w' (w.heap.size + 1) V0.cells 28
  put : PutD w' base V D
  words : Own w' base 9 1 encT (.slice a ws.length cap) ws
  below : Below base w w'
  apart : ∀ k, (Value.slice a ws.length cap).ownBlock = some k → (Value.slice V.ma V.mn V.mc).ownBlock ≠ some k
theorem InPut.kept {w w' w2 : World} {base : Nat} {ws : List (List UInt8)} {a : Option Addr} {cap : Nat} {V : VDfa} {D : PDfa} (h : InPut w base ws a cap V D w') (hb : base ≤ w.heap.size) (hl : Below w'.heap.size w' w2) : InPut w base ws a cap V D w2 :=
  ⟨h.box.kept hl, h.res.kept hl, h.put.kept hl, h.words.kept hl, h.below.trans (hl.mono (by have := h.box.lt; omega)), h.apart⟩
theorem InPut.start {w : World} {base : Nat} {ws : List (List UInt8)} {a : Option Addr} {cap : Nat} {V : VDfa} {D : PDfa} (hp : PutD w base V D) (ho : Own w base 9 1 encT (.slice a ws.length cap) ws) (hb : base ≤ w.heap.size)
    (hne : ∀ k, (Value.slice a ws.length cap).ownBlock = some k → (Value.slice V.ma V.mn V.mc).ownBlock ≠ some k) : InPut w base ws a cap V D ((w.alloc (.cells V.cells 28)).alloc (.cells V0.cells 28)) := by
  have h1 := later_alloc w (.cells V.cells 28)
  have h2 := later_alloc (w.alloc (.cells V.cells 28)) (.cells V0.cells 28)
  exact ⟨(Box.new _ _ _).alloc _, Box.new' (by simp) _ _, (hp.kept h1).kept h2, (ho.kept h1).kept h2, ((Below.refl _ w).alloc hb _).alloc (by simp; omega) _, hne⟩
/-- .. behind an append to a slice of the machine's, and the store of it. -/
theorem InPut.names_append {w w1 w' w2 : World} {base : Nat} {ws : List (List UInt8)} {a a' : Option Addr} {cap n' cap' : Nat} {V : VDfa} {D : PDfa} {x : List UInt8} (h : InPut w base ws a cap V D w1) (hb : base ≤ w.heap.size) (hg : w1.grownBy w' (Value.slice V.ma V.mn V.mc).ownBlock)
    (ho : Own w' base 9 1 encT (.slice a' n' cap') (D.names ++ [x])) (hfr : (Value.slice a' n' cap').ownBlock = (Value.slice V.ma V.mn V.mc).ownBlock ∨ (Value.slice a' n' cap').ownBlock = some w1.heap.size) (hl : Below w'.heap.size w' w2) :
    InPut w base ws a cap { V with ma := a', mn := n', mc := cap' } { D with names := D.names ++ [x] } (w2.setCell ⟨w.heap.size, 259, none⟩ (.slice a' n' cap')) := by
  have hx := (h.box.grownT h.put.nam hg (by decide)).kept hl
  have hw1 := h.box.lt
  refine ⟨?_, ((h.res.grownT h.put.nam hg (by decide)).kept hl).other _ _ (by show w.heap.size + 1 ≠ w.heap.size; omega), ((h.put.names_append hg ho).kept hl).other hx (by decide) (by decide) (by decide) _, ((h.words.grownNe hg fun k hk e => h.apart k hk e).kept hl).otherT hx (by decide) _ _, ?_, fun k hk => ?_⟩
  · rw [← vcells_names V a' n' cap']; exact hx.set 259 _
  · have hB := below_grown h.below h.put.nam hg (Nat.le_refl _) (by omega)
    exact (hB.trans (hl.mono (by have := hg.size; omega))).setCell (by show base ≤ w.heap.size; omega) _
  · rcases hfr with h4 | h4
    · intro e; exact h.apart k hk (h4.symm.trans e)
    · obtain ⟨_, c, hbk⟩ := h.words.block k hk
      have := hbk.lt
      intro e
      have e2 : some w1.heap.size = some k := h4.symm.trans e
      cases e2
      omega
theorem InPut.label_append {w w1 w' w2 : World} {base : Nat} {ws : List (List UInt8)} {a a' : Option Addr} {cap n' cap' : Nat} {V : VDfa} {D : PDfa} {x : Int} (h : InPut w base ws a cap V D w1) (hb : base ≤ w.heap.size) (hg : w1.grownBy w' V.lv.ownBlock)
    (ho : Own w' base 3 1 encI (.slice a' n' cap') (D.label ++ [x])) (hfr : (Value.slice a' n' cap').ownBlock = V.lv.ownBlock ∨ (Value.slice a' n' cap').ownBlock = some w1.heap.size) (hl : Below w'.heap.size w' w2) :
    InPut w base ws a cap { V with la := a', ln := n', lc := cap' } { D with label := D.label ++ [x] } (w2.setCell ⟨w.heap.size, 258, none⟩ (.slice a' n' cap')) := by
  have hx := (h.box.grownT h.put.lab hg (by decide)).kept hl
  have hw1 := h.box.lt
  refine ⟨?_, ((h.res.grownT h.put.lab hg (by decide)).kept hl).other _ _ (by show w.heap.size + 1 ≠ w.heap.size; omega), ((h.put.label_append hg ho hfr).kept hl).other hx (by decide) (by decide) (by decide) _, ((h.words.grownT h.put.lab hg (by decide)).kept hl).otherT hx (by decide) _ _, ?_, h.apart⟩
  · rw [← vcells_label V a' n' cap']; exact hx.set 258 _
  · have hB := below_grown h.below h.put.lab hg (Nat.le_refl _) (by omega)
    exact (hB.trans (hl.mono (by have := hg.size; omega))).setCell (by show base ≤ w.heap.size; omega) _
theorem InPut.next_append {w w1 w' w2 : World} {base : Nat} {ws : List (List UInt8)} {a a' : Option Addr} {cap n' cap' : Nat} {V : VDfa} {D : PDfa} {rows : List (Option Addr × Nat × Nat)} {x : Option Addr × Nat × Nat} {l : List Int} (h : InPut w base ws a cap V D w1) (hb : base ≤ w.heap.size)
    (h1 : Own w1 base 25 1 encR (.slice V.na V.nn V.nc) rows) (h2 : rows.length = D.next.length) (h3 : ∀ i (_ : i < rows.length) (_ : i < D.next.length), RowP w1 base V.lv.ownBlock rows[i] D.next[i])
    (hg : w1.grownBy w' (Value.slice V.na V.nn V.nc).ownBlock) (ho : Own w' base 25 1 encR (.slice a' n' cap') (rows ++ [x])) (hx : RowP w1 base V.lv.ownBlock x l) (hl : Below w'.heap.size w' w2) :
    InPut w base ws a cap { V with na := a', nn := n', nc := cap' } { D with next := D.next ++ [l] } (w2.setCell ⟨w.heap.size, 257, none⟩ (.slice a' n' cap')) := by
  have hbx := (h.box.grownT h1 hg (by decide)).kept hl
  have hw1 := h.box.lt
  refine ⟨?_, ((h.res.grownT h1 hg (by decide)).kept hl).other _ _ (by show w.heap.size + 1 ≠ w.heap.size; omega), ((h.put.next_append h1 h2 h3 hg ho hx).kept hl).other hbx (by decide) (by decide) (by decide) _, ((h.words.grownT h1 hg (by decide)).kept hl).otherT hbx (by decide) _ _, ?_, h.apart⟩
  · rw [← vcells_next V a' n' cap']; exact hbx.set 257 _
  · have hB := below_grown h.below h1 hg (Nat.le_refl _) (by omega)
    exact (hB.trans (hl.mono (by have := hg.size; omega))).setCell (by show base ≤ w.heap.size; omega) _
end Go.Proofs.YtdhmekpgplajmaaGreatDoor
end
