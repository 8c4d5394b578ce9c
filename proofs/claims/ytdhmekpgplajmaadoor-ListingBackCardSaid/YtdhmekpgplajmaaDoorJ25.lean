/- Joined by tools/merge.py: BackN, Back, ListingBack. -/
import Derived.Test.YtdhmekpgplajmaaDoorJ23
import Derived.Test.YtdhmekpgplajmaaDoorJ15
import Derived.Test.YtdhmekpgplajmaaDoorJ24
import Derived.Test.YtdhmekpgplajmaaDoorJ17
import Derived.Test.YtdhmekpgplajmaaDoorJ7
import Derived.ProofKit
section
namespace Go.Proofs.YtdhmekpgplajmaaDoor
open Go.RowKit
set_option maxRecDepth 20000
theorem digitN_dig (d : Nat) (h : d < 10) : digitN (dig d).toNat = true := by rw [dig_toNat d h]; unfold digitN; simp; omega
theorem showN_digits (n : Nat) : ∀ c ∈ showN n, digitN c.toNat = true := by
  induction n using Nat.strongRecOn with
  | _ n ih =>
    intro c hc
    by_cases h : n < 10
    · rw [showN_small h] at hc; simp at hc; subst hc; exact digitN_dig n h
    · rw [showN_big h] at hc
      rcases List.mem_append.1 hc with hc | hc
      · exact ih _ (by omega) c hc
      · simp at hc; subst hc; exact digitN_dig _ (by omega)
theorem runD_all : ∀ l : List UInt8, (∀ c ∈ l, digitN c.toNat = true) → runD l = l.length
  | [], _ => rfl
  | a :: r, h => by rw [runD, if_pos (h a (by simp)), runD_all r fun c hc => h c (by simp [hc])]; rfl
theorem showN_first (n : Nat) (h : 10 ≤ n) : (showN n).getD 0 0 ≠ 48 := by
  induction n using Nat.strongRecOn with
  | _ n ih =>
    rw [showN_big (by omega)]
    have hne := showN_ne (n / 10)
    have e : (showN (n / 10) ++ [dig (n % 10)]).getD 0 0 = (showN (n / 10)).getD 0 0 := by
      simp only [List.getD]; rw [List.getElem?_append_left (List.length_pos_iff.2 hne)]
    rw [e]
    by_cases h1 : n / 10 < 10
    · rw [showN_small h1]
      intro e2
      have := congrArg UInt8.toNat e2
      rw [List.getD_cons_zero, dig_toNat _ h1] at this
      have h3 : (48 : UInt8).toNat = 48 := rfl
      rw [h3] at this
      omega
    · exact ih _ (by omega) (by omega)
theorem valD_snoc (most : Nat) (c : UInt8) : ∀ (l : List UInt8) (v : Nat), valD most v (l ++ [c]) = (valD most v l).bind fun x => if (most - (c.toNat - 48)) / 10 < x then none else some (x * 10 + (c.toNat - 48))
  | [], v => by simp only [List.nil_append, valD, Option.bind_some]
  | d :: r, v => by
    rw [List.cons_append, valD, valD]
    split
    · rfl
    · exact valD_snoc most c r _
theorem valD_show (most n : Nat) (h : n ≤ most) : valD most 0 (showN n) = some n := by
  induction n using Nat.strongRecOn with
  | _ n ih =>
    by_cases h1 : n < 10
    · rw [showN_small h1]; simp only [valD, dig_toNat _ h1]
      rw [if_neg (by omega)]
      congr 1; omega
    · rw [showN_big h1, valD_snoc, ih (n / 10) (by omega) (by omega), Option.bind_some, dig_toNat _ (by omega)]
      rw [if_neg (by omega)]
      congr 1; omega
theorem numT_show (n : Nat) (h : n ≤ 65536) : numT (showN n) = some n := by
  have hr := runD_all _ (showN_digits n)
  have hp := List.length_pos_iff.2 (showN_ne n)
  have hf : formD (showN n) = true := by
    unfold formD
    rw [hr]
    by_cases h1 : n < 10
    · rw [showN_small h1]; simp
    · have := showN_first n (by omega)
      simp only [Bool.and_eq_true, Bool.not_eq_true', beq_eq_false_iff_ne, decide_eq_false_iff_not, Bool.and_eq_false_iff]
      exact ⟨by omega, by omega, .inl this⟩
  unfold numT
  rw [if_pos hf, valD_show _ _ h]
theorem numT_int {z : Int} (h0 : 0 ≤ z) (h1 : z ≤ 65536) : ∃ n : Nat, z = (n : Int) ∧ n ≤ 65536 ∧ numT (showI z) = some n :=
  ⟨z.toNat, by omega, by omega, by rw [showI, if_neg (by omega)]; exact numT_show _ (by omega)⟩
theorem showI_bytes (z : Int) : ∀ c ∈ showI z, 33 ≤ c.toNat := by
  intro c hc
  unfold showI at hc
  split at hc
  · simp at hc
  · have := showN_digits _ c hc
    unfold digitN at this
    simp at this; omega
/-- Words without the byte between them. -/
theorem splitL_app (c : UInt8) (r : List UInt8) : ∀ w : List UInt8, c ∉ w → splitL c (w ++ c :: r) = w :: splitL c r
  | [], _ => by rw [List.nil_append, splitL, if_pos rfl]
  | x :: w, h => by
    rw [List.cons_append, splitL, if_neg (fun e => h (by simp [e])), splitL_app c r w (fun e => h (by simp [e]))]
theorem splitL_one (c : UInt8) : ∀ w : List UInt8, c ∉ w → splitL c w = [w]
  | [], _ => rfl
  | x :: w, h => by rw [splitL, if_neg (fun e => h (by simp [e])), splitL_one c w (fun e => h (by simp [e]))]
theorem splitL_join (c : UInt8) : ∀ (ws : List (List UInt8)), ws ≠ [] → (∀ w ∈ ws, c ∉ w) → splitL c (Lib.join ws [c]) = ws
  | [], h, _ => absurd rfl h
  | [x], _, h => by rw [Lib.join_one]; exact splitL_one c x (h x (by simp))
  | x :: y :: r, _, h => by
    have e : Lib.join (x :: y :: r) [c] = x ++ c :: Lib.join (y :: r) [c] := by
      rw [Lib.join_cons, Lib.join_cons]; simp [Lib.joinTail]
    rw [e, splitL_app c _ x (h x (by simp)), splitL_join c (y :: r) (by simp) fun w hw => h w (by simp [hw])]
theorem join_mem {c d : UInt8} : ∀ (ws : List (List UInt8)), c ∈ Lib.join ws [d] → c = d ∨ ∃ w ∈ ws, c ∈ w
  | [], h => by rw [Lib.join_nil] at h; simp at h
  | [x], h => by rw [Lib.join_one] at h; exact .inr ⟨x, by simp, h⟩
  | x :: y :: r, h => by
    have e : Lib.join (x :: y :: r) [d] = x ++ d :: Lib.join (y :: r) [d] := by
      rw [Lib.join_cons, Lib.join_cons]; simp [Lib.joinTail]
    rw [e] at h
    rcases List.mem_append.1 h with h | h
    · exact .inr ⟨x, by simp, h⟩
    · rcases List.mem_cons.1 h with h | h
      · exact .inl h
      · rcases join_mem (y :: r) h with h | ⟨w, hw, h⟩
        · exact .inl h
        · exact .inr ⟨w, by simp [hw], h⟩
/-- Words that may stand in a line. -/
def wordsOK (ws : List (List UInt8)) : Prop := ws ≠ [] ∧ ∀ w ∈ ws, ∀ c ∈ w, 33 ≤ c.toNat
theorem wordsOK.split {ws : List (List UInt8)} (h : wordsOK ws) : splitL 32 (Lib.join ws [32]) = ws :=
  splitL_join 32 ws h.1 fun w hw hc => by have := h.2 w hw _ hc; exact absurd this (by decide)
theorem wordsOK.noEnd {ws : List (List UInt8)} (h : wordsOK ws) : (10 : UInt8) ∉ Lib.join ws [32] := fun hc => by
  rcases join_mem ws hc with e | ⟨w, hw, hc⟩
  · exact absurd e (by decide)
  · have := h.2 w hw _ hc; exact absurd this (by decide)
theorem flat_lines : ∀ (L : List (List (List UInt8))), L ≠ [] → L.flatMap lineT = Lib.join (L.map fun ws => Lib.join ws [32]) [10] ++ [10]
  | [], h => absurd rfl h
  | [x], _ => by simp [lineT, Lib.join_one]
  | x :: y :: r, _ => by
    rw [List.flatMap_cons, flat_lines (y :: r) (by simp), List.map_cons, List.map_cons, List.map_cons, Lib.join_cons, Lib.join_cons]
    simp [lineT, Lib.joinTail]
/-- The lines of words, one behind the other. -/
def foldW : PDfa × BSet → List (List (List UInt8)) → Option (PDfa × BSet)
  | x, [] => some x
  | x, ws :: l => match lineW x.1 x.2 ws with
    | some y => foldW y l
    | none => none
theorem foldW_append (l m : List (List (List UInt8))) : ∀ x : PDfa × BSet, foldW x (l ++ m) = (foldW x l).bind fun y => foldW y m := by
  induction l with
  | nil => intro x; rfl
  | cons s l ih =>
    intro x
    rw [List.cons_append, foldW, foldW]
    cases lineW x.1 x.2 s with
    | none => rfl
    | some y => exact ih y
theorem foldP_W : ∀ (L : List (List (List UInt8))) (x : PDfa × BSet), (∀ ws ∈ L, wordsOK ws) → foldP x (L.map fun ws => Lib.join ws [32]) = foldW x L
  | [], _, _ => rfl
  | ws :: L, x, h => by
    rw [List.map_cons, foldP, foldW, stepL, (h ws (by simp)).split]
    cases lineW x.1 x.2 ws with
    | none => rfl
    | some y => exact foldP_W L y fun v hv => h v (by simp [hv])
theorem linesP_flat (L : List (List (List UInt8))) (hne : L ≠ []) (h : ∀ ws ∈ L, wordsOK ws) : Lib.hasSuffix (L.flatMap lineT) [10] = true ∧ linesP (L.flatMap lineT) = L.map fun ws => Lib.join ws [32] := by
  rw [flat_lines L hne]
  refine ⟨?_, ?_⟩
  · unfold Lib.hasSuffix; exact List.isSuffixOf_iff_suffix.2 (List.suffix_append _ _)
  · unfold linesP
    rw [List.length_append, List.length_singleton, Nat.add_sub_cancel, List.take_left]
    refine splitL_join 10 _ (by simpa using hne) fun w hw => ?_
    obtain ⟨ws, h1, rfl⟩ := List.mem_map.1 hw
    exact (h ws h1).noEnd
end Go.Proofs.YtdhmekpgplajmaaDoor
end
section
namespace Go.Proofs.YtdhmekpgplajmaaDoor
open Go.RowKit
set_option maxRecDepth 20000
def wName (D : PDfa) (i : Nat) : List (List UInt8) := [[110, 97, 109, 101], showI ((i : Int) + 1), D.names.getD i []]
def wClass (D : PDfa) (i : Nat) : List (List UInt8) := [[99, 108, 97, 115, 115], showI (i : Int), showS ((setsD D).getD i 0)]
def wHead (D : PDfa) : List (List UInt8) := [[109, 97, 99, 104, 105, 110, 101], showI (D.label.length : Nat), showI D.width]
/-- The words of a machine's text, line by line. -/
def wordsD (D : PDfa) : List (List (List UInt8)) := wHead D :: ((List.range D.names.length).map (wName D) ++ ((List.range (setsD D).length).map (wClass D) ++ (List.range D.label.length).map (rowWords D)))
theorem stateLine_words (D : PDfa) : stateLine D = fun i => lineT (rowWords D i) := by
  funext i; unfold stateLine lineT; rw [Lib.join_one]; rfl
theorem text_words (D : PDfa) : textD D = (wordsD D).flatMap lineT := by
  unfold textD statesT classesT namesT wordsD
  rw [List.flatMap_cons, List.flatMap_append, List.flatMap_append, List.flatMap_map, List.flatMap_map, List.flatMap_map, stateLine_words]
  simp only [List.append_assoc]
  rfl
/-! ### No byte of a word is a blank, or ends a line -/
theorem mayN_ge {x : Nat} {b : Bool} (h : mayN x b = true) : 33 ≤ x := by
  unfold mayN letterN digitN at h; simp at h; omega
theorem allMay_ge : ∀ (b : Bool) (l : List UInt8), allMay b l = true → ∀ c ∈ l, 33 ≤ c.toNat
  | _, [], _, c, hc => by simp at hc
  | b, a :: r, h, c, hc => by
    rw [allMay, Bool.and_eq_true] at h
    rcases List.mem_cons.1 hc with rfl | hc
    · exact mayN_ge h.1
    · exact allMay_ge false r h.2 c hc
theorem name_bytes {D : PDfa} (h : rightD D = true) : ∀ x ∈ D.names, ∀ c ∈ x, 33 ≤ c.toNat := by
  intro x hx
  obtain ⟨i, hi, rfl⟩ := List.mem_iff_getElem.1 hx
  unfold rightD at h
  simp only [Bool.and_eq_true, decide_eq_true_eq, beq_iff_eq] at h
  obtain ⟨_, _, h5, _⟩ := h
  unfold namesOK namesTo at h5
  simp only [Bool.and_eq_true, List.all_eq_true] at h5
  have := h5.2 i (by simpa using hi)
  unfold nameAt at this
  rw [nameT_all] at this
  simp only [Bool.and_eq_true, List.getD_eq_getElem?_getD, List.getElem?_eq_getElem hi, Option.getD_some] at this
  exact allMay_ge true _ this.1.1
theorem words_ok {D : PDfa} (h : rightD D = true) : ∀ ws ∈ wordsD D, wordsOK ws := by
  intro ws hw
  unfold wordsD at hw
  simp only [List.mem_cons, List.mem_append, List.mem_map, List.mem_range] at hw
  rcases hw with rfl | ⟨i, hi, rfl⟩ | ⟨i, hi, rfl⟩ | ⟨i, hi, rfl⟩
  · refine ⟨by simp [wHead], fun w hw => ?_⟩
    unfold wHead at hw
    simp only [List.mem_cons, List.not_mem_nil, or_false] at hw
    rcases hw with rfl | rfl | rfl
    · decide
    · exact showI_bytes _
    · exact showI_bytes _
  · refine ⟨by simp [wName], fun w hw => ?_⟩
    unfold wName at hw
    simp only [List.mem_cons, List.not_mem_nil, or_false] at hw
    rcases hw with rfl | rfl | rfl
    · decide
    · exact showI_bytes _
    · rw [List.getD_eq_getElem?_getD, List.getElem?_eq_getElem hi, Option.getD_some]
      exact name_bytes h _ (List.getElem_mem hi)
  · refine ⟨by simp [wClass], fun w hw => ?_⟩
    unfold wClass at hw
    simp only [List.mem_cons, List.not_mem_nil, or_false] at hw
    rcases hw with rfl | rfl | rfl
    · decide
    · exact showI_bytes _
    · exact showS_bytes _
  · refine ⟨by simp [rowWords], fun w hw => ?_⟩
    unfold rowWords at hw
    simp only [List.mem_cons, List.mem_map] at hw
    rcases hw with rfl | rfl | rfl | ⟨y, _, rfl⟩
    · decide
    · exact showI_bytes _
    · exact showI_bytes _
    · exact showI_bytes _
/-! ### The lines, put to the reader -/
theorem foldW_one (x : PDfa × BSet) (ws : List (List UInt8)) : foldW x [ws] = lineW x.1 x.2 ws := by
  rw [foldW]; cases lineW x.1 x.2 ws <;> rfl
theorem take_next {α : Type} (l : List α) (k : Nat) (d : α) (h : k < l.length) : l.take (k + 1) = l.take k ++ [l.getD k d] := by
  rw [List.take_add_one, List.getElem?_eq_getElem h, List.getD_eq_getElem?_getD, List.getElem?_eq_getElem h]; rfl
theorem fold_names (D X : PDfa) (t : BSet) (hX : X.names = []) : ∀ k, k ≤ D.names.length → foldW (X, t) ((List.range k).map (wName D)) = some (⟨X.of, X.width, X.next, X.label, D.names.take k⟩, t)
  | 0, _ => by
    obtain ⟨o, wd, nx, lb, nm⟩ := X
    obtain rfl : nm = [] := hX
    rfl
  | k + 1, h => by
    rw [List.range_succ, List.map_append, foldW_append, fold_names D X t hX k (by omega), Option.bind_some, List.map_singleton, foldW_one, take_next _ _ [] (by omega)]
    rfl
def ofTo (D : PDfa) (k : Nat) : Nat → Nat := fun b => if b < 256 ∧ D.of b < k then D.of b else 0
def tTo (D : PDfa) (k : Nat) : BSet := ofP fun b => decide (D.of b < k)
theorem right_of {D : PDfa} (h : rightD D = true) : (∀ b, b < 256 → numR (Kern (keyN D.of)) b = D.of b) ∧ ((widR (Kern (keyN D.of)) : Nat) : Int) = D.width := by
  unfold rightD at h
  simp only [Bool.and_eq_true, decide_eq_true_eq, beq_iff_eq] at h
  exact ⟨(sameArr_iff _ _).1 h.2.1.1, h.2.1.2⟩
theorem rep_num {R : Nat → Nat → Bool} (E : Equi R) (k : Nat) (h : k < (reps R 256).length) : numR R (reps R 256)[k] = k := by
  unfold numR
  rw [posR_get h (E.refl _) fun i hi => reps_least E 256 _ _ (List.getElem_mem h) (reps_sorted R 256 i k hi h)]
  rfl
theorem mem_class {D : PDfa} (hr : rightD D = true) (k : Nat) (hk : k < (setsD D).length) (b : Nat) (hb : b < 256) : mem ((setsD D).getD k 0) b = decide (D.of b = k) := by
  have E := kern_equi (keyN D.of)
  obtain ⟨h1, _⟩ := right_of hr
  have hk2 : k < (reps (Kern (keyN D.of)) 256).length := by unfold setsD at hk; rw [setsTo_length, widR_def] at hk; exact hk
  have hc := reps_lt (Kern (keyN D.of)) 256 _ (List.getElem_mem hk2)
  have e : (setsD D).getD k 0 = cls (Kern (keyN D.of)) 256 ((reps (Kern (keyN D.of)) 256)[k]) := by
    rw [List.getD_eq_getElem?_getD, List.getElem?_eq_getElem hk, Option.getD_some]
    simp only [setsD, setsTo, List.getElem_map]
  rw [e, mem_cls, ← h1 b hb]
  have h3 := numR_eq E hc hb
  rw [rep_num E k hk2] at h3
  rw [Bool.eq_iff_iff]
  simp only [Bool.and_eq_true, decide_eq_true_eq, hb, true_and]
  rw [← h3]
  exact eq_comm
theorem fold_classes {D : PDfa} (hr : rightD D = true) (X : PDfa) (hX : X.of = fun _ => 0) : ∀ k, k ≤ (setsD D).length → foldW (X, 0) ((List.range k).map (wClass D)) = some (⟨ofTo D k, X.width, X.next, X.label, X.names⟩, tTo D k)
  | 0, _ => by
    obtain ⟨o, wd, nx, lb, nm⟩ := X
    obtain rfl : o = _ := hX
    have e1 : ofTo D 0 = fun _ => 0 := by funext b; simp [ofTo]
    have e2 : tTo D 0 = 0 := set_ext fun b _ => by unfold tTo; rw [mem_ofP, mem_zero]; simp
    rw [e1, e2]
    rfl
  | k + 1, h => by
    have hw := setsD_length D
    obtain ⟨n, e, hn, hs⟩ := numT_int (z := (k : Int)) (by omega) (by omega)
    obtain rfl : k = n := by omega
    have hm := mem_class hr k (by omega)
    rw [List.range_succ, List.map_append, foldW_append, fold_classes hr X hX k (by omega), Option.bind_some, List.map_singleton, foldW_one]
    unfold wClass
    simp only [lineW]
    rw [if_neg (by decide), if_neg (by decide), if_pos trivial, hs]
    dsimp only
    unfold classL
    rw [readR_show]
    dsimp only
    rw [if_pos ⟨rfl, by omega, set_ext fun b hb => by
      rw [mem_and, hm b hb, mem_zero]; unfold tTo; rw [mem_ofP, Bool.eq_false_iff]; simp; omega⟩]
    have e1 : setOf (elems ((setsD D).getD k 0)) k (ofTo D k) = ofTo D (k + 1) := by
      funext b
      unfold setOf ofTo
      by_cases hb : b < 256
      · have he : (b ∈ elems ((setsD D).getD k 0)) = (D.of b = k) := by rw [mem_elems, hm b hb]; simp
        by_cases h1 : D.of b = k
        · rw [if_pos (by rw [he]; exact h1), if_pos ⟨hb, by omega⟩, h1]
        · rw [if_neg (by rw [he]; exact h1)]
          by_cases h2 : D.of b < k
          · rw [if_pos ⟨hb, h2⟩, if_pos ⟨hb, by omega⟩]
          · rw [if_neg (by omega), if_neg (by omega)]
      · rw [if_neg (fun h => hb (elems_lt h)), if_neg (by omega), if_neg (by omega)]
    have e2 : tTo D k ||| (setsD D).getD k 0 = tTo D (k + 1) := set_ext fun b hb => by
      rw [mem_or, hm b hb]; unfold tTo; rw [mem_ofP, mem_ofP, Bool.eq_iff_iff]; simp [hb]; omega
    rw [e1, e2]
theorem rowN_show : ∀ r : List Int, (∀ t ∈ r, 0 ≤ t ∧ t ≤ 65536) → rowN (r.map showI) = some r
  | [], _ => rfl
  | a :: r, h => by
    obtain ⟨n, e, hn, hs⟩ := numT_int (h a (by simp)).1 (h a (by simp)).2
    rw [List.map_cons, rowN, hs, rowN_show r fun t ht => h t (by simp [ht]), e]
    rfl
theorem fold_states {D : PDfa} (hr : rightD D = true) (X : PDfa) (t : BSet) (h1 : X.label = []) (h2 : X.next = []) : ∀ k, k ≤ D.label.length → foldW (X, t) ((List.range k).map (rowWords D)) = some (⟨X.of, X.width, D.next.take k, D.label.take k, X.names⟩, t)
  | 0, _ => by
    obtain ⟨o, wd, nx, lb, nm⟩ := X
    obtain rfl : nx = [] := h2
    obtain rfl : lb = [] := h1
    rfl
  | k + 1, h => by
    obtain ⟨f1, f2, f3, f4, f5, f6, f7⟩ := rightD_facts hr
    obtain ⟨g1, g2, g3, g4⟩ := f7 k (by omega) (by omega)
    have eL : D.label.getD k 0 = D.label[k] := by rw [List.getD_eq_getElem?_getD, List.getElem?_eq_getElem (show k < D.label.length by omega), Option.getD_some]
    have eN : D.next.getD k [] = D.next[k] := by rw [List.getD_eq_getElem?_getD, List.getElem?_eq_getElem (show k < D.next.length by omega), Option.getD_some]
    rw [List.range_succ, List.map_append, foldW_append, fold_states hr X t h1 h2 k (by omega), Option.bind_some, List.map_singleton, foldW_one, take_next _ _ 0 (show k < D.label.length by omega), take_next _ _ [] (show k < D.next.length by omega)]
    unfold rowWords
    rw [eL, eN]
    obtain ⟨n, e, hn, hs⟩ := numT_int g2 (by omega)
    simp only [lineW]
    rw [if_neg (by decide), if_neg (by decide), if_neg (by decide), if_pos trivial, hs, rowN_show _ fun t ht => ⟨(g4 t ht).1, by have := g4 t ht; omega⟩, e]
theorem back_fold {D : PDfa} (hr : rightD D = true) (h0 : ∀ b, 256 ≤ b → D.of b = 0) : foldW (D0, 0) (wordsD D) = some (D, tTo D (setsD D).length) := by
  obtain ⟨f1, f2, f3, f4, f5, f6, _⟩ := rightD_facts hr
  obtain ⟨q1, q2⟩ := right_of hr
  obtain ⟨n, e, hn, hs⟩ := numT_int (z := ((D.label.length : Nat) : Int)) (by omega) (by omega)
  obtain ⟨m, e2, hm, hs2⟩ := numT_int (z := D.width) (by omega) (by omega)
  have hh : lineW D0 0 (wHead D) = some (⟨D0.of, D.width, D0.next, D0.label, D0.names⟩, 0) := by
    unfold wHead
    simp only [lineW]
    rw [if_pos trivial, hs, hs2]
    dsimp only
    rw [if_pos (by omega), e2]
  unfold wordsD
  rw [foldW]
  dsimp only
  rw [hh]
  dsimp only
  rw [foldW_append, fold_names D _ 0 rfl _ (Nat.le_refl _), Option.bind_some, foldW_append, fold_classes hr _ rfl _ (Nat.le_refl _), Option.bind_some, fold_states hr _ _ rfl rfl _ (Nat.le_refl _)]
  have ho : ofTo D (setsD D).length = D.of := by
    funext b
    unfold ofTo
    by_cases hb : b < 256
    · rw [if_pos ⟨hb, by unfold setsD; rw [setsTo_length, ← q1 b hb]; exact numR_lt (kern_equi _).refl hb⟩]
    · rw [if_neg (by omega), h0 b (by omega)]
  rw [List.take_length, List.take_length, show D.next.take D.label.length = D.next by rw [← f3, List.take_length], ho]
theorem back_text {D : PDfa} (hr : rightD D = true) (h0 : ∀ b, 256 ≤ b → D.of b = 0) : readP (textD D) = some D := by
  obtain ⟨l1, l2⟩ := linesP_flat (wordsD D) (by simp [wordsD]) (words_ok hr)
  unfold readP
  rw [text_words, if_pos l1, l2, foldP_W _ _ (words_ok hr), back_fold hr h0]
  dsimp only
  rw [if_pos ⟨hr, text_words D⟩]
/-- A text of up to 500 states is one that the reader takes. -/
theorem text_500 {D : PDfa} (h : rightD D = true) (hn : D.label.length ≤ 500) : (textD D).length ≤ 4194304 := by
  obtain ⟨f1, f2, f3, f4, f5, f6, f7⟩ := rightD_facts h
  unfold textD statesT classesT
  rw [List.length_append, List.length_append]
  have h1 := namesT_length h _ (Nat.le_refl _)
  have hc : ((List.range (setsD D).length).flatMap (classLine D)).length ≤ 256 * 2340 := by
    refine Nat.le_trans (flat_length (classLine D) 2340 _ fun i hi => ?_) (Nat.mul_le_mul_right _ (setsD_length D))
    have e1 := showI_length (i : Int) (by have := setsD_length D; omega)
    have e2 := showS_length ((setsD D).getD i 0)
    unfold classLine lineT
    generalize showS ((setsD D).getD i 0) = u at *
    generalize showI (i : Int) = u2 at *
    simp [Lib.join_cons, Lib.joinTail]
    omega
  have h2 := flat_length (stateLine D) 5202 D.label.length (fun i hi => line_le [rowT D i] 5200 1 5202 rfl (by omega) (by
    intro x hx; simp only [List.mem_cons, List.not_mem_nil, or_false] at hx
    subst hx; exact rowT_length h i (by omega)))
  omega
end Go.Proofs.YtdhmekpgplajmaaDoor
end
section
namespace Go.Proofs.YtdhmekpgplajmaaDoor
open Go.RowKit Go.ChangeShapes Go.WideShapes Go.ChangeAt
set_option maxRecDepth 20000
theorem sameD_self (D : PDfa) : sameD D D = true := by
  have h : sameArr D.of D.of = true := (sameArr_iff _ _).2 fun b _ => rfl
  unfold sameD
  rw [h]
  simp
theorem readP_right {s : List UInt8} {D : PDfa} (h : readP s = some D) : rightD D = true ∧ textD D = s := by
  unfold readP at h
  split at h
  · split at h
    · split at h
      · rename_i hq
        cases h
        exact hq
      · cases h
    · cases h
  · cases h
/-- What reading gives: a machine. -/
def RetRead1 (w : World) (D : PDfa) (e : Ending) (w' : World) : Prop := Below w.heap.size w w' ∧ ∃ V, e = .returned (.tuple #[.agg V.cells, .int .i64 0]) ∧ ReadsD w' V D
theorem read_some {s : List UInt8} {D : PDfa} (h : readP s = some D) (hs : s.length ≤ 4194304) (w : World) (hT : Tab w) (hM : MaxL w) : Calls Tryd.prog 6 #[sv s] w (RetRead1 w D) := by
  refine (list_Read s w (by omega) hT hM).mono ?_
  rintro e w' ⟨hb, h2⟩
  rw [if_neg (by omega), h] at h2
  exact ⟨hb, h2⟩
theorem read_none {s : List UInt8} (h : readP s = none) (hs : s.length ≤ 4194304) (w : World) (hT : Tab w) (hM : MaxL w) : Calls Tryd.prog 6 #[sv s] w (Ret w (.tuple #[.agg V0.cells, .int .i64 3])) := by
  refine (list_Read s w (by omega) hT hM).mono ?_
  rintro e w' ⟨hb, h2⟩
  rw [if_neg (by omega), h] at h2
  exact ⟨h2, hb⟩
theorem text_right {V : VDfa} {D : PDfa} {w : World} (hr : rightD D = true) (h : ReadsD w V D) (hl : ∀ x ∈ D.names, x.length ≤ 9223372036854775807) (hT : Tab w) : Calls Tryd.prog 5 #[.agg V.cells] w (Ret w (.tuple #[sv (textD D), .int .i64 0])) := by
  have := list_Text V D w h hl hT
  rwa [if_pos hr] at this
theorem text_wrong {V : VDfa} {D : PDfa} {w : World} (hr : rightD D = false) (h : ReadsD w V D) (hl : ∀ x ∈ D.names, x.length ≤ 9223372036854775807) (hT : Tab w) : Calls Tryd.prog 5 #[.agg V.cells] w (Ret w (.tuple #[sv [], .int .i64 6])) := by
  have := list_Text V D w h hl hT
  rwa [if_neg (by rw [hr]; simp)] at this
set_option maxHeartbeats 3200000 in
/-- The law, where nothing is said of what is no byte. -/
theorem law_back (V : VDfa) (D : PDfa) (s : List UInt8) (w : World) (h : ReadsD w V D) (h0 : ∀ b, 256 ≤ b → D.of b = 0) (hl : ∀ x ∈ D.names, x.length ≤ 9223372036854775807) (hs : s.length ≤ 9223372036854775807) (hT : Tab w) (hM : MaxL w) :
    Calls Tryd.prog 3 #[.agg V.cells, sv s] w (Ret w (.bool true)) := by
  have hx := Box.new w V.cells 27
  have hb0 := later_alloc w (.cells V.cells 27)
  obtain ⟨x0, x1, x2, x3⟩ := hx.dfa
  have hk := fun w1 (hb : Below w.heap.size w w1) => knows36 w1 (hT.kept hb) (hM.kept hb)
  have HK := Lib.hid hk
  have hz := zeroV_dfa
  have hsv := V0.size
  obtain ⟨q1, q2, q3⟩ := h.lens
  obtain ⟨n, hn⟩ : ∃ n, s.length = n := ⟨_, rfl⟩
  have hsz : (⟨s.toArray⟩ : ByteArray).size = n := by rw [sv_size, hn]
  rw [hn] at hs
  by_cases c1 : 500 < V.ln
  · have d1 : decide ((500 : Int) < (V.ln : Int)) = true := by simp; omega
    clear h h0 hl hT hM hk q1 q2 q3 hn
    go_enter Tryd.func3, Tryd.ntmps3
    go_wp2_with (first | (go_at_call 4; go_must (refine (HK.out _ hb0).mono ?_; rintro e w4 ⟨rfl, hB4⟩; have hb4 := hb0.trans (hB4.mono hb0.size))))
    go_ret
    exact ⟨rfl, hb4⟩
  · have d1 : decide ((500 : Int) < (V.ln : Int)) = false := by simp; omega
    by_cases c2 : 20000 < n
    · have d2 : decide ((20000 : Int) < (n : Int)) = true := by simp; omega
      clear h h0 hl hT hM hk q1 q2 q3 hn
      go_enter Tryd.func3, Tryd.ntmps3
      go_wp2_with (first | (go_at_call 4; go_must (refine (HK.out _ hb0).mono ?_; rintro e w4 ⟨rfl, hB4⟩; have hb4 := hb0.trans (hB4.mono hb0.size))))
      go_ret
      exact ⟨rfl, hb4⟩
    · have d2 : decide ((20000 : Int) < (n : Int)) = false := by simp; omega
      have hRt := fun w1 (hb : Below w.heap.size w w1) => dfa_Right V D w1 (h.kept hb) hl
      have HW : Hid (∀ w1, Below w.heap.size w w1 → ReadsD w1 V D ∧ Tab w1 ∧ MaxL w1) := Lib.hid fun w1 hb => ⟨h.kept hb, hT.kept hb, hM.kept hb⟩
      have HN := Lib.hid hn
      cases hr : rightD D with
      | true =>
        rw [hr] at hRt
        have hT1 := fun w1 (hb : Below w.heap.size w w1) => text_right hr (h.kept hb) hl (hT.kept hb)
        have hbk := back_text hr h0
        have hlen := text_500 hr (by omega)
        have hR1 := fun w1 (hb : Below w.heap.size w w1) => read_some hbk hlen w1 (hT.kept hb) (hM.kept hb)
        have hS1 := fun U w1 (hu : ReadsD w1 U D) (hb : Below w.heap.size w w1) => dfa_Same U V D D w1 hu (h.kept hb)
        rw [sameD_self] at hS1
        have H1 := Lib.hid hT1
        have H2 := Lib.hid hR1
        have H3 := Lib.hid hS1
        have H4 := Lib.hid hRt
        generalize textD D = t at *
        cases hp : readP s with
        | none =>
          have hR2 := fun w1 (hb : Below w.heap.size w w1) => read_none hp (by omega) w1 (hT.kept hb) (hM.kept hb)
          have H5 := Lib.hid hR2
          clear hT1 hbk hlen hR1 hS1 hRt h h0 hl hT hM hk q1 q2 q3 hn hr hR2 hp
          go_enter Tryd.func3, Tryd.ntmps3
          go_wp2_with (first | (go_at_call 4; (refine (HK.out _ hb6).mono ?_; rintro e w7 ⟨rfl, hB7⟩; have hb7 := hb6.trans (hB7.mono hb6.size))) | (refine wpList_store_new rfl 27 (.tmp 9) (.tmp 51) rfl _ _ rfl rfl (by simp) (size_dfa V0) (VDfa.sizes _ _) (VDfa.all _) ?_) | (go_at_call 6; (refine (H5.out _ hb5).mono ?_; rintro e w6 ⟨rfl, hB6⟩; have hb6 := (hb5.trans (hB6.mono hb5.size)).alloc (hb5.trans (hB6.mono hb5.size)).size (.cells V0.cells 27); have hv6 := Box.new w6 V0.cells 27; have y2 : (w6.alloc (.cells V0.cells 27)).cell? ⟨w6.heap.size, 258, none⟩ = some (.slice none 0 0) := hv6.dfa.2.2.1)) | (go_at_call 8; (refine (H4.out _ hb4).mono ?_; rintro e w5 ⟨rfl, hB5⟩; have hb5 := hb4.trans (hB5.mono hb4.size))) | (refine wpList_load_row rfl 27 (.tmp 2) rfl w.heap.size rfl _ _ _ _ hx4 Tryd.underlying27 rfl (size_dfa _) ?_) | (go_at_call 7; (refine (H3.out _ _ hU3 hb3).mono ?_; rintro e w4 ⟨rfl, hB4⟩; have hx4 := hx3.kept hB4; have hb4 := hb3.trans (hB4.mono hb3.size))) | (refine wpList_load_row_g (by rfl) 27 (.tmp 2) rfl w.heap.size rfl _ _ _ _ hx3 Tryd.underlying27 rfl (size_dfa _) ?_) | (refine wpList_load_row_g (by rfl) 27 (.tmp 7) rfl w3.heap.size rfl _ _ _ _ hu3 Tryd.underlying27 rfl (size_dfa _) ?_) | (refine wpList_store_new rfl 27 (.tmp 7) (.tmp 33) rfl _ _ rfl rfl (by simp) (size_dfa U) (VDfa.sizes _ _) (VDfa.all _) ?_) | (go_at_call 6; (refine (H2.out _ hb2).mono ?_; rintro e w3 ⟨hB3, U, rfl, hU⟩; have hx3 := (hx2.kept hB3).alloc (.cells U.cells 27); have hU3 := hU.kept (later_alloc _ (.cells U.cells 27)); have hb3 := (hb2.trans (hB3.mono hb2.size)).alloc (hb2.trans (hB3.mono hb2.size)).size (.cells U.cells 27); have hu3 := Box.new w3 U.cells 27)) | (go_at_call 5; (refine (H1.out _ hb0).mono ?_; rintro e w2 ⟨rfl, hB2⟩; have hx2 := hx.kept hB2; have hb2 := hb0.trans (hB2.mono hb0.size))) | (refine wpList_load_row rfl 27 (.tmp 2) rfl w.heap.size rfl _ _ _ _ hx Tryd.underlying27 rfl (size_dfa _) ?_))
          go_ret
          exact ⟨rfl, hb7⟩
        | some E =>
          obtain ⟨hrE, htE⟩ := readP_right hp
          have hlE : ∀ x ∈ E.names, x.length ≤ 9223372036854775807 := fun x hx => Nat.le_trans (name_length hrE x hx) (by decide)
          have hR2 := fun w1 (hb : Below w.heap.size w w1) => read_some hp (by omega) w1 (hT.kept hb) (hM.kept hb)
          have hT2 := fun (U : VDfa) w1 (hu : ReadsD w1 U E) (hb : Below w.heap.size w w1) => text_right hrE hu hlE (hT.kept hb)
          have hQ2 := fun (U : VDfa) w1 (hu : ReadsD w1 U E) => dfa_Right U E w1 hu hlE
          rw [hrE] at hQ2
          rw [htE] at hT2
          have H5 := Lib.hid hR2
          have H6 := Lib.hid hT2
          have H7 := Lib.hid hQ2
          clear hT1 hbk hlen hR1 hS1 hRt h h0 hl hT hM hk q1 q2 q3 hn hr hR2 hp hT2 hQ2 hlE htE hrE
          go_enter Tryd.func3, Tryd.ntmps3
          go_wp2_with (first | (go_at_call 4; (refine (HK.out _ hb8).mono ?_; rintro e w9 ⟨rfl, hB9⟩; have hb9 := hb8.trans (hB9.mono hb8.size))) | (go_at_call 8; (refine (H7.out _ _ hU8).mono ?_; rintro e w8 ⟨rfl, hB8⟩; have hb8 := hb7.trans (hB8.mono hb7.size))) | (refine wpList_load_row_g (by rfl) 27 (.tmp 9) rfl w6.heap.size rfl _ _ _ _ hv7 Tryd.underlying27 rfl (size_dfa _) ?_) | (go_at_call 5; (refine (H6.out _ _ hU7 hb6).mono ?_; rintro e w7 ⟨rfl, hB7⟩; have hv7 := hv6.kept hB7; have hU8 := hU7.kept hB7; have hb7 := hb6.trans (hB7.mono hb6.size))) | (refine wpList_load_row rfl 27 (.tmp 9) rfl w6.heap.size rfl _ _ _ _ hv6 Tryd.underlying27 rfl (size_dfa _) ?_) | (refine wpList_store_new rfl 27 (.tmp 9) (.tmp 51) rfl _ _ rfl rfl (by simp) (size_dfa U2) (VDfa.sizes _ _) (VDfa.all _) ?_) | (go_at_call 6; (refine (H5.out _ hb5).mono ?_; rintro e w6 ⟨hB6, U2, rfl, hU6⟩; have hb6 := (hb5.trans (hB6.mono hb5.size)).alloc (hb5.trans (hB6.mono hb5.size)).size (.cells U2.cells 27); have hv6 := Box.new w6 U2.cells 27; have hU7 := hU6.kept (later_alloc _ (.cells U2.cells 27)))) | (go_at_call 8; (refine (H4.out _ hb4).mono ?_; rintro e w5 ⟨rfl, hB5⟩; have hb5 := hb4.trans (hB5.mono hb4.size))) | (refine wpList_load_row rfl 27 (.tmp 2) rfl w.heap.size rfl _ _ _ _ hx4 Tryd.underlying27 rfl (size_dfa _) ?_) | (go_at_call 7; (refine (H3.out _ _ hU3 hb3).mono ?_; rintro e w4 ⟨rfl, hB4⟩; have hx4 := hx3.kept hB4; have hb4 := hb3.trans (hB4.mono hb3.size))) | (refine wpList_load_row_g (by rfl) 27 (.tmp 2) rfl w.heap.size rfl _ _ _ _ hx3 Tryd.underlying27 rfl (size_dfa _) ?_) | (refine wpList_load_row_g (by rfl) 27 (.tmp 7) rfl w3.heap.size rfl _ _ _ _ hu3 Tryd.underlying27 rfl (size_dfa _) ?_) | (refine wpList_store_new rfl 27 (.tmp 7) (.tmp 33) rfl _ _ rfl rfl (by simp) (size_dfa U) (VDfa.sizes _ _) (VDfa.all _) ?_) | (go_at_call 6; (refine (H2.out _ hb2).mono ?_; rintro e w3 ⟨hB3, U, rfl, hU⟩; have hx3 := (hx2.kept hB3).alloc (.cells U.cells 27); have hU3 := hU.kept (later_alloc _ (.cells U.cells 27)); have hb3 := (hb2.trans (hB3.mono hb2.size)).alloc (hb2.trans (hB3.mono hb2.size)).size (.cells U.cells 27); have hu3 := Box.new w3 U.cells 27)) | (go_at_call 5; (refine (H1.out _ hb0).mono ?_; rintro e w2 ⟨rfl, hB2⟩; have hx2 := hx.kept hB2; have hb2 := hb0.trans (hB2.mono hb0.size))) | (refine wpList_load_row rfl 27 (.tmp 2) rfl w.heap.size rfl _ _ _ _ hx Tryd.underlying27 rfl (size_dfa _) ?_))
          go_ret
          exact ⟨rfl, hb9⟩
      | false =>
        rw [hr] at hRt
        have hT1 := fun w1 (hb : Below w.heap.size w w1) => text_wrong hr (h.kept hb) hl (hT.kept hb)
        have H1 := Lib.hid hT1
        have H4 := Lib.hid hRt
        cases hp : readP s with
        | none =>
          have hR2 := fun w1 (hb : Below w.heap.size w w1) => read_none hp (by omega) w1 (hT.kept hb) (hM.kept hb)
          have H5 := Lib.hid hR2
          clear hT1 hRt h h0 hl hT hM hk q1 q2 q3 hn hr hR2 hp
          go_enter Tryd.func3, Tryd.ntmps3
          go_wp2_with (first | (go_at_call 4; (refine (HK.out _ hb6).mono ?_; rintro e w7 ⟨rfl, hB7⟩; have hb7 := hb6.trans (hB7.mono hb6.size))) | (refine wpList_store_new rfl 27 (.tmp 9) (.tmp 51) rfl _ _ rfl rfl (by simp) (size_dfa V0) (VDfa.sizes _ _) (VDfa.all _) ?_) | (go_at_call 6; (refine (H5.out _ hb5).mono ?_; rintro e w6 ⟨rfl, hB6⟩; have hb6 := (hb5.trans (hB6.mono hb5.size)).alloc (hb5.trans (hB6.mono hb5.size)).size (.cells V0.cells 27); have hv6 := Box.new w6 V0.cells 27; have y2 : (w6.alloc (.cells V0.cells 27)).cell? ⟨w6.heap.size, 258, none⟩ = some (.slice none 0 0) := hv6.dfa.2.2.1)) | (go_at_call 8; (refine (H4.out _ hb4).mono ?_; rintro e w5 ⟨rfl, hB5⟩; have hb5 := hb4.trans (hB5.mono hb4.size))) | (refine wpList_load_row rfl 27 (.tmp 2) rfl w.heap.size rfl _ _ _ _ hx4 Tryd.underlying27 rfl (size_dfa _) ?_) | (go_at_call 5; (refine (H1.out _ hb0).mono ?_; rintro e w2 ⟨rfl, hB2⟩; have hx4 := hx.kept hB2; have hb4 := hb0.trans (hB2.mono hb0.size))) | (refine wpList_load_row rfl 27 (.tmp 2) rfl w.heap.size rfl _ _ _ _ hx Tryd.underlying27 rfl (size_dfa _) ?_))
          go_ret
          exact ⟨rfl, hb7⟩
        | some E =>
          obtain ⟨hrE, htE⟩ := readP_right hp
          have hlE : ∀ x ∈ E.names, x.length ≤ 9223372036854775807 := fun x hx => Nat.le_trans (name_length hrE x hx) (by decide)
          have hR2 := fun w1 (hb : Below w.heap.size w w1) => read_some hp (by omega) w1 (hT.kept hb) (hM.kept hb)
          have hT2 := fun (U : VDfa) w1 (hu : ReadsD w1 U E) (hb : Below w.heap.size w w1) => text_right hrE hu hlE (hT.kept hb)
          have hQ2 := fun (U : VDfa) w1 (hu : ReadsD w1 U E) => dfa_Right U E w1 hu hlE
          rw [hrE] at hQ2
          rw [htE] at hT2
          have H5 := Lib.hid hR2
          have H6 := Lib.hid hT2
          have H7 := Lib.hid hQ2
          clear hT1 hRt h h0 hl hT hM hk q1 q2 q3 hn hr hR2 hp hT2 hQ2 hlE htE hrE
          go_enter Tryd.func3, Tryd.ntmps3
          go_wp2_with (first | (go_at_call 4; (refine (HK.out _ hb8).mono ?_; rintro e w9 ⟨rfl, hB9⟩; have hb9 := hb8.trans (hB9.mono hb8.size))) | (go_at_call 8; (refine (H7.out _ _ hU8).mono ?_; rintro e w8 ⟨rfl, hB8⟩; have hb8 := hb7.trans (hB8.mono hb7.size))) | (refine wpList_load_row_g (by rfl) 27 (.tmp 9) rfl w6.heap.size rfl _ _ _ _ hv7 Tryd.underlying27 rfl (size_dfa _) ?_) | (go_at_call 5; (refine (H6.out _ _ hU7 hb6).mono ?_; rintro e w7 ⟨rfl, hB7⟩; have hv7 := hv6.kept hB7; have hU8 := hU7.kept hB7; have hb7 := hb6.trans (hB7.mono hb6.size))) | (refine wpList_load_row rfl 27 (.tmp 9) rfl w6.heap.size rfl _ _ _ _ hv6 Tryd.underlying27 rfl (size_dfa _) ?_) | (refine wpList_store_new rfl 27 (.tmp 9) (.tmp 51) rfl _ _ rfl rfl (by simp) (size_dfa U2) (VDfa.sizes _ _) (VDfa.all _) ?_) | (go_at_call 6; (refine (H5.out _ hb5).mono ?_; rintro e w6 ⟨hB6, U2, rfl, hU6⟩; have hb6 := (hb5.trans (hB6.mono hb5.size)).alloc (hb5.trans (hB6.mono hb5.size)).size (.cells U2.cells 27); have hv6 := Box.new w6 U2.cells 27; have hU7 := hU6.kept (later_alloc _ (.cells U2.cells 27)))) | (go_at_call 8; (refine (H4.out _ hb4).mono ?_; rintro e w5 ⟨rfl, hB5⟩; have hb5 := hb4.trans (hB5.mono hb4.size))) | (refine wpList_load_row rfl 27 (.tmp 2) rfl w.heap.size rfl _ _ _ _ hx4 Tryd.underlying27 rfl (size_dfa _) ?_) | (go_at_call 5; (refine (H1.out _ hb0).mono ?_; rintro e w2 ⟨rfl, hB2⟩; have hx4 := hx.kept hB2; have hb4 := hb0.trans (hB2.mono hb0.size))) | (refine wpList_load_row rfl 27 (.tmp 2) rfl w.heap.size rfl _ _ _ _ hx Tryd.underlying27 rfl (size_dfa _) ?_))
          go_ret
          exact ⟨rfl, hb9⟩
/-- No condition on what is said of what is no byte. -/
theorem law_ListingBack (V : VDfa) (D : PDfa) (s : List UInt8) (w : World) (h : ReadsD w V D) (hl : ∀ x ∈ D.names, x.length ≤ 9223372036854775807) (hs : s.length ≤ 9223372036854775807) (hT : Tab w) (hM : MaxL w) :
    Calls Tryd.prog 3 #[.agg V.cells, sv s] w (Ret w (.bool true)) := by
  have hc : ({ V with of := fun b => if b < 256 then V.of b else 0 } : VDfa).cells = V.cells := by
    unfold VDfa.cells
    rw [arr8_congr fun b hb => if_pos hb]
  have := law_back { V with of := fun b => if b < 256 then V.of b else 0 } { D with of := fun b => if b < 256 then D.of b else 0 } s w (by
    obtain ⟨h1, h2⟩ := h
    exact ⟨by rw [h1], h2⟩) (fun b hb => if_neg (by omega)) hl hs hT hM
  rwa [hc] at this
theorem table_ListingBack {W : World} (h : laidMetH Tryd.prog Rows.listingBackRow.laid W) : Tab W := tab_of_tabIs (Lib.tabIs_of_head (zs := Lib.deBruijn64tab.map fun (x : Nat) => (x : Int)) (rest := []) gTab gTabType Tryd.underlying124 Tryd.underlying5 (by kernel_rfl) (by kernel_rfl) h)
set_option maxRecDepth 100000 in
theorem contract_ListingBack (H : Type) (enc : TypeId × Value → H) (W : World) (base : Nat) (args : Array Value) (ds gs : List (DataW H)) (before : List MemPlace)
    (hval0 : ∀ (j : Nat) t v, Tryd.f3.params[j]? = some t → args[j]? = some v → Value.okWide Tryd.prog W .any base t v)
    (hW : DataW.Whole enc Tryd.prog Tryd.f3.params.toList Rows.listingBackSpec.vars false W args.toList ds gs before) (hsh : W.ShapedOpen Tryd.prog) (hL : laidMetH Tryd.prog Rows.listingBackRow.laid W) :
    Calls Tryd.prog 3 args W fun e W' => ∃ v, e = .returned v ∧ Rows.listingBackSpec.post enc Tryd.prog Tryd.f3 false true false false W args v W' := by
  have hval : ∀ (j : Nat) t v, Tryd.f3.params[j]? = some t → args[j]? = some v → Value.okWide Tryd.prog W .any base t v := hval0
  have hW' := hW
  have hT := table_ListingBack hL
  have hM : MaxL W := Go.Proofs.cell_of_shapedOpen_int (zero := #[.int .i64 0]) (t := 3) hsh (of_decide_eq_true (by kernel_rfl)) (by kernel_rfl) rfl (by kernel_rfl) (by kernel_rfl) Tryd.underlying3
  obtain ⟨p, q, hA0, hV, rfl, hfz, hnd⟩ := hW
  have hA : DataW.TrodAll enc Tryd.prog W 0 (fun _ => true) true Tryd.f3.params.toList args.toList ds p := hA0
  rw [Tryd.params3] at hA hval
  obtain ⟨v0, vs0, d0, ds0, p0, q0, hargs, rfl, rfl, h00, r0⟩ := trodAll_cons hA
  obtain ⟨v1, vs1, d1, ds1, p1, q1, rfl, rfl, rfl, h01, r1⟩ := trodAll_cons r0
  obtain ⟨rfl, rfl, rfl⟩ := trodAll_nil r1
  obtain rfl : args = #[v0, v1] := by cases args; simp_all
  obtain ⟨rfl, rfl⟩ := trodVars_none hV
  have k00 := h00
  have lt0 : ∀ x ∈ p0, x.block < W.heap.size := by obtain ⟨m, hm⟩ := k00; exact DataW.trod_lt m _ _ _ hm
  have k01 := h01
  have lt1 : ∀ x ∈ p1, x.block < W.heap.size := by obtain ⟨m, hm⟩ := k01; exact DataW.trod_lt m _ _ _ hm
  obtain ⟨Vd, d, rfl, Rd, ofd, nmd, wdd, lbd, nxd⟩ : ∃ (V : VDfa) (D : PDfa), v0 = .agg V.cells ∧ ReadsD W V D ∧ (∀ b, V.of b < 256) ∧ (∀ x ∈ D.names, x.length ≤ 9223372036854775807) ∧ (Lit.int .i64 D.width).wf = true ∧ (∀ x ∈ D.label, (Lit.int .i64 x).wf = true) ∧ ∀ r ∈ D.next, ∀ x ∈ r, (Lit.int .i64 x).wf = true := by
    obtain ⟨fuel, hfu⟩ := h00
    obtain ⟨cs, hcs, _⟩ := okWide_struct Tryd.underlying27 (hval 0 27 v0 rfl rfl)
    subst hcs
    obtain ⟨fs, N⟩ := dfaTys
    obtain ⟨V, D, h2, h3⟩ := trod_dfa N hfu
    exact ⟨V, D, by rw [show cs = V.cells from Array.ext' h2], h3⟩
  obtain ⟨s, rfl, hs⟩ : ∃ l : List UInt8, v1 = sv l ∧ l.length ≤ 9223372036854775807 := by
    obtain ⟨s, h1, _, _, h2⟩ := Go.ChangeMaps.open_string Tryd.underlying9 (hval 1 9 v1 rfl rfl) h01
    exact ⟨s.data.toList, by rw [h1, sv_of], by rw [Array.length_toList]; exact h2⟩
  clear hA0 hval0
  refine (law_ListingBack Vd d s W Rd nmd hs hT hM).mono fun e W' ⟨he, bel⟩ => ?_
  subst he
  exact ⟨_, rfl, _, _, _, [], _, [], hW', trodAll_mk1 (shut_bool Tryd.underlying4 _), (trodAll_cons_mk (Below.trod laidOut (by kernel_rfl) (of_decide_eq_true (by kernel_rfl)) k00 bel lt0) (trodAll_cons_mk (Below.trod laidOut (by kernel_rfl) (of_decide_eq_true (by kernel_rfl)) k01 bel lt1) trodAll_mk0)), rfl, bel.frame _, fun h => by cases h⟩
theorem laid_met_ListingBack (os : Os) : laidMet Tryd.prog Rows.listingBackRow.laid ((laidWorld os).forCall (fun _ _ => 0) ⟨#[], #[zDfa, .string ⟨#[]⟩], []⟩).memory :=
  laidMet_of_run' 8 (by kernel_rfl) (by kernel_rfl)
theorem reads_ListingBack (os : Os) {H : Type} (enc : TypeId × Value → H) : ∃ places, DataW.whole enc Tryd.prog ((laidWorld os).forCall (fun _ _ => 0) ⟨#[], #[zDfa, .string ⟨#[]⟩], []⟩).memory Tryd.f3.params.toList Rows.listingBackSpec.vars false (#[zDfa, .string ⟨#[]⟩] : Array Value).toList 8 = some ([.agg [.agg (List.replicate 256 (.lit (.int .u8 0))), .lit (.int .i64 0), .nil, .nil, .nil], .lit (.string [])], [], places) :=
  ⟨[], by kernel_rfl⟩
set_option maxRecDepth 100000 in
theorem lifted_ListingBack (os : Os) (started : os.Started) (H : Type) (enc : TypeId × Value → H) (F : Stop.Interp) :
    ReturnsInHanded {} Tryd.checked os 3 .any ((OpenSpec.ofChange Rows.listingBackSpec).preRow enc Tryd.prog Tryd.f3 Rows.listingBackRow.domain false Rows.listingBackRow.laid) (((OpenSpec.ofChange Rows.listingBackSpec).at F).post enc Tryd.prog Tryd.f3 false true false false) := by
  obtain ⟨places, hx⟩ := reads_ListingBack os enc
  refine returnsInHanded_of_row (C := Tryd.checked) (s := OpenSpec.ofChange Rows.listingBackSpec) own started (by kernel_rfl) Tryd.func3
    (witness_row_at (enc := enc) (C := Tryd.checked) false (laidWorld os) #[zDfa, .string ⟨#[]⟩] rfl (by kernel_rfl) (by kernel_rfl) (by kernel_rfl)
      (OpenSpec.preRow_of_cond 8 hx (by kernel_rfl) (fun k hk => by cases hk) (by kernel_rfl) (laid_met_ListingBack os))) ?_
  intro W base args ds gs before hval hW _ _ _ hL hsh _
  exact contract_ListingBack H enc W base args ds gs before hval hW hsh hL
theorem said_ListingBack : Rows.ListingBackSaid :=
  OpenClaim.holds_of_cond 3 Tryd.f3 rfl rfl rfl rfl rfl rfl rfl ⟨rfl, rfl, rfl, rfl, rfl⟩ rfl rfl rfl rfl rfl (by kernel_rfl) Tryd.func3 (by kernel_rfl)
    (of_decide_eq_true (by kernel_rfl)) (by unfold Func.isWrapper; first | (rw [if_pos (by decide +kernel)]; kernel_rfl) | (rw [if_neg (by decide +kernel)]; exact ⟨rfl, rfl⟩))
    (fun os started H enc _ F => by rw [OpenClaim.pre_eq_preRow]; exact lifted_ListingBack os started H enc F)
theorem plain_ListingBack (f : FuncId) (fn : Func) (hf : Tryd.pinned.checked.prog.funcNamed "doublet/doubletlaw36.ListingBack" = some f) (hfn : Tryd.pinned.checked.prog.funcs[f]? = some fn) :
    false = Tryd.pinned.checked.prog.looks [] ∧ ∀ (j : Nat) t, fn.params[j]? = some t → Tryd.pinned.checked.prog.wantsStandIn t = false := by
  obtain rfl : f = 3 := Option.some.inj ((show Tryd.prog.funcNamed "doublet/doubletlaw36.ListingBack" = some 3 by kernel_rfl).symm.trans hf) |>.symm
  obtain rfl : fn = Tryd.f3 := (Option.some.inj (Tryd.func3.symm.trans hfn)).symm
  refine ⟨by kernel_rfl, fun j t ht => ?_⟩
  rw [Tryd.params3] at ht
  have hm := Array.mem_of_getElem? ht
  simp only [List.mem_toArray, List.mem_cons, List.not_mem_nil, or_false] at hm
  rcases hm with rfl | rfl
  · exact (show Tryd.prog.wantsStandIn 27 = false by kernel_rfl)
  · exact (show Tryd.prog.wantsStandIn 9 = false by kernel_rfl)
theorem ListingBack_holds : Rows.ListingBackCardSaid :=
  Claim7.holds_tied_plain_at .later [] _ _ _ _ said_ListingBack (fun _ h => by cases h) (by kernel_rfl) (fun _ h => by cases h) listingBack_row_tie rfl ⟨rfl, rfl⟩ (by kernel_rfl) rfl plain_ListingBack (by kernel_rfl)
#print axioms ListingBack_holds
end Go.Proofs.YtdhmekpgplajmaaDoor
end
