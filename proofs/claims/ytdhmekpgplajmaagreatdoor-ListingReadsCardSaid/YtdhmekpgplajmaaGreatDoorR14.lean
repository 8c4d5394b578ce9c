/- Joined by tools/merge.py: BackC, Ref04A, Ref04B. -/
import Derived.Test.YtdhmekpgplajmaaGreatDoorR13
import Derived.Test.YtdhmekpgplajmaaGreatDoorR11
section
namespace Go.Proofs.YtdhmekpgplajmaaGreatDoor
open Go.RowKit
set_option maxRecDepth 20000
/-- What some pieces have together. -/
def uniP (l : List (Nat × Nat)) : BSet := l.foldl (fun s p => s ||| spanS p.1 p.2) 0
theorem uniP_snoc (l : List (Nat × Nat)) (p : Nat × Nat) : uniP (l ++ [p]) = uniP l ||| spanS p.1 p.2 := by unfold uniP; rw [List.foldl_append]; rfl
theorem uniP_from (l : List (Nat × Nat)) : ∀ s : BSet, l.foldl (fun s p => s ||| spanS p.1 p.2) s = s ||| uniP l := by
  unfold uniP
  induction l with
  | nil => intro s; simp
  | cons p l ih => intro s; rw [List.foldl_cons, List.foldl_cons, ih, ih (0 ||| _)]; simp [BitVec.or_assoc]
theorem uniP_cons (p : Nat × Nat) (l : List (Nat × Nat)) : uniP (p :: l) = spanS p.1 p.2 ||| uniP l := by
  rw [show uniP (p :: l) = l.foldl (fun s p => s ||| spanS p.1 p.2) (0 ||| spanS p.1 p.2) from rfl, uniP_from]; simp
theorem mem_spanS (lo hi c : Nat) : mem (spanS lo hi) c = (decide (c < 256) && (decide (lo ≤ c) && decide (c ≤ hi))) := by unfold spanS; rw [mem_ofP]
theorem uniP_addSpan (l : List (Nat × Nat)) (b : Nat) (hb : b < 256) (h : ∀ p ∈ l, p.1 ≤ p.2) : uniP (addSpan l b) = withB (uniP l) b ∧ ∀ p ∈ addSpan l b, p.1 ≤ p.2 := by
  have one_piece : spanS b b = one b := set_ext fun c hc => by
    rw [mem_spanS, mem_one _ _ hb, Bool.eq_iff_iff]; simp; omega
  rcases List.eq_nil_or_concat l with rfl | ⟨L0, ⟨lo, hi⟩, rfl⟩
  · rw [addSpan_nil, show [(b, b)] = [] ++ [(b, b)] from rfl, uniP_snoc]
    refine ⟨?_, by simp⟩
    show uniP [] ||| spanS b b = _
    rw [one_piece]
    rfl
  · rw [List.concat_eq_append] at *
    by_cases hc : hi + 1 = b
    · rw [addSpan_on _ _ _ _ hc, uniP_snoc, uniP_snoc]
      refine ⟨set_ext fun c hc' => ?_, fun p hp => ?_⟩
      · rw [mem_withB _ _ _ hb, mem_or, mem_or, mem_spanS, mem_spanS, Bool.or_assoc]
        congr 1
        have := h (lo, hi) (by simp)
        rw [Bool.eq_iff_iff]; simp at this ⊢; omega
      · rcases List.mem_append.1 hp with h1 | h1
        · exact h p (by simp [h1])
        · have := h (lo, hi) (by simp); simp at h1 this; subst h1; simp; omega
    · rw [addSpan_new _ _ _ _ hc, uniP_snoc]
      refine ⟨?_, fun p hp => ?_⟩
      · show uniP (L0 ++ [(lo, hi)]) ||| spanS b b = _
        rw [one_piece]
        rfl
      · rcases List.mem_append.1 hp with h1 | h1
        · exact h p h1
        · simp at h1; subst h1; simp
theorem uniP_spansL (xs : List Nat) : (∀ x ∈ xs, x < 256) → uniP (spansL xs) = ofL xs := by
  suffices h : ∀ (xs : List Nat) (l : List (Nat × Nat)) (s : BSet), (∀ x ∈ xs, x < 256) → (∀ p ∈ l, p.1 ≤ p.2) → uniP l = s → uniP (xs.foldl addSpan l) = xs.foldl withB s from fun hx => h xs [] 0 hx (fun p hp => by simp at hp) rfl
  intro xs
  induction xs with
  | nil => intro l s _ _ h; exact h
  | cons a xs ih =>
    intro l s hx hl h
    obtain ⟨h1, h2⟩ := uniP_addSpan l a (hx a (by simp)) hl
    exact ih _ _ (fun x hx' => hx x (by simp [hx'])) h2 (by rw [h1, h])
theorem uniP_elems (a : BSet) : uniP (spansL (elems a)) = a := by rw [uniP_spansL _ fun x hx => elems_lt hx, ofL_elems]
/-- Places within a text. -/
theorem getD_mid (a b : List UInt8) (k : Nat) : (a ++ b).getD (a.length + k) 0 = b.getD k 0 := by
  simp only [List.getD]; rw [List.getElem?_append_right (by omega)]; congr 2; omega
theorem hereB_mid (a b : List UInt8) (k : Nat) (c : UInt8) : hereB (a ++ b) (a.length + k) c = hereB b k c := by
  unfold hereB; rw [getD_mid, List.length_append]; congr 1; rw [decide_eq_decide]; omega
theorem hexV_hexd : ∀ d, d < 16 → hexV (hexd d).toNat = some d := by decide +kernel
theorem escR_mid (a b : List UInt8) {c j : Nat} (h : escR b 0 = .inr (c, j)) : escR (a ++ b) a.length = .inr (c, a.length + j) := by
  unfold escR at h ⊢
  have e1 : (a ++ b).getD (a.length + 1) 0 = b.getD 1 0 := getD_mid a b 1
  have e2 : (a ++ b).getD (a.length + 2) 0 = b.getD 2 0 := getD_mid a b 2
  have e3 : (a ++ b).getD (a.length + 3) 0 = b.getD 3 0 := getD_mid a b 3
  simp only [Nat.zero_add] at h
  rw [e1, e2, e3, List.length_append]
  have i1 : (a.length + b.length ≤ a.length + 1) = (b.length ≤ 1) := by rw [eq_iff_iff]; omega
  have i2 : (a.length + 4 ≤ a.length + b.length) = (4 ≤ b.length) := by rw [eq_iff_iff]; omega
  simp only [i1, i2]
  by_cases h1 : b.length ≤ 1
  · rw [if_pos h1] at h; cases h
  rw [if_neg h1] at h ⊢
  by_cases h2 : (b.getD 1 0).toNat = 110
  · rw [if_pos h2] at h ⊢; cases h; rfl
  rw [if_neg h2] at h ⊢
  by_cases h3 : (b.getD 1 0).toNat = 116
  · rw [if_pos h3] at h ⊢; cases h; rfl
  rw [if_neg h3] at h ⊢
  by_cases h4 : (b.getD 1 0).toNat = 114
  · rw [if_pos h4] at h ⊢; cases h; rfl
  rw [if_neg h4] at h ⊢
  by_cases h5 : (b.getD 1 0).toNat = 120
  · rw [if_pos h5] at h ⊢
    by_cases h6 : 4 ≤ b.length
    · rw [if_pos h6] at h ⊢
      cases h7 : hexV (b.getD 2 0).toNat with
      | none => rw [h7] at h; cases h
      | some x =>
        cases h8 : hexV (b.getD 3 0).toNat with
        | none => rw [h7, h8] at h; cases h
        | some y => rw [h7, h8] at h; cases h; rfl
    · rw [if_neg h6] at h; cases h
  rw [if_neg h5] at h ⊢
  by_cases h6 : (b.getD 1 0).toNat < 33 ∨ 126 < (b.getD 1 0).toNat ∨ alnumN (b.getD 1 0).toNat = true
  · rw [if_pos h6] at h; cases h
  · rw [if_neg h6] at h ⊢; cases h; rfl
theorem charR_mid (a b : List UInt8) (fr : Nat) {c j : Nat} (h : charR b 0 0 = .inr (c, j)) : charR (a ++ b) fr a.length = .inr (c, a.length + j) := by
  unfold charR at h ⊢
  have e0 : hereB (a ++ b) a.length 92 = hereB b 0 92 := hereB_mid a b 0 92
  have e1 : (a ++ b).getD a.length 0 = b.getD 0 0 := getD_mid a b 0
  rw [e0, e1, List.length_append]
  have i1 : (a.length + b.length ≤ a.length) = (b.length ≤ 0) := by rw [eq_iff_iff]; omega
  simp only [i1]
  by_cases h1 : b.length ≤ 0
  · rw [if_pos h1] at h; cases h
  rw [if_neg h1] at h ⊢
  by_cases h2 : hereB b 0 92 = true
  · rw [if_pos h2] at h ⊢; exact escR_mid a b h
  rw [if_neg h2] at h ⊢
  by_cases h3 : specialN (b.getD 0 0).toNat = true
  · rw [if_pos h3] at h; cases h
  · rw [if_neg h3] at h ⊢; cases h; rfl
theorem specialN_cases {x : Nat} (h : specialN x = true) : x = 10 ∨ x = 92 ∨ x = 91 ∨ x = 93 ∨ x = 94 ∨ x = 45 := by
  unfold specialN at h; simp at h; omega
theorem charR_char (x : Nat) (hx : x < 256) (b : List UInt8) : charR (charX x ++ b) 0 0 = .inr (x, (charX x).length) := by
  unfold charX
  by_cases h1 : x = 10
  · subst h1; simp [charR, escR, hereB]
  by_cases h2 : x = 9
  · subst h2; simp [charR, escR, hereB]
  by_cases h3 : x = 13
  · subst h3; simp [charR, escR, hereB]
  rw [if_neg h1, if_neg h2, if_neg h3]
  by_cases h4 : specialN x = true
  · rw [if_pos h4]
    rcases specialN_cases h4 with rfl | rfl | rfl | rfl | rfl | rfl
    · exact absurd rfl h1
    all_goals simp [charR, escR, hereB, alnumN, digitN]
  · rw [if_neg h4]
    have hm : x % 256 = x := Nat.mod_eq_of_lt hx
    have h92 : x ≠ 92 := fun e => h4 (by subst e; rfl)
    unfold oneB
    have ht : (UInt8.ofNat x).toNat = x := by simp [hm]
    rw [ht]
    by_cases h5 : plainN x = true
    · rw [if_pos h5]
      have hne : UInt8.ofNat x ≠ 92 := fun e => h92 (by rw [← ht, e]; rfl)
      simp only [charR, hereB, List.cons_append, List.nil_append, List.length_cons, List.getD_cons_zero, ht]
      rw [if_neg (by omega), if_neg (by simp [hne]), if_neg h4]
      simp
    · rw [if_neg h5]
      have q1 : hexV (hexd (x / 16)).toNat = some (x / 16) := hexV_hexd _ (by omega)
      have q2 : hexV (hexd (x % 16)).toNat = some (x % 16) := hexV_hexd _ (by omega)
      simp only [charR, escR, hereB, List.cons_append, List.nil_append, List.length_cons, List.getD_cons_zero, List.getD_cons_succ, q1, q2]
      rw [if_neg (by omega), if_pos (by simp), if_neg (by omega), if_neg (by decide), if_neg (by decide), if_neg (by decide), if_pos (by decide), if_pos (by omega)]
      simp; omega
theorem charX_head : ∀ x, x < 256 → (!((charX x).getD 0 0 == 45) && (!((charX x).getD 0 0 == 93) && (!((charX x).getD 0 0 == 94) && (decide (0 < (charX x).length) && (charX x).all fun c => decide (33 ≤ c.toNat))))) = true := by
  have h : (List.range 256).all (fun x => (!((charX x).getD 0 0 == 45) && (!((charX x).getD 0 0 == 93) && (!((charX x).getD 0 0 == 94) && (decide (0 < (charX x).length) && (charX x).all fun c => decide (33 ≤ c.toNat)))))) = true := by decide +kernel
  intro x hx
  exact List.all_eq_true.1 h x (List.mem_range.2 hx)
theorem charX_not (x : Nat) (hx : x < 256) (b : List UInt8) (c : UInt8) (hc : c = 45 ∨ c = 93 ∨ c = 94) : hereB (charX x ++ b) 0 c = false := by
  have h := charX_head x hx
  simp only [Bool.and_eq_true, Bool.not_eq_true', decide_eq_true_eq] at h
  obtain ⟨h1, h2, h3, h4, _⟩ := h
  unfold hereB
  have e : (charX x ++ b).getD 0 0 = (charX x).getD 0 0 := by
    simp only [List.getD]; rw [List.getElem?_append_left h4]
  rw [e]
  rcases hc with rfl | rfl | rfl
  · rw [h1, Bool.and_false]
  · rw [h2, Bool.and_false]
  · rw [h3, Bool.and_false]
/-- One char, and no line behind it. -/
theorem item_one (a b : List UInt8) (fr x : Nat) (hx : x < 256) (h : hereB b 0 45 = false) : itemR (a ++ (charX x ++ b)) fr a.length = .inr ((x, x), a.length + (charX x).length) := by
  refine itemR_one (charR_mid a _ fr (charR_char x hx b)) ?_
  have := hereB_mid (a ++ charX x) b 0 45
  rw [List.length_append, List.append_assoc] at this
  exact this.trans h
theorem item_two (a b : List UInt8) (fr x y : Nat) (hx : x < 256) (hy : y < 256) (hxy : x ≤ y) : itemR (a ++ (charX x ++ (45 :: (charX y ++ b)))) fr a.length = .inr ((x, y), a.length + (charX x).length + 1 + (charX y).length) := by
  refine itemR_two (charR_mid a _ fr (charR_char x hx _)) ?_ ?_ (by omega)
  · have := hereB_mid (a ++ charX x) (45 :: (charX y ++ b)) 0 45
    rw [List.length_append, List.append_assoc] at this
    exact this.trans (by simp [hereB])
  · have := charR_mid (a ++ (charX x ++ [45])) (charX y ++ b) fr (charR_char y hy b)
    simp only [List.length_append, List.append_assoc, List.cons_append, List.nil_append, List.length_cons, List.length_nil, Nat.zero_add] at this
    rw [← Nat.add_assoc] at this
    exact this
theorem spanS_next (x : Nat) : spanS x x ||| spanS (x + 1) (x + 1) = spanS x (x + 1) := set_ext fun c hc => by
  rw [mem_or, mem_spanS, mem_spanS, mem_spanS, Bool.eq_iff_iff]; simp; omega
/-- All the pieces, and the end behind them. -/
theorem loopR_pieces (fr : Nat) (b : List UInt8) : ∀ (l : List (Nat × Nat)), (∀ p ∈ l, p.1 ≤ p.2 ∧ p.2 < 256) → ∀ (a : List UInt8) (s : BSet) (n : Nat), (l.flatMap pieceT).length < n →
    loopR (a ++ (l.flatMap pieceT ++ (93 :: b))) fr n s a.length = .inr (s ||| uniP l, a.length + (l.flatMap pieceT).length + 1) := by
  intro l
  induction l with
  | nil =>
    intro _ a s n hn
    obtain ⟨n, rfl⟩ : ∃ m, n = m + 1 := ⟨n - 1, by omega⟩
    have := hereB_mid a (93 :: b) 0 93
    rw [Nat.add_zero] at this
    simp only [List.flatMap_nil, List.nil_append, loopR]
    rw [if_pos (this.trans (by simp [hereB]))]
    simp [uniP]
  | cons p l ih =>
    intro hl a s n hn
    obtain ⟨h1, h2⟩ := hl p (by simp)
    have ihl := ih fun q hq => hl q (by simp [hq])
    obtain ⟨x, y⟩ := p
    simp only at h1 h2
    have hlen : 0 < (charX x).length ∧ 0 < (charX y).length := by
      have e1 := charX_head x (by omega); have e2 := charX_head y (by omega)
      simp only [Bool.and_eq_true, decide_eq_true_eq] at e1 e2
      exact ⟨e1.2.2.2.1, e2.2.2.2.1⟩
    -- what stands behind a piece is no line
    have hrest : hereB (l.flatMap pieceT ++ (93 :: b)) 0 45 = false := by
      cases l with
      | nil => simp [hereB]
      | cons q l =>
        rw [List.flatMap_cons, show pieceT q = charX q.1 ++ (if q.1 = q.2 then [] else if q.1 + 1 = q.2 then charX q.2 else 45 :: charX q.2) from rfl, List.append_assoc, List.append_assoc]
        exact charX_not _ (by have := hl q (by simp); omega) _ _ (.inl rfl)
    have hstop : ∀ (a r : List UInt8), hereB (a ++ (charX x ++ r)) a.length 93 = false := fun a r => (hereB_mid a _ 0 93).trans (charX_not x (by omega) _ _ (.inr (.inl rfl)))
    have hstop2 : ∀ (a r : List UInt8), hereB (a ++ (charX y ++ r)) a.length 93 = false := fun a r => (hereB_mid a _ 0 93).trans (charX_not y h2 _ _ (.inr (.inl rfl)))
    rw [List.flatMap_cons] at hn ⊢
    by_cases e1 : x = y
    · subst e1
      have ep : pieceT (x, x) = charX x := by simp [pieceT]
      rw [ep] at hn ⊢
      obtain ⟨n, rfl⟩ : ∃ m, n = m + 1 := ⟨n - 1, by omega⟩
      rw [loopR, List.append_assoc, if_neg (by rw [hstop]; decide), item_one a _ fr x h2 hrest]
      have := ihl (a ++ charX x) (s ||| spanS x x) n (by rw [List.length_append] at hn; omega)
      rw [List.length_append, List.append_assoc] at this
      dsimp only
      rw [this, uniP_cons, List.length_append]
      simp only [BitVec.or_assoc, Nat.add_assoc]
    · by_cases e2 : x + 1 = y
      · subst e2
        have ep : pieceT (x, x + 1) = charX x ++ charX (x + 1) := by simp [pieceT]
        rw [ep] at hn ⊢
        rw [List.length_append, List.length_append] at hn
        obtain ⟨n, rfl⟩ : ∃ m, n = m + 2 := ⟨n - 2, by omega⟩
        rw [loopR, List.append_assoc, List.append_assoc, if_neg (by rw [hstop]; decide), item_one a _ fr x (by omega) (charX_not _ h2 _ _ (.inl rfl))]
        dsimp only
        have q := item_one (a ++ charX x) (l.flatMap pieceT ++ (93 :: b)) fr (x + 1) h2 hrest
        have q0 := hstop2 (a ++ charX x) (l.flatMap pieceT ++ (93 :: b))
        rw [List.length_append, List.append_assoc] at q q0
        rw [loopR, if_neg (by rw [q0]; decide), q]
        dsimp only
        have := ihl (a ++ charX x ++ charX (x + 1)) (s ||| spanS x x ||| spanS (x + 1) (x + 1)) n (by omega)
        rw [List.length_append, List.length_append, List.append_assoc, List.append_assoc] at this
        rw [this, uniP_cons, ← spanS_next, List.length_append, List.length_append]
        simp only [BitVec.or_assoc, Nat.add_assoc]
      · have ep : pieceT (x, y) = charX x ++ (45 :: charX y) := by simp [pieceT, e1, e2]
        rw [ep] at hn ⊢
        obtain ⟨n, rfl⟩ : ∃ m, n = m + 1 := ⟨n - 1, by omega⟩
        have q := item_two a (l.flatMap pieceT ++ (93 :: b)) fr x y (by omega) h2 h1
        rw [loopR, List.append_assoc, List.append_assoc, List.cons_append, if_neg (by rw [hstop]; decide)]
        rw [q]
        dsimp only
        have := ihl (a ++ (charX x ++ (45 :: charX y))) (s ||| spanS x y) n (by simp only [List.length_append, List.length_cons] at hn ⊢; omega)
        simp only [List.length_append, List.append_assoc, List.length_cons, List.cons_append] at this
        simp only [List.length_append, List.length_cons]
        rw [show a.length + (charX x).length + 1 + (charX y).length = a.length + ((charX x).length + ((charX y).length + 1)) by omega, this, uniP_cons]
        simp only [BitVec.or_assoc, Nat.add_assoc]
theorem firstR_loop (l : List UInt8) (fr i : Nat) (h : hereB l i 93 = false) : firstR l fr i = loopR l fr (l.length + 2) 0 i := by
  rw [loopR, if_neg (by rw [h]; decide), firstR]
  cases itemR l fr i with
  | inl q => rfl
  | inr q => simp
theorem elems_nil {s : BSet} (h : elems s = []) : s = 0 := by rw [← ofL_elems s, h]; rfl
theorem elems_ones : (elems (~~~(0 : BSet))).length = 256 := by decide +kernel
theorem not_not_set (s : BSet) : ~~~(~~~s) = s := BitVec.not_not
/-- Of the set that a class is said of there is a byte. -/
theorem said_some (f : BSet) : elems (if turnedS f then ~~~f else f) ≠ [] := by
  intro h
  have h0 := elems_nil h
  unfold turnedS at h0
  by_cases e0 : (elems f).length = 0
  · rw [if_pos (by simp [e0])] at h0
    have := elems_nil (List.length_eq_zero_iff.1 e0)
    subst this
    have e := elems_ones
    rw [h0] at e
    revert e; decide +kernel
  · by_cases e1 : 128 < (elems f).length ∧ (elems f).length < 256
    · rw [if_pos (by simp [e1])] at h0
      have : f = ~~~(0 : BSet) := by rw [← h0, not_not_set]
      rw [this, elems_ones] at e1
      omega
    · rw [if_neg (by simp [e0]; omega)] at h0
      subst h0
      exact e0 (by decide +kernel)
/-- What is said of a set is read as that set, and to its end. -/
theorem readR_show (f : BSet) : readR (showS f) = .inr (f, (showS f).length) := by
  have hne := said_some f
  have hok := spans_elems (if turnedS f then ~~~f else f)
  have huni := uniP_elems (if turnedS f then ~~~f else f)
  rw [showS_cases]
  unfold piecesT
  generalize hu : (if turnedS f then ~~~f else f) = u at *
  have hl : spansL (elems u) ≠ [] := fun e => by
    rw [e] at huni
    apply hne
    rw [← huni]
    show elems (uniP []) = []
    decide +kernel
  generalize spansL (elems u) = l at *
  obtain ⟨⟨x, y⟩, l', rfl⟩ := List.exists_cons_of_ne_nil hl
  have hx := hok (x, y) (by simp)
  simp only at hx
  have hfirst : ∀ c : UInt8, c = 45 ∨ c = 93 ∨ c = 94 → hereB (((x, y) :: l').flatMap pieceT ++ [93]) 0 c = false := fun c hc => by
    rw [List.flatMap_cons, show pieceT (x, y) = charX x ++ (if x = y then [] else if x + 1 = y then charX y else 45 :: charX y) from rfl, List.append_assoc, List.append_assoc]
    exact charX_not _ (by omega) _ _ hc
  unfold readR
  cases ht : turnedS f with
  | true =>
    rw [ht] at hu
    simp only [if_true] at hu
    rw [show (if true = true then ([91, 94] : List UInt8) else [91]) = [91, 94] from rfl]
    have hb : hereB ([91, 94] ++ (((x, y) :: l').flatMap pieceT ++ [93])) 1 94 = true := by simp [hereB]
    have h0 : hereB ([91, 94] ++ (((x, y) :: l').flatMap pieceT ++ [93])) 0 91 = true := by simp [hereB]
    rw [if_pos h0, if_pos hb]
    have hs : hereB ([91, 94] ++ (((x, y) :: l').flatMap pieceT ++ [93])) 2 93 = false := (hereB_mid [91, 94] _ 0 93).trans (hfirst 93 (.inr (.inl rfl)))
    rw [firstR_loop _ _ _ hs]
    have := loopR_pieces 0 [] ((x, y) :: l') hok [91, 94] 0 (([91, 94] ++ (((x, y) :: l').flatMap pieceT ++ [93])).length + 2) (by simp only [List.length_append]; omega)
    change loopR _ 0 _ 0 2 = _ at this
    rw [this]
    dsimp only
    rw [if_pos hb, huni, ← hu]
    simp [Nat.add_comm, Nat.add_left_comm]
    omega
  | false =>
    rw [ht] at hu
    simp only [Bool.false_eq_true, if_false] at hu
    rw [show (if false = true then ([91, 94] : List UInt8) else [91]) = [91] from rfl]
    have hb : hereB ([91] ++ (((x, y) :: l').flatMap pieceT ++ [93])) 1 94 = false := (hereB_mid [91] _ 0 94).trans (hfirst 94 (.inr (.inr rfl)))
    have h0 : hereB ([91] ++ (((x, y) :: l').flatMap pieceT ++ [93])) 0 91 = true := by simp [hereB]
    rw [if_pos h0, if_neg (by rw [hb]; decide)]
    have hs : hereB ([91] ++ (((x, y) :: l').flatMap pieceT ++ [93])) 1 93 = false := (hereB_mid [91] _ 0 93).trans (hfirst 93 (.inr (.inl rfl)))
    rw [firstR_loop _ _ _ hs]
    have := loopR_pieces 0 [] ((x, y) :: l') hok [91] 0 (([91] ++ (((x, y) :: l').flatMap pieceT ++ [93])).length + 2) (by simp only [List.length_append]; omega)
    change loopR _ 0 _ 0 1 = _ at this
    rw [this]
    dsimp only
    rw [if_neg (by rw [hb]; decide), huni, hu]
    simp [Nat.add_comm, Nat.add_left_comm]
/-- No byte of a class's text is a blank, or ends a line. -/
theorem showS_bytes (f : BSet) : ∀ c ∈ showS f, 33 ≤ c.toNat := by
  have hp : ∀ u : BSet, ∀ c ∈ piecesT u, 33 ≤ c.toNat := fun u c hc => by
    unfold piecesT at hc
    obtain ⟨⟨x, y⟩, hp, hc⟩ := List.mem_flatMap.1 hc
    obtain ⟨h1, h2⟩ := spans_elems u _ hp
    simp only at h1 h2
    have ex := charX_head x (by omega); have ey := charX_head y h2
    simp only [Bool.and_eq_true, List.all_eq_true, decide_eq_true_eq] at ex ey
    unfold pieceT at hc
    simp only [List.mem_append] at hc
    rcases hc with hc | hc
    · exact ex.2.2.2.2 c hc
    · split at hc
      · simp at hc
      · split at hc
        · exact ey.2.2.2.2 c hc
        · rcases List.mem_cons.1 hc with rfl | hc
          · decide
          · exact ey.2.2.2.2 c hc
  intro c hc
  rw [showS_cases, List.mem_append, List.mem_append] at hc
  rcases hc with hc | hc | hc
  · split at hc
    · simp at hc; rcases hc with rfl | rfl <;> decide
    · simp at hc; subst hc; decide
  · exact hp _ c hc
  · simp at hc; subst hc; decide
end Go.Proofs.YtdhmekpgplajmaaGreatDoor
end
section
namespace Go.Proofs.YtdhmekpgplajmaaGreatDoor
open Go.RowKit
/-- A call that gives a value, and leaves the world as it was. -/
def RetSame (w : World) (v : Value) (e : Ending) (w' : World) : Prop := e = .returned v ∧ w' = w
theorem RetSame.ret {w : World} {v : Value} : ∀ e w', RetSame w v e w' → Ret w v e w' := fun _ _ ⟨h1, h2⟩ => ⟨h1, by rw [h2]; exact Below.refl _ _⟩
def digC (n : Nat) : Nat := if n < 10 then n + 48 else n + 87
theorem hexI_dig {n x : Nat} (hn : n < 16) (h : digC n = x) : hexI x = n := by
  unfold digC at h
  split at h
  · unfold hexI hexV digitN
    rw [if_pos (by simp; omega)]
    dsimp only
    omega
  · unfold hexI hexV digitN
    rw [if_neg (by simp; omega), if_pos (by omega)]
    dsimp only
    omega
theorem hexI_none {x : Nat} (h : ∀ n, n < 16 → digC n ≠ x) : hexI x = -1 := by
  unfold hexI hexV digitN
  by_cases h1 : 48 ≤ x ∧ x ≤ 57
  · exact absurd (show digC (x - 48) = x by unfold digC; rw [if_pos (by omega)]; omega) (h _ (by omega))
  · rw [if_neg (by simp; omega)]
    by_cases h2 : 97 ≤ x ∧ x ≤ 102
    · exact absurd (show digC (x - 87) = x by unfold digC; rw [if_neg (by omega)]; omega) (h _ (by omega))
    · rw [if_neg h2]
theorem lit_dig : ∀ (k : Nat) (h : k < 16), ((⟨#[48, 49, 50, 51, 52, 53, 54, 55, 56, 57, 97, 98, 99, 100, 101, 102]⟩ : ByteArray)[k]'h).toNat = digC k := by
  decide
set_option maxHeartbeats 400000 in
theorem ref03_Value (x : Nat) (w : World) : Calls Tryz.prog 119 #[.int .u8 x] w (RetSame w (.int .i64 (hexI x))) := by
  have HL := Lib.hid lit_dig
  go_enter Tryz.func119, Tryz.ntmps119
  go_wp2
  go_loopw [3] (fun i wr => ∃ k : Nat, k ≤ 16 ∧ i = .int .i64 k ∧ (∀ j, j < k → digC j ≠ x) ∧ wr = w) (fun i _ => 16 - (intOf i).toNat)
  case atStart => exact ⟨0, Nat.zero_le _, rfl, fun j h => absurd h (Nat.not_lt_zero _), rfl⟩
  case round =>
    obtain ⟨k, hk, rfl, ha, rfl⟩ := hrel
    by_cases hlt : k < 16
    · have hd := HL.out k hlt
      have hk3 : (k : Int) < 16 := by omega
      generalize hq : (⟨#[48, 49, 50, 51, 52, 53, 54, 55, 56, 57, 97, 98, 99, 100, 101, 102]⟩ : ByteArray)[k]'hlt = c at *
      have hq2 := fun h => (show (⟨#[48, 49, 50, 51, 52, 53, 54, 55, 56, 57, 97, 98, 99, 100, 101, 102]⟩ : ByteArray)[k]'h = c from hq)
      have HA := Lib.hid ha
      by_cases hm : c.toNat = x
      · have e1 : ((c.toNat : Int) == (x : Int)) = true := by rw [hm]; simp
        have HV := Lib.hid (hexI_dig (x := x) hlt (by rw [← hd]; exact hm))
        clear ha hm hd hq
        go_wp2
        go_ret
        exact ⟨by rw [HV.out]; rfl, rfl⟩
      · have e1 : ((c.toNat : Int) == (x : Int)) = false := by simp; omega
        have HD := Lib.hid hd
        have HM := Lib.hid hm
        clear ha hm hd hq
        go_wp2
        go_roundw
        case rel => exact ⟨k + 1, hlt, by go_num, fun j hj => by
          by_cases h2 : j = k
          · subst h2; rw [← HD.out]; exact HM.out
          · exact HA.out j (by omega), trivial⟩
        case measure => simp [intOf]; omega
    · obtain rfl : k = 16 := by omega
      have HV := Lib.hid (hexI_none ha)
      clear ha
      go_wp2
      go_ret
      exact ⟨by rw [HV.out]; rfl, rfl⟩
set_option maxHeartbeats 1600000 in
theorem ref04_word (x : Nat) (w : World) : Calls Tryz.prog 120 #[.int .u8 x] w (RetSame w (.bool (alnumN x))) := by
  have e : alnumN x = ((decide (48 ≤ (x : Int)) && decide ((x : Int) ≤ 57)) || ((decide (97 ≤ (x : Int)) && decide ((x : Int) ≤ 122)) || (decide (65 ≤ (x : Int)) && decide ((x : Int) ≤ 90)))) := by
    unfold alnumN digitN; rw [Bool.eq_iff_iff]; simp; omega
  rw [e]
  clear e
  generalize h1 : decide (48 ≤ (x : Int)) = b1
  generalize h2 : decide ((x : Int) ≤ 57) = b2
  generalize h3 : decide (97 ≤ (x : Int)) = b3
  generalize h4 : decide ((x : Int) ≤ 122) = b4
  generalize h5 : decide (65 ≤ (x : Int)) = b5
  generalize h6 : decide ((x : Int) ≤ 90) = b6
  cases b1 <;> cases b2 <;> cases b3 <;> cases b4 <;> cases b5
  all_goals
    go_enter Tryz.func120, Tryz.ntmps120
    go_wp2
    go_ret
    exact ⟨by simp, rfl⟩
theorem hereB_in {l : List UInt8} {i : Nat} (c : UInt8) (h : i < l.length) : hereB l i c = ((l[i].toNat : Int) == (c.toNat : Int)) := by
  unfold hereB
  rw [← u8_beq]
  simp [h]
theorem hereB_out {l : List UInt8} {i : Nat} (c : UInt8) (h : l.length ≤ i) : hereB l i c = false := by
  unfold hereB
  simp [Nat.not_lt.2 h]
set_option maxHeartbeats 400000 in
theorem ref04_has (g n cap i : Nat) (l : List UInt8) (c : UInt8) (w : World) (h : SliceR w (.slice (some ⟨g, 0, none⟩) n cap) 1 encU l) :
    Calls Tryz.prog 76 #[.slice (some ⟨g, 0, none⟩) n cap, .int .i64 i, .int .u8 c.toNat] w (RetSame w (.bool (hereB l i c))) := by
  obtain ⟨hlen, hcap, hcap', hcell⟩ := h.cellsA
  have hi0 : decide (0 ≤ (i : Int)) = true := by simp
  have hi1 : (0 : Int) ≤ (i : Int) := by omega
  by_cases h1 : i < n
  · have e1 : decide ((i : Int) < (n : Int)) = true := by simp; omega
    have hi2 : (i : Int) < (n : Int) := by omega
    have hk : i < l.length := by omega
    have c0 := hcell i hk w (Below.refl _ _)
    rw [hereB_in c hk]
    rw [Nat.zero_add] at c0
    generalize l[i] = x at *
    clear hcell h hlen hcap h1 hk
    go_enter Tryz.func76, Tryz.ntmps76
    go_wp2
    go_ret
    exact ⟨rfl, rfl⟩
  · have e1 : decide ((i : Int) < (n : Int)) = false := by simp; omega
    rw [hereB_out c (by omega)]
    clear hcell h hlen hcap
    go_enter Tryz.func76, Tryz.ntmps76
    go_wp2
    go_ret
    exact ⟨rfl, rfl⟩

theorem ref04_bad (k p : Nat) (w : World) : Calls Tryz.prog 77 #[.int .i64 k, .int .i64 p] w (Ret w (.agg #[.int .i64 k, .int .i64 p])) := by
  go_enter Tryz.func77, Tryz.ntmps77
  go_wp2
  exact ret_box Tryz.results77 rfl (Box.new w #[.int .i64 k, .int .i64 p] 80) Tryz.underlying80 rfl (by kernel_rfl) rfl ⟨rfl, later_alloc _ _⟩
end Go.Proofs.YtdhmekpgplajmaaGreatDoor
end
section
namespace Go.Proofs.YtdhmekpgplajmaaGreatDoor
open Go.RowKit
set_option maxRecDepth 20000
/-- Three results: in two slots, and in a block. -/
theorem ret_tmp2_box {P : Program} {fn : Func} {R : Ending → World → Prop} {a : Act} {w : World} {p u q : Tmp} {ty b E : Nat} {cs : Array Value} {d : TypeDesc} {v v2 : Value}
    (hr : fn.results = #[.tmp p, .tmp u, .cell q ty]) (hp : a.tmps.getD p undef = v) (hv : a.tmps.getD u undef = v2) (hq : a.tmps.getD q undef = .pointer (some ⟨b, 0, none⟩)) (hb : Box w b cs E)
    (hu : P.underlying ty = some d) (hd : (match d with | .struct _ | .array _ _ => true | _ => false) = true) (hi : (P.info? ty).map (·.size) = some cs.size)
    (hdf : a.defers = []) (hR : R (.returned (.tuple #[v, v2, .agg cs])) w) : bodyPost P fn R .ret a w :=
  ⟨hdf, _, by
    have hp' : a.tmps[p]?.getD undef = v := by simpa using hp
    have hv' : a.tmps[u]?.getD undef = v2 := by simpa using hv
    have hq' : a.tmps[q]?.getD undef = .pointer (some ⟨b, 0, none⟩) := by simpa using hq
    simp [results, hr, hp', hv', hq', asAddr, run_loadVar_row w b E ty cs (0, 0) d hb hu hd hi], hR⟩
def retE : Sum (Nat × Nat) (Nat × Nat) → Value
  | .inl (kd, ps) => .tuple #[.int .u8 (0 : Nat), .int .i64 (0 : Nat), badV kd ps]
  | .inr (c, j) => .tuple #[.int .u8 c, .int .i64 j, badV 0 0]
/-- A result's block, and what lies under it. -/
theorem bad_end {w W : World} {c : Array Value} (hx : Box W w.heap.size c 80) (h2 : c.size = 2) (hB : Below w.heap.size w W) (k p : Nat) :
    Box ((W.setCell ⟨w.heap.size, 0, none⟩ (.int .i64 k)).setCell ⟨w.heap.size, 1, none⟩ (.int .i64 p)) w.heap.size #[.int .i64 k, .int .i64 p] 80 ∧ Below w.heap.size w ((W.setCell ⟨w.heap.size, 0, none⟩ (.int .i64 k)).setCell ⟨w.heap.size, 1, none⟩ (.int .i64 p)) := by
  refine ⟨?_, (hB.setCell (p := ⟨w.heap.size, 0, none⟩) (Nat.le_refl _) _).setCell (p := ⟨w.heap.size, 1, none⟩) (Nat.le_refl _) _⟩
  have := (hx.set 0 (.int .i64 k)).set 1 (.int .i64 p)
  obtain ⟨l⟩ := c
  match l, h2 with
  | [a, b], _ => exact this
theorem hereB_is {l : List UInt8} {i : Nat} {k : UInt8} {m : Nat} (h : i < l.length) (hm : k.toNat = m) : hereB l i k = decide (l[i].toNat = m) := by
  rw [hereB_in k h, hm, Bool.eq_iff_iff]; simp; omega
set_option maxHeartbeats 3200000 in
theorem ref04_Escape (g n cap i : Nat) (l : List UInt8) (w : World) (h : SliceR w (.slice (some ⟨g, 0, none⟩) n cap) 1 encU l) (hi : hereB l i 92 = true) (hl6 : l.length ≤ 4611686018427387904) :
    Calls Tryz.prog 101 #[.slice (some ⟨g, 0, none⟩) n cap, .int .i64 i] w (Ret w (retE (escR l i))) := by
  obtain ⟨hlen, hcap, hcap', hcell⟩ := h.cellsA
  have hin := hereB_lt hi
  have hnb : n ≤ 9223372036854775807 := by omega
  have hx := Box.new w #[.int .i64 0, .int .i64 0] 80
  have hB := later_alloc w (.cells #[.int .i64 0, .int .i64 0] 80)
  have hH := fun (j : Nat) (c : UInt8) w1 (hb : Below w.heap.size w w1) => ref04_has g n cap j l c w1 (h.kept hb)
  have hC := fun (j : Nat) (hj : j < l.length) w1 (hb : Below w.heap.size w w1) => by have := hcell j hj w1 hb; rw [Nat.zero_add] at this; exact this
  have h92 : ∀ w1, Below w.heap.size w w1 → Calls Tryz.prog 76 #[.slice (some ⟨g, 0, none⟩) n cap, .int .i64 i, .int .u8 92] w1 (RetSame w1 (.bool true)) := fun w1 hb => by have := hH i 92 w1 hb; rwa [hi] at this
  have hn : ∀ w1, Below w.heap.size w w1 → Calls Tryz.prog 76 #[.slice (some ⟨g, 0, none⟩) n cap, .int .i64 ((i + 1 : Nat) : Int), .int .u8 110] w1 (RetSame w1 (.bool (hereB l (i + 1) 110))) := fun w1 hb => hH (i + 1) 110 w1 hb
  have ht : ∀ w1, Below w.heap.size w w1 → Calls Tryz.prog 76 #[.slice (some ⟨g, 0, none⟩) n cap, .int .i64 ((i + 1 : Nat) : Int), .int .u8 116] w1 (RetSame w1 (.bool (hereB l (i + 1) 116))) := fun w1 hb => hH (i + 1) 116 w1 hb
  have hr : ∀ w1, Below w.heap.size w w1 → Calls Tryz.prog 76 #[.slice (some ⟨g, 0, none⟩) n cap, .int .i64 ((i + 1 : Nat) : Int), .int .u8 114] w1 (RetSame w1 (.bool (hereB l (i + 1) 114))) := fun w1 hb => hH (i + 1) 114 w1 hb
  have hxx : ∀ w1, Below w.heap.size w w1 → Calls Tryz.prog 76 #[.slice (some ⟨g, 0, none⟩) n cap, .int .i64 ((i + 1 : Nat) : Int), .int .u8 120] w1 (RetSame w1 (.bool (hereB l (i + 1) 120))) := fun w1 hb => hH (i + 1) 120 w1 hb
  have hw1 : IntKind.i64.wrap ((i : Int) + 1) = ((i + 1 : Nat) : Int) := by rw [IntWalk.i64_in _ (by omega)]; omega
  have H92 := Lib.hid h92
  have HBAD := Lib.hid (fun p w => ref04_bad 14 p w)
  unfold escR
  by_cases h0 : l.length ≤ i + 1
  · rw [if_pos h0]
    rw [hereB_out 110 h0] at hn
    rw [hereB_out 116 h0] at ht
    rw [hereB_out 114 h0] at hr
    rw [hereB_out 120 h0] at hxx
    have e0 : decide ((n : Int) ≤ ((i + 1 : Nat) : Int)) = true := by simp; omega
    have e0' : n ≤ i + 1 := by omega
    have HN := Lib.hid hn
    have HT := Lib.hid ht
    have HR := Lib.hid hr
    have HX := Lib.hid hxx
    clear h92 hn ht hr hxx hH hC hcell h hcap hi hin hlen hl6
    go_enter Tryz.func101, Tryz.ntmps101
    go_wp2_with fail
    refine (H92.out _ hB).mono ?_
    rintro e w2 ⟨rfl, rfl⟩
    go_wp2_with fail
    refine (HN.out _ hB).mono ?_
    rintro e w2 ⟨rfl, rfl⟩
    go_wp2_with fail
    refine (HT.out _ hB).mono ?_
    rintro e w2 ⟨rfl, rfl⟩
    go_wp2_with fail
    refine (HR.out _ hB).mono ?_
    rintro e w2 ⟨rfl, rfl⟩
    go_wp2_with fail
    refine (HX.out _ hB).mono ?_
    rintro e w2 ⟨rfl, rfl⟩
    go_wp2_with (go_at_call 77; go_must (refine (HBAD.out i _).mono ?_; rintro e w3 ⟨rfl, hB3⟩; have hx3 := hx.kept hB3; have u0 := hx3.free 0; have u1 := hx3.free 1; have u2 := hx3.cell 0; have u3 := hx3.cell 1))
    obtain ⟨z1, z2⟩ := bad_end hx3 (by rfl) (hB.trans (hB3.mono hB.size)) 14 i
    exact ret_tmp2_box Tryz.results101 rfl rfl rfl z1 Tryz.underlying80 rfl (by kernel_rfl) (by rfl) ⟨by rfl, z2⟩
  · rw [if_neg h0]
    have hk : i + 1 < l.length := by omega
    have hgd : l.getD (i + 1) 0 = l[i + 1] := by simp [List.getD_eq_getElem?_getD, hk]
    rw [hereB_is hk (m := 110) rfl] at hn
    rw [hereB_is hk (m := 116) rfl] at ht
    rw [hereB_is hk (m := 114) rfl] at hr
    rw [hereB_is hk (m := 120) rfl] at hxx
    rw [hgd]
    have c0 := hC (i + 1) hk
    have f0 := hx.free 0
    have f1 := hx.free 1
    have hw2 : IntKind.i64.wrap ((i : Int) + 2) = ((i + 2 : Nat) : Int) := by rw [IntWalk.i64_in _ (by omega)]; omega
    have hw3 : IntKind.i64.wrap ((i : Int) + 3) = ((i + 3 : Nat) : Int) := by rw [IntWalk.i64_in _ (by omega)]; omega
    have hw4 : n = l.length → i + 4 ≤ l.length → IntKind.i64.wrap ((i : Int) + 4) = ((i + 4 : Nat) : Int) := fun _ _ => by rw [IntWalk.i64_in _ (by omega)]; omega
    generalize l[i + 1] = c at *
    clear hgd
    by_cases k110 : c.toNat = 110
    · rw [if_pos k110]
      rw [decide_eq_true k110] at hn
      have HN := Lib.hid hn
      clear hn hlen hk
      clear h92 hH hC hcell h hcap hi hin hw4 hl6
      go_enter Tryz.func101, Tryz.ntmps101
      go_wp2_with fail
      refine (H92.out _ hB).mono ?_
      rintro e w2 ⟨rfl, rfl⟩
      go_wp2_with fail
      refine (HN.out _ hB).mono ?_
      rintro e w2 ⟨rfl, rfl⟩
      go_wp2
      exact ret_tmp2_box Tryz.results101 rfl rfl rfl hx Tryz.underlying80 rfl (by kernel_rfl) (by rfl) ⟨by rfl, hB⟩
    · rw [if_neg k110]
      rw [decide_eq_false k110] at hn
      have HN := Lib.hid hn
      clear hn
      by_cases k116 : c.toNat = 116
      · rw [if_pos k116]
        rw [decide_eq_true k116] at ht
        have HT := Lib.hid ht
        clear ht hlen hk
        clear h92 hH hC hcell h hcap hi hin hw4 hl6
        go_enter Tryz.func101, Tryz.ntmps101
        go_wp2_with fail
        refine (H92.out _ hB).mono ?_
        rintro e w2 ⟨rfl, rfl⟩
        go_wp2_with fail
        refine (HN.out _ hB).mono ?_
        rintro e w2 ⟨rfl, rfl⟩
        go_wp2_with fail
        refine (HT.out _ hB).mono ?_
        rintro e w2 ⟨rfl, rfl⟩
        go_wp2
        exact ret_tmp2_box Tryz.results101 rfl rfl rfl hx Tryz.underlying80 rfl (by kernel_rfl) (by rfl) ⟨by rfl, hB⟩
      · rw [if_neg k116]
        rw [decide_eq_false k116] at ht
        have HT := Lib.hid ht
        clear ht
        by_cases k114 : c.toNat = 114
        · rw [if_pos k114]
          rw [decide_eq_true k114] at hr
          have HR := Lib.hid hr
          clear hr hlen hk
          clear h92 hH hC hcell h hcap hi hin hw4 hl6
          go_enter Tryz.func101, Tryz.ntmps101
          go_wp2_with fail
          refine (H92.out _ hB).mono ?_
          rintro e w2 ⟨rfl, rfl⟩
          go_wp2_with fail
          refine (HN.out _ hB).mono ?_
          rintro e w2 ⟨rfl, rfl⟩
          go_wp2_with fail
          refine (HT.out _ hB).mono ?_
          rintro e w2 ⟨rfl, rfl⟩
          go_wp2_with fail
          refine (HR.out _ hB).mono ?_
          rintro e w2 ⟨rfl, rfl⟩
          go_wp2
          exact ret_tmp2_box Tryz.results101 rfl rfl rfl hx Tryz.underlying80 rfl (by kernel_rfl) (by rfl) ⟨by rfl, hB⟩
        · rw [if_neg k114]
          rw [decide_eq_false k114] at hr
          have HR := Lib.hid hr
          clear hr
          by_cases k120 : c.toNat = 120
          · rw [if_pos k120]
            rw [decide_eq_true k120] at hxx
            have HX := Lib.hid hxx
            clear hxx
            by_cases h4 : i + 4 ≤ l.length
            · rw [if_pos h4]
              have hk2 : i + 2 < l.length := by omega
              have hk3 : i + 3 < l.length := by omega
              have hg2 : l.getD (i + 2) 0 = l[i + 2] := by simp [List.getD_eq_getElem?_getD, hk2]
              have hg3 : l.getD (i + 3) 0 = l[i + 3] := by simp [List.getD_eq_getElem?_getD, hk3]
              have c2 := hC (i + 2) hk2
              have c3 := hC (i + 3) hk3
              rw [hg2, hg3]
              have hw4 := hw4 hlen h4
              generalize l[i + 2] = d2 at *
              generalize l[i + 3] = d3 at *
              have e3 : decide ((n : Int) ≤ ((i + 3 : Nat) : Int)) = false := by simp; omega
              have e3' : ¬ n ≤ i + 3 := by omega
              have b2 : (0 : Int) ≤ ((i + 2 : Nat) : Int) := by omega
              have b3 : (0 : Int) ≤ ((i + 3 : Nat) : Int) := by omega
              have b4 : ((i + 2 : Nat) : Int) < (n : Int) := by omega
              have b5 : ((i + 3 : Nat) : Int) < (n : Int) := by omega
              have b6 : (i : Int) + 2 < (n : Int) := by omega
              have b7 : (i : Int) + 3 < (n : Int) := by omega
              have b10 : ((i : Int) + 2).toNat = i + 2 := by omega
              have b11 : ((i : Int) + 3).toNat = i + 3 := by omega
              have b8 : (0 : Int) ≤ (i : Int) + 2 := by omega
              have b9 : (0 : Int) ≤ (i : Int) + 3 := by omega
              have hv2 := fun w => ref03_Value d2.toNat w
              have hv3 := fun w => ref03_Value d3.toNat w
              have p2 := c2 _ hB
              have p3 := c3 _ hB
              have C2 := Lib.hid c2
              have C3 := Lib.hid c3
              have q2 := hexI_or d2.toNat
              have q3 := hexI_or d3.toNat
              clear hg2 hg3 c2 c3 hk2 hk3 h4 hlen hk h0 c0 h92 hH hC hcell h hcap hi hin hl6
              rcases q2 with ⟨q2, r2⟩ | ⟨x, q2, r2, x16⟩
              · rw [r2]
                rw [q2] at hv2
                have HV2 := Lib.hid hv2
                clear hv2 hv3 q3
                go_enter Tryz.func101, Tryz.ntmps101
                go_wp2_with fail
                refine (H92.out _ hB).mono ?_
                rintro e w2 ⟨rfl, rfl⟩
                go_wp2_with fail
                refine (HN.out _ hB).mono ?_
                rintro e w2 ⟨rfl, rfl⟩
                go_wp2_with fail
                refine (HT.out _ hB).mono ?_
                rintro e w2 ⟨rfl, rfl⟩
                go_wp2_with fail
                refine (HR.out _ hB).mono ?_
                rintro e w2 ⟨rfl, rfl⟩
                go_wp2_with fail
                refine (HX.out _ hB).mono ?_
                rintro e w2 ⟨rfl, rfl⟩
                go_wp2_with fail
                refine (HV2.out _).mono ?_
                rintro e w2 ⟨rfl, rfl⟩
                go_wp2_with (go_at_call 77; go_must (refine (HBAD.out i _).mono ?_; rintro e w3 ⟨rfl, hB3⟩; have hx3 := hx.kept hB3; have u0 := hx3.free 0; have u1 := hx3.free 1; have u2 := hx3.cell 0; have u3 := hx3.cell 1))
                obtain ⟨z1, z2⟩ := bad_end hx3 (by rfl) (hB.trans (hB3.mono hB.size)) 14 i
                exact ret_tmp2_box Tryz.results101 rfl rfl rfl z1 Tryz.underlying80 rfl (by kernel_rfl) (by rfl) ⟨by rfl, z2⟩
              · rw [r2]
                rw [q2] at hv2
                have HV2 := Lib.hid hv2
                have g2 : decide ((x : Int) < 0) = false := by simp
                clear hv2
                rcases q3 with ⟨q3, r3⟩ | ⟨y, q3, r3, y16⟩
                · rw [r3]
                  rw [q3] at hv3
                  have HV3 := Lib.hid hv3
                  clear hv3
                  go_enter Tryz.func101, Tryz.ntmps101
                  go_wp2_with fail
                  refine (H92.out _ hB).mono ?_
                  rintro e w2 ⟨rfl, rfl⟩
                  go_wp2_with fail
                  refine (HN.out _ hB).mono ?_
                  rintro e w2 ⟨rfl, rfl⟩
                  go_wp2_with fail
                  refine (HT.out _ hB).mono ?_
                  rintro e w2 ⟨rfl, rfl⟩
                  go_wp2_with fail
                  refine (HR.out _ hB).mono ?_
                  rintro e w2 ⟨rfl, rfl⟩
                  go_wp2_with fail
                  refine (HX.out _ hB).mono ?_
                  rintro e w2 ⟨rfl, rfl⟩
                  go_wp2_with fail
                  refine (HV2.out _).mono ?_
                  rintro e w2 ⟨rfl, rfl⟩
                  go_wp2_with fail
                  refine (HV3.out _).mono ?_
                  rintro e w2 ⟨rfl, rfl⟩
                  go_wp2_with (go_at_call 77; go_must (refine (HBAD.out i _).mono ?_; rintro e w3 ⟨rfl, hB3⟩; have hx3 := hx.kept hB3; have u0 := hx3.free 0; have u1 := hx3.free 1; have u2 := hx3.cell 0; have u3 := hx3.cell 1))
                  obtain ⟨z1, z2⟩ := bad_end hx3 (by rfl) (hB.trans (hB3.mono hB.size)) 14 i
                  exact ret_tmp2_box Tryz.results101 rfl rfl rfl z1 Tryz.underlying80 rfl (by kernel_rfl) (by rfl) ⟨by rfl, z2⟩
                · rw [r3]
                  rw [q3] at hv3
                  have HV3 := Lib.hid hv3
                  have g3 : decide ((y : Int) < 0) = false := by simp
                  have v1 : IntKind.i64.wrap (16 * (x : Int)) = ((16 * x : Nat) : Int) := by rw [IntWalk.i64_in _ (by omega)]; omega
                  have v2 : IntKind.i64.wrap (((16 * x : Nat) : Int) + (y : Int)) = ((16 * x + y : Nat) : Int) := by rw [IntWalk.i64_in _ (by omega)]; omega
                  have v3 : IntKind.u8.wrap ((16 * x + y : Nat) : Int) = ((16 * x + y : Nat) : Int) := by rw [IntKind.wrap_u8']; omega
                  dsimp only
                  generalize 16 * x + y = z at *
                  generalize 16 * x = z1 at *
                  clear hv3
                  go_enter Tryz.func101, Tryz.ntmps101
                  go_wp2_with fail
                  refine (H92.out _ hB).mono ?_
                  rintro e w2 ⟨rfl, rfl⟩
                  go_wp2_with fail
                  refine (HN.out _ hB).mono ?_
                  rintro e w2 ⟨rfl, rfl⟩
                  go_wp2_with fail
                  refine (HT.out _ hB).mono ?_
                  rintro e w2 ⟨rfl, rfl⟩
                  go_wp2_with fail
                  refine (HR.out _ hB).mono ?_
                  rintro e w2 ⟨rfl, rfl⟩
                  go_wp2_with fail
                  refine (HX.out _ hB).mono ?_
                  rintro e w2 ⟨rfl, rfl⟩
                  go_wp2_with fail
                  refine (HV2.out _).mono ?_
                  rintro e w2 ⟨rfl, rfl⟩
                  go_wp2_with fail
                  refine (HV3.out _).mono ?_
                  rintro e w2 ⟨rfl, rfl⟩
                  go_wp2_with fail
                  have HF : Hid (∀ v, Later (w.alloc (.cells #[.int .i64 0, .int .i64 0] 80)).drew v → Below w.heap.size w v ∧ Box v w.heap.size #[.int .i64 0, .int .i64 0] 80) := Lib.hid fun v hl => ⟨hB.drew.trans (Below.mono hl hB.size), hx.drew.kept hl⟩
                  refine wp_region_M (R := Later) 20 (by kernel_rfl) ?_
                  refine tkM 0 ?_ rfl (fun w1 hl => ?_) ?_
                  rotate_left
                  · have p2 := C2.out w1 (HF.out w1 hl).1; have p3 := C3.out w1 (HF.out w1 hl).1; go_simp; try with_reducible rfl
                  simp only [eA, eB, Act.put, eD, eE, eF]
                  refine tkM 1 ?_ rfl (fun w1 hl => ?_) ?_
                  rotate_left
                  · have p2 := C2.out w1 (HF.out w1 hl).1; have p3 := C3.out w1 (HF.out w1 hl).1; go_simp; try with_reducible rfl
                  simp only [eA, eB, eC, Act.put, eD, eE, eF]
                  refine tkM 2 ?_ rfl (fun w1 hl => ?_) ?_
                  rotate_left
                  · have p2 := C2.out w1 (HF.out w1 hl).1; have p3 := C3.out w1 (HF.out w1 hl).1; go_simp; try with_reducible rfl
                  simp only [eA, eB, eC, Act.put, eD, eE, eF]
                  refine tkM 3 ?_ rfl (fun w1 hl => ?_) ?_
                  rotate_left
                  · have p2 := C2.out w1 (HF.out w1 hl).1; have p3 := C3.out w1 (HF.out w1 hl).1; go_simp; try with_reducible rfl
                  simp only [eA, eB, eC, Act.put, eD, eE, eF]
                  refine tkM 4 ?_ rfl (fun w1 hl => ?_) ?_
                  rotate_left
                  · have p2 := C2.out w1 (HF.out w1 hl).1; have p3 := C3.out w1 (HF.out w1 hl).1; go_simp; try with_reducible rfl
                  simp only [eA, eB, eC, Act.put, eD, eE, eF]
                  refine tkM 7 ?_ rfl (fun w1 hl => ?_) ?_
                  rotate_left
                  · have p2 := C2.out w1 (HF.out w1 hl).1; have p3 := C3.out w1 (HF.out w1 hl).1; go_simp; try with_reducible rfl
                  simp only [eA, eB, eC, Act.put, eD, eE, eF]
                  refine tkM 8 ?_ rfl (fun w1 hl => ?_) ?_
                  rotate_left
                  · have p2 := C2.out w1 (HF.out w1 hl).1; have p3 := C3.out w1 (HF.out w1 hl).1; go_simp; try with_reducible rfl
                  simp only [eA, eB, eC, Act.put, eD, eE, eF]
                  refine tkM 9 ?_ rfl (fun w1 hl => ?_) ?_
                  rotate_left
                  · have p2 := C2.out w1 (HF.out w1 hl).1; have p3 := C3.out w1 (HF.out w1 hl).1; go_simp; try with_reducible rfl
                  simp only [eA, eB, eC, Act.put, eD, eE, eF]
                  refine tkM 10 ?_ rfl (fun w1 hl => ?_) ?_
                  rotate_left
                  · have p2 := C2.out w1 (HF.out w1 hl).1; have p3 := C3.out w1 (HF.out w1 hl).1; go_simp; try with_reducible rfl
                  simp only [eA, eB, eC, Act.put, eD, eE, eF]
                  refine tkM 11 ?_ rfl (fun w1 hl => ?_) ?_
                  rotate_left
                  · have p2 := C2.out w1 (HF.out w1 hl).1; have p3 := C3.out w1 (HF.out w1 hl).1; go_simp; try with_reducible rfl
                  simp only [eA, eB, eC, Act.put, eD, eE, eF]
                  refine tkM 15 ?_ rfl (fun w1 hl => ?_) ?_
                  rotate_left
                  · have p2 := C2.out w1 (HF.out w1 hl).1; have p3 := C3.out w1 (HF.out w1 hl).1; go_simp; try with_reducible rfl
                  simp only [eA, eB, eC, Act.put, eD, eE, eF]
                  refine tkM 16 ?_ rfl (fun w1 hl => ?_) ?_
                  rotate_left
                  · have p2 := C2.out w1 (HF.out w1 hl).1; have p3 := C3.out w1 (HF.out w1 hl).1; go_simp; try with_reducible rfl
                  simp only [eA, eB, eC, Act.put, eD, eE, eF]
                  refine tkM 17 ?_ rfl (fun w1 hl => ?_) ?_
                  rotate_left
                  · have p2 := C2.out w1 (HF.out w1 hl).1; have p3 := C3.out w1 (HF.out w1 hl).1; go_simp; try with_reducible rfl
                  simp only [eA, eB, eC, Act.put, eD, eE, eF]
                  refine wpM_call (t := 20) (i := 5) (f := ?_) (args := ?_) (v := ?_) rfl (by kernel_rfl) (by kernel_rfl) (by kernel_rfl) (by kernel_rfl) (fun _ _ _ h => h) (by rfl) (fun w1 => ?_) (fun w1 hl => ?_) ?_
                  rotate_left 4
                  · exact (HV2.out w1).mono RetSame.ret
                  rotate_left
                  · go_simp
                  simp only [eA, eB, eC, Act.put, eD, eE, eF]
                  refine tkM 6 ?_ rfl (fun w1 hl => ?_) ?_
                  rotate_left
                  · skip; go_simp; try with_reducible rfl
                  simp only [eA, eB, eC, Act.put, eD, eE, eF]
                  refine wpM_call (t := 20) (i := 12) (f := ?_) (args := ?_) (v := ?_) rfl (by kernel_rfl) (by kernel_rfl) (by kernel_rfl) (by kernel_rfl) (fun _ _ _ h => h) (by rfl) (fun w1 => ?_) (fun w1 hl => ?_) ?_
                  rotate_left 4
                  · exact (HV3.out w1).mono RetSame.ret
                  rotate_left
                  · go_simp
                  simp only [eA, eB, eC, Act.put, eD, eE, eF]
                  refine tkM 13 ?_ rfl (fun w1 hl => ?_) ?_
                  rotate_left
                  · skip; go_simp; try with_reducible rfl
                  simp only [eA, eB, eC, Act.put, eD, eE, eF]
                  refine tkM 14 ?_ rfl (fun w1 hl => ?_) ?_
                  rotate_left
                  · skip; go_simp; try with_reducible rfl
                  simp only [eA, eB, eC, Act.put, eD, eE, eF]
                  refine tkM 18 ?_ rfl (fun w1 hl => ?_) ?_
                  rotate_left
                  · skip; go_simp; try with_reducible rfl
                  simp only [eA, eB, eC, Act.put, eD, eE, eF]
                  refine tkM 19 ?_ rfl (fun w1 hl => ?_) ?_
                  rotate_left
                  · skip; go_simp; try with_reducible rfl
                  simp only [eA, eB, eC, Act.put, eD, eE, eF]
                  refine wpM_one (t := 20) (i := 20) (by kernel_rfl) rfl (fun w1 hl K hK => ?_)
                  obtain ⟨hB5, hx5⟩ := HF.out w1 hl
                  have g0 := hx5.free 0
                  have g1 := hx5.free 1
                  have g4 := hx5.cell 0
                  have g5 := hx5.cell 1
                  obtain ⟨z1, z2⟩ := bad_end hx5 (by rfl) hB5 0 0
                  go_simp
                  refine hK.out _ _ (fun h => absurd rfl h) ?_
                  clear hK K
                  refine wpM_done (by kernel_rfl) (fun w1 hl => ?_) _
                  have z3 := z1.kept hl
                  have z4 := z2.trans (Below.mono hl z2.size)
                  go_wp2
                  exact ret_tmp2_box Tryz.results101 rfl rfl rfl z3 Tryz.underlying80 rfl (by kernel_rfl) (by rfl) ⟨by rfl, z4⟩
            · rw [if_neg h4]
              have e3 : decide ((n : Int) ≤ ((i + 3 : Nat) : Int)) = true := by simp; omega
              have e3' : n ≤ i + 3 := by omega
              clear hlen hk h4
              clear h92 hH hC hcell h hcap hi hin hw4 hl6
              go_enter Tryz.func101, Tryz.ntmps101
              go_wp2_with fail
              refine (H92.out _ hB).mono ?_
              rintro e w2 ⟨rfl, rfl⟩
              go_wp2_with fail
              refine (HN.out _ hB).mono ?_
              rintro e w2 ⟨rfl, rfl⟩
              go_wp2_with fail
              refine (HT.out _ hB).mono ?_
              rintro e w2 ⟨rfl, rfl⟩
              go_wp2_with fail
              refine (HR.out _ hB).mono ?_
              rintro e w2 ⟨rfl, rfl⟩
              go_wp2_with fail
              refine (HX.out _ hB).mono ?_
              rintro e w2 ⟨rfl, rfl⟩
              go_wp2_with (go_at_call 77; go_must (refine (HBAD.out i _).mono ?_; rintro e w3 ⟨rfl, hB3⟩; have hx3 := hx.kept hB3; have u0 := hx3.free 0; have u1 := hx3.free 1; have u2 := hx3.cell 0; have u3 := hx3.cell 1))
              obtain ⟨z1, z2⟩ := bad_end hx3 (by rfl) (hB.trans (hB3.mono hB.size)) 14 i
              exact ret_tmp2_box Tryz.results101 rfl rfl rfl z1 Tryz.underlying80 rfl (by kernel_rfl) (by rfl) ⟨by rfl, z2⟩
          · rw [if_neg k120]
            rw [decide_eq_false k120] at hxx
            have HX := Lib.hid hxx
            have e0 : decide ((n : Int) ≤ ((i + 1 : Nat) : Int)) = false := by simp; omega
            have e0' : ¬ n ≤ i + 1 := by omega
            have b1 : (i : Int) + 1 < (n : Int) := by omega
            have b2 : (0 : Int) ≤ (i : Int) + 1 := by omega
            have p0 := c0 _ hB
            clear hxx c0 hlen hk h0
            clear h92 hH hC hcell h hcap hi hin hw4 hl6
            by_cases s1 : c.toNat < 33
            · rw [if_pos (.inl s1)]
              have g1 : decide ((c.toNat : Int) < 33) = true := by simp; omega
              go_enter Tryz.func101, Tryz.ntmps101
              go_wp2_with fail
              refine (H92.out _ hB).mono ?_
              rintro e w2 ⟨rfl, rfl⟩
              go_wp2_with fail
              refine (HN.out _ hB).mono ?_
              rintro e w2 ⟨rfl, rfl⟩
              go_wp2_with fail
              refine (HT.out _ hB).mono ?_
              rintro e w2 ⟨rfl, rfl⟩
              go_wp2_with fail
              refine (HR.out _ hB).mono ?_
              rintro e w2 ⟨rfl, rfl⟩
              go_wp2_with fail
              refine (HX.out _ hB).mono ?_
              rintro e w2 ⟨rfl, rfl⟩
              go_wp2_with (go_at_call 77; go_must (refine (HBAD.out i _).mono ?_; rintro e w3 ⟨rfl, hB3⟩; have hx3 := hx.kept hB3; have u0 := hx3.free 0; have u1 := hx3.free 1; have u2 := hx3.cell 0; have u3 := hx3.cell 1))
              obtain ⟨z1, z2⟩ := bad_end hx3 (by rfl) (hB.trans (hB3.mono hB.size)) 14 i
              exact ret_tmp2_box Tryz.results101 rfl rfl rfl z1 Tryz.underlying80 rfl (by kernel_rfl) (by rfl) ⟨by rfl, z2⟩
            · have g1 : decide ((c.toNat : Int) < 33) = false := by simp; omega
              by_cases s2 : 126 < c.toNat
              · rw [if_pos (.inr (.inl s2))]
                have g2 : decide (126 < (c.toNat : Int)) = true := by simp; omega
                go_enter Tryz.func101, Tryz.ntmps101
                go_wp2_with fail
                refine (H92.out _ hB).mono ?_
                rintro e w2 ⟨rfl, rfl⟩
                go_wp2_with fail
                refine (HN.out _ hB).mono ?_
                rintro e w2 ⟨rfl, rfl⟩
                go_wp2_with fail
                refine (HT.out _ hB).mono ?_
                rintro e w2 ⟨rfl, rfl⟩
                go_wp2_with fail
                refine (HR.out _ hB).mono ?_
                rintro e w2 ⟨rfl, rfl⟩
                go_wp2_with fail
                refine (HX.out _ hB).mono ?_
                rintro e w2 ⟨rfl, rfl⟩
                go_wp2_with (go_at_call 77; go_must (refine (HBAD.out i _).mono ?_; rintro e w3 ⟨rfl, hB3⟩; have hx3 := hx.kept hB3; have u0 := hx3.free 0; have u1 := hx3.free 1; have u2 := hx3.cell 0; have u3 := hx3.cell 1))
                obtain ⟨z1, z2⟩ := bad_end hx3 (by rfl) (hB.trans (hB3.mono hB.size)) 14 i
                exact ret_tmp2_box Tryz.results101 rfl rfl rfl z1 Tryz.underlying80 rfl (by kernel_rfl) (by rfl) ⟨by rfl, z2⟩
              · have g2 : decide (126 < (c.toNat : Int)) = false := by simp; omega
                have hwd := fun w => ref04_word c.toNat w
                cases s3 : alnumN c.toNat with
                | true =>
                  rw [if_pos (.inr (.inr rfl))]
                  rw [s3] at hwd
                  have HW := Lib.hid hwd
                  clear hwd s3
                  go_enter Tryz.func101, Tryz.ntmps101
                  go_wp2_with fail
                  refine (H92.out _ hB).mono ?_
                  rintro e w2 ⟨rfl, rfl⟩
                  go_wp2_with fail
                  refine (HN.out _ hB).mono ?_
                  rintro e w2 ⟨rfl, rfl⟩
                  go_wp2_with fail
                  refine (HT.out _ hB).mono ?_
                  rintro e w2 ⟨rfl, rfl⟩
                  go_wp2_with fail
                  refine (HR.out _ hB).mono ?_
                  rintro e w2 ⟨rfl, rfl⟩
                  go_wp2_with fail
                  refine (HX.out _ hB).mono ?_
                  rintro e w2 ⟨rfl, rfl⟩
                  go_wp2_with fail
                  refine (HW.out _).mono ?_
                  rintro e w2 ⟨rfl, rfl⟩
                  go_wp2_with (go_at_call 77; go_must (refine (HBAD.out i _).mono ?_; rintro e w3 ⟨rfl, hB3⟩; have hx3 := hx.kept hB3; have u0 := hx3.free 0; have u1 := hx3.free 1; have u2 := hx3.cell 0; have u3 := hx3.cell 1))
                  obtain ⟨z1, z2⟩ := bad_end hx3 (by rfl) (hB.trans (hB3.mono hB.size)) 14 i
                  exact ret_tmp2_box Tryz.results101 rfl rfl rfl z1 Tryz.underlying80 rfl (by kernel_rfl) (by rfl) ⟨by rfl, z2⟩
                | false =>
                  rw [if_neg (by rintro (q | q | q) <;> first | omega | cases q)]
                  rw [s3] at hwd
                  have HW := Lib.hid hwd
                  clear hwd s3
                  go_enter Tryz.func101, Tryz.ntmps101
                  go_wp2_with fail
                  refine (H92.out _ hB).mono ?_
                  rintro e w2 ⟨rfl, rfl⟩
                  go_wp2_with fail
                  refine (HN.out _ hB).mono ?_
                  rintro e w2 ⟨rfl, rfl⟩
                  go_wp2_with fail
                  refine (HT.out _ hB).mono ?_
                  rintro e w2 ⟨rfl, rfl⟩
                  go_wp2_with fail
                  refine (HR.out _ hB).mono ?_
                  rintro e w2 ⟨rfl, rfl⟩
                  go_wp2_with fail
                  refine (HX.out _ hB).mono ?_
                  rintro e w2 ⟨rfl, rfl⟩
                  go_wp2_with fail
                  refine (HW.out _).mono ?_
                  rintro e w2 ⟨rfl, rfl⟩
                  go_wp2
                  exact ret_tmp2_box Tryz.results101 rfl rfl rfl hx Tryz.underlying80 rfl (by kernel_rfl) (by rfl) ⟨by rfl, hB⟩
end Go.Proofs.YtdhmekpgplajmaaGreatDoor
end
