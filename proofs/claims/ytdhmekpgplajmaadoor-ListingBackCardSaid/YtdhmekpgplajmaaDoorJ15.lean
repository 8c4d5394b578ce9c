/- Joined by tools/merge.py: BackC, DfaNames. -/
import Derived.Test.YtdhmekpgplajmaaDoorJ14
import Derived.Test.YtdhmekpgplajmaaDoorJ12
import Derived.Test.YtdhmekpgplajmaaDoorJ8
import Derived.Test.YtdhmekpgplajmaaDoorShelf
section
namespace Go.Proofs.YtdhmekpgplajmaaDoor
open Go.RowKit
set_option maxRecDepth 20000
/-- What some pieces have together. -/
def uniP (l : List (Nat × Nat)) : BSet := l.foldl (fun s p => s ||| spanS p.1 p.2) 0
theorem uniP_snoc (l : List (Nat × Nat)) (p : Nat × Nat) : uniP (l ++ [p]) = uniP l ||| spanS p.1 p.2 := by unfold uniP; rw [List.foldl_append]; rfl
theorem uniP_from (l : List (Nat × Nat)) : ∀ s : BSet, l.foldl (fun s p => s ||| spanS p.1 p.2) s = s ||| uniP l := by
  unfold uniP
  induction l with
  | nil => intro s; simp
  | cons p l ih => intro s; rw [List.foldl_cons, List.foldl_cons, ih, ih (0 ||| _)]; simp [BitVec.or_assoc]
theorem uniP_cons (p : Nat × Nat) (l : List (Nat × Nat)) : uniP (p :: l) = spanS p.1 p.2 ||| uniP l := by
  rw [show uniP (p :: l) = l.foldl (fun s p => s ||| spanS p.1 p.2) (0 ||| spanS p.1 p.2) from rfl, uniP_from]; simp
theorem mem_spanS (lo hi c : Nat) : mem (spanS lo hi) c = (decide (c < 256) && (decide (lo ≤ c) && decide (c ≤ hi))) := by unfold spanS; rw [mem_ofP]
theorem uniP_addSpan (l : List (Nat × Nat)) (b : Nat) (hb : b < 256) (h : ∀ p ∈ l, p.1 ≤ p.2) : uniP (addSpan l b) = withB (uniP l) b ∧ ∀ p ∈ addSpan l b, p.1 ≤ p.2 := by
  have one_piece : spanS b b = one b := set_ext fun c hc => by
    rw [mem_spanS, mem_one _ _ hb, Bool.eq_iff_iff]; simp; omega
  rcases List.eq_nil_or_concat l with rfl | ⟨L0, ⟨lo, hi⟩, rfl⟩
  · rw [addSpan_nil, show [(b, b)] = [] ++ [(b, b)] from rfl, uniP_snoc]
    refine ⟨?_, by simp⟩
    show uniP [] ||| spanS b b = _
    rw [one_piece]
    rfl
  · rw [List.concat_eq_append] at *
    by_cases hc : hi + 1 = b
    · rw [addSpan_on _ _ _ _ hc, uniP_snoc, uniP_snoc]
      refine ⟨set_ext fun c hc' => ?_, fun p hp => ?_⟩
      · rw [mem_withB _ _ _ hb, mem_or, mem_or, mem_spanS, mem_spanS, Bool.or_assoc]
        congr 1
        have := h (lo, hi) (by simp)
        rw [Bool.eq_iff_iff]; simp at this ⊢; omega
      · rcases List.mem_append.1 hp with h1 | h1
        · exact h p (by simp [h1])
        · have := h (lo, hi) (by simp); simp at h1 this; subst h1; simp; omega
    · rw [addSpan_new _ _ _ _ hc, uniP_snoc]
      refine ⟨?_, fun p hp => ?_⟩
      · show uniP (L0 ++ [(lo, hi)]) ||| spanS b b = _
        rw [one_piece]
        rfl
      · rcases List.mem_append.1 hp with h1 | h1
        · exact h p h1
        · simp at h1; subst h1; simp
theorem uniP_spansL (xs : List Nat) : (∀ x ∈ xs, x < 256) → uniP (spansL xs) = ofL xs := by
  suffices h : ∀ (xs : List Nat) (l : List (Nat × Nat)) (s : BSet), (∀ x ∈ xs, x < 256) → (∀ p ∈ l, p.1 ≤ p.2) → uniP l = s → uniP (xs.foldl addSpan l) = xs.foldl withB s from fun hx => h xs [] 0 hx (fun p hp => by simp at hp) rfl
  intro xs
  induction xs with
  | nil => intro l s _ _ h; exact h
  | cons a xs ih =>
    intro l s hx hl h
    obtain ⟨h1, h2⟩ := uniP_addSpan l a (hx a (by simp)) hl
    exact ih _ _ (fun x hx' => hx x (by simp [hx'])) h2 (by rw [h1, h])
theorem uniP_elems (a : BSet) : uniP (spansL (elems a)) = a := by rw [uniP_spansL _ fun x hx => elems_lt hx, ofL_elems]
/-- Places within a text. -/
theorem getD_mid (a b : List UInt8) (k : Nat) : (a ++ b).getD (a.length + k) 0 = b.getD k 0 := by
  simp only [List.getD]; rw [List.getElem?_append_right (by omega)]; congr 2; omega
theorem hereB_mid (a b : List UInt8) (k : Nat) (c : UInt8) : hereB (a ++ b) (a.length + k) c = hereB b k c := by
  unfold hereB; rw [getD_mid, List.length_append]; congr 1; rw [decide_eq_decide]; omega
theorem hexV_hexd : ∀ d, d < 16 → hexV (hexd d).toNat = some d := by decide +kernel
theorem escR_mid (a b : List UInt8) {c j : Nat} (h : escR b 0 = .inr (c, j)) : escR (a ++ b) a.length = .inr (c, a.length + j) := by
  unfold escR at h ⊢
  have e1 : (a ++ b).getD (a.length + 1) 0 = b.getD 1 0 := getD_mid a b 1
  have e2 : (a ++ b).getD (a.length + 2) 0 = b.getD 2 0 := getD_mid a b 2
  have e3 : (a ++ b).getD (a.length + 3) 0 = b.getD 3 0 := getD_mid a b 3
  simp only [Nat.zero_add] at h
  rw [e1, e2, e3, List.length_append]
  have i1 : (a.length + b.length ≤ a.length + 1) = (b.length ≤ 1) := by rw [eq_iff_iff]; omega
  have i2 : (a.length + 4 ≤ a.length + b.length) = (4 ≤ b.length) := by rw [eq_iff_iff]; omega
  simp only [i1, i2]
  by_cases h1 : b.length ≤ 1
  · rw [if_pos h1] at h; cases h
  rw [if_neg h1] at h ⊢
  by_cases h2 : (b.getD 1 0).toNat = 110
  · rw [if_pos h2] at h ⊢; cases h; rfl
  rw [if_neg h2] at h ⊢
  by_cases h3 : (b.getD 1 0).toNat = 116
  · rw [if_pos h3] at h ⊢; cases h; rfl
  rw [if_neg h3] at h ⊢
  by_cases h4 : (b.getD 1 0).toNat = 114
  · rw [if_pos h4] at h ⊢; cases h; rfl
  rw [if_neg h4] at h ⊢
  by_cases h5 : (b.getD 1 0).toNat = 120
  · rw [if_pos h5] at h ⊢
    by_cases h6 : 4 ≤ b.length
    · rw [if_pos h6] at h ⊢
      cases h7 : hexV (b.getD 2 0).toNat with
      | none => rw [h7] at h; cases h
      | some x =>
        cases h8 : hexV (b.getD 3 0).toNat with
        | none => rw [h7, h8] at h; cases h
        | some y => rw [h7, h8] at h; cases h; rfl
    · rw [if_neg h6] at h; cases h
  rw [if_neg h5] at h ⊢
  by_cases h6 : (b.getD 1 0).toNat < 33 ∨ 126 < (b.getD 1 0).toNat ∨ alnumN (b.getD 1 0).toNat = true
  · rw [if_pos h6] at h; cases h
  · rw [if_neg h6] at h ⊢; cases h; rfl
theorem charR_mid (a b : List UInt8) (fr : Nat) {c j : Nat} (h : charR b 0 0 = .inr (c, j)) : charR (a ++ b) fr a.length = .inr (c, a.length + j) := by
  unfold charR at h ⊢
  have e0 : hereB (a ++ b) a.length 92 = hereB b 0 92 := hereB_mid a b 0 92
  have e1 : (a ++ b).getD a.length 0 = b.getD 0 0 := getD_mid a b 0
  rw [e0, e1, List.length_append]
  have i1 : (a.length + b.length ≤ a.length) = (b.length ≤ 0) := by rw [eq_iff_iff]; omega
  simp only [i1]
  by_cases h1 : b.length ≤ 0
  · rw [if_pos h1] at h; cases h
  rw [if_neg h1] at h ⊢
  by_cases h2 : hereB b 0 92 = true
  · rw [if_pos h2] at h ⊢; exact escR_mid a b h
  rw [if_neg h2] at h ⊢
  by_cases h3 : specialN (b.getD 0 0).toNat = true
  · rw [if_pos h3] at h; cases h
  · rw [if_neg h3] at h ⊢; cases h; rfl
theorem specialN_cases {x : Nat} (h : specialN x = true) : x = 10 ∨ x = 92 ∨ x = 91 ∨ x = 93 ∨ x = 94 ∨ x = 45 := by
  unfold specialN at h; simp at h; omega
theorem charR_char (x : Nat) (hx : x < 256) (b : List UInt8) : charR (charX x ++ b) 0 0 = .inr (x, (charX x).length) := by
  unfold charX
  by_cases h1 : x = 10
  · subst h1; simp [charR, escR, hereB]
  by_cases h2 : x = 9
  · subst h2; simp [charR, escR, hereB]
  by_cases h3 : x = 13
  · subst h3; simp [charR, escR, hereB]
  rw [if_neg h1, if_neg h2, if_neg h3]
  by_cases h4 : specialN x = true
  · rw [if_pos h4]
    rcases specialN_cases h4 with rfl | rfl | rfl | rfl | rfl | rfl
    · exact absurd rfl h1
    all_goals simp [charR, escR, hereB, alnumN, digitN]
  · rw [if_neg h4]
    have hm : x % 256 = x := Nat.mod_eq_of_lt hx
    have h92 : x ≠ 92 := fun e => h4 (by subst e; rfl)
    unfold oneB
    have ht : (UInt8.ofNat x).toNat = x := by simp [hm]
    rw [ht]
    by_cases h5 : plainN x = true
    · rw [if_pos h5]
      have hne : UInt8.ofNat x ≠ 92 := fun e => h92 (by rw [← ht, e]; rfl)
      simp only [charR, hereB, List.cons_append, List.nil_append, List.length_cons, List.getD_cons_zero, ht]
      rw [if_neg (by omega), if_neg (by simp [hne]), if_neg h4]
      simp
    · rw [if_neg h5]
      have q1 : hexV (hexd (x / 16)).toNat = some (x / 16) := hexV_hexd _ (by omega)
      have q2 : hexV (hexd (x % 16)).toNat = some (x % 16) := hexV_hexd _ (by omega)
      simp only [charR, escR, hereB, List.cons_append, List.nil_append, List.length_cons, List.getD_cons_zero, List.getD_cons_succ, q1, q2]
      rw [if_neg (by omega), if_pos (by simp), if_neg (by omega), if_neg (by decide), if_neg (by decide), if_neg (by decide), if_pos (by decide), if_pos (by omega)]
      simp; omega
theorem charX_head : ∀ x, x < 256 → (!((charX x).getD 0 0 == 45) && (!((charX x).getD 0 0 == 93) && (!((charX x).getD 0 0 == 94) && (decide (0 < (charX x).length) && (charX x).all fun c => decide (33 ≤ c.toNat))))) = true := by
  have h : (List.range 256).all (fun x => (!((charX x).getD 0 0 == 45) && (!((charX x).getD 0 0 == 93) && (!((charX x).getD 0 0 == 94) && (decide (0 < (charX x).length) && (charX x).all fun c => decide (33 ≤ c.toNat)))))) = true := by decide +kernel
  intro x hx
  exact List.all_eq_true.1 h x (List.mem_range.2 hx)
theorem charX_not (x : Nat) (hx : x < 256) (b : List UInt8) (c : UInt8) (hc : c = 45 ∨ c = 93 ∨ c = 94) : hereB (charX x ++ b) 0 c = false := by
  have h := charX_head x hx
  simp only [Bool.and_eq_true, Bool.not_eq_true', decide_eq_true_eq] at h
  obtain ⟨h1, h2, h3, h4, _⟩ := h
  unfold hereB
  have e : (charX x ++ b).getD 0 0 = (charX x).getD 0 0 := by
    simp only [List.getD]; rw [List.getElem?_append_left h4]
  rw [e]
  rcases hc with rfl | rfl | rfl
  · rw [h1, Bool.and_false]
  · rw [h2, Bool.and_false]
  · rw [h3, Bool.and_false]
/-- One char, and no line behind it. -/
theorem item_one (a b : List UInt8) (fr x : Nat) (hx : x < 256) (h : hereB b 0 45 = false) : itemR (a ++ (charX x ++ b)) fr a.length = .inr ((x, x), a.length + (charX x).length) := by
  refine itemR_one (charR_mid a _ fr (charR_char x hx b)) ?_
  have := hereB_mid (a ++ charX x) b 0 45
  rw [List.length_append, List.append_assoc] at this
  exact this.trans h
theorem item_two (a b : List UInt8) (fr x y : Nat) (hx : x < 256) (hy : y < 256) (hxy : x ≤ y) : itemR (a ++ (charX x ++ (45 :: (charX y ++ b)))) fr a.length = .inr ((x, y), a.length + (charX x).length + 1 + (charX y).length) := by
  refine itemR_two (charR_mid a _ fr (charR_char x hx _)) ?_ ?_ (by omega)
  · have := hereB_mid (a ++ charX x) (45 :: (charX y ++ b)) 0 45
    rw [List.length_append, List.append_assoc] at this
    exact this.trans (by simp [hereB])
  · have := charR_mid (a ++ (charX x ++ [45])) (charX y ++ b) fr (charR_char y hy b)
    simp only [List.length_append, List.append_assoc, List.cons_append, List.nil_append, List.length_cons, List.length_nil, Nat.zero_add] at this
    rw [← Nat.add_assoc] at this
    exact this
theorem spanS_next (x : Nat) : spanS x x ||| spanS (x + 1) (x + 1) = spanS x (x + 1) := set_ext fun c hc => by
  rw [mem_or, mem_spanS, mem_spanS, mem_spanS, Bool.eq_iff_iff]; simp; omega
/-- All the pieces, and the end behind them. -/
theorem loopR_pieces (fr : Nat) (b : List UInt8) : ∀ (l : List (Nat × Nat)), (∀ p ∈ l, p.1 ≤ p.2 ∧ p.2 < 256) → ∀ (a : List UInt8) (s : BSet) (n : Nat), (l.flatMap pieceT).length < n →
    loopR (a ++ (l.flatMap pieceT ++ (93 :: b))) fr n s a.length = .inr (s ||| uniP l, a.length + (l.flatMap pieceT).length + 1) := by
  intro l
  induction l with
  | nil =>
    intro _ a s n hn
    obtain ⟨n, rfl⟩ : ∃ m, n = m + 1 := ⟨n - 1, by omega⟩
    have := hereB_mid a (93 :: b) 0 93
    rw [Nat.add_zero] at this
    simp only [List.flatMap_nil, List.nil_append, loopR]
    rw [if_pos (this.trans (by simp [hereB]))]
    simp [uniP]
  | cons p l ih =>
    intro hl a s n hn
    obtain ⟨h1, h2⟩ := hl p (by simp)
    have ihl := ih fun q hq => hl q (by simp [hq])
    obtain ⟨x, y⟩ := p
    simp only at h1 h2
    have hlen : 0 < (charX x).length ∧ 0 < (charX y).length := by
      have e1 := charX_head x (by omega); have e2 := charX_head y (by omega)
      simp only [Bool.and_eq_true, decide_eq_true_eq] at e1 e2
      exact ⟨e1.2.2.2.1, e2.2.2.2.1⟩
    -- what stands behind a piece is no line
    have hrest : hereB (l.flatMap pieceT ++ (93 :: b)) 0 45 = false := by
      cases l with
      | nil => simp [hereB]
      | cons q l =>
        rw [List.flatMap_cons, show pieceT q = charX q.1 ++ (if q.1 = q.2 then [] else if q.1 + 1 = q.2 then charX q.2 else 45 :: charX q.2) from rfl, List.append_assoc, List.append_assoc]
        exact charX_not _ (by have := hl q (by simp); omega) _ _ (.inl rfl)
    have hstop : ∀ (a r : List UInt8), hereB (a ++ (charX x ++ r)) a.length 93 = false := fun a r => (hereB_mid a _ 0 93).trans (charX_not x (by omega) _ _ (.inr (.inl rfl)))
    have hstop2 : ∀ (a r : List UInt8), hereB (a ++ (charX y ++ r)) a.length 93 = false := fun a r => (hereB_mid a _ 0 93).trans (charX_not y h2 _ _ (.inr (.inl rfl)))
    rw [List.flatMap_cons] at hn ⊢
    by_cases e1 : x = y
    · subst e1
      have ep : pieceT (x, x) = charX x := by simp [pieceT]
      rw [ep] at hn ⊢
      obtain ⟨n, rfl⟩ : ∃ m, n = m + 1 := ⟨n - 1, by omega⟩
      rw [loopR, List.append_assoc, if_neg (by rw [hstop]; decide), item_one a _ fr x h2 hrest]
      have := ihl (a ++ charX x) (s ||| spanS x x) n (by rw [List.length_append] at hn; omega)
      rw [List.length_append, List.append_assoc] at this
      dsimp only
      rw [this, uniP_cons, List.length_append]
      simp only [BitVec.or_assoc, Nat.add_assoc]
    · by_cases e2 : x + 1 = y
      · subst e2
        have ep : pieceT (x, x + 1) = charX x ++ charX (x + 1) := by simp [pieceT]
        rw [ep] at hn ⊢
        rw [List.length_append, List.length_append] at hn
        obtain ⟨n, rfl⟩ : ∃ m, n = m + 2 := ⟨n - 2, by omega⟩
        rw [loopR, List.append_assoc, List.append_assoc, if_neg (by rw [hstop]; decide), item_one a _ fr x (by omega) (charX_not _ h2 _ _ (.inl rfl))]
        dsimp only
        have q := item_one (a ++ charX x) (l.flatMap pieceT ++ (93 :: b)) fr (x + 1) h2 hrest
        have q0 := hstop2 (a ++ charX x) (l.flatMap pieceT ++ (93 :: b))
        rw [List.length_append, List.append_assoc] at q q0
        rw [loopR, if_neg (by rw [q0]; decide), q]
        dsimp only
        have := ihl (a ++ charX x ++ charX (x + 1)) (s ||| spanS x x ||| spanS (x + 1) (x + 1)) n (by omega)
        rw [List.length_append, List.length_append, List.append_assoc, List.append_assoc] at this
        rw [this, uniP_cons, ← spanS_next, List.length_append, List.length_append]
        simp only [BitVec.or_assoc, Nat.add_assoc]
      · have ep : pieceT (x, y) = charX x ++ (45 :: charX y) := by simp [pieceT, e1, e2]
        rw [ep] at hn ⊢
        obtain ⟨n, rfl⟩ : ∃ m, n = m + 1 := ⟨n - 1, by omega⟩
        have q := item_two a (l.flatMap pieceT ++ (93 :: b)) fr x y (by omega) h2 h1
        rw [loopR, List.append_assoc, List.append_assoc, List.cons_append, if_neg (by rw [hstop]; decide)]
        rw [q]
        dsimp only
        have := ihl (a ++ (charX x ++ (45 :: charX y))) (s ||| spanS x y) n (by simp only [List.length_append, List.length_cons] at hn ⊢; omega)
        simp only [List.length_append, List.append_assoc, List.length_cons, List.cons_append] at this
        simp only [List.length_append, List.length_cons]
        rw [show a.length + (charX x).length + 1 + (charX y).length = a.length + ((charX x).length + ((charX y).length + 1)) by omega, this, uniP_cons]
        simp only [BitVec.or_assoc, Nat.add_assoc]
theorem firstR_loop (l : List UInt8) (fr i : Nat) (h : hereB l i 93 = false) : firstR l fr i = loopR l fr (l.length + 2) 0 i := by
  rw [loopR, if_neg (by rw [h]; decide), firstR]
  cases itemR l fr i with
  | inl q => rfl
  | inr q => simp
theorem elems_nil {s : BSet} (h : elems s = []) : s = 0 := by rw [← ofL_elems s, h]; rfl
theorem elems_ones : (elems (~~~(0 : BSet))).length = 256 := by decide +kernel
theorem not_not_set (s : BSet) : ~~~(~~~s) = s := BitVec.not_not
/-- Of the set that a class is said of there is a byte. -/
theorem said_some (f : BSet) : elems (if turnedS f then ~~~f else f) ≠ [] := by
  intro h
  have h0 := elems_nil h
  unfold turnedS at h0
  by_cases e0 : (elems f).length = 0
  · rw [if_pos (by simp [e0])] at h0
    have := elems_nil (List.length_eq_zero_iff.1 e0)
    subst this
    have e := elems_ones
    rw [h0] at e
    revert e; decide +kernel
  · by_cases e1 : 128 < (elems f).length ∧ (elems f).length < 256
    · rw [if_pos (by simp [e1])] at h0
      have : f = ~~~(0 : BSet) := by rw [← h0, not_not_set]
      rw [this, elems_ones] at e1
      omega
    · rw [if_neg (by simp [e0]; omega)] at h0
      subst h0
      exact e0 (by decide +kernel)
/-- What is said of a set is read as that set, and to its end. -/
theorem readR_show (f : BSet) : readR (showS f) = .inr (f, (showS f).length) := by
  have hne := said_some f
  have hok := spans_elems (if turnedS f then ~~~f else f)
  have huni := uniP_elems (if turnedS f then ~~~f else f)
  rw [showS_cases]
  unfold piecesT
  generalize hu : (if turnedS f then ~~~f else f) = u at *
  have hl : spansL (elems u) ≠ [] := fun e => by
    rw [e] at huni
    apply hne
    rw [← huni]
    show elems (uniP []) = []
    decide +kernel
  generalize spansL (elems u) = l at *
  obtain ⟨⟨x, y⟩, l', rfl⟩ := List.exists_cons_of_ne_nil hl
  have hx := hok (x, y) (by simp)
  simp only at hx
  have hfirst : ∀ c : UInt8, c = 45 ∨ c = 93 ∨ c = 94 → hereB (((x, y) :: l').flatMap pieceT ++ [93]) 0 c = false := fun c hc => by
    rw [List.flatMap_cons, show pieceT (x, y) = charX x ++ (if x = y then [] else if x + 1 = y then charX y else 45 :: charX y) from rfl, List.append_assoc, List.append_assoc]
    exact charX_not _ (by omega) _ _ hc
  unfold readR
  cases ht : turnedS f with
  | true =>
    rw [ht] at hu
    simp only [if_true] at hu
    rw [show (if true = true then ([91, 94] : List UInt8) else [91]) = [91, 94] from rfl]
    have hb : hereB ([91, 94] ++ (((x, y) :: l').flatMap pieceT ++ [93])) 1 94 = true := by simp [hereB]
    have h0 : hereB ([91, 94] ++ (((x, y) :: l').flatMap pieceT ++ [93])) 0 91 = true := by simp [hereB]
    rw [if_pos h0, if_pos hb]
    have hs : hereB ([91, 94] ++ (((x, y) :: l').flatMap pieceT ++ [93])) 2 93 = false := (hereB_mid [91, 94] _ 0 93).trans (hfirst 93 (.inr (.inl rfl)))
    rw [firstR_loop _ _ _ hs]
    have := loopR_pieces 0 [] ((x, y) :: l') hok [91, 94] 0 (([91, 94] ++ (((x, y) :: l').flatMap pieceT ++ [93])).length + 2) (by simp only [List.length_append]; omega)
    change loopR _ 0 _ 0 2 = _ at this
    rw [this]
    dsimp only
    rw [if_pos hb, huni, ← hu]
    simp [Nat.add_comm, Nat.add_left_comm]
    omega
  | false =>
    rw [ht] at hu
    simp only [Bool.false_eq_true, if_false] at hu
    rw [show (if false = true then ([91, 94] : List UInt8) else [91]) = [91] from rfl]
    have hb : hereB ([91] ++ (((x, y) :: l').flatMap pieceT ++ [93])) 1 94 = false := (hereB_mid [91] _ 0 94).trans (hfirst 94 (.inr (.inr rfl)))
    have h0 : hereB ([91] ++ (((x, y) :: l').flatMap pieceT ++ [93])) 0 91 = true := by simp [hereB]
    rw [if_pos h0, if_neg (by rw [hb]; decide)]
    have hs : hereB ([91] ++ (((x, y) :: l').flatMap pieceT ++ [93])) 1 93 = false := (hereB_mid [91] _ 0 93).trans (hfirst 93 (.inr (.inl rfl)))
    rw [firstR_loop _ _ _ hs]
    have := loopR_pieces 0 [] ((x, y) :: l') hok [91] 0 (([91] ++ (((x, y) :: l').flatMap pieceT ++ [93])).length + 2) (by simp only [List.length_append]; omega)
    change loopR _ 0 _ 0 1 = _ at this
    rw [this]
    dsimp only
    rw [if_neg (by rw [hb]; decide), huni, hu]
    simp [Nat.add_comm, Nat.add_left_comm]
/-- No byte of a class's text is a blank, or ends a line. -/
theorem showS_bytes (f : BSet) : ∀ c ∈ showS f, 33 ≤ c.toNat := by
  have hp : ∀ u : BSet, ∀ c ∈ piecesT u, 33 ≤ c.toNat := fun u c hc => by
    unfold piecesT at hc
    obtain ⟨⟨x, y⟩, hp, hc⟩ := List.mem_flatMap.1 hc
    obtain ⟨h1, h2⟩ := spans_elems u _ hp
    simp only at h1 h2
    have ex := charX_head x (by omega); have ey := charX_head y h2
    simp only [Bool.and_eq_true, List.all_eq_true, decide_eq_true_eq] at ex ey
    unfold pieceT at hc
    simp only [List.mem_append] at hc
    rcases hc with hc | hc
    · exact ex.2.2.2.2 c hc
    · split at hc
      · simp at hc
      · split at hc
        · exact ey.2.2.2.2 c hc
        · rcases List.mem_cons.1 hc with rfl | hc
          · decide
          · exact ey.2.2.2.2 c hc
  intro c hc
  rw [showS_cases, List.mem_append, List.mem_append] at hc
  rcases hc with hc | hc | hc
  · split at hc
    · simp at hc; rcases hc with rfl | rfl <;> decide
    · simp at hc; subst hc; decide
  · exact hp _ c hc
  · simp at hc; subst hc; decide
end Go.Proofs.YtdhmekpgplajmaaDoor
end
section
namespace Go.Proofs.YtdhmekpgplajmaaDoor
open Go.RowKit
abbrev bs (l : List UInt8) : ByteArray := ⟨l.toArray⟩
theorem bs_inj {a b : List UInt8} (h : bs a = bs b) : a = b := by
  have := congrArg (fun s : ByteArray => s.data.toList) h
  simpa using this
def nameAt (l : List (List UInt8)) (i : Nat) : Bool := nameT (l.getD i []) && !((l.take i).contains (l.getD i []))
def namesTo (l : List (List UInt8)) (k : Nat) : Bool := (List.range k).all (nameAt l)
theorem namesTo_succ (l : List (List UInt8)) (k : Nat) : namesTo l (k + 1) = (namesTo l k && nameAt l k) := by
  unfold namesTo; rw [List.range_succ, List.all_append]; simp
theorem namesTo_false (l : List (List UInt8)) (k n : Nat) (hk : k < n) (h : nameAt l k = false) : namesTo l n = false := by
  unfold namesTo
  rw [List.all_eq_false]
  exact ⟨k, by simpa using hk, by simp [h]⟩
/-- May names be? -/
def namesOK (l : List (List UInt8)) : Bool := decide (l.length ≤ 64) && namesTo l l.length
theorem contains_bs (l : List (List UInt8)) (s : List UInt8) : Lib.containsS (l.map bs) (bs s) = l.contains s := by
  rw [Bool.eq_iff_iff, Lib.containsS_iff, List.contains_iff_mem, List.mem_map]
  exact ⟨fun ⟨x, hx, he⟩ => bs_inj he ▸ hx, fun h => ⟨s, h, rfl⟩⟩
set_option maxHeartbeats 800000 in
theorem dfa_names (a : Option Addr) (cap n : Nat) (l : List (List UInt8)) (w : World) (h : SliceR w (.slice a n cap) 1 encT l) (hl : ∀ x ∈ l, x.length ≤ 9223372036854775807) :
    Calls Tryd.prog 27 #[.slice a n cap] w (Ret w (.bool (namesOK l))) := by
  obtain ⟨b, o, hlen, hcap, hcap', ha, hcell⟩ := h.cells1
  have hnn : n ≤ 9223372036854775807 := by omega
  have e : namesOK l = (decide (n ≤ 64) && namesTo l n) := by rw [hlen]; rfl
  rw [e]
  by_cases h64 : 64 < n
  · have e1 : decide (n ≤ 64) = false := by simp; omega
    rw [e1]
    have h64' : (64 : Int) < (n : Int) := by omega
    clear hlen hcell ha h e e1
    go_enter Tryd.func27, Tryd.ntmps27
    go_wp2
    go_ret
    exact ⟨rfl, Below.refl _ _⟩
  · have e1 : decide (n ≤ 64) = true := by simp; omega
    rw [e1, Bool.true_and]
    have hd64 : decide ((64 : Int) < (n : Int)) = false := by simp; omega
    have HC := Lib.hid hcell
    have HL := Lib.hid hlen
    have HA := Lib.hid ha
    have HLL := Lib.hid hl
    clear hlen hcell ha h e e1 hl
    go_enter Tryd.func27, Tryd.ntmps27
    go_wp2
    go_loopw [10] (fun i wr => ∃ k : Nat, k ≤ n ∧ i = .int .i64 k ∧ namesTo l k = true ∧ Below w.heap.size w wr) (fun i _ => n - (intOf i).toNat)
    case atStart => exact ⟨0, Nat.zero_le _, rfl, rfl, Below.refl _ _⟩
    case round =>
      obtain ⟨k, hk, rfl, hok, hB⟩ := hrel
      by_cases hlt : k < n
      · have hk2 : k < l.length := by rw [← HL.out]; exact hlt
        obtain rfl := HA.out k hk2
        have c0 := HC.out k hk2 wr hB
        have hnm := fun w => spec_Name l[k] w (HLL.out _ (List.getElem_mem hk2))
        have hnx : nameAt l k = (nameT l[k] && !((l.take k).contains l[k])) := by
          unfold nameAt; rw [List.getD_eq_getElem?_getD, List.getElem?_eq_getElem hk2]; rfl
        have hsucc := namesTo_succ l k
        rw [hok, Bool.true_and] at hsucc
        have hfalse := namesTo_false l k n hlt
        have hcon : ∀ w2, Below w.heap.size w w2 → Calls Tryd.prog 44 #[.slice (some ⟨b, o, none⟩) k cap, sv l[k]] w2 (fun e w' => e = .returned (.bool ((l.take k).contains l[k])) ∧ w' = w2) := fun w2 h2 => by
          have := Tryd.slices_Contains_string b o k cap (l.map bs) (bs l[k]) w2 (by rw [List.length_map]; omega) (by omega) (fun j hj => by
            rw [List.length_map] at hj
            have := HC.out j hj w2 h2
            rw [this, List.getD_eq_getElem?_getD, List.getElem?_map, List.getElem?_eq_getElem hj]; rfl)
          rw [← List.map_take, contains_bs] at this
          exact this
        generalize l[k] = s at *
        have HNM := Lib.hid hnm
        have HCO := Lib.hid hcon
        have HSU := Lib.hid hsucc
        have HFA := Lib.hid hfalse
        have hk0 : (0 : Int) ≤ (k : Int) := by omega
        have hkm : (k : Int) < (n : Int) := by omega
        have hkc : (k : Int) ≤ (cap : Int) := by omega
        clear hnm hcon hsucc hfalse hok
        generalize (l.take k).contains s = q at *
        cases hn : nameT s with
        | true =>
          rw [hn] at HNM hnx
          cases q with
          | true =>
            have hx : nameAt l k = false := hnx
            have HX := Lib.hid hx
            clear hx hnx hn
            go_wp2_with (first | (go_at_call 43; go_must (refine (HNM.out _).mono ?_; rintro e w1 ⟨rfl, hB1⟩; have hB2 := hB.trans (hB1.mono hB.size))) | (go_at_call 44; go_must (refine (HCO.out _ hB2).mono ?_; rintro e w3 ⟨rfl, rfl⟩)))
            go_ret
            exact ⟨by rw [HFA.out HX.out]; rfl, hB2⟩
          | false =>
            have hx : nameAt l k = true := hnx
            have HX := Lib.hid hx
            clear hx hnx hn
            go_wp2_with (first | (go_at_call 43; go_must (refine (HNM.out _).mono ?_; rintro e w1 ⟨rfl, hB1⟩; have hB2 := hB.trans (hB1.mono hB.size))) | (go_at_call 44; go_must (refine (HCO.out _ hB2).mono ?_; rintro e w3 ⟨rfl, rfl⟩)))
            go_roundw
            case rel => exact ⟨k + 1, hlt, by go_num, by rw [HSU.out, HX.out], hB2⟩
            case measure => simp [intOf]; omega
        | false =>
          rw [hn] at HNM hnx
          have hx : nameAt l k = false := hnx
          have HX := Lib.hid hx
          clear hx hnx hn
          go_wp2_with (go_at_call 43; go_must (refine (HNM.out _).mono ?_; rintro e w1 ⟨rfl, hB1⟩; have hB2 := hB.trans (hB1.mono hB.size)))
          go_ret
          exact ⟨by rw [HFA.out HX.out]; rfl, hB2⟩
      · obtain rfl : k = n := by omega
        have HOK := Lib.hid hok
        clear hok
        go_wp2
        go_ret
        exact ⟨by rw [HOK.out]; rfl, hB⟩
end Go.Proofs.YtdhmekpgplajmaaDoor
end
