/- Joined by tools/merge.py: Spans, RefTwo, RefNot, RefSpans, Card. -/
import Derived.Test.YtdhmekpgplajmaaDoorJ6
import Derived.Test.YtdhmekpgplajmaaDoorJ4
import Derived.Test.YtdhmekpgplajmaaDoorCards
import Derived.Test.YtdhmekpgplajmaaDoorTie
import Derived.Deep.DeepHandedRow
import Derived.Lib.LaidTab
section
namespace Go.Proofs.YtdhmekpgplajmaaDoor
open Go.RowKit Go.Shelf
attribute [local go_sem] Oper.semAt_some

/-- One byte more, behind the pieces so far. -/
def addSpan (l : List (Nat × Nat)) (b : Nat) : List (Nat × Nat) :=
  match l.getLast? with
  | none => [(b, b)]
  | some p => if p.2 + 1 = b then l.dropLast ++ [(p.1, b)] else l ++ [(b, b)]
def spansL (xs : List Nat) : List (Nat × Nat) := xs.foldl addSpan []
theorem spansL_snoc (xs : List Nat) (b : Nat) : spansL (xs ++ [b]) = addSpan (spansL xs) b := by unfold spansL; rw [List.foldl_append]; rfl
theorem addSpan_length (l : List (Nat × Nat)) (b : Nat) : (addSpan l b).length ≤ l.length + 1 := by
  unfold addSpan
  split
  · simp
  · split
    · simp
    · simp
theorem spansL_length : ∀ xs : List Nat, (spansL xs).length ≤ xs.length := by
  suffices h : ∀ (xs : List Nat) (l : List (Nat × Nat)), (xs.foldl addSpan l).length ≤ l.length + xs.length from fun xs => by simpa [spansL] using h xs []
  intro xs
  induction xs with
  | nil => intro l; simp
  | cons a xs ih => intro l; have := ih (addSpan l a); have := addSpan_length l a; simp; omega
abbrev encQ (p : Nat × Nat) : List Value := [.int .u8 (p.1 : Nat), .int .u8 (p.2 : Nat)]
theorem encQ_ok : EncOK encQ 2 := ⟨fun _ => rfl, fun x u hu => by simp [encQ] at hu; rcases hu with rfl | rfl <;> rfl⟩
theorem Own.cellAt {α : Type} {w : World} {base E size g n cap : Nat} {enc : α → List Value} {xs : List α} (h : Own w base E size enc (.slice (some ⟨g, 0, none⟩) n cap) xs) {i j : Nat} (hi : i < xs.length) (hj : j < size) :
    w.cell? ⟨g, i * size + j, none⟩ = (enc xs[i])[j]? ∧ w.frozen? ⟨g, i * size + j, none⟩ = false ∧ base ≤ g ∧ g < w.heap.size := by
  obtain ⟨a, cap', hv, hle, hm, hh⟩ := h
  obtain ⟨rfl, _, _⟩ := Value.slice.inj hv
  rcases hh with ⟨h0, _⟩ | ⟨g', cur, ha, hb, hg, hs, hx⟩
  · cases h0
  · obtain rfl : g = g' := by simpa using ha
    exact ⟨by rw [hg.cell, hx i hi j hj], hg.free _, hb, hg.lt⟩
theorem Own.store1 {α : Type} {w : World} {base E size g n cap : Nat} {enc : α → List Value} {xs : List α} (h : Own w base E size enc (.slice (some ⟨g, 0, none⟩) n cap) xs) {i j : Nat} (hi : i < xs.length) (hj : j < size) (y : α) (v : Value)
    (hy : ∀ k, k < size → (enc y)[k]? = if k = j then some v else (enc xs[i])[k]?) : Own (w.setCell ⟨g, i * size + j, none⟩ v) base E size enc (.slice (some ⟨g, 0, none⟩) n cap) (xs.set i y) := by
  obtain ⟨a, cap', hv, hle, hm, hh⟩ := h
  obtain ⟨rfl, hn, rfl⟩ := Value.slice.inj hv
  rcases hh with ⟨h0, _⟩ | ⟨g', cur, ha, hb, hg, hs, hx⟩
  · cases h0
  · obtain rfl : g = g' := by simpa using ha
    refine ⟨_, cap, by rw [List.length_set, hn], by rwa [List.length_set], hm, .inr ⟨g, _, rfl, hb, hg.set _ _, by simpa using hs, fun i' hi' k hk => ?_⟩⟩
    rw [List.length_set] at hi'
    have hlt : i * size + j < cur.size := by rw [hs]; exact Nat.lt_of_lt_of_le (Nat.add_lt_add_left hj _) (by rw [← Nat.succ_mul]; exact Nat.mul_le_mul_right _ (by omega))
    rw [Array.getElem?_setIfInBounds]
    by_cases e : i = i'
    · subst e
      rw [List.getElem_set_self, hy k hk]
      by_cases e2 : k = j
      · subst e2; rw [if_pos rfl, if_pos hlt, if_pos rfl]
      · rw [if_neg (by omega), if_neg e2, hx i hi k hk]
    · rw [List.getElem_set_ne e, if_neg, hx i' hi' k hk]
      intro e2
      rcases Nat.lt_or_gt_of_ne e with h1 | h1
      · have := Nat.mul_le_mul_right size (show i + 1 ≤ i' by omega); rw [Nat.succ_mul] at this; omega
      · have := Nat.mul_le_mul_right size (show i' + 1 ≤ i by omega); rw [Nat.succ_mul] at this; omega
theorem spansL_lt (xs : List Nat) (hx : ∀ x ∈ xs, x < 256) : ∀ p ∈ spansL xs, p.1 < 256 ∧ p.2 < 256 := by
  suffices h : ∀ (xs : List Nat) (l : List (Nat × Nat)), (∀ x ∈ xs, x < 256) → (∀ p ∈ l, p.1 < 256 ∧ p.2 < 256) → ∀ p ∈ xs.foldl addSpan l, p.1 < 256 ∧ p.2 < 256 from h xs [] hx (fun p hp => by simp at hp)
  intro xs
  induction xs with
  | nil => intro l _ h; simpa using h
  | cons a xs ih =>
    intro l hx hl
    have ha := hx a (by simp)
    refine ih (addSpan l a) (fun x h => hx x (by simp [h])) ?_
    unfold addSpan
    split
    · intro p hp; simp at hp; subst hp; exact ⟨ha, ha⟩
    · rename_i q hq
      have hq' := hl q (List.mem_of_getLast? hq)
      split
      · intro p hp
        rcases List.mem_append.1 hp with h | h
        · exact hl p (List.dropLast_subset _ h)
        · simp at h; subst h; exact ⟨hq'.1, ha⟩
      · intro p hp
        rcases List.mem_append.1 hp with h | h
        · exact hl p h
        · simp at h; subst h; exact ⟨ha, ha⟩
theorem w64 (n : Nat) (h : n ≤ 256) : wrap64 (n : Int) = (n : Int) := by unfold wrap64; omega
theorem beq_t {hi x : Nat} (h : hi + 1 = x) : ((hi : Int) + 1 == (x : Int)) = true := by rw [beq_iff_eq]; omega
theorem beq_f {hi x : Nat} (h : ¬ hi + 1 = x) : ((hi : Int) + 1 == (x : Int)) = false := by rw [beq_eq_false_iff_ne]; omega
theorem addSpan_on (L0 : List (Nat × Nat)) (lo hi x : Nat) (h : hi + 1 = x) : addSpan (L0 ++ [(lo, hi)]) x = L0 ++ [(lo, x)] := by simp [addSpan, h]
theorem addSpan_new (L0 : List (Nat × Nat)) (lo hi x : Nat) (h : ¬ hi + 1 = x) : addSpan (L0 ++ [(lo, hi)]) x = L0 ++ [(lo, hi)] ++ [(x, x)] := by
  unfold addSpan; rw [List.getLast?_append]; simp [h]
theorem last_of (L0 : List (Nat × Nat)) (p : Nat × Nat) (h : L0.length < (L0 ++ [p]).length) : (L0 ++ [p])[L0.length] = p := by simp
theorem set_last (L0 : List (Nat × Nat)) (p q : Nat × Nat) : (L0 ++ [p]).set L0.length q = L0 ++ [q] := by simp
theorem elem_pp : ElemOK Tryd.prog 78 80 (.agg #[.int .u8 0, .int .u8 0]) 2 2 := ⟨Tryd.underlying78, info_parts (by kernel_rfl), rfl, by decide⟩
abbrev valsF (l : List (Fin 256)) : List Nat := l.map (·.val)
def SpansI (b B0 : Nat) (w : World) (pre : List (Fin 256)) (W : World) : Prop := (∃ (a : Option Addr) (cap : Nat), Box W (b + 1) #[.slice a (spansL (valsF pre)).length cap] 78 ∧ Own W B0 80 2 encQ (.slice a (spansL (valsF pre)).length cap) (spansL (valsF pre))) ∧ B0 ≤ W.heap.size ∧ Below b w W
set_option maxRecDepth 100000 in
set_option maxHeartbeats 2000000 in
theorem sets_Spans (s : BSet) (w : World) (hT : Tab w) : Calls Tryd.prog 36 #[.agg (setC s)] w (RetOwn w 80 2 encQ (spansL (elems s))) := by
  have hlen := elems_length s
  have hN := each_at s
  refine (callsIn_wide (n := 6)).1 ?_
  refine callsIn_of_wp_marks Tryd.func36 rfl trivial ?_ rfl
  simp only [Tryd.ntmps36, List.size_toArray, List.length_cons, List.length_nil, Nat.reduceAdd, Nat.reduceSub, Array.replicate_succ, Array.replicate_zero, List.push_toArray, List.append_toArray, List.nil_append, List.cons_append]
  gi_wp2_with (refine ⟨trivial, ?_⟩; gi_at_call 50; refine (callsIn_wide.2 (hN _)).mono ?_; rintro e w' ⟨rfl, rfl⟩)
  obtain ⟨W0, hW0⟩ : ∃ W0, (((w.alloc (.cells (setC s) 53)).alloc (.cells #[.slice none 0 0] 78)).alloc (.cells (setC s) 53)) = W0 := ⟨_, rfl⟩
  have hB0 : Below w.heap.size w W0 := by rw [← hW0]; go_grown
  have hsz0 : W0.heap.size = w.heap.size + 1 + 1 + 1 := by rw [← hW0]; simp
  have hbt : Box W0 (w.heap.size + 1 + 1) (setC s) 53 := by rw [← hW0]; exact Box.new' (by simp) _ _
  have hn0 : Box W0 (w.heap.size + 1) #[.slice none 0 0] 78 := by rw [← hW0]; exact (Box.new' (by simp) _ _).alloc _
  rw [hW0]
  clear hW0
  have hpos := hT.pos
  have hst := each_stopsF 5 (w.heap.size + 1 + 1) (fun b => b = w.heap.size + 1 ∨ W0.heap.size ≤ b) s W0 (by omega) (hT.kept hB0) hbt
  refine wpIn_rangeFunc_ownF rfl (by decide) (gf := 62) (lb := #[.pointer (some ⟨w.heap.size + 1 + 1, 0, none⟩)]) rfl trivial (enters_of Tryd.func62 (by kernel_rfl) rfl)
    hst (fun h k => h.trans k) keepC_b (Below.refl _ _) (fun _ => rfl)
    (SpansI w.heap.size W0.heap.size w) (fun _ _ _ => False)
    (OwnFrom.and (fun pre W W' row ⟨a, cap, h1, h2⟩ hg hr => ⟨a, cap, ownFrom_box _ _ _ (fun _ : Unit => #[.slice a (spansL (valsF pre)).length cap]) () W W' row h1 hg hr, ownFrom_own _ _ _ _ _ (fun _ : Unit => .slice a (spansL (valsF pre)).length cap) (fun _ => spansL (valsF pre)) () W W' row h2 hg hr⟩)
      (OwnFrom.and (fun _ _ _ _ h hg _ => Nat.le_trans h hg.size) (ownFrom_below (Nat.le_refl _) (by omega))))
    (fun _ => ownFrom_false _) ⟨⟨none, 0, hn0, Own.nil _ _ _ _ _⟩, Nat.le_refl _, hB0⟩
    (fun x => { tmps := #[.agg (setC s), .pointer (some ⟨w.heap.size, 0, none⟩), .slice none 0 0, .pointer (some ⟨w.heap.size + 1, 0, none⟩), .int .u8 (x.val : Nat), undef, .agg (setC s), .func (.func 62) #[] #[.pointer (some ⟨w.heap.size + 1 + 1, 0, none⟩)], .int .u8 (x.val : Nat), undef, undef, undef, undef, undef, undef, undef, undef, undef, undef, undef, undef, undef, undef, undef, undef, undef, undef, undef, undef, undef, undef, undef, undef, undef, undef, undef, undef, undef, undef], defers := [] }) ?assign ?body ?done ?stop
  case assign =>
    intro l x W K hK
    dsimp only [encF]
    go_simp
    gi_wp2
    exact hK
  case body =>
    rintro l pre ⟨x, hx⟩ W ⟨⟨a, cap, hb, hown⟩, hWs, hB⟩ hlt
    rw [hsz0] at hown hWs
    clear hst hbt hn0 hN hT
    have c0 := hb.cell 0
    have f0 := hb.free 0
    have hsn : spansL (valsF (pre ++ [⟨x, hx⟩])) = addSpan (spansL (valsF pre)) x := by simp [valsF, spansL_snoc]
    have hl1 : (spansL (valsF pre)).length ≤ pre.length := by have := spansL_length (valsF pre); simpa [valsF] using this
    have hle : (spansL (valsF pre)).length + 1 ≤ 256 := by omega
    have hsl : ∀ p ∈ spansL (valsF pre), p.1 < 256 ∧ p.2 < 256 := spansL_lt _ fun y hy => by
      obtain ⟨z, _, rfl⟩ := List.mem_map.1 hy; exact z.isLt
    have HS := Lib.hid hsn
    clear hsn hl1
    generalize spansL (valsF pre) = L at *
    rcases List.eq_nil_or_concat L with rfl | ⟨L0, ⟨lo, hi⟩, rfl⟩
    · rw [show addSpan [] x = [(x, x)] from rfl] at HS
      gi_wp2_with (gi_at_builtin; go_must (refine wpListIn_append1 rfl _ _ 78 rfl elem_pp encQ_ok rfl (hown.alloc _) ⟨W.heap.size, 0, none⟩ 1 (x, x) rfl (new_cells W [.int .u8 (x : Nat), .int .u8 (x : Nat)] _) (by simp [maxLen]) (by simp) (by simp; omega) ?_; intro a' cap' W' hown' hg; change (W.alloc _).grownBy W' (Value.slice a 0 cap).ownBlock at hg; have hbs := (hb.alloc _).grown (hown.alloc _) hg (by omega); have hfs := hbs.free 0; have hcs := hbs.cell 0))
      refine ⟨((KeepsOthers.alloc _ _).trans (KeepsOthers.grownOwn (hown.alloc _) hg)).trans (KeepsOthers.setCell _ _ _), ((KeepC.below ((Below.refl _ W).alloc (Nat.le_refl _) _)).trans (KeepC.grown (hown.alloc _) hg (fun b hb => .inr (by omega)))).trans (KeepC.set _ _ _ (.inl rfl)), ⟨a', cap', ?_, ?_⟩, ?_, ?_⟩
      · rw [HS.out]; exact hbs.set 0 _
      · rw [HS.out]
        rw [hsz0]
        exact hown'.other ⟨w.heap.size + 1, 0, none⟩ (.slice a' (0 + 1) cap') (by simp)
      · have := hg.size; simp at this ⊢; omega
      · exact (below_grown (hB.alloc hB.size _) (hown.alloc _) hg (by omega) (by simp; omega)).setCell (by simp) _
    · have hl0 : L0.length + 2 ≤ 256 := by simpa using hle
      rw [List.concat_eq_append] at HS hb hown hsl hle
      have hlh := hsl (lo, hi) (by simp)
      obtain ⟨hlo, hhi⟩ := hlh
      change lo < 256 at hlo
      change hi < 256 at hhi
      clear hsl
      have hlen2 : (L0 ++ [(lo, hi)]).length = L0.length + 1 := by simp
      rw [hlen2] at hb hown
      clear c0
      have c0 := hb.cell 0
      obtain ⟨g, rfl, hg1, hg2⟩ := hown.addr (by simp)
      obtain ⟨k1, k2, _, _⟩ := hown.cellAt (i := L0.length) (j := 1) (by simp) (by decide)
      rw [show (L0 ++ [(lo, hi)])[L0.length]'(by simp) = (lo, hi) by simp] at k1
      rw [show (encQ (lo, hi))[1]? = some (.int .u8 (hi : Nat)) from rfl] at k1
      by_cases hc : hi + 1 = x
      · have e := addSpan_on L0 lo hi x hc
        rw [e] at HS
        clear e
        have hcd := beq_t hc
        gi_wp2
        have o := hown.store1 (i := L0.length) (j := 1) (by simp) (by decide) (lo, x) (.int .u8 (x : Nat)) (fun k hk => by
          rw [show (L0 ++ [(lo, hi)])[L0.length]'(by simp) = (lo, hi) by simp]
          match k, hk with
          | 0, _ => rfl
          | 1, _ => rfl)
        rw [show (L0 ++ [(lo, hi)]).set L0.length (lo, x) = L0 ++ [(lo, x)] by simp] at o
        have hL2 : (L0 ++ [(lo, x)]).length = L0.length + 1 := by simp
        refine ⟨KeepsOthers.setCell _ _ _, KeepC.set _ _ _ (.inr (by rw [hsz0]; exact hg1)), ⟨some ⟨g, 0, none⟩, cap, ?_, ?_⟩, by rw [hsz0]; simpa using hWs, hB.setCell (show w.heap.size ≤ g by omega) _⟩
        · rw [HS.out, hL2]; exact hb.other _ _ (show w.heap.size + 1 ≠ g by omega)
        · rw [HS.out, hL2, hsz0]; exact o
      · have e := addSpan_new L0 lo hi x hc
        rw [e] at HS
        clear e
        have hcd := beq_f hc
        have hL3 : (L0 ++ [(lo, hi)] ++ [(x, x)]).length = L0.length + 1 + 1 := by simp
        clear hc
        gi_wp2_with (gi_at_builtin; go_must (refine wpListIn_append1 rfl _ _ 78 rfl elem_pp encQ_ok rfl (hown.alloc _) ⟨W.heap.size, 0, none⟩ 1 (x, x) rfl (new_cells W [.int .u8 (x : Nat), .int .u8 (x : Nat)] _) (by simp [maxLen]; omega) (by simp; omega) (by simp; omega) ?_; intro a' cap' W' hown' hg; rw [hlen2] at hown'; change (W.alloc _).grownBy W' (Value.slice (some ⟨g, 0, none⟩) (L0.length + 1) cap).ownBlock at hg; have hbs := (hb.alloc _).grown (hown.alloc _) hg (by omega); have hfs := hbs.free 0; have hcs := hbs.cell 0))
        refine ⟨((KeepsOthers.alloc _ _).trans (KeepsOthers.grownOwn (hown.alloc _) hg)).trans (KeepsOthers.setCell _ _ _), ((KeepC.below ((Below.refl _ W).alloc (Nat.le_refl _) _)).trans (KeepC.grown (hown.alloc _) hg (fun b hb => .inr (by omega)))).trans (KeepC.set _ _ _ (.inl rfl)), ⟨a', cap', ?_, ?_⟩, ?_, ?_⟩
        · rw [HS.out, hL3]; exact hbs.set 0 _
        · rw [HS.out, hL3, hsz0]
          exact hown'.other ⟨w.heap.size + 1, 0, none⟩ (.slice a' (L0.length + 1 + 1) cap') (by simp)
        · have := hg.size; simp at this ⊢; omega
        · exact (below_grown (hB.alloc hB.size _) (hown.alloc _) hg (by omega) (by simp; omega)).setCell (by simp) _
  case done =>
    rintro D ys W hD hys ⟨⟨a, cap, hb, hown⟩, hWs, hB⟩ hK
    rw [show valsF ys = elems s from hys] at hb hown
    have c0 := hb.cell 0
    gi_wp2
    refine ⟨by simp, .inl ⟨_, _, rfl, run_takeDeferred hK, ?_⟩⟩
    refine ⟨_, results_tmp rfl _ _ _, a, cap, rfl, ?_, hB.trans (belowK_b (w := w) (Nat.le_refl _) W D _ _ (by omega) hK rfl rfl)⟩
    exact (ownFrom_own W0.heap.size W0.heap.size 80 2 encQ (fun _ : Unit => .slice a (spansL (elems s)).length cap) (fun _ => spansL (elems s)) () _ _ (some D) hown (grownBy_putObj' _ D (.deferred none)) (fun r e => by cases e; exact ⟨by omega, _, hK, rfl⟩)).mono (by omega)
  case stop =>
    rintro D c pre W _ _ h _
    exact h.elim
end Go.Proofs.YtdhmekpgplajmaaDoor
end
section
namespace Go.Proofs.YtdhmekpgplajmaaDoor
open Go.RowKit

/-- What the document takes of two sets: 0 what is in one, 1 in both, 2 in the first one alone. -/
def twoB (k : Nat) (x y : Bool) : Bool := match k with | 0 => x || y | 1 => x && y | _ => x && !y
def twoS (k : Nat) (a b : BSet) : BSet := ofP fun c => twoB k (mem a c) (mem b c)
def twoU (k : Nat) (a b : BSet) (j : Nat) : BSet := ofP fun c => decide (c < j) && twoB k (mem a c) (mem b c)
theorem twoU_zero (k : Nat) (a b : BSet) : twoU k a b 0 = 0 := (eq_ofP 0 _ fun c _ => by rw [mem_zero]; simp).symm
theorem twoU_end (k : Nat) (a b : BSet) : twoU k a b 256 = twoS k a b := ofP_congr fun c hc => by simp [hc]
theorem twoU_yes {k : Nat} {a b : BSet} {j : Nat} {x y : Bool} (hj : j < 256) (hx : mem a j = x) (hy : mem b j = y) (h : twoB k x y = true) : twoU k a b (j + 1) = withB (twoU k a b j) j := by
  unfold twoU
  rw [ofP_withB _ _ hj]
  refine ofP_congr fun c _ => ?_
  by_cases hc : j = c
  · subst hc; simp [hx, hy, h]
  · have : decide (c < j + 1) = decide (c < j) := by rw [decide_eq_decide]; omega
    simp [hc, this]
theorem twoU_no {k : Nat} {a b : BSet} {j : Nat} {x y : Bool} (hx : mem a j = x) (hy : mem b j = y) (h : twoB k x y = false) : twoU k a b (j + 1) = twoU k a b j := by
  unfold twoU
  refine ofP_congr fun c _ => ?_
  by_cases hc : j = c
  · subst hc; simp [hx, hy, h]
  · have : decide (c < j + 1) = decide (c < j) := by rw [decide_eq_decide]; omega
    simp [this]
theorem twoS_or (a b : BSet) : twoS 0 a b = a ||| b := (eq_ofP _ _ fun c _ => mem_or a b c).symm
theorem twoS_and (a b : BSet) : twoS 1 a b = a &&& b := (eq_ofP _ _ fun c _ => mem_and a b c).symm
theorem twoS_less (a b : BSet) : twoS 2 a b = a &&& ~~~b := (eq_ofP _ _ fun c hc => by rw [mem_and, mem_not _ _ hc]; rfl).symm
end Go.Proofs.YtdhmekpgplajmaaDoor
end
section
namespace Go.Proofs.YtdhmekpgplajmaaDoor
open Go.RowKit

theorem Box.rangeS {w : World} {b E : Nat} {s : BSet} (h : Box w b (setC s) E) : w.rangeAt b 0 (encS s) := fun j v hv => by
  rw [Nat.zero_add, h.cell]; simpa using hv
theorem all_set : (ofP fun b => decide (0 ≤ b) && decide (b ≤ 255)) = ~~~(0 : BSet) := (eq_ofP _ _ fun b hb => by rw [mem_not _ _ hb, mem_zero]; simp; omega).symm
theorem all_less (s : BSet) : twoS 2 (~~~(0 : BSet)) s = ~~~s := by
  rw [twoS_less]; exact set_ext fun b hb => by rw [mem_and, mem_not _ _ hb, mem_not _ _ hb, mem_zero]; rfl
theorem setC_all (s : BSet) : (setC s).all (·.oneCell') = true := by simp [setC, Value.oneCell']
/-- The bytes of a set below a bound. -/
def elemsU (s : BSet) (j : Nat) : List Nat := (List.range j).filter (mem s)
theorem elemsU_succ (s : BSet) (j : Nat) : elemsU s (j + 1) = if mem s j then elemsU s j ++ [j] else elemsU s j := by
  unfold elemsU
  rw [List.range_succ, List.filter_append]
  cases h : mem s j <;> simp [h]
theorem elemsU_length (s : BSet) (j : Nat) : (elemsU s j).length ≤ j := by
  have := List.length_filter_le (mem s) (List.range j)
  simpa [elemsU] using this
theorem elemsU_end (s : BSet) : elemsU s 256 = elems s := rfl
end Go.Proofs.YtdhmekpgplajmaaDoor
end
section
namespace Go.Proofs.YtdhmekpgplajmaaDoor
open Go.RowKit

/-- Where a piece begins, and where it ends. -/
def begs (s : BSet) (j : Nat) : Bool := decide (j = 0) || !mem s (j - 1)
def ends (s : BSet) (j : Nat) : Bool := decide (j = 255) || !mem s (j + 1)
def spansU (s : BSet) : Nat → List (Nat × Nat) × Nat
  | 0 => ([], 0)
  | j + 1 => match mem s j, begs s j, ends s j with
    | false, _, _ => spansU s j
    | true, true, true => ((spansU s j).1 ++ [(j, j)], j)
    | true, true, false => ((spansU s j).1, j)
    | true, false, true => ((spansU s j).1 ++ [((spansU s j).2, j)], (spansU s j).2)
    | true, false, false => spansU s j
theorem spansU_lo (s : BSet) : ∀ j, (spansU s j).2 ≤ j
  | 0 => Nat.le_refl _
  | j + 1 => by
    have h := spansU_lo s j
    rw [spansU]; split <;> simp <;> omega
theorem spansU_len (s : BSet) : ∀ j, (spansU s j).1.length ≤ j
  | 0 => Nat.le_refl _
  | j + 1 => by
    have h := spansU_len s j
    rw [spansU]; split <;> simp <;> omega
theorem addSpan_nil (b : Nat) : addSpan [] b = [(b, b)] := rfl
theorem addSpan_last (l : List (Nat × Nat)) (b : Nat) : ∃ lo, (addSpan l b).getLast? = some (lo, b) := by
  unfold addSpan
  split
  · exact ⟨b, rfl⟩
  · rename_i p hp
    split
    · exact ⟨p.1, by simp⟩
    · exact ⟨b, by simp⟩
theorem spansL_last (xs : List Nat) (b : Nat) : ∃ lo, (spansL (xs ++ [b])).getLast? = some (lo, b) := by
  rw [spansL_snoc]; exact addSpan_last _ _
theorem elemsU_below (s : BSet) (j : Nat) : ∀ x ∈ elemsU s j, x < j := fun x hx => by
  unfold elemsU at hx
  simpa using (List.mem_filter.1 hx).1
/-- The last piece so far ends at the byte ahead just if that is in the set. -/
theorem spansL_elemsU_last (s : BSet) (j : Nat) : (begs s j = true → addSpan (spansL (elemsU s j)) j = spansL (elemsU s j) ++ [(j, j)]) := by
  intro hb
  rcases List.eq_nil_or_concat (elemsU s j) with h | ⟨ys, y, h⟩
  · rw [h]; rfl
  · rw [List.concat_eq_append] at h
    obtain ⟨lo, hl⟩ := spansL_last ys y
    rw [← h] at hl
    unfold addSpan
    rw [hl]
    simp only
    rw [if_neg]
    intro e
    have hy : y ∈ elemsU s j := by rw [h]; simp
    have hm := (List.mem_filter.1 (show y ∈ (List.range j).filter (mem s) from hy)).2
    unfold begs at hb
    rw [Bool.or_eq_true, decide_eq_true_eq] at hb
    rcases hb with rfl | hb
    · omega
    · rw [show j - 1 = y by omega, hm] at hb; cases hb
def OpenAt (s : BSet) (j : Nat) : Prop := 0 < j ∧ mem s (j - 1) = true ∧ j ≠ 256 ∧ mem s j = true
/-- What the document has, and what has come so far. -/
theorem spansU_spansL (s : BSet) : ∀ j, j ≤ 256 → (OpenAt s j ∧ spansL (elemsU s j) = (spansU s j).1 ++ [((spansU s j).2, j - 1)]) ∨ (¬ OpenAt s j ∧ spansL (elemsU s j) = (spansU s j).1)
  | 0, _ => .inr ⟨fun h => absurd h.1 (by decide), rfl⟩
  | j + 1, hj => by
    have ih := spansU_spansL s j (by omega)
    rw [elemsU_succ]
    by_cases hm : mem s j = true
    · rw [if_pos hm, spansL_snoc]
      have hend : ends s j = true ↔ ¬ OpenAt s (j + 1) := by
        unfold ends OpenAt
        rw [Bool.or_eq_true, decide_eq_true_eq, Nat.add_sub_cancel]
        cases h : mem s (j + 1)
        · simp
        · simp [hm]
      have hbeg : begs s j = true ↔ ¬ OpenAt s j := by
        unfold begs OpenAt
        rw [Bool.or_eq_true, decide_eq_true_eq]
        cases h : mem s (j - 1)
        · simp
        · simp [hm]; omega
      rw [spansU, hm]
      rcases ih with ⟨ho, he⟩ | ⟨ho, he⟩
      · have hb : begs s j = false := by rw [Bool.eq_false_iff]; exact fun h => hbeg.1 h ho
        have e : addSpan (spansL (elemsU s j)) j = (spansU s j).1 ++ [((spansU s j).2, j)] := by
          rw [he]; exact addSpan_on _ _ _ _ (by have := ho.1; omega)
        rw [e, hb]
        cases hE : ends s j
        · exact .inl ⟨Classical.byContradiction (fun h => by rw [hend.2 h] at hE; cases hE), rfl⟩
        · exact .inr ⟨hend.1 hE, rfl⟩
      · have hb : begs s j = true := hbeg.2 ho
        have e := spansL_elemsU_last s j hb
        rw [e, hb, he]
        cases hE : ends s j
        · exact .inl ⟨Classical.byContradiction (fun h => by rw [hend.2 h] at hE; cases hE), rfl⟩
        · exact .inr ⟨hend.1 hE, rfl⟩
    · have hm' : mem s j = false := by simpa using hm
      rw [if_neg hm, spansU, hm']
      have hn : ¬ OpenAt s j := fun h => hm h.2.2.2
      have hn1 : ¬ OpenAt s (j + 1) := fun h => hm (by have := h.2.1; rwa [Nat.add_sub_cancel] at this)
      rcases ih with ⟨ho, _⟩ | ⟨_, he⟩
      · exact absurd ho hn
      · exact .inr ⟨hn1, he⟩
theorem spansU_end (s : BSet) : (spansU s 256).1 = spansL (elems s) := by
  rcases spansU_spansL s 256 (Nat.le_refl _) with ⟨ho, _⟩ | ⟨_, he⟩
  · exact absurd rfl ho.2.2.1
  · exact he.symm
theorem begs_ways (s : BSet) (j : Nat) : (((j : Int) == 0) = true ∧ begs s j = true) ∨ (((j : Int) == 0) = false ∧ 0 < j ∧ mem s (j - 1) = false ∧ begs s j = true) ∨ (((j : Int) == 0) = false ∧ 0 < j ∧ mem s (j - 1) = true ∧ begs s j = false) := by
  unfold begs
  by_cases h : j = 0
  · subst h; exact .inl ⟨rfl, rfl⟩
  · have h2 : ((j : Int) == 0) = false := by rw [beq_eq_false_iff_ne]; omega
    cases hm : mem s (j - 1)
    · exact .inr (.inl ⟨h2, by omega, rfl, by simp⟩)
    · exact .inr (.inr ⟨h2, by omega, rfl, by simp [h]⟩)
theorem ends_ways (s : BSet) (j : Nat) : (((j : Int) == 255) = true ∧ ends s j = true) ∨ (((j : Int) == 255) = false ∧ (j ≠ 255) ∧ mem s (j + 1) = false ∧ ends s j = true) ∨ (((j : Int) == 255) = false ∧ (j ≠ 255) ∧ mem s (j + 1) = true ∧ ends s j = false) := by
  unfold ends
  by_cases h : j = 255
  · subst h; exact .inl ⟨rfl, rfl⟩
  · have h2 : ((j : Int) == 255) = false := by rw [beq_eq_false_iff_ne]; omega
    cases hm : mem s (j + 1)
    · exact .inr (.inl ⟨h2, h, rfl, by simp⟩)
    · exact .inr (.inr ⟨h2, h, rfl, by simp [h]⟩)
end Go.Proofs.YtdhmekpgplajmaaDoor
end
section
namespace Go.Proofs.YtdhmekpgplajmaaDoor
open Go.ChangeShapes Go.WideShapes Go.ChangeAt Go.RowKit
theorem own : ownKnob Tryd.prog.godebug = none := by kernel_rfl
theorem laidOut : laidOutB Tryd.prog = true := by kernel_rfl
theorem gTab : Tryd.prog.globalNamed "math/bits.deBruijn64tab" = some 1 := by kernel_rfl
theorem gTabType : (Tryd.prog.globals[1]?).map (·.type) = some 124 := by kernel_rfl
theorem tab_of_tabIs {W : World} (h : Lib.TabIs Tryd.prog W "math/bits.deBruijn64tab" .u8 (Lib.deBruijn64tab.map fun (x : Nat) => (x : Int))) : Tab W := fun j hj => by
  have := h.cell gTab j (by simpa [Lib.deBruijn64tab] using hj)
  rw [this]
  have e : (Lib.deBruijn64tab.map fun (x : Nat) => (x : Int)).getD j 0 = ((Lib.deBruijn64tab.getD j 0 : Nat) : Int) := by
    simp only [List.getD, List.getElem?_map]
    cases Lib.deBruijn64tab[j]? <;> rfl
  rw [e]
/-- A world for the witnesses: the settled one, the table (block 0) holding what its initialiser lays. -/
noncomputable def laidWorld (os : Os) : World :=
  { World.holding Tryd.prog os ⟨#[], #[], []⟩ with heap := (World.holding Tryd.prog os ⟨#[], #[], []⟩).heap.modify 1 fun
      | .cells _ t frozen => .cells (Lib.deBruijn64tab.map fun (x : Nat) => Value.int .u8 x).toArray t frozen
      | o => o }
end Go.Proofs.YtdhmekpgplajmaaDoor
end
