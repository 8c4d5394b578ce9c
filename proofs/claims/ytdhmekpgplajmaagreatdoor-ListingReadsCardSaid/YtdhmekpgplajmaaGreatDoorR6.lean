/- Joined by tools/merge.py: RefSpans, Card. -/
import Derived.Test.YtdhmekpgplajmaaGreatDoorR5
import Derived.Test.YtdhmekpgplajmaaGreatDoorCards
import Derived.Test.YtdhmekpgplajmaaGreatDoorTie
import Derived.Test.YtdhmekpgplajmaaGreatDoorR3
import Derived.Deep.DeepHandedRow
import Derived.Lib.LaidTab
section
namespace Go.Proofs.YtdhmekpgplajmaaGreatDoor
open Go.RowKit

/-- Where a piece begins, and where it ends. -/
def begs (s : BSet) (j : Nat) : Bool := decide (j = 0) || !mem s (j - 1)
def ends (s : BSet) (j : Nat) : Bool := decide (j = 255) || !mem s (j + 1)
def spansU (s : BSet) : Nat → List (Nat × Nat) × Nat
  | 0 => ([], 0)
  | j + 1 => match mem s j, begs s j, ends s j with
    | false, _, _ => spansU s j
    | true, true, true => ((spansU s j).1 ++ [(j, j)], j)
    | true, true, false => ((spansU s j).1, j)
    | true, false, true => ((spansU s j).1 ++ [((spansU s j).2, j)], (spansU s j).2)
    | true, false, false => spansU s j
theorem spansU_lo (s : BSet) : ∀ j, (spansU s j).2 ≤ j
  | 0 => Nat.le_refl _
  | j + 1 => by
    have h := spansU_lo s j
    rw [spansU]; split <;> simp <;> omega
theorem spansU_len (s : BSet) : ∀ j, (spansU s j).1.length ≤ j
  | 0 => Nat.le_refl _
  | j + 1 => by
    have h := spansU_len s j
    rw [spansU]; split <;> simp <;> omega
theorem addSpan_nil (b : Nat) : addSpan [] b = [(b, b)] := rfl
theorem addSpan_last (l : List (Nat × Nat)) (b : Nat) : ∃ lo, (addSpan l b).getLast? = some (lo, b) := by
  unfold addSpan
  split
  · exact ⟨b, rfl⟩
  · rename_i p hp
    split
    · exact ⟨p.1, by simp⟩
    · exact ⟨b, by simp⟩
theorem spansL_last (xs : List Nat) (b : Nat) : ∃ lo, (spansL (xs ++ [b])).getLast? = some (lo, b) := by
  rw [spansL_snoc]; exact addSpan_last _ _
/-- The last piece so far ends at the byte ahead just if that is in the set. -/
theorem spansL_elemsU_last (s : BSet) (j : Nat) : (begs s j = true → addSpan (spansL (elemsU s j)) j = spansL (elemsU s j) ++ [(j, j)]) := by
  intro hb
  rcases List.eq_nil_or_concat (elemsU s j) with h | ⟨ys, y, h⟩
  · rw [h]; rfl
  · rw [List.concat_eq_append] at h
    obtain ⟨lo, hl⟩ := spansL_last ys y
    rw [← h] at hl
    unfold addSpan
    rw [hl]
    simp only
    rw [if_neg]
    intro e
    have hy : y ∈ elemsU s j := by rw [h]; simp
    have hm := (List.mem_filter.1 (show y ∈ (List.range j).filter (mem s) from hy)).2
    unfold begs at hb
    rw [Bool.or_eq_true, decide_eq_true_eq] at hb
    rcases hb with rfl | hb
    · omega
    · rw [show j - 1 = y by omega, hm] at hb; cases hb
def OpenAt (s : BSet) (j : Nat) : Prop := 0 < j ∧ mem s (j - 1) = true ∧ j ≠ 256 ∧ mem s j = true
/-- What the document has, and what has come so far. -/
theorem spansU_spansL (s : BSet) : ∀ j, j ≤ 256 → (OpenAt s j ∧ spansL (elemsU s j) = (spansU s j).1 ++ [((spansU s j).2, j - 1)]) ∨ (¬ OpenAt s j ∧ spansL (elemsU s j) = (spansU s j).1)
  | 0, _ => .inr ⟨fun h => absurd h.1 (by decide), rfl⟩
  | j + 1, hj => by
    have ih := spansU_spansL s j (by omega)
    rw [elemsU_succ]
    by_cases hm : mem s j = true
    · rw [if_pos hm, spansL_snoc]
      have hend : ends s j = true ↔ ¬ OpenAt s (j + 1) := by
        unfold ends OpenAt
        rw [Bool.or_eq_true, decide_eq_true_eq, Nat.add_sub_cancel]
        cases h : mem s (j + 1)
        · simp
        · simp [hm]
      have hbeg : begs s j = true ↔ ¬ OpenAt s j := by
        unfold begs OpenAt
        rw [Bool.or_eq_true, decide_eq_true_eq]
        cases h : mem s (j - 1)
        · simp
        · simp [hm]; omega
      rw [spansU, hm]
      rcases ih with ⟨ho, he⟩ | ⟨ho, he⟩
      · have hb : begs s j = false := by rw [Bool.eq_false_iff]; exact fun h => hbeg.1 h ho
        have e : addSpan (spansL (elemsU s j)) j = (spansU s j).1 ++ [((spansU s j).2, j)] := by
          rw [he]; exact addSpan_on _ _ _ _ (by have := ho.1; omega)
        rw [e, hb]
        cases hE : ends s j
        · exact .inl ⟨Classical.byContradiction (fun h => by rw [hend.2 h] at hE; cases hE), rfl⟩
        · exact .inr ⟨hend.1 hE, rfl⟩
      · have hb : begs s j = true := hbeg.2 ho
        have e := spansL_elemsU_last s j hb
        rw [e, hb, he]
        cases hE : ends s j
        · exact .inl ⟨Classical.byContradiction (fun h => by rw [hend.2 h] at hE; cases hE), rfl⟩
        · exact .inr ⟨hend.1 hE, rfl⟩
    · have hm' : mem s j = false := by simpa using hm
      rw [if_neg hm, spansU, hm']
      have hn : ¬ OpenAt s j := fun h => hm h.2.2.2
      have hn1 : ¬ OpenAt s (j + 1) := fun h => hm (by have := h.2.1; rwa [Nat.add_sub_cancel] at this)
      rcases ih with ⟨ho, _⟩ | ⟨_, he⟩
      · exact absurd ho hn
      · exact .inr ⟨hn1, he⟩
theorem spansU_end (s : BSet) : (spansU s 256).1 = spansL (elems s) := by
  rcases spansU_spansL s 256 (Nat.le_refl _) with ⟨ho, _⟩ | ⟨_, he⟩
  · exact absurd rfl ho.2.2.1
  · exact he.symm
theorem begs_ways (s : BSet) (j : Nat) : (((j : Int) == 0) = true ∧ begs s j = true) ∨ (((j : Int) == 0) = false ∧ 0 < j ∧ mem s (j - 1) = false ∧ begs s j = true) ∨ (((j : Int) == 0) = false ∧ 0 < j ∧ mem s (j - 1) = true ∧ begs s j = false) := by
  unfold begs
  by_cases h : j = 0
  · subst h; exact .inl ⟨rfl, rfl⟩
  · have h2 : ((j : Int) == 0) = false := by rw [beq_eq_false_iff_ne]; omega
    cases hm : mem s (j - 1)
    · exact .inr (.inl ⟨h2, by omega, rfl, by simp⟩)
    · exact .inr (.inr ⟨h2, by omega, rfl, by simp [h]⟩)
theorem ends_ways (s : BSet) (j : Nat) : (((j : Int) == 255) = true ∧ ends s j = true) ∨ (((j : Int) == 255) = false ∧ (j ≠ 255) ∧ mem s (j + 1) = false ∧ ends s j = true) ∨ (((j : Int) == 255) = false ∧ (j ≠ 255) ∧ mem s (j + 1) = true ∧ ends s j = false) := by
  unfold ends
  by_cases h : j = 255
  · subst h; exact .inl ⟨rfl, rfl⟩
  · have h2 : ((j : Int) == 255) = false := by rw [beq_eq_false_iff_ne]; omega
    cases hm : mem s (j + 1)
    · exact .inr (.inl ⟨h2, h, rfl, by simp⟩)
    · exact .inr (.inr ⟨h2, h, rfl, by simp [h]⟩)
def SpansRel (s : BSet) (w wr : World) (v l i : Value) : Prop :=
  ∃ (j : Nat) (a : Option Addr) (cap : Nat), j ≤ 256 ∧ i = .int .i64 j ∧ l = .int .i64 ((spansU s j).2 : Nat) ∧ v = .slice a (spansU s j).1.length cap ∧ Box wr w.heap.size (setC s) 43 ∧
    Own wr (w.heap.size + 1) 98 2 encQ (.slice a (spansU s j).1.length cap) (spansU s j).1 ∧ Below w.heap.size w wr
set_option maxRecDepth 20000 in
set_option maxHeartbeats 3200000 in
theorem ref_Spans (s : BSet) (w : World) : Calls Tryz.prog 93 #[setV s] w (RetOwn w 98 2 encQ (spansL (elems s))) := by
  go_enter Tryz.func93, Tryz.ntmps93
  go_wp2
  go_loopw [3, 4, 5] (fun v l i wr => SpansRel s w wr v l i) (fun _ _ i _ => 256 - (intOf i).toNat)
  case atStart =>
    refine ⟨0, some ⟨w.heap.size + 1, 0, none⟩, 0, Nat.zero_le _, rfl, rfl, rfl, (Box.new' rfl _ _).alloc _, ?_, by go_grown⟩
    have := Own.empty (α := Nat × Nat) (w.alloc (.cells (setC s) 43)) (w.heap.size + 1) 98 2 encQ (by simp)
    rw [World.size_alloc] at this; exact this
  case round =>
    obtain ⟨j, a, cap, hj, rfl, rfl, rfl, hb, hown, hB⟩ := hrel
    by_cases hlt : j < 256
    · obtain ⟨⟨p0, p1, p2, p3⟩, _⟩ := hb.set4
      have HA := Lib.hid (fun w => ref_Has s j w hlt)
      have HP := Lib.hid (show 0 < j → ∀ w, Calls Tryz.prog 50 #[setV s, .int .i64 ((j : Int) - 1)] w (Ret w (.bool (mem s (j - 1)))) from fun h w => by
        have := ref_Has s (j - 1) w (by omega)
        rwa [show ((j - 1 : Nat) : Int) = (j : Int) - 1 by omega] at this)
      have HQ := Lib.hid (show j < 255 → ∀ w, Calls Tryz.prog 50 #[setV s, .int .i64 ((j : Int) + 1)] w (Ret w (.bool (mem s (j + 1)))) from fun h w => ref_Has s (j + 1) w (by omega))
      have hll := spansU_len s j
      have hlo := spansU_lo s j
      have HE := Lib.hid (show spansU s (j + 1) = match mem s j, begs s j, ends s j with
        | false, _, _ => spansU s j
        | true, true, true => ((spansU s j).1 ++ [(j, j)], j)
        | true, true, false => ((spansU s j).1, j)
        | true, false, true => ((spansU s j).1 ++ [((spansU s j).2, j)], (spansU s j).2)
        | true, false, false => spansU s j from rfl)
      have B := begs_ways s j
      have E := ends_ways s j
      have hdj : decide ((j : Int) < 256) = true := decide_eq_true (by omega)
      generalize begs s j = bb at *
      generalize ends s j = ee at *
      generalize mem s j = x at *
      generalize mem s (j - 1) = y at *
      generalize mem s (j + 1) = z at *
      obtain ⟨L, lo, hL⟩ : ∃ L lo, spansU s j = (L, lo) := ⟨_, _, rfl⟩
      rw [hL] at hll hlo HE hown ⊢
      clear hL
      dsimp only at hll hlo HE hown ⊢
      have hw1 : (lo : Int) ≤ 255 := by omega
      cases x with
      | false =>
        clear B E
        have HE2 := Lib.hid (show spansU s (j + 1) = (L, lo) from HE.out)
        go_wp2_with (go_at_call 50; go_must (refine (HA.out _).mono ?_; rintro e wz ⟨rfl, hbz⟩; have hB := hB.trans (hbz.mono hB.size); have hb := hb.kept hbz; have hown := hown.kept hbz))
        go_roundw
        case rel => exact ⟨j + 1, a, cap, hlt, by go_num, by rw [HE2.out], by rw [HE2.out], hb, by rw [HE2.out]; exact hown, hB⟩
        case measure => simp [intOf]; omega
      | true =>
        rcases B with ⟨b0, rfl⟩ | ⟨b0, bp, rfl, rfl⟩ | ⟨b0, bp, rfl, rfl⟩ <;> rcases E with ⟨e0, rfl⟩ | ⟨e0, ep, rfl, rfl⟩ | ⟨e0, ep, rfl, rfl⟩
        all_goals dsimp only at HE
        · have HE2 := Lib.hid (show spansU s (j + 1) = (L ++ [(j, j)], j) from HE.out)
          clear HE
          go_wp2_with fail
          refine (HA.out _).mono ?_
          rintro e wz ⟨rfl, hbz⟩; have hB := hB.trans (hbz.mono hB.size); have hb := hb.kept hbz; have hown := hown.kept hbz; obtain ⟨⟨p0, p1, p2, p3⟩, _⟩ := hb.set4
          go_wp2_with (at_builtin; go_must (refine wpList_append1 rfl _ _ 96 rfl elem_pp encQ_ok rfl (hown.alloc _) ⟨World.heap _ |>.size, 0, none⟩ 1 (j, j) rfl (new_cells _ [.int .u8 (j : Nat), .int .u8 (j : Nat)] _) (by simp [maxLen]; omega) (by omega) (by have := hb.lt; simp; omega) ?_; intro a2 cap2 w6 hown6 hgr6; have hB5 := below_grown (hB.alloc hB.size _) (hown.alloc _) hgr6 (by omega) (by have := hB.size; simp; omega); have hy0 := (hb.alloc (.cells #[.int .u8 (j : Nat), .int .u8 (j : Nat)] 98)).grownT (hown.alloc _) hgr6 (by decide)))
          go_roundw
          case rel => exact ⟨j + 1, a2, cap2, hlt, by go_num, by rw [HE2.out], by rw [HE2.out]; simp, hy0, by rw [HE2.out]; simpa using hown6, hB5⟩
          case measure => simp [intOf]; omega
        · have HE2 := Lib.hid (show spansU s (j + 1) = (L ++ [(j, j)], j) from HE.out)
          clear HE
          go_wp2_with fail
          refine (HA.out _).mono ?_
          rintro e wz ⟨rfl, hbz⟩; have hB := hB.trans (hbz.mono hB.size); have hb := hb.kept hbz; have hown := hown.kept hbz; obtain ⟨⟨p0, p1, p2, p3⟩, _⟩ := hb.set4
          go_wp2_with fail
          refine (HQ.out (by omega) _).mono ?_
          rintro e wz ⟨rfl, hbz⟩; have hB := hB.trans (hbz.mono hB.size); have hb := hb.kept hbz; have hown := hown.kept hbz; obtain ⟨⟨p0, p1, p2, p3⟩, _⟩ := hb.set4
          go_wp2_with (at_builtin; go_must (refine wpList_append1 rfl _ _ 96 rfl elem_pp encQ_ok rfl (hown.alloc _) ⟨World.heap _ |>.size, 0, none⟩ 1 (j, j) rfl (new_cells _ [.int .u8 (j : Nat), .int .u8 (j : Nat)] _) (by simp [maxLen]; omega) (by omega) (by have := hb.lt; simp; omega) ?_; intro a2 cap2 w6 hown6 hgr6; have hB5 := below_grown (hB.alloc hB.size _) (hown.alloc _) hgr6 (by omega) (by have := hB.size; simp; omega); have hy0 := (hb.alloc (.cells #[.int .u8 (j : Nat), .int .u8 (j : Nat)] 98)).grownT (hown.alloc _) hgr6 (by decide)))
          go_roundw
          case rel => exact ⟨j + 1, a2, cap2, hlt, by go_num, by rw [HE2.out], by rw [HE2.out]; simp, hy0, by rw [HE2.out]; simpa using hown6, hB5⟩
          case measure => simp [intOf]; omega
        · have HE2 := Lib.hid (show spansU s (j + 1) = (L, j) from HE.out)
          clear HE
          go_wp2_with fail
          refine (HA.out _).mono ?_
          rintro e wz ⟨rfl, hbz⟩; have hB := hB.trans (hbz.mono hB.size); have hb := hb.kept hbz; have hown := hown.kept hbz; obtain ⟨⟨p0, p1, p2, p3⟩, _⟩ := hb.set4
          go_wp2_with fail
          refine (HQ.out (by omega) _).mono ?_
          rintro e wz ⟨rfl, hbz⟩; have hB := hB.trans (hbz.mono hB.size); have hb := hb.kept hbz; have hown := hown.kept hbz; obtain ⟨⟨p0, p1, p2, p3⟩, _⟩ := hb.set4
          go_wp2_with fail
          go_roundw
          case rel => exact ⟨j + 1, a, cap, hlt, by go_num, by rw [HE2.out], by rw [HE2.out], hb, by rw [HE2.out]; exact hown, hB⟩
          case measure => simp [intOf]; omega
        · have HE2 := Lib.hid (show spansU s (j + 1) = (L ++ [(j, j)], j) from HE.out)
          clear HE
          go_wp2_with fail
          refine (HA.out _).mono ?_
          rintro e wz ⟨rfl, hbz⟩; have hB := hB.trans (hbz.mono hB.size); have hb := hb.kept hbz; have hown := hown.kept hbz; obtain ⟨⟨p0, p1, p2, p3⟩, _⟩ := hb.set4
          go_wp2_with fail
          refine (HP.out bp _).mono ?_
          rintro e wz ⟨rfl, hbz⟩; have hB := hB.trans (hbz.mono hB.size); have hb := hb.kept hbz; have hown := hown.kept hbz; obtain ⟨⟨p0, p1, p2, p3⟩, _⟩ := hb.set4
          go_wp2_with (at_builtin; go_must (refine wpList_append1 rfl _ _ 96 rfl elem_pp encQ_ok rfl (hown.alloc _) ⟨World.heap _ |>.size, 0, none⟩ 1 (j, j) rfl (new_cells _ [.int .u8 (j : Nat), .int .u8 (j : Nat)] _) (by simp [maxLen]; omega) (by omega) (by have := hb.lt; simp; omega) ?_; intro a2 cap2 w6 hown6 hgr6; have hB5 := below_grown (hB.alloc hB.size _) (hown.alloc _) hgr6 (by omega) (by have := hB.size; simp; omega); have hy0 := (hb.alloc (.cells #[.int .u8 (j : Nat), .int .u8 (j : Nat)] 98)).grownT (hown.alloc _) hgr6 (by decide)))
          go_roundw
          case rel => exact ⟨j + 1, a2, cap2, hlt, by go_num, by rw [HE2.out], by rw [HE2.out]; simp, hy0, by rw [HE2.out]; simpa using hown6, hB5⟩
          case measure => simp [intOf]; omega
        · have HE2 := Lib.hid (show spansU s (j + 1) = (L ++ [(j, j)], j) from HE.out)
          clear HE
          go_wp2_with fail
          refine (HA.out _).mono ?_
          rintro e wz ⟨rfl, hbz⟩; have hB := hB.trans (hbz.mono hB.size); have hb := hb.kept hbz; have hown := hown.kept hbz; obtain ⟨⟨p0, p1, p2, p3⟩, _⟩ := hb.set4
          go_wp2_with fail
          refine (HP.out bp _).mono ?_
          rintro e wz ⟨rfl, hbz⟩; have hB := hB.trans (hbz.mono hB.size); have hb := hb.kept hbz; have hown := hown.kept hbz; obtain ⟨⟨p0, p1, p2, p3⟩, _⟩ := hb.set4
          go_wp2_with fail
          refine (HQ.out (by omega) _).mono ?_
          rintro e wz ⟨rfl, hbz⟩; have hB := hB.trans (hbz.mono hB.size); have hb := hb.kept hbz; have hown := hown.kept hbz; obtain ⟨⟨p0, p1, p2, p3⟩, _⟩ := hb.set4
          go_wp2_with (at_builtin; go_must (refine wpList_append1 rfl _ _ 96 rfl elem_pp encQ_ok rfl (hown.alloc _) ⟨World.heap _ |>.size, 0, none⟩ 1 (j, j) rfl (new_cells _ [.int .u8 (j : Nat), .int .u8 (j : Nat)] _) (by simp [maxLen]; omega) (by omega) (by have := hb.lt; simp; omega) ?_; intro a2 cap2 w6 hown6 hgr6; have hB5 := below_grown (hB.alloc hB.size _) (hown.alloc _) hgr6 (by omega) (by have := hB.size; simp; omega); have hy0 := (hb.alloc (.cells #[.int .u8 (j : Nat), .int .u8 (j : Nat)] 98)).grownT (hown.alloc _) hgr6 (by decide)))
          go_roundw
          case rel => exact ⟨j + 1, a2, cap2, hlt, by go_num, by rw [HE2.out], by rw [HE2.out]; simp, hy0, by rw [HE2.out]; simpa using hown6, hB5⟩
          case measure => simp [intOf]; omega
        · have HE2 := Lib.hid (show spansU s (j + 1) = (L, j) from HE.out)
          clear HE
          go_wp2_with fail
          refine (HA.out _).mono ?_
          rintro e wz ⟨rfl, hbz⟩; have hB := hB.trans (hbz.mono hB.size); have hb := hb.kept hbz; have hown := hown.kept hbz; obtain ⟨⟨p0, p1, p2, p3⟩, _⟩ := hb.set4
          go_wp2_with fail
          refine (HP.out bp _).mono ?_
          rintro e wz ⟨rfl, hbz⟩; have hB := hB.trans (hbz.mono hB.size); have hb := hb.kept hbz; have hown := hown.kept hbz; obtain ⟨⟨p0, p1, p2, p3⟩, _⟩ := hb.set4
          go_wp2_with fail
          refine (HQ.out (by omega) _).mono ?_
          rintro e wz ⟨rfl, hbz⟩; have hB := hB.trans (hbz.mono hB.size); have hb := hb.kept hbz; have hown := hown.kept hbz; obtain ⟨⟨p0, p1, p2, p3⟩, _⟩ := hb.set4
          go_wp2_with fail
          go_roundw
          case rel => exact ⟨j + 1, a, cap, hlt, by go_num, by rw [HE2.out], by rw [HE2.out], hb, by rw [HE2.out]; exact hown, hB⟩
          case measure => simp [intOf]; omega
        · have HE2 := Lib.hid (show spansU s (j + 1) = (L ++ [(lo, j)], lo) from HE.out)
          clear HE
          go_wp2_with fail
          refine (HA.out _).mono ?_
          rintro e wz ⟨rfl, hbz⟩; have hB := hB.trans (hbz.mono hB.size); have hb := hb.kept hbz; have hown := hown.kept hbz; obtain ⟨⟨p0, p1, p2, p3⟩, _⟩ := hb.set4
          go_wp2_with fail
          refine (HP.out bp _).mono ?_
          rintro e wz ⟨rfl, hbz⟩; have hB := hB.trans (hbz.mono hB.size); have hb := hb.kept hbz; have hown := hown.kept hbz; obtain ⟨⟨p0, p1, p2, p3⟩, _⟩ := hb.set4
          go_wp2_with (at_builtin; go_must (refine wpList_append1 rfl _ _ 96 rfl elem_pp encQ_ok rfl (hown.alloc _) ⟨World.heap _ |>.size, 0, none⟩ 1 (lo, j) rfl (new_cells _ [.int .u8 (lo : Nat), .int .u8 (j : Nat)] _) (by simp [maxLen]; omega) (by omega) (by have := hb.lt; simp; omega) ?_; intro a2 cap2 w6 hown6 hgr6; have hB5 := below_grown (hB.alloc hB.size _) (hown.alloc _) hgr6 (by omega) (by have := hB.size; simp; omega); have hy0 := (hb.alloc (.cells #[.int .u8 (lo : Nat), .int .u8 (j : Nat)] 98)).grownT (hown.alloc _) hgr6 (by decide)))
          go_roundw
          case rel => exact ⟨j + 1, a2, cap2, hlt, by go_num, by rw [HE2.out], by rw [HE2.out]; simp, hy0, by rw [HE2.out]; simpa using hown6, hB5⟩
          case measure => simp [intOf]; omega
        · have HE2 := Lib.hid (show spansU s (j + 1) = (L ++ [(lo, j)], lo) from HE.out)
          clear HE
          go_wp2_with fail
          refine (HA.out _).mono ?_
          rintro e wz ⟨rfl, hbz⟩; have hB := hB.trans (hbz.mono hB.size); have hb := hb.kept hbz; have hown := hown.kept hbz; obtain ⟨⟨p0, p1, p2, p3⟩, _⟩ := hb.set4
          go_wp2_with fail
          refine (HP.out bp _).mono ?_
          rintro e wz ⟨rfl, hbz⟩; have hB := hB.trans (hbz.mono hB.size); have hb := hb.kept hbz; have hown := hown.kept hbz; obtain ⟨⟨p0, p1, p2, p3⟩, _⟩ := hb.set4
          go_wp2_with fail
          refine (HQ.out (by omega) _).mono ?_
          rintro e wz ⟨rfl, hbz⟩; have hB := hB.trans (hbz.mono hB.size); have hb := hb.kept hbz; have hown := hown.kept hbz; obtain ⟨⟨p0, p1, p2, p3⟩, _⟩ := hb.set4
          go_wp2_with (at_builtin; go_must (refine wpList_append1 rfl _ _ 96 rfl elem_pp encQ_ok rfl (hown.alloc _) ⟨World.heap _ |>.size, 0, none⟩ 1 (lo, j) rfl (new_cells _ [.int .u8 (lo : Nat), .int .u8 (j : Nat)] _) (by simp [maxLen]; omega) (by omega) (by have := hb.lt; simp; omega) ?_; intro a2 cap2 w6 hown6 hgr6; have hB5 := below_grown (hB.alloc hB.size _) (hown.alloc _) hgr6 (by omega) (by have := hB.size; simp; omega); have hy0 := (hb.alloc (.cells #[.int .u8 (lo : Nat), .int .u8 (j : Nat)] 98)).grownT (hown.alloc _) hgr6 (by decide)))
          go_roundw
          case rel => exact ⟨j + 1, a2, cap2, hlt, by go_num, by rw [HE2.out], by rw [HE2.out]; simp, hy0, by rw [HE2.out]; simpa using hown6, hB5⟩
          case measure => simp [intOf]; omega
        · have HE2 := Lib.hid (show spansU s (j + 1) = (L, lo) from HE.out)
          clear HE
          go_wp2_with fail
          refine (HA.out _).mono ?_
          rintro e wz ⟨rfl, hbz⟩; have hB := hB.trans (hbz.mono hB.size); have hb := hb.kept hbz; have hown := hown.kept hbz; obtain ⟨⟨p0, p1, p2, p3⟩, _⟩ := hb.set4
          go_wp2_with fail
          refine (HP.out bp _).mono ?_
          rintro e wz ⟨rfl, hbz⟩; have hB := hB.trans (hbz.mono hB.size); have hb := hb.kept hbz; have hown := hown.kept hbz; obtain ⟨⟨p0, p1, p2, p3⟩, _⟩ := hb.set4
          go_wp2_with fail
          refine (HQ.out (by omega) _).mono ?_
          rintro e wz ⟨rfl, hbz⟩; have hB := hB.trans (hbz.mono hB.size); have hb := hb.kept hbz; have hown := hown.kept hbz; obtain ⟨⟨p0, p1, p2, p3⟩, _⟩ := hb.set4
          go_wp2_with fail
          go_roundw
          case rel => exact ⟨j + 1, a, cap, hlt, by go_num, by rw [HE2.out], by rw [HE2.out], hb, by rw [HE2.out]; exact hown, hB⟩
          case measure => simp [intOf]; omega
    · obtain rfl : j = 256 := by omega
      rw [spansU_end] at hown ⊢
      go_wp2
      go_ret
      exact ⟨a, cap, rfl, hown.mono (by omega), hB⟩
end Go.Proofs.YtdhmekpgplajmaaGreatDoor
end
section
namespace Go.Proofs.YtdhmekpgplajmaaGreatDoor
open Go.ChangeShapes Go.WideShapes Go.ChangeAt Go.RowKit
theorem own : ownKnob Tryz.prog.godebug = none := by kernel_rfl
theorem laidOut : laidOutB Tryz.prog = true := by kernel_rfl
theorem gTab : Tryz.prog.globalNamed "math/bits.deBruijn64tab" = some 1 := by kernel_rfl
theorem gTabType : (Tryz.prog.globals[1]?).map (·.type) = some 146 := by kernel_rfl
theorem tab_of_tabIs {W : World} (h : Lib.TabIs Tryz.prog W "math/bits.deBruijn64tab" .u8 (Lib.deBruijn64tab.map fun (x : Nat) => (x : Int))) : Tab W := fun j hj => by
  have := h.cell gTab j (by simpa [Lib.deBruijn64tab] using hj)
  rw [this]
  have e : (Lib.deBruijn64tab.map fun (x : Nat) => (x : Int)).getD j 0 = ((Lib.deBruijn64tab.getD j 0 : Nat) : Int) := by
    simp only [List.getD, List.getElem?_map]
    cases Lib.deBruijn64tab[j]? <;> rfl
  rw [e]
/-- A world for the witnesses: the settled one, the table (block 0) holding what its initialiser lays. -/
noncomputable def laidWorld (os : Os) : World :=
  { World.holding Tryz.prog os ⟨#[], #[], []⟩ with heap := (World.holding Tryz.prog os ⟨#[], #[], []⟩).heap.modify 1 fun
      | .cells _ t frozen => .cells (Lib.deBruijn64tab.map fun (x : Nat) => Value.int .u8 x).toArray t frozen
      | o => o }
end Go.Proofs.YtdhmekpgplajmaaGreatDoor
end
