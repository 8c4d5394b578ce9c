/- Joined by tools/merge.py: Escape. -/
import Derived.Test.YtdhmekpgplajmaaGreatDoorR9
section
namespace Go.Proofs.YtdhmekpgplajmaaGreatDoor
open Go.RowKit
/-- What an escape at a place says: a fault and its place, or the byte and the place behind. -/
def escR (l : List UInt8) (i : Nat) : Sum (Nat × Nat) (Nat × Nat) :=
  if l.length ≤ i + 1 then .inl (14, i) else
  if (l.getD (i + 1) 0).toNat = 110 then .inr (10, i + 2) else
  if (l.getD (i + 1) 0).toNat = 116 then .inr (9, i + 2) else
  if (l.getD (i + 1) 0).toNat = 114 then .inr (13, i + 2) else
  if (l.getD (i + 1) 0).toNat = 120 then
    (if i + 4 ≤ l.length then (match hexV (l.getD (i + 2) 0).toNat, hexV (l.getD (i + 3) 0).toNat with | some x, some y => .inr (16 * x + y, i + 4) | _, _ => .inl (14, i)) else .inl (14, i)) else
  if (l.getD (i + 1) 0).toNat < 33 ∨ 126 < (l.getD (i + 1) 0).toNat ∨ alnumN (l.getD (i + 1) 0).toNat = true then .inl (14, i) else .inr ((l.getD (i + 1) 0).toNat, i + 2)
/-- What a reader's method leaves: the byte, or a fault. -/
def RetP (b g n cap fr p : Nat) (l : List UInt8) (w : World) (r : Sum (Nat × Nat) (Nat × Nat)) (e : Ending) (w' : World) : Prop :=
  match r with
  | .inr (c, j) => c < 256 ∧ j ≤ n ∧ RetRd b g n cap fr l w (.int .u8 c) j 0 p e w'
  | .inl (kd, ps) => ∃ c j : Nat, c < 256 ∧ j ≤ n ∧ RetRd b g n cap fr l w (.int .u8 c) j kd ps e w'
set_option maxHeartbeats 6400000 in
theorem reader_escape (b g n cap i fr p : Nat) (l : List UInt8) (w : World) (h : RdAt w b g n cap i fr 0 p l) (hi : i < n) :
    Calls Tryz.prog 126 #[.pointer (some ⟨b, 0, none⟩)] w (RetP b g n cap fr p l w (escR l i)) := by
  obtain ⟨hlen, hcap, hcap', hcell⟩ := h.sl.cellsA
  have hnb : n ≤ 9223372036854775807 := by omega
  obtain ⟨x0, x1, x2, x3, x4⟩ := h.cells
  have f1 := h.box.free 1
  have hw1 : IntKind.i64.wrap ((i : Int) + 1) = ((i + 1 : Nat) : Int) := by rw [IntWalk.i64_in _ (by omega)]; omega
  have hR1 := h.set (i + 1)
  have hO1 : Only b w (w.setCell ⟨b, 1, none⟩ (.int .i64 ((i + 1 : Nat) : Int))) := Only.set _ _ _
  unfold escR
  rw [← hlen]
  by_cases h0 : n ≤ i + 1
  · rw [if_pos h0]
    have e0 : (((n - (i + 1) : Nat) : Int) == 0) = true := by simp; omega
    go_enter Tryz.func126, Tryz.ntmps126
    go_wp2_with (first | (go_at_call 125; go_must (refine (place_left _ _ _ _ _ _ _ _ _ _ hR1 (by omega)).mono ?_; rintro e w3 ⟨rfl, hB3⟩; have hR3 := hR1.kept hB3; have hO3 := hO1.trans (Only.below hB3 (Nat.le_of_lt hR1.box.lt)))) | (go_at_call 117; go_must (refine (reader_fail _ _ _ _ _ _ _ _ _ 14 i _ hR3).mono ?_; rintro e w4 ⟨rfl, hR4, hO4⟩)))
    go_ret
    exact ⟨0, i + 1, by omega, by omega, rfl, hR4, hO3.trans hO4⟩
  · rw [if_neg h0]
    have e0 : (((n - (i + 1) : Nat) : Int) == 0) = false := by simp; omega
    have hk : i + 1 < l.length := by omega
    have hgd : l.getD (i + 1) 0 = l[i + 1] := by simp [List.getD_eq_getElem?_getD, hk]
    rw [hgd]
    have hc0 := fun (v : World) (hr : RdAt v b g n cap (i + 1) fr 0 p l) => by have := hr.sl.cellsA.2.2.2 (i + 1) hk v (Below.refl _ _); rw [Nat.zero_add] at this; exact this
    generalize l[i + 1] = c at *
    have hc256 := c.toNat_lt
    have HC := Lib.hid hc0
    have hw2 : IntKind.i64.wrap (((i : Int) + 1) + 1) = ((i + 2 : Nat) : Int) := by rw [IntWalk.i64_in _ (by omega)]; omega
    have hin : (i : Int) + 1 < (n : Int) := by omega
    have hin0 : (0 : Int) ≤ (i : Int) + 1 := by omega
    have hS : ∀ (w3 : World), RdAt w3 b g n cap (i + 1) fr 0 p l → Only b w w3 → Hid (∀ v, Later w3.drew v → RdAt v b g n cap (i + 1) fr 0 p l ∧ Only b w v) := fun w3 hR3 hO3 => Lib.hid fun v hl => ⟨(hR3.kept (Below.refl _ _).drew).kept hl, hO3.trans (Only.below ((Below.refl w3.heap.size w3).drew.trans (Below.mono hl (Nat.le_refl _))) (Nat.le_of_lt hR3.box.lt))⟩
    have HS := Lib.hid hS
    clear hc0 hgd hS hcell
    by_cases k1 : c.toNat = 110
    · rw [if_pos k1]
      have e1 : ((c.toNat : Int) == 110) = true := by simp; omega
      have e1' : (c.toNat == 110) = true := by simp; omega
      clear hk h0 hcap hlen
      go_enter Tryz.func126, Tryz.ntmps126
      go_wp2_with (go_at_call 125; go_must (refine (place_left _ _ _ _ _ _ _ _ _ _ hR1 (by omega)).mono ?_; rintro e w3 ⟨rfl, hB3⟩; have hR3 := hR1.kept hB3; have hO3 := hO1.trans (Only.below hB3 (Nat.le_of_lt hR1.box.lt))))
      have HF := HS.out w3 hR3 hO3
      refine wp_region_M (R := Later) 13 (by kernel_rfl) ?_
      refine tkM 0 ?_ rfl (fun w1 hl => ?_) ?_
      rotate_left
      · obtain ⟨x0, x1, x2, x3, x4⟩ := (HF.out w1 hl).1.cells; have c0 := HC.out w1 (HF.out w1 hl).1; go_simp; try with_reducible rfl
      simp only [eA, eB, Act.put, eD, eE, eF]
      refine tkM 1 ?_ rfl (fun w1 hl => ?_) ?_
      rotate_left
      · obtain ⟨x0, x1, x2, x3, x4⟩ := (HF.out w1 hl).1.cells; have c0 := HC.out w1 (HF.out w1 hl).1; go_simp; try with_reducible rfl
      simp only [eA, eB, eC, Act.put, eD, eE, eF]
      refine tkM 2 ?_ rfl (fun w1 hl => ?_) ?_
      rotate_left
      · obtain ⟨x0, x1, x2, x3, x4⟩ := (HF.out w1 hl).1.cells; have c0 := HC.out w1 (HF.out w1 hl).1; go_simp; try with_reducible rfl
      simp only [eA, eB, eC, Act.put, eD, eE, eF]
      refine tkM 3 ?_ rfl (fun w1 hl => ?_) ?_
      rotate_left
      · obtain ⟨x0, x1, x2, x3, x4⟩ := (HF.out w1 hl).1.cells; have c0 := HC.out w1 (HF.out w1 hl).1; go_simp; try with_reducible rfl
      simp only [eA, eB, eC, Act.put, eD, eE, eF]
      refine tkM 4 ?_ rfl (fun w1 hl => ?_) ?_
      rotate_left
      · obtain ⟨x0, x1, x2, x3, x4⟩ := (HF.out w1 hl).1.cells; have c0 := HC.out w1 (HF.out w1 hl).1; go_simp; try with_reducible rfl
      simp only [eA, eB, eC, Act.put, eD, eE, eF]
      refine tkM 5 ?_ rfl (fun w1 hl => ?_) ?_
      rotate_left
      · obtain ⟨x0, x1, x2, x3, x4⟩ := (HF.out w1 hl).1.cells; have c0 := HC.out w1 (HF.out w1 hl).1; go_simp; try with_reducible rfl
      simp only [eA, eB, eC, Act.put, eD, eE, eF]
      refine tkM 6 ?_ rfl (fun w1 hl => ?_) ?_
      rotate_left
      · obtain ⟨x0, x1, x2, x3, x4⟩ := (HF.out w1 hl).1.cells; have c0 := HC.out w1 (HF.out w1 hl).1; go_simp; try with_reducible rfl
      simp only [eA, eB, eC, Act.put, eD, eE, eF]
      refine tkM 7 ?_ rfl (fun w1 hl => ?_) ?_
      rotate_left
      · obtain ⟨x0, x1, x2, x3, x4⟩ := (HF.out w1 hl).1.cells; have c0 := HC.out w1 (HF.out w1 hl).1; go_simp; try with_reducible rfl
      simp only [eA, eB, eC, Act.put, eD, eE, eF]
      refine tkM 8 ?_ rfl (fun w1 hl => ?_) ?_
      rotate_left
      · obtain ⟨x0, x1, x2, x3, x4⟩ := (HF.out w1 hl).1.cells; have c0 := HC.out w1 (HF.out w1 hl).1; go_simp; try with_reducible rfl
      simp only [eA, eB, eC, Act.put, eD, eE, eF]
      refine tkM 9 ?_ rfl (fun w1 hl => ?_) ?_
      rotate_left
      · obtain ⟨x0, x1, x2, x3, x4⟩ := (HF.out w1 hl).1.cells; have c0 := HC.out w1 (HF.out w1 hl).1; go_simp; try with_reducible rfl
      simp only [eA, eB, eC, Act.put, eD, eE, eF]
      refine tkM 10 ?_ rfl (fun w1 hl => ?_) ?_
      rotate_left
      · obtain ⟨x0, x1, x2, x3, x4⟩ := (HF.out w1 hl).1.cells; have c0 := HC.out w1 (HF.out w1 hl).1; go_simp; try with_reducible rfl
      simp only [eA, eB, eC, Act.put, eD, eE, eF]
      refine tkM 11 ?_ rfl (fun w1 hl => ?_) ?_
      rotate_left
      · obtain ⟨x0, x1, x2, x3, x4⟩ := (HF.out w1 hl).1.cells; have c0 := HC.out w1 (HF.out w1 hl).1; go_simp; try with_reducible rfl
      simp only [eA, eB, eC, Act.put, eD, eE, eF]
      refine tkM 12 ?_ rfl (fun w1 hl => ?_) ?_
      rotate_left
      · obtain ⟨x0, x1, x2, x3, x4⟩ := (HF.out w1 hl).1.cells; have c0 := HC.out w1 (HF.out w1 hl).1; go_simp; try with_reducible rfl
      simp only [eA, eB, eC, Act.put, eD, eE, eF]
      refine wpM_done (by kernel_rfl) (fun w1 hl => ?_) _
      obtain ⟨hR5, hO5⟩ := HF.out w1 hl
      obtain ⟨x0, x1, x2, x3, x4⟩ := hR5.cells
      have f1 := hR5.box.free 1
      have hR6 := hR5.set (i + 2)
      have hO6 : Only b w (w1.setCell ⟨b, 1, none⟩ (.int .i64 ((i + 2 : Nat) : Int))) := hO5.trans (Only.set _ _ _)
      clear hl HF
      go_wp2
      go_ret
      exact ⟨by omega, by omega, rfl, hR6, hO6⟩
    · rw [if_neg k1]
      have e1 : ((c.toNat : Int) == 110) = false := by simp; omega
      have e1' : (c.toNat == 110) = false := by simp; omega
      by_cases k2 : c.toNat = 116
      · rw [if_pos k2]
        have e2 : ((c.toNat : Int) == 116) = true := by simp; omega
        have e2' : (c.toNat == 116) = true := by simp; omega
        clear hk h0 hcap hlen
        go_enter Tryz.func126, Tryz.ntmps126
        go_wp2_with (go_at_call 125; go_must (refine (place_left _ _ _ _ _ _ _ _ _ _ hR1 (by omega)).mono ?_; rintro e w3 ⟨rfl, hB3⟩; have hR3 := hR1.kept hB3; have hO3 := hO1.trans (Only.below hB3 (Nat.le_of_lt hR1.box.lt))))
        have HF := HS.out w3 hR3 hO3
        refine wp_region_M (R := Later) 13 (by kernel_rfl) ?_
        refine tkM 0 ?_ rfl (fun w1 hl => ?_) ?_
        rotate_left
        · obtain ⟨x0, x1, x2, x3, x4⟩ := (HF.out w1 hl).1.cells; have c0 := HC.out w1 (HF.out w1 hl).1; go_simp; try with_reducible rfl
        simp only [eA, eB, Act.put, eD, eE, eF]
        refine tkM 1 ?_ rfl (fun w1 hl => ?_) ?_
        rotate_left
        · obtain ⟨x0, x1, x2, x3, x4⟩ := (HF.out w1 hl).1.cells; have c0 := HC.out w1 (HF.out w1 hl).1; go_simp; try with_reducible rfl
        simp only [eA, eB, eC, Act.put, eD, eE, eF]
        refine tkM 2 ?_ rfl (fun w1 hl => ?_) ?_
        rotate_left
        · obtain ⟨x0, x1, x2, x3, x4⟩ := (HF.out w1 hl).1.cells; have c0 := HC.out w1 (HF.out w1 hl).1; go_simp; try with_reducible rfl
        simp only [eA, eB, eC, Act.put, eD, eE, eF]
        refine tkM 3 ?_ rfl (fun w1 hl => ?_) ?_
        rotate_left
        · obtain ⟨x0, x1, x2, x3, x4⟩ := (HF.out w1 hl).1.cells; have c0 := HC.out w1 (HF.out w1 hl).1; go_simp; try with_reducible rfl
        simp only [eA, eB, eC, Act.put, eD, eE, eF]
        refine tkM 4 ?_ rfl (fun w1 hl => ?_) ?_
        rotate_left
        · obtain ⟨x0, x1, x2, x3, x4⟩ := (HF.out w1 hl).1.cells; have c0 := HC.out w1 (HF.out w1 hl).1; go_simp; try with_reducible rfl
        simp only [eA, eB, eC, Act.put, eD, eE, eF]
        refine tkM 5 ?_ rfl (fun w1 hl => ?_) ?_
        rotate_left
        · obtain ⟨x0, x1, x2, x3, x4⟩ := (HF.out w1 hl).1.cells; have c0 := HC.out w1 (HF.out w1 hl).1; go_simp; try with_reducible rfl
        simp only [eA, eB, eC, Act.put, eD, eE, eF]
        refine tkM 6 ?_ rfl (fun w1 hl => ?_) ?_
        rotate_left
        · obtain ⟨x0, x1, x2, x3, x4⟩ := (HF.out w1 hl).1.cells; have c0 := HC.out w1 (HF.out w1 hl).1; go_simp; try with_reducible rfl
        simp only [eA, eB, eC, Act.put, eD, eE, eF]
        refine tkM 7 ?_ rfl (fun w1 hl => ?_) ?_
        rotate_left
        · obtain ⟨x0, x1, x2, x3, x4⟩ := (HF.out w1 hl).1.cells; have c0 := HC.out w1 (HF.out w1 hl).1; go_simp; try with_reducible rfl
        simp only [eA, eB, eC, Act.put, eD, eE, eF]
        refine tkM 8 ?_ rfl (fun w1 hl => ?_) ?_
        rotate_left
        · obtain ⟨x0, x1, x2, x3, x4⟩ := (HF.out w1 hl).1.cells; have c0 := HC.out w1 (HF.out w1 hl).1; go_simp; try with_reducible rfl
        simp only [eA, eB, eC, Act.put, eD, eE, eF]
        refine tkM 9 ?_ rfl (fun w1 hl => ?_) ?_
        rotate_left
        · obtain ⟨x0, x1, x2, x3, x4⟩ := (HF.out w1 hl).1.cells; have c0 := HC.out w1 (HF.out w1 hl).1; go_simp; try with_reducible rfl
        simp only [eA, eB, eC, Act.put, eD, eE, eF]
        refine tkM 10 ?_ rfl (fun w1 hl => ?_) ?_
        rotate_left
        · obtain ⟨x0, x1, x2, x3, x4⟩ := (HF.out w1 hl).1.cells; have c0 := HC.out w1 (HF.out w1 hl).1; go_simp; try with_reducible rfl
        simp only [eA, eB, eC, Act.put, eD, eE, eF]
        refine tkM 11 ?_ rfl (fun w1 hl => ?_) ?_
        rotate_left
        · obtain ⟨x0, x1, x2, x3, x4⟩ := (HF.out w1 hl).1.cells; have c0 := HC.out w1 (HF.out w1 hl).1; go_simp; try with_reducible rfl
        simp only [eA, eB, eC, Act.put, eD, eE, eF]
        refine tkM 12 ?_ rfl (fun w1 hl => ?_) ?_
        rotate_left
        · obtain ⟨x0, x1, x2, x3, x4⟩ := (HF.out w1 hl).1.cells; have c0 := HC.out w1 (HF.out w1 hl).1; go_simp; try with_reducible rfl
        simp only [eA, eB, eC, Act.put, eD, eE, eF]
        refine wpM_done (by kernel_rfl) (fun w1 hl => ?_) _
        obtain ⟨hR5, hO5⟩ := HF.out w1 hl
        obtain ⟨x0, x1, x2, x3, x4⟩ := hR5.cells
        have f1 := hR5.box.free 1
        have hR6 := hR5.set (i + 2)
        have hO6 : Only b w (w1.setCell ⟨b, 1, none⟩ (.int .i64 ((i + 2 : Nat) : Int))) := hO5.trans (Only.set _ _ _)
        clear hl HF
        go_wp2
        go_ret
        exact ⟨by omega, by omega, rfl, hR6, hO6⟩
      · rw [if_neg k2]
        have e2 : ((c.toNat : Int) == 116) = false := by simp; omega
        have e2' : (c.toNat == 116) = false := by simp; omega
        by_cases k3 : c.toNat = 114
        · rw [if_pos k3]
          have e3 : ((c.toNat : Int) == 114) = true := by simp; omega
          have e3' : (c.toNat == 114) = true := by simp; omega
          clear hk h0 hcap hlen
          go_enter Tryz.func126, Tryz.ntmps126
          go_wp2_with (go_at_call 125; go_must (refine (place_left _ _ _ _ _ _ _ _ _ _ hR1 (by omega)).mono ?_; rintro e w3 ⟨rfl, hB3⟩; have hR3 := hR1.kept hB3; have hO3 := hO1.trans (Only.below hB3 (Nat.le_of_lt hR1.box.lt))))
          have HF := HS.out w3 hR3 hO3
          refine wp_region_M (R := Later) 13 (by kernel_rfl) ?_
          refine tkM 0 ?_ rfl (fun w1 hl => ?_) ?_
          rotate_left
          · obtain ⟨x0, x1, x2, x3, x4⟩ := (HF.out w1 hl).1.cells; have c0 := HC.out w1 (HF.out w1 hl).1; go_simp; try with_reducible rfl
          simp only [eA, eB, Act.put, eD, eE, eF]
          refine tkM 1 ?_ rfl (fun w1 hl => ?_) ?_
          rotate_left
          · obtain ⟨x0, x1, x2, x3, x4⟩ := (HF.out w1 hl).1.cells; have c0 := HC.out w1 (HF.out w1 hl).1; go_simp; try with_reducible rfl
          simp only [eA, eB, eC, Act.put, eD, eE, eF]
          refine tkM 2 ?_ rfl (fun w1 hl => ?_) ?_
          rotate_left
          · obtain ⟨x0, x1, x2, x3, x4⟩ := (HF.out w1 hl).1.cells; have c0 := HC.out w1 (HF.out w1 hl).1; go_simp; try with_reducible rfl
          simp only [eA, eB, eC, Act.put, eD, eE, eF]
          refine tkM 3 ?_ rfl (fun w1 hl => ?_) ?_
          rotate_left
          · obtain ⟨x0, x1, x2, x3, x4⟩ := (HF.out w1 hl).1.cells; have c0 := HC.out w1 (HF.out w1 hl).1; go_simp; try with_reducible rfl
          simp only [eA, eB, eC, Act.put, eD, eE, eF]
          refine tkM 4 ?_ rfl (fun w1 hl => ?_) ?_
          rotate_left
          · obtain ⟨x0, x1, x2, x3, x4⟩ := (HF.out w1 hl).1.cells; have c0 := HC.out w1 (HF.out w1 hl).1; go_simp; try with_reducible rfl
          simp only [eA, eB, eC, Act.put, eD, eE, eF]
          refine tkM 5 ?_ rfl (fun w1 hl => ?_) ?_
          rotate_left
          · obtain ⟨x0, x1, x2, x3, x4⟩ := (HF.out w1 hl).1.cells; have c0 := HC.out w1 (HF.out w1 hl).1; go_simp; try with_reducible rfl
          simp only [eA, eB, eC, Act.put, eD, eE, eF]
          refine tkM 6 ?_ rfl (fun w1 hl => ?_) ?_
          rotate_left
          · obtain ⟨x0, x1, x2, x3, x4⟩ := (HF.out w1 hl).1.cells; have c0 := HC.out w1 (HF.out w1 hl).1; go_simp; try with_reducible rfl
          simp only [eA, eB, eC, Act.put, eD, eE, eF]
          refine tkM 7 ?_ rfl (fun w1 hl => ?_) ?_
          rotate_left
          · obtain ⟨x0, x1, x2, x3, x4⟩ := (HF.out w1 hl).1.cells; have c0 := HC.out w1 (HF.out w1 hl).1; go_simp; try with_reducible rfl
          simp only [eA, eB, eC, Act.put, eD, eE, eF]
          refine tkM 8 ?_ rfl (fun w1 hl => ?_) ?_
          rotate_left
          · obtain ⟨x0, x1, x2, x3, x4⟩ := (HF.out w1 hl).1.cells; have c0 := HC.out w1 (HF.out w1 hl).1; go_simp; try with_reducible rfl
          simp only [eA, eB, eC, Act.put, eD, eE, eF]
          refine tkM 9 ?_ rfl (fun w1 hl => ?_) ?_
          rotate_left
          · obtain ⟨x0, x1, x2, x3, x4⟩ := (HF.out w1 hl).1.cells; have c0 := HC.out w1 (HF.out w1 hl).1; go_simp; try with_reducible rfl
          simp only [eA, eB, eC, Act.put, eD, eE, eF]
          refine tkM 10 ?_ rfl (fun w1 hl => ?_) ?_
          rotate_left
          · obtain ⟨x0, x1, x2, x3, x4⟩ := (HF.out w1 hl).1.cells; have c0 := HC.out w1 (HF.out w1 hl).1; go_simp; try with_reducible rfl
          simp only [eA, eB, eC, Act.put, eD, eE, eF]
          refine tkM 11 ?_ rfl (fun w1 hl => ?_) ?_
          rotate_left
          · obtain ⟨x0, x1, x2, x3, x4⟩ := (HF.out w1 hl).1.cells; have c0 := HC.out w1 (HF.out w1 hl).1; go_simp; try with_reducible rfl
          simp only [eA, eB, eC, Act.put, eD, eE, eF]
          refine tkM 12 ?_ rfl (fun w1 hl => ?_) ?_
          rotate_left
          · obtain ⟨x0, x1, x2, x3, x4⟩ := (HF.out w1 hl).1.cells; have c0 := HC.out w1 (HF.out w1 hl).1; go_simp; try with_reducible rfl
          simp only [eA, eB, eC, Act.put, eD, eE, eF]
          refine wpM_done (by kernel_rfl) (fun w1 hl => ?_) _
          obtain ⟨hR5, hO5⟩ := HF.out w1 hl
          obtain ⟨x0, x1, x2, x3, x4⟩ := hR5.cells
          have f1 := hR5.box.free 1
          have hR6 := hR5.set (i + 2)
          have hO6 : Only b w (w1.setCell ⟨b, 1, none⟩ (.int .i64 ((i + 2 : Nat) : Int))) := hO5.trans (Only.set _ _ _)
          clear hl HF
          go_wp2
          go_ret
          exact ⟨by omega, by omega, rfl, hR6, hO6⟩
        · rw [if_neg k3]
          have e3 : ((c.toNat : Int) == 114) = false := by simp; omega
          have e3' : (c.toNat == 114) = false := by simp; omega
          by_cases k4 : c.toNat = 120
          · rw [if_pos k4]
            have e4 : ((c.toNat : Int) == 120) = true := by simp; omega
            have e4' : (c.toNat == 120) = true := by simp; omega
            by_cases k8 : i + 4 ≤ n
            · rw [if_pos k8]
              have e8 : decide (2 ≤ ((n - (i + 2) : Nat) : Int)) = true := by simp; omega
              have hk2 : i + 2 < l.length := by omega
              have hk3 : i + 3 < l.length := by omega
              have hg2 : l.getD (i + 2) 0 = l[i + 2] := by simp [List.getD_eq_getElem?_getD, hk2]
              have hg3 : l.getD (i + 3) 0 = l[i + 3] := by simp [List.getD_eq_getElem?_getD, hk3]
              rw [hg2, hg3]
              have hc2 := fun (v : World) (hr : RdAt v b g n cap (i + 2) fr 0 p l) => by have := hr.sl.cellsA.2.2.2 (i + 2) hk2 v (Below.refl _ _); rw [Nat.zero_add] at this; exact this
              have hc3 := fun (v : World) (hr : RdAt v b g n cap (i + 2) fr 0 p l) => by have := hr.sl.cellsA.2.2.2 (i + 3) hk3 v (Below.refl _ _); rw [Nat.zero_add] at this; exact this
              have hv2 := fun w => quote_Value l[i + 2].toNat w l[i + 2].toNat_lt
              have hv3 := fun w => quote_Value l[i + 3].toNat w l[i + 3].toNat_lt
              have ho2 := hexI_or l[i + 2].toNat
              have ho3 := hexI_or l[i + 3].toNat
              generalize l[i + 2] = c2 at *
              generalize l[i + 3] = c3 at *
              generalize hexI c2.toNat = u2 at *
              generalize hexI c3.toNat = u3 at *
              generalize hexV c2.toNat = v2 at *
              generalize hexV c3.toNat = v3 at *
              have HC2 := Lib.hid hc2
              have HC3 := Lib.hid hc3
              have HV2 := Lib.hid hv2
              have HV3 := Lib.hid hv3
              have hin2 : (i : Int) + 2 < (n : Int) := by omega
              have hin3 : (i : Int) + 2 + 1 < (n : Int) := by omega
              have hin4 : (i : Int) + 3 < (n : Int) := by omega
              have hin5 : (0 : Int) ≤ (i : Int) + 2 := by omega
              have hin6 : (0 : Int) ≤ (i : Int) + 3 := by omega
              have hw3 : IntKind.i64.wrap (((i : Int) + 2) + 1) = (i : Int) + 3 := by rw [IntWalk.i64_in _ (by omega)]; omega
              have hw4 : IntKind.i64.wrap (((i : Int) + 2) + 2) = ((i + 4 : Nat) : Int) := by rw [IntWalk.i64_in _ (by omega)]; omega
              have hal : alnumN 120 = true := by decide
              have ht2 : ((i : Int) + 2).toNat = i + 2 := by omega
              have ht3 : ((i : Int) + 3).toNat = i + 3 := by omega
              have hj4 : i + 4 ≤ n := k8
              clear hk h0 hcap hlen k8 hg2 hg3 hc2 hc3 hv2 hv3 hk2 hk3
              go_enter Tryz.func126, Tryz.ntmps126
              go_wp2_with (go_at_call 125; go_must (refine (place_left _ _ _ _ _ _ _ _ _ _ hR1 (by omega)).mono ?_; rintro e w3 ⟨rfl, hB3⟩; have hR3 := hR1.kept hB3; have hO3 := hO1.trans (Only.below hB3 (Nat.le_of_lt hR1.box.lt))))
              have HF := HS.out w3 hR3 hO3
              refine wp_region_M (R := Later) 13 (by kernel_rfl) ?_
              refine tkM 0 ?_ rfl (fun w1 hl => ?_) ?_
              rotate_left
              · obtain ⟨x0, x1, x2, x3, x4⟩ := (HF.out w1 hl).1.cells; have c0 := HC.out w1 (HF.out w1 hl).1; go_simp; try with_reducible rfl
              simp only [eA, eB, Act.put, eD, eE, eF]
              refine tkM 1 ?_ rfl (fun w1 hl => ?_) ?_
              rotate_left
              · obtain ⟨x0, x1, x2, x3, x4⟩ := (HF.out w1 hl).1.cells; have c0 := HC.out w1 (HF.out w1 hl).1; go_simp; try with_reducible rfl
              simp only [eA, eB, eC, Act.put, eD, eE, eF]
              refine tkM 2 ?_ rfl (fun w1 hl => ?_) ?_
              rotate_left
              · obtain ⟨x0, x1, x2, x3, x4⟩ := (HF.out w1 hl).1.cells; have c0 := HC.out w1 (HF.out w1 hl).1; go_simp; try with_reducible rfl
              simp only [eA, eB, eC, Act.put, eD, eE, eF]
              refine tkM 3 ?_ rfl (fun w1 hl => ?_) ?_
              rotate_left
              · obtain ⟨x0, x1, x2, x3, x4⟩ := (HF.out w1 hl).1.cells; have c0 := HC.out w1 (HF.out w1 hl).1; go_simp; try with_reducible rfl
              simp only [eA, eB, eC, Act.put, eD, eE, eF]
              refine tkM 4 ?_ rfl (fun w1 hl => ?_) ?_
              rotate_left
              · obtain ⟨x0, x1, x2, x3, x4⟩ := (HF.out w1 hl).1.cells; have c0 := HC.out w1 (HF.out w1 hl).1; go_simp; try with_reducible rfl
              simp only [eA, eB, eC, Act.put, eD, eE, eF]
              refine tkM 5 ?_ rfl (fun w1 hl => ?_) ?_
              rotate_left
              · obtain ⟨x0, x1, x2, x3, x4⟩ := (HF.out w1 hl).1.cells; have c0 := HC.out w1 (HF.out w1 hl).1; go_simp; try with_reducible rfl
              simp only [eA, eB, eC, Act.put, eD, eE, eF]
              refine tkM 6 ?_ rfl (fun w1 hl => ?_) ?_
              rotate_left
              · obtain ⟨x0, x1, x2, x3, x4⟩ := (HF.out w1 hl).1.cells; have c0 := HC.out w1 (HF.out w1 hl).1; go_simp; try with_reducible rfl
              simp only [eA, eB, eC, Act.put, eD, eE, eF]
              refine tkM 7 ?_ rfl (fun w1 hl => ?_) ?_
              rotate_left
              · obtain ⟨x0, x1, x2, x3, x4⟩ := (HF.out w1 hl).1.cells; have c0 := HC.out w1 (HF.out w1 hl).1; go_simp; try with_reducible rfl
              simp only [eA, eB, eC, Act.put, eD, eE, eF]
              refine tkM 8 ?_ rfl (fun w1 hl => ?_) ?_
              rotate_left
              · obtain ⟨x0, x1, x2, x3, x4⟩ := (HF.out w1 hl).1.cells; have c0 := HC.out w1 (HF.out w1 hl).1; go_simp; try with_reducible rfl
              simp only [eA, eB, eC, Act.put, eD, eE, eF]
              refine tkM 9 ?_ rfl (fun w1 hl => ?_) ?_
              rotate_left
              · obtain ⟨x0, x1, x2, x3, x4⟩ := (HF.out w1 hl).1.cells; have c0 := HC.out w1 (HF.out w1 hl).1; go_simp; try with_reducible rfl
              simp only [eA, eB, eC, Act.put, eD, eE, eF]
              refine tkM 10 ?_ rfl (fun w1 hl => ?_) ?_
              rotate_left
              · obtain ⟨x0, x1, x2, x3, x4⟩ := (HF.out w1 hl).1.cells; have c0 := HC.out w1 (HF.out w1 hl).1; go_simp; try with_reducible rfl
              simp only [eA, eB, eC, Act.put, eD, eE, eF]
              refine tkM 11 ?_ rfl (fun w1 hl => ?_) ?_
              rotate_left
              · obtain ⟨x0, x1, x2, x3, x4⟩ := (HF.out w1 hl).1.cells; have c0 := HC.out w1 (HF.out w1 hl).1; go_simp; try with_reducible rfl
              simp only [eA, eB, eC, Act.put, eD, eE, eF]
              refine tkM 12 ?_ rfl (fun w1 hl => ?_) ?_
              rotate_left
              · obtain ⟨x0, x1, x2, x3, x4⟩ := (HF.out w1 hl).1.cells; have c0 := HC.out w1 (HF.out w1 hl).1; go_simp; try with_reducible rfl
              simp only [eA, eB, eC, Act.put, eD, eE, eF]
              refine wpM_done (by kernel_rfl) (fun w1 hl => ?_) _
              obtain ⟨hR5, hO5⟩ := HF.out w1 hl
              obtain ⟨x0, x1, x2, x3, x4⟩ := hR5.cells
              have f1 := hR5.box.free 1
              have hR6 := hR5.set (i + 2)
              have hO6 : Only b w (w1.setCell ⟨b, 1, none⟩ (.int .i64 ((i + 2 : Nat) : Int))) := hO5.trans (Only.set _ _ _)
              clear hl HF
              go_wp2_with (go_at_call 125; go_must (refine (place_left _ _ _ _ _ _ _ _ _ _ hR6 (by omega)).mono ?_; rintro e w7 ⟨rfl, hB7⟩; have hR7 := hR6.kept hB7; have hO7 := hO6.trans (Only.below hB7 (Nat.le_of_lt hR6.box.lt))))
              have HF7 : Hid (∀ v, Later w7.drew v → RdAt v b g n cap (i + 2) fr 0 p l ∧ Only b w v) := Lib.hid fun v hl => ⟨(hR7.kept (Below.refl _ _).drew).kept hl, hO7.trans (Only.below ((Below.refl w7.heap.size w7).drew.trans (Below.mono hl (Nat.le_refl _))) (Nat.le_of_lt hR7.box.lt))⟩
              refine wp_region_M (R := Later) 29 (by kernel_rfl) ?_
              refine tkM 0 ?_ rfl (fun w1 hl => ?_) ?_
              rotate_left
              · obtain ⟨x0, x1, x2, x3, x4⟩ := (HF7.out w1 hl).1.cells; have c0 := HC2.out w1 (HF7.out w1 hl).1; have c1 := HC3.out w1 (HF7.out w1 hl).1; go_simp; try with_reducible rfl
              simp only [eA, eB, Act.put, eD, eE, eF]
              refine tkM 1 ?_ rfl (fun w1 hl => ?_) ?_
              rotate_left
              · obtain ⟨x0, x1, x2, x3, x4⟩ := (HF7.out w1 hl).1.cells; have c0 := HC2.out w1 (HF7.out w1 hl).1; have c1 := HC3.out w1 (HF7.out w1 hl).1; go_simp; try with_reducible rfl
              simp only [eA, eB, eC, Act.put, eD, eE, eF]
              refine tkM 2 ?_ rfl (fun w1 hl => ?_) ?_
              rotate_left
              · obtain ⟨x0, x1, x2, x3, x4⟩ := (HF7.out w1 hl).1.cells; have c0 := HC2.out w1 (HF7.out w1 hl).1; have c1 := HC3.out w1 (HF7.out w1 hl).1; go_simp; try with_reducible rfl
              simp only [eA, eB, eC, Act.put, eD, eE, eF]
              refine tkM 3 ?_ rfl (fun w1 hl => ?_) ?_
              rotate_left
              · obtain ⟨x0, x1, x2, x3, x4⟩ := (HF7.out w1 hl).1.cells; have c0 := HC2.out w1 (HF7.out w1 hl).1; have c1 := HC3.out w1 (HF7.out w1 hl).1; go_simp; try with_reducible rfl
              simp only [eA, eB, eC, Act.put, eD, eE, eF]
              refine tkM 4 ?_ rfl (fun w1 hl => ?_) ?_
              rotate_left
              · obtain ⟨x0, x1, x2, x3, x4⟩ := (HF7.out w1 hl).1.cells; have c0 := HC2.out w1 (HF7.out w1 hl).1; have c1 := HC3.out w1 (HF7.out w1 hl).1; go_simp; try with_reducible rfl
              simp only [eA, eB, eC, Act.put, eD, eE, eF]
              refine tkM 5 ?_ rfl (fun w1 hl => ?_) ?_
              rotate_left
              · obtain ⟨x0, x1, x2, x3, x4⟩ := (HF7.out w1 hl).1.cells; have c0 := HC2.out w1 (HF7.out w1 hl).1; have c1 := HC3.out w1 (HF7.out w1 hl).1; go_simp; try with_reducible rfl
              simp only [eA, eB, eC, Act.put, eD, eE, eF]
              refine tkM 6 ?_ rfl (fun w1 hl => ?_) ?_
              rotate_left
              · obtain ⟨x0, x1, x2, x3, x4⟩ := (HF7.out w1 hl).1.cells; have c0 := HC2.out w1 (HF7.out w1 hl).1; have c1 := HC3.out w1 (HF7.out w1 hl).1; go_simp; try with_reducible rfl
              simp only [eA, eB, eC, Act.put, eD, eE, eF]
              refine tkM 7 ?_ rfl (fun w1 hl => ?_) ?_
              rotate_left
              · obtain ⟨x0, x1, x2, x3, x4⟩ := (HF7.out w1 hl).1.cells; have c0 := HC2.out w1 (HF7.out w1 hl).1; have c1 := HC3.out w1 (HF7.out w1 hl).1; go_simp; try with_reducible rfl
              simp only [eA, eB, eC, Act.put, eD, eE, eF]
              refine tkM 8 ?_ rfl (fun w1 hl => ?_) ?_
              rotate_left
              · obtain ⟨x0, x1, x2, x3, x4⟩ := (HF7.out w1 hl).1.cells; have c0 := HC2.out w1 (HF7.out w1 hl).1; have c1 := HC3.out w1 (HF7.out w1 hl).1; go_simp; try with_reducible rfl
              simp only [eA, eB, eC, Act.put, eD, eE, eF]
              refine tkM 9 ?_ rfl (fun w1 hl => ?_) ?_
              rotate_left
              · obtain ⟨x0, x1, x2, x3, x4⟩ := (HF7.out w1 hl).1.cells; have c0 := HC2.out w1 (HF7.out w1 hl).1; have c1 := HC3.out w1 (HF7.out w1 hl).1; go_simp; try with_reducible rfl
              simp only [eA, eB, eC, Act.put, eD, eE, eF]
              refine tkM 10 ?_ rfl (fun w1 hl => ?_) ?_
              rotate_left
              · obtain ⟨x0, x1, x2, x3, x4⟩ := (HF7.out w1 hl).1.cells; have c0 := HC2.out w1 (HF7.out w1 hl).1; have c1 := HC3.out w1 (HF7.out w1 hl).1; go_simp; try with_reducible rfl
              simp only [eA, eB, eC, Act.put, eD, eE, eF]
              refine tkM 11 ?_ rfl (fun w1 hl => ?_) ?_
              rotate_left
              · obtain ⟨x0, x1, x2, x3, x4⟩ := (HF7.out w1 hl).1.cells; have c0 := HC2.out w1 (HF7.out w1 hl).1; have c1 := HC3.out w1 (HF7.out w1 hl).1; go_simp; try with_reducible rfl
              simp only [eA, eB, eC, Act.put, eD, eE, eF]
              refine tkM 13 ?_ rfl (fun w1 hl => ?_) ?_
              rotate_left
              · obtain ⟨x0, x1, x2, x3, x4⟩ := (HF7.out w1 hl).1.cells; have c0 := HC2.out w1 (HF7.out w1 hl).1; have c1 := HC3.out w1 (HF7.out w1 hl).1; go_simp; try with_reducible rfl
              simp only [eA, eB, eC, Act.put, eD, eE, eF]
              refine tkM 14 ?_ rfl (fun w1 hl => ?_) ?_
              rotate_left
              · obtain ⟨x0, x1, x2, x3, x4⟩ := (HF7.out w1 hl).1.cells; have c0 := HC2.out w1 (HF7.out w1 hl).1; have c1 := HC3.out w1 (HF7.out w1 hl).1; go_simp; try with_reducible rfl
              simp only [eA, eB, eC, Act.put, eD, eE, eF]
              refine tkM 15 ?_ rfl (fun w1 hl => ?_) ?_
              rotate_left
              · obtain ⟨x0, x1, x2, x3, x4⟩ := (HF7.out w1 hl).1.cells; have c0 := HC2.out w1 (HF7.out w1 hl).1; have c1 := HC3.out w1 (HF7.out w1 hl).1; go_simp; try with_reducible rfl
              simp only [eA, eB, eC, Act.put, eD, eE, eF]
              refine tkM 16 ?_ rfl (fun w1 hl => ?_) ?_
              rotate_left
              · obtain ⟨x0, x1, x2, x3, x4⟩ := (HF7.out w1 hl).1.cells; have c0 := HC2.out w1 (HF7.out w1 hl).1; have c1 := HC3.out w1 (HF7.out w1 hl).1; go_simp; try with_reducible rfl
              simp only [eA, eB, eC, Act.put, eD, eE, eF]
              refine tkM 17 ?_ rfl (fun w1 hl => ?_) ?_
              rotate_left
              · obtain ⟨x0, x1, x2, x3, x4⟩ := (HF7.out w1 hl).1.cells; have c0 := HC2.out w1 (HF7.out w1 hl).1; have c1 := HC3.out w1 (HF7.out w1 hl).1; go_simp; try with_reducible rfl
              simp only [eA, eB, eC, Act.put, eD, eE, eF]
              refine tkM 18 ?_ rfl (fun w1 hl => ?_) ?_
              rotate_left
              · obtain ⟨x0, x1, x2, x3, x4⟩ := (HF7.out w1 hl).1.cells; have c0 := HC2.out w1 (HF7.out w1 hl).1; have c1 := HC3.out w1 (HF7.out w1 hl).1; go_simp; try with_reducible rfl
              simp only [eA, eB, eC, Act.put, eD, eE, eF]
              refine tkM 19 ?_ rfl (fun w1 hl => ?_) ?_
              rotate_left
              · obtain ⟨x0, x1, x2, x3, x4⟩ := (HF7.out w1 hl).1.cells; have c0 := HC2.out w1 (HF7.out w1 hl).1; have c1 := HC3.out w1 (HF7.out w1 hl).1; go_simp; try with_reducible rfl
              simp only [eA, eB, eC, Act.put, eD, eE, eF]
              refine tkM 20 ?_ rfl (fun w1 hl => ?_) ?_
              rotate_left
              · obtain ⟨x0, x1, x2, x3, x4⟩ := (HF7.out w1 hl).1.cells; have c0 := HC2.out w1 (HF7.out w1 hl).1; have c1 := HC3.out w1 (HF7.out w1 hl).1; go_simp; try with_reducible rfl
              simp only [eA, eB, eC, Act.put, eD, eE, eF]
              refine tkM 21 ?_ rfl (fun w1 hl => ?_) ?_
              rotate_left
              · obtain ⟨x0, x1, x2, x3, x4⟩ := (HF7.out w1 hl).1.cells; have c0 := HC2.out w1 (HF7.out w1 hl).1; have c1 := HC3.out w1 (HF7.out w1 hl).1; go_simp; try with_reducible rfl
              simp only [eA, eB, eC, Act.put, eD, eE, eF]
              refine tkM 22 ?_ rfl (fun w1 hl => ?_) ?_
              rotate_left
              · obtain ⟨x0, x1, x2, x3, x4⟩ := (HF7.out w1 hl).1.cells; have c0 := HC2.out w1 (HF7.out w1 hl).1; have c1 := HC3.out w1 (HF7.out w1 hl).1; go_simp; try with_reducible rfl
              simp only [eA, eB, eC, Act.put, eD, eE, eF]
              refine tkM 23 ?_ rfl (fun w1 hl => ?_) ?_
              rotate_left
              · obtain ⟨x0, x1, x2, x3, x4⟩ := (HF7.out w1 hl).1.cells; have c0 := HC2.out w1 (HF7.out w1 hl).1; have c1 := HC3.out w1 (HF7.out w1 hl).1; go_simp; try with_reducible rfl
              simp only [eA, eB, eC, Act.put, eD, eE, eF]
              refine tkM 24 ?_ rfl (fun w1 hl => ?_) ?_
              rotate_left
              · obtain ⟨x0, x1, x2, x3, x4⟩ := (HF7.out w1 hl).1.cells; have c0 := HC2.out w1 (HF7.out w1 hl).1; have c1 := HC3.out w1 (HF7.out w1 hl).1; go_simp; try with_reducible rfl
              simp only [eA, eB, eC, Act.put, eD, eE, eF]
              refine tkM 25 ?_ rfl (fun w1 hl => ?_) ?_
              rotate_left
              · obtain ⟨x0, x1, x2, x3, x4⟩ := (HF7.out w1 hl).1.cells; have c0 := HC2.out w1 (HF7.out w1 hl).1; have c1 := HC3.out w1 (HF7.out w1 hl).1; go_simp; try with_reducible rfl
              simp only [eA, eB, eC, Act.put, eD, eE, eF]
              refine wpM_call (t := 29) (i := 12) (f := ?_) (args := ?_) (v := ?_) rfl (by kernel_rfl) (by kernel_rfl) (by kernel_rfl) (by kernel_rfl) (fun _ _ _ h => h) (by rfl) (fun w1 => ?_) (fun w1 hl => ?_) ?_
              rotate_left 4
              · exact HV2.out w1
              rotate_left
              · go_simp
              simp only [eA, eB, eC, Act.put, eD, eE, eF]
              refine wpM_call (t := 29) (i := 26) (f := ?_) (args := ?_) (v := ?_) rfl (by kernel_rfl) (by kernel_rfl) (by kernel_rfl) (by kernel_rfl) (fun _ _ _ h => h) (by rfl) (fun w1 => ?_) (fun w1 hl => ?_) ?_
              rotate_left 4
              · exact HV3.out w1
              rotate_left
              · go_simp
              simp only [eA, eB, eC, Act.put, eD, eE, eF]
              refine tkM 27 ?_ rfl (fun w1 hl => ?_) ?_
              rotate_left
              · obtain ⟨x0, x1, x2, x3, x4⟩ := (HF7.out w1 hl).1.cells; go_simp; try with_reducible rfl
              simp only [eA, eB, eC, Act.put, eD, eE, eF]
              refine tkM 28 ?_ rfl (fun w1 hl => ?_) ?_
              rotate_left
              · obtain ⟨x0, x1, x2, x3, x4⟩ := (HF7.out w1 hl).1.cells; go_simp; try with_reducible rfl
              simp only [eA, eB, eC, Act.put, eD, eE, eF]
              refine wpM_done (by kernel_rfl) (fun w1 hl => ?_) _
              obtain ⟨hR8, hO8⟩ := HF7.out w1 hl
              obtain ⟨x0, x1, x2, x3, x4⟩ := hR8.cells
              have f1 := hR8.box.free 1
              have hR9 := hR8.set (i + 4)
              have hO9 : Only b w (w1.setCell ⟨b, 1, none⟩ (.int .i64 ((i + 4 : Nat) : Int))) := hO8.trans (Only.set _ _ _)
              clear hl HF7
              rcases ho2 with ⟨rfl, rfl⟩ | ⟨y2, rfl, rfl, hy2⟩
              · go_wp2_with (first | (go_at_call 129; go_must (refine (class_letter 120 _ (by decide)).mono ?_; rintro e wa ⟨rfl, hBa⟩; have hRa := hR9.kept hBa; have hOa := hO9.trans (Only.below hBa (Nat.le_of_lt hR9.box.lt)))) | (go_at_call 117; go_must (refine (reader_fail _ _ _ _ _ _ _ _ _ 14 i _ hRa).mono ?_; rintro e wb ⟨rfl, hRb, hOb⟩)))
                go_ret
                exact ⟨120, i + 4, by omega, by omega, rfl, hRb, hOa.trans hOb⟩
              · rcases ho3 with ⟨rfl, rfl⟩ | ⟨y3, rfl, rfl, hy3⟩
                · go_wp2_with (first | (go_at_call 129; go_must (refine (class_letter 120 _ (by decide)).mono ?_; rintro e wa ⟨rfl, hBa⟩; have hRa := hR9.kept hBa; have hOa := hO9.trans (Only.below hBa (Nat.le_of_lt hR9.box.lt)))) | (go_at_call 117; go_must (refine (reader_fail _ _ _ _ _ _ _ _ _ 14 i _ hRa).mono ?_; rintro e wb ⟨rfl, hRb, hOb⟩)))
                  go_ret
                  exact ⟨120, i + 4, by omega, by omega, rfl, hRb, hOa.trans hOb⟩
                · have hm1 : IntKind.i64.wrap (16 * (y2 : Int)) = 16 * (y2 : Int) := IntWalk.i64_in _ (by omega)
                  have hm2 : IntKind.i64.wrap (16 * (y2 : Int) + (y3 : Int)) = ((16 * y2 + y3 : Nat) : Int) := by rw [IntWalk.i64_in _ (by omega)]; omega
                  have hm3 : IntKind.u8.wrap ((16 * y2 + y3 : Nat) : Int) = ((16 * y2 + y3 : Nat) : Int) := by rw [IntKind.wrap_u8']; omega
                  have hm4 : IntKind.u8.wrap (16 * (y2 : Int) + (y3 : Int)) = ((16 * y2 + y3 : Nat) : Int) := by rw [IntKind.wrap_u8']; omega
                  go_wp2
                  go_ret
                  exact ⟨by omega, by omega, rfl, hR9, hO9⟩
            · rw [if_neg k8]
              have e8 : decide (2 ≤ ((n - (i + 2) : Nat) : Int)) = false := by simp; omega
              have e8' : decide (2 ≤ n - (i + 2)) = false := by simp; omega
              have hal : alnumN 120 = true := by decide
              clear hk h0 hcap hlen k8
              go_enter Tryz.func126, Tryz.ntmps126
              go_wp2_with (go_at_call 125; go_must (refine (place_left _ _ _ _ _ _ _ _ _ _ hR1 (by omega)).mono ?_; rintro e w3 ⟨rfl, hB3⟩; have hR3 := hR1.kept hB3; have hO3 := hO1.trans (Only.below hB3 (Nat.le_of_lt hR1.box.lt))))
              have HF := HS.out w3 hR3 hO3
              refine wp_region_M (R := Later) 13 (by kernel_rfl) ?_
              refine tkM 0 ?_ rfl (fun w1 hl => ?_) ?_
              rotate_left
              · obtain ⟨x0, x1, x2, x3, x4⟩ := (HF.out w1 hl).1.cells; have c0 := HC.out w1 (HF.out w1 hl).1; go_simp; try with_reducible rfl
              simp only [eA, eB, Act.put, eD, eE, eF]
              refine tkM 1 ?_ rfl (fun w1 hl => ?_) ?_
              rotate_left
              · obtain ⟨x0, x1, x2, x3, x4⟩ := (HF.out w1 hl).1.cells; have c0 := HC.out w1 (HF.out w1 hl).1; go_simp; try with_reducible rfl
              simp only [eA, eB, eC, Act.put, eD, eE, eF]
              refine tkM 2 ?_ rfl (fun w1 hl => ?_) ?_
              rotate_left
              · obtain ⟨x0, x1, x2, x3, x4⟩ := (HF.out w1 hl).1.cells; have c0 := HC.out w1 (HF.out w1 hl).1; go_simp; try with_reducible rfl
              simp only [eA, eB, eC, Act.put, eD, eE, eF]
              refine tkM 3 ?_ rfl (fun w1 hl => ?_) ?_
              rotate_left
              · obtain ⟨x0, x1, x2, x3, x4⟩ := (HF.out w1 hl).1.cells; have c0 := HC.out w1 (HF.out w1 hl).1; go_simp; try with_reducible rfl
              simp only [eA, eB, eC, Act.put, eD, eE, eF]
              refine tkM 4 ?_ rfl (fun w1 hl => ?_) ?_
              rotate_left
              · obtain ⟨x0, x1, x2, x3, x4⟩ := (HF.out w1 hl).1.cells; have c0 := HC.out w1 (HF.out w1 hl).1; go_simp; try with_reducible rfl
              simp only [eA, eB, eC, Act.put, eD, eE, eF]
              refine tkM 5 ?_ rfl (fun w1 hl => ?_) ?_
              rotate_left
              · obtain ⟨x0, x1, x2, x3, x4⟩ := (HF.out w1 hl).1.cells; have c0 := HC.out w1 (HF.out w1 hl).1; go_simp; try with_reducible rfl
              simp only [eA, eB, eC, Act.put, eD, eE, eF]
              refine tkM 6 ?_ rfl (fun w1 hl => ?_) ?_
              rotate_left
              · obtain ⟨x0, x1, x2, x3, x4⟩ := (HF.out w1 hl).1.cells; have c0 := HC.out w1 (HF.out w1 hl).1; go_simp; try with_reducible rfl
              simp only [eA, eB, eC, Act.put, eD, eE, eF]
              refine tkM 7 ?_ rfl (fun w1 hl => ?_) ?_
              rotate_left
              · obtain ⟨x0, x1, x2, x3, x4⟩ := (HF.out w1 hl).1.cells; have c0 := HC.out w1 (HF.out w1 hl).1; go_simp; try with_reducible rfl
              simp only [eA, eB, eC, Act.put, eD, eE, eF]
              refine tkM 8 ?_ rfl (fun w1 hl => ?_) ?_
              rotate_left
              · obtain ⟨x0, x1, x2, x3, x4⟩ := (HF.out w1 hl).1.cells; have c0 := HC.out w1 (HF.out w1 hl).1; go_simp; try with_reducible rfl
              simp only [eA, eB, eC, Act.put, eD, eE, eF]
              refine tkM 9 ?_ rfl (fun w1 hl => ?_) ?_
              rotate_left
              · obtain ⟨x0, x1, x2, x3, x4⟩ := (HF.out w1 hl).1.cells; have c0 := HC.out w1 (HF.out w1 hl).1; go_simp; try with_reducible rfl
              simp only [eA, eB, eC, Act.put, eD, eE, eF]
              refine tkM 10 ?_ rfl (fun w1 hl => ?_) ?_
              rotate_left
              · obtain ⟨x0, x1, x2, x3, x4⟩ := (HF.out w1 hl).1.cells; have c0 := HC.out w1 (HF.out w1 hl).1; go_simp; try with_reducible rfl
              simp only [eA, eB, eC, Act.put, eD, eE, eF]
              refine tkM 11 ?_ rfl (fun w1 hl => ?_) ?_
              rotate_left
              · obtain ⟨x0, x1, x2, x3, x4⟩ := (HF.out w1 hl).1.cells; have c0 := HC.out w1 (HF.out w1 hl).1; go_simp; try with_reducible rfl
              simp only [eA, eB, eC, Act.put, eD, eE, eF]
              refine tkM 12 ?_ rfl (fun w1 hl => ?_) ?_
              rotate_left
              · obtain ⟨x0, x1, x2, x3, x4⟩ := (HF.out w1 hl).1.cells; have c0 := HC.out w1 (HF.out w1 hl).1; go_simp; try with_reducible rfl
              simp only [eA, eB, eC, Act.put, eD, eE, eF]
              refine wpM_done (by kernel_rfl) (fun w1 hl => ?_) _
              obtain ⟨hR5, hO5⟩ := HF.out w1 hl
              obtain ⟨x0, x1, x2, x3, x4⟩ := hR5.cells
              have f1 := hR5.box.free 1
              have hR6 := hR5.set (i + 2)
              have hO6 : Only b w (w1.setCell ⟨b, 1, none⟩ (.int .i64 ((i + 2 : Nat) : Int))) := hO5.trans (Only.set _ _ _)
              clear hl HF
              go_wp2_with (first | (go_at_call 125; go_must (refine (place_left _ _ _ _ _ _ _ _ _ _ hR6 (by omega)).mono ?_; rintro e w7 ⟨rfl, hB7⟩; have hR7 := hR6.kept hB7; have hO7 := hO6.trans (Only.below hB7 (Nat.le_of_lt hR6.box.lt)))) | (go_at_call 129; go_must (refine (class_letter 120 _ (by decide)).mono ?_; rintro e w8 ⟨rfl, hB8⟩; have hR8 := hR7.kept hB8; have hO8 := hO7.trans (Only.below hB8 (Nat.le_of_lt hR7.box.lt)))) | (go_at_call 117; go_must (refine (reader_fail _ _ _ _ _ _ _ _ _ 14 i _ hR8).mono ?_; rintro e w9 ⟨rfl, hR9, hO9⟩)))
              go_ret
              exact ⟨120, i + 2, by omega, by omega, rfl, hR9, hO8.trans hO9⟩
          · rw [if_neg k4]
            have e4 : ((c.toNat : Int) == 120) = false := by simp; omega
            have e4' : (c.toNat == 120) = false := by simp; omega
            by_cases k5 : c.toNat < 33
            · rw [if_pos (Or.inl k5)]
              have e5 : decide ((c.toNat : Int) < 33) = true := by simp; omega
              clear hk h0 hcap hlen
              go_enter Tryz.func126, Tryz.ntmps126
              go_wp2_with (go_at_call 125; go_must (refine (place_left _ _ _ _ _ _ _ _ _ _ hR1 (by omega)).mono ?_; rintro e w3 ⟨rfl, hB3⟩; have hR3 := hR1.kept hB3; have hO3 := hO1.trans (Only.below hB3 (Nat.le_of_lt hR1.box.lt))))
              have HF := HS.out w3 hR3 hO3
              refine wp_region_M (R := Later) 13 (by kernel_rfl) ?_
              refine tkM 0 ?_ rfl (fun w1 hl => ?_) ?_
              rotate_left
              · obtain ⟨x0, x1, x2, x3, x4⟩ := (HF.out w1 hl).1.cells; have c0 := HC.out w1 (HF.out w1 hl).1; go_simp; try with_reducible rfl
              simp only [eA, eB, Act.put, eD, eE, eF]
              refine tkM 1 ?_ rfl (fun w1 hl => ?_) ?_
              rotate_left
              · obtain ⟨x0, x1, x2, x3, x4⟩ := (HF.out w1 hl).1.cells; have c0 := HC.out w1 (HF.out w1 hl).1; go_simp; try with_reducible rfl
              simp only [eA, eB, eC, Act.put, eD, eE, eF]
              refine tkM 2 ?_ rfl (fun w1 hl => ?_) ?_
              rotate_left
              · obtain ⟨x0, x1, x2, x3, x4⟩ := (HF.out w1 hl).1.cells; have c0 := HC.out w1 (HF.out w1 hl).1; go_simp; try with_reducible rfl
              simp only [eA, eB, eC, Act.put, eD, eE, eF]
              refine tkM 3 ?_ rfl (fun w1 hl => ?_) ?_
              rotate_left
              · obtain ⟨x0, x1, x2, x3, x4⟩ := (HF.out w1 hl).1.cells; have c0 := HC.out w1 (HF.out w1 hl).1; go_simp; try with_reducible rfl
              simp only [eA, eB, eC, Act.put, eD, eE, eF]
              refine tkM 4 ?_ rfl (fun w1 hl => ?_) ?_
              rotate_left
              · obtain ⟨x0, x1, x2, x3, x4⟩ := (HF.out w1 hl).1.cells; have c0 := HC.out w1 (HF.out w1 hl).1; go_simp; try with_reducible rfl
              simp only [eA, eB, eC, Act.put, eD, eE, eF]
              refine tkM 5 ?_ rfl (fun w1 hl => ?_) ?_
              rotate_left
              · obtain ⟨x0, x1, x2, x3, x4⟩ := (HF.out w1 hl).1.cells; have c0 := HC.out w1 (HF.out w1 hl).1; go_simp; try with_reducible rfl
              simp only [eA, eB, eC, Act.put, eD, eE, eF]
              refine tkM 6 ?_ rfl (fun w1 hl => ?_) ?_
              rotate_left
              · obtain ⟨x0, x1, x2, x3, x4⟩ := (HF.out w1 hl).1.cells; have c0 := HC.out w1 (HF.out w1 hl).1; go_simp; try with_reducible rfl
              simp only [eA, eB, eC, Act.put, eD, eE, eF]
              refine tkM 7 ?_ rfl (fun w1 hl => ?_) ?_
              rotate_left
              · obtain ⟨x0, x1, x2, x3, x4⟩ := (HF.out w1 hl).1.cells; have c0 := HC.out w1 (HF.out w1 hl).1; go_simp; try with_reducible rfl
              simp only [eA, eB, eC, Act.put, eD, eE, eF]
              refine tkM 8 ?_ rfl (fun w1 hl => ?_) ?_
              rotate_left
              · obtain ⟨x0, x1, x2, x3, x4⟩ := (HF.out w1 hl).1.cells; have c0 := HC.out w1 (HF.out w1 hl).1; go_simp; try with_reducible rfl
              simp only [eA, eB, eC, Act.put, eD, eE, eF]
              refine tkM 9 ?_ rfl (fun w1 hl => ?_) ?_
              rotate_left
              · obtain ⟨x0, x1, x2, x3, x4⟩ := (HF.out w1 hl).1.cells; have c0 := HC.out w1 (HF.out w1 hl).1; go_simp; try with_reducible rfl
              simp only [eA, eB, eC, Act.put, eD, eE, eF]
              refine tkM 10 ?_ rfl (fun w1 hl => ?_) ?_
              rotate_left
              · obtain ⟨x0, x1, x2, x3, x4⟩ := (HF.out w1 hl).1.cells; have c0 := HC.out w1 (HF.out w1 hl).1; go_simp; try with_reducible rfl
              simp only [eA, eB, eC, Act.put, eD, eE, eF]
              refine tkM 11 ?_ rfl (fun w1 hl => ?_) ?_
              rotate_left
              · obtain ⟨x0, x1, x2, x3, x4⟩ := (HF.out w1 hl).1.cells; have c0 := HC.out w1 (HF.out w1 hl).1; go_simp; try with_reducible rfl
              simp only [eA, eB, eC, Act.put, eD, eE, eF]
              refine tkM 12 ?_ rfl (fun w1 hl => ?_) ?_
              rotate_left
              · obtain ⟨x0, x1, x2, x3, x4⟩ := (HF.out w1 hl).1.cells; have c0 := HC.out w1 (HF.out w1 hl).1; go_simp; try with_reducible rfl
              simp only [eA, eB, eC, Act.put, eD, eE, eF]
              refine wpM_done (by kernel_rfl) (fun w1 hl => ?_) _
              obtain ⟨hR5, hO5⟩ := HF.out w1 hl
              obtain ⟨x0, x1, x2, x3, x4⟩ := hR5.cells
              have f1 := hR5.box.free 1
              have hR6 := hR5.set (i + 2)
              have hO6 : Only b w (w1.setCell ⟨b, 1, none⟩ (.int .i64 ((i + 2 : Nat) : Int))) := hO5.trans (Only.set _ _ _)
              clear hl HF
              have hR7 := hR6
              have hO7 := hO6
              go_wp2_with (first | (go_at_call 129; go_must (refine (class_letter _ _ hc256).mono ?_; rintro e w8 ⟨rfl, hB8⟩; have hR8 := hR7.kept hB8; have hO8 := hO7.trans (Only.below hB8 (Nat.le_of_lt hR7.box.lt)))) | (go_at_call 117; go_must (refine (reader_fail _ _ _ _ _ _ _ _ _ 14 i _ hR7).mono ?_; rintro e w9 ⟨rfl, hR9, hO9⟩)))
              go_ret
              exact ⟨c.toNat, i + 2, by omega, by omega, rfl, hR9, hO7.trans hO9⟩
            · have e5 : decide ((c.toNat : Int) < 33) = false := by simp; omega
              by_cases k6 : 126 < c.toNat
              · rw [if_pos (Or.inr (Or.inl k6))]
                have e6 : decide (126 < (c.toNat : Int)) = true := by simp; omega
                clear hk h0 hcap hlen
                go_enter Tryz.func126, Tryz.ntmps126
                go_wp2_with (go_at_call 125; go_must (refine (place_left _ _ _ _ _ _ _ _ _ _ hR1 (by omega)).mono ?_; rintro e w3 ⟨rfl, hB3⟩; have hR3 := hR1.kept hB3; have hO3 := hO1.trans (Only.below hB3 (Nat.le_of_lt hR1.box.lt))))
                have HF := HS.out w3 hR3 hO3
                refine wp_region_M (R := Later) 13 (by kernel_rfl) ?_
                refine tkM 0 ?_ rfl (fun w1 hl => ?_) ?_
                rotate_left
                · obtain ⟨x0, x1, x2, x3, x4⟩ := (HF.out w1 hl).1.cells; have c0 := HC.out w1 (HF.out w1 hl).1; go_simp; try with_reducible rfl
                simp only [eA, eB, Act.put, eD, eE, eF]
                refine tkM 1 ?_ rfl (fun w1 hl => ?_) ?_
                rotate_left
                · obtain ⟨x0, x1, x2, x3, x4⟩ := (HF.out w1 hl).1.cells; have c0 := HC.out w1 (HF.out w1 hl).1; go_simp; try with_reducible rfl
                simp only [eA, eB, eC, Act.put, eD, eE, eF]
                refine tkM 2 ?_ rfl (fun w1 hl => ?_) ?_
                rotate_left
                · obtain ⟨x0, x1, x2, x3, x4⟩ := (HF.out w1 hl).1.cells; have c0 := HC.out w1 (HF.out w1 hl).1; go_simp; try with_reducible rfl
                simp only [eA, eB, eC, Act.put, eD, eE, eF]
                refine tkM 3 ?_ rfl (fun w1 hl => ?_) ?_
                rotate_left
                · obtain ⟨x0, x1, x2, x3, x4⟩ := (HF.out w1 hl).1.cells; have c0 := HC.out w1 (HF.out w1 hl).1; go_simp; try with_reducible rfl
                simp only [eA, eB, eC, Act.put, eD, eE, eF]
                refine tkM 4 ?_ rfl (fun w1 hl => ?_) ?_
                rotate_left
                · obtain ⟨x0, x1, x2, x3, x4⟩ := (HF.out w1 hl).1.cells; have c0 := HC.out w1 (HF.out w1 hl).1; go_simp; try with_reducible rfl
                simp only [eA, eB, eC, Act.put, eD, eE, eF]
                refine tkM 5 ?_ rfl (fun w1 hl => ?_) ?_
                rotate_left
                · obtain ⟨x0, x1, x2, x3, x4⟩ := (HF.out w1 hl).1.cells; have c0 := HC.out w1 (HF.out w1 hl).1; go_simp; try with_reducible rfl
                simp only [eA, eB, eC, Act.put, eD, eE, eF]
                refine tkM 6 ?_ rfl (fun w1 hl => ?_) ?_
                rotate_left
                · obtain ⟨x0, x1, x2, x3, x4⟩ := (HF.out w1 hl).1.cells; have c0 := HC.out w1 (HF.out w1 hl).1; go_simp; try with_reducible rfl
                simp only [eA, eB, eC, Act.put, eD, eE, eF]
                refine tkM 7 ?_ rfl (fun w1 hl => ?_) ?_
                rotate_left
                · obtain ⟨x0, x1, x2, x3, x4⟩ := (HF.out w1 hl).1.cells; have c0 := HC.out w1 (HF.out w1 hl).1; go_simp; try with_reducible rfl
                simp only [eA, eB, eC, Act.put, eD, eE, eF]
                refine tkM 8 ?_ rfl (fun w1 hl => ?_) ?_
                rotate_left
                · obtain ⟨x0, x1, x2, x3, x4⟩ := (HF.out w1 hl).1.cells; have c0 := HC.out w1 (HF.out w1 hl).1; go_simp; try with_reducible rfl
                simp only [eA, eB, eC, Act.put, eD, eE, eF]
                refine tkM 9 ?_ rfl (fun w1 hl => ?_) ?_
                rotate_left
                · obtain ⟨x0, x1, x2, x3, x4⟩ := (HF.out w1 hl).1.cells; have c0 := HC.out w1 (HF.out w1 hl).1; go_simp; try with_reducible rfl
                simp only [eA, eB, eC, Act.put, eD, eE, eF]
                refine tkM 10 ?_ rfl (fun w1 hl => ?_) ?_
                rotate_left
                · obtain ⟨x0, x1, x2, x3, x4⟩ := (HF.out w1 hl).1.cells; have c0 := HC.out w1 (HF.out w1 hl).1; go_simp; try with_reducible rfl
                simp only [eA, eB, eC, Act.put, eD, eE, eF]
                refine tkM 11 ?_ rfl (fun w1 hl => ?_) ?_
                rotate_left
                · obtain ⟨x0, x1, x2, x3, x4⟩ := (HF.out w1 hl).1.cells; have c0 := HC.out w1 (HF.out w1 hl).1; go_simp; try with_reducible rfl
                simp only [eA, eB, eC, Act.put, eD, eE, eF]
                refine tkM 12 ?_ rfl (fun w1 hl => ?_) ?_
                rotate_left
                · obtain ⟨x0, x1, x2, x3, x4⟩ := (HF.out w1 hl).1.cells; have c0 := HC.out w1 (HF.out w1 hl).1; go_simp; try with_reducible rfl
                simp only [eA, eB, eC, Act.put, eD, eE, eF]
                refine wpM_done (by kernel_rfl) (fun w1 hl => ?_) _
                obtain ⟨hR5, hO5⟩ := HF.out w1 hl
                obtain ⟨x0, x1, x2, x3, x4⟩ := hR5.cells
                have f1 := hR5.box.free 1
                have hR6 := hR5.set (i + 2)
                have hO6 : Only b w (w1.setCell ⟨b, 1, none⟩ (.int .i64 ((i + 2 : Nat) : Int))) := hO5.trans (Only.set _ _ _)
                clear hl HF
                have hR7 := hR6
                have hO7 := hO6
                go_wp2_with (first | (go_at_call 129; go_must (refine (class_letter _ _ hc256).mono ?_; rintro e w8 ⟨rfl, hB8⟩; have hR8 := hR7.kept hB8; have hO8 := hO7.trans (Only.below hB8 (Nat.le_of_lt hR7.box.lt)))) | (go_at_call 117; go_must (refine (reader_fail _ _ _ _ _ _ _ _ _ 14 i _ hR7).mono ?_; rintro e w9 ⟨rfl, hR9, hO9⟩)))
                go_ret
                exact ⟨c.toNat, i + 2, by omega, by omega, rfl, hR9, hO7.trans hO9⟩
              · have e6 : decide (126 < (c.toNat : Int)) = false := by simp; omega
                have hlt := fun w => class_letter c.toNat w hc256
                cases k7 : alnumN c.toNat with
                | true =>
                  rw [if_pos (Or.inr (Or.inr rfl))]
                  rw [k7] at hlt
                  have HLT := Lib.hid hlt
                  clear hlt
                  clear hk h0 hcap hlen
                  go_enter Tryz.func126, Tryz.ntmps126
                  go_wp2_with (go_at_call 125; go_must (refine (place_left _ _ _ _ _ _ _ _ _ _ hR1 (by omega)).mono ?_; rintro e w3 ⟨rfl, hB3⟩; have hR3 := hR1.kept hB3; have hO3 := hO1.trans (Only.below hB3 (Nat.le_of_lt hR1.box.lt))))
                  have HF := HS.out w3 hR3 hO3
                  refine wp_region_M (R := Later) 13 (by kernel_rfl) ?_
                  refine tkM 0 ?_ rfl (fun w1 hl => ?_) ?_
                  rotate_left
                  · obtain ⟨x0, x1, x2, x3, x4⟩ := (HF.out w1 hl).1.cells; have c0 := HC.out w1 (HF.out w1 hl).1; go_simp; try with_reducible rfl
                  simp only [eA, eB, Act.put, eD, eE, eF]
                  refine tkM 1 ?_ rfl (fun w1 hl => ?_) ?_
                  rotate_left
                  · obtain ⟨x0, x1, x2, x3, x4⟩ := (HF.out w1 hl).1.cells; have c0 := HC.out w1 (HF.out w1 hl).1; go_simp; try with_reducible rfl
                  simp only [eA, eB, eC, Act.put, eD, eE, eF]
                  refine tkM 2 ?_ rfl (fun w1 hl => ?_) ?_
                  rotate_left
                  · obtain ⟨x0, x1, x2, x3, x4⟩ := (HF.out w1 hl).1.cells; have c0 := HC.out w1 (HF.out w1 hl).1; go_simp; try with_reducible rfl
                  simp only [eA, eB, eC, Act.put, eD, eE, eF]
                  refine tkM 3 ?_ rfl (fun w1 hl => ?_) ?_
                  rotate_left
                  · obtain ⟨x0, x1, x2, x3, x4⟩ := (HF.out w1 hl).1.cells; have c0 := HC.out w1 (HF.out w1 hl).1; go_simp; try with_reducible rfl
                  simp only [eA, eB, eC, Act.put, eD, eE, eF]
                  refine tkM 4 ?_ rfl (fun w1 hl => ?_) ?_
                  rotate_left
                  · obtain ⟨x0, x1, x2, x3, x4⟩ := (HF.out w1 hl).1.cells; have c0 := HC.out w1 (HF.out w1 hl).1; go_simp; try with_reducible rfl
                  simp only [eA, eB, eC, Act.put, eD, eE, eF]
                  refine tkM 5 ?_ rfl (fun w1 hl => ?_) ?_
                  rotate_left
                  · obtain ⟨x0, x1, x2, x3, x4⟩ := (HF.out w1 hl).1.cells; have c0 := HC.out w1 (HF.out w1 hl).1; go_simp; try with_reducible rfl
                  simp only [eA, eB, eC, Act.put, eD, eE, eF]
                  refine tkM 6 ?_ rfl (fun w1 hl => ?_) ?_
                  rotate_left
                  · obtain ⟨x0, x1, x2, x3, x4⟩ := (HF.out w1 hl).1.cells; have c0 := HC.out w1 (HF.out w1 hl).1; go_simp; try with_reducible rfl
                  simp only [eA, eB, eC, Act.put, eD, eE, eF]
                  refine tkM 7 ?_ rfl (fun w1 hl => ?_) ?_
                  rotate_left
                  · obtain ⟨x0, x1, x2, x3, x4⟩ := (HF.out w1 hl).1.cells; have c0 := HC.out w1 (HF.out w1 hl).1; go_simp; try with_reducible rfl
                  simp only [eA, eB, eC, Act.put, eD, eE, eF]
                  refine tkM 8 ?_ rfl (fun w1 hl => ?_) ?_
                  rotate_left
                  · obtain ⟨x0, x1, x2, x3, x4⟩ := (HF.out w1 hl).1.cells; have c0 := HC.out w1 (HF.out w1 hl).1; go_simp; try with_reducible rfl
                  simp only [eA, eB, eC, Act.put, eD, eE, eF]
                  refine tkM 9 ?_ rfl (fun w1 hl => ?_) ?_
                  rotate_left
                  · obtain ⟨x0, x1, x2, x3, x4⟩ := (HF.out w1 hl).1.cells; have c0 := HC.out w1 (HF.out w1 hl).1; go_simp; try with_reducible rfl
                  simp only [eA, eB, eC, Act.put, eD, eE, eF]
                  refine tkM 10 ?_ rfl (fun w1 hl => ?_) ?_
                  rotate_left
                  · obtain ⟨x0, x1, x2, x3, x4⟩ := (HF.out w1 hl).1.cells; have c0 := HC.out w1 (HF.out w1 hl).1; go_simp; try with_reducible rfl
                  simp only [eA, eB, eC, Act.put, eD, eE, eF]
                  refine tkM 11 ?_ rfl (fun w1 hl => ?_) ?_
                  rotate_left
                  · obtain ⟨x0, x1, x2, x3, x4⟩ := (HF.out w1 hl).1.cells; have c0 := HC.out w1 (HF.out w1 hl).1; go_simp; try with_reducible rfl
                  simp only [eA, eB, eC, Act.put, eD, eE, eF]
                  refine tkM 12 ?_ rfl (fun w1 hl => ?_) ?_
                  rotate_left
                  · obtain ⟨x0, x1, x2, x3, x4⟩ := (HF.out w1 hl).1.cells; have c0 := HC.out w1 (HF.out w1 hl).1; go_simp; try with_reducible rfl
                  simp only [eA, eB, eC, Act.put, eD, eE, eF]
                  refine wpM_done (by kernel_rfl) (fun w1 hl => ?_) _
                  obtain ⟨hR5, hO5⟩ := HF.out w1 hl
                  obtain ⟨x0, x1, x2, x3, x4⟩ := hR5.cells
                  have f1 := hR5.box.free 1
                  have hR6 := hR5.set (i + 2)
                  have hO6 : Only b w (w1.setCell ⟨b, 1, none⟩ (.int .i64 ((i + 2 : Nat) : Int))) := hO5.trans (Only.set _ _ _)
                  clear hl HF
                  have hR7 := hR6
                  have hO7 := hO6
                  go_wp2_with (first | (go_at_call 129; go_must (refine (HLT.out _).mono ?_; rintro e w8 ⟨rfl, hB8⟩; have hR8 := hR7.kept hB8; have hO8 := hO7.trans (Only.below hB8 (Nat.le_of_lt hR7.box.lt)))) | (go_at_call 117; go_must (refine (reader_fail _ _ _ _ _ _ _ _ _ 14 i _ hR8).mono ?_; rintro e w9 ⟨rfl, hR9, hO9⟩)))
                  go_ret
                  exact ⟨c.toNat, i + 2, by omega, by omega, rfl, hR9, hO8.trans hO9⟩
                | false =>
                  rw [if_neg (by rintro (q | q | q) <;> first | omega | cases q)]
                  rw [k7] at hlt
                  have HLT := Lib.hid hlt
                  clear hlt
                  clear hk h0 hcap hlen
                  go_enter Tryz.func126, Tryz.ntmps126
                  go_wp2_with (go_at_call 125; go_must (refine (place_left _ _ _ _ _ _ _ _ _ _ hR1 (by omega)).mono ?_; rintro e w3 ⟨rfl, hB3⟩; have hR3 := hR1.kept hB3; have hO3 := hO1.trans (Only.below hB3 (Nat.le_of_lt hR1.box.lt))))
                  have HF := HS.out w3 hR3 hO3
                  refine wp_region_M (R := Later) 13 (by kernel_rfl) ?_
                  refine tkM 0 ?_ rfl (fun w1 hl => ?_) ?_
                  rotate_left
                  · obtain ⟨x0, x1, x2, x3, x4⟩ := (HF.out w1 hl).1.cells; have c0 := HC.out w1 (HF.out w1 hl).1; go_simp; try with_reducible rfl
                  simp only [eA, eB, Act.put, eD, eE, eF]
                  refine tkM 1 ?_ rfl (fun w1 hl => ?_) ?_
                  rotate_left
                  · obtain ⟨x0, x1, x2, x3, x4⟩ := (HF.out w1 hl).1.cells; have c0 := HC.out w1 (HF.out w1 hl).1; go_simp; try with_reducible rfl
                  simp only [eA, eB, eC, Act.put, eD, eE, eF]
                  refine tkM 2 ?_ rfl (fun w1 hl => ?_) ?_
                  rotate_left
                  · obtain ⟨x0, x1, x2, x3, x4⟩ := (HF.out w1 hl).1.cells; have c0 := HC.out w1 (HF.out w1 hl).1; go_simp; try with_reducible rfl
                  simp only [eA, eB, eC, Act.put, eD, eE, eF]
                  refine tkM 3 ?_ rfl (fun w1 hl => ?_) ?_
                  rotate_left
                  · obtain ⟨x0, x1, x2, x3, x4⟩ := (HF.out w1 hl).1.cells; have c0 := HC.out w1 (HF.out w1 hl).1; go_simp; try with_reducible rfl
                  simp only [eA, eB, eC, Act.put, eD, eE, eF]
                  refine tkM 4 ?_ rfl (fun w1 hl => ?_) ?_
                  rotate_left
                  · obtain ⟨x0, x1, x2, x3, x4⟩ := (HF.out w1 hl).1.cells; have c0 := HC.out w1 (HF.out w1 hl).1; go_simp; try with_reducible rfl
                  simp only [eA, eB, eC, Act.put, eD, eE, eF]
                  refine tkM 5 ?_ rfl (fun w1 hl => ?_) ?_
                  rotate_left
                  · obtain ⟨x0, x1, x2, x3, x4⟩ := (HF.out w1 hl).1.cells; have c0 := HC.out w1 (HF.out w1 hl).1; go_simp; try with_reducible rfl
                  simp only [eA, eB, eC, Act.put, eD, eE, eF]
                  refine tkM 6 ?_ rfl (fun w1 hl => ?_) ?_
                  rotate_left
                  · obtain ⟨x0, x1, x2, x3, x4⟩ := (HF.out w1 hl).1.cells; have c0 := HC.out w1 (HF.out w1 hl).1; go_simp; try with_reducible rfl
                  simp only [eA, eB, eC, Act.put, eD, eE, eF]
                  refine tkM 7 ?_ rfl (fun w1 hl => ?_) ?_
                  rotate_left
                  · obtain ⟨x0, x1, x2, x3, x4⟩ := (HF.out w1 hl).1.cells; have c0 := HC.out w1 (HF.out w1 hl).1; go_simp; try with_reducible rfl
                  simp only [eA, eB, eC, Act.put, eD, eE, eF]
                  refine tkM 8 ?_ rfl (fun w1 hl => ?_) ?_
                  rotate_left
                  · obtain ⟨x0, x1, x2, x3, x4⟩ := (HF.out w1 hl).1.cells; have c0 := HC.out w1 (HF.out w1 hl).1; go_simp; try with_reducible rfl
                  simp only [eA, eB, eC, Act.put, eD, eE, eF]
                  refine tkM 9 ?_ rfl (fun w1 hl => ?_) ?_
                  rotate_left
                  · obtain ⟨x0, x1, x2, x3, x4⟩ := (HF.out w1 hl).1.cells; have c0 := HC.out w1 (HF.out w1 hl).1; go_simp; try with_reducible rfl
                  simp only [eA, eB, eC, Act.put, eD, eE, eF]
                  refine tkM 10 ?_ rfl (fun w1 hl => ?_) ?_
                  rotate_left
                  · obtain ⟨x0, x1, x2, x3, x4⟩ := (HF.out w1 hl).1.cells; have c0 := HC.out w1 (HF.out w1 hl).1; go_simp; try with_reducible rfl
                  simp only [eA, eB, eC, Act.put, eD, eE, eF]
                  refine tkM 11 ?_ rfl (fun w1 hl => ?_) ?_
                  rotate_left
                  · obtain ⟨x0, x1, x2, x3, x4⟩ := (HF.out w1 hl).1.cells; have c0 := HC.out w1 (HF.out w1 hl).1; go_simp; try with_reducible rfl
                  simp only [eA, eB, eC, Act.put, eD, eE, eF]
                  refine tkM 12 ?_ rfl (fun w1 hl => ?_) ?_
                  rotate_left
                  · obtain ⟨x0, x1, x2, x3, x4⟩ := (HF.out w1 hl).1.cells; have c0 := HC.out w1 (HF.out w1 hl).1; go_simp; try with_reducible rfl
                  simp only [eA, eB, eC, Act.put, eD, eE, eF]
                  refine wpM_done (by kernel_rfl) (fun w1 hl => ?_) _
                  obtain ⟨hR5, hO5⟩ := HF.out w1 hl
                  obtain ⟨x0, x1, x2, x3, x4⟩ := hR5.cells
                  have f1 := hR5.box.free 1
                  have hR6 := hR5.set (i + 2)
                  have hO6 : Only b w (w1.setCell ⟨b, 1, none⟩ (.int .i64 ((i + 2 : Nat) : Int))) := hO5.trans (Only.set _ _ _)
                  clear hl HF
                  have hR7 := hR6
                  have hO7 := hO6
                  go_wp2_with (first | (go_at_call 129; go_must (refine (HLT.out _).mono ?_; rintro e w8 ⟨rfl, hB8⟩; have hR8 := hR7.kept hB8; have hO8 := hO7.trans (Only.below hB8 (Nat.le_of_lt hR7.box.lt)))) | (go_at_call 117; go_must (refine (reader_fail _ _ _ _ _ _ _ _ _ 14 i _ hR8).mono ?_; rintro e w9 ⟨rfl, hR9, hO9⟩)))
                  go_ret
                  exact ⟨by omega, by omega, rfl, hR8, hO8⟩
end Go.Proofs.YtdhmekpgplajmaaGreatDoor
end
