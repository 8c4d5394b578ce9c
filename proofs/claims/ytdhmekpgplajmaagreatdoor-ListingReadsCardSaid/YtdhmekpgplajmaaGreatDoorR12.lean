/- Joined by tools/merge.py: Char, Item. -/
import Derived.Test.YtdhmekpgplajmaaGreatDoorR10
import Derived.Test.YtdhmekpgplajmaaGreatDoorR11
import Derived.Test.YtdhmekpgplajmaaGreatDoorR3
import Derived.Test.YtdhmekpgplajmaaGreatDoorR1
section
namespace Go.Proofs.YtdhmekpgplajmaaGreatDoor
open Go.RowKit
/-- What a byte at a place says: a fault and its place, or the byte and the place behind. -/
def charR (l : List UInt8) (fr i : Nat) : Sum (Nat × Nat) (Nat × Nat) :=
  if l.length ≤ i then .inl (13, fr) else
  if hereB l i 92 = true then escR l i else
  if specialN (l.getD i 0).toNat = true then .inl (13, i) else .inr ((l.getD i 0).toNat, i + 1)
theorem RetP.over {b g n cap fr p : Nat} {l : List UInt8} {w w1 : World} {r : Sum (Nat × Nat) (Nat × Nat)} {e : Ending} {w' : World} (ho : Only b w w1) (h : RetP b g n cap fr p l w1 r e w') : RetP b g n cap fr p l w r e w' := by
  cases r with
  | inl q => obtain ⟨c, j, h1, h2, h3, h4, h5⟩ := h; exact ⟨c, j, h1, h2, h3, h4, ho.trans h5⟩
  | inr q => obtain ⟨h1, h2, h3, h4, h5⟩ := h; exact ⟨h1, h2, h3, h4, ho.trans h5⟩
theorem RetP.val {b g n cap fr p : Nat} {l : List UInt8} {w : World} {r : Sum (Nat × Nat) (Nat × Nat)} {e : Ending} {w' : World} (h : RetP b g n cap fr p l w r e w') : ∃ c : Nat, e = .returned (.int .u8 c) := by
  cases r with
  | inl q => obtain ⟨c, j, h1, h2, h3, h4, h5⟩ := h; exact ⟨c, h3⟩
  | inr q => obtain ⟨h1, h2, h3, h4, h5⟩ := h; exact ⟨_, h3⟩
set_option maxHeartbeats 1600000 in
theorem reader_char (b g n cap i fr p : Nat) (l : List UInt8) (w : World) (h : RdAt w b g n cap i fr 0 p l) (hi : i ≤ n) :
    Calls Tryz.prog 116 #[.pointer (some ⟨b, 0, none⟩)] w (RetP b g n cap fr p l w (charR l fr i)) := by
  obtain ⟨hlen, hcap, hcap', hcell⟩ := h.sl.cellsA
  have hnb : n ≤ 9223372036854775807 := by omega
  obtain ⟨x0, x1, x2, x3, x4⟩ := h.cells
  have f1 := h.box.free 1
  unfold charR
  rw [← hlen]
  have hbw := Nat.le_of_lt h.box.lt
  by_cases h0 : n ≤ i
  · rw [if_pos h0]
    have e0 : (((n - i : Nat) : Int) == 0) = true := by simp; omega
    clear hcell hcap
    go_enter Tryz.func116, Tryz.ntmps116
    go_wp2_with (first | (go_at_call 125; go_must (refine (place_left _ _ _ _ _ _ _ _ _ _ h (by omega)).mono ?_; rintro e w3 ⟨rfl, hB3⟩; have hR3 := h.kept hB3; have hO3 := Only.below hB3 hbw; obtain ⟨y0, y1, y2, y3, y4⟩ := hR3.cells)) | (go_at_call 117; go_must (refine (reader_fail _ _ _ _ _ _ _ _ _ 13 fr _ hR3).mono ?_; rintro e w4 ⟨rfl, hR4, hO4⟩)))
    go_ret
    exact ⟨0, i, by omega, by omega, rfl, hR4, hO3.trans hO4⟩
  · rw [if_neg h0]
    have e0 : (((n - i : Nat) : Int) == 0) = false := by simp; omega
    have hin : i < n := by omega
    have hhe : ∀ w1, RdAt w1 b g n cap i fr 0 p l → Calls Tryz.prog 115 #[.pointer (some ⟨b, 0, none⟩), .int .u8 92] w1 (Ret w1 (.bool (hereB l i 92))) := fun w1 h1 => place_here b g n cap i fr 0 p l 92 w1 h1
    have hes := fun w1 h1 => reader_escape b g n cap i fr p l w1 h1 hin
    cases hh : hereB l i 92 with
    | true =>
      rw [hh] at hhe
      rw [if_pos rfl]
      have HH := Lib.hid hhe
      have HE := Lib.hid hes
      generalize escR l i = rr at *
      clear hhe hes hcell hcap hh hin h0
      go_enter Tryz.func116, Tryz.ntmps116
      go_wp2_with (first | (go_at_call 125; go_must (refine (place_left _ _ _ _ _ _ _ _ _ _ h (by omega)).mono ?_; rintro e w3 ⟨rfl, hB3⟩; have hR3 := h.kept hB3; have hO3 := Only.below hB3 hbw)) | (go_at_call 115; go_must (refine (HH.out _ hR3).mono ?_; rintro e w4 ⟨rfl, hB4⟩; have hR4 := hR3.kept hB4; have hO4 := hO3.trans (Only.below hB4 (Nat.le_of_lt hR3.box.lt)))) | (go_at_call 126; go_must (refine (HE.out _ hR4).mono ?_; intro e w5 h5; have h6 := RetP.over hO4 h5; clear h5; obtain ⟨cc, rfl⟩ := h6.val)))
      go_ret
      exact h6
    | false =>
      rw [hh] at hhe
      rw [if_neg (by simp)]
      have hk : i < l.length := by omega
      have hgd : l.getD i 0 = l[i] := by simp [List.getD_eq_getElem?_getD, hk]
      rw [hgd]
      have hc0 := fun (v : World) (hr : RdAt v b g n cap i fr 0 p l) => by have := hr.sl.cellsA.2.2.2 i hk v (Below.refl _ _); rw [Nat.zero_add] at this; exact this
      have hc1 := fun (v : World) (hr : RdAt v b g n cap (i + 1) fr 0 p l) => by have := hr.sl.cellsA.2.2.2 i hk v (Below.refl _ _); rw [Nat.zero_add] at this; exact this
      have hsp := fun w => class_special l[i].toNat w l[i].toNat_lt
      generalize l[i] = c at *
      have hc256 := c.toNat_lt
      have HC := Lib.hid hc0
      have HC1 := Lib.hid hc1
      have HH := Lib.hid hhe
      have hS : ∀ (j : Nat) (w3 : World), RdAt w3 b g n cap j fr 0 p l → Only b w w3 → Hid (∀ v, Later w3.drew v → RdAt v b g n cap j fr 0 p l ∧ Only b w v) := fun j w3 hR3 hO3 => Lib.hid fun v hl => ⟨(hR3.kept (Below.refl _ _).drew).kept hl, hO3.trans (Only.below ((Below.refl w3.heap.size w3).drew.trans (Below.mono hl (Nat.le_refl _))) (Nat.le_of_lt hR3.box.lt))⟩
      have HS := Lib.hid hS
      have hi0 : (0 : Int) ≤ (i : Int) := by omega
      have hin' : (i : Int) < (n : Int) := by omega
      have hw1 : IntKind.i64.wrap ((i : Int) + 1) = ((i + 1 : Nat) : Int) := by rw [IntWalk.i64_in _ (by omega)]; omega
      have hw2 : IntKind.i64.wrap ((i : Int) + 1 - 1) = (i : Int) := by rw [IntWalk.i64_in _ (by omega)]; omega
      have hw3 : IntKind.i64.wrap (i : Int) = (i : Int) := IntWalk.i64_in _ (by omega)
      clear hhe hes hcell hcap hh h0 hc0 hc1 hS hgd hk hlen
      cases hsc : specialN c.toNat with
      | true =>
        rw [hsc] at hsp
        have HP := Lib.hid hsp
        clear hsp hsc
        rw [if_pos rfl]
        go_enter Tryz.func116, Tryz.ntmps116
        go_wp2_with (first | (go_at_call 125; go_must (refine (place_left _ _ _ _ _ _ _ _ _ _ h (by omega)).mono ?_; rintro e w3 ⟨rfl, hB3⟩; have hR3 := h.kept hB3; have hO3 := Only.below hB3 hbw)) | (go_at_call 115; go_must (refine (HH.out _ hR3).mono ?_; rintro e w4 ⟨rfl, hB4⟩; have hR4 := hR3.kept hB4; have hO4 := hO3.trans (Only.below hB4 (Nat.le_of_lt hR3.box.lt)))))
        have HF := HS.out i w4 hR4 hO4
        refine wp_region_M (R := Later) 14 (by kernel_rfl) ?_
        refine tkM 0 ?_ rfl (fun w1 hl => ?_) ?_
        rotate_left
        · obtain ⟨x0, x1, x2, x3, x4⟩ := (HF.out w1 hl).1.cells; have c0 := HC.out w1 (HF.out w1 hl).1; go_simp; try with_reducible rfl
        simp only [eA, eB, Act.put, eD, eE, eF]
        refine tkM 1 ?_ rfl (fun w1 hl => ?_) ?_
        rotate_left
        · obtain ⟨x0, x1, x2, x3, x4⟩ := (HF.out w1 hl).1.cells; have c0 := HC.out w1 (HF.out w1 hl).1; go_simp; try with_reducible rfl
        simp only [eA, eB, eC, Act.put, eD, eE, eF]
        refine tkM 2 ?_ rfl (fun w1 hl => ?_) ?_
        rotate_left
        · obtain ⟨x0, x1, x2, x3, x4⟩ := (HF.out w1 hl).1.cells; have c0 := HC.out w1 (HF.out w1 hl).1; go_simp; try with_reducible rfl
        simp only [eA, eB, eC, Act.put, eD, eE, eF]
        refine tkM 3 ?_ rfl (fun w1 hl => ?_) ?_
        rotate_left
        · obtain ⟨x0, x1, x2, x3, x4⟩ := (HF.out w1 hl).1.cells; have c0 := HC.out w1 (HF.out w1 hl).1; go_simp; try with_reducible rfl
        simp only [eA, eB, eC, Act.put, eD, eE, eF]
        refine tkM 4 ?_ rfl (fun w1 hl => ?_) ?_
        rotate_left
        · obtain ⟨x0, x1, x2, x3, x4⟩ := (HF.out w1 hl).1.cells; have c0 := HC.out w1 (HF.out w1 hl).1; go_simp; try with_reducible rfl
        simp only [eA, eB, eC, Act.put, eD, eE, eF]
        refine tkM 5 ?_ rfl (fun w1 hl => ?_) ?_
        rotate_left
        · obtain ⟨x0, x1, x2, x3, x4⟩ := (HF.out w1 hl).1.cells; have c0 := HC.out w1 (HF.out w1 hl).1; go_simp; try with_reducible rfl
        simp only [eA, eB, eC, Act.put, eD, eE, eF]
        refine tkM 6 ?_ rfl (fun w1 hl => ?_) ?_
        rotate_left
        · obtain ⟨x0, x1, x2, x3, x4⟩ := (HF.out w1 hl).1.cells; have c0 := HC.out w1 (HF.out w1 hl).1; go_simp; try with_reducible rfl
        simp only [eA, eB, eC, Act.put, eD, eE, eF]
        refine tkM 7 ?_ rfl (fun w1 hl => ?_) ?_
        rotate_left
        · obtain ⟨x0, x1, x2, x3, x4⟩ := (HF.out w1 hl).1.cells; have c0 := HC.out w1 (HF.out w1 hl).1; go_simp; try with_reducible rfl
        simp only [eA, eB, eC, Act.put, eD, eE, eF]
        refine tkM 8 ?_ rfl (fun w1 hl => ?_) ?_
        rotate_left
        · obtain ⟨x0, x1, x2, x3, x4⟩ := (HF.out w1 hl).1.cells; have c0 := HC.out w1 (HF.out w1 hl).1; go_simp; try with_reducible rfl
        simp only [eA, eB, eC, Act.put, eD, eE, eF]
        refine tkM 9 ?_ rfl (fun w1 hl => ?_) ?_
        rotate_left
        · obtain ⟨x0, x1, x2, x3, x4⟩ := (HF.out w1 hl).1.cells; have c0 := HC.out w1 (HF.out w1 hl).1; go_simp; try with_reducible rfl
        simp only [eA, eB, eC, Act.put, eD, eE, eF]
        refine tkM 10 ?_ rfl (fun w1 hl => ?_) ?_
        rotate_left
        · obtain ⟨x0, x1, x2, x3, x4⟩ := (HF.out w1 hl).1.cells; have c0 := HC.out w1 (HF.out w1 hl).1; go_simp; try with_reducible rfl
        simp only [eA, eB, eC, Act.put, eD, eE, eF]
        refine tkM 11 ?_ rfl (fun w1 hl => ?_) ?_
        rotate_left
        · obtain ⟨x0, x1, x2, x3, x4⟩ := (HF.out w1 hl).1.cells; have c0 := HC.out w1 (HF.out w1 hl).1; go_simp; try with_reducible rfl
        simp only [eA, eB, eC, Act.put, eD, eE, eF]
        refine wpM_call (t := 14) (i := 12) (f := ?_) (args := ?_) (v := ?_) rfl (by kernel_rfl) (by kernel_rfl) (by kernel_rfl) (by kernel_rfl) (fun _ _ _ h => h) (by rfl) (fun w1 => ?_) (fun w1 hl => ?_) ?_
        rotate_left 4
        · exact HP.out w1
        rotate_left
        · go_simp
        simp only [eA, eB, eC, Act.put, eD, eE, eF]
        refine tkM 13 ?_ rfl (fun w1 hl => ?_) ?_
        rotate_left
        · skip; go_simp; try with_reducible rfl
        simp only [eA, eB, eC, Act.put, eD, eE, eF]
        refine wpM_done (by kernel_rfl) (fun w1 hl => ?_) _
        obtain ⟨hR5, hO5⟩ := HF.out w1 hl
        obtain ⟨y0, y1, y2, y3, y4⟩ := hR5.cells
        clear hl HF
        go_wp2_with (go_at_call 117; go_must (refine (reader_fail _ _ _ _ _ _ _ _ _ 13 i _ hR5).mono ?_; rintro e w6 ⟨rfl, hR6, hO6⟩))
        go_ret
        exact ⟨0, i, by omega, by omega, rfl, hR6, hO5.trans hO6⟩
      | false =>
        rw [hsc] at hsp
        have HP := Lib.hid hsp
        clear hsp hsc
        rw [if_neg (by simp)]
        go_enter Tryz.func116, Tryz.ntmps116
        go_wp2_with (first | (go_at_call 125; go_must (refine (place_left _ _ _ _ _ _ _ _ _ _ h (by omega)).mono ?_; rintro e w3 ⟨rfl, hB3⟩; have hR3 := h.kept hB3; have hO3 := Only.below hB3 hbw)) | (go_at_call 115; go_must (refine (HH.out _ hR3).mono ?_; rintro e w4 ⟨rfl, hB4⟩; have hR4 := hR3.kept hB4; have hO4 := hO3.trans (Only.below hB4 (Nat.le_of_lt hR3.box.lt)))))
        have HF := HS.out i w4 hR4 hO4
        refine wp_region_M (R := Later) 14 (by kernel_rfl) ?_
        refine tkM 0 ?_ rfl (fun w1 hl => ?_) ?_
        rotate_left
        · obtain ⟨x0, x1, x2, x3, x4⟩ := (HF.out w1 hl).1.cells; have c0 := HC.out w1 (HF.out w1 hl).1; go_simp; try with_reducible rfl
        simp only [eA, eB, Act.put, eD, eE, eF]
        refine tkM 1 ?_ rfl (fun w1 hl => ?_) ?_
        rotate_left
        · obtain ⟨x0, x1, x2, x3, x4⟩ := (HF.out w1 hl).1.cells; have c0 := HC.out w1 (HF.out w1 hl).1; go_simp; try with_reducible rfl
        simp only [eA, eB, eC, Act.put, eD, eE, eF]
        refine tkM 2 ?_ rfl (fun w1 hl => ?_) ?_
        rotate_left
        · obtain ⟨x0, x1, x2, x3, x4⟩ := (HF.out w1 hl).1.cells; have c0 := HC.out w1 (HF.out w1 hl).1; go_simp; try with_reducible rfl
        simp only [eA, eB, eC, Act.put, eD, eE, eF]
        refine tkM 3 ?_ rfl (fun w1 hl => ?_) ?_
        rotate_left
        · obtain ⟨x0, x1, x2, x3, x4⟩ := (HF.out w1 hl).1.cells; have c0 := HC.out w1 (HF.out w1 hl).1; go_simp; try with_reducible rfl
        simp only [eA, eB, eC, Act.put, eD, eE, eF]
        refine tkM 4 ?_ rfl (fun w1 hl => ?_) ?_
        rotate_left
        · obtain ⟨x0, x1, x2, x3, x4⟩ := (HF.out w1 hl).1.cells; have c0 := HC.out w1 (HF.out w1 hl).1; go_simp; try with_reducible rfl
        simp only [eA, eB, eC, Act.put, eD, eE, eF]
        refine tkM 5 ?_ rfl (fun w1 hl => ?_) ?_
        rotate_left
        · obtain ⟨x0, x1, x2, x3, x4⟩ := (HF.out w1 hl).1.cells; have c0 := HC.out w1 (HF.out w1 hl).1; go_simp; try with_reducible rfl
        simp only [eA, eB, eC, Act.put, eD, eE, eF]
        refine tkM 6 ?_ rfl (fun w1 hl => ?_) ?_
        rotate_left
        · obtain ⟨x0, x1, x2, x3, x4⟩ := (HF.out w1 hl).1.cells; have c0 := HC.out w1 (HF.out w1 hl).1; go_simp; try with_reducible rfl
        simp only [eA, eB, eC, Act.put, eD, eE, eF]
        refine tkM 7 ?_ rfl (fun w1 hl => ?_) ?_
        rotate_left
        · obtain ⟨x0, x1, x2, x3, x4⟩ := (HF.out w1 hl).1.cells; have c0 := HC.out w1 (HF.out w1 hl).1; go_simp; try with_reducible rfl
        simp only [eA, eB, eC, Act.put, eD, eE, eF]
        refine tkM 8 ?_ rfl (fun w1 hl => ?_) ?_
        rotate_left
        · obtain ⟨x0, x1, x2, x3, x4⟩ := (HF.out w1 hl).1.cells; have c0 := HC.out w1 (HF.out w1 hl).1; go_simp; try with_reducible rfl
        simp only [eA, eB, eC, Act.put, eD, eE, eF]
        refine tkM 9 ?_ rfl (fun w1 hl => ?_) ?_
        rotate_left
        · obtain ⟨x0, x1, x2, x3, x4⟩ := (HF.out w1 hl).1.cells; have c0 := HC.out w1 (HF.out w1 hl).1; go_simp; try with_reducible rfl
        simp only [eA, eB, eC, Act.put, eD, eE, eF]
        refine tkM 10 ?_ rfl (fun w1 hl => ?_) ?_
        rotate_left
        · obtain ⟨x0, x1, x2, x3, x4⟩ := (HF.out w1 hl).1.cells; have c0 := HC.out w1 (HF.out w1 hl).1; go_simp; try with_reducible rfl
        simp only [eA, eB, eC, Act.put, eD, eE, eF]
        refine tkM 11 ?_ rfl (fun w1 hl => ?_) ?_
        rotate_left
        · obtain ⟨x0, x1, x2, x3, x4⟩ := (HF.out w1 hl).1.cells; have c0 := HC.out w1 (HF.out w1 hl).1; go_simp; try with_reducible rfl
        simp only [eA, eB, eC, Act.put, eD, eE, eF]
        refine wpM_call (t := 14) (i := 12) (f := ?_) (args := ?_) (v := ?_) rfl (by kernel_rfl) (by kernel_rfl) (by kernel_rfl) (by kernel_rfl) (fun _ _ _ h => h) (by rfl) (fun w1 => ?_) (fun w1 hl => ?_) ?_
        rotate_left 4
        · exact HP.out w1
        rotate_left
        · go_simp
        simp only [eA, eB, eC, Act.put, eD, eE, eF]
        refine tkM 13 ?_ rfl (fun w1 hl => ?_) ?_
        rotate_left
        · skip; go_simp; try with_reducible rfl
        simp only [eA, eB, eC, Act.put, eD, eE, eF]
        refine wpM_done (by kernel_rfl) (fun w1 hl => ?_) _
        obtain ⟨hR5, hO5⟩ := HF.out w1 hl
        obtain ⟨y0, y1, y2, y3, y4⟩ := hR5.cells
        have f5 := hR5.box.free 1
        have hR6 := hR5.set (i + 1)
        have hO6 : Only b w (w1.setCell ⟨b, 1, none⟩ (.int .i64 ((i + 1 : Nat) : Int))) := hO5.trans (Only.set _ _ _)
        clear hl HF
        go_wp2_with fail
        have HF6 := HS.out (i + 1) _ hR6 hO6
        refine wp_region_M (R := Later) 14 (by kernel_rfl) ?_
        refine tkM 0 ?_ rfl (fun w1 hl => ?_) ?_
        rotate_left
        · obtain ⟨z0, z1, z2, z3, z4⟩ := (HF6.out _ hl).1.cells; have c0 := HC1.out _ (HF6.out _ hl).1; go_simp; try with_reducible rfl
        simp only [eA, eB, Act.put, eD, eE, eF]
        refine tkM 1 ?_ rfl (fun w1 hl => ?_) ?_
        rotate_left
        · obtain ⟨z0, z1, z2, z3, z4⟩ := (HF6.out _ hl).1.cells; have c0 := HC1.out _ (HF6.out _ hl).1; go_simp; try with_reducible rfl
        simp only [eA, eB, eC, Act.put, eD, eE, eF]
        refine tkM 2 ?_ rfl (fun w1 hl => ?_) ?_
        rotate_left
        · obtain ⟨z0, z1, z2, z3, z4⟩ := (HF6.out _ hl).1.cells; have c0 := HC1.out _ (HF6.out _ hl).1; go_simp; try with_reducible rfl
        simp only [eA, eB, eC, Act.put, eD, eE, eF]
        refine tkM 3 ?_ rfl (fun w1 hl => ?_) ?_
        rotate_left
        · obtain ⟨z0, z1, z2, z3, z4⟩ := (HF6.out _ hl).1.cells; have c0 := HC1.out _ (HF6.out _ hl).1; go_simp; try with_reducible rfl
        simp only [eA, eB, eC, Act.put, eD, eE, eF]
        refine tkM 4 ?_ rfl (fun w1 hl => ?_) ?_
        rotate_left
        · obtain ⟨z0, z1, z2, z3, z4⟩ := (HF6.out _ hl).1.cells; have c0 := HC1.out _ (HF6.out _ hl).1; go_simp; try with_reducible rfl
        simp only [eA, eB, eC, Act.put, eD, eE, eF]
        refine tkM 5 ?_ rfl (fun w1 hl => ?_) ?_
        rotate_left
        · obtain ⟨z0, z1, z2, z3, z4⟩ := (HF6.out _ hl).1.cells; have c0 := HC1.out _ (HF6.out _ hl).1; go_simp; try with_reducible rfl
        simp only [eA, eB, eC, Act.put, eD, eE, eF]
        refine tkM 6 ?_ rfl (fun w1 hl => ?_) ?_
        rotate_left
        · obtain ⟨z0, z1, z2, z3, z4⟩ := (HF6.out _ hl).1.cells; have c0 := HC1.out _ (HF6.out _ hl).1; go_simp; try with_reducible rfl
        simp only [eA, eB, eC, Act.put, eD, eE, eF]
        refine tkM 7 ?_ rfl (fun w1 hl => ?_) ?_
        rotate_left
        · obtain ⟨z0, z1, z2, z3, z4⟩ := (HF6.out _ hl).1.cells; have c0 := HC1.out _ (HF6.out _ hl).1; go_simp; try with_reducible rfl
        simp only [eA, eB, eC, Act.put, eD, eE, eF]
        refine tkM 8 ?_ rfl (fun w1 hl => ?_) ?_
        rotate_left
        · obtain ⟨z0, z1, z2, z3, z4⟩ := (HF6.out _ hl).1.cells; have c0 := HC1.out _ (HF6.out _ hl).1; go_simp; try with_reducible rfl
        simp only [eA, eB, eC, Act.put, eD, eE, eF]
        refine tkM 9 ?_ rfl (fun w1 hl => ?_) ?_
        rotate_left
        · obtain ⟨z0, z1, z2, z3, z4⟩ := (HF6.out _ hl).1.cells; have c0 := HC1.out _ (HF6.out _ hl).1; go_simp; try with_reducible rfl
        simp only [eA, eB, eC, Act.put, eD, eE, eF]
        refine tkM 10 ?_ rfl (fun w1 hl => ?_) ?_
        rotate_left
        · obtain ⟨z0, z1, z2, z3, z4⟩ := (HF6.out _ hl).1.cells; have c0 := HC1.out _ (HF6.out _ hl).1; go_simp; try with_reducible rfl
        simp only [eA, eB, eC, Act.put, eD, eE, eF]
        refine tkM 11 ?_ rfl (fun w1 hl => ?_) ?_
        rotate_left
        · obtain ⟨z0, z1, z2, z3, z4⟩ := (HF6.out _ hl).1.cells; have c0 := HC1.out _ (HF6.out _ hl).1; go_simp; try with_reducible rfl
        simp only [eA, eB, eC, Act.put, eD, eE, eF]
        refine tkM 12 ?_ rfl (fun w1 hl => ?_) ?_
        rotate_left
        · obtain ⟨z0, z1, z2, z3, z4⟩ := (HF6.out _ hl).1.cells; have c0 := HC1.out _ (HF6.out _ hl).1; go_simp; try with_reducible rfl
        simp only [eA, eB, eC, Act.put, eD, eE, eF]
        refine tkM 13 ?_ rfl (fun w1 hl => ?_) ?_
        rotate_left
        · obtain ⟨z0, z1, z2, z3, z4⟩ := (HF6.out _ hl).1.cells; have c0 := HC1.out _ (HF6.out _ hl).1; go_simp; try with_reducible rfl
        simp only [eA, eB, eC, Act.put, eD, eE, eF]
        refine wpM_done (by kernel_rfl) (fun w1 hl => ?_) _
        obtain ⟨hR7, hO7⟩ := HF6.out _ hl
        go_wp2
        go_ret
        exact ⟨hc256, by omega, rfl, hR7, hO7⟩
end Go.Proofs.YtdhmekpgplajmaaGreatDoor
end
section
namespace Go.Proofs.YtdhmekpgplajmaaGreatDoor
open Go.RowKit
/-- What an item at a place says: a fault and its place, or the ends and the place behind. -/
def itemR (l : List UInt8) (fr i : Nat) : Sum (Nat × Nat) ((Nat × Nat) × Nat) :=
  match charR l fr i with
  | .inl q => .inl q
  | .inr (lo, j) =>
    if hereB l j 45 = true then
      (match charR l fr (j + 1) with
       | .inl q => .inl q
       | .inr (hi, k) => if hi < lo then .inl (15, i) else .inr ((lo, hi), k))
    else .inr ((lo, lo), j)
/-- The set of all bytes from one to another. -/
def spanS (lo hi : Nat) : BSet := ofP fun b => decide (lo ≤ b) && decide (b ≤ hi)
/-- What reading an item leaves. -/
def RetI (b g n cap fr p : Nat) (l : List UInt8) (w : World) (r : Sum (Nat × Nat) ((Nat × Nat) × Nat)) (e : Ending) (w' : World) : Prop :=
  match r with
  | .inr (q, j) => j ≤ n ∧ RetRd b g n cap fr l w (setV (spanS q.1 q.2)) j 0 p e w'
  | .inl (kd, ps) => kd ≠ 0 ∧ ∃ (s : BSet) (j : Nat), j ≤ n ∧ RetRd b g n cap fr l w (setV s) j kd ps e w'
theorem RetI.err {b g n cap fr p kd ps j : Nat} {l : List UInt8} {w w' : World} {s : BSet} {e : Ending} (h0 : kd ≠ 0) (hj : j ≤ n) (h : RetRd b g n cap fr l w (setV s) j kd ps e w') : RetI b g n cap fr p l w (.inl (kd, ps)) e w' := ⟨h0, s, j, hj, h⟩
theorem RetI.ok {b g n cap fr p lo hi j : Nat} {l : List UInt8} {w w' : World} {e : Ending} (hj : j ≤ n) (h : RetRd b g n cap fr l w (setV (spanS lo hi)) j 0 p e w') : RetI b g n cap fr p l w (.inr ((lo, hi), j)) e w' := ⟨hj, h⟩
theorem itemR_e1 {l : List UInt8} {fr i : Nat} {q : Nat × Nat} (h : charR l fr i = .inl q) : itemR l fr i = .inl q := by unfold itemR; rw [h]
theorem itemR_one {l : List UInt8} {fr i lo j : Nat} (h : charR l fr i = .inr (lo, j)) (h2 : hereB l j 45 = false) : itemR l fr i = .inr ((lo, lo), j) := by unfold itemR; rw [h]; dsimp only; rw [h2]; rfl
theorem itemR_e2 {l : List UInt8} {fr i lo j : Nat} {q : Nat × Nat} (h : charR l fr i = .inr (lo, j)) (h2 : hereB l j 45 = true) (h3 : charR l fr (j + 1) = .inl q) : itemR l fr i = .inl q := by unfold itemR; rw [h]; dsimp only; rw [h2, h3]; rfl
theorem itemR_e3 {l : List UInt8} {fr i lo j hi k : Nat} (h : charR l fr i = .inr (lo, j)) (h2 : hereB l j 45 = true) (h3 : charR l fr (j + 1) = .inr (hi, k)) (h4 : hi < lo) : itemR l fr i = .inl (15, i) := by unfold itemR; rw [h]; dsimp only; rw [h2, h3]; simp [h4]
theorem itemR_two {l : List UInt8} {fr i lo j hi k : Nat} (h : charR l fr i = .inr (lo, j)) (h2 : hereB l j 45 = true) (h3 : charR l fr (j + 1) = .inr (hi, k)) (h4 : ¬ hi < lo) : itemR l fr i = .inr ((lo, hi), k) := by unfold itemR; rw [h]; dsimp only; rw [h2, h3]; simp [h4]
theorem escR_ne {l : List UInt8} {i c ps : Nat} (h : escR l i = .inl (c, ps)) : c ≠ 0 := by
  unfold escR at h
  repeat' split at h
  all_goals first | (cases h; decide) | cases h
theorem charR_ne {l : List UInt8} {fr i c ps : Nat} (h : charR l fr i = .inl (c, ps)) : c ≠ 0 := by
  unfold charR at h
  repeat' split at h
  all_goals first | exact escR_ne h | (cases h; decide) | cases h
theorem hereB_lt {l : List UInt8} {i : Nat} {c : UInt8} (h : hereB l i c = true) : i < l.length := by
  unfold hereB at h; simp only [Bool.and_eq_true, decide_eq_true_eq] at h; exact h.1
theorem Only.late {b g i : Nat} {w w' : World} (h : Only b w w') (hb : b ≤ w.heap.size) (hg : w.heap.size ≤ g) (v : Value) : Only b w (w'.setCell ⟨g, i, none⟩ v) :=
  ⟨h.1.setCell (p := ⟨g, i, none⟩) (Nat.le_trans hb hg) v, by simpa [World.setCell] using h.2.size, fun b' hb' c E fr e => by
    have hlt : b' < w.heap.size := (Array.getElem?_eq_some_iff.1 e).1
    exact (Below.heap_setCell w' ⟨g, i, none⟩ v b' (fun e2 => by have : b' = g := e2; omega)).trans (h.2.same b' hb' c E fr e)⟩
theorem rd_end {b g n cap fr p i j k p' : Nat} {l : List UInt8} {w w' : World} (h : RdAt w b g n cap i fr 0 p l) (hR : RdAt w' b g n cap j fr k p' l) (hO : Only b w w') (v0 v1 v2 v3 : Value) :
    RdAt ((((w'.setCell ⟨w.heap.size, 0, none⟩ v0).setCell ⟨w.heap.size, 1, none⟩ v1).setCell ⟨w.heap.size, 2, none⟩ v2).setCell ⟨w.heap.size, 3, none⟩ v3) b g n cap j fr k p' l ∧ Only b w ((((w'.setCell ⟨w.heap.size, 0, none⟩ v0).setCell ⟨w.heap.size, 1, none⟩ v1).setCell ⟨w.heap.size, 2, none⟩ v2).setCell ⟨w.heap.size, 3, none⟩ v3) := by
  have hb := Nat.le_of_lt h.box.lt
  have hne : b ≠ w.heap.size := Nat.ne_of_lt h.box.lt
  have ho := (((hO.late hb (Nat.le_refl _) (i := 0) v0).late hb (Nat.le_refl _) (i := 1) v1).late hb (Nat.le_refl _) (i := 2) v2).late hb (Nat.le_refl _) (i := 3) v3
  exact ⟨⟨hR.box.other4 hne _ _ _ _, ho.slice h.sl h.ne, h.ne⟩, ho⟩
set_option maxHeartbeats 1600000 in
theorem reader_item (b g n cap i fr p : Nat) (l : List UInt8) (w : World) (h : RdAt w b g n cap i fr 0 p l) (hi : i ≤ n) :
    Calls Tryz.prog 100 #[.pointer (some ⟨b, 0, none⟩)] w (RetI b g n cap fr p l w (itemR l fr i)) := by
  have hlen : n = l.length := h.sl.cellsA.1
  have hbw := Nat.le_of_lt h.box.lt
  have hne : w.heap.size ≠ b := Nat.ne_of_gt h.box.lt
  have hch := fun (j : Nat) (hj : j ≤ n) (w1 : World) (h1 : RdAt w1 b g n cap j fr 0 p l) => reader_char b g n cap j fr p l w1 h1 hj
  have hR1 : RdAt (w.alloc (.cells #[.int .u64 0, .int .u64 0, .int .u64 0, .int .u64 0] 43)) b g n cap i fr 0 p l := h.kept (later_alloc w _)
  have hO1 : Only b w (w.alloc (.cells #[.int .u64 0, .int .u64 0, .int .u64 0, .int .u64 0] 43)) := Only.below (later_alloc w _) hbw
  have hX1 := Box.new' (w := w) rfl #[.int .u64 0, .int .u64 0, .int .u64 0, .int .u64 0] 43
  have hw3 : IntKind.i64.wrap (i : Int) = (i : Int) := IntWalk.i64_in _ (by have := h.sl.cellsA; omega)
  obtain ⟨x0, x1, x2, x3, x4⟩ := hR1.cells
  have HI := Lib.hid hi
  have hcn := fun (c ps j : Nat) => charR_ne (l := l) (fr := fr) (i := j) (c := c) (ps := ps)
  cases hc : charR l fr i with
  | inl q =>
    obtain ⟨c, ps⟩ := q
    have hn0 := hcn c ps i hc
    have e1 : ((c : Int) == 0) = false := by simp; omega
    have HC := hch i hi
    rw [hc] at HC
    have HC := Lib.hid HC
    clear hch hcn
    rw [itemR_e1 hc]
    clear hc
    go_enter Tryz.func100, Tryz.ntmps100
    go_wp2_with (first | (go_at_call 116; go_must (refine (HC.out _ hR1).mono ?_; rintro e w2 ⟨cc, j, hcc, hj, rfl, hR2, hO2⟩; have hO3 := hO1.trans hO2; have hX2 := hO2.box hX1 hne; obtain ⟨y0, y1, y2, y3, y4⟩ := hR2.cells)) | (go_at_call 118; go_must (refine (sets_Span cc cc _ hcc hcc).mono ?_; rintro e w5 ⟨rfl, hB5⟩; have hR5 := hR2.kept hB5; have hX5 := hX2.kept hB5; have hO5 := hO3.trans (Only.below hB5 (Nat.le_of_lt hR2.box.lt)); have p0 := hX5.cell 0; have p1 := hX5.cell 1; have p2 := hX5.cell 2; have p3 := hX5.cell 3; have q0 := hX5.free 0; have q1 := hX5.free 1; have q2 := hX5.free 2; have q3 := hX5.free 3)))
    obtain ⟨hE1, hE2⟩ := rd_end h hR5 hO5 (.int .u64 (word (spanS cc cc) 0 : Nat)) (.int .u64 (word (spanS cc cc) 1 : Nat)) (.int .u64 (word (spanS cc cc) 2 : Nat)) (.int .u64 (word (spanS cc cc) 3 : Nat))
    exact ret_box Tryz.results100 rfl (hX5.store4 rfl _ _ _ _) Tryz.underlying43 rfl (by kernel_rfl) rfl (.err hn0 hj ⟨rfl, hE1, hE2⟩)
  | inr q =>
    obtain ⟨lo, j⟩ := q
    have HC := hch i hi
    rw [hc] at HC
    have HC := Lib.hid HC
    have htk : ∀ w1, RdAt w1 b g n cap j fr 0 p l → Calls Tryz.prog 99 #[.pointer (some ⟨b, 0, none⟩), .int .u8 45] w1 (RetRd b g n cap fr l w1 (.bool (hereB l j 45)) (if hereB l j 45 then j + 1 else j) 0 p) := fun w1 h1 => place_take b g n cap j fr 0 p l 45 w1 h1
    cases hh : hereB l j 45 with
    | false =>
      rw [hh] at htk
      have HT := Lib.hid htk
      clear hch hcn htk
      rw [itemR_one hc hh]
      clear hc hh
      go_enter Tryz.func100, Tryz.ntmps100
      go_wp2_with (first | (go_at_call 116; go_must (refine (HC.out _ hR1).mono ?_; rintro e w2 ⟨hcc, hj, rfl, hR2, hO2⟩; have hO3 := hO1.trans hO2; have hX2 := hO2.box hX1 hne; obtain ⟨y0, y1, y2, y3, y4⟩ := hR2.cells)) | (go_at_call 99; go_must (refine (HT.out _ hR2).mono ?_; rintro e w4 ⟨rfl, hR4, hO4⟩; have hO5 := hO3.trans hO4; have hX4 := hO4.box hX2 hne)) | (go_at_call 118; go_must (refine (sets_Span lo lo _ hcc hcc).mono ?_; rintro e w5 ⟨rfl, hB5⟩; have hR5 := hR4.kept hB5; have hX5 := hX4.kept hB5; have hO6 := hO5.trans (Only.below hB5 (Nat.le_of_lt hR4.box.lt)); have p0 := hX5.cell 0; have p1 := hX5.cell 1; have p2 := hX5.cell 2; have p3 := hX5.cell 3; have q0 := hX5.free 0; have q1 := hX5.free 1; have q2 := hX5.free 2; have q3 := hX5.free 3)))
      obtain ⟨hE1, hE2⟩ := rd_end h hR5 hO6 (.int .u64 (word (spanS lo lo) 0 : Nat)) (.int .u64 (word (spanS lo lo) 1 : Nat)) (.int .u64 (word (spanS lo lo) 2 : Nat)) (.int .u64 (word (spanS lo lo) 3 : Nat))
      exact ret_box Tryz.results100 rfl (hX5.store4 rfl _ _ _ _) Tryz.underlying43 rfl (by kernel_rfl) rfl (.ok hj ⟨rfl, hE1, hE2⟩)
    | true =>
      rw [hh] at htk
      have hjl := hereB_lt hh
      have HT := Lib.hid htk
      have HC2 := hch (j + 1) (by omega)
      cases hc2 : charR l fr (j + 1) with
      | inl q =>
        obtain ⟨c, ps⟩ := q
        have hn0 := hcn c ps _ hc2
        rw [hc2] at HC2
        have HC2 := Lib.hid HC2
        have HF := Lib.hid (fun w1 j2 h1 => reader_fail b g n cap j2 fr c ps l 15 i w1 h1)
        clear hch hcn htk
        rw [itemR_e2 hc hh hc2]
        clear hc hh hc2
        go_enter Tryz.func100, Tryz.ntmps100
        go_wp2_with (first | (go_at_call 116; refine (HC.out _ hR1).mono ?_; rintro e w2 ⟨hcc, hj, rfl, hR2, hO2⟩; have hO3 := hO1.trans hO2; have hX2 := hO2.box hX1 hne; obtain ⟨y0, y1, y2, y3, y4⟩ := hR2.cells) | (go_at_call 99; go_must (refine (HT.out _ hR2).mono ?_; rintro e w4 ⟨rfl, hR4, hO4⟩; have hO5 := hO3.trans hO4; have hX4 := hO4.box hX2 hne)) | (go_at_call 116; go_must (refine (HC2.out _ hR4).mono ?_; rintro e w6 ⟨cc, j6, hc6, hj6, rfl, hR6, hO6⟩; have hO7 := hO5.trans hO6; have hX6 := hO6.box hX4 hne)) | (go_at_call 117; go_must (refine (HF.out _ _ hR6).mono ?_; rw [if_neg hn0, if_neg hn0]; rintro e w8 ⟨rfl, hR8, hO8⟩; have hO9 := hO7.trans hO8; have hX8 := hO8.box hX6 hne)) | (go_at_call 118; refine (sets_Span lo cc _ hcc hc6).mono ?_; rintro e w5 ⟨rfl, hB5⟩; have hRx := hR8.kept hB5; have hX5 := hX8.kept hB5; have hOx := hO9.trans (Only.below hB5 (Nat.le_of_lt hR8.box.lt)); have p0 := hX5.cell 0; have p1 := hX5.cell 1; have p2 := hX5.cell 2; have p3 := hX5.cell 3; have q0 := hX5.free 0; have q1 := hX5.free 1; have q2 := hX5.free 2; have q3 := hX5.free 3) | (go_at_call 118; refine (sets_Span lo cc _ hcc hc6).mono ?_; rintro e w5 ⟨rfl, hB5⟩; have hRx := hR6.kept hB5; have hX5 := hX6.kept hB5; have hOx := hO7.trans (Only.below hB5 (Nat.le_of_lt hR6.box.lt)); have p0 := hX5.cell 0; have p1 := hX5.cell 1; have p2 := hX5.cell 2; have p3 := hX5.cell 3; have q0 := hX5.free 0; have q1 := hX5.free 1; have q2 := hX5.free 2; have q3 := hX5.free 3))
        all_goals
          obtain ⟨hE1, hE2⟩ := rd_end h hRx hOx (.int .u64 (word (spanS lo cc) 0 : Nat)) (.int .u64 (word (spanS lo cc) 1 : Nat)) (.int .u64 (word (spanS lo cc) 2 : Nat)) (.int .u64 (word (spanS lo cc) 3 : Nat))
          exact ret_box Tryz.results100 rfl (hX5.store4 rfl _ _ _ _) Tryz.underlying43 rfl (by kernel_rfl) rfl (.err hn0 hj6 ⟨rfl, hE1, hE2⟩)
      | inr q =>
        obtain ⟨hi2, k⟩ := q
        rw [hc2] at HC2
        have HC2 := Lib.hid HC2
        have HF := Lib.hid (fun w1 j2 h1 => reader_fail b g n cap j2 fr 0 p l 15 i w1 h1)
        clear hch hcn htk
        by_cases hlt : hi2 < lo
        · rw [itemR_e3 hc hh hc2 hlt]
          clear hc hh hc2
          go_enter Tryz.func100, Tryz.ntmps100
          go_wp2_with (first | (go_at_call 116; refine (HC.out _ hR1).mono ?_; rintro e w2 ⟨hcc, hj, rfl, hR2, hO2⟩; have hO3 := hO1.trans hO2; have hX2 := hO2.box hX1 hne; obtain ⟨y0, y1, y2, y3, y4⟩ := hR2.cells) | (go_at_call 99; go_must (refine (HT.out _ hR2).mono ?_; rintro e w4 ⟨rfl, hR4, hO4⟩; have hO5 := hO3.trans hO4; have hX4 := hO4.box hX2 hne)) | (go_at_call 116; go_must (refine (HC2.out _ hR4).mono ?_; rintro e w6 ⟨hc6, hj6, rfl, hR6, hO6⟩; have hO7 := hO5.trans hO6; have hX6 := hO6.box hX4 hne)) | (go_at_call 117; go_must (refine (HF.out _ _ hR6).mono ?_; simp only [if_true]; rintro e w8 ⟨rfl, hR8, hO8⟩; have hO9 := hO7.trans hO8; have hX8 := hO8.box hX6 hne)) | (go_at_call 118; go_must (refine (sets_Span lo hi2 _ hcc hc6).mono ?_; rintro e w5 ⟨rfl, hB5⟩; have hRx := hR8.kept hB5; have hX5 := hX8.kept hB5; have hOx := hO9.trans (Only.below hB5 (Nat.le_of_lt hR8.box.lt)); have p0 := hX5.cell 0; have p1 := hX5.cell 1; have p2 := hX5.cell 2; have p3 := hX5.cell 3; have q0 := hX5.free 0; have q1 := hX5.free 1; have q2 := hX5.free 2; have q3 := hX5.free 3)))
          obtain ⟨hE1, hE2⟩ := rd_end h hRx hOx (.int .u64 (word (spanS lo hi2) 0 : Nat)) (.int .u64 (word (spanS lo hi2) 1 : Nat)) (.int .u64 (word (spanS lo hi2) 2 : Nat)) (.int .u64 (word (spanS lo hi2) 3 : Nat))
          exact ret_box Tryz.results100 rfl (hX5.store4 rfl _ _ _ _) Tryz.underlying43 rfl (by kernel_rfl) rfl (.err (by decide) hj6 ⟨rfl, hE1, hE2⟩)
        · rw [itemR_two hc hh hc2 hlt]
          clear hc hh hc2
          go_enter Tryz.func100, Tryz.ntmps100
          go_wp2_with (first | (go_at_call 116; refine (HC.out _ hR1).mono ?_; rintro e w2 ⟨hcc, hj, rfl, hR2, hO2⟩; have hO3 := hO1.trans hO2; have hX2 := hO2.box hX1 hne; obtain ⟨y0, y1, y2, y3, y4⟩ := hR2.cells) | (go_at_call 99; go_must (refine (HT.out _ hR2).mono ?_; rintro e w4 ⟨rfl, hR4, hO4⟩; have hO5 := hO3.trans hO4; have hX4 := hO4.box hX2 hne)) | (go_at_call 116; go_must (refine (HC2.out _ hR4).mono ?_; rintro e w6 ⟨hc6, hj6, rfl, hR6, hO6⟩; have hO7 := hO5.trans hO6; have hX6 := hO6.box hX4 hne)) | (go_at_call 118; go_must (refine (sets_Span lo hi2 _ hcc hc6).mono ?_; rintro e w5 ⟨rfl, hB5⟩; have hRx := hR6.kept hB5; have hX5 := hX6.kept hB5; have hOx := hO7.trans (Only.below hB5 (Nat.le_of_lt hR6.box.lt)); have p0 := hX5.cell 0; have p1 := hX5.cell 1; have p2 := hX5.cell 2; have p3 := hX5.cell 3; have q0 := hX5.free 0; have q1 := hX5.free 1; have q2 := hX5.free 2; have q3 := hX5.free 3)))
          obtain ⟨hE1, hE2⟩ := rd_end h hRx hOx (.int .u64 (word (spanS lo hi2) 0 : Nat)) (.int .u64 (word (spanS lo hi2) 1 : Nat)) (.int .u64 (word (spanS lo hi2) 2 : Nat)) (.int .u64 (word (spanS lo hi2) 3 : Nat))
          exact ret_box Tryz.results100 rfl (hX5.store4 rfl _ _ _ _) Tryz.underlying43 rfl (by kernel_rfl) rfl (.ok hj6 ⟨rfl, hE1, hE2⟩)
end Go.Proofs.YtdhmekpgplajmaaGreatDoor
end
