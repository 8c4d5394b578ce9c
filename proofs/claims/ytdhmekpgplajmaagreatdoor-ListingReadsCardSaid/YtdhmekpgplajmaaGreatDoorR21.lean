/- Joined by tools/merge.py: RClassNo, RClassYes, RLine, RLine2, RLineA. -/
import Derived.Test.YtdhmekpgplajmaaGreatDoorR20
import Derived.Test.YtdhmekpgplajmaaGreatDoorR5
import Derived.Test.YtdhmekpgplajmaaGreatDoorR19x
section
namespace Go.Proofs.YtdhmekpgplajmaaGreatDoor
open Go.RowKit
set_option maxRecDepth 20000 in
set_option maxHeartbeats 12800000 in
theorem reader_class_no (r base k : Nat) (V : VDfa) (t : BSet) (D : PDfa) (s : List UInt8) (w : World) (h : RdR w r base V t D) (hT : Tab w) (hno : classL D t k s = none) (hs : s.length ≤ 9223372036854775807) (hk : k ≤ 9223372036854775807) :
    Calls Tryz.prog 48 #[.pointer (some ⟨r, 0, none⟩), .int .i64 k, sv s] w (Left w) := by
  have hpre := fun w => Tryz.strings_HasPrefix ⟨s.toArray⟩ ⟨#[91]⟩ w
  simp only at hpre
  have hbytes := fun w => bytes_of (P := Tryz.prog) (src := 9) (dst := 56) w Tryz.underlying9 Tryz.underlying56 Tryz.underlying5 s hs
  have HBY := Lib.hid hbytes
  cases hp : Lib.hasPrefix s [91] with
  | false =>
    rw [hp] at hpre
    have HP := Lib.hid hpre
    clear hp hpre h hT hno
    go_enter Tryz.func48, Tryz.ntmps48
    go_wp2_with (first | (go_at_call 72; go_must (refine (HP.out _).mono ?_; rintro e w1 ⟨rfl, rfl⟩)) | (go_at_call 17; go_must (refine (must_no _).mono ?_; rintro e w2 ⟨rfl, hB2⟩)))
    exact ⟨rfl, rfl, hB2⟩
  | true =>
  rw [hp] at hpre
  have HP := Lib.hid hpre
  have hs0 : 0 < s.length := by
    cases s with
    | nil => cases hp
    | cons _ _ => simp
  obtain ⟨f, j, kd, ps, hret, hor⟩ := retR_form s
  rw [setC_four] at hret
  have hcr := fun g n cap w h hg => class_Read g n cap s w h hg
  rw [hret] at hcr
  have HCR := Lib.hid hcr
  have hway : kd ≠ 0 ∨ (kd = 0 ∧ ¬ (j = s.length ∧ k < 256 ∧ f &&& t = 0)) := by
    rcases hor with ⟨rfl, hr⟩ | ⟨h0, _⟩
    · refine .inr ⟨rfl, fun hc => ?_⟩
      unfold classL at hno
      rw [hr] at hno
      simp only [hc, and_self, if_true] at hno
      cases hno
    · exact .inl h0
  have HW := Lib.hid hway
  clear hcr hret hor hway hno
  clear hbytes hpre hp
  go_enter Tryz.func48, Tryz.ntmps48
  go_wp2_with (first | (go_at_call 72; go_must (refine (HP.out _).mono ?_; rintro e w0 ⟨rfl, rfl⟩)) | (go_at_call 17; go_must (refine (must_yes _).mono ?_; rintro e w2 ⟨rfl, hB2⟩; obtain ⟨cap, w3, hcv, hB3, hsl⟩ := HBY.out w2)) | (go_at_call 73; go_must (refine (HCR.out _ _ _ _ hsl (World.block_lt_of_cell? _ _ (hsl.cellsA.2.2.2 0 hs0 _ (Below.refl _ _)))).mono ?_; rintro e w4 ⟨rfl, hB4⟩)))
  have hB4' : Below w0.heap.size w0 w4 := (hB2.trans (hB3.mono hB2.size)).trans (hB4.mono (Nat.le_trans hB2.size hB3.size))
  have hRC : RC w0 ((w4.alloc (.cells (setC f) 43)).alloc (.cells #[.int .i64 kd, .int .i64 ps] 80)) r base V t D w4.heap.size f kd ps :=
    ⟨(Box.new' rfl _ _).alloc _, Box.new' (by simp) _ _, (h.kept hB4').kept ((later_alloc _ _).trans ((later_alloc _ _).mono (by simp))), (hB4'.alloc hB4'.size _).alloc (by simp; have := hB4'.size; omega) _, (hT.kept hB4').kept ((later_alloc _ _).trans ((later_alloc _ _).mono (by simp)))⟩
  have hbw4 := hB4'.size
  clear HCR HBY HP hB4' hB4 hB3 hB2 hcv hsl h hT hs0
  unfold setC at hRC
  generalize ((w4.alloc (.cells #[.int .u64 (word f 0 : Nat), .int .u64 (word f 1 : Nat), .int .u64 (word f 2 : Nat), .int .u64 (word f 3 : Nat)] 43)).alloc (.cells #[.int .i64 kd, .int .i64 ps] 80)) = W at *
  generalize w4.heap.size = b at *
  have HF : Hid (∀ v, Later W.drew v → RC w0 v r base V t D b f kd ps) := Lib.hid fun v hl => (hRC.kept (Below.refl _ _).drew).kept hl
  clear hRC
  rcases HW.out with ha | ⟨rfl, hn⟩
  · have e0 : ((kd : Int) == 0) = false := by simp; omega
    refine wp_region_M (R := Later) 24 (by kernel_rfl) ?_
    refine tkM 0 ?_ rfl (fun w1 hl => ?_) ?_
    rotate_left
    · have x0 := (HF.out w1 hl).bad.cell 0; go_simp; try with_reducible rfl
    simp only [eA, eB, Act.put, eD, eE, eF]
    refine tkM 1 ?_ rfl (fun w1 hl => ?_) ?_
    rotate_left
    · have x0 := (HF.out w1 hl).bad.cell 0; go_simp; try with_reducible rfl
    simp only [eA, eB, eC, Act.put, eD, eE, eF]
    refine tkM 2 ?_ rfl (fun w1 hl => ?_) ?_
    rotate_left
    · have x0 := (HF.out w1 hl).bad.cell 0; go_simp; try with_reducible rfl
    simp only [eA, eB, eC, Act.put, eD, eE, eF]
    refine tkM 3 ?_ rfl (fun w1 hl => ?_) ?_
    rotate_left
    · have x0 := (HF.out w1 hl).bad.cell 0; go_simp; try with_reducible rfl
    simp only [eA, eB, eC, Act.put, eD, eE, eF]
    refine skM 4 rfl ?_
    simp only [eA, eB, eC, Act.put, eD, eE, eF]
    refine skM 5 rfl ?_
    simp only [eA, eB, eC, Act.put, eD, eE, eF]
    refine skM 6 rfl ?_
    simp only [eA, eB, eC, Act.put, eD, eE, eF]
    refine skM 7 rfl ?_
    simp only [eA, eB, eC, Act.put, eD, eE, eF]
    refine tkM 8 ?_ rfl (fun w1 hl => ?_) ?_
    rotate_left
    · skip; go_simp; try with_reducible rfl
    simp only [eA, eB, eC, Act.put, eD, eE, eF]
    refine tkM 9 ?_ rfl (fun w1 hl => ?_) ?_
    rotate_left
    · skip; go_simp; try with_reducible rfl
    simp only [eA, eB, eC, Act.put, eD, eE, eF]
    refine skM 10 rfl ?_
    simp only [eA, eB, eC, Act.put, eD, eE, eF]
    refine skM 11 rfl ?_
    simp only [eA, eB, eC, Act.put, eD, eE, eF]
    refine tkM 12 ?_ rfl (fun w1 hl => ?_) ?_
    rotate_left
    · skip; go_simp; try with_reducible rfl
    simp only [eA, eB, eC, Act.put, eD, eE, eF]
    refine tkM 13 ?_ rfl (fun w1 hl => ?_) ?_
    rotate_left
    · skip; go_simp; try with_reducible rfl
    simp only [eA, eB, eC, Act.put, eD, eE, eF]
    refine skM 14 rfl ?_
    simp only [eA, eB, eC, Act.put, eD, eE, eF]
    refine skM 15 rfl ?_
    simp only [eA, eB, eC, Act.put, eD, eE, eF]
    refine skM 16 rfl ?_
    simp only [eA, eB, eC, Act.put, eD, eE, eF]
    refine skM 17 rfl ?_
    simp only [eA, eB, eC, Act.put, eD, eE, eF]
    refine skM 18 rfl ?_
    simp only [eA, eB, eC, Act.put, eD, eE, eF]
    refine skM 19 rfl ?_
    simp only [eA, eB, eC, Act.put, eD, eE, eF]
    refine skM 20 rfl ?_
    simp only [eA, eB, eC, Act.put, eD, eE, eF]
    refine skM 21 rfl ?_
    simp only [eA, eB, eC, Act.put, eD, eE, eF]
    refine tkM 22 ?_ rfl (fun w1 hl => ?_) ?_
    rotate_left
    · skip; go_simp; try with_reducible rfl
    simp only [eA, eB, eC, Act.put, eD, eE, eF]
    refine wpM_one (t := 24) (i := 23) (by kernel_rfl) rfl (fun w1 hl K hK => ?_)
    go_simp
    refine (must_no _).mono ?_
    rintro e w5 ⟨rfl, hB5⟩
    exact ⟨rfl, rfl, (HF.out w1 hl).below.trans (hB5.mono (HF.out w1 hl).below.size)⟩
  · by_cases hb : j = s.length
    · have e1 : ((j : Int) == (s.length : Int)) = true := by simp; omega
      by_cases hc : k < 256
      · have e2 : decide ((k : Int) < 256) = true := by simp; omega
        have hd : f &&& t ≠ 0 := fun h => hn ⟨hb, hc, h⟩
        have hm := sets_Meet f t
        have hq := run_eqS (P := Tryz.prog) (t := 43) (e := 41) Tryz.underlying43 Tryz.underlying41 (by kernel_rfl) (f &&& t) 0
        unfold setV at hq hm
        rw [setC_zero, decide_eq_false hd] at hq
        unfold setC at hq hm
        generalize f &&& t = g at hq hm
        have HQ := Lib.hid hq
        have HM := Lib.hid hm
        clear hq hm
        refine wp_region_M (R := Later) 24 (by kernel_rfl) ?_
        refine tkM 0 ?_ rfl (fun w1 hl => ?_) ?_
        rotate_left
        · have x0 := (HF.out w1 hl).bad.cell 0; go_simp; try with_reducible rfl
        simp only [eA, eB, Act.put, eD, eE, eF]
        refine tkM 1 ?_ rfl (fun w1 hl => ?_) ?_
        rotate_left
        · have x0 := (HF.out w1 hl).bad.cell 0; go_simp; try with_reducible rfl
        simp only [eA, eB, eC, Act.put, eD, eE, eF]
        refine tkM 2 ?_ rfl (fun w1 hl => ?_) ?_
        rotate_left
        · have x0 := (HF.out w1 hl).bad.cell 0; go_simp; try with_reducible rfl
        simp only [eA, eB, eC, Act.put, eD, eE, eF]
        refine tkM 3 ?_ rfl (fun w1 hl => ?_) ?_
        rotate_left
        · have x0 := (HF.out w1 hl).bad.cell 0; go_simp; try with_reducible rfl
        simp only [eA, eB, eC, Act.put, eD, eE, eF]
        refine tkM 4 ?_ rfl (fun w1 hl => ?_) ?_
        rotate_left
        · skip; go_simp; try with_reducible rfl
        simp only [eA, eB, eC, Act.put, eD, eE, eF]
        refine tkM 5 ?_ rfl (fun w1 hl => ?_) ?_
        rotate_left
        · skip; go_simp; try with_reducible rfl
        simp only [eA, eB, eC, Act.put, eD, eE, eF]
        refine tkM 6 ?_ rfl (fun w1 hl => ?_) ?_
        rotate_left
        · skip; go_simp; try with_reducible rfl
        simp only [eA, eB, eC, Act.put, eD, eE, eF]
        refine tkM 7 ?_ rfl (fun w1 hl => ?_) ?_
        rotate_left
        · skip; go_simp; try with_reducible rfl
        simp only [eA, eB, eC, Act.put, eD, eE, eF]
        refine tkM 8 ?_ rfl (fun w1 hl => ?_) ?_
        rotate_left
        · skip; go_simp; try with_reducible rfl
        simp only [eA, eB, eC, Act.put, eD, eE, eF]
        refine tkM 9 ?_ rfl (fun w1 hl => ?_) ?_
        rotate_left
        · skip; go_simp; try with_reducible rfl
        simp only [eA, eB, eC, Act.put, eD, eE, eF]
        refine tkM 10 ?_ rfl (fun w1 hl => ?_) ?_
        rotate_left
        · skip; go_simp; try with_reducible rfl
        simp only [eA, eB, eC, Act.put, eD, eE, eF]
        refine tkM 11 ?_ rfl (fun w1 hl => ?_) ?_
        rotate_left
        · skip; go_simp; try with_reducible rfl
        simp only [eA, eB, eC, Act.put, eD, eE, eF]
        refine tkM 12 ?_ rfl (fun w1 hl => ?_) ?_
        rotate_left
        · skip; go_simp; try with_reducible rfl
        simp only [eA, eB, eC, Act.put, eD, eE, eF]
        refine tkM 13 ?_ rfl (fun w1 hl => ?_) ?_
        rotate_left
        · skip; go_simp; try with_reducible rfl
        simp only [eA, eB, eC, Act.put, eD, eE, eF]
        refine tkM 14 ?_ rfl (fun w1 hl => ?_) ?_
        rotate_left
        · obtain ⟨⟨c0, c1, c2, c3⟩, _⟩ := (HF.out w1 hl).set.set4; go_simp; try with_reducible rfl
        simp only [eA, eB, eC, Act.put, eD, eE, eF]
        refine tkM 15 ?_ rfl (fun w1 hl => ?_) ?_
        rotate_left
        · skip; go_simp; try with_reducible rfl
        simp only [eA, eB, eC, Act.put, eD, eE, eF]
        refine tkM 16 ?_ rfl (fun w1 hl => ?_) ?_
        rotate_left
        · skip; go_simp; try with_reducible rfl
        simp only [eA, eB, eC, Act.put, eD, eE, eF]
        refine tkM 17 ?_ rfl (fun w1 hl => ?_) ?_
        rotate_left
        · skip; go_simp; try with_reducible rfl
        simp only [eA, eB, eC, Act.put, eD, eE, eF]
        refine tkM 18 ?_ rfl (fun w1 hl => ?_) ?_
        rotate_left
        · obtain ⟨c0, c1, c2, c3⟩ := (HF.out w1 hl).rd.box.readerT; go_simp; try with_reducible rfl
        simp only [eA, eB, eC, Act.put, eD, eE, eF]
        refine wpM_call (t := 24) (i := 19) (f := ?_) (args := ?_) (v := ?_) rfl (by kernel_rfl) (by kernel_rfl) (by kernel_rfl) (by kernel_rfl) (fun _ _ _ h => h) (by rfl) (fun w1 => ?_) (fun w1 hl => ?_) ?_
        rotate_left 4
        · exact HM.out w1
        rotate_left
        · go_simp
        simp only [eA, eB, eC, Act.put, eD, eE, eF]
        refine tkM 20 ?_ rfl (fun w1 hl => ?_) ?_
        rotate_left
        · skip; go_simp; try with_reducible rfl
        simp only [eA, eB, eC, Act.put, eD, eE, eF]
        refine tkM 21 ?_ rfl (fun w1 hl => ?_) ?_
        rotate_left
        · have hq1 := HQ.out w1; go_simp; try with_reducible rfl
        simp only [eA, eB, eC, Act.put, eD, eE, eF]
        refine tkM 22 ?_ rfl (fun w1 hl => ?_) ?_
        rotate_left
        · skip; go_simp; try with_reducible rfl
        simp only [eA, eB, eC, Act.put, eD, eE, eF]
        refine wpM_one (t := 24) (i := 23) (by kernel_rfl) rfl (fun w1 hl K hK => ?_)
        go_simp
        refine (must_no _).mono ?_
        rintro e w5 ⟨rfl, hB5⟩
        exact ⟨rfl, rfl, (HF.out w1 hl).below.trans (hB5.mono (HF.out w1 hl).below.size)⟩
      · have e2 : decide ((k : Int) < 256) = false := by simp; omega
        refine wp_region_M (R := Later) 24 (by kernel_rfl) ?_
        refine tkM 0 ?_ rfl (fun w1 hl => ?_) ?_
        rotate_left
        · have x0 := (HF.out w1 hl).bad.cell 0; go_simp; try with_reducible rfl
        simp only [eA, eB, Act.put, eD, eE, eF]
        refine tkM 1 ?_ rfl (fun w1 hl => ?_) ?_
        rotate_left
        · have x0 := (HF.out w1 hl).bad.cell 0; go_simp; try with_reducible rfl
        simp only [eA, eB, eC, Act.put, eD, eE, eF]
        refine tkM 2 ?_ rfl (fun w1 hl => ?_) ?_
        rotate_left
        · have x0 := (HF.out w1 hl).bad.cell 0; go_simp; try with_reducible rfl
        simp only [eA, eB, eC, Act.put, eD, eE, eF]
        refine tkM 3 ?_ rfl (fun w1 hl => ?_) ?_
        rotate_left
        · have x0 := (HF.out w1 hl).bad.cell 0; go_simp; try with_reducible rfl
        simp only [eA, eB, eC, Act.put, eD, eE, eF]
        refine tkM 4 ?_ rfl (fun w1 hl => ?_) ?_
        rotate_left
        · skip; go_simp; try with_reducible rfl
        simp only [eA, eB, eC, Act.put, eD, eE, eF]
        refine tkM 5 ?_ rfl (fun w1 hl => ?_) ?_
        rotate_left
        · skip; go_simp; try with_reducible rfl
        simp only [eA, eB, eC, Act.put, eD, eE, eF]
        refine tkM 6 ?_ rfl (fun w1 hl => ?_) ?_
        rotate_left
        · skip; go_simp; try with_reducible rfl
        simp only [eA, eB, eC, Act.put, eD, eE, eF]
        refine tkM 7 ?_ rfl (fun w1 hl => ?_) ?_
        rotate_left
        · skip; go_simp; try with_reducible rfl
        simp only [eA, eB, eC, Act.put, eD, eE, eF]
        refine tkM 8 ?_ rfl (fun w1 hl => ?_) ?_
        rotate_left
        · skip; go_simp; try with_reducible rfl
        simp only [eA, eB, eC, Act.put, eD, eE, eF]
        refine tkM 9 ?_ rfl (fun w1 hl => ?_) ?_
        rotate_left
        · skip; go_simp; try with_reducible rfl
        simp only [eA, eB, eC, Act.put, eD, eE, eF]
        refine tkM 10 ?_ rfl (fun w1 hl => ?_) ?_
        rotate_left
        · skip; go_simp; try with_reducible rfl
        simp only [eA, eB, eC, Act.put, eD, eE, eF]
        refine tkM 11 ?_ rfl (fun w1 hl => ?_) ?_
        rotate_left
        · skip; go_simp; try with_reducible rfl
        simp only [eA, eB, eC, Act.put, eD, eE, eF]
        refine tkM 12 ?_ rfl (fun w1 hl => ?_) ?_
        rotate_left
        · skip; go_simp; try with_reducible rfl
        simp only [eA, eB, eC, Act.put, eD, eE, eF]
        refine tkM 13 ?_ rfl (fun w1 hl => ?_) ?_
        rotate_left
        · skip; go_simp; try with_reducible rfl
        simp only [eA, eB, eC, Act.put, eD, eE, eF]
        refine skM 14 rfl ?_
        simp only [eA, eB, eC, Act.put, eD, eE, eF]
        refine skM 15 rfl ?_
        simp only [eA, eB, eC, Act.put, eD, eE, eF]
        refine skM 16 rfl ?_
        simp only [eA, eB, eC, Act.put, eD, eE, eF]
        refine skM 17 rfl ?_
        simp only [eA, eB, eC, Act.put, eD, eE, eF]
        refine skM 18 rfl ?_
        simp only [eA, eB, eC, Act.put, eD, eE, eF]
        refine skM 19 rfl ?_
        simp only [eA, eB, eC, Act.put, eD, eE, eF]
        refine skM 20 rfl ?_
        simp only [eA, eB, eC, Act.put, eD, eE, eF]
        refine skM 21 rfl ?_
        simp only [eA, eB, eC, Act.put, eD, eE, eF]
        refine tkM 22 ?_ rfl (fun w1 hl => ?_) ?_
        rotate_left
        · skip; go_simp; try with_reducible rfl
        simp only [eA, eB, eC, Act.put, eD, eE, eF]
        refine wpM_one (t := 24) (i := 23) (by kernel_rfl) rfl (fun w1 hl K hK => ?_)
        go_simp
        refine (must_no _).mono ?_
        rintro e w5 ⟨rfl, hB5⟩
        exact ⟨rfl, rfl, (HF.out w1 hl).below.trans (hB5.mono (HF.out w1 hl).below.size)⟩
    · have e1 : ((j : Int) == (s.length : Int)) = false := by simp; omega
      refine wp_region_M (R := Later) 24 (by kernel_rfl) ?_
      refine tkM 0 ?_ rfl (fun w1 hl => ?_) ?_
      rotate_left
      · have x0 := (HF.out w1 hl).bad.cell 0; go_simp; try with_reducible rfl
      simp only [eA, eB, Act.put, eD, eE, eF]
      refine tkM 1 ?_ rfl (fun w1 hl => ?_) ?_
      rotate_left
      · have x0 := (HF.out w1 hl).bad.cell 0; go_simp; try with_reducible rfl
      simp only [eA, eB, eC, Act.put, eD, eE, eF]
      refine tkM 2 ?_ rfl (fun w1 hl => ?_) ?_
      rotate_left
      · have x0 := (HF.out w1 hl).bad.cell 0; go_simp; try with_reducible rfl
      simp only [eA, eB, eC, Act.put, eD, eE, eF]
      refine tkM 3 ?_ rfl (fun w1 hl => ?_) ?_
      rotate_left
      · have x0 := (HF.out w1 hl).bad.cell 0; go_simp; try with_reducible rfl
      simp only [eA, eB, eC, Act.put, eD, eE, eF]
      refine tkM 4 ?_ rfl (fun w1 hl => ?_) ?_
      rotate_left
      · skip; go_simp; try with_reducible rfl
      simp only [eA, eB, eC, Act.put, eD, eE, eF]
      refine tkM 5 ?_ rfl (fun w1 hl => ?_) ?_
      rotate_left
      · skip; go_simp; try with_reducible rfl
      simp only [eA, eB, eC, Act.put, eD, eE, eF]
      refine tkM 6 ?_ rfl (fun w1 hl => ?_) ?_
      rotate_left
      · skip; go_simp; try with_reducible rfl
      simp only [eA, eB, eC, Act.put, eD, eE, eF]
      refine tkM 7 ?_ rfl (fun w1 hl => ?_) ?_
      rotate_left
      · skip; go_simp; try with_reducible rfl
      simp only [eA, eB, eC, Act.put, eD, eE, eF]
      refine tkM 8 ?_ rfl (fun w1 hl => ?_) ?_
      rotate_left
      · skip; go_simp; try with_reducible rfl
      simp only [eA, eB, eC, Act.put, eD, eE, eF]
      refine tkM 9 ?_ rfl (fun w1 hl => ?_) ?_
      rotate_left
      · skip; go_simp; try with_reducible rfl
      simp only [eA, eB, eC, Act.put, eD, eE, eF]
      refine skM 10 rfl ?_
      simp only [eA, eB, eC, Act.put, eD, eE, eF]
      refine skM 11 rfl ?_
      simp only [eA, eB, eC, Act.put, eD, eE, eF]
      refine tkM 12 ?_ rfl (fun w1 hl => ?_) ?_
      rotate_left
      · skip; go_simp; try with_reducible rfl
      simp only [eA, eB, eC, Act.put, eD, eE, eF]
      refine tkM 13 ?_ rfl (fun w1 hl => ?_) ?_
      rotate_left
      · skip; go_simp; try with_reducible rfl
      simp only [eA, eB, eC, Act.put, eD, eE, eF]
      refine skM 14 rfl ?_
      simp only [eA, eB, eC, Act.put, eD, eE, eF]
      refine skM 15 rfl ?_
      simp only [eA, eB, eC, Act.put, eD, eE, eF]
      refine skM 16 rfl ?_
      simp only [eA, eB, eC, Act.put, eD, eE, eF]
      refine skM 17 rfl ?_
      simp only [eA, eB, eC, Act.put, eD, eE, eF]
      refine skM 18 rfl ?_
      simp only [eA, eB, eC, Act.put, eD, eE, eF]
      refine skM 19 rfl ?_
      simp only [eA, eB, eC, Act.put, eD, eE, eF]
      refine skM 20 rfl ?_
      simp only [eA, eB, eC, Act.put, eD, eE, eF]
      refine skM 21 rfl ?_
      simp only [eA, eB, eC, Act.put, eD, eE, eF]
      refine tkM 22 ?_ rfl (fun w1 hl => ?_) ?_
      rotate_left
      · skip; go_simp; try with_reducible rfl
      simp only [eA, eB, eC, Act.put, eD, eE, eF]
      refine wpM_one (t := 24) (i := 23) (by kernel_rfl) rfl (fun w1 hl K hK => ?_)
      go_simp
      refine (must_no _).mono ?_
      rintro e w5 ⟨rfl, hB5⟩
      exact ⟨rfl, rfl, (HF.out w1 hl).below.trans (hB5.mono (HF.out w1 hl).below.size)⟩
end Go.Proofs.YtdhmekpgplajmaaGreatDoor
end
section
namespace Go.Proofs.YtdhmekpgplajmaaGreatDoor
open Go.RowKit
set_option maxRecDepth 20000 in
set_option maxHeartbeats 12800000 in
theorem reader_class_yes (r base k : Nat) (V : VDfa) (t : BSet) (D : PDfa) (s : List UInt8) (w : World) (h : RdR w r base V t D) (hT : Tab w) (hrT : 1 ≠ r) (hrb : r < base) (hbw : base ≤ w.heap.size) (D' : PDfa) (t' : BSet) (hyes : classL D t k s = some (D', t')) (hs : s.length ≤ 9223372036854775807) (hk : k ≤ 9223372036854775807) :
    Calls Tryz.prog 48 #[.pointer (some ⟨r, 0, none⟩), .int .i64 k, sv s] w fun e w' => e = .returned (.tuple #[]) ∧ (∃ V', RdR w' r base V' t' D') ∧ KeptR r base w w' := by
  have hpre := fun w => Tryz.strings_HasPrefix ⟨s.toArray⟩ ⟨#[91]⟩ w
  simp only at hpre
  have hbytes := fun w => bytes_of (P := Tryz.prog) (src := 9) (dst := 56) w Tryz.underlying9 Tryz.underlying56 Tryz.underlying5 s hs
  have HBY := Lib.hid hbytes
  have hp : Lib.hasPrefix s [91] = true := by
    cases hp : Lib.hasPrefix s [91] with
    | true => rfl
    | false => unfold classL at hyes; rw [readR_prefix hp] at hyes; cases hyes
  rw [hp] at hpre
  have HP := Lib.hid hpre
  have hs0 : 0 < s.length := by
    cases s with
    | nil => cases hp
    | cons _ _ => simp
  obtain ⟨f, j, kd, ps, hret, hor⟩ := retR_form s
  rw [setC_four] at hret
  have hcr := fun g n cap w h hg => class_Read g n cap s w h hg
  rw [hret] at hcr
  have HCR := Lib.hid hcr
  have hway : kd = 0 ∧ j = s.length ∧ k < 256 ∧ f &&& t = 0 ∧ D' = { D with of := setOf (elems f) k D.of } ∧ t' = t ||| f := by
    unfold classL at hyes
    rcases hor with ⟨rfl, hr⟩ | ⟨_, q, hr⟩
    · rw [hr] at hyes
      dsimp only at hyes
      split at hyes
      · rename_i hc; cases hyes; exact ⟨rfl, hc.1, hc.2.1, hc.2.2, rfl, rfl⟩
      · cases hyes
    · rw [hr] at hyes; cases hyes
  obtain ⟨hk0, hb, hc, hd, rfl, rfl⟩ := hway
  clear hcr hret hor hyes
  have e0 : ((kd : Int) == 0) = true := by simp; omega
  have e1 : ((j : Int) == (s.length : Int)) = true := by simp; omega
  have e2 : decide ((k : Int) < 256) = true := by simp; omega
  have hm := sets_Meet f t
  have hq := run_eqS (P := Tryz.prog) (t := 43) (e := 41) Tryz.underlying43 Tryz.underlying41 (by kernel_rfl) (f &&& t) 0
  unfold setV at hq hm
  rw [setC_zero, decide_eq_true hd] at hq
  unfold setC at hq hm
  generalize f &&& t = g at hq hm
  have HQ := Lib.hid hq
  have HM := Lib.hid hm
  clear hq hm
  clear hk0 hb hd
  clear hbytes hpre hp
  go_enter Tryz.func48, Tryz.ntmps48
  go_wp2_with (first | (go_at_call 72; go_must (refine (HP.out _).mono ?_; rintro e w0 ⟨rfl, rfl⟩)) | (go_at_call 17; go_must (refine (must_yes _).mono ?_; rintro e w2 ⟨rfl, hB2⟩; obtain ⟨cap, w3, hcv, hB3, hsl⟩ := HBY.out w2)) | (go_at_call 73; go_must (refine (HCR.out _ _ _ _ hsl (World.block_lt_of_cell? _ _ (hsl.cellsA.2.2.2 0 hs0 _ (Below.refl _ _)))).mono ?_; rintro e w4 ⟨rfl, hB4⟩)))
  have hB4' : Below w0.heap.size w0 w4 := (hB2.trans (hB3.mono hB2.size)).trans (hB4.mono (Nat.le_trans hB2.size hB3.size))
  have hRC : RC w0 ((w4.alloc (.cells (setC f) 43)).alloc (.cells #[.int .i64 kd, .int .i64 ps] 80)) r base V t D w4.heap.size f kd ps :=
    ⟨(Box.new' rfl _ _).alloc _, Box.new' (by simp) _ _, (h.kept hB4').kept ((later_alloc _ _).trans ((later_alloc _ _).mono (by simp))), (hB4'.alloc hB4'.size _).alloc (by simp; have := hB4'.size; omega) _, (hT.kept hB4').kept ((later_alloc _ _).trans ((later_alloc _ _).mono (by simp)))⟩
  have hbw4 := hB4'.size
  clear HCR HBY HP hB4' hB4 hB3 hB2 hcv hsl h hT hs0
  unfold setC at hRC
  generalize ((w4.alloc (.cells #[.int .u64 (word f 0 : Nat), .int .u64 (word f 1 : Nat), .int .u64 (word f 2 : Nat), .int .u64 (word f 3 : Nat)] 43)).alloc (.cells #[.int .i64 kd, .int .i64 ps] 80)) = W at *
  generalize w4.heap.size = b at *
  have HF : Hid (∀ v, Later W.drew v → RC w0 v r base V t D b f kd ps) := Lib.hid fun v hl => (hRC.kept (Below.refl _ _).drew).kept hl
  clear hRC
  refine wp_region_M (R := Later) 24 (by kernel_rfl) ?_
  refine tkM 0 ?_ rfl (fun w1 hl => ?_) ?_
  rotate_left
  · have x0 := (HF.out w1 hl).bad.cell 0; go_simp; try with_reducible rfl
  simp only [eA, eB, Act.put, eD, eE, eF]
  refine tkM 1 ?_ rfl (fun w1 hl => ?_) ?_
  rotate_left
  · have x0 := (HF.out w1 hl).bad.cell 0; go_simp; try with_reducible rfl
  simp only [eA, eB, eC, Act.put, eD, eE, eF]
  refine tkM 2 ?_ rfl (fun w1 hl => ?_) ?_
  rotate_left
  · have x0 := (HF.out w1 hl).bad.cell 0; go_simp; try with_reducible rfl
  simp only [eA, eB, eC, Act.put, eD, eE, eF]
  refine tkM 3 ?_ rfl (fun w1 hl => ?_) ?_
  rotate_left
  · have x0 := (HF.out w1 hl).bad.cell 0; go_simp; try with_reducible rfl
  simp only [eA, eB, eC, Act.put, eD, eE, eF]
  refine tkM 4 ?_ rfl (fun w1 hl => ?_) ?_
  rotate_left
  · skip; go_simp; try with_reducible rfl
  simp only [eA, eB, eC, Act.put, eD, eE, eF]
  refine tkM 5 ?_ rfl (fun w1 hl => ?_) ?_
  rotate_left
  · skip; go_simp; try with_reducible rfl
  simp only [eA, eB, eC, Act.put, eD, eE, eF]
  refine tkM 6 ?_ rfl (fun w1 hl => ?_) ?_
  rotate_left
  · skip; go_simp; try with_reducible rfl
  simp only [eA, eB, eC, Act.put, eD, eE, eF]
  refine tkM 7 ?_ rfl (fun w1 hl => ?_) ?_
  rotate_left
  · skip; go_simp; try with_reducible rfl
  simp only [eA, eB, eC, Act.put, eD, eE, eF]
  refine tkM 8 ?_ rfl (fun w1 hl => ?_) ?_
  rotate_left
  · skip; go_simp; try with_reducible rfl
  simp only [eA, eB, eC, Act.put, eD, eE, eF]
  refine tkM 9 ?_ rfl (fun w1 hl => ?_) ?_
  rotate_left
  · skip; go_simp; try with_reducible rfl
  simp only [eA, eB, eC, Act.put, eD, eE, eF]
  refine tkM 10 ?_ rfl (fun w1 hl => ?_) ?_
  rotate_left
  · skip; go_simp; try with_reducible rfl
  simp only [eA, eB, eC, Act.put, eD, eE, eF]
  refine tkM 11 ?_ rfl (fun w1 hl => ?_) ?_
  rotate_left
  · skip; go_simp; try with_reducible rfl
  simp only [eA, eB, eC, Act.put, eD, eE, eF]
  refine tkM 12 ?_ rfl (fun w1 hl => ?_) ?_
  rotate_left
  · skip; go_simp; try with_reducible rfl
  simp only [eA, eB, eC, Act.put, eD, eE, eF]
  refine tkM 13 ?_ rfl (fun w1 hl => ?_) ?_
  rotate_left
  · skip; go_simp; try with_reducible rfl
  simp only [eA, eB, eC, Act.put, eD, eE, eF]
  refine tkM 14 ?_ rfl (fun w1 hl => ?_) ?_
  rotate_left
  · obtain ⟨⟨c0, c1, c2, c3⟩, _⟩ := (HF.out w1 hl).set.set4; go_simp; try with_reducible rfl
  simp only [eA, eB, eC, Act.put, eD, eE, eF]
  refine tkM 15 ?_ rfl (fun w1 hl => ?_) ?_
  rotate_left
  · skip; go_simp; try with_reducible rfl
  simp only [eA, eB, eC, Act.put, eD, eE, eF]
  refine tkM 16 ?_ rfl (fun w1 hl => ?_) ?_
  rotate_left
  · skip; go_simp; try with_reducible rfl
  simp only [eA, eB, eC, Act.put, eD, eE, eF]
  refine tkM 17 ?_ rfl (fun w1 hl => ?_) ?_
  rotate_left
  · skip; go_simp; try with_reducible rfl
  simp only [eA, eB, eC, Act.put, eD, eE, eF]
  refine tkM 18 ?_ rfl (fun w1 hl => ?_) ?_
  rotate_left
  · obtain ⟨c0, c1, c2, c3⟩ := (HF.out w1 hl).rd.box.readerT; go_simp; try with_reducible rfl
  simp only [eA, eB, eC, Act.put, eD, eE, eF]
  refine wpM_call (t := 24) (i := 19) (f := ?_) (args := ?_) (v := ?_) rfl (by kernel_rfl) (by kernel_rfl) (by kernel_rfl) (by kernel_rfl) (fun _ _ _ h => h) (by rfl) (fun w1 => ?_) (fun w1 hl => ?_) ?_
  rotate_left 4
  · exact HM.out w1
  rotate_left
  · go_simp
  simp only [eA, eB, eC, Act.put, eD, eE, eF]
  refine tkM 20 ?_ rfl (fun w1 hl => ?_) ?_
  rotate_left
  · skip; go_simp; try with_reducible rfl
  simp only [eA, eB, eC, Act.put, eD, eE, eF]
  refine tkM 21 ?_ rfl (fun w1 hl => ?_) ?_
  rotate_left
  · have hq1 := HQ.out w1; go_simp; try with_reducible rfl
  simp only [eA, eB, eC, Act.put, eD, eE, eF]
  refine tkM 22 ?_ rfl (fun w1 hl => ?_) ?_
  rotate_left
  · skip; go_simp; try with_reducible rfl
  simp only [eA, eB, eC, Act.put, eD, eE, eF]
  refine wpM_one (t := 24) (i := 23) (by kernel_rfl) rfl (fun w1 hl K hK => ?_)
  go_simp
  refine (must_yes _).mono ?_
  rintro e w5 ⟨rfl, hB5⟩
  refine hK.out _ _ (fun _ => hB5) ?_
  have hl5 := Later.trans _ _ _ hl hB5
  clear hK K hl hB5
  refine wpM_done (by kernel_rfl) (fun w1 hl => ?_) _
  have hR6 := HF.out w1 (Later.trans _ _ _ hl5 hl)
  clear hl hl5 HF w5
  have HG : Hid (∀ v, Later w1.drew v → RC w0 v r base V t D b f kd ps) := Lib.hid fun v hl => (hR6.kept (Below.refl _ _).drew).kept hl
  clear hR6 HQ HM
  go_wp2_with fail
  refine wp_region_M (R := Later) 10 (by kernel_rfl) ?_
  refine tkM 0 ?_ rfl (fun w1 hl => ?_) ?_
  rotate_left
  · obtain ⟨⟨c0, c1, c2, c3⟩, _⟩ := (HG.out w1 hl).set.set4; obtain ⟨t0, t1, t2, t3⟩ := (HG.out w1 hl).rd.box.readerT; go_simp; try with_reducible rfl
  simp only [eA, eB, Act.put, eD, eE, eF]
  refine tkM 1 ?_ rfl (fun w1 hl => ?_) ?_
  rotate_left
  · obtain ⟨⟨c0, c1, c2, c3⟩, _⟩ := (HG.out w1 hl).set.set4; obtain ⟨t0, t1, t2, t3⟩ := (HG.out w1 hl).rd.box.readerT; go_simp; try with_reducible rfl
  simp only [eA, eB, eC, Act.put, eD, eE, eF]
  refine tkM 2 ?_ rfl (fun w1 hl => ?_) ?_
  rotate_left
  · obtain ⟨⟨c0, c1, c2, c3⟩, _⟩ := (HG.out w1 hl).set.set4; obtain ⟨t0, t1, t2, t3⟩ := (HG.out w1 hl).rd.box.readerT; go_simp; try with_reducible rfl
  simp only [eA, eB, eC, Act.put, eD, eE, eF]
  refine tkM 3 ?_ rfl (fun w1 hl => ?_) ?_
  rotate_left
  · obtain ⟨⟨c0, c1, c2, c3⟩, _⟩ := (HG.out w1 hl).set.set4; obtain ⟨t0, t1, t2, t3⟩ := (HG.out w1 hl).rd.box.readerT; go_simp; try with_reducible rfl
  simp only [eA, eB, eC, Act.put, eD, eE, eF]
  refine tkM 4 ?_ rfl (fun w1 hl => ?_) ?_
  rotate_left
  · obtain ⟨⟨c0, c1, c2, c3⟩, _⟩ := (HG.out w1 hl).set.set4; obtain ⟨t0, t1, t2, t3⟩ := (HG.out w1 hl).rd.box.readerT; go_simp; try with_reducible rfl
  simp only [eA, eB, eC, Act.put, eD, eE, eF]
  refine tkM 5 ?_ rfl (fun w1 hl => ?_) ?_
  rotate_left
  · obtain ⟨⟨c0, c1, c2, c3⟩, _⟩ := (HG.out w1 hl).set.set4; obtain ⟨t0, t1, t2, t3⟩ := (HG.out w1 hl).rd.box.readerT; go_simp; try with_reducible rfl
  simp only [eA, eB, eC, Act.put, eD, eE, eF]
  refine wpM_one (t := 10) (i := 6) (by kernel_rfl) rfl (fun w1 hl K hK => ?_)
  go_simp
  refine hK.out _ _ (fun _ => later_alloc _ _) ?_
  have hsl := sl_new2 w1 t f 43
  have hlA : Later _ (w1.alloc (.cells #[.int .u64 (word t 0 : Nat), .int .u64 (word t 1 : Nat), .int .u64 (word t 2 : Nat), .int .u64 (word t 3 : Nat), .int .u64 (word f 0 : Nat), .int .u64 (word f 1 : Nat), .int .u64 (word f 2 : Nat), .int .u64 (word f 3 : Nat)] 43)) := Later.trans _ _ _ hl (later_alloc _ _)
  have hU := fun w2 h => sets_Union (some ⟨w1.heap.size, 0, none⟩) 2 [t, f] w2 h
  rw [two_or] at hU
  have HU := Lib.hid hU
  clear hK K hU hl
  refine wpM_one (t := 10) (i := 7) (by kernel_rfl) rfl (fun w1 hl K hK => ?_)
  have hlB := Later.trans _ _ _ hlA hl
  go_simp
  refine (HU.out _ (hsl.kept hl)).mono ?_
  rintro e w7 ⟨rfl, hB7⟩
  refine hK.out _ _ (fun _ => hB7) ?_
  have hlC := Later.trans _ _ _ hlB hB7
  clear hK K hl hlB hlA hsl HU hB7
  refine tkM 8 ?_ rfl (fun w1 hl => ?_) ?_
  rotate_left
  · skip; go_simp; try with_reducible rfl
  simp only [eA, eB, eC, Act.put, eD, eE, eF]
  refine tkM 9 ?_ rfl (fun w1 hl => ?_) ?_
  rotate_left
  · skip; go_simp; try with_reducible rfl
  simp only [eA, eB, eC, Act.put, eD, eE, eF]
  refine wpM_one (t := 10) (i := 10) (by kernel_rfl) rfl (fun w1 hl K hK => ?_)
  have hR8 := HG.out w1 (Later.trans _ _ _ hlC hl)
  obtain ⟨t0, t1, t2, t3⟩ := hR8.rd.box.readerT
  have f0 := hR8.rd.box.free 260
  have f1 := hR8.rd.box.free 261
  have f2 := hR8.rd.box.free 262
  have f3 := hR8.rd.box.free 263
  clear hl hlC
  go_simp
  refine hK.out _ _ (fun h => absurd rfl h) ?_
  clear hK K t0 t1 t2 t3 f0 f1 f2 f3
  have hrb' : r < b := by omega
  have hRd := hR8.rd.there_set hrb (t ||| f)
  have hSt := Box.store4at (i := 260) hR8.set (by omega : b ≠ r) (.int .u64 (word (t ||| f) 0 : Nat)) (.int .u64 (word (t ||| f) 1 : Nat)) (.int .u64 (word (t ||| f) 2 : Nat)) (.int .u64 (word (t ||| f) 3 : Nat))
  have hKp := (KeptR.below (r := r) (base := base) (by omega) hR8.below).trans ((((KeptR.set w1 260 (.int .u64 (word (t ||| f) 0 : Nat))).trans (KeptR.set _ 261 (.int .u64 (word (t ||| f) 1 : Nat)))).trans (KeptR.set _ 262 (.int .u64 (word (t ||| f) 2 : Nat)))).trans (KeptR.set _ 263 (.int .u64 (word (t ||| f) 3 : Nat))))
  have hTb := hR8.tab.keptC (X := (· = r)) (by exact hrT) ((((keepB_set r 260 w1 (.int .u64 (word (t ||| f) 0 : Nat))).trans (keepB_set r 261 _ (.int .u64 (word (t ||| f) 1 : Nat)))).trans (keepB_set r 262 _ (.int .u64 (word (t ||| f) 2 : Nat)))).trans (keepB_set r 263 _ (.int .u64 (word (t ||| f) 3 : Nat))))
  have hSz : r ≤ ((((w1.setCell ⟨r, 260, none⟩ (.int .u64 (word (t ||| f) 0 : Nat))).setCell ⟨r, 261, none⟩ (.int .u64 (word (t ||| f) 1 : Nat))).setCell ⟨r, 262, none⟩ (.int .u64 (word (t ||| f) 2 : Nat))).setCell ⟨r, 263, none⟩ (.int .u64 (word (t ||| f) 3 : Nat))).heap.size := Nat.le_of_lt hRd.box.lt
  clear hR8 HG
  refine wpM_done (by kernel_rfl) (fun w1 hl => ?_) _
  have hRd := hRd.kept hl
  have hSt := hSt.kept hl
  have hTb := hTb.kept hl
  have hKp := hKp.trans (KeptR.below hSz hl)
  clear hl hSz
  obtain ⟨⟨c0, c1, c2, c3⟩, _⟩ := hSt.set4
  have hw8 : IntKind.u8.wrap (k : Int) = (k : Int) := wrap_u8_nat k hc
  go_wp2_with (go_at_call 75; go_must (refine (sets_Bytes f _ hTb).mono ?_; rintro e w9 ⟨a9, cap9, rfl, hown9, hB9⟩))
  have hlt := fun x (hx : x ∈ elems f) => elems_lt hx
  generalize hL : elems f = L at *
  have HL := Lib.hid hL
  clear hL
  have hL63 : L.length ≤ 9223372036854775807 := by obtain ⟨_, h1, h2, _⟩ := hown9.open; omega
  have hRd := hRd.kept hB9
  have hB0 : r < w1.heap.size := Nat.lt_trans hrb' hSt.lt
  have hKp := hKp.trans (KeptR.below (Nat.le_of_lt hB0) hB9)
  have HLT := Lib.hid hlt
  clear hSt hTb c0 c1 c2 c3 hlt hB9
  go_loopw [58] (fun i wr => RCLoop w0 r base V (t ||| f) D k L a9 cap9 w1.heap.size i wr) (fun i _ => L.length - (intOf i).toNat)
  case atStart => exact ⟨0, Nat.zero_le _, rfl, by simpa only [List.take_zero, setOf_nil] using hRd, hown9, hKp⟩
  case round =>
    obtain ⟨j, hj, rfl, hRj, hoj, hKj⟩ := hrel
    by_cases hlt : j < L.length
    · have hdj : decide ((j : Int) < (L.length : Int)) = true := decide_eq_true (by omega)
      obtain ⟨g, rfl, hg1, hg2⟩ := hoj.addr (by omega)
      have hcj := (hoj.slice encB_ok).cellsA.2.2.2 j hlt wr (Below.refl _ _)
      rw [Nat.zero_add] at hcj
      have hxlt := HLT.out _ (List.getElem_mem hlt)
      have htk : L.take (j + 1) = L.take j ++ [L[j]] := List.take_succ_eq_append_getElem hlt
      have hnx := fun (V' : VDfa) (D' : PDfa) => setOf_snoc (L.take j) L[j] k V'.of
      have hnx2 := setOf_snoc (L.take j) L[j] k D.of
      have hnx1 := setOf_snoc (L.take j) L[j] k V.of
      rw [← htk] at hnx1 hnx2
      have hin : ((L[j] : Nat) : Int) < 256 := by omega
      have HN1 := Lib.hid hnx1
      have HN2 := Lib.hid hnx2
      generalize L[j] = x at *
      clear hnx hnx1 hnx2 htk
      have hcx := (hRj.box.cell x).trans ((rcells_low _ _ (by omega)).trans (VDfa.get_of _ x hxlt))
      have hfx := hRj.box.free x
      have hnext := hRj.of_set hrb hxlt k
      have honext := hoj.other ⟨r, x, none⟩ (.int .u8 (k : Nat)) hB0
      have hKnext := hKj.trans (KeptR.set (base := base) wr x (.int .u8 (k : Nat)))
      go_wp2
      go_roundw
      case rel =>
        refine ⟨j + 1, hlt, by go_num, ?_, honext, hKnext⟩
        simp only [HN1.out, HN2.out] at hnext
        exact hnext
      case measure => simp [intOf]; omega
    · obtain rfl : j = L.length := by omega
      rw [List.take_length] at hRj
      go_wp2
      go_end0
      exact ⟨rfl, ⟨_, by rw [HL.out]; exact hRj⟩, hKj⟩
end Go.Proofs.YtdhmekpgplajmaaGreatDoor
end
section
namespace Go.Proofs.YtdhmekpgplajmaaGreatDoor
open Go.RowKit
attribute [local go_sem] Oper.semAt_some
theorem turn_own {α : Type} {A B : World} {row : Option Nat} {B0 sB base E size : Nat} {enc : α → List Value} {v : Value} {xs : List α} (hg : A.grownBy B row) (hr : ∀ r, row = some r → r = sB ∨ (B0 ≤ r ∧ ∃ o : Obj, A.heap[r]? = some o ∧ o.isCells = false)) (h : Own A base E size enc v xs) (hs : sB < base) : Own B base E size enc v xs := by
  obtain ⟨a, cap, hv, hle, hm, hh⟩ := h
  refine ⟨a, cap, hv, hle, hm, ?_⟩
  rcases hh with hh | ⟨g, cur, ha, hbg, hb, hrr⟩
  · exact .inl hh
  · exact .inr ⟨g, cur, ha, hbg, turn_box hg hr hb (by omega), hrr⟩
theorem splitL_length (c : UInt8) : ∀ l : List UInt8, (splitL c l).length ≤ l.length + 1 ∧ ∀ x ∈ splitL c l, x.length ≤ l.length
  | [] => by simp [splitL]
  | x :: l => by
    obtain ⟨h1, h2⟩ := splitL_length c l
    unfold splitL
    split
    · refine ⟨by simp; omega, fun y hy => ?_⟩
      rcases List.mem_cons.1 hy with rfl | hy
      · simp
      · have := h2 y hy; simp; omega
    · cases h : splitL c l with
      | nil => exact absurd h (splitL_ne c l)
      | cons y ys =>
        rw [h] at h1 h2
        refine ⟨by simpa using Nat.le_succ_of_le h1, fun z hz => ?_⟩
        rcases List.mem_cons.1 hz with rfl | hz
        · have := h2 y (by simp); simp; omega
        · have := h2 z (by simp [hz]); simp; omega
/-- The words gathered so far. -/
def Words (w : World) (wB B1 : Nat) (pre : List (List UInt8)) (W : World) : Prop :=
  Below w.heap.size w W ∧ B1 ≤ W.heap.size ∧ ∃ (a : Option Addr) (cap : Nat), Box W wB #[.slice a pre.length cap] 26 ∧ Own W B1 9 1 encT (.slice a pre.length cap) pre
theorem Words.stands {w : World} {wB B1 B0 sB : Nat} {pre : List (List UInt8)} (h1 : w.heap.size ≤ sB) (h2 : w.heap.size ≤ B0) (h3 : wB ≠ sB) (h4 : sB < B1) : Stands B0 sB (Words w wB B1 pre) := fun _ _ _ ⟨hb, hs, a, cap, hx, ho⟩ hg hr =>
  ⟨turn_below hg hr hb h1 h2 hb.size, Nat.le_trans hs hg.size, a, cap, turn_box hg hr hx h3, turn_own hg hr ho h4⟩
set_option maxRecDepth 20000 in
set_option maxHeartbeats 3200000 in
/-- The words are gathered; then the rest. -/
theorem line_words (r : Nat) (s : List UInt8) (w : World) (hM : MaxL w) (h0 : 0 < w.heap.size) (hs : s.length < 4294967281) (R : Ending → World → Prop)
    (hrest : ∀ (Dd : Nat) (W : World) (g : Value), w.heap.size ≤ Dd → W.heap[Dd]? = some (.deferred (some [])) → Words w w.heap.size (w.heap.size + 1 + 1 + 1) (splitL 32 s) W → ∀ z, (∃ x y, (Tryz.f20).body = some (.seq x (.seq y z))) →
      z.wp Tryz.prog (bodyPostM Fence.wide 0 Tryz.prog Tryz.f20 R) { tmps := #[.pointer (some ⟨r, 0, none⟩), sv s, undef, undef, .pointer (some ⟨w.heap.size, 0, none⟩), undef, undef, undef, undef, sv s, g, undef] ++ Array.replicate 100 undef, defers := [{ target := .collected Dd, args := #[] }] } W) :
    Calls Tryz.prog 20 #[.pointer (some ⟨r, 0, none⟩), sv s] w R := by
  have hpc := list_pieces s [32]
  have HR := Lib.hid hrest
  clear hrest
  refine calls_of_wpAt Tryz.func20 rfl ?_
  simp only [Tryz.ntmps20, List.size_toArray, List.length_cons, List.length_nil, Nat.reduceAdd, Nat.reduceSub, Array.replicate_succ, Array.replicate_zero, List.push_toArray, List.append_toArray, List.nil_append, List.cons_append]
  refine wpAt_seq (wpAt_of_wp ?_)
  go_wp2
  refine wpAt_seq (wpAt_seq (wpAt_of_wp ?_))
  go_wp2_with (go_at_call 19; go_must (refine (hpc _).mono ?_; rintro e w2 ⟨rfl, rfl⟩))
  refine wpAt_block ?_
  have hsl := splitL_length 32 s
  obtain ⟨W0, hW0⟩ : ∃ W0, ((w.alloc (.cells #[.slice none 0 0] 26)).alloc (.cells #[sv s] 9)).alloc (.cells #[sv [32]] 9) = W0 := ⟨_, rfl⟩
  have hB0 : Below w.heap.size w W0 := by rw [← hW0]; exact (((Below.refl _ w).alloc (Nat.le_refl _) _).alloc (by simp) _).alloc (by simp; omega) _
  have hsz0 : W0.heap.size = w.heap.size + 1 + 1 + 1 := by rw [← hW0]; simp
  have hx0 : Box W0 w.heap.size #[.slice none 0 0] 26 := by rw [← hW0]; exact ((Box.new' rfl _ _).alloc _).alloc _
  have hx1 : Box W0 (w.heap.size + 1) #[sv s] 9 := by rw [← hW0]; exact (Box.new' (by simp) _ _).alloc _
  have hx2 : Box W0 (w.heap.size + 1 + 1) #[sv [32]] 9 := by rw [← hW0]; exact Box.new' (by simp) _ _
  rw [hW0]
  clear hW0
  have hst := pieces_seq (w.heap.size + 1) (w.heap.size + 1 + 1) 32 s hs (by omega) (by omega) W0 (hM.kept hB0) hx1 hx2
  refine wpAt_each Tryz.func20 (gf := 45) (lb := #[.pointer (some ⟨w.heap.size + 1, 0, none⟩), .pointer (some ⟨w.heap.size + 1 + 1, 0, none⟩)]) rfl (enters_of Tryz.func45 (by kernel_rfl) rfl)
    hst (by omega) (fun k hk => by simp at hk; omega) (fun _ => rfl) (Words w w.heap.size (w.heap.size + 1 + 1 + 1)) (fun _ _ => False)
    (fun _ => Words.stands (by omega) (by omega) (by omega) (by omega)) (fun _ _ _ _ h _ _ => h) ⟨hB0, by omega, none, 0, hx0, Own.nil _ _ _ _ _⟩
    (fun x => { tmps := #[.pointer (some ⟨r, 0, none⟩), sv s, undef, undef, .pointer (some ⟨w.heap.size, 0, none⟩), sv x, undef, undef, undef, sv s, .func (.func 45) #[] #[.pointer (some ⟨w.heap.size + 1, 0, none⟩), .pointer (some ⟨w.heap.size + 1 + 1, 0, none⟩)], sv x] ++ Array.replicate 100 undef, defers := [] }) ?assign ?body ?done ?pan
  case assign =>
    intro l x W K hK
    simp only [Array.replicate_succ, Array.replicate_zero, List.push_toArray, List.append_toArray, List.nil_append, List.cons_append] at hK
    go_simp
    gi_wp2
    exact hK
  case body =>
    rintro l pre x post W hxs ⟨hb, hB1, a, cap, hbx, hown⟩
    have hlen : pre.length ≤ s.length := by have := hsl.1; rw [hxs] at this; simp at this; omega
    have c0 := hbx.cell 0
    have f0 := hbx.free 0
    have hws := hb.size
    simp only [Array.replicate_succ, Array.replicate_zero, List.push_toArray, List.append_toArray, List.nil_append, List.cons_append]
    gi_wp2_with (gi_at_builtin; go_must (refine wpListIn_append1 rfl _ _ 26 rfl elem_str encT_ok rfl (hown.alloc _) ⟨W.heap.size, 0, none⟩ 1 x rfl (new_cells W [sv x] _) (by simp [maxLen]; omega) (by omega) (by simp; omega) ?_; intro a' cap' W' hown' hg; change (W.alloc _).grownBy W' (Value.slice a pre.length cap).ownBlock at hg; have hbs := (hbx.alloc _).grown (hown.alloc _) hg (by omega); have hfs := hbs.free 0; have hcs := hbs.cell 0))
    have hsz : W.heap.size + 1 ≤ W'.heap.size := by simpa using hg.size
    refine ⟨((KeepsOthers.alloc W _).trans (KeepsOthers.grownOwn (hown.alloc _) hg)).trans (KeepsOthers.setCell _ _ _), fun k hk => ?_, ?_, by simp [World.setCell]; omega, a', cap', ?_, ?_⟩
    · have hk3 : k < w.heap.size + 1 + 1 + 1 ∧ k ≠ w.heap.size := by simp at hk; omega
      refine (Below.heap_setCell _ _ _ k hk3.2).trans ((hg.block k (by simp; omega) (fun e => ?_)).trans (Below.heap_alloc W _ k (by omega)))
      have := (hown.block k e.symm).1
      omega
    · exact (below_grown (hb.alloc hws _) (hown.alloc _) hg (by omega) (by simp; omega)).setCell (by simp) _
    · rw [List.length_append]; exact hbs.set 0 _
    · rw [List.length_append]; exact hown'.other _ _ (by show w.heap.size < _; omega)
  case done =>
    intro D W hD hw hK
    have hgo := HR.out D W (.func (.func 45) #[] #[.pointer (some ⟨w.heap.size + 1, 0, none⟩), .pointer (some ⟨w.heap.size + 1 + 1, 0, none⟩)]) (by omega) hK hw _ ⟨_, _, rfl⟩
    simp only [Array.replicate_succ, Array.replicate_zero, List.push_toArray, List.append_toArray, List.nil_append, List.cons_append] at hgo
    exact wpAt_of_wp hgo
  case pan => intro _ _ _ _ h _; exact h.elim
end Go.Proofs.YtdhmekpgplajmaaGreatDoor
end
section
namespace Go.Proofs.YtdhmekpgplajmaaGreatDoor
open Go.RowKit
/-- The numbers that words say. -/
def rowN : List (List UInt8) → Option (List Int)
  | [] => some []
  | x :: l => match numT x with
    | some v => (rowN l).map fun r => (v : Int) :: r
    | none => none
/-- What a line's words say, put to a machine. -/
def lineW (D : PDfa) (t : BSet) : List (List UInt8) → Option (PDfa × BSet)
  | w0 :: w1 :: w2 :: rest =>
    if w0 = [109, 97, 99, 104, 105, 110, 101] then
      (match numT w1 with
       | some n => if 0 < n then (match numT w2 with | some m => some ({ D with width := (m : Int) }, t) | none => none) else none
       | none => none)
    else if w0 = [110, 97, 109, 101] then some ({ D with names := D.names ++ [w2] }, t)
    else if w0 = [99, 108, 97, 115, 115] then (match numT w1 with | some k => classL D t k w2 | none => none)
    else if w0 = [115, 116, 97, 116, 101] then
      (match numT w2 with
       | some v => (match rowN rest with | some l => some ({ D with label := D.label ++ [(v : Int)], next := D.next ++ [l] }, t) | none => none)
       | none => none)
    else none
  | _ => none
def stepL (D : PDfa) (t : BSet) (s : List UInt8) : Option (PDfa × BSet) := lineW D t (splitL 32 s)
def oddC : List PanicEntry := [{ v := .iface 73 (.agg #[]), recovered := false }]
def RetLine (r base : Nat) (w : World) (o : Option (PDfa × BSet)) (e : Ending) (w' : World) : Prop :=
  match o with
  | some (D, t) => e = .returned (.tuple #[]) ∧ (∃ V, RdR w' r base V t D) ∧ KeptR r base w w'
  | none => e = .panicked oddC ∧ KeptR r base w w'
theorem KeptR.put {r base Dd : Nat} {w W : World} {o : Obj} (h : KeptR r base w W) (hr : r ≤ Dd) (hD : w.heap.size ≤ Dd) (hd : W.heap[Dd]? = some o) (ho : o.isCells = false) (o' : Obj) : KeptR r base w (W.putObj Dd o') :=
  ⟨h.low.grown (grownBy_putObj' W Dd o') (Nat.le_of_lt (Nat.lt_of_le_of_lt hr (Array.getElem?_eq_some_iff.1 hd).1)) (fun k e => by cases e; exact hr), h.cells.trans (KeepC.put hd ho),
    ⟨by simpa using h.others.size, fun k ob hk hc => (World.putObj_heap_other (by have := (Array.getElem?_eq_some_iff.1 hk).1; omega)).trans (h.others.same k ob hk hc)⟩⟩
theorem RdR.put {r base Dd : Nat} {W : World} {V : VDfa} {t : BSet} {D : PDfa} {o : Obj} (h : RdR W r base V t D) (hd : W.heap[Dd]? = some o) (ho : o.isCells = false) (o' : Obj) : RdR (W.putObj Dd o') r base V t D := by
  have hk : ∀ {b E : Nat} {c : Array Value}, Box W b c E → Box (W.putObj Dd o') b c E := fun {b E c} hb => (World.putObj_heap_other (by rintro rfl; rw [show W.heap[b]? = _ from hb] at hd; cases hd; cases ho)).trans hb
  have hO : ∀ {α : Type} {E size : Nat} {enc : α → List Value} {v : Value} {xs : List α}, Own W base E size enc v xs → Own (W.putObj Dd o') base E size enc v xs := fun {α E size enc v xs} ⟨a, cap, hv, hle, hm, hh⟩ =>
    ⟨a, cap, hv, hle, hm, hh.imp id fun ⟨g, cur, ha, hbg, hb, hr⟩ => ⟨g, cur, ha, hbg, hk hb, hr⟩⟩
  obtain ⟨rows, h1, h2, h3⟩ := h.nxt
  exact ⟨hk h.box, h.of, h.width, hO h.lab, hO h.nam, rows, hO h1, h2, fun i x y => ⟨hO (h3 i x y).1, (h3 i x y).2⟩⟩
theorem line_panic {r base Dd : Nat} {w W : World} {tmps : Array Value} (hD : w.heap.size ≤ Dd) (hr : r ≤ w.heap.size) (hk : KeptR r base w W) (hdd : W.heap[Dd]? = some (.deferred (some []))) :
    bodyPostM Fence.wide 0 Tryz.prog Tryz.f20 (RetLine r base w none) (.panic oddC) { tmps := tmps, defers := [{ target := .collected Dd, args := #[] }] } W :=
  ⟨by simp, .inl ⟨_, _, rfl, run_takeDeferred hdd, rfl, hk.put (Nat.le_trans hr hD) hD hdd rfl _⟩⟩
theorem line_done {r base Dd : Nat} {w W : World} {V : VDfa} {t : BSet} {D : PDfa} {tmps : Array Value} {e : Exit} (he : e = .normal ∨ e = .ret) (hD : w.heap.size ≤ Dd) (hr : r ≤ w.heap.size) (hd : RdR W r base V t D) (hk : KeptR r base w W) (hdd : W.heap[Dd]? = some (.deferred (some []))) :
    bodyPostM Fence.wide 0 Tryz.prog Tryz.f20 (RetLine r base w (some (D, t))) e { tmps := tmps, defers := [{ target := .collected Dd, args := #[] }] } W := by
  have h0 : LeavesInM Fence.wide 0 Tryz.prog Tryz.f20 tmps (RetLine r base w (some (D, t))) [{ target := .collected Dd, args := #[] }] .returning W :=
    ⟨by simp, .inl ⟨_, _, rfl, run_takeDeferred hdd, .tuple #[], by simp [results, Tryz.f20, go_sem], rfl, ⟨_, hd.put hdd rfl _⟩, hk.put (Nat.le_trans hr hD) hD hdd rfl _⟩⟩
  rcases he with rfl | rfl
  · exact h0
  · exact h0
/-- Where the rest of a line begins, and goes on. -/
structure LSt (w : World) (r base Dd : Nat) (a : Option Addr) (cap : Nat) (ws : List (List UInt8)) (V : VDfa) (t : BSet) (D : PDfa) (W : World) : Prop where
  box : Box W w.heap.size #[.slice a ws.length cap] 26
  own : Own W (w.heap.size + 1 + 1 + 1) 9 1 encT (.slice a ws.length cap) ws
  rd : RdR W r base V t D
  kp : KeptR r base w W
  tab : Tab W
  dd : W.heap[Dd]? = some (.deferred (some []))
theorem LSt.kept {w W W' : World} {r base Dd : Nat} {a : Option Addr} {cap : Nat} {ws : List (List UInt8)} {V : VDfa} {t : BSet} {D : PDfa} (h : LSt w r base Dd a cap ws V t D W) (hr : r ≤ w.heap.size) (hb : Below W.heap.size W W') : LSt w r base Dd a cap ws V t D W' :=
  ⟨h.box.kept hb, h.own.kept hb, h.rd.kept hb, h.kp.trans (KeptR.below (Nat.le_trans hr h.kp.others.size) hb), h.tab.kept hb, (hb.block Dd (Array.getElem?_eq_some_iff.1 h.dd).1).trans h.dd⟩
theorem LSt.start {w W : World} {r base Dd : Nat} {ws : List (List UInt8)} {V : VDfa} {t : BSet} {D : PDfa} (h : RdR w r base V t D) (hT : Tab w) (hr : r ≤ w.heap.size) (hw : Words w w.heap.size (w.heap.size + 1 + 1 + 1) ws W) (hdd : W.heap[Dd]? = some (.deferred (some []))) : ∃ a cap, LSt w r base Dd a cap ws V t D W := by
  obtain ⟨hb, _, a, cap, hx, ho⟩ := hw
  exact ⟨a, cap, hx, ho, h.kept hb, KeptR.below hr hb, hT.kept hb, hdd⟩
theorem LSt.word {w W : World} {r base Dd : Nat} {a : Option Addr} {cap : Nat} {ws : List (List UInt8)} {V : VDfa} {t : BSet} {D : PDfa} (h : LSt w r base Dd a cap ws V t D W) (hn : 0 < ws.length) : ∃ g, a = some ⟨g, 0, none⟩ ∧ ∀ W', LSt w r base Dd (some ⟨g, 0, none⟩) cap ws V t D W' → ∀ i (hi : i < ws.length), W'.cell? ⟨g, i, none⟩ = some (sv ws[i]) := by
  obtain ⟨g, rfl, _, _⟩ := h.own.addr hn
  refine ⟨g, rfl, fun W' h' i hi => ?_⟩
  have := (h'.own.slice encT_ok).cellsA.2.2.2 i hi W' (Below.refl _ _)
  rwa [Nat.zero_add] at this
theorem LSt.caps {w W : World} {r base Dd : Nat} {a : Option Addr} {cap : Nat} {ws : List (List UInt8)} {V : VDfa} {t : BSet} {D : PDfa} (h : LSt w r base Dd a cap ws V t D W) : ws.length ≤ cap ∧ cap ≤ 9223372036854775807 := by
  obtain ⟨_, h1, h2, _⟩ := h.own.open; exact ⟨h1, h2⟩
end Go.Proofs.YtdhmekpgplajmaaGreatDoor
end
section
namespace Go.Proofs.YtdhmekpgplajmaaGreatDoor
open Go.RowKit
theorem lineW_cons (D : PDfa) (t : BSet) (w0 w1 w2 : List UInt8) (rest : List (List UInt8)) : lineW D t (w0 :: w1 :: w2 :: rest) =
    if w0 = [109, 97, 99, 104, 105, 110, 101] then
      (match numT w1 with
       | some n => if 0 < n then (match numT w2 with | some m => some ({ D with width := (m : Int) }, t) | none => none) else none
       | none => none)
    else if w0 = [110, 97, 109, 101] then some ({ D with names := D.names ++ [w2] }, t)
    else if w0 = [99, 108, 97, 115, 115] then (match numT w1 with | some k => classL D t k w2 | none => none)
    else if w0 = [115, 116, 97, 116, 101] then
      (match numT w2 with
       | some v => (match rowN rest with | some l => some ({ D with label := D.label ++ [(v : Int)], next := D.next ++ [l] }, t) | none => none)
       | none => none)
    else none := rfl
set_option maxRecDepth 20000 in
set_option maxHeartbeats 3200000 in
theorem line_short (r base : Nat) (V : VDfa) (t : BSet) (D : PDfa) (s : List UInt8) (w : World) (h : RdR w r base V t D) (hT : Tab w) (hM : MaxL w) (hrb : r < base) (hbw : base ≤ w.heap.size) (hs : s.length < 4294967281) (hn : (splitL 32 s).length < 3) :
    Calls Tryz.prog 20 #[.pointer (some ⟨r, 0, none⟩), sv s] w (RetLine r base w none) := by
  have hr : r ≤ w.heap.size := by omega
  refine line_words r s w hM (by omega) hs _ ?_
  intro Dd W g hD hdd hw z hz
  obtain ⟨x, y, hz⟩ := hz
  cases hz
  obtain ⟨a, cap, hS⟩ := LSt.start (base := base) h hT hr hw hdd
  generalize splitL 32 s = ws at *
  have c0 := hS.box.cell 0
  have e1 : decide (3 ≤ (ws.length : Int)) = false := by simp; omega
  have HS := Lib.hid hS
  clear hS hw hdd h hT hM hs
  simp only [Array.replicate_succ, Array.replicate_zero, List.push_toArray, List.append_toArray, List.nil_append, List.cons_append]
  go_wp2_with (go_at_call 17; go_must (refine (must_no _).mono ?_; rintro e w2 ⟨rfl, hB2⟩; have hS2 := HS.out.kept hr hB2))
  exact line_panic hD hr hS2.kp hS2.dd
set_option maxRecDepth 20000 in
set_option maxHeartbeats 3200000 in
theorem line_machine (r base : Nat) (V : VDfa) (t : BSet) (D : PDfa) (s : List UInt8) (w : World) (h : RdR w r base V t D) (hT : Tab w) (hM : MaxL w) (hrb : r < base) (hbw : base ≤ w.heap.size) (hs : s.length < 4294967281) (w1 w2 : List UInt8) (rest : List (List UInt8)) (hn : splitL 32 s = [109, 97, 99, 104, 105, 110, 101] :: w1 :: w2 :: rest) :
    Calls Tryz.prog 20 #[.pointer (some ⟨r, 0, none⟩), sv s] w (RetLine r base w (stepL D t s)) := by
  have hr : r ≤ w.heap.size := by omega
  obtain ⟨A, hA⟩ : ∃ A, stepL D t s = A := ⟨_, rfl⟩
  rw [hA]
  unfold stepL at hA
  rw [hn, lineW_cons, if_pos rfl] at hA
  have HA := Lib.hid hA
  clear hA
  refine line_words r s w hM (by omega) hs _ ?_
  intro Dd W g hD hdd hw z hz
  obtain ⟨x, y, hz⟩ := hz
  cases hz
  obtain ⟨a, cap, hS⟩ := LSt.start (base := base) h hT hr hw hdd
  have hl1 : w1.length ≤ 9223372036854775807 := by have := (splitL_length 32 s).2 w1 (by rw [hn]; simp); omega
  have hl2 : w2.length ≤ 9223372036854775807 := by have := (splitL_length 32 s).2 w2 (by rw [hn]; simp); omega
  rw [hn] at hS
  have hN1 := fun w => list_number w1 w hl1
  have hN2 := fun w => list_number w2 w hl2
  obtain ⟨hc1, hc2⟩ := hS.caps
  obtain ⟨g, rfl, hcell⟩ := hS.word (by simp)
  have hw0 := fun W' h' => hcell W' h' 0 (by simp)
  have hw1 := fun W' h' => hcell W' h' 1 (by simp)
  have hw2 := fun W' h' => hcell W' h' 2 (by simp)
  simp only [List.getElem_cons_zero, List.getElem_cons_succ] at hw0 hw1 hw2
  have hlen3 : 3 ≤ ([109, 97, 99, 104, 105, 110, 101] :: w1 :: w2 :: rest).length := by simp
  generalize ([109, 97, 99, 104, 105, 110, 101] :: w1 :: w2 :: rest) = ws at *
  have e1 : decide (3 ≤ (ws.length : Int)) = true := by simp; omega
  have c0 := hS.box.cell 0
  have HS := Lib.hid hS
  have H0 := Lib.hid hw0
  have H1 := Lib.hid hw1
  have H2 := Lib.hid hw2
  have HN1 := Lib.hid hN1
  have HN2 := Lib.hid hN2
  clear hS hw hdd h hT hM hs hcell hw0 hw1 hw2 hN1 hN2 hn hl1 hl2
  simp only [Array.replicate_succ, Array.replicate_zero, List.push_toArray, List.append_toArray, List.nil_append, List.cons_append]
  cases ho1 : numT w1 with
  | none =>
    obtain rfl : A = none := by rw [← HA.out, ho1]
    rw [ho1] at HN1
    go_wp2_with (go_at_call_of 17 ((Value.bool true)); refine (must_yes _).mono ?_; rintro e w3 ⟨rfl, hB3⟩; have hS3 := HS.out.kept hr hB3; have c3 := hS3.box.cell 0; have d0 := H0.out _ hS3; have d1 := H1.out _ hS3)
    go_wp2_with (go_at_call 47; go_must (refine (HN1.out _).mono ?_; rintro e w4 ⟨rfl, hB4⟩; have hS4 := hS3.kept hr hB4))
    exact line_panic hD hr hS4.kp hS4.dd
  | some n =>
    rw [ho1] at HN1
    by_cases hn0 : 0 < n
    · have e2 : decide (0 < (n : Int)) = true := by simp; omega
      cases ho2 : numT w2 with
      | none =>
        obtain rfl : A = none := by rw [← HA.out, ho1]; simp only [hn0, if_true, ho2]
        rw [ho2] at HN2
        go_wp2_with (go_at_call_of 17 ((Value.bool true)); refine (must_yes _).mono ?_; rintro e w3 ⟨rfl, hB3⟩; have hS3 := HS.out.kept hr hB3; have c3 := hS3.box.cell 0; have d0 := H0.out _ hS3; have d1 := H1.out _ hS3)
        go_wp2_with (go_at_call 47; refine (HN1.out _).mono ?_; rintro e w4 ⟨rfl, hB4⟩; have hS4 := hS3.kept hr hB4)
        go_wp2_with (go_at_call_of 17 ((Value.bool true)); refine (must_yes _).mono ?_; rintro e w5 ⟨rfl, hB5⟩; have hS5 := hS4.kept hr hB5; have c5 := hS5.box.cell 0; have d2 := H2.out _ hS5)
        go_wp2_with (go_at_call 47; refine (HN2.out _).mono ?_; rintro e w6 ⟨rfl, hB6⟩; have hS6 := hS5.kept hr hB6)
        exact line_panic hD hr hS6.kp hS6.dd
      | some m =>
        obtain rfl : A = some ({ D with width := (m : Int) }, t) := by rw [← HA.out, ho1]; simp only [hn0, if_true, ho2]
        rw [ho2] at HN2
        go_wp2_with (go_at_call_of 17 ((Value.bool true)); refine (must_yes _).mono ?_; rintro e w3 ⟨rfl, hB3⟩; have hS3 := HS.out.kept hr hB3; have c3 := hS3.box.cell 0; have d0 := H0.out _ hS3; have d1 := H1.out _ hS3)
        go_wp2_with (go_at_call 47; refine (HN1.out _).mono ?_; rintro e w4 ⟨rfl, hB4⟩; have hS4 := hS3.kept hr hB4)
        go_wp2_with (go_at_call_of 17 ((Value.bool true)); refine (must_yes _).mono ?_; rintro e w5 ⟨rfl, hB5⟩; have hS5 := hS4.kept hr hB5; have c5 := hS5.box.cell 0; have d2 := H2.out _ hS5)
        go_wp2_with (go_at_call 47; refine (HN2.out _).mono ?_; rintro e w6 ⟨rfl, hB6⟩; have hS6 := hS5.kept hr hB6; have x1 := hS6.rd.box.reader.1; have f1 := hS6.rd.box.free 256)
        exact line_done (.inl rfl) hD hr (hS6.rd.width_set hrb m) (hS6.kp.trans (KeptR.set _ _ _)) ((KeepsOthers.setCell _ _ _).same _ _ hS6.dd rfl)
    · obtain rfl : A = none := by rw [← HA.out, ho1]; simp only [hn0, if_false]
      have e2 : decide (0 < (n : Int)) = false := by simp; omega
      go_wp2_with (go_at_call_of 17 ((Value.bool true)); refine (must_yes _).mono ?_; rintro e w3 ⟨rfl, hB3⟩; have hS3 := HS.out.kept hr hB3; have c3 := hS3.box.cell 0; have d0 := H0.out _ hS3; have d1 := H1.out _ hS3)
      go_wp2_with (go_at_call 47; go_must (refine (HN1.out _).mono ?_; rintro e w4 ⟨rfl, hB4⟩; have hS4 := hS3.kept hr hB4))
      go_wp2_with (go_at_call_of 17 ((Value.bool false)); refine (must_no _).mono ?_; rintro e w5 ⟨rfl, hB5⟩; have hS5 := hS4.kept hr hB5)
      exact line_panic hD hr hS5.kp hS5.dd
end Go.Proofs.YtdhmekpgplajmaaGreatDoor
end
