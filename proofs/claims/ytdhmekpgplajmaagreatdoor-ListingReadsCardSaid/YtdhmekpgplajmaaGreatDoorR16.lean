/- Joined by tools/merge.py: Ref04E, DfaNames. -/
import Derived.Test.YtdhmekpgplajmaaGreatDoorR15
import Derived.Test.YtdhmekpgplajmaaGreatDoorR7
import Derived.Test.YtdhmekpgplajmaaGreatDoorShelf
section
namespace Go.Proofs.YtdhmekpgplajmaaGreatDoor
open Go.RowKit
set_option maxRecDepth 20000
set_option maxHeartbeats 40000000 in
theorem ref04_Read2 (g n cap : Nat) (l : List UInt8) (w : World) (h : SliceR w (.slice (some ⟨g, 0, none⟩) n cap) 1 encU l) (hl6 : l.length ≤ 4611686018427387904) (h0 : hereB l 0 91 = true) (ht : hereB l 1 94 = true) :
    Calls Tryz.prog 49 #[.slice (some ⟨g, 0, none⟩) n cap, .int .i64 0] w (Ret w (retR (readR l))) := by
  obtain ⟨hlen, hcap, hcap', hcell⟩ := h.cellsA
  have hS := RB.start w
  have hx := readR_fin h0 ht
  have hn1 := hereB_lt h0
  have hn2 := hereB_lt ht
  rw [hx]
  rw [show (if true = true then 2 else 1) = 2 from rfl]
  obtain ⟨ANS, hA⟩ : ∃ ANS, firstR l 0 2 = ANS := ⟨_, rfl⟩
  rw [hA]
  have h91 : ∀ w1, Below w.heap.size w w1 → Calls Tryz.prog 76 #[.slice (some ⟨g, 0, none⟩) n cap, .int .i64 0, .int .u8 91] w1 (RetSame w1 (.bool true)) := fun w1 hb => by
    have := ref04_has g n cap 0 l 91 w1 (h.kept hb); rw [h0] at this; exact this
  have h94 : ∀ w1, Below w.heap.size w w1 → Calls Tryz.prog 76 #[.slice (some ⟨g, 0, none⟩) n cap, .int .i64 1, .int .u8 94] w1 (RetSame w1 (.bool true)) := fun w1 hb => by
    have := ref04_has g n cap 1 l 94 w1 (h.kept hb); rw [ht] at this; exact this
  have hch : ∀ (j : Nat) w1, Below w.heap.size w w1 → Calls Tryz.prog 78 #[.slice (some ⟨g, 0, none⟩) n cap, .int .i64 j, .int .i64 0] w1 (Ret w1 (retE (charR l 0 j))) := fun j w1 hb => ref04_char g n cap j 0 l w1 (h.kept hb) hl6
  have hB2 : Below w.heap.size w ((w.alloc (.cells #[.int .u64 0, .int .u64 0, .int .u64 0, .int .u64 0] 43)).alloc (.cells #[.int .i64 0, .int .i64 0] 80)) := ((Below.refl _ w).alloc (Nat.le_refl _) _).alloc (by simp) _
  have hQ0 : LoopQ l ANS 0 2 0 := .inl ⟨rfl, rfl, hA⟩
  have HCHAR := Lib.hid hch
  have H91 := Lib.hid h91
  have H94 := Lib.hid h94
  have HLEN := Lib.hid hlen
  have hn1 : 1 ≤ n := by omega
  have hn2 : 2 ≤ n := by omega
  clear hlen hcap hcell h91 h94 hch hx hA h0 ht
  go_enter Tryz.func49, Tryz.ntmps49
  go_wp2_with fail
  refine (H91.out _ hB2).mono ?_
  rintro e w2 ⟨rfl, rfl⟩
  go_wp2_with fail
  refine (H94.out _ hB2).mono ?_
  rintro e w2 ⟨rfl, rfl⟩
  go_wp2
  clear hB2
  go_loopw [7, 10] (fun i items wr => ∃ (it j : Nat) (s : BSet), i = .int .i64 j ∧ items = .int .i64 it ∧ j ≤ n ∧ it ≤ j ∧ LoopQ l ANS it j s ∧ RB w wr s) (fun i _ _ => n - (intOf i).toNat)
  case atStart => exact ⟨0, 2, 0, rfl, rfl, by omega, by omega, hQ0, hS⟩
  case round =>
    clear hS hQ0
    obtain ⟨it, j, s, rfl, rfl, hj, hitj, hQ, hRB⟩ := hrel
    have hjl : j ≤ l.length := by rw [← HLEN.out]; exact hj
    have hrelB : True := trivial
    by_cases hit : it = 0
    · have hg : it = 0 ∨ hereB l j 93 = false := .inl hit
      have ei : ((it : Int) == 0) = true := by rw [hit]; rfl
      cases hc : charR l 0 j with
      | inl q =>
        obtain ⟨kd, ps⟩ := q
        have hkd := charR_ne hc
        have HA := Lib.hid (hQ.err hg hjl (itemR_e1 hc))
        have HCH := Lib.hid (HCHAR.out j)
        rw [hc] at HCH
        unfold retE badV at HCH
        have e1 : ((kd : Int) == 0) = false := by simp; omega
        have e2 : ((kd : Int) != 0) = true := by simp; omega
        clear hQ hc hkd hrelB h
        go_wp2_with fail
        refine (HCH.out _ hRB.below).mono ?_
        rintro e w3 ⟨rfl, hB3⟩
        have hRB2 := hRB.kept hB3
        have hye := Box.new w3 #[.int .i64 kd, .int .i64 ps] 80
        have y0 := hye.cell 0
        have hRB3 := hRB2
        go_wp2_with fail
        have hRE := hRB2.err kd ps
        have HF : Hid (∀ v, Turns w.heap.size 43 (setC 0) (w3.alloc (.cells #[.int .i64 kd, .int .i64 ps] 80)).drew v → RE w v _ kd ps) := Lib.hid fun v hl => hRE.turn (by have := hRB3.below.size; have := hRB3.x2.lt; omega) (relTurns _ _ _ |>.later _ _ (Below.refl _ _).drew |> fun h0 => (relTurns _ _ _).trans _ _ _ h0 hl)
        refine wp_region_M (R := Turns w.heap.size 43 (setC 0)) 4 (by kernel_rfl) ?_
        refine tkM 0 ?_ rfl (fun w1 hl => ?_) ?_
        rotate_left
        · have y0 := (HF.out w1 hl).xe.cell 0; have y1 := (HF.out w1 hl).xe.cell 1; go_simp; try with_reducible rfl
        simp only [eA, eB, Act.put, eD, eE, eF]
        refine tkM 1 ?_ rfl (fun w1 hl => ?_) ?_
        rotate_left
        · have y0 := (HF.out w1 hl).xe.cell 0; have y1 := (HF.out w1 hl).xe.cell 1; go_simp; try with_reducible rfl
        simp only [eA, eB, eC, Act.put, eD, eE, eF]
        refine wpM_one (t := 4) (i := 2) (by kernel_rfl) rfl (fun w1 hl K hK => ?_)
        have hu := (HF.out w1 hl).x0
        obtain ⟨⟨c0, c1, c2, c3⟩, ⟨f0, f1, f2, f3⟩⟩ := hu.set4
        go_simp
        have hT5 := turns_store4 (v0 := .int .u64 0) (v1 := .int .u64 0) (v2 := .int .u64 0) (v3 := .int .u64 0) hu rfl
        have hX5 := hu.store4 rfl (.int .u64 0) (.int .u64 0) (.int .u64 0) (.int .u64 0)
        rw [← setC_zero] at hT5 hX5
        have hl5 := (relTurns _ _ _).trans _ _ _ hl hT5
        refine hK.out _ _ (fun _ => hT5) ?_
        clear hK K c0 c1 c2 c3 f0 f1 f2 f3 hu hl hT5
        refine tkM 3 ?_ rfl (fun w1 hl => ?_) ?_
        rotate_left
        · skip; go_simp; try with_reducible rfl
        simp only [eA, eB, eC, Act.put, eD, eE, eF]
        refine wpM_one (t := 4) (i := 4) (by kernel_rfl) rfl (fun w1 hl K hK => ?_)
        have hT7 := HF.out w1 ((relTurns _ _ _).trans _ _ _ hl5 hl)
        have hX7 := hl.fin hX5
        have r0 := hT7.x1.cell 0
        have r1 := hT7.x1.cell 1
        have s0 := hT7.x1.free 0
        have s1 := hT7.x1.free 1
        go_simp
        refine hK.out _ _ (fun h => absurd rfl h) ?_
        clear hK K
        refine wpM_done (by kernel_rfl) (fun w1 hl => ?_) _
        have hE0 := hl.fin ((hX7.other ⟨w.heap.size + 1, 0, none⟩ (.int .i64 kd) (by simp)).other ⟨w.heap.size + 1, 1, none⟩ (.int .i64 ps) (by simp))
        have hE1 := hl.keep.box (by show ¬ _; omega) ((hT7.x1.set 0 (.int .i64 kd)).set 1 (.int .i64 ps))
        have hE2 := ((hT7.below.setCell (p := ⟨w.heap.size + 1, 0, none⟩) (by simp) (.int .i64 kd)).setCell (p := ⟨w.heap.size + 1, 1, none⟩) (by simp) (.int .i64 ps)).trans (hl.low (by simpa [World.setCell] using hT7.below.size))
        go_wp2
        exact ret_box_tmp_box Tryz.results49 rfl rfl rfl hE0 hE1 Tryz.underlying43 rfl (by kernel_rfl) Tryz.underlying80 rfl (by kernel_rfl) rfl ⟨by rw [HA.out]; rfl, hE2⟩
      | inr q =>
        obtain ⟨lo, j1⟩ := q
        obtain ⟨hj1, hlo⟩ := charR_le hc
        have hup := charR_up hc
        have HCH := Lib.hid (HCHAR.out j)
        rw [hc] at HCH
        unfold retE badV at HCH
        have hH45 : ∀ w1, Below w.heap.size w w1 → Calls Tryz.prog 76 #[.slice (some ⟨g, 0, none⟩) n cap, .int .i64 j1, .int .u8 45] w1 (RetSame w1 (.bool (hereB l j1 45))) := fun w1 hb => ref04_has g n cap j1 l 45 w1 (h.kept hb)
        cases h45 : hereB l j1 45 with
        | false =>
          rw [h45] at hH45
          have H45 := Lib.hid hH45
          have HQ := Lib.hid (hQ.step hg hjl hup (itemR_one hc h45))
          have hj1n : j1 ≤ n := by rw [HLEN.out]; exact hj1
          clear hQ hc hrelB h h45 hH45
          go_wp2_with fail
          refine (HCH.out _ hRB.below).mono ?_
          rintro e w3 ⟨rfl, hB3⟩
          have hRB2 := hRB.kept hB3
          have hRB3 := hRB2.kept (later_alloc w3 (.cells #[.int .i64 0, .int .i64 0] 80))
          have hye := Box.new w3 #[.int .i64 0, .int .i64 0] 80
          have y0 := hye.cell 0
          go_wp2_with fail
          refine (H45.out _ hRB3.below).mono ?_
          rintro e w4 ⟨rfl, rfl⟩
          go_wp2_with fail
          have HF : Hid (∀ v, Later (w3.alloc (.cells #[.int .i64 0, .int .i64 0] 80)).drew v → RB w v s) := Lib.hid fun v hl => (hRB3.kept (Below.refl _ _).drew).kept hl
          have HSP : Hid (∀ w1, Calls Tryz.prog 80 #[.int .i64 lo, .int .i64 lo] w1 (Ret w1 (setV (spanS lo lo)))) := Lib.hid fun w1 => ref_Span lo lo w1 hlo
          have HTW : Hid (∀ w1, Calls Tryz.prog 79 #[setV s, setV (spanS lo lo), .int .i64 0] w1 (Ret w1 (setV (s ||| spanS lo lo)))) := Lib.hid fun w1 => by have := ref_Two0 s (spanS lo lo) w1; rwa [twoS_or] at this
          generalize spanS lo lo = sp at *
          have hwl : IntKind.i64.wrap (lo : Int) = (lo : Int) := IntWalk.i64_in _ (by omega)
          refine wp_region_M (R := Later) 7 (by kernel_rfl) ?_
          refine tkM 0 ?_ rfl (fun w1 hl => ?_) ?_
          rotate_left
          · obtain ⟨⟨c0, c1, c2, c3⟩, _⟩ := (HF.out w1 hl).x2.set4; go_simp; try with_reducible rfl
          simp only [eA, eB, Act.put, eD, eE, eF]
          refine tkM 1 ?_ rfl (fun w1 hl => ?_) ?_
          rotate_left
          · obtain ⟨⟨c0, c1, c2, c3⟩, _⟩ := (HF.out w1 hl).x2.set4; go_simp; try with_reducible rfl
          simp only [eA, eB, eC, Act.put, eD, eE, eF]
          refine tkM 2 ?_ rfl (fun w1 hl => ?_) ?_
          rotate_left
          · obtain ⟨⟨c0, c1, c2, c3⟩, _⟩ := (HF.out w1 hl).x2.set4; go_simp; try with_reducible rfl
          simp only [eA, eB, eC, Act.put, eD, eE, eF]
          refine tkM 3 ?_ rfl (fun w1 hl => ?_) ?_
          rotate_left
          · obtain ⟨⟨c0, c1, c2, c3⟩, _⟩ := (HF.out w1 hl).x2.set4; go_simp; try with_reducible rfl
          simp only [eA, eB, eC, Act.put, eD, eE, eF]
          refine tkM 4 ?_ rfl (fun w1 hl => ?_) ?_
          rotate_left
          · obtain ⟨⟨c0, c1, c2, c3⟩, _⟩ := (HF.out w1 hl).x2.set4; go_simp; try with_reducible rfl
          simp only [eA, eB, eC, Act.put, eD, eE, eF]
          refine wpM_call (t := 7) (i := 5) (f := ?_) (args := ?_) (v := ?_) rfl (by kernel_rfl) (by kernel_rfl) (by kernel_rfl) (by kernel_rfl) (fun _ _ _ h => h) (by rfl) (fun w1 => ?_) (fun w1 hl => ?_) ?_
          rotate_left 4
          · exact HSP.out w1
          rotate_left
          · go_simp
          simp only [eA, eB, eC, Act.put, eD, eE, eF]
          refine wpM_call (t := 7) (i := 6) (f := ?_) (args := ?_) (v := ?_) rfl (by kernel_rfl) (by kernel_rfl) (by kernel_rfl) (by kernel_rfl) (fun _ _ _ h => h) (by rfl) (fun w1 => ?_) (fun w1 hl => ?_) ?_
          rotate_left 4
          · exact HTW.out w1
          rotate_left
          · go_simp
          simp only [eA, eB, eC, Act.put, eD, eE, eF]
          refine wpM_one (t := 7) (i := 7) (by kernel_rfl) rfl (fun w1 hl K hK => ?_)
          have hR7 := HF.out w1 hl
          obtain ⟨⟨c0, c1, c2, c3⟩, ⟨f0, f1, f2, f3⟩⟩ := hR7.x2.set4
          go_simp
          refine hK.out _ _ (fun h => absurd rfl h) ?_
          clear hK K
          refine wpM_done (by kernel_rfl) (fun w1 hl => ?_) _
          have hR8 := (hR7.store (s ||| sp)).kept hl
          go_wp2
          go_roundw
          case rel => exact ⟨it + 1, j1, s ||| sp, by go_num, by go_num, by omega, by omega, HQ.out, hR8⟩
          case measure => simp [intOf]; omega
        | true =>
          rw [h45] at hH45
          have H45 := Lib.hid hH45
          have hj1n := hereB_lt h45
          have hcap2 : l.length ≤ 4611686018427387904 := hl6
          have hw1 : IntKind.i64.wrap ((j1 : Int) + 1) = ((j1 + 1 : Nat) : Int) := by rw [IntWalk.i64_in _ (by omega)]; omega
          have HCH2 : Hid (∀ w1, Below w.heap.size w w1 → Calls Tryz.prog 78 #[.slice (some ⟨g, 0, none⟩) n cap, .int .i64 ((j1 + 1 : Nat) : Int), .int .i64 0] w1 (Ret w1 (retE (charR l 0 (j1 + 1))))) := Lib.hid (HCHAR.out (j1 + 1))
          cases hc2 : charR l 0 (j1 + 1) with
          | inl q =>
            obtain ⟨kd, ps⟩ := q
            have hkd := charR_ne hc2
            have HA := Lib.hid (hQ.err hg hjl (itemR_e2 hc h45 hc2))
            rw [hc2] at HCH2
            unfold retE badV at HCH2
            have e1 : ((kd : Int) == 0) = false := by simp; omega
            have e2 : ((kd : Int) != 0) = true := by simp; omega
            clear hQ hc hc2 hkd hrelB h hH45 h45
            go_wp2_with fail
            refine (HCH.out _ hRB.below).mono ?_
            rintro e w3 ⟨rfl, hB3⟩
            have hRB2 := hRB.kept hB3
            have hRB3a := hRB2.kept (later_alloc w3 (.cells #[.int .i64 0, .int .i64 0] 80))
            have hye := Box.new w3 #[.int .i64 0, .int .i64 0] 80
            have y0 := hye.cell 0
            go_wp2_with fail
            refine (H45.out _ hRB3a.below).mono ?_
            rintro e w4 ⟨rfl, rfl⟩
            go_wp2_with fail
            refine (HCH2.out _ hRB3a.below).mono ?_
            rintro e w5 ⟨rfl, hB5⟩
            have hRB5 := hRB3a.kept hB5
            have hRB3 := hRB5
            have hze := Box.new w5 #[.int .i64 kd, .int .i64 ps] 80
            have z0 := hze.cell 0
            go_wp2_with fail
            have hRE := hRB5.err kd ps
            have HF : Hid (∀ v, Turns w.heap.size 43 (setC 0) (w5.alloc (.cells #[.int .i64 kd, .int .i64 ps] 80)).drew v → RE w v _ kd ps) := Lib.hid fun v hl => hRE.turn (by have := hRB3.below.size; have := hRB3.x2.lt; omega) (relTurns _ _ _ |>.later _ _ (Below.refl _ _).drew |> fun h0 => (relTurns _ _ _).trans _ _ _ h0 hl)
            refine wp_region_M (R := Turns w.heap.size 43 (setC 0)) 4 (by kernel_rfl) ?_
            refine tkM 0 ?_ rfl (fun w1 hl => ?_) ?_
            rotate_left
            · have y0 := (HF.out w1 hl).xe.cell 0; have y1 := (HF.out w1 hl).xe.cell 1; go_simp; try with_reducible rfl
            simp only [eA, eB, Act.put, eD, eE, eF]
            refine tkM 1 ?_ rfl (fun w1 hl => ?_) ?_
            rotate_left
            · have y0 := (HF.out w1 hl).xe.cell 0; have y1 := (HF.out w1 hl).xe.cell 1; go_simp; try with_reducible rfl
            simp only [eA, eB, eC, Act.put, eD, eE, eF]
            refine wpM_one (t := 4) (i := 2) (by kernel_rfl) rfl (fun w1 hl K hK => ?_)
            have hu := (HF.out w1 hl).x0
            obtain ⟨⟨c0, c1, c2, c3⟩, ⟨f0, f1, f2, f3⟩⟩ := hu.set4
            go_simp
            have hT5 := turns_store4 (v0 := .int .u64 0) (v1 := .int .u64 0) (v2 := .int .u64 0) (v3 := .int .u64 0) hu rfl
            have hX5 := hu.store4 rfl (.int .u64 0) (.int .u64 0) (.int .u64 0) (.int .u64 0)
            rw [← setC_zero] at hT5 hX5
            have hl5 := (relTurns _ _ _).trans _ _ _ hl hT5
            refine hK.out _ _ (fun _ => hT5) ?_
            clear hK K c0 c1 c2 c3 f0 f1 f2 f3 hu hl hT5
            refine tkM 3 ?_ rfl (fun w1 hl => ?_) ?_
            rotate_left
            · skip; go_simp; try with_reducible rfl
            simp only [eA, eB, eC, Act.put, eD, eE, eF]
            refine wpM_one (t := 4) (i := 4) (by kernel_rfl) rfl (fun w1 hl K hK => ?_)
            have hT7 := HF.out w1 ((relTurns _ _ _).trans _ _ _ hl5 hl)
            have hX7 := hl.fin hX5
            have r0 := hT7.x1.cell 0
            have r1 := hT7.x1.cell 1
            have s0 := hT7.x1.free 0
            have s1 := hT7.x1.free 1
            go_simp
            refine hK.out _ _ (fun h => absurd rfl h) ?_
            clear hK K
            refine wpM_done (by kernel_rfl) (fun w1 hl => ?_) _
            have hE0 := hl.fin ((hX7.other ⟨w.heap.size + 1, 0, none⟩ (.int .i64 kd) (by simp)).other ⟨w.heap.size + 1, 1, none⟩ (.int .i64 ps) (by simp))
            have hE1 := hl.keep.box (by show ¬ _; omega) ((hT7.x1.set 0 (.int .i64 kd)).set 1 (.int .i64 ps))
            have hE2 := ((hT7.below.setCell (p := ⟨w.heap.size + 1, 0, none⟩) (by simp) (.int .i64 kd)).setCell (p := ⟨w.heap.size + 1, 1, none⟩) (by simp) (.int .i64 ps)).trans (hl.low (by simpa [World.setCell] using hT7.below.size))
            go_wp2
            exact ret_box_tmp_box Tryz.results49 rfl rfl rfl hE0 hE1 Tryz.underlying43 rfl (by kernel_rfl) Tryz.underlying80 rfl (by kernel_rfl) rfl ⟨by rw [HA.out]; rfl, hE2⟩
          | inr q =>
            obtain ⟨hi, k⟩ := q
            obtain ⟨hk, hhi⟩ := charR_le hc2
            have hup2 := charR_up hc2
            rw [hc2] at HCH2
            unfold retE badV at HCH2
            by_cases hlt : hi < lo
            · have HA := Lib.hid (hQ.err hg hjl (itemR_e3 hc h45 hc2 hlt))
              have e3 : decide ((hi : Int) < (lo : Int)) = true := by simp; omega
              have HBAD := Lib.hid (fun w => ref04_bad 15 j w)
              clear hQ hc hc2 hrelB h hH45 h45
              go_wp2_with fail
              refine (HCH.out _ hRB.below).mono ?_
              rintro e w3 ⟨rfl, hB3⟩
              have hRB2 := hRB.kept hB3
              have hRB3a := hRB2.kept (later_alloc w3 (.cells #[.int .i64 0, .int .i64 0] 80))
              have hye := Box.new w3 #[.int .i64 0, .int .i64 0] 80
              have y0 := hye.cell 0
              go_wp2_with fail
              refine (H45.out _ hRB3a.below).mono ?_
              rintro e w4 ⟨rfl, rfl⟩
              go_wp2_with fail
              refine (HCH2.out _ hRB3a.below).mono ?_
              rintro e w5 ⟨rfl, hB5⟩
              have hRB5 := hRB3a.kept hB5
              have hRB6 := hRB5.kept (later_alloc w5 (.cells #[.int .i64 0, .int .i64 0] 80))
              have hze := Box.new w5 #[.int .i64 0, .int .i64 0] 80
              have z0 := hze.cell 0
              go_wp2_with (go_at_call 77; go_must (refine (HBAD.out _).mono ?_; rintro e w6 ⟨rfl, hB6⟩; have hRB7 := hRB6.kept hB6; obtain ⟨⟨p0, p1, p2, p3⟩, ⟨q0, q1, q2, q3⟩⟩ := hRB7.x0.set4; have r0 := hRB7.x1.cell 0; have r1 := hRB7.x1.cell 1; have s0 := hRB7.x1.free 0; have s1 := hRB7.x1.free 1))
              obtain ⟨hE0, hE1, hE2⟩ := two_ends hRB7.x0 hRB7.x1 hRB7.below (.int .u64 0) (.int .u64 0) (.int .u64 0) (.int .u64 0) (.int .i64 15) (.int .i64 j)
              have hzz := setC_zero
              exact ret_box_tmp_box Tryz.results49 rfl rfl rfl hE0 hE1 Tryz.underlying43 rfl (by kernel_rfl) Tryz.underlying80 rfl (by kernel_rfl) rfl ⟨by rw [HA.out]; unfold finR retR setV badV; rw [hzz]; rfl, hE2⟩
            · have HQ := Lib.hid (hQ.step hg hjl (by omega) (itemR_two hc h45 hc2 hlt))
              have e3 : decide ((hi : Int) < (lo : Int)) = false := by simp; omega
              have hkn : k ≤ n := by rw [HLEN.out]; exact hk
              clear hQ hc hc2 hrelB h hH45 h45
              go_wp2_with fail
              refine (HCH.out _ hRB.below).mono ?_
              rintro e w3 ⟨rfl, hB3⟩
              have hRB2 := hRB.kept hB3
              have hRB3a := hRB2.kept (later_alloc w3 (.cells #[.int .i64 0, .int .i64 0] 80))
              have hye := Box.new w3 #[.int .i64 0, .int .i64 0] 80
              have y0 := hye.cell 0
              go_wp2_with fail
              refine (H45.out _ hRB3a.below).mono ?_
              rintro e w4 ⟨rfl, rfl⟩
              go_wp2_with fail
              refine (HCH2.out _ hRB3a.below).mono ?_
              rintro e w5 ⟨rfl, hB5⟩
              have hRB5 := hRB3a.kept hB5
              have hRB3 := hRB5.kept (later_alloc w5 (.cells #[.int .i64 0, .int .i64 0] 80))
              have hze := Box.new w5 #[.int .i64 0, .int .i64 0] 80
              have z0 := hze.cell 0
              go_wp2_with fail
              have HF : Hid (∀ v, Later (w5.alloc (.cells #[.int .i64 0, .int .i64 0] 80)).drew v → RB w v s) := Lib.hid fun v hl => (hRB3.kept (Below.refl _ _).drew).kept hl
              have HSP : Hid (∀ w1, Calls Tryz.prog 80 #[.int .i64 lo, .int .i64 hi] w1 (Ret w1 (setV (spanS lo hi)))) := Lib.hid fun w1 => ref_Span lo hi w1 hhi
              have HTW : Hid (∀ w1, Calls Tryz.prog 79 #[setV s, setV (spanS lo hi), .int .i64 0] w1 (Ret w1 (setV (s ||| spanS lo hi)))) := Lib.hid fun w1 => by have := ref_Two0 s (spanS lo hi) w1; rwa [twoS_or] at this
              generalize spanS lo hi = sp at *
              have hwl : IntKind.i64.wrap (lo : Int) = (lo : Int) := IntWalk.i64_in _ (by omega)
              have hwh : IntKind.i64.wrap (hi : Int) = (hi : Int) := IntWalk.i64_in _ (by omega)
              refine wp_region_M (R := Later) 7 (by kernel_rfl) ?_
              refine tkM 0 ?_ rfl (fun w1 hl => ?_) ?_
              rotate_left
              · obtain ⟨⟨c0, c1, c2, c3⟩, _⟩ := (HF.out w1 hl).x2.set4; go_simp; try with_reducible rfl
              simp only [eA, eB, Act.put, eD, eE, eF]
              refine tkM 1 ?_ rfl (fun w1 hl => ?_) ?_
              rotate_left
              · obtain ⟨⟨c0, c1, c2, c3⟩, _⟩ := (HF.out w1 hl).x2.set4; go_simp; try with_reducible rfl
              simp only [eA, eB, eC, Act.put, eD, eE, eF]
              refine tkM 2 ?_ rfl (fun w1 hl => ?_) ?_
              rotate_left
              · obtain ⟨⟨c0, c1, c2, c3⟩, _⟩ := (HF.out w1 hl).x2.set4; go_simp; try with_reducible rfl
              simp only [eA, eB, eC, Act.put, eD, eE, eF]
              refine tkM 3 ?_ rfl (fun w1 hl => ?_) ?_
              rotate_left
              · obtain ⟨⟨c0, c1, c2, c3⟩, _⟩ := (HF.out w1 hl).x2.set4; go_simp; try with_reducible rfl
              simp only [eA, eB, eC, Act.put, eD, eE, eF]
              refine tkM 4 ?_ rfl (fun w1 hl => ?_) ?_
              rotate_left
              · obtain ⟨⟨c0, c1, c2, c3⟩, _⟩ := (HF.out w1 hl).x2.set4; go_simp; try with_reducible rfl
              simp only [eA, eB, eC, Act.put, eD, eE, eF]
              refine wpM_call (t := 7) (i := 5) (f := ?_) (args := ?_) (v := ?_) rfl (by kernel_rfl) (by kernel_rfl) (by kernel_rfl) (by kernel_rfl) (fun _ _ _ h => h) (by rfl) (fun w1 => ?_) (fun w1 hl => ?_) ?_
              rotate_left 4
              · exact HSP.out w1
              rotate_left
              · go_simp
              simp only [eA, eB, eC, Act.put, eD, eE, eF]
              refine wpM_call (t := 7) (i := 6) (f := ?_) (args := ?_) (v := ?_) rfl (by kernel_rfl) (by kernel_rfl) (by kernel_rfl) (by kernel_rfl) (fun _ _ _ h => h) (by rfl) (fun w1 => ?_) (fun w1 hl => ?_) ?_
              rotate_left 4
              · exact HTW.out w1
              rotate_left
              · go_simp
              simp only [eA, eB, eC, Act.put, eD, eE, eF]
              refine wpM_one (t := 7) (i := 7) (by kernel_rfl) rfl (fun w1 hl K hK => ?_)
              have hR7 := HF.out w1 hl
              obtain ⟨⟨c0, c1, c2, c3⟩, ⟨f0, f1, f2, f3⟩⟩ := hR7.x2.set4
              go_simp
              refine hK.out _ _ (fun h => absurd rfl h) ?_
              clear hK K
              refine wpM_done (by kernel_rfl) (fun w1 hl => ?_) _
              have hR8 := (hR7.store (s ||| sp)).kept hl
              go_wp2
              go_roundw
              case rel => exact ⟨it + 1, k, s ||| sp, by go_num, by go_num, by omega, by omega, HQ.out, hR8⟩
              case measure => simp [intOf]; omega
    · have ei : ((it : Int) == 0) = false := by simp; omega
      have h93 : ∀ w1, Below w.heap.size w w1 → Calls Tryz.prog 76 #[.slice (some ⟨g, 0, none⟩) n cap, .int .i64 j, .int .u8 93] w1 (RetSame w1 (.bool (hereB l j 93))) := fun w1 hb => ref04_has g n cap j l 93 w1 (h.kept hb)
      cases hh : hereB l j 93 with
      | false =>
        have hg : it = 0 ∨ hereB l j 93 = false := .inr hh
        rw [hh] at h93
        have H93 := Lib.hid h93
        clear h93
        cases hc : charR l 0 j with
        | inl q =>
          obtain ⟨kd, ps⟩ := q
          have hkd := charR_ne hc
          have HA := Lib.hid (hQ.err hg hjl (itemR_e1 hc))
          have HCH := Lib.hid (HCHAR.out j)
          rw [hc] at HCH
          unfold retE badV at HCH
          have e1 : ((kd : Int) == 0) = false := by simp; omega
          have e2 : ((kd : Int) != 0) = true := by simp; omega
          clear hQ hc hkd hrelB h
          go_wp2_with fail
          refine (H93.out _ hRB.below).mono ?_
          rintro e w2 ⟨rfl, rfl⟩
          go_wp2_with fail
          refine (HCH.out _ hRB.below).mono ?_
          rintro e w3 ⟨rfl, hB3⟩
          have hRB2 := hRB.kept hB3
          have hye := Box.new w3 #[.int .i64 kd, .int .i64 ps] 80
          have y0 := hye.cell 0
          have hRB3 := hRB2
          go_wp2_with fail
          have hRE := hRB2.err kd ps
          have HF : Hid (∀ v, Turns w.heap.size 43 (setC 0) (w3.alloc (.cells #[.int .i64 kd, .int .i64 ps] 80)).drew v → RE w v _ kd ps) := Lib.hid fun v hl => hRE.turn (by have := hRB3.below.size; have := hRB3.x2.lt; omega) (relTurns _ _ _ |>.later _ _ (Below.refl _ _).drew |> fun h0 => (relTurns _ _ _).trans _ _ _ h0 hl)
          refine wp_region_M (R := Turns w.heap.size 43 (setC 0)) 4 (by kernel_rfl) ?_
          refine tkM 0 ?_ rfl (fun w1 hl => ?_) ?_
          rotate_left
          · have y0 := (HF.out w1 hl).xe.cell 0; have y1 := (HF.out w1 hl).xe.cell 1; go_simp; try with_reducible rfl
          simp only [eA, eB, Act.put, eD, eE, eF]
          refine tkM 1 ?_ rfl (fun w1 hl => ?_) ?_
          rotate_left
          · have y0 := (HF.out w1 hl).xe.cell 0; have y1 := (HF.out w1 hl).xe.cell 1; go_simp; try with_reducible rfl
          simp only [eA, eB, eC, Act.put, eD, eE, eF]
          refine wpM_one (t := 4) (i := 2) (by kernel_rfl) rfl (fun w1 hl K hK => ?_)
          have hu := (HF.out w1 hl).x0
          obtain ⟨⟨c0, c1, c2, c3⟩, ⟨f0, f1, f2, f3⟩⟩ := hu.set4
          go_simp
          have hT5 := turns_store4 (v0 := .int .u64 0) (v1 := .int .u64 0) (v2 := .int .u64 0) (v3 := .int .u64 0) hu rfl
          have hX5 := hu.store4 rfl (.int .u64 0) (.int .u64 0) (.int .u64 0) (.int .u64 0)
          rw [← setC_zero] at hT5 hX5
          have hl5 := (relTurns _ _ _).trans _ _ _ hl hT5
          refine hK.out _ _ (fun _ => hT5) ?_
          clear hK K c0 c1 c2 c3 f0 f1 f2 f3 hu hl hT5
          refine tkM 3 ?_ rfl (fun w1 hl => ?_) ?_
          rotate_left
          · skip; go_simp; try with_reducible rfl
          simp only [eA, eB, eC, Act.put, eD, eE, eF]
          refine wpM_one (t := 4) (i := 4) (by kernel_rfl) rfl (fun w1 hl K hK => ?_)
          have hT7 := HF.out w1 ((relTurns _ _ _).trans _ _ _ hl5 hl)
          have hX7 := hl.fin hX5
          have r0 := hT7.x1.cell 0
          have r1 := hT7.x1.cell 1
          have s0 := hT7.x1.free 0
          have s1 := hT7.x1.free 1
          go_simp
          refine hK.out _ _ (fun h => absurd rfl h) ?_
          clear hK K
          refine wpM_done (by kernel_rfl) (fun w1 hl => ?_) _
          have hE0 := hl.fin ((hX7.other ⟨w.heap.size + 1, 0, none⟩ (.int .i64 kd) (by simp)).other ⟨w.heap.size + 1, 1, none⟩ (.int .i64 ps) (by simp))
          have hE1 := hl.keep.box (by show ¬ _; omega) ((hT7.x1.set 0 (.int .i64 kd)).set 1 (.int .i64 ps))
          have hE2 := ((hT7.below.setCell (p := ⟨w.heap.size + 1, 0, none⟩) (by simp) (.int .i64 kd)).setCell (p := ⟨w.heap.size + 1, 1, none⟩) (by simp) (.int .i64 ps)).trans (hl.low (by simpa [World.setCell] using hT7.below.size))
          go_wp2
          exact ret_box_tmp_box Tryz.results49 rfl rfl rfl hE0 hE1 Tryz.underlying43 rfl (by kernel_rfl) Tryz.underlying80 rfl (by kernel_rfl) rfl ⟨by rw [HA.out]; rfl, hE2⟩
        | inr q =>
          obtain ⟨lo, j1⟩ := q
          obtain ⟨hj1, hlo⟩ := charR_le hc
          have hup := charR_up hc
          have HCH := Lib.hid (HCHAR.out j)
          rw [hc] at HCH
          unfold retE badV at HCH
          have hH45 : ∀ w1, Below w.heap.size w w1 → Calls Tryz.prog 76 #[.slice (some ⟨g, 0, none⟩) n cap, .int .i64 j1, .int .u8 45] w1 (RetSame w1 (.bool (hereB l j1 45))) := fun w1 hb => ref04_has g n cap j1 l 45 w1 (h.kept hb)
          cases h45 : hereB l j1 45 with
          | false =>
            rw [h45] at hH45
            have H45 := Lib.hid hH45
            have HQ := Lib.hid (hQ.step hg hjl hup (itemR_one hc h45))
            have hj1n : j1 ≤ n := by rw [HLEN.out]; exact hj1
            clear hQ hc hrelB h h45 hH45
            go_wp2_with fail
            refine (H93.out _ hRB.below).mono ?_
            rintro e w2 ⟨rfl, rfl⟩
            go_wp2_with fail
            refine (HCH.out _ hRB.below).mono ?_
            rintro e w3 ⟨rfl, hB3⟩
            have hRB2 := hRB.kept hB3
            have hRB3 := hRB2.kept (later_alloc w3 (.cells #[.int .i64 0, .int .i64 0] 80))
            have hye := Box.new w3 #[.int .i64 0, .int .i64 0] 80
            have y0 := hye.cell 0
            go_wp2_with fail
            refine (H45.out _ hRB3.below).mono ?_
            rintro e w4 ⟨rfl, rfl⟩
            go_wp2_with fail
            have HF : Hid (∀ v, Later (w3.alloc (.cells #[.int .i64 0, .int .i64 0] 80)).drew v → RB w v s) := Lib.hid fun v hl => (hRB3.kept (Below.refl _ _).drew).kept hl
            have HSP : Hid (∀ w1, Calls Tryz.prog 80 #[.int .i64 lo, .int .i64 lo] w1 (Ret w1 (setV (spanS lo lo)))) := Lib.hid fun w1 => ref_Span lo lo w1 hlo
            have HTW : Hid (∀ w1, Calls Tryz.prog 79 #[setV s, setV (spanS lo lo), .int .i64 0] w1 (Ret w1 (setV (s ||| spanS lo lo)))) := Lib.hid fun w1 => by have := ref_Two0 s (spanS lo lo) w1; rwa [twoS_or] at this
            generalize spanS lo lo = sp at *
            have hwl : IntKind.i64.wrap (lo : Int) = (lo : Int) := IntWalk.i64_in _ (by omega)
            refine wp_region_M (R := Later) 7 (by kernel_rfl) ?_
            refine tkM 0 ?_ rfl (fun w1 hl => ?_) ?_
            rotate_left
            · obtain ⟨⟨c0, c1, c2, c3⟩, _⟩ := (HF.out w1 hl).x2.set4; go_simp; try with_reducible rfl
            simp only [eA, eB, Act.put, eD, eE, eF]
            refine tkM 1 ?_ rfl (fun w1 hl => ?_) ?_
            rotate_left
            · obtain ⟨⟨c0, c1, c2, c3⟩, _⟩ := (HF.out w1 hl).x2.set4; go_simp; try with_reducible rfl
            simp only [eA, eB, eC, Act.put, eD, eE, eF]
            refine tkM 2 ?_ rfl (fun w1 hl => ?_) ?_
            rotate_left
            · obtain ⟨⟨c0, c1, c2, c3⟩, _⟩ := (HF.out w1 hl).x2.set4; go_simp; try with_reducible rfl
            simp only [eA, eB, eC, Act.put, eD, eE, eF]
            refine tkM 3 ?_ rfl (fun w1 hl => ?_) ?_
            rotate_left
            · obtain ⟨⟨c0, c1, c2, c3⟩, _⟩ := (HF.out w1 hl).x2.set4; go_simp; try with_reducible rfl
            simp only [eA, eB, eC, Act.put, eD, eE, eF]
            refine tkM 4 ?_ rfl (fun w1 hl => ?_) ?_
            rotate_left
            · obtain ⟨⟨c0, c1, c2, c3⟩, _⟩ := (HF.out w1 hl).x2.set4; go_simp; try with_reducible rfl
            simp only [eA, eB, eC, Act.put, eD, eE, eF]
            refine wpM_call (t := 7) (i := 5) (f := ?_) (args := ?_) (v := ?_) rfl (by kernel_rfl) (by kernel_rfl) (by kernel_rfl) (by kernel_rfl) (fun _ _ _ h => h) (by rfl) (fun w1 => ?_) (fun w1 hl => ?_) ?_
            rotate_left 4
            · exact HSP.out w1
            rotate_left
            · go_simp
            simp only [eA, eB, eC, Act.put, eD, eE, eF]
            refine wpM_call (t := 7) (i := 6) (f := ?_) (args := ?_) (v := ?_) rfl (by kernel_rfl) (by kernel_rfl) (by kernel_rfl) (by kernel_rfl) (fun _ _ _ h => h) (by rfl) (fun w1 => ?_) (fun w1 hl => ?_) ?_
            rotate_left 4
            · exact HTW.out w1
            rotate_left
            · go_simp
            simp only [eA, eB, eC, Act.put, eD, eE, eF]
            refine wpM_one (t := 7) (i := 7) (by kernel_rfl) rfl (fun w1 hl K hK => ?_)
            have hR7 := HF.out w1 hl
            obtain ⟨⟨c0, c1, c2, c3⟩, ⟨f0, f1, f2, f3⟩⟩ := hR7.x2.set4
            go_simp
            refine hK.out _ _ (fun h => absurd rfl h) ?_
            clear hK K
            refine wpM_done (by kernel_rfl) (fun w1 hl => ?_) _
            have hR8 := (hR7.store (s ||| sp)).kept hl
            go_wp2
            go_roundw
            case rel => exact ⟨it + 1, j1, s ||| sp, by go_num, by go_num, by omega, by omega, HQ.out, hR8⟩
            case measure => simp [intOf]; omega
          | true =>
            rw [h45] at hH45
            have H45 := Lib.hid hH45
            have hj1n := hereB_lt h45
            have hcap2 : l.length ≤ 4611686018427387904 := hl6
            have hw1 : IntKind.i64.wrap ((j1 : Int) + 1) = ((j1 + 1 : Nat) : Int) := by rw [IntWalk.i64_in _ (by omega)]; omega
            have HCH2 : Hid (∀ w1, Below w.heap.size w w1 → Calls Tryz.prog 78 #[.slice (some ⟨g, 0, none⟩) n cap, .int .i64 ((j1 + 1 : Nat) : Int), .int .i64 0] w1 (Ret w1 (retE (charR l 0 (j1 + 1))))) := Lib.hid (HCHAR.out (j1 + 1))
            cases hc2 : charR l 0 (j1 + 1) with
            | inl q =>
              obtain ⟨kd, ps⟩ := q
              have hkd := charR_ne hc2
              have HA := Lib.hid (hQ.err hg hjl (itemR_e2 hc h45 hc2))
              rw [hc2] at HCH2
              unfold retE badV at HCH2
              have e1 : ((kd : Int) == 0) = false := by simp; omega
              have e2 : ((kd : Int) != 0) = true := by simp; omega
              clear hQ hc hc2 hkd hrelB h hH45 h45
              go_wp2_with fail
              refine (H93.out _ hRB.below).mono ?_
              rintro e w2 ⟨rfl, rfl⟩
              go_wp2_with fail
              refine (HCH.out _ hRB.below).mono ?_
              rintro e w3 ⟨rfl, hB3⟩
              have hRB2 := hRB.kept hB3
              have hRB3a := hRB2.kept (later_alloc w3 (.cells #[.int .i64 0, .int .i64 0] 80))
              have hye := Box.new w3 #[.int .i64 0, .int .i64 0] 80
              have y0 := hye.cell 0
              go_wp2_with fail
              refine (H45.out _ hRB3a.below).mono ?_
              rintro e w4 ⟨rfl, rfl⟩
              go_wp2_with fail
              refine (HCH2.out _ hRB3a.below).mono ?_
              rintro e w5 ⟨rfl, hB5⟩
              have hRB5 := hRB3a.kept hB5
              have hRB3 := hRB5
              have hze := Box.new w5 #[.int .i64 kd, .int .i64 ps] 80
              have z0 := hze.cell 0
              go_wp2_with fail
              have hRE := hRB5.err kd ps
              have HF : Hid (∀ v, Turns w.heap.size 43 (setC 0) (w5.alloc (.cells #[.int .i64 kd, .int .i64 ps] 80)).drew v → RE w v _ kd ps) := Lib.hid fun v hl => hRE.turn (by have := hRB3.below.size; have := hRB3.x2.lt; omega) (relTurns _ _ _ |>.later _ _ (Below.refl _ _).drew |> fun h0 => (relTurns _ _ _).trans _ _ _ h0 hl)
              refine wp_region_M (R := Turns w.heap.size 43 (setC 0)) 4 (by kernel_rfl) ?_
              refine tkM 0 ?_ rfl (fun w1 hl => ?_) ?_
              rotate_left
              · have y0 := (HF.out w1 hl).xe.cell 0; have y1 := (HF.out w1 hl).xe.cell 1; go_simp; try with_reducible rfl
              simp only [eA, eB, Act.put, eD, eE, eF]
              refine tkM 1 ?_ rfl (fun w1 hl => ?_) ?_
              rotate_left
              · have y0 := (HF.out w1 hl).xe.cell 0; have y1 := (HF.out w1 hl).xe.cell 1; go_simp; try with_reducible rfl
              simp only [eA, eB, eC, Act.put, eD, eE, eF]
              refine wpM_one (t := 4) (i := 2) (by kernel_rfl) rfl (fun w1 hl K hK => ?_)
              have hu := (HF.out w1 hl).x0
              obtain ⟨⟨c0, c1, c2, c3⟩, ⟨f0, f1, f2, f3⟩⟩ := hu.set4
              go_simp
              have hT5 := turns_store4 (v0 := .int .u64 0) (v1 := .int .u64 0) (v2 := .int .u64 0) (v3 := .int .u64 0) hu rfl
              have hX5 := hu.store4 rfl (.int .u64 0) (.int .u64 0) (.int .u64 0) (.int .u64 0)
              rw [← setC_zero] at hT5 hX5
              have hl5 := (relTurns _ _ _).trans _ _ _ hl hT5
              refine hK.out _ _ (fun _ => hT5) ?_
              clear hK K c0 c1 c2 c3 f0 f1 f2 f3 hu hl hT5
              refine tkM 3 ?_ rfl (fun w1 hl => ?_) ?_
              rotate_left
              · skip; go_simp; try with_reducible rfl
              simp only [eA, eB, eC, Act.put, eD, eE, eF]
              refine wpM_one (t := 4) (i := 4) (by kernel_rfl) rfl (fun w1 hl K hK => ?_)
              have hT7 := HF.out w1 ((relTurns _ _ _).trans _ _ _ hl5 hl)
              have hX7 := hl.fin hX5
              have r0 := hT7.x1.cell 0
              have r1 := hT7.x1.cell 1
              have s0 := hT7.x1.free 0
              have s1 := hT7.x1.free 1
              go_simp
              refine hK.out _ _ (fun h => absurd rfl h) ?_
              clear hK K
              refine wpM_done (by kernel_rfl) (fun w1 hl => ?_) _
              have hE0 := hl.fin ((hX7.other ⟨w.heap.size + 1, 0, none⟩ (.int .i64 kd) (by simp)).other ⟨w.heap.size + 1, 1, none⟩ (.int .i64 ps) (by simp))
              have hE1 := hl.keep.box (by show ¬ _; omega) ((hT7.x1.set 0 (.int .i64 kd)).set 1 (.int .i64 ps))
              have hE2 := ((hT7.below.setCell (p := ⟨w.heap.size + 1, 0, none⟩) (by simp) (.int .i64 kd)).setCell (p := ⟨w.heap.size + 1, 1, none⟩) (by simp) (.int .i64 ps)).trans (hl.low (by simpa [World.setCell] using hT7.below.size))
              go_wp2
              exact ret_box_tmp_box Tryz.results49 rfl rfl rfl hE0 hE1 Tryz.underlying43 rfl (by kernel_rfl) Tryz.underlying80 rfl (by kernel_rfl) rfl ⟨by rw [HA.out]; rfl, hE2⟩
            | inr q =>
              obtain ⟨hi, k⟩ := q
              obtain ⟨hk, hhi⟩ := charR_le hc2
              have hup2 := charR_up hc2
              rw [hc2] at HCH2
              unfold retE badV at HCH2
              by_cases hlt : hi < lo
              · have HA := Lib.hid (hQ.err hg hjl (itemR_e3 hc h45 hc2 hlt))
                have e3 : decide ((hi : Int) < (lo : Int)) = true := by simp; omega
                have HBAD := Lib.hid (fun w => ref04_bad 15 j w)
                clear hQ hc hc2 hrelB h hH45 h45
                go_wp2_with fail
                refine (H93.out _ hRB.below).mono ?_
                rintro e w2 ⟨rfl, rfl⟩
                go_wp2_with fail
                refine (HCH.out _ hRB.below).mono ?_
                rintro e w3 ⟨rfl, hB3⟩
                have hRB2 := hRB.kept hB3
                have hRB3a := hRB2.kept (later_alloc w3 (.cells #[.int .i64 0, .int .i64 0] 80))
                have hye := Box.new w3 #[.int .i64 0, .int .i64 0] 80
                have y0 := hye.cell 0
                go_wp2_with fail
                refine (H45.out _ hRB3a.below).mono ?_
                rintro e w4 ⟨rfl, rfl⟩
                go_wp2_with fail
                refine (HCH2.out _ hRB3a.below).mono ?_
                rintro e w5 ⟨rfl, hB5⟩
                have hRB5 := hRB3a.kept hB5
                have hRB6 := hRB5.kept (later_alloc w5 (.cells #[.int .i64 0, .int .i64 0] 80))
                have hze := Box.new w5 #[.int .i64 0, .int .i64 0] 80
                have z0 := hze.cell 0
                go_wp2_with (go_at_call 77; go_must (refine (HBAD.out _).mono ?_; rintro e w6 ⟨rfl, hB6⟩; have hRB7 := hRB6.kept hB6; obtain ⟨⟨p0, p1, p2, p3⟩, ⟨q0, q1, q2, q3⟩⟩ := hRB7.x0.set4; have r0 := hRB7.x1.cell 0; have r1 := hRB7.x1.cell 1; have s0 := hRB7.x1.free 0; have s1 := hRB7.x1.free 1))
                obtain ⟨hE0, hE1, hE2⟩ := two_ends hRB7.x0 hRB7.x1 hRB7.below (.int .u64 0) (.int .u64 0) (.int .u64 0) (.int .u64 0) (.int .i64 15) (.int .i64 j)
                have hzz := setC_zero
                exact ret_box_tmp_box Tryz.results49 rfl rfl rfl hE0 hE1 Tryz.underlying43 rfl (by kernel_rfl) Tryz.underlying80 rfl (by kernel_rfl) rfl ⟨by rw [HA.out]; unfold finR retR setV badV; rw [hzz]; rfl, hE2⟩
              · have HQ := Lib.hid (hQ.step hg hjl (by omega) (itemR_two hc h45 hc2 hlt))
                have e3 : decide ((hi : Int) < (lo : Int)) = false := by simp; omega
                have hkn : k ≤ n := by rw [HLEN.out]; exact hk
                clear hQ hc hc2 hrelB h hH45 h45
                go_wp2_with fail
                refine (H93.out _ hRB.below).mono ?_
                rintro e w2 ⟨rfl, rfl⟩
                go_wp2_with fail
                refine (HCH.out _ hRB.below).mono ?_
                rintro e w3 ⟨rfl, hB3⟩
                have hRB2 := hRB.kept hB3
                have hRB3a := hRB2.kept (later_alloc w3 (.cells #[.int .i64 0, .int .i64 0] 80))
                have hye := Box.new w3 #[.int .i64 0, .int .i64 0] 80
                have y0 := hye.cell 0
                go_wp2_with fail
                refine (H45.out _ hRB3a.below).mono ?_
                rintro e w4 ⟨rfl, rfl⟩
                go_wp2_with fail
                refine (HCH2.out _ hRB3a.below).mono ?_
                rintro e w5 ⟨rfl, hB5⟩
                have hRB5 := hRB3a.kept hB5
                have hRB3 := hRB5.kept (later_alloc w5 (.cells #[.int .i64 0, .int .i64 0] 80))
                have hze := Box.new w5 #[.int .i64 0, .int .i64 0] 80
                have z0 := hze.cell 0
                go_wp2_with fail
                have HF : Hid (∀ v, Later (w5.alloc (.cells #[.int .i64 0, .int .i64 0] 80)).drew v → RB w v s) := Lib.hid fun v hl => (hRB3.kept (Below.refl _ _).drew).kept hl
                have HSP : Hid (∀ w1, Calls Tryz.prog 80 #[.int .i64 lo, .int .i64 hi] w1 (Ret w1 (setV (spanS lo hi)))) := Lib.hid fun w1 => ref_Span lo hi w1 hhi
                have HTW : Hid (∀ w1, Calls Tryz.prog 79 #[setV s, setV (spanS lo hi), .int .i64 0] w1 (Ret w1 (setV (s ||| spanS lo hi)))) := Lib.hid fun w1 => by have := ref_Two0 s (spanS lo hi) w1; rwa [twoS_or] at this
                generalize spanS lo hi = sp at *
                have hwl : IntKind.i64.wrap (lo : Int) = (lo : Int) := IntWalk.i64_in _ (by omega)
                have hwh : IntKind.i64.wrap (hi : Int) = (hi : Int) := IntWalk.i64_in _ (by omega)
                refine wp_region_M (R := Later) 7 (by kernel_rfl) ?_
                refine tkM 0 ?_ rfl (fun w1 hl => ?_) ?_
                rotate_left
                · obtain ⟨⟨c0, c1, c2, c3⟩, _⟩ := (HF.out w1 hl).x2.set4; go_simp; try with_reducible rfl
                simp only [eA, eB, Act.put, eD, eE, eF]
                refine tkM 1 ?_ rfl (fun w1 hl => ?_) ?_
                rotate_left
                · obtain ⟨⟨c0, c1, c2, c3⟩, _⟩ := (HF.out w1 hl).x2.set4; go_simp; try with_reducible rfl
                simp only [eA, eB, eC, Act.put, eD, eE, eF]
                refine tkM 2 ?_ rfl (fun w1 hl => ?_) ?_
                rotate_left
                · obtain ⟨⟨c0, c1, c2, c3⟩, _⟩ := (HF.out w1 hl).x2.set4; go_simp; try with_reducible rfl
                simp only [eA, eB, eC, Act.put, eD, eE, eF]
                refine tkM 3 ?_ rfl (fun w1 hl => ?_) ?_
                rotate_left
                · obtain ⟨⟨c0, c1, c2, c3⟩, _⟩ := (HF.out w1 hl).x2.set4; go_simp; try with_reducible rfl
                simp only [eA, eB, eC, Act.put, eD, eE, eF]
                refine tkM 4 ?_ rfl (fun w1 hl => ?_) ?_
                rotate_left
                · obtain ⟨⟨c0, c1, c2, c3⟩, _⟩ := (HF.out w1 hl).x2.set4; go_simp; try with_reducible rfl
                simp only [eA, eB, eC, Act.put, eD, eE, eF]
                refine wpM_call (t := 7) (i := 5) (f := ?_) (args := ?_) (v := ?_) rfl (by kernel_rfl) (by kernel_rfl) (by kernel_rfl) (by kernel_rfl) (fun _ _ _ h => h) (by rfl) (fun w1 => ?_) (fun w1 hl => ?_) ?_
                rotate_left 4
                · exact HSP.out w1
                rotate_left
                · go_simp
                simp only [eA, eB, eC, Act.put, eD, eE, eF]
                refine wpM_call (t := 7) (i := 6) (f := ?_) (args := ?_) (v := ?_) rfl (by kernel_rfl) (by kernel_rfl) (by kernel_rfl) (by kernel_rfl) (fun _ _ _ h => h) (by rfl) (fun w1 => ?_) (fun w1 hl => ?_) ?_
                rotate_left 4
                · exact HTW.out w1
                rotate_left
                · go_simp
                simp only [eA, eB, eC, Act.put, eD, eE, eF]
                refine wpM_one (t := 7) (i := 7) (by kernel_rfl) rfl (fun w1 hl K hK => ?_)
                have hR7 := HF.out w1 hl
                obtain ⟨⟨c0, c1, c2, c3⟩, ⟨f0, f1, f2, f3⟩⟩ := hR7.x2.set4
                go_simp
                refine hK.out _ _ (fun h => absurd rfl h) ?_
                clear hK K
                refine wpM_done (by kernel_rfl) (fun w1 hl => ?_) _
                have hR8 := (hR7.store (s ||| sp)).kept hl
                go_wp2
                go_roundw
                case rel => exact ⟨it + 1, k, s ||| sp, by go_num, by go_num, by omega, by omega, HQ.out, hR8⟩
                case measure => simp [intOf]; omega
      | true =>
        rw [hh] at h93
        have H93 := Lib.hid h93
        have HA := Lib.hid (hQ.fin hit hjl hh)
        have hw1 : IntKind.i64.wrap ((j : Int) + 1) = ((j + 1 : Nat) : Int) := by rw [IntWalk.i64_in _ (by omega)]; omega
        obtain ⟨⟨c0, c1, c2, c3⟩, ⟨f0, f1, f2, f3⟩⟩ := hRB.x2.set4
        obtain ⟨⟨p0, p1, p2, p3⟩, ⟨q0, q1, q2, q3⟩⟩ := hRB.x0.set4
        have r0 := hRB.x1.cell 0
        have r1 := hRB.x1.cell 1
        have s0 := hRB.x1.free 0
        have s1 := hRB.x1.free 1
        clear h93 hQ hrelB h hh
        go_wp2_with fail
        refine (H93.out _ hRB.below).mono ?_
        rintro e w2 ⟨rfl, rfl⟩
        have HNOT := Lib.hid (fun w => ref_Not s w)
        go_wp2_with fail
        refine (HNOT.out _).mono ?_
        rintro e w3 ⟨rfl, hB3⟩
        have hRB3 := hRB.kept hB3
        have hRB4 := hRB3.store (~~~s)
        clear c0 c1 c2 c3 f0 f1 f2 f3 p0 p1 p2 p3 q0 q1 q2 q3 r0 r1 s0 s1
        have HU := Lib.hid (show finR true (.inr (s, j + 1)) = .inr (~~~s, j + 1) from rfl)
        generalize (~~~s : BSet) = u at *
        obtain ⟨⟨c0, c1, c2, c3⟩, ⟨f0, f1, f2, f3⟩⟩ := hRB3.x2.set4
        obtain ⟨⟨p0, p1, p2, p3⟩, ⟨q0, q1, q2, q3⟩⟩ := hRB3.x0.set4
        have r0 := hRB3.x1.cell 0
        have r1 := hRB3.x1.cell 1
        have s0 := hRB3.x1.free 0
        have s1 := hRB3.x1.free 1
        go_wp2
        obtain ⟨hE0, hE1, hE2⟩ := two_ends hRB4.x0 hRB4.x1 hRB4.below (.int .u64 (word u 0 : Nat)) (.int .u64 (word u 1 : Nat)) (.int .u64 (word u 2 : Nat)) (.int .u64 (word u 3 : Nat)) (.int .i64 0) (.int .i64 0)
        exact ret_box_tmp_box Tryz.results49 rfl rfl rfl hE0 hE1 Tryz.underlying43 rfl (by kernel_rfl) Tryz.underlying80 rfl (by kernel_rfl) rfl ⟨by rw [HA.out, HU.out]; rfl, hE2⟩
theorem ref04_Read (g n cap : Nat) (l : List UInt8) (w : World) (h : SliceR w (.slice (some ⟨g, 0, none⟩) n cap) 1 encU l) (hl6 : l.length ≤ 4611686018427387904) :
    Calls Tryz.prog 49 #[.slice (some ⟨g, 0, none⟩) n cap, .int .i64 0] w (Ret w (retR (readR l))) := by
  cases h0 : hereB l 0 91 with
  | false => exact ref04_Read0 g n cap l w h h0
  | true =>
    cases ht : hereB l 1 94 with
    | false => exact ref04_Read1 g n cap l w h hl6 h0 ht
    | true => exact ref04_Read2 g n cap l w h hl6 h0 ht
end Go.Proofs.YtdhmekpgplajmaaGreatDoor
end
section
namespace Go.Proofs.YtdhmekpgplajmaaGreatDoor
open Go.RowKit
abbrev bs (l : List UInt8) : ByteArray := ⟨l.toArray⟩
theorem bs_inj {a b : List UInt8} (h : bs a = bs b) : a = b := by
  have := congrArg (fun s : ByteArray => s.data.toList) h
  simpa using this
def nameAt (l : List (List UInt8)) (i : Nat) : Bool := nameT (l.getD i []) && !((l.take i).contains (l.getD i []))
def namesTo (l : List (List UInt8)) (k : Nat) : Bool := (List.range k).all (nameAt l)
theorem namesTo_succ (l : List (List UInt8)) (k : Nat) : namesTo l (k + 1) = (namesTo l k && nameAt l k) := by
  unfold namesTo; rw [List.range_succ, List.all_append]; simp
theorem namesTo_false (l : List (List UInt8)) (k n : Nat) (hk : k < n) (h : nameAt l k = false) : namesTo l n = false := by
  unfold namesTo
  rw [List.all_eq_false]
  exact ⟨k, by simpa using hk, by simp [h]⟩
/-- May names be? -/
def namesOK (l : List (List UInt8)) : Bool := decide (l.length ≤ 64) && namesTo l l.length
theorem contains_bs (l : List (List UInt8)) (s : List UInt8) : Lib.containsS (l.map bs) (bs s) = l.contains s := by
  rw [Bool.eq_iff_iff, Lib.containsS_iff, List.contains_iff_mem, List.mem_map]
  exact ⟨fun ⟨x, hx, he⟩ => bs_inj he ▸ hx, fun h => ⟨s, h, rfl⟩⟩
set_option maxHeartbeats 800000 in
theorem dfa_names (a : Option Addr) (cap n : Nat) (l : List (List UInt8)) (w : World) (h : SliceR w (.slice a n cap) 1 encT l) (hl : ∀ x ∈ l, x.length ≤ 9223372036854775807) :
    Calls Tryz.prog 55 #[.slice a n cap] w (Ret w (.bool (namesOK l))) := by
  obtain ⟨b, o, hlen, hcap, hcap', ha, hcell⟩ := h.cells1
  have hnn : n ≤ 9223372036854775807 := by omega
  have e : namesOK l = (decide (n ≤ 64) && namesTo l n) := by rw [hlen]; rfl
  rw [e]
  by_cases h64 : 64 < n
  · have e1 : decide (n ≤ 64) = false := by simp; omega
    rw [e1]
    have h64' : (64 : Int) < (n : Int) := by omega
    clear hlen hcell ha h e e1
    go_enter Tryz.func55, Tryz.ntmps55
    go_wp2
    go_ret
    exact ⟨rfl, Below.refl _ _⟩
  · have e1 : decide (n ≤ 64) = true := by simp; omega
    rw [e1, Bool.true_and]
    have hd64 : decide ((64 : Int) < (n : Int)) = false := by simp; omega
    have HC := Lib.hid hcell
    have HL := Lib.hid hlen
    have HA := Lib.hid ha
    have HLL := Lib.hid hl
    clear hlen hcell ha h e e1 hl
    go_enter Tryz.func55, Tryz.ntmps55
    go_wp2
    go_loopw [10] (fun i wr => ∃ k : Nat, k ≤ n ∧ i = .int .i64 k ∧ namesTo l k = true ∧ Below w.heap.size w wr) (fun i _ => n - (intOf i).toNat)
    case atStart => exact ⟨0, Nat.zero_le _, rfl, rfl, Below.refl _ _⟩
    case round =>
      obtain ⟨k, hk, rfl, hok, hB⟩ := hrel
      by_cases hlt : k < n
      · have hk2 : k < l.length := by rw [← HL.out]; exact hlt
        obtain rfl := HA.out k hk2
        have c0 := HC.out k hk2 wr hB
        have hnm := fun w => spec_Name l[k] w (HLL.out _ (List.getElem_mem hk2))
        have hnx : nameAt l k = (nameT l[k] && !((l.take k).contains l[k])) := by
          unfold nameAt; rw [List.getD_eq_getElem?_getD, List.getElem?_eq_getElem hk2]; rfl
        have hsucc := namesTo_succ l k
        rw [hok, Bool.true_and] at hsucc
        have hfalse := namesTo_false l k n hlt
        have hcon : ∀ w2, Below w.heap.size w w2 → Calls Tryz.prog 84 #[.slice (some ⟨b, o, none⟩) k cap, sv l[k]] w2 (fun e w' => e = .returned (.bool ((l.take k).contains l[k])) ∧ w' = w2) := fun w2 h2 => by
          have := Tryz.slices_Contains_string b o k cap (l.map bs) (bs l[k]) w2 (by rw [List.length_map]; omega) (by omega) (fun j hj => by
            rw [List.length_map] at hj
            have := HC.out j hj w2 h2
            rw [this, List.getD_eq_getElem?_getD, List.getElem?_map, List.getElem?_eq_getElem hj]; rfl)
          rw [← List.map_take, contains_bs] at this
          exact this
        generalize l[k] = s at *
        have HNM := Lib.hid hnm
        have HCO := Lib.hid hcon
        have HSU := Lib.hid hsucc
        have HFA := Lib.hid hfalse
        have hk0 : (0 : Int) ≤ (k : Int) := by omega
        have hkm : (k : Int) < (n : Int) := by omega
        have hkc : (k : Int) ≤ (cap : Int) := by omega
        clear hnm hcon hsucc hfalse hok
        generalize (l.take k).contains s = q at *
        cases hn : nameT s with
        | true =>
          rw [hn] at HNM hnx
          cases q with
          | true =>
            have hx : nameAt l k = false := hnx
            have HX := Lib.hid hx
            clear hx hnx hn
            go_wp2_with (first | (go_at_call 83; go_must (refine (HNM.out _).mono ?_; rintro e w1 ⟨rfl, hB1⟩; have hB2 := hB.trans (hB1.mono hB.size))) | (go_at_call 84; go_must (refine (HCO.out _ hB2).mono ?_; rintro e w3 ⟨rfl, rfl⟩)))
            go_ret
            exact ⟨by rw [HFA.out HX.out]; rfl, hB2⟩
          | false =>
            have hx : nameAt l k = true := hnx
            have HX := Lib.hid hx
            clear hx hnx hn
            go_wp2_with (first | (go_at_call 83; go_must (refine (HNM.out _).mono ?_; rintro e w1 ⟨rfl, hB1⟩; have hB2 := hB.trans (hB1.mono hB.size))) | (go_at_call 84; go_must (refine (HCO.out _ hB2).mono ?_; rintro e w3 ⟨rfl, rfl⟩)))
            go_roundw
            case rel => exact ⟨k + 1, hlt, by go_num, by rw [HSU.out, HX.out], hB2⟩
            case measure => simp [intOf]; omega
        | false =>
          rw [hn] at HNM hnx
          have hx : nameAt l k = false := hnx
          have HX := Lib.hid hx
          clear hx hnx hn
          go_wp2_with (go_at_call 83; go_must (refine (HNM.out _).mono ?_; rintro e w1 ⟨rfl, hB1⟩; have hB2 := hB.trans (hB1.mono hB.size)))
          go_ret
          exact ⟨by rw [HFA.out HX.out]; rfl, hB2⟩
      · obtain rfl : k = n := by omega
        have HOK := Lib.hid hok
        clear hok
        go_wp2
        go_ret
        exact ⟨by rw [HOK.out]; rfl, hB⟩
end Go.Proofs.YtdhmekpgplajmaaGreatDoor
end
