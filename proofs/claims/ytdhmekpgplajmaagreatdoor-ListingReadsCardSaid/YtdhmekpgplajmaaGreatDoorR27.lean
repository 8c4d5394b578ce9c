/- Joined by tools/merge.py: RefSame, ListingReads. -/
import Derived.Test.YtdhmekpgplajmaaGreatDoorR24
import Derived.Test.YtdhmekpgplajmaaGreatDoorR8
import Derived.Test.YtdhmekpgplajmaaGreatDoorR26
import Derived.Test.YtdhmekpgplajmaaGreatDoorR20
import Derived.Test.YtdhmekpgplajmaaGreatDoorR6
import Derived.ProofKit
import Derived.Test.YtdhmekpgplajmaaGreatDoorR19x
section
namespace Go.Proofs.YtdhmekpgplajmaaGreatDoor
open Go.RowKit
set_option maxRecDepth 20000 in
set_option maxHeartbeats 3200000 in
theorem ref20_Same (V U : VDfa) (D E : PDfa) (w : World) (h : ReadsD w V D) (h2 : ReadsD w U E) : Calls Tryz.prog 8 #[.agg V.cells, .agg U.cells] w (Ret w (.bool (sameD D E))) := by
  have hx1 : Box ((w.alloc (.cells V.cells 28)).alloc (.cells U.cells 28)) w.heap.size V.cells 28 := (Box.new' rfl _ _).alloc _
  have hx2 : Box ((w.alloc (.cells V.cells 28)).alloc (.cells U.cells 28)) (w.heap.size + 1) U.cells 28 := Box.new' (by simp) _ _
  have hb0 : Below w.heap.size w ((w.alloc (.cells V.cells 28)).alloc (.cells U.cells 28)) := ((Below.refl _ w).alloc (Nat.le_refl _) _).alloc (by simp) _
  have hq := fun w => run_eq256 (P := Tryz.prog) (t := 23) (e := 5) Tryz.underlying23 Tryz.underlying5 (by kernel_rfl) V.of U.of w
  obtain ⟨x0, x1, x2, x3⟩ := hx1.dfa
  obtain ⟨y0, y1, y2, y3⟩ := hx2.dfa
  obtain ⟨g0, g1, g3, g4, rows, g5, g6, g7⟩ := h
  obtain ⟨k0, k1, k3, k4, rows2, k5, k6, k7⟩ := h2
  have hL := fun w1 hb => ref17_Same _ _ _ _ _ _ _ _ w1 (g3.kept (w' := w1) hb) (k3.kept hb)
  have hN := fun w1 hb => ref20_Texts _ _ _ _ _ _ _ _ w1 (g4.kept (w' := w1) hb) (k4.kept hb)
  obtain ⟨b5, o5, e5, c5, c5', a5, d5⟩ := g5.cells1
  obtain ⟨b6, o6, e6, c6, c6', a6, d6⟩ := k5.cells1
  have hn63 : V.nn ≤ 9223372036854775807 := by omega
  have hm63 : U.nn ≤ 9223372036854775807 := by omega
  have hsd : sameD D E = (sameArr V.of U.of && ((V.width == U.width) && (D.label == E.label && (D.names == E.names && D.next == E.next)))) := by unfold sameD; rw [g0, k0, g1, k1]
  rw [hsd]
  have HL := Lib.hid hL
  have HN := Lib.hid hN
  have HE := Lib.hid (And.intro e5 (And.intro e6 (And.intro g6 k6)))
  have G7 := Lib.hid g7
  have K7 := Lib.hid k7
  have D5 := Lib.hid d5
  have D6 := Lib.hid d6
  have A5 := Lib.hid a5
  have A6 := Lib.hid a6
  clear hsd hL hN g0 g1 g3 g4 g5 g6 g7 k0 k1 k3 k4 k5 k6 k7 c5 c5' c6 c6' e5 e6 d5 d6 a5 a6
  generalize sameArr V.of U.of = p0 at *
  generalize (D.label == E.label) = p2 at *
  generalize (D.names == E.names) = p3 at *
  cases p0 with
  | false =>
    go_enter Tryz.func8, Tryz.ntmps8
    go_wp2_with (first | (refine wpList_load_of (by rfl) 23 (.tmp 6) rfl w.heap.size rfl hx1 Tryz.underlying23 rfl (size_256 _) ?_) | (refine wpList_load_of (by rfl) 23 (.tmp 8) rfl (w.heap.size + 1) rfl hx2 Tryz.underlying23 rfl (size_256 _) ?_))
    go_ret
    exact ⟨rfl, hb0⟩
  | true =>
    cases hp1 : (V.width == U.width) with
    | false =>
      have q2 : (V.width != U.width) = true := by simpa [bne] using hp1
      go_enter Tryz.func8, Tryz.ntmps8
      go_wp2_with (first | (refine wpList_load_of (by rfl) 23 (.tmp 6) rfl w.heap.size rfl hx1 Tryz.underlying23 rfl (size_256 _) ?_) | (refine wpList_load_of (by rfl) 23 (.tmp 8) rfl (w.heap.size + 1) rfl hx2 Tryz.underlying23 rfl (size_256 _) ?_))
      go_ret
      exact ⟨rfl, hb0⟩
    | true =>
      have q2 : (V.width != U.width) = false := by simpa [bne] using hp1
      by_cases hl : V.nn = U.nn
      · have q1 : ((V.nn : Int) != (U.nn : Int)) = false := by rw [hl]; simp
        cases p2 with
        | false =>
          go_enter Tryz.func8, Tryz.ntmps8
          go_wp2_with (first | (refine wpList_load_of (by rfl) 23 (.tmp 6) rfl w.heap.size rfl hx1 Tryz.underlying23 rfl (size_256 _) ?_) | (refine wpList_load_of (by rfl) 23 (.tmp 8) rfl (w.heap.size + 1) rfl hx2 Tryz.underlying23 rfl (size_256 _) ?_) | (go_at_call 24; go_must (refine (HL.out _ hb0).mono ?_; rintro e w3 ⟨rfl, hB3⟩; have hb3 := hb0.trans (hB3.mono hb0.size); have hx13 := hx1.kept hB3; have hx23 := hx2.kept hB3; obtain ⟨x0, x1, x2, x3⟩ := hx13.dfa; obtain ⟨y0, y1, y2, y3⟩ := hx23.dfa)))
          go_ret
          exact ⟨rfl, hb3⟩
        | true =>
          cases p3 with
          | false =>
            go_enter Tryz.func8, Tryz.ntmps8
            go_wp2_with (first | (refine wpList_load_of (by rfl) 23 (.tmp 6) rfl w.heap.size rfl hx1 Tryz.underlying23 rfl (size_256 _) ?_) | (refine wpList_load_of (by rfl) 23 (.tmp 8) rfl (w.heap.size + 1) rfl hx2 Tryz.underlying23 rfl (size_256 _) ?_) | (go_at_call 24; go_must (refine (HL.out _ hb0).mono ?_; rintro e w3 ⟨rfl, hB3⟩; have hb3 := hb0.trans (hB3.mono hb0.size); have hx13 := hx1.kept hB3; have hx23 := hx2.kept hB3; obtain ⟨x0, x1, x2, x3⟩ := hx13.dfa; obtain ⟨y0, y1, y2, y3⟩ := hx23.dfa)) | (go_at_call 25; go_must (refine (HN.out _ hb3).mono ?_; rintro e w4 ⟨rfl, hB4⟩; have hb4 := hb3.trans (hB4.mono hb3.size); have hx14 := hx13.kept hB4; have hx24 := hx23.kept hB4; obtain ⟨x0, x1, x2, x3⟩ := hx14.dfa; obtain ⟨y0, y1, y2, y3⟩ := hx24.dfa)))
            go_ret
            exact ⟨rfl, hb4⟩
          | true =>
            have e0 : (true && (true && (true && (true && (D.next == E.next))))) = (D.next == E.next) := by simp
            rw [e0]
            clear e0
            go_enter Tryz.func8, Tryz.ntmps8
            go_wp2_with (first | (refine wpList_load_of (by rfl) 23 (.tmp 6) rfl w.heap.size rfl hx1 Tryz.underlying23 rfl (size_256 _) ?_) | (refine wpList_load_of (by rfl) 23 (.tmp 8) rfl (w.heap.size + 1) rfl hx2 Tryz.underlying23 rfl (size_256 _) ?_) | (go_at_call 24; go_must (refine (HL.out _ hb0).mono ?_; rintro e w3 ⟨rfl, hB3⟩; have hb3 := hb0.trans (hB3.mono hb0.size); have hx13 := hx1.kept hB3; have hx23 := hx2.kept hB3; obtain ⟨x0, x1, x2, x3⟩ := hx13.dfa; obtain ⟨y0, y1, y2, y3⟩ := hx23.dfa)) | (go_at_call 25; go_must (refine (HN.out _ hb3).mono ?_; rintro e w4 ⟨rfl, hB4⟩; have hb4 := hb3.trans (hB4.mono hb3.size); have hx14 := hx13.kept hB4; have hx24 := hx23.kept hB4; obtain ⟨x0, x1, x2, x3⟩ := hx14.dfa; obtain ⟨y0, y1, y2, y3⟩ := hx24.dfa)))
            clear x0 x1 x2 x3 y0 y1 y2 y3 hx1 hx2 hx13 hx23 hb0 hb3 hB3 hB4 HL HN
            go_loopw [5] (fun i wr => ∃ j : Nat, j ≤ V.nn ∧ i = .int .i64 j ∧ D.next.take j = E.next.take j ∧ Box wr w.heap.size V.cells 28 ∧ Box wr (w.heap.size + 1) U.cells 28 ∧ Below w.heap.size w wr) (fun i _ => V.nn - (intOf i).toNat)
            case atStart => exact ⟨0, Nat.zero_le _, rfl, rfl, hx14, hx24, hb4⟩
            case round =>
              clear hx14 hx24 hb4
              obtain ⟨j, hj, rfl, htk, hx, hy, hB⟩ := hrel
              obtain ⟨x0, x1, x2, x3⟩ := hx.dfa
              obtain ⟨y0, y1, y2, y3⟩ := hy.dfa
              by_cases hlt : j < V.nn
              · obtain ⟨e5, e6, g6, k6⟩ := HE.out
                have hdj : decide ((j : Int) < (V.nn : Int)) = true := decide_eq_true (by omega)
                have hjv : (j : Int) < (V.nn : Int) := by omega
                have hju : (j : Int) < (U.nn : Int) := by omega
                have hj0 : (0 : Int) ≤ (j : Int) := by omega
                have hna := A5.out j (by omega)
                have hua := A6.out j (by omega)
                have hc5 := D5.out j (by omega)
                have hc6 := D6.out j (by omega)
                obtain ⟨p1, r1, hv1, s1⟩ := G7.out j (by omega) (by omega)
                obtain ⟨p2, r2, hv2, s2⟩ := K7.out j (by omega) (by omega)
                rw [hv1] at hc5
                rw [hv2] at hc6
                have hsm := fun w1 hb => ref17_Same p1 p2 r1 r2 _ _ D.next[j] E.next[j] w1 (s1.kept (w' := w1) hb) (s2.kept hb)
                have hst : D.next[j] = E.next[j] → D.next.take (j + 1) = E.next.take (j + 1) := fun he => take_eq_stepG htk (by omega) (by omega) he
                have hne : D.next[j] ≠ E.next[j] → (D.next == E.next) = false := fun he => beq_eq_false_iff_ne.2 (fun h => he (List.getElem_of_eq h _))
                have HSM := Lib.hid hsm
                have HST := Lib.hid hst
                have HNE := Lib.hid hne
                clear hsm hst hne hv1 hv2 s1 s2
                generalize D.next[j] = p at *
                generalize E.next[j] = q at *
                have hws := hB.size
                have HF : Hid (∀ v, Later wr.drew v → Box v w.heap.size V.cells 28 ∧ Box v (w.heap.size + 1) U.cells 28 ∧ v.cell? ⟨b5, o5 + j, none⟩ = some (.slice p1 p.length r1) ∧ v.cell? ⟨b6, o6 + j, none⟩ = some (.slice p2 q.length r2) ∧ Below w.heap.size w v) := Lib.hid fun v hl =>
                  have hB2 := hB.trans ((Below.refl _ wr).drew.trans hl |>.mono hws)
                  ⟨hx.drew.kept hl, hy.drew.kept hl, hc5 v hB2, hc6 v hB2, hB2⟩
                clear hc5 hc6 e5 e6 g6 k6
                cases hpq : (p == q) with
                | true =>
                  rw [hpq] at HSM
                  have HX := Lib.hid (beq_iff_eq.1 hpq)
                  clear hpq hx hy
                  go_wp2_with fail
                  refine wp_region_M (R := Later) 12 (by kernel_rfl) ?_
                  refine tkM 0 ?_ rfl (fun w1 hl => ?_) ?_
                  rotate_left
                  · obtain ⟨hbx, hby, c5, c6, _⟩ := HF.out w1 hl; obtain ⟨x0, x1, x2, x3⟩ := hbx.dfa; obtain ⟨y0, y1, y2, y3⟩ := hby.dfa; rw [hna] at x1; rw [hua] at y1; go_simp; try with_reducible rfl
                  simp only [eA, eB, Act.put, eD, eE, eF]
                  refine tkM 1 ?_ rfl (fun w1 hl => ?_) ?_
                  rotate_left
                  · obtain ⟨hbx, hby, c5, c6, _⟩ := HF.out w1 hl; obtain ⟨x0, x1, x2, x3⟩ := hbx.dfa; obtain ⟨y0, y1, y2, y3⟩ := hby.dfa; rw [hna] at x1; rw [hua] at y1; go_simp; try with_reducible rfl
                  simp only [eA, eB, eC, Act.put, eD, eE, eF]
                  refine tkM 2 ?_ rfl (fun w1 hl => ?_) ?_
                  rotate_left
                  · obtain ⟨hbx, hby, c5, c6, _⟩ := HF.out w1 hl; obtain ⟨x0, x1, x2, x3⟩ := hbx.dfa; obtain ⟨y0, y1, y2, y3⟩ := hby.dfa; rw [hna] at x1; rw [hua] at y1; go_simp; try with_reducible rfl
                  simp only [eA, eB, eC, Act.put, eD, eE, eF]
                  refine tkM 3 ?_ rfl (fun w1 hl => ?_) ?_
                  rotate_left
                  · obtain ⟨hbx, hby, c5, c6, _⟩ := HF.out w1 hl; obtain ⟨x0, x1, x2, x3⟩ := hbx.dfa; obtain ⟨y0, y1, y2, y3⟩ := hby.dfa; rw [hna] at x1; rw [hua] at y1; go_simp; try with_reducible rfl
                  simp only [eA, eB, eC, Act.put, eD, eE, eF]
                  refine tkM 4 ?_ rfl (fun w1 hl => ?_) ?_
                  rotate_left
                  · obtain ⟨hbx, hby, c5, c6, _⟩ := HF.out w1 hl; obtain ⟨x0, x1, x2, x3⟩ := hbx.dfa; obtain ⟨y0, y1, y2, y3⟩ := hby.dfa; rw [hna] at x1; rw [hua] at y1; go_simp; try with_reducible rfl
                  simp only [eA, eB, eC, Act.put, eD, eE, eF]
                  refine tkM 5 ?_ rfl (fun w1 hl => ?_) ?_
                  rotate_left
                  · obtain ⟨hbx, hby, c5, c6, _⟩ := HF.out w1 hl; obtain ⟨x0, x1, x2, x3⟩ := hbx.dfa; obtain ⟨y0, y1, y2, y3⟩ := hby.dfa; rw [hna] at x1; rw [hua] at y1; go_simp; try with_reducible rfl
                  simp only [eA, eB, eC, Act.put, eD, eE, eF]
                  refine tkM 6 ?_ rfl (fun w1 hl => ?_) ?_
                  rotate_left
                  · obtain ⟨hbx, hby, c5, c6, _⟩ := HF.out w1 hl; obtain ⟨x0, x1, x2, x3⟩ := hbx.dfa; obtain ⟨y0, y1, y2, y3⟩ := hby.dfa; rw [hna] at x1; rw [hua] at y1; go_simp; try with_reducible rfl
                  simp only [eA, eB, eC, Act.put, eD, eE, eF]
                  refine tkM 7 ?_ rfl (fun w1 hl => ?_) ?_
                  rotate_left
                  · obtain ⟨hbx, hby, c5, c6, _⟩ := HF.out w1 hl; obtain ⟨x0, x1, x2, x3⟩ := hbx.dfa; obtain ⟨y0, y1, y2, y3⟩ := hby.dfa; rw [hna] at x1; rw [hua] at y1; go_simp; try with_reducible rfl
                  simp only [eA, eB, eC, Act.put, eD, eE, eF]
                  refine tkM 8 ?_ rfl (fun w1 hl => ?_) ?_
                  rotate_left
                  · obtain ⟨hbx, hby, c5, c6, _⟩ := HF.out w1 hl; obtain ⟨x0, x1, x2, x3⟩ := hbx.dfa; obtain ⟨y0, y1, y2, y3⟩ := hby.dfa; rw [hna] at x1; rw [hua] at y1; go_simp; try with_reducible rfl
                  simp only [eA, eB, eC, Act.put, eD, eE, eF]
                  refine tkM 9 ?_ rfl (fun w1 hl => ?_) ?_
                  rotate_left
                  · obtain ⟨hbx, hby, c5, c6, _⟩ := HF.out w1 hl; obtain ⟨x0, x1, x2, x3⟩ := hbx.dfa; obtain ⟨y0, y1, y2, y3⟩ := hby.dfa; rw [hna] at x1; rw [hua] at y1; go_simp; try with_reducible rfl
                  simp only [eA, eB, eC, Act.put, eD, eE, eF]
                  refine wpM_call (t := 12) (i := 10) (f := ?_) (args := ?_) (v := ?_) rfl (by kernel_rfl) (by kernel_rfl) (by kernel_rfl) (by kernel_rfl) (fun _ _ _ h => h) (by rfl) (fun w1 => ?_) (fun w1 hl => ?_) ?_
                  rotate_left 4
                  · exact HSM.out w1 (HF.out w1 hl).2.2.2.2
                  rotate_left
                  · go_simp
                  simp only [eA, eB, eC, Act.put, eD, eE, eF]
                  refine tkM 11 ?_ rfl (fun w1 hl => ?_) ?_
                  rotate_left
                  · skip; go_simp; try with_reducible rfl
                  simp only [eA, eB, eC, Act.put, eD, eE, eF]
                  refine wpM_done (by kernel_rfl) (fun w1 hl => ?_) _
                  obtain ⟨hx, hy, _, _, hB3⟩ := HF.out _ hl
                  clear hl x0 x1 x2 x3 y0 y1 y2 y3
                  go_wp2
                  go_roundw
                  case rel => exact ⟨j + 1, hlt, by go_num, HST.out HX.out, hx, hy, hB3⟩
                  case measure => simp [intOf]; omega
                | false =>
                  rw [hpq] at HSM
                  have HN2 := Lib.hid (HNE.out (by simpa using hpq))
                  clear hpq hx hy
                  go_wp2_with fail
                  refine wp_region_M (R := Later) 12 (by kernel_rfl) ?_
                  refine tkM 0 ?_ rfl (fun w1 hl => ?_) ?_
                  rotate_left
                  · obtain ⟨hbx, hby, c5, c6, _⟩ := HF.out w1 hl; obtain ⟨x0, x1, x2, x3⟩ := hbx.dfa; obtain ⟨y0, y1, y2, y3⟩ := hby.dfa; rw [hna] at x1; rw [hua] at y1; go_simp; try with_reducible rfl
                  simp only [eA, eB, Act.put, eD, eE, eF]
                  refine tkM 1 ?_ rfl (fun w1 hl => ?_) ?_
                  rotate_left
                  · obtain ⟨hbx, hby, c5, c6, _⟩ := HF.out w1 hl; obtain ⟨x0, x1, x2, x3⟩ := hbx.dfa; obtain ⟨y0, y1, y2, y3⟩ := hby.dfa; rw [hna] at x1; rw [hua] at y1; go_simp; try with_reducible rfl
                  simp only [eA, eB, eC, Act.put, eD, eE, eF]
                  refine tkM 2 ?_ rfl (fun w1 hl => ?_) ?_
                  rotate_left
                  · obtain ⟨hbx, hby, c5, c6, _⟩ := HF.out w1 hl; obtain ⟨x0, x1, x2, x3⟩ := hbx.dfa; obtain ⟨y0, y1, y2, y3⟩ := hby.dfa; rw [hna] at x1; rw [hua] at y1; go_simp; try with_reducible rfl
                  simp only [eA, eB, eC, Act.put, eD, eE, eF]
                  refine tkM 3 ?_ rfl (fun w1 hl => ?_) ?_
                  rotate_left
                  · obtain ⟨hbx, hby, c5, c6, _⟩ := HF.out w1 hl; obtain ⟨x0, x1, x2, x3⟩ := hbx.dfa; obtain ⟨y0, y1, y2, y3⟩ := hby.dfa; rw [hna] at x1; rw [hua] at y1; go_simp; try with_reducible rfl
                  simp only [eA, eB, eC, Act.put, eD, eE, eF]
                  refine tkM 4 ?_ rfl (fun w1 hl => ?_) ?_
                  rotate_left
                  · obtain ⟨hbx, hby, c5, c6, _⟩ := HF.out w1 hl; obtain ⟨x0, x1, x2, x3⟩ := hbx.dfa; obtain ⟨y0, y1, y2, y3⟩ := hby.dfa; rw [hna] at x1; rw [hua] at y1; go_simp; try with_reducible rfl
                  simp only [eA, eB, eC, Act.put, eD, eE, eF]
                  refine tkM 5 ?_ rfl (fun w1 hl => ?_) ?_
                  rotate_left
                  · obtain ⟨hbx, hby, c5, c6, _⟩ := HF.out w1 hl; obtain ⟨x0, x1, x2, x3⟩ := hbx.dfa; obtain ⟨y0, y1, y2, y3⟩ := hby.dfa; rw [hna] at x1; rw [hua] at y1; go_simp; try with_reducible rfl
                  simp only [eA, eB, eC, Act.put, eD, eE, eF]
                  refine tkM 6 ?_ rfl (fun w1 hl => ?_) ?_
                  rotate_left
                  · obtain ⟨hbx, hby, c5, c6, _⟩ := HF.out w1 hl; obtain ⟨x0, x1, x2, x3⟩ := hbx.dfa; obtain ⟨y0, y1, y2, y3⟩ := hby.dfa; rw [hna] at x1; rw [hua] at y1; go_simp; try with_reducible rfl
                  simp only [eA, eB, eC, Act.put, eD, eE, eF]
                  refine tkM 7 ?_ rfl (fun w1 hl => ?_) ?_
                  rotate_left
                  · obtain ⟨hbx, hby, c5, c6, _⟩ := HF.out w1 hl; obtain ⟨x0, x1, x2, x3⟩ := hbx.dfa; obtain ⟨y0, y1, y2, y3⟩ := hby.dfa; rw [hna] at x1; rw [hua] at y1; go_simp; try with_reducible rfl
                  simp only [eA, eB, eC, Act.put, eD, eE, eF]
                  refine tkM 8 ?_ rfl (fun w1 hl => ?_) ?_
                  rotate_left
                  · obtain ⟨hbx, hby, c5, c6, _⟩ := HF.out w1 hl; obtain ⟨x0, x1, x2, x3⟩ := hbx.dfa; obtain ⟨y0, y1, y2, y3⟩ := hby.dfa; rw [hna] at x1; rw [hua] at y1; go_simp; try with_reducible rfl
                  simp only [eA, eB, eC, Act.put, eD, eE, eF]
                  refine tkM 9 ?_ rfl (fun w1 hl => ?_) ?_
                  rotate_left
                  · obtain ⟨hbx, hby, c5, c6, _⟩ := HF.out w1 hl; obtain ⟨x0, x1, x2, x3⟩ := hbx.dfa; obtain ⟨y0, y1, y2, y3⟩ := hby.dfa; rw [hna] at x1; rw [hua] at y1; go_simp; try with_reducible rfl
                  simp only [eA, eB, eC, Act.put, eD, eE, eF]
                  refine wpM_call (t := 12) (i := 10) (f := ?_) (args := ?_) (v := ?_) rfl (by kernel_rfl) (by kernel_rfl) (by kernel_rfl) (by kernel_rfl) (fun _ _ _ h => h) (by rfl) (fun w1 => ?_) (fun w1 hl => ?_) ?_
                  rotate_left 4
                  · exact HSM.out w1 (HF.out w1 hl).2.2.2.2
                  rotate_left
                  · go_simp
                  simp only [eA, eB, eC, Act.put, eD, eE, eF]
                  refine tkM 11 ?_ rfl (fun w1 hl => ?_) ?_
                  rotate_left
                  · skip; go_simp; try with_reducible rfl
                  simp only [eA, eB, eC, Act.put, eD, eE, eF]
                  refine wpM_done (by kernel_rfl) (fun w1 hl => ?_) _
                  obtain ⟨hx, hy, _, _, hB3⟩ := HF.out _ hl
                  clear hl x0 x1 x2 x3 y0 y1 y2 y3
                  go_wp2
                  go_ret
                  exact ⟨by rw [HN2.out]; rfl, hB3⟩
              · have hdj : decide ((j : Int) < (V.nn : Int)) = false := decide_eq_false (by omega)
                have ht : (D.next == E.next) = true := by
                  obtain ⟨e5, e6, g6, k6⟩ := HE.out
                  rw [List.take_of_length_le (by omega), List.take_of_length_le (by omega)] at htk
                  exact beq_iff_eq.2 htk
                have HT := Lib.hid ht
                clear ht htk
                go_wp2
                go_ret
                exact ⟨by rw [HT.out]; rfl, hB⟩
      · have q1 : ((V.nn : Int) != (U.nn : Int)) = true := by simp; omega
        have hne : (D.next == E.next) = false := by
          obtain ⟨e5, e6, g6, k6⟩ := HE.out
          exact beq_eq_false_iff_ne.2 (fun h => hl (by rw [e5, g6, h, ← k6, ← e6]))
        rw [hne]
        go_enter Tryz.func8, Tryz.ntmps8
        go_wp2_with (first | (refine wpList_load_of (by rfl) 23 (.tmp 6) rfl w.heap.size rfl hx1 Tryz.underlying23 rfl (size_256 _) ?_) | (refine wpList_load_of (by rfl) 23 (.tmp 8) rfl (w.heap.size + 1) rfl hx2 Tryz.underlying23 rfl (size_256 _) ?_))
        go_ret
        exact ⟨by simp, hb0⟩
end Go.Proofs.YtdhmekpgplajmaaGreatDoor
end
section
namespace Go.Proofs.YtdhmekpgplajmaaGreatDoor
open Go.RowKit Go.ChangeShapes Go.WideShapes Go.ChangeAt
set_option maxRecDepth 20000
theorem sameD_refl (D : PDfa) : sameD D D = true := by
  unfold sameD
  rw [(sameArr_iff D.of D.of).2 fun _ _ => rfl]
  simp
theorem reads_none (w : World) : ReadsD w V0 D0 := (PutD.start w 0).reads
/-- What both readers leave of a text that is not too long. -/
def RetBoth (w : World) (D : PDfa) (c : Nat) (e : Ending) (w' : World) : Prop := Below w.heap.size w w' ∧ ∃ V, e = .returned (.tuple #[.agg V.cells, .int .i64 c]) ∧ ReadsD w' V D
theorem both_readers (s : List UInt8) (hs : s.length ≤ 5000) : ∃ D c, (∀ w, Tab w → MaxL w → Calls Tryz.prog 6 #[sv s] w (RetBoth w D c)) ∧ (∀ w, Calls Tryz.prog 7 #[sv s] w (RetBoth w D c)) := by
  have h1 := fun w hT hM => list_Read s w (by omega) hT hM
  have h2 := fun w => ref36_Read s w (by omega)
  cases hr : readP s with
  | some D =>
    refine ⟨D, 0, fun w hT hM => (h1 w hT hM).mono ?_, fun w => (h2 w).mono ?_⟩
    · rintro e w' ⟨hb, h⟩
      rw [if_neg (by omega), hr] at h
      exact ⟨hb, h⟩
    · rintro e w' ⟨hb, h⟩
      rw [refP_eq, hr] at h
      exact ⟨hb, h⟩
  | none =>
    refine ⟨D0, 3, fun w hT hM => (h1 w hT hM).mono ?_, fun w => (h2 w).mono ?_⟩
    · rintro e w' ⟨hb, h⟩
      rw [if_neg (by omega), hr] at h
      exact ⟨hb, V0, h, reads_none w'⟩
    · rintro e w' ⟨hb, h⟩
      rw [refP_eq, hr] at h
      exact ⟨hb, V0, h, reads_none w'⟩
set_option maxHeartbeats 3200000 in
theorem law_ListingReads (s : List UInt8) (w : World) (hs : s.length ≤ 9223372036854775807) (hT : Tab w) (hM : MaxL w) :
    Calls Tryz.prog 3 #[sv s] w (Ret w (.bool true)) := by
  have hk := fun w1 (hb : Below w.heap.size w w1) => knows36 w1 (hT.kept hb) (hM.kept hb)
  have HK := Lib.hid hk
  have hz := zeroV_dfa
  by_cases hl : 5000 < s.length
  · have e1 : decide (5000 < (s.length : Int)) = true := by simp; omega
    clear hk
    go_enter Tryz.func3, Tryz.ntmps3
    go_wp2_with (go_at_call 5; go_must (refine (HK.out _ (Below.refl _ _)).mono ?_; rintro e w4 ⟨rfl, hB4⟩))
    go_ret
    exact ⟨rfl, hB4⟩
  · have e1 : decide (5000 < (s.length : Int)) = false := by simp; omega
    obtain ⟨D, c, h1, h2⟩ := both_readers s (by omega)
    have hsm := fun V U w (h : ReadsD w V D) (h2 : ReadsD w U D) => ref20_Same V U D D w h h2
    rw [sameD_refl] at hsm
    have H1 := Lib.hid (h1 w hT hM)
    have H2 := Lib.hid h2
    have HS := Lib.hid hsm
    clear hk h1 h2 hsm hl hs hT hM
    go_enter Tryz.func3, Tryz.ntmps3
    go_wp2_with fail
    refine H1.out.mono ?_
    rintro e w1 ⟨hB1, V, rfl, hR1⟩
    have hx1 := Box.new w1 V.cells 28
    have hb1 := hB1.alloc hB1.size (.cells V.cells 28)
    have hr1 := hR1.kept (later_alloc w1 (.cells V.cells 28))
    clear H1 hB1 hR1
    go_wp2_with (refine wpList_store_new rfl 28 (.tmp 3) (.tmp 14) rfl _ _ rfl rfl rfl (size_dfa V) (VDfa.sizes _ _) V.all ?_)
    refine (H2.out _).mono ?_
    rintro e w2 ⟨hB2, U, rfl, hR2⟩
    have hx2 := (hx1.kept hB2).alloc (.cells U.cells 28)
    have hb2 := (hb1.trans (hB2.mono hb1.size)).alloc (hb1.trans (hB2.mono hb1.size)).size (.cells U.cells 28)
    have hr2 := (hr1.kept hB2).kept (later_alloc w2 (.cells U.cells 28))
    have hu2 := hR2.kept (later_alloc w2 (.cells U.cells 28))
    have hy2 := Box.new w2 U.cells 28
    clear H2 hx1 hb1 hr1 hB2 hR2
    have ec : ((c : Int) == (c : Int)) = true := by simp
    go_wp2_with (first | (refine wpList_store_new rfl 28 (.tmp 5) (.tmp 19) rfl _ _ rfl rfl rfl (size_dfa U) (VDfa.sizes _ _) U.all ?_) | (refine wpList_load_row_g (by rfl) 28 (.tmp 3) rfl w1.heap.size rfl _ _ _ _ hx2 Tryz.underlying28 rfl (size_dfa V) ?_) | (refine wpList_load_row_g (by rfl) 28 (.tmp 5) rfl w2.heap.size rfl _ _ _ _ hy2 Tryz.underlying28 rfl (size_dfa U) ?_) | (go_at_call 8; go_must (refine (HS.out _ _ _ hr2 hu2).mono ?_; rintro e w3 ⟨rfl, hB3⟩; have hb3 := hb2.trans (hB3.mono hb2.size))) | (go_at_call 5; go_must (refine (HK.out _ hb3).mono ?_; rintro e w4 ⟨rfl, hB4⟩; have hb4 := hb3.trans (hB4.mono hb3.size))))
    go_ret
    exact ⟨rfl, hb4⟩
theorem table_ListingReads {W : World} (h : laidMetH Tryz.prog Rows.listingReadsRow.laid W) : Tab W := tab_of_tabIs (Lib.tabIs_of_head (zs := Lib.deBruijn64tab.map fun (x : Nat) => (x : Int)) (rest := []) gTab gTabType Tryz.underlying146 Tryz.underlying5 (by kernel_rfl) (by kernel_rfl) h)
set_option maxRecDepth 100000 in
theorem contract_ListingReads (H : Type) (enc : TypeId × Value → H) (W : World) (base : Nat) (args : Array Value) (ds gs : List (DataW H)) (before : List MemPlace)
    (hval0 : ∀ (j : Nat) t v, Tryz.f3.params[j]? = some t → args[j]? = some v → Value.okWide Tryz.prog W .any base t v)
    (hW : DataW.Whole enc Tryz.prog Tryz.f3.params.toList Rows.listingReadsSpec.vars false W args.toList ds gs before) (hsh : W.ShapedOpen Tryz.prog) (hL : laidMetH Tryz.prog Rows.listingReadsRow.laid W) :
    Calls Tryz.prog 3 args W fun e W' => ∃ v, e = .returned v ∧ Rows.listingReadsSpec.post enc Tryz.prog Tryz.f3 false true false false W args v W' := by
  have hval : ∀ (j : Nat) t v, Tryz.f3.params[j]? = some t → args[j]? = some v → Value.okWide Tryz.prog W .any base t v := hval0
  have hW' := hW
  have hT := table_ListingReads hL
  have hM : MaxL W := Go.Proofs.cell_of_shapedOpen_int (zero := #[.int .i64 0]) (t := 3) hsh (of_decide_eq_true (by kernel_rfl)) (by kernel_rfl) rfl (by kernel_rfl) (by kernel_rfl) Tryz.underlying3
  obtain ⟨p, q, hA0, hV, rfl, hfz, hnd⟩ := hW
  have hA : DataW.TrodAll enc Tryz.prog W 0 (fun _ => true) true Tryz.f3.params.toList args.toList ds p := hA0
  rw [Tryz.params3] at hA hval
  obtain ⟨v0, vs0, d0, ds0, p0, q0, hargs, rfl, rfl, h00, r0⟩ := trodAll_cons hA
  obtain ⟨rfl, rfl, rfl⟩ := trodAll_nil r0
  obtain rfl : args = #[v0] := by cases args; simp_all
  obtain ⟨rfl, rfl⟩ := trodVars_none hV
  have k00 := h00
  have lt0 : ∀ x ∈ p0, x.block < W.heap.size := by obtain ⟨m, hm⟩ := k00; exact DataW.trod_lt m _ _ _ hm
  obtain ⟨s, rfl, hs⟩ : ∃ l : List UInt8, v0 = sv l ∧ l.length ≤ 9223372036854775807 := by
    obtain ⟨s, h1, _, _, h2⟩ := Go.ChangeMaps.open_string Tryz.underlying9 (hval 0 9 v0 rfl rfl) h00
    exact ⟨s.data.toList, by rw [h1, sv_of], by rw [Array.length_toList]; exact h2⟩
  clear hA0 hval0
  refine (law_ListingReads s W hs hT hM).mono fun e W' ⟨he, bel⟩ => ?_
  subst he
  exact ⟨_, rfl, _, _, _, [], _, [], hW', trodAll_mk1 (shut_bool Tryz.underlying4 _), (trodAll_cons_mk (Below.trod laidOut (by kernel_rfl) (of_decide_eq_true (by kernel_rfl)) k00 bel lt0) trodAll_mk0), rfl, bel.frame _, fun h => by cases h⟩
theorem laid_met_ListingReads (os : Os) : laidMet Tryz.prog Rows.listingReadsRow.laid ((laidWorld os).forCall (fun _ _ => 0) ⟨#[], #[.string ⟨#[]⟩], []⟩).memory :=
  laidMet_of_run' 8 (by kernel_rfl) (by kernel_rfl)
theorem reads_ListingReads (os : Os) {H : Type} (enc : TypeId × Value → H) : ∃ places, DataW.whole enc Tryz.prog ((laidWorld os).forCall (fun _ _ => 0) ⟨#[], #[.string ⟨#[]⟩], []⟩).memory Tryz.f3.params.toList Rows.listingReadsSpec.vars false (#[.string ⟨#[]⟩] : Array Value).toList 8 = some ([.lit (.string [])], [], places) :=
  ⟨[], by kernel_rfl⟩
set_option maxRecDepth 100000 in
theorem lifted_ListingReads (os : Os) (started : os.Started) (H : Type) (enc : TypeId × Value → H) (F : Stop.Interp) :
    ReturnsInHanded {} Tryz.checked os 3 .any ((OpenSpec.ofChange Rows.listingReadsSpec).preRow enc Tryz.prog Tryz.f3 Rows.listingReadsRow.domain false Rows.listingReadsRow.laid) (((OpenSpec.ofChange Rows.listingReadsSpec).at F).post enc Tryz.prog Tryz.f3 false true false false) := by
  obtain ⟨places, hx⟩ := reads_ListingReads os enc
  refine returnsInHanded_of_row (C := Tryz.checked) (s := OpenSpec.ofChange Rows.listingReadsSpec) own started (by kernel_rfl) Tryz.func3
    (witness_row_at (enc := enc) (C := Tryz.checked) false (laidWorld os) #[.string ⟨#[]⟩] rfl (by kernel_rfl) (by kernel_rfl) (by kernel_rfl)
      (OpenSpec.preRow_of_cond 8 hx (by kernel_rfl) (fun k hk => by cases hk) (by kernel_rfl) (laid_met_ListingReads os))) ?_
  intro W base args ds gs before hval hW _ _ _ hL hsh _
  exact contract_ListingReads H enc W base args ds gs before hval hW hsh hL
theorem said_ListingReads : Rows.ListingReadsSaid :=
  OpenClaim.holds_of_cond 3 Tryz.f3 rfl rfl rfl rfl rfl rfl rfl ⟨rfl, rfl, rfl, rfl, rfl⟩ rfl rfl rfl rfl rfl (by kernel_rfl) Tryz.func3 (by kernel_rfl)
    (of_decide_eq_true (by kernel_rfl)) (by unfold Func.isWrapper; first | (rw [if_pos (by decide +kernel)]; kernel_rfl) | (rw [if_neg (by decide +kernel)]; exact ⟨rfl, rfl⟩))
    (fun os started H enc _ F => by rw [OpenClaim.pre_eq_preRow]; exact lifted_ListingReads os started H enc F)
theorem plain_ListingReads (f : FuncId) (fn : Func) (hf : Tryz.pinned.checked.prog.funcNamed "doublet/doubletlaw36.ListingReads" = some f) (hfn : Tryz.pinned.checked.prog.funcs[f]? = some fn) :
    false = Tryz.pinned.checked.prog.looks [] ∧ ∀ (j : Nat) t, fn.params[j]? = some t → Tryz.pinned.checked.prog.wantsStandIn t = false := by
  obtain rfl : f = 3 := Option.some.inj ((show Tryz.prog.funcNamed "doublet/doubletlaw36.ListingReads" = some 3 by kernel_rfl).symm.trans hf) |>.symm
  obtain rfl : fn = Tryz.f3 := (Option.some.inj (Tryz.func3.symm.trans hfn)).symm
  refine ⟨by kernel_rfl, fun j t ht => ?_⟩
  rw [Tryz.params3] at ht
  have hm := Array.mem_of_getElem? ht
  simp only [List.mem_toArray, List.mem_cons, List.not_mem_nil, or_false] at hm
  subst hm
  · exact (show Tryz.prog.wantsStandIn 9 = false by kernel_rfl)
theorem ListingReads_holds : Rows.ListingReadsCardSaid :=
  Claim7.holds_tied_plain_at .later [] _ _ _ _ said_ListingReads (fun _ h => by cases h) (by kernel_rfl) (fun _ h => by cases h) listingReads_row_tie rfl ⟨rfl, rfl⟩ (by kernel_rfl) rfl plain_ListingReads (by kernel_rfl)
#print axioms ListingReads_holds
end Go.Proofs.YtdhmekpgplajmaaGreatDoor
end
