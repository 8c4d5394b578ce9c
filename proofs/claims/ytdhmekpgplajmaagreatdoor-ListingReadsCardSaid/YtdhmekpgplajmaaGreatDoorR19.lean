/- Joined by tools/merge.py: Ref20, ListRow2. -/
import Derived.Test.YtdhmekpgplajmaaGreatDoorR17
import Derived.Test.YtdhmekpgplajmaaGreatDoorR2
import Derived.Test.YtdhmekpgplajmaaGreatDoorR4
import Derived.Test.YtdhmekpgplajmaaGreatDoorR18
section
namespace Go.Proofs.YtdhmekpgplajmaaGreatDoor
open Go.RowKit
theorem take_has (l : List (List UInt8)) (s : List UInt8) (q : Nat) (h : q < l.length) : (l.take (q + 1)).contains s = ((l.take q).contains s || (l[q] == s)) := by
  rw [List.take_succ_eq_append_getElem h, Bool.eq_iff_iff, Bool.or_eq_true, List.contains_iff_mem, List.contains_iff_mem, List.mem_append, List.mem_singleton, beq_iff_eq]
  exact or_congr Iff.rfl eq_comm
theorem take_hasF (l : List (List UInt8)) (s : List UInt8) (q k : Nat) (hq : q < k) (h : q < l.length) (e : l[q] = s) : (l.take k).contains s = true := by
  rw [List.contains_iff_mem]
  have : (l.take k)[q]'(by simp; omega) = s := by simpa using e
  exact this ▸ List.getElem_mem _
set_option maxRecDepth 20000 in
set_option maxHeartbeats 3200000 in
theorem ref20_Right (V : VDfa) (D : PDfa) (w : World) (h : ReadsD w V D) (hof : ∀ b, V.of b < 256) (hl : ∀ x ∈ D.names, x.length ≤ 9223372036854775807) : Calls Tryz.prog 9 #[.agg V.cells] w (Ret w (.bool (rightD D))) := by
  obtain ⟨of, wd, na, nn, nc, la, n, lc, ma, mn, mc⟩ := V
  obtain ⟨of', wd', nx, lb, nm⟩ := D
  have hst := rowsTo_succ ⟨of', wd', nx, lb, nm⟩
  have hfa := rowsTo_false ⟨of', wd', nx, lb, nm⟩
  obtain ⟨h0, h1, h3, h4, rows, h5, h6, h7⟩ := h
  dsimp only at *
  subst h0
  subst h1
  obtain ⟨b5, o5, e5, c5, c5', a5, k5⟩ := h5.cells1
  obtain ⟨b3, o3, e3, c3, c3', a3, k3⟩ := h3.cells1
  obtain ⟨b4, o4, e4, c4, c4', a4, k4⟩ := h4.cells1
  have hnb : n ≤ 9223372036854775807 := by omega
  have hnb2 : nn ≤ 9223372036854775807 := by omega
  have hmb : mn ≤ 9223372036854775807 := by omega
  have hpr := fun w1 => ref_Right19 of hof wd w1
  have hr : rightD ⟨of, wd, nx, lb, nm⟩ = ((decide (1 ≤ n) && (decide (n ≤ 65536) && decide (nn = n))) && ((sameArr (numR (Kern (keyN of))) of && ((widR (Kern (keyN of)) : Nat) == wd)) && ((decide (mn ≤ 64) && namesTo nm mn) && rowsTo ⟨of, wd, nx, lb, nm⟩ nx.length))) := by
    rw [e3, e4, show nn = nx.length by omega]; rfl
  rw [hr]
  have HPR := Lib.hid hpr
  clear hpr hr h3 h4 h5 hof
  generalize hp : (sameArr (numR (Kern (keyN of))) of && ((widR (Kern (keyN of)) : Nat) == wd)) = p at *
  have hbx := Box.new w (VDfa.cells ⟨of, wd, na, nn, nc, la, n, lc, ma, mn, mc⟩) 28
  have hB0 := later_alloc w (.cells (VDfa.cells ⟨of, wd, na, nn, nc, la, n, lc, ma, mn, mc⟩) 28)
  obtain ⟨x0, x1, x2, x3⟩ := hbx.dfa
  dsimp only at x0 x1 x2 x3
  have HH := Lib.hid (And.intro h6 h7)
  have HST := Lib.hid hst
  have HFA := Lib.hid hfa
  have HL := Lib.hid hl
  have HE := Lib.hid (And.intro e5 (And.intro e3 e4))
  have HA := Lib.hid (And.intro a5 (And.intro a3 a4))
  have HK := Lib.hid (And.intro k5 (And.intro k3 k4))
  clear h6 h7 hst hfa hl e5 e3 e4 a5 a3 a4 k5 k3 k4 hp
  by_cases b1 : n < 1
  · have e1 : decide ((n : Int) < 1) = true := by simp; omega
    have q : (decide (1 ≤ n) && (decide (n ≤ 65536) && decide (nn = n))) = false := by simp; omega
    rw [q, Bool.false_and]
    clear b1 q
    go_enter Tryz.func9, Tryz.ntmps9
    go_wp2
    go_ret
    exact ⟨rfl, hB0⟩
  · have e1 : decide ((n : Int) < 1) = false := by simp; omega
    by_cases b2 : 65536 < n
    · have e2 : decide (65536 < (n : Int)) = true := by simp; omega
      have q : (decide (1 ≤ n) && (decide (n ≤ 65536) && decide (nn = n))) = false := by simp; omega
      rw [q, Bool.false_and]
      clear b1 b2 q
      go_enter Tryz.func9, Tryz.ntmps9
      go_wp2
      go_ret
      exact ⟨rfl, hB0⟩
    · have e2 : decide (65536 < (n : Int)) = false := by simp; omega
      by_cases b3 : nn = n
      · have q : (decide (1 ≤ n) && (decide (n ≤ 65536) && decide (nn = n))) = true := by simp; omega
        rw [q, Bool.true_and]
        have f3 : ((nn : Int) != (n : Int)) = false := by simp [b3]
        have f3' : (nn != n) = false := by simp [b3]
        by_cases b4 : 64 < mn
        · have e4 : decide (64 < (mn : Int)) = true := by simp; omega
          have q2 : decide (mn ≤ 64) = false := by simp; omega
          rw [q2, Bool.false_and, Bool.false_and, Bool.and_false]
          clear b1 b2 b4 q q2 b3
          go_enter Tryz.func9, Tryz.ntmps9
          go_wp2
          go_ret
          exact ⟨rfl, hB0⟩
        · have e4 : decide (64 < (mn : Int)) = false := by simp; omega
          have q2 : decide (mn ≤ 64) = true := by simp; omega
          rw [q2, Bool.true_and]
          clear q q2 b1 b2 b4
          cases p with
          | false =>
            rw [Bool.false_and]
            clear b3
            go_enter Tryz.func9, Tryz.ntmps9
            go_wp2_with (first | (refine wpList_load_of (by rfl) 23 _ rfl w.heap.size rfl hbx Tryz.underlying23 rfl (size_256 _) ?_) | (go_at_call 26; go_must (refine (HPR.out _).mono ?_; rintro e w1 ⟨rfl, hB1⟩)))
            go_ret
            exact ⟨rfl, hB0.trans (hB1.mono (by simp))⟩
          | true =>
            rw [Bool.true_and]
            obtain rfl : nn = n := b3
            clear f3 f3'
            go_enter Tryz.func9, Tryz.ntmps9
            go_wp2_with (first | (refine wpList_load_of (by rfl) 23 _ rfl w.heap.size rfl hbx Tryz.underlying23 rfl (size_256 _) ?_) | (go_at_call 26; go_must (refine (HPR.out _).mono ?_; rintro e w1 ⟨rfl, hB1⟩; have hbx1 := hbx.kept hB1; have hB1 := hB0.trans (hB1.mono (by simp)); clear hB0 hbx x0 x1 x2 x3)))
            go_loopw [4] (fun i wr => ∃ k : Nat, k ≤ mn ∧ i = .int .i64 k ∧ namesTo nm k = true ∧ Box wr w.heap.size (VDfa.cells ⟨of, wd, na, nn, nc, la, nn, lc, ma, mn, mc⟩) 28 ∧ Below w.heap.size w wr) (fun i _ => mn - (intOf i).toNat)
            case atStart => exact ⟨0, Nat.zero_le _, rfl, rfl, hbx1, hB1⟩
            case round =>
              clear hbx1 hB1
              obtain ⟨k, hk, rfl, hok, hbx, hB⟩ := hrel
              obtain ⟨x0, x1, x2, x3⟩ := hbx.dfa
              dsimp only at x0 x1 x2 x3
              by_cases hlt : k < mn
              · have hk2 : k < nm.length := by rw [← HE.out.2.2]; exact hlt
                obtain rfl := HA.out.2.2 k hk2
                have c4 := HK.out.2.2 k hk2 wr hB
                have hnm := fun w => ref09_Name nm[k] w (HL.out _ (List.getElem_mem hk2))
                have hnx : nameAt nm k = (nameT nm[k] && !((nm.take k).contains nm[k])) := by
                  unfold nameAt; rw [List.getD_eq_getElem?_getD, List.getElem?_eq_getElem hk2]; rfl
                have hsucc := namesTo_succ nm k
                rw [hok, Bool.true_and] at hsucc
                have hfalse := namesTo_false nm k mn hlt
                generalize hs : nm[k] = s at *
                have HNM := Lib.hid hnm
                have HNX := Lib.hid hnx
                have HSU := Lib.hid hsucc
                have HFL := Lib.hid hfalse
                have HS := Lib.hid hs
                have hk0 : (0 : Int) ≤ (k : Int) := by omega
                have hkm : (k : Int) < (mn : Int) := by omega
                clear hnm hnx hsucc hfalse hok hs
                cases hn : nameT s with
                | false =>
                  have hx : nameAt nm k = false := by rw [HNX.out, hn]; rfl
                  rw [hn] at HNM
                  have HX := Lib.hid hx
                  clear hx hn
                  go_wp2_with (go_at_call 27; go_must (refine (HNM.out _).mono ?_; rintro e w1 ⟨rfl, hB1⟩; have hB2 := hB.trans (hB1.mono hB.size)))
                  go_ret
                  exact ⟨by rw [HFL.out HX.out]; rfl, hB2⟩
                | true =>
                  rw [hn] at HNM
                  have HX : Hid (nameAt nm k = !((nm.take k).contains s)) := Lib.hid (by rw [HNX.out, hn]; rfl)
                  clear hn
                  go_wp2_with (go_at_call 27; go_must (refine (HNM.out _).mono ?_; rintro e w1 ⟨rfl, hB1⟩; have hB2 := hB.trans (hB1.mono hB.size); have hbx2 := hbx.kept hB1))
                  clear hbx hB hB1
                  go_loopw [5] (fun i wr => ∃ q : Nat, q ≤ k ∧ i = .int .i64 q ∧ (nm.take q).contains s = false ∧ Box wr w.heap.size (VDfa.cells ⟨of, wd, na, nn, nc, la, nn, lc, some ⟨b4, o4, none⟩, mn, mc⟩) 28 ∧ Below w.heap.size w wr) (fun i _ => k - (intOf i).toNat)
                  case atStart => exact ⟨0, Nat.zero_le _, rfl, rfl, hbx2, hB2⟩
                  case round =>
                    clear hbx2 hB2 x0 x1 x2 x3 c4
                    obtain ⟨q, hq, rfl, hno, hbx, hB⟩ := hrel
                    by_cases hlt2 : q < k
                    · have hq2 : q < nm.length := by omega
                      have ck := HK.out.2.2 k hk2 wr hB
                      have cq := HK.out.2.2 q hq2 wr hB
                      have hth := take_has nm s q hq2
                      have htf := take_hasF nm s q k hlt2 hq2
                      rw [hno, Bool.false_or] at hth
                      rw [HS.out] at ck
                      generalize nm[q] = r at *
                      have HTH := Lib.hid hth
                      have HTF := Lib.hid htf
                      have HF : Hid (∀ v, Later wr.drew v → Box v w.heap.size (VDfa.cells ⟨of, wd, na, nn, nc, la, nn, lc, some ⟨b4, o4, none⟩, mn, mc⟩) 28 ∧ v.cell? ⟨b4, o4 + k, none⟩ = some (sv s) ∧ v.cell? ⟨b4, o4 + q, none⟩ = some (sv r) ∧ Below w.heap.size w v) := Lib.hid fun v hl =>
                        ⟨hbx.drew.kept hl, (Below.cell hl (World.block_lt_of_cell? wr _ ck)).trans ck, (Below.cell hl (World.block_lt_of_cell? wr _ cq)).trans cq, hB.drew.trans (Below.mono hl hB.size)⟩
                      have hq0 : (0 : Int) ≤ (q : Int) := by omega
                      have hqk : (q : Int) < (k : Int) := by omega
                      have hqm : (q : Int) < (mn : Int) := by omega
                      clear hth htf hno ck cq hbx hB
                      go_wp2_with fail
                      refine wp_region_M (R := Later) 11 (by kernel_rfl) ?_
                      refine tkM 0 ?_ rfl (fun w1 hl => ?_) ?_
                      rotate_left
                      · obtain ⟨hbx, c4, c5, _⟩ := HF.out w1 hl; obtain ⟨x0, x1, x2, x3⟩ := hbx.dfa; dsimp only at x0 x1 x2 x3; go_simp; try with_reducible rfl
                      simp only [eA, eB, Act.put, eD, eE, eF]
                      refine tkM 1 ?_ rfl (fun w1 hl => ?_) ?_
                      rotate_left
                      · obtain ⟨hbx, c4, c5, _⟩ := HF.out w1 hl; obtain ⟨x0, x1, x2, x3⟩ := hbx.dfa; dsimp only at x0 x1 x2 x3; go_simp; try with_reducible rfl
                      simp only [eA, eB, eC, Act.put, eD, eE, eF]
                      refine tkM 2 ?_ rfl (fun w1 hl => ?_) ?_
                      rotate_left
                      · obtain ⟨hbx, c4, c5, _⟩ := HF.out w1 hl; obtain ⟨x0, x1, x2, x3⟩ := hbx.dfa; dsimp only at x0 x1 x2 x3; go_simp; try with_reducible rfl
                      simp only [eA, eB, eC, Act.put, eD, eE, eF]
                      refine tkM 3 ?_ rfl (fun w1 hl => ?_) ?_
                      rotate_left
                      · obtain ⟨hbx, c4, c5, _⟩ := HF.out w1 hl; obtain ⟨x0, x1, x2, x3⟩ := hbx.dfa; dsimp only at x0 x1 x2 x3; go_simp; try with_reducible rfl
                      simp only [eA, eB, eC, Act.put, eD, eE, eF]
                      refine tkM 4 ?_ rfl (fun w1 hl => ?_) ?_
                      rotate_left
                      · obtain ⟨hbx, c4, c5, _⟩ := HF.out w1 hl; obtain ⟨x0, x1, x2, x3⟩ := hbx.dfa; dsimp only at x0 x1 x2 x3; go_simp; try with_reducible rfl
                      simp only [eA, eB, eC, Act.put, eD, eE, eF]
                      refine tkM 5 ?_ rfl (fun w1 hl => ?_) ?_
                      rotate_left
                      · obtain ⟨hbx, c4, c5, _⟩ := HF.out w1 hl; obtain ⟨x0, x1, x2, x3⟩ := hbx.dfa; dsimp only at x0 x1 x2 x3; go_simp; try with_reducible rfl
                      simp only [eA, eB, eC, Act.put, eD, eE, eF]
                      refine tkM 6 ?_ rfl (fun w1 hl => ?_) ?_
                      rotate_left
                      · obtain ⟨hbx, c4, c5, _⟩ := HF.out w1 hl; obtain ⟨x0, x1, x2, x3⟩ := hbx.dfa; dsimp only at x0 x1 x2 x3; go_simp; try with_reducible rfl
                      simp only [eA, eB, eC, Act.put, eD, eE, eF]
                      refine tkM 7 ?_ rfl (fun w1 hl => ?_) ?_
                      rotate_left
                      · obtain ⟨hbx, c4, c5, _⟩ := HF.out w1 hl; obtain ⟨x0, x1, x2, x3⟩ := hbx.dfa; dsimp only at x0 x1 x2 x3; go_simp; try with_reducible rfl
                      simp only [eA, eB, eC, Act.put, eD, eE, eF]
                      refine tkM 8 ?_ rfl (fun w1 hl => ?_) ?_
                      rotate_left
                      · obtain ⟨hbx, c4, c5, _⟩ := HF.out w1 hl; obtain ⟨x0, x1, x2, x3⟩ := hbx.dfa; dsimp only at x0 x1 x2 x3; go_simp; try with_reducible rfl
                      simp only [eA, eB, eC, Act.put, eD, eE, eF]
                      refine tkM 9 ?_ rfl (fun w1 hl => ?_) ?_
                      rotate_left
                      · obtain ⟨hbx, c4, c5, _⟩ := HF.out w1 hl; obtain ⟨x0, x1, x2, x3⟩ := hbx.dfa; dsimp only at x0 x1 x2 x3; go_simp; try with_reducible rfl
                      simp only [eA, eB, eC, Act.put, eD, eE, eF]
                      refine tkM 10 ?_ rfl (fun w1 hl => ?_) ?_
                      rotate_left
                      · obtain ⟨hbx, c4, c5, _⟩ := HF.out w1 hl; obtain ⟨x0, x1, x2, x3⟩ := hbx.dfa; dsimp only at x0 x1 x2 x3; go_simp; try with_reducible rfl
                      simp only [eA, eB, eC, Act.put, eD, eE, eF]
                      refine wpM_done (by kernel_rfl) (fun w1 hl => ?_) _
                      have hB9 := (HF.out _ hl).2.2.2
                      have hbx9 := (HF.out _ hl).1
                      clear hl
                      cases hrs : r == s with
                      | true =>
                        have hr2 : r = s := by simpa using hrs
                        have hx : nameAt nm k = false := by rw [HX.out, HTF.out hr2]; rfl
                        have HX2 := Lib.hid hx
                        clear hx hr2
                        go_wp2
                        go_ret
                        exact ⟨by rw [HFL.out HX2.out]; rfl, hB9⟩
                      | false =>
                        have HX2 := Lib.hid hrs
                        go_wp2
                        go_roundw
                        case rel => exact ⟨q + 1, hlt2, by go_num, by rw [HTH.out, HX2.out], hbx9, hB9⟩
                        case measure => simp [intOf]; omega
                    · obtain rfl : q = k := by omega
                      have hx : nameAt nm q = true := by rw [HX.out, hno]; rfl
                      have HX2 := Lib.hid hx
                      clear hno hx
                      go_wp2
                      go_roundw
                      case rel => exact ⟨q + 1, hlt, by go_num, by rw [HSU.out, HX2.out], hbx, hB⟩
                      case measure => simp [intOf]; omega
              · obtain rfl : k = mn := by omega
                have hok0 := hok
                clear hok x0 x1 x2 x3
                have hrt0 : rowsTo ⟨of, wd, nx, lb, nm⟩ 0 = true := rfl
                have hlen : nx.length = nn := by have := HE.out.1; have := HH.out.1; omega
                have HN := Lib.hid (And.intro hok0 hlen)
                have hat := fun q => @rowOK_at of wd nx lb nm nn k HE.out.2.1 HE.out.2.2 q
                generalize rowsTo ⟨of, wd, nx, lb, nm⟩ = rt at *
                generalize rowOK ⟨of, wd, nx, lb, nm⟩ = ro at *
                have HAT := Lib.hid hat
                obtain ⟨x0, x1, x2, x3⟩ := hbx.dfa
                dsimp only at x0 x1 x2 x3
                clear hat
                go_wp2
                go_loopw [6] (fun i wr => ∃ q : Nat, q ≤ nn ∧ i = .int .i64 q ∧ rt q = true ∧ Box wr w.heap.size (VDfa.cells ⟨of, wd, na, nn, nc, la, nn, lc, ma, k, mc⟩) 28 ∧ Below w.heap.size w wr) (fun i _ => nn - (intOf i).toNat)
                case atStart => exact ⟨0, Nat.zero_le _, rfl, hrt0, hbx, hB⟩
                case round =>
                  clear hbx hB hrt0 x0 x1 x2 x3
                  obtain ⟨q, hq, rfl, hok, hbx, hB⟩ := hrel
                  by_cases hlt : q < nn
                  · have hk1 : q < nx.length := by omega
                    have hk2 : q < lb.length := by have := HE.out.2.1; omega
                    have hk3 : q < rows.length := by have := HE.out.1; omega
                    obtain rfl := HA.out.1 q hk3
                    obtain rfl := HA.out.2.1 q hk2
                    have c5 := HK.out.1 q hk3 wr hB
                    have c3 := HK.out.2.1 q hk2 wr hB
                    have hro := HAT.out q hk1 hk2
                    obtain ⟨ra, rc, hr, hrs⟩ := HH.out.2 q hk3 hk1
                    rw [hr] at c5
                    have hsucc := HST.out q
                    rw [hok, Bool.true_and] at hsucc
                    have hfalse := HFA.out q nn hlt
                    have HC5 : Hid (∀ v, Below w.heap.size w v → v.cell? ⟨b5, o5 + q, none⟩ = some (.slice ra nx[q].length rc)) := Lib.hid fun v hv => by have := HK.out.1 q hk3 v hv; rw [this, hr]
                    generalize nx[q] = row at *
                    generalize lb[q] = lab at *
                    have HRO := Lib.hid hro
                    have HSU := Lib.hid hsucc
                    have HFL := Lib.hid hfalse
                    have hk0 : (0 : Int) ≤ (q : Int) := by omega
                    have hkm : (q : Int) < (nn : Int) := by omega
                    clear hro hr hsucc hfalse hok hlen hok0
                    have hrl : row.length ≤ 9223372036854775807 := by obtain ⟨_, _, _, h1, h2, _⟩ := hrs.cells1; omega
                    obtain ⟨b6, o6, _, _, _, a6, k6⟩ := hrs.cells1
                    have hra := fun q => rowAt_succ row nn q
                    have hrz := rowAt_all row nn
                    have hraf := fun q h hp => all_false (r := row) (p := fun t => decide (0 ≤ t) && decide (t < (nn : Nat))) (k := q) h hp
                    obtain ⟨r, hrr⟩ : ∃ r, row.length = r := ⟨_, rfl⟩
                    rw [hrr] at hrl
                    have HRR := Lib.hid hrr
                    have HRA := Lib.hid hra
                    have HRZ := Lib.hid hrz
                    have HRF := Lib.hid hraf
                    have HA6 := Lib.hid a6
                    have HK6 := Lib.hid k6
                    rw [hrr] at c5 HC5
                    have HRO2 : Hid (ro q = ((decide (((r : Nat) : Int) = wd) && (decide (0 ≤ lab) && decide (lab ≤ (k : Nat)))) && row.all fun t => decide (0 ≤ t) && decide (t < (nn : Nat)))) := Lib.hid (by rw [HRO.out, HRR.out])
                    have HF : Hid (∀ v, Later wr.drew v → Box v w.heap.size (VDfa.cells ⟨of, wd, some ⟨b5, o5, none⟩, nn, nc, some ⟨b3, o3, none⟩, nn, lc, ma, k, mc⟩) 28 ∧ v.cell? ⟨b5, o5 + q, none⟩ = some (.slice ra r rc) ∧ v.cell? ⟨b3, o3 + q, none⟩ = some (.int .i64 lab) ∧ Below w.heap.size w v) := Lib.hid fun v hl =>
                      ⟨hbx.drew.kept hl, (Below.cell hl (World.block_lt_of_cell? wr _ c5)).trans c5, (Below.cell hl (World.block_lt_of_cell? wr _ c3)).trans c3, hB.drew.trans (Below.mono hl hB.size)⟩
                    clear hrr hra hrz hraf a6 k6 HRO
                    clear hbx hB hrs
                    have c5' := (HF.out wr.drew (Below.refl _ _)).2.1
                    have c3' := (HF.out wr.drew (Below.refl _ _)).2.2.1
                    by_cases h1 : (r : Int) = wd
                    · have g1 : ((r : Int) != wd) = false := by simp [h1]
                      by_cases h2 : lab < 0
                      · have g2 : decide (lab < 0) = true := by simp [h2]
                        go_wp2_with fail
                        refine wp_region_M (R := Later) 28 (by kernel_rfl) ?_
                        refine tkM 0 ?_ rfl (fun w1 hl => ?_) ?_
                        rotate_left
                        · obtain ⟨hbx, c5, c3, _⟩ := HF.out w1 hl; obtain ⟨x0, x1, x2, x3⟩ := hbx.dfa; dsimp only at x0 x1 x2 x3; go_simp; try with_reducible rfl
                        simp only [eA, eB, Act.put, eD, eE, eF]
                        refine tkM 1 ?_ rfl (fun w1 hl => ?_) ?_
                        rotate_left
                        · obtain ⟨hbx, c5, c3, _⟩ := HF.out w1 hl; obtain ⟨x0, x1, x2, x3⟩ := hbx.dfa; dsimp only at x0 x1 x2 x3; go_simp; try with_reducible rfl
                        simp only [eA, eB, eC, Act.put, eD, eE, eF]
                        refine tkM 2 ?_ rfl (fun w1 hl => ?_) ?_
                        rotate_left
                        · obtain ⟨hbx, c5, c3, _⟩ := HF.out w1 hl; obtain ⟨x0, x1, x2, x3⟩ := hbx.dfa; dsimp only at x0 x1 x2 x3; go_simp; try with_reducible rfl
                        simp only [eA, eB, eC, Act.put, eD, eE, eF]
                        refine tkM 3 ?_ rfl (fun w1 hl => ?_) ?_
                        rotate_left
                        · obtain ⟨hbx, c5, c3, _⟩ := HF.out w1 hl; obtain ⟨x0, x1, x2, x3⟩ := hbx.dfa; dsimp only at x0 x1 x2 x3; go_simp; try with_reducible rfl
                        simp only [eA, eB, eC, Act.put, eD, eE, eF]
                        refine tkM 4 ?_ rfl (fun w1 hl => ?_) ?_
                        rotate_left
                        · obtain ⟨hbx, c5, c3, _⟩ := HF.out w1 hl; obtain ⟨x0, x1, x2, x3⟩ := hbx.dfa; dsimp only at x0 x1 x2 x3; go_simp; try with_reducible rfl
                        simp only [eA, eB, eC, Act.put, eD, eE, eF]
                        refine tkM 5 ?_ rfl (fun w1 hl => ?_) ?_
                        rotate_left
                        · obtain ⟨hbx, c5, c3, _⟩ := HF.out w1 hl; obtain ⟨x0, x1, x2, x3⟩ := hbx.dfa; dsimp only at x0 x1 x2 x3; go_simp; try with_reducible rfl
                        simp only [eA, eB, eC, Act.put, eD, eE, eF]
                        refine tkM 6 ?_ rfl (fun w1 hl => ?_) ?_
                        rotate_left
                        · obtain ⟨hbx, c5, c3, _⟩ := HF.out w1 hl; obtain ⟨x0, x1, x2, x3⟩ := hbx.dfa; dsimp only at x0 x1 x2 x3; go_simp; try with_reducible rfl
                        simp only [eA, eB, eC, Act.put, eD, eE, eF]
                        refine tkM 7 ?_ rfl (fun w1 hl => ?_) ?_
                        rotate_left
                        · obtain ⟨hbx, c5, c3, _⟩ := HF.out w1 hl; obtain ⟨x0, x1, x2, x3⟩ := hbx.dfa; dsimp only at x0 x1 x2 x3; go_simp; try with_reducible rfl
                        simp only [eA, eB, eC, Act.put, eD, eE, eF]
                        refine tkM 8 ?_ rfl (fun w1 hl => ?_) ?_
                        rotate_left
                        · obtain ⟨hbx, c5, c3, _⟩ := HF.out w1 hl; obtain ⟨x0, x1, x2, x3⟩ := hbx.dfa; dsimp only at x0 x1 x2 x3; go_simp; try with_reducible rfl
                        simp only [eA, eB, eC, Act.put, eD, eE, eF]
                        refine tkM 9 ?_ rfl (fun w1 hl => ?_) ?_
                        rotate_left
                        · obtain ⟨hbx, c5, c3, _⟩ := HF.out w1 hl; obtain ⟨x0, x1, x2, x3⟩ := hbx.dfa; dsimp only at x0 x1 x2 x3; go_simp; try with_reducible rfl
                        simp only [eA, eB, eC, Act.put, eD, eE, eF]
                        refine tkM 10 ?_ rfl (fun w1 hl => ?_) ?_
                        rotate_left
                        · obtain ⟨hbx, c5, c3, _⟩ := HF.out w1 hl; obtain ⟨x0, x1, x2, x3⟩ := hbx.dfa; dsimp only at x0 x1 x2 x3; go_simp; try with_reducible rfl
                        simp only [eA, eB, eC, Act.put, eD, eE, eF]
                        refine tkM 11 ?_ rfl (fun w1 hl => ?_) ?_
                        rotate_left
                        · obtain ⟨hbx, c5, c3, _⟩ := HF.out w1 hl; obtain ⟨x0, x1, x2, x3⟩ := hbx.dfa; dsimp only at x0 x1 x2 x3; go_simp; try with_reducible rfl
                        simp only [eA, eB, eC, Act.put, eD, eE, eF]
                        refine tkM 12 ?_ rfl (fun w1 hl => ?_) ?_
                        rotate_left
                        · obtain ⟨hbx, c5, c3, _⟩ := HF.out w1 hl; obtain ⟨x0, x1, x2, x3⟩ := hbx.dfa; dsimp only at x0 x1 x2 x3; go_simp; try with_reducible rfl
                        simp only [eA, eB, eC, Act.put, eD, eE, eF]
                        refine tkM 13 ?_ rfl (fun w1 hl => ?_) ?_
                        rotate_left
                        · obtain ⟨hbx, c5, c3, _⟩ := HF.out w1 hl; obtain ⟨x0, x1, x2, x3⟩ := hbx.dfa; dsimp only at x0 x1 x2 x3; go_simp; try with_reducible rfl
                        simp only [eA, eB, eC, Act.put, eD, eE, eF]
                        refine tkM 14 ?_ rfl (fun w1 hl => ?_) ?_
                        rotate_left
                        · obtain ⟨hbx, c5, c3, _⟩ := HF.out w1 hl; obtain ⟨x0, x1, x2, x3⟩ := hbx.dfa; dsimp only at x0 x1 x2 x3; go_simp; try with_reducible rfl
                        simp only [eA, eB, eC, Act.put, eD, eE, eF]
                        refine tkM 15 ?_ rfl (fun w1 hl => ?_) ?_
                        rotate_left
                        · obtain ⟨hbx, c5, c3, _⟩ := HF.out w1 hl; obtain ⟨x0, x1, x2, x3⟩ := hbx.dfa; dsimp only at x0 x1 x2 x3; go_simp; try with_reducible rfl
                        simp only [eA, eB, eC, Act.put, eD, eE, eF]
                        refine tkM 16 ?_ rfl (fun w1 hl => ?_) ?_
                        rotate_left
                        · obtain ⟨hbx, c5, c3, _⟩ := HF.out w1 hl; obtain ⟨x0, x1, x2, x3⟩ := hbx.dfa; dsimp only at x0 x1 x2 x3; go_simp; try with_reducible rfl
                        simp only [eA, eB, eC, Act.put, eD, eE, eF]
                        refine tkM 17 ?_ rfl (fun w1 hl => ?_) ?_
                        rotate_left
                        · obtain ⟨hbx, c5, c3, _⟩ := HF.out w1 hl; obtain ⟨x0, x1, x2, x3⟩ := hbx.dfa; dsimp only at x0 x1 x2 x3; go_simp; try with_reducible rfl
                        simp only [eA, eB, eC, Act.put, eD, eE, eF]
                        refine skM 18 rfl ?_
                        simp only [eA, eB, eC, Act.put, eD, eE, eF]
                        refine skM 19 rfl ?_
                        simp only [eA, eB, eC, Act.put, eD, eE, eF]
                        refine skM 20 rfl ?_
                        simp only [eA, eB, eC, Act.put, eD, eE, eF]
                        refine skM 21 rfl ?_
                        simp only [eA, eB, eC, Act.put, eD, eE, eF]
                        refine skM 22 rfl ?_
                        simp only [eA, eB, eC, Act.put, eD, eE, eF]
                        refine skM 23 rfl ?_
                        simp only [eA, eB, eC, Act.put, eD, eE, eF]
                        refine skM 24 rfl ?_
                        simp only [eA, eB, eC, Act.put, eD, eE, eF]
                        refine skM 25 rfl ?_
                        simp only [eA, eB, eC, Act.put, eD, eE, eF]
                        refine skM 26 rfl ?_
                        simp only [eA, eB, eC, Act.put, eD, eE, eF]
                        refine tkM 27 ?_ rfl (fun w1 hl => ?_) ?_
                        rotate_left
                        · obtain ⟨hbx, c5, c3, _⟩ := HF.out w1 hl; obtain ⟨x0, x1, x2, x3⟩ := hbx.dfa; dsimp only at x0 x1 x2 x3; go_simp; try with_reducible rfl
                        simp only [eA, eB, eC, Act.put, eD, eE, eF]
                        refine wpM_done (by kernel_rfl) (fun w1 hl => ?_) _
                        have hB9 := (HF.out _ hl).2.2.2
                        go_wp2
                        go_ret
                        exact ⟨by rw [HN.out.1, HN.out.2, HFL.out (by rw [HRO2.out]; simp; omega)]; rfl, hB9⟩
                      · have g2 : decide (lab < 0) = false := by simp; omega
                        by_cases h3 : (k : Int) < lab
                        · have g3 : decide ((k : Int) < lab) = true := by simp [h3]
                          go_wp2_with fail
                          refine wp_region_M (R := Later) 28 (by kernel_rfl) ?_
                          refine tkM 0 ?_ rfl (fun w1 hl => ?_) ?_
                          rotate_left
                          · obtain ⟨hbx, c5, c3, _⟩ := HF.out w1 hl; obtain ⟨x0, x1, x2, x3⟩ := hbx.dfa; dsimp only at x0 x1 x2 x3; go_simp; try with_reducible rfl
                          simp only [eA, eB, Act.put, eD, eE, eF]
                          refine tkM 1 ?_ rfl (fun w1 hl => ?_) ?_
                          rotate_left
                          · obtain ⟨hbx, c5, c3, _⟩ := HF.out w1 hl; obtain ⟨x0, x1, x2, x3⟩ := hbx.dfa; dsimp only at x0 x1 x2 x3; go_simp; try with_reducible rfl
                          simp only [eA, eB, eC, Act.put, eD, eE, eF]
                          refine tkM 2 ?_ rfl (fun w1 hl => ?_) ?_
                          rotate_left
                          · obtain ⟨hbx, c5, c3, _⟩ := HF.out w1 hl; obtain ⟨x0, x1, x2, x3⟩ := hbx.dfa; dsimp only at x0 x1 x2 x3; go_simp; try with_reducible rfl
                          simp only [eA, eB, eC, Act.put, eD, eE, eF]
                          refine tkM 3 ?_ rfl (fun w1 hl => ?_) ?_
                          rotate_left
                          · obtain ⟨hbx, c5, c3, _⟩ := HF.out w1 hl; obtain ⟨x0, x1, x2, x3⟩ := hbx.dfa; dsimp only at x0 x1 x2 x3; go_simp; try with_reducible rfl
                          simp only [eA, eB, eC, Act.put, eD, eE, eF]
                          refine tkM 4 ?_ rfl (fun w1 hl => ?_) ?_
                          rotate_left
                          · obtain ⟨hbx, c5, c3, _⟩ := HF.out w1 hl; obtain ⟨x0, x1, x2, x3⟩ := hbx.dfa; dsimp only at x0 x1 x2 x3; go_simp; try with_reducible rfl
                          simp only [eA, eB, eC, Act.put, eD, eE, eF]
                          refine tkM 5 ?_ rfl (fun w1 hl => ?_) ?_
                          rotate_left
                          · obtain ⟨hbx, c5, c3, _⟩ := HF.out w1 hl; obtain ⟨x0, x1, x2, x3⟩ := hbx.dfa; dsimp only at x0 x1 x2 x3; go_simp; try with_reducible rfl
                          simp only [eA, eB, eC, Act.put, eD, eE, eF]
                          refine tkM 6 ?_ rfl (fun w1 hl => ?_) ?_
                          rotate_left
                          · obtain ⟨hbx, c5, c3, _⟩ := HF.out w1 hl; obtain ⟨x0, x1, x2, x3⟩ := hbx.dfa; dsimp only at x0 x1 x2 x3; go_simp; try with_reducible rfl
                          simp only [eA, eB, eC, Act.put, eD, eE, eF]
                          refine tkM 7 ?_ rfl (fun w1 hl => ?_) ?_
                          rotate_left
                          · obtain ⟨hbx, c5, c3, _⟩ := HF.out w1 hl; obtain ⟨x0, x1, x2, x3⟩ := hbx.dfa; dsimp only at x0 x1 x2 x3; go_simp; try with_reducible rfl
                          simp only [eA, eB, eC, Act.put, eD, eE, eF]
                          refine tkM 8 ?_ rfl (fun w1 hl => ?_) ?_
                          rotate_left
                          · obtain ⟨hbx, c5, c3, _⟩ := HF.out w1 hl; obtain ⟨x0, x1, x2, x3⟩ := hbx.dfa; dsimp only at x0 x1 x2 x3; go_simp; try with_reducible rfl
                          simp only [eA, eB, eC, Act.put, eD, eE, eF]
                          refine tkM 9 ?_ rfl (fun w1 hl => ?_) ?_
                          rotate_left
                          · obtain ⟨hbx, c5, c3, _⟩ := HF.out w1 hl; obtain ⟨x0, x1, x2, x3⟩ := hbx.dfa; dsimp only at x0 x1 x2 x3; go_simp; try with_reducible rfl
                          simp only [eA, eB, eC, Act.put, eD, eE, eF]
                          refine tkM 10 ?_ rfl (fun w1 hl => ?_) ?_
                          rotate_left
                          · obtain ⟨hbx, c5, c3, _⟩ := HF.out w1 hl; obtain ⟨x0, x1, x2, x3⟩ := hbx.dfa; dsimp only at x0 x1 x2 x3; go_simp; try with_reducible rfl
                          simp only [eA, eB, eC, Act.put, eD, eE, eF]
                          refine tkM 11 ?_ rfl (fun w1 hl => ?_) ?_
                          rotate_left
                          · obtain ⟨hbx, c5, c3, _⟩ := HF.out w1 hl; obtain ⟨x0, x1, x2, x3⟩ := hbx.dfa; dsimp only at x0 x1 x2 x3; go_simp; try with_reducible rfl
                          simp only [eA, eB, eC, Act.put, eD, eE, eF]
                          refine tkM 12 ?_ rfl (fun w1 hl => ?_) ?_
                          rotate_left
                          · obtain ⟨hbx, c5, c3, _⟩ := HF.out w1 hl; obtain ⟨x0, x1, x2, x3⟩ := hbx.dfa; dsimp only at x0 x1 x2 x3; go_simp; try with_reducible rfl
                          simp only [eA, eB, eC, Act.put, eD, eE, eF]
                          refine tkM 13 ?_ rfl (fun w1 hl => ?_) ?_
                          rotate_left
                          · obtain ⟨hbx, c5, c3, _⟩ := HF.out w1 hl; obtain ⟨x0, x1, x2, x3⟩ := hbx.dfa; dsimp only at x0 x1 x2 x3; go_simp; try with_reducible rfl
                          simp only [eA, eB, eC, Act.put, eD, eE, eF]
                          refine tkM 14 ?_ rfl (fun w1 hl => ?_) ?_
                          rotate_left
                          · obtain ⟨hbx, c5, c3, _⟩ := HF.out w1 hl; obtain ⟨x0, x1, x2, x3⟩ := hbx.dfa; dsimp only at x0 x1 x2 x3; go_simp; try with_reducible rfl
                          simp only [eA, eB, eC, Act.put, eD, eE, eF]
                          refine tkM 15 ?_ rfl (fun w1 hl => ?_) ?_
                          rotate_left
                          · obtain ⟨hbx, c5, c3, _⟩ := HF.out w1 hl; obtain ⟨x0, x1, x2, x3⟩ := hbx.dfa; dsimp only at x0 x1 x2 x3; go_simp; try with_reducible rfl
                          simp only [eA, eB, eC, Act.put, eD, eE, eF]
                          refine tkM 16 ?_ rfl (fun w1 hl => ?_) ?_
                          rotate_left
                          · obtain ⟨hbx, c5, c3, _⟩ := HF.out w1 hl; obtain ⟨x0, x1, x2, x3⟩ := hbx.dfa; dsimp only at x0 x1 x2 x3; go_simp; try with_reducible rfl
                          simp only [eA, eB, eC, Act.put, eD, eE, eF]
                          refine tkM 17 ?_ rfl (fun w1 hl => ?_) ?_
                          rotate_left
                          · obtain ⟨hbx, c5, c3, _⟩ := HF.out w1 hl; obtain ⟨x0, x1, x2, x3⟩ := hbx.dfa; dsimp only at x0 x1 x2 x3; go_simp; try with_reducible rfl
                          simp only [eA, eB, eC, Act.put, eD, eE, eF]
                          refine tkM 18 ?_ rfl (fun w1 hl => ?_) ?_
                          rotate_left
                          · obtain ⟨hbx, c5, c3, _⟩ := HF.out w1 hl; obtain ⟨x0, x1, x2, x3⟩ := hbx.dfa; dsimp only at x0 x1 x2 x3; go_simp; try with_reducible rfl
                          simp only [eA, eB, eC, Act.put, eD, eE, eF]
                          refine tkM 19 ?_ rfl (fun w1 hl => ?_) ?_
                          rotate_left
                          · obtain ⟨hbx, c5, c3, _⟩ := HF.out w1 hl; obtain ⟨x0, x1, x2, x3⟩ := hbx.dfa; dsimp only at x0 x1 x2 x3; go_simp; try with_reducible rfl
                          simp only [eA, eB, eC, Act.put, eD, eE, eF]
                          refine tkM 20 ?_ rfl (fun w1 hl => ?_) ?_
                          rotate_left
                          · obtain ⟨hbx, c5, c3, _⟩ := HF.out w1 hl; obtain ⟨x0, x1, x2, x3⟩ := hbx.dfa; dsimp only at x0 x1 x2 x3; go_simp; try with_reducible rfl
                          simp only [eA, eB, eC, Act.put, eD, eE, eF]
                          refine tkM 21 ?_ rfl (fun w1 hl => ?_) ?_
                          rotate_left
                          · obtain ⟨hbx, c5, c3, _⟩ := HF.out w1 hl; obtain ⟨x0, x1, x2, x3⟩ := hbx.dfa; dsimp only at x0 x1 x2 x3; go_simp; try with_reducible rfl
                          simp only [eA, eB, eC, Act.put, eD, eE, eF]
                          refine tkM 22 ?_ rfl (fun w1 hl => ?_) ?_
                          rotate_left
                          · obtain ⟨hbx, c5, c3, _⟩ := HF.out w1 hl; obtain ⟨x0, x1, x2, x3⟩ := hbx.dfa; dsimp only at x0 x1 x2 x3; go_simp; try with_reducible rfl
                          simp only [eA, eB, eC, Act.put, eD, eE, eF]
                          refine tkM 23 ?_ rfl (fun w1 hl => ?_) ?_
                          rotate_left
                          · obtain ⟨hbx, c5, c3, _⟩ := HF.out w1 hl; obtain ⟨x0, x1, x2, x3⟩ := hbx.dfa; dsimp only at x0 x1 x2 x3; go_simp; try with_reducible rfl
                          simp only [eA, eB, eC, Act.put, eD, eE, eF]
                          refine tkM 24 ?_ rfl (fun w1 hl => ?_) ?_
                          rotate_left
                          · obtain ⟨hbx, c5, c3, _⟩ := HF.out w1 hl; obtain ⟨x0, x1, x2, x3⟩ := hbx.dfa; dsimp only at x0 x1 x2 x3; go_simp; try with_reducible rfl
                          simp only [eA, eB, eC, Act.put, eD, eE, eF]
                          refine tkM 25 ?_ rfl (fun w1 hl => ?_) ?_
                          rotate_left
                          · obtain ⟨hbx, c5, c3, _⟩ := HF.out w1 hl; obtain ⟨x0, x1, x2, x3⟩ := hbx.dfa; dsimp only at x0 x1 x2 x3; go_simp; try with_reducible rfl
                          simp only [eA, eB, eC, Act.put, eD, eE, eF]
                          refine tkM 26 ?_ rfl (fun w1 hl => ?_) ?_
                          rotate_left
                          · obtain ⟨hbx, c5, c3, _⟩ := HF.out w1 hl; obtain ⟨x0, x1, x2, x3⟩ := hbx.dfa; dsimp only at x0 x1 x2 x3; go_simp; try with_reducible rfl
                          simp only [eA, eB, eC, Act.put, eD, eE, eF]
                          refine tkM 27 ?_ rfl (fun w1 hl => ?_) ?_
                          rotate_left
                          · obtain ⟨hbx, c5, c3, _⟩ := HF.out w1 hl; obtain ⟨x0, x1, x2, x3⟩ := hbx.dfa; dsimp only at x0 x1 x2 x3; go_simp; try with_reducible rfl
                          simp only [eA, eB, eC, Act.put, eD, eE, eF]
                          refine wpM_done (by kernel_rfl) (fun w1 hl => ?_) _
                          have hB9 := (HF.out _ hl).2.2.2
                          go_wp2
                          go_ret
                          exact ⟨by rw [HN.out.1, HN.out.2, HFL.out (by rw [HRO2.out]; simp; omega)]; rfl, hB9⟩
                        · have g3 : decide ((k : Int) < lab) = false := by simp; omega
                          have HH3 := Lib.hid (And.intro h1 (And.intro h2 h3))
                          subst h1
                          clear h2 h3
                          go_wp2_with fail
                          refine wp_region_M (R := Later) 28 (by kernel_rfl) ?_
                          refine tkM 0 ?_ rfl (fun w1 hl => ?_) ?_
                          rotate_left
                          · obtain ⟨hbx, c5, c3, _⟩ := HF.out w1 hl; obtain ⟨x0, x1, x2, x3⟩ := hbx.dfa; dsimp only at x0 x1 x2 x3; go_simp; try with_reducible rfl
                          simp only [eA, eB, Act.put, eD, eE, eF]
                          refine tkM 1 ?_ rfl (fun w1 hl => ?_) ?_
                          rotate_left
                          · obtain ⟨hbx, c5, c3, _⟩ := HF.out w1 hl; obtain ⟨x0, x1, x2, x3⟩ := hbx.dfa; dsimp only at x0 x1 x2 x3; go_simp; try with_reducible rfl
                          simp only [eA, eB, eC, Act.put, eD, eE, eF]
                          refine tkM 2 ?_ rfl (fun w1 hl => ?_) ?_
                          rotate_left
                          · obtain ⟨hbx, c5, c3, _⟩ := HF.out w1 hl; obtain ⟨x0, x1, x2, x3⟩ := hbx.dfa; dsimp only at x0 x1 x2 x3; go_simp; try with_reducible rfl
                          simp only [eA, eB, eC, Act.put, eD, eE, eF]
                          refine tkM 3 ?_ rfl (fun w1 hl => ?_) ?_
                          rotate_left
                          · obtain ⟨hbx, c5, c3, _⟩ := HF.out w1 hl; obtain ⟨x0, x1, x2, x3⟩ := hbx.dfa; dsimp only at x0 x1 x2 x3; go_simp; try with_reducible rfl
                          simp only [eA, eB, eC, Act.put, eD, eE, eF]
                          refine tkM 4 ?_ rfl (fun w1 hl => ?_) ?_
                          rotate_left
                          · obtain ⟨hbx, c5, c3, _⟩ := HF.out w1 hl; obtain ⟨x0, x1, x2, x3⟩ := hbx.dfa; dsimp only at x0 x1 x2 x3; go_simp; try with_reducible rfl
                          simp only [eA, eB, eC, Act.put, eD, eE, eF]
                          refine tkM 5 ?_ rfl (fun w1 hl => ?_) ?_
                          rotate_left
                          · obtain ⟨hbx, c5, c3, _⟩ := HF.out w1 hl; obtain ⟨x0, x1, x2, x3⟩ := hbx.dfa; dsimp only at x0 x1 x2 x3; go_simp; try with_reducible rfl
                          simp only [eA, eB, eC, Act.put, eD, eE, eF]
                          refine tkM 6 ?_ rfl (fun w1 hl => ?_) ?_
                          rotate_left
                          · obtain ⟨hbx, c5, c3, _⟩ := HF.out w1 hl; obtain ⟨x0, x1, x2, x3⟩ := hbx.dfa; dsimp only at x0 x1 x2 x3; go_simp; try with_reducible rfl
                          simp only [eA, eB, eC, Act.put, eD, eE, eF]
                          refine tkM 7 ?_ rfl (fun w1 hl => ?_) ?_
                          rotate_left
                          · obtain ⟨hbx, c5, c3, _⟩ := HF.out w1 hl; obtain ⟨x0, x1, x2, x3⟩ := hbx.dfa; dsimp only at x0 x1 x2 x3; go_simp; try with_reducible rfl
                          simp only [eA, eB, eC, Act.put, eD, eE, eF]
                          refine tkM 8 ?_ rfl (fun w1 hl => ?_) ?_
                          rotate_left
                          · obtain ⟨hbx, c5, c3, _⟩ := HF.out w1 hl; obtain ⟨x0, x1, x2, x3⟩ := hbx.dfa; dsimp only at x0 x1 x2 x3; go_simp; try with_reducible rfl
                          simp only [eA, eB, eC, Act.put, eD, eE, eF]
                          refine tkM 9 ?_ rfl (fun w1 hl => ?_) ?_
                          rotate_left
                          · obtain ⟨hbx, c5, c3, _⟩ := HF.out w1 hl; obtain ⟨x0, x1, x2, x3⟩ := hbx.dfa; dsimp only at x0 x1 x2 x3; go_simp; try with_reducible rfl
                          simp only [eA, eB, eC, Act.put, eD, eE, eF]
                          refine tkM 10 ?_ rfl (fun w1 hl => ?_) ?_
                          rotate_left
                          · obtain ⟨hbx, c5, c3, _⟩ := HF.out w1 hl; obtain ⟨x0, x1, x2, x3⟩ := hbx.dfa; dsimp only at x0 x1 x2 x3; go_simp; try with_reducible rfl
                          simp only [eA, eB, eC, Act.put, eD, eE, eF]
                          refine tkM 11 ?_ rfl (fun w1 hl => ?_) ?_
                          rotate_left
                          · obtain ⟨hbx, c5, c3, _⟩ := HF.out w1 hl; obtain ⟨x0, x1, x2, x3⟩ := hbx.dfa; dsimp only at x0 x1 x2 x3; go_simp; try with_reducible rfl
                          simp only [eA, eB, eC, Act.put, eD, eE, eF]
                          refine tkM 12 ?_ rfl (fun w1 hl => ?_) ?_
                          rotate_left
                          · obtain ⟨hbx, c5, c3, _⟩ := HF.out w1 hl; obtain ⟨x0, x1, x2, x3⟩ := hbx.dfa; dsimp only at x0 x1 x2 x3; go_simp; try with_reducible rfl
                          simp only [eA, eB, eC, Act.put, eD, eE, eF]
                          refine tkM 13 ?_ rfl (fun w1 hl => ?_) ?_
                          rotate_left
                          · obtain ⟨hbx, c5, c3, _⟩ := HF.out w1 hl; obtain ⟨x0, x1, x2, x3⟩ := hbx.dfa; dsimp only at x0 x1 x2 x3; go_simp; try with_reducible rfl
                          simp only [eA, eB, eC, Act.put, eD, eE, eF]
                          refine tkM 14 ?_ rfl (fun w1 hl => ?_) ?_
                          rotate_left
                          · obtain ⟨hbx, c5, c3, _⟩ := HF.out w1 hl; obtain ⟨x0, x1, x2, x3⟩ := hbx.dfa; dsimp only at x0 x1 x2 x3; go_simp; try with_reducible rfl
                          simp only [eA, eB, eC, Act.put, eD, eE, eF]
                          refine tkM 15 ?_ rfl (fun w1 hl => ?_) ?_
                          rotate_left
                          · obtain ⟨hbx, c5, c3, _⟩ := HF.out w1 hl; obtain ⟨x0, x1, x2, x3⟩ := hbx.dfa; dsimp only at x0 x1 x2 x3; go_simp; try with_reducible rfl
                          simp only [eA, eB, eC, Act.put, eD, eE, eF]
                          refine tkM 16 ?_ rfl (fun w1 hl => ?_) ?_
                          rotate_left
                          · obtain ⟨hbx, c5, c3, _⟩ := HF.out w1 hl; obtain ⟨x0, x1, x2, x3⟩ := hbx.dfa; dsimp only at x0 x1 x2 x3; go_simp; try with_reducible rfl
                          simp only [eA, eB, eC, Act.put, eD, eE, eF]
                          refine tkM 17 ?_ rfl (fun w1 hl => ?_) ?_
                          rotate_left
                          · obtain ⟨hbx, c5, c3, _⟩ := HF.out w1 hl; obtain ⟨x0, x1, x2, x3⟩ := hbx.dfa; dsimp only at x0 x1 x2 x3; go_simp; try with_reducible rfl
                          simp only [eA, eB, eC, Act.put, eD, eE, eF]
                          refine tkM 18 ?_ rfl (fun w1 hl => ?_) ?_
                          rotate_left
                          · obtain ⟨hbx, c5, c3, _⟩ := HF.out w1 hl; obtain ⟨x0, x1, x2, x3⟩ := hbx.dfa; dsimp only at x0 x1 x2 x3; go_simp; try with_reducible rfl
                          simp only [eA, eB, eC, Act.put, eD, eE, eF]
                          refine tkM 19 ?_ rfl (fun w1 hl => ?_) ?_
                          rotate_left
                          · obtain ⟨hbx, c5, c3, _⟩ := HF.out w1 hl; obtain ⟨x0, x1, x2, x3⟩ := hbx.dfa; dsimp only at x0 x1 x2 x3; go_simp; try with_reducible rfl
                          simp only [eA, eB, eC, Act.put, eD, eE, eF]
                          refine tkM 20 ?_ rfl (fun w1 hl => ?_) ?_
                          rotate_left
                          · obtain ⟨hbx, c5, c3, _⟩ := HF.out w1 hl; obtain ⟨x0, x1, x2, x3⟩ := hbx.dfa; dsimp only at x0 x1 x2 x3; go_simp; try with_reducible rfl
                          simp only [eA, eB, eC, Act.put, eD, eE, eF]
                          refine tkM 21 ?_ rfl (fun w1 hl => ?_) ?_
                          rotate_left
                          · obtain ⟨hbx, c5, c3, _⟩ := HF.out w1 hl; obtain ⟨x0, x1, x2, x3⟩ := hbx.dfa; dsimp only at x0 x1 x2 x3; go_simp; try with_reducible rfl
                          simp only [eA, eB, eC, Act.put, eD, eE, eF]
                          refine tkM 22 ?_ rfl (fun w1 hl => ?_) ?_
                          rotate_left
                          · obtain ⟨hbx, c5, c3, _⟩ := HF.out w1 hl; obtain ⟨x0, x1, x2, x3⟩ := hbx.dfa; dsimp only at x0 x1 x2 x3; go_simp; try with_reducible rfl
                          simp only [eA, eB, eC, Act.put, eD, eE, eF]
                          refine tkM 23 ?_ rfl (fun w1 hl => ?_) ?_
                          rotate_left
                          · obtain ⟨hbx, c5, c3, _⟩ := HF.out w1 hl; obtain ⟨x0, x1, x2, x3⟩ := hbx.dfa; dsimp only at x0 x1 x2 x3; go_simp; try with_reducible rfl
                          simp only [eA, eB, eC, Act.put, eD, eE, eF]
                          refine tkM 24 ?_ rfl (fun w1 hl => ?_) ?_
                          rotate_left
                          · obtain ⟨hbx, c5, c3, _⟩ := HF.out w1 hl; obtain ⟨x0, x1, x2, x3⟩ := hbx.dfa; dsimp only at x0 x1 x2 x3; go_simp; try with_reducible rfl
                          simp only [eA, eB, eC, Act.put, eD, eE, eF]
                          refine tkM 25 ?_ rfl (fun w1 hl => ?_) ?_
                          rotate_left
                          · obtain ⟨hbx, c5, c3, _⟩ := HF.out w1 hl; obtain ⟨x0, x1, x2, x3⟩ := hbx.dfa; dsimp only at x0 x1 x2 x3; go_simp; try with_reducible rfl
                          simp only [eA, eB, eC, Act.put, eD, eE, eF]
                          refine tkM 26 ?_ rfl (fun w1 hl => ?_) ?_
                          rotate_left
                          · obtain ⟨hbx, c5, c3, _⟩ := HF.out w1 hl; obtain ⟨x0, x1, x2, x3⟩ := hbx.dfa; dsimp only at x0 x1 x2 x3; go_simp; try with_reducible rfl
                          simp only [eA, eB, eC, Act.put, eD, eE, eF]
                          refine tkM 27 ?_ rfl (fun w1 hl => ?_) ?_
                          rotate_left
                          · obtain ⟨hbx, c5, c3, _⟩ := HF.out w1 hl; obtain ⟨x0, x1, x2, x3⟩ := hbx.dfa; dsimp only at x0 x1 x2 x3; go_simp; try with_reducible rfl
                          simp only [eA, eB, eC, Act.put, eD, eE, eF]
                          refine wpM_done (by kernel_rfl) (fun w1 hl => ?_) _
                          have hB9 := (HF.out _ hl).2.2.2
                          have hbx9 := (HF.out _ hl).1
                          clear hl
                          go_wp2
                          have hrow0 : rowAt row nn 0 = true := rfl
                          go_loopw [7] (fun i wr => ∃ q : Nat, q ≤ r ∧ i = .int .i64 q ∧ rowAt row nn q = true ∧ Box wr w.heap.size (VDfa.cells ⟨of, (r : Int), some ⟨b5, o5, none⟩, nn, nc, some ⟨b3, o3, none⟩, nn, lc, ma, k, mc⟩) 28 ∧ Below w.heap.size w wr) (fun i _ => r - (intOf i).toNat)
                          case atStart => exact ⟨0, Nat.zero_le _, rfl, hrow0, hbx9, hB9⟩
                          case round =>
                            clear hrow0 hbx9 hB9 c5 c3 c5' c3'
                            obtain ⟨z, hz, rfl, hrq, hbx, hB⟩ := hrel
                            obtain ⟨x0, x1, x2, x3⟩ := hbx.dfa
                            dsimp only at x0 x1 x2 x3
                            by_cases hlt3 : z < r
                            · have hq2 : z < row.length := by rw [HRR.out]; exact hlt3
                              obtain rfl := HA6.out z hq2
                              have c6 := HK6.out z hq2 wr hB
                              have c5 := HC5.out wr hB
                              have hra := HRA.out z hq2
                              have hrf := HRF.out z hq2
                              rw [hrq, Bool.true_and] at hra
                              generalize row[z] = tt at *
                              have HRA2 := Lib.hid hra
                              have HRF2 := Lib.hid hrf
                              have hq0 : (0 : Int) ≤ (z : Int) := by omega
                              have hqm : (z : Int) < (r : Int) := by omega
                              clear hra hrf hrq
                              by_cases t1 : tt < 0
                              · have e4 : decide (tt < 0) = true := by simp [t1]
                                go_wp2
                                go_ret
                                exact ⟨by rw [HN.out.1, HN.out.2, HFL.out (by rw [HRO2.out, HRF2.out (by simp; omega), Bool.and_false])]; rfl, hB⟩
                              · have e4 : decide (tt < 0) = false := by simp; omega
                                by_cases t2 : (nn : Int) ≤ tt
                                · have e5 : decide ((nn : Int) ≤ tt) = true := by simp [t2]
                                  go_wp2
                                  go_ret
                                  exact ⟨by rw [HN.out.1, HN.out.2, HFL.out (by rw [HRO2.out, HRF2.out (by simp; omega), Bool.and_false])]; rfl, hB⟩
                                · have e5 : decide ((nn : Int) ≤ tt) = false := by simp; omega
                                  go_wp2
                                  go_roundw
                                  case rel => exact ⟨z + 1, hlt3, by go_num, by rw [HRA2.out]; simp; omega, hbx, hB⟩
                                  case measure => simp [intOf]; omega
                            · obtain rfl : z = r := by omega
                              have hall : (row.all fun t => decide (0 ≤ t) && decide (t < (nn : Nat))) = true := by rw [← HRZ.out, HRR.out]; exact hrq
                              have hrok : ro q = true := by have := HH3.out; rw [HRO2.out, hall]; simp; omega
                              have HRK := Lib.hid hrok
                              clear hall hrok hrq
                              go_wp2
                              go_roundw
                              case rel => exact ⟨q + 1, hlt, by go_num, by rw [HSU.out, HRK.out], hbx, hB⟩
                              case measure => simp [intOf]; omega
                    · have g1 : ((r : Int) != wd) = true := by simp [h1]
                      go_wp2_with fail
                      refine wp_region_M (R := Later) 28 (by kernel_rfl) ?_
                      refine tkM 0 ?_ rfl (fun w1 hl => ?_) ?_
                      rotate_left
                      · obtain ⟨hbx, c5, c3, _⟩ := HF.out w1 hl; obtain ⟨x0, x1, x2, x3⟩ := hbx.dfa; dsimp only at x0 x1 x2 x3; go_simp; try with_reducible rfl
                      simp only [eA, eB, Act.put, eD, eE, eF]
                      refine tkM 1 ?_ rfl (fun w1 hl => ?_) ?_
                      rotate_left
                      · obtain ⟨hbx, c5, c3, _⟩ := HF.out w1 hl; obtain ⟨x0, x1, x2, x3⟩ := hbx.dfa; dsimp only at x0 x1 x2 x3; go_simp; try with_reducible rfl
                      simp only [eA, eB, eC, Act.put, eD, eE, eF]
                      refine tkM 2 ?_ rfl (fun w1 hl => ?_) ?_
                      rotate_left
                      · obtain ⟨hbx, c5, c3, _⟩ := HF.out w1 hl; obtain ⟨x0, x1, x2, x3⟩ := hbx.dfa; dsimp only at x0 x1 x2 x3; go_simp; try with_reducible rfl
                      simp only [eA, eB, eC, Act.put, eD, eE, eF]
                      refine tkM 3 ?_ rfl (fun w1 hl => ?_) ?_
                      rotate_left
                      · obtain ⟨hbx, c5, c3, _⟩ := HF.out w1 hl; obtain ⟨x0, x1, x2, x3⟩ := hbx.dfa; dsimp only at x0 x1 x2 x3; go_simp; try with_reducible rfl
                      simp only [eA, eB, eC, Act.put, eD, eE, eF]
                      refine tkM 4 ?_ rfl (fun w1 hl => ?_) ?_
                      rotate_left
                      · obtain ⟨hbx, c5, c3, _⟩ := HF.out w1 hl; obtain ⟨x0, x1, x2, x3⟩ := hbx.dfa; dsimp only at x0 x1 x2 x3; go_simp; try with_reducible rfl
                      simp only [eA, eB, eC, Act.put, eD, eE, eF]
                      refine tkM 5 ?_ rfl (fun w1 hl => ?_) ?_
                      rotate_left
                      · obtain ⟨hbx, c5, c3, _⟩ := HF.out w1 hl; obtain ⟨x0, x1, x2, x3⟩ := hbx.dfa; dsimp only at x0 x1 x2 x3; go_simp; try with_reducible rfl
                      simp only [eA, eB, eC, Act.put, eD, eE, eF]
                      refine tkM 6 ?_ rfl (fun w1 hl => ?_) ?_
                      rotate_left
                      · obtain ⟨hbx, c5, c3, _⟩ := HF.out w1 hl; obtain ⟨x0, x1, x2, x3⟩ := hbx.dfa; dsimp only at x0 x1 x2 x3; go_simp; try with_reducible rfl
                      simp only [eA, eB, eC, Act.put, eD, eE, eF]
                      refine tkM 7 ?_ rfl (fun w1 hl => ?_) ?_
                      rotate_left
                      · obtain ⟨hbx, c5, c3, _⟩ := HF.out w1 hl; obtain ⟨x0, x1, x2, x3⟩ := hbx.dfa; dsimp only at x0 x1 x2 x3; go_simp; try with_reducible rfl
                      simp only [eA, eB, eC, Act.put, eD, eE, eF]
                      refine tkM 8 ?_ rfl (fun w1 hl => ?_) ?_
                      rotate_left
                      · obtain ⟨hbx, c5, c3, _⟩ := HF.out w1 hl; obtain ⟨x0, x1, x2, x3⟩ := hbx.dfa; dsimp only at x0 x1 x2 x3; go_simp; try with_reducible rfl
                      simp only [eA, eB, eC, Act.put, eD, eE, eF]
                      refine tkM 9 ?_ rfl (fun w1 hl => ?_) ?_
                      rotate_left
                      · obtain ⟨hbx, c5, c3, _⟩ := HF.out w1 hl; obtain ⟨x0, x1, x2, x3⟩ := hbx.dfa; dsimp only at x0 x1 x2 x3; go_simp; try with_reducible rfl
                      simp only [eA, eB, eC, Act.put, eD, eE, eF]
                      refine skM 10 rfl ?_
                      simp only [eA, eB, eC, Act.put, eD, eE, eF]
                      refine skM 11 rfl ?_
                      simp only [eA, eB, eC, Act.put, eD, eE, eF]
                      refine skM 12 rfl ?_
                      simp only [eA, eB, eC, Act.put, eD, eE, eF]
                      refine skM 13 rfl ?_
                      simp only [eA, eB, eC, Act.put, eD, eE, eF]
                      refine skM 14 rfl ?_
                      simp only [eA, eB, eC, Act.put, eD, eE, eF]
                      refine skM 15 rfl ?_
                      simp only [eA, eB, eC, Act.put, eD, eE, eF]
                      refine tkM 16 ?_ rfl (fun w1 hl => ?_) ?_
                      rotate_left
                      · obtain ⟨hbx, c5, c3, _⟩ := HF.out w1 hl; obtain ⟨x0, x1, x2, x3⟩ := hbx.dfa; dsimp only at x0 x1 x2 x3; go_simp; try with_reducible rfl
                      simp only [eA, eB, eC, Act.put, eD, eE, eF]
                      refine tkM 17 ?_ rfl (fun w1 hl => ?_) ?_
                      rotate_left
                      · obtain ⟨hbx, c5, c3, _⟩ := HF.out w1 hl; obtain ⟨x0, x1, x2, x3⟩ := hbx.dfa; dsimp only at x0 x1 x2 x3; go_simp; try with_reducible rfl
                      simp only [eA, eB, eC, Act.put, eD, eE, eF]
                      refine skM 18 rfl ?_
                      simp only [eA, eB, eC, Act.put, eD, eE, eF]
                      refine skM 19 rfl ?_
                      simp only [eA, eB, eC, Act.put, eD, eE, eF]
                      refine skM 20 rfl ?_
                      simp only [eA, eB, eC, Act.put, eD, eE, eF]
                      refine skM 21 rfl ?_
                      simp only [eA, eB, eC, Act.put, eD, eE, eF]
                      refine skM 22 rfl ?_
                      simp only [eA, eB, eC, Act.put, eD, eE, eF]
                      refine skM 23 rfl ?_
                      simp only [eA, eB, eC, Act.put, eD, eE, eF]
                      refine skM 24 rfl ?_
                      simp only [eA, eB, eC, Act.put, eD, eE, eF]
                      refine skM 25 rfl ?_
                      simp only [eA, eB, eC, Act.put, eD, eE, eF]
                      refine skM 26 rfl ?_
                      simp only [eA, eB, eC, Act.put, eD, eE, eF]
                      refine tkM 27 ?_ rfl (fun w1 hl => ?_) ?_
                      rotate_left
                      · obtain ⟨hbx, c5, c3, _⟩ := HF.out w1 hl; obtain ⟨x0, x1, x2, x3⟩ := hbx.dfa; dsimp only at x0 x1 x2 x3; go_simp; try with_reducible rfl
                      simp only [eA, eB, eC, Act.put, eD, eE, eF]
                      refine wpM_done (by kernel_rfl) (fun w1 hl => ?_) _
                      have hB9 := (HF.out _ hl).2.2.2
                      go_wp2
                      go_ret
                      exact ⟨by rw [HN.out.1, HN.out.2, HFL.out (by rw [HRO2.out]; simp [h1])]; rfl, hB9⟩
                  · obtain rfl : q = nn := by omega
                    have HOK := Lib.hid hok
                    clear hok
                    go_wp2
                    go_ret
                    exact ⟨by rw [HN.out.1, HN.out.2, HOK.out]; rfl, hB⟩
      · have q : (decide (1 ≤ n) && (decide (n ≤ 65536) && decide (nn = n))) = false := by simp [b3]
        rw [q, Bool.false_and]
        have f3 : ((nn : Int) != (n : Int)) = true := by simp; omega
        have f3' : (nn != n) = true := by simp [b3]
        clear b1 b2 b3 q
        go_enter Tryz.func9, Tryz.ntmps9
        go_wp2
        go_ret
        exact ⟨rfl, hB0⟩
end Go.Proofs.YtdhmekpgplajmaaGreatDoor
end
section
namespace Go.Proofs.YtdhmekpgplajmaaGreatDoor
open Go.RowKit
/-- A state's line; of no state, or of a machine that may not be, nothing. -/
def rowI (D : PDfa) (s : Int) : List UInt8 := if rightD D = true ∧ 0 ≤ s ∧ s < (D.label.length : Nat) then rowT D s.toNat else []
end Go.Proofs.YtdhmekpgplajmaaGreatDoor
end
