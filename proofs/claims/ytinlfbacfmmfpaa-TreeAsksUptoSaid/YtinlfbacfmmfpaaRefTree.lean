/- The document's answers on trees: how many nodes, and whether a tree may be. -/
import Derived.Test.YtinlfbacfmmfpaaTreeRight2
namespace Go.Proofs.Ytinlfbacfmmfpaa
open Go.RowKit

set_option maxRecDepth 20000 in
set_option maxHeartbeats 1600000 in
theorem ref_Size6 : ∀ (V : Vt) (w : World), Lies w V → sizeT V.tr ≤ 1099511627776 → Calls Try.prog 28 #[.agg V.cells.toArray] w (Ret w (.int .i64 (sizeT V.tr : Nat))) := by
  refine Vt.ind fun k s a cap kids lo hi ih w hA hsz => ?_
  obtain ⟨_, _, _, sA, lA⟩ := hA.open
  obtain ⟨b, o, c1, c2, c3, c4, c5⟩ := sA.kids
  rw [Vt.tr_mk, sizeT] at hsz ⊢
  have hl := sizeTs_len (kids.map Vt.tr)
  rw [List.length_map] at hl
  change Calls _ _ #[.agg (nodeC k s a kids.length cap lo hi).toArray] _ _
  have HC := Lib.hid c5; have HI := Lib.hid ih; have LA := Lib.hid lA
  clear c5 ih lA sA hA c4
  go_enter Try.func28, Try.ntmps28
  go_wp2
  go_loopw [3, 4] (fun v i wr => ∃ j acc : Nat, j ≤ kids.length ∧ i = .int .i64 j ∧ v = .int .i64 acc ∧ acc = 1 + sizeTs ((kids.take j).map Vt.tr) ∧ Box wr w.heap.size (nodeC k s a kids.length cap lo hi).toArray 37 ∧ Below w.heap.size w wr) (fun _ i _ => kids.length - (intOf i).toNat)
  case atStart => exact ⟨0, 1, Nat.zero_le _, rfl, rfl, by simp [sizeTs], Box.new' rfl _ _, by go_grown⟩
  case round =>
    obtain ⟨j, acc, hj, rfl, rfl, hacc, hb0, hB⟩ := hrel
    have HA := Lib.hid hacc
    obtain ⟨p0, p1, p2, p3, p4, p5, p6, p7⟩ := hb0.node
    by_cases hlt : j < kids.length
    · obtain rfl := c3 j hlt
      have e1 := HC.out j hlt wr hB
      have hsp : sizeTs (kids.map Vt.tr) = sizeTs ((kids.take (j + 1)).map Vt.tr) + sizeTs ((kids.drop (j + 1)).map Vt.tr) := by rw [← sizeTs_append, ← List.map_append, List.take_append_drop]
      have hst : sizeTs ((kids.take (j + 1)).map Vt.tr) = sizeTs ((kids.take j).map Vt.tr) + sizeT kids[j].tr := by
        rw [List.take_succ_eq_append_getElem hlt, List.map_append, sizeTs_append]; simp [sizeTs]
      have hs1 : acc + sizeT kids[j].tr ≤ 1099511627776 := by omega
      have i1 := HI.out j hlt wr ((LA.out j hlt).kept hB) (by omega)
      have HT := Lib.hid hst
      clear hsp hst c3 hacc
      generalize kids[j] = V at *
      obtain ⟨k1, s1, a1, cp1, ks1, lo1, hi1⟩ := V
      obtain ⟨x0, x1, x2, x3, x4, x5, x6, x7⟩ := cells8 e1
      change Calls _ _ #[.agg (nodeC k1 s1 a1 ks1.length cp1 lo1 hi1).toArray] _ _ at i1
      generalize sizeT (Vt.mk k1 s1 a1 cp1 ks1 lo1 hi1).tr = z at *
      have I1 := Lib.hid i1
      clear e1 i1
      go_wp2_with (go_at_call 28; go_must (refine I1.out.mono ?_; rintro e w1 ⟨rfl, hb⟩))
      go_roundw
      case rel => exact ⟨j + 1, acc + z, hlt, by go_num, by simp, by rw [HT.out, HA.out, Nat.add_assoc], hb0.kept hb, hB.trans (hb.mono hB.size)⟩
      case measure => simp [intOf]; omega
    · obtain rfl : j = kids.length := by omega
      rw [List.take_length] at hacc
      subst hacc
      go_wp2
      go_ret
      exact ⟨rfl, hB⟩
theorem arity_123 {k : Int} (h1 : 1 ≤ k) (h2 : k ≤ 3) : arityZ k = 0 := by
  rcases (show k = 1 ∨ k = 2 ∨ k = 3 by omega) with rfl | rfl | rfl <;> decide
theorem arity_45 {k : Int} (h1 : 3 < k) (h2 : k ≤ 5) : arityZ k = 2 := by
  rcases (show k = 4 ∨ k = 5 by omega) with rfl | rfl <;> decide
theorem arity_678 {k : Int} (h1 : 5 < k) (h2 : k ≤ 9) : arityZ k = 1 := by
  rcases (show k = 6 ∨ k = 7 ∨ k = 8 ∨ k = 9 by omega) with rfl | rfl | rfl | rfl <;> decide
theorem arity_out {k : Int} (h : k < 1 ∨ 9 < k) : arityZ k = -1 := by
  by_cases h0 : k = 0
  · subst h0; decide
  · unfold arityZ; rw [if_neg (by omega)]
set_option maxRecDepth 20000 in
set_option maxHeartbeats 1600000 in
theorem ref_one6 (k : Int) (s : BSet) (a : Option Addr) (n cap : Nat) (lo hi : Int) (w : World) : Calls Try.prog 74 #[.agg (nodeC k s a n cap lo hi).toArray] w (Ret w (.bool (oneB k s n lo hi))) := by
  have hq := run_eqS (P := Try.prog) (t := 34) (e := 32) Try.underlying34 Try.underlying32 (by kernel_rfl) s 0
  unfold setV at hq
  rw [setC_zero] at hq
  by_cases ho : k < 1 ∨ 9 < k
  · have e : oneB k s n lo hi = false := by unfold oneB; rw [arity_out ho]; simp
    rw [e]
    clear e hq
    rcases ho with ho | ho
    · go_enter Try.func74, Try.ntmps74
      go_wp2
      go_ret
      exact ⟨rfl, by go_grown⟩
    · have ho2 : 1 ≤ k := by omega
      go_enter Try.func74, Try.ntmps74
      go_wp2
      go_ret
      exact ⟨rfl, by go_grown⟩
  · have l1 : 1 ≤ k := by omega
    have l9 : k ≤ 9 := by omega
    clear ho
    by_cases h3 : k = 3
    · subst h3
      clear hq
      by_cases h1 : lo = 0
      · subst h1
        by_cases h2 : hi = 0
        · subst h2
          have e : oneB 3 s n 0 0 = ((n : Int) == 0) := by unfold oneB; rw [arity_123 (by decide) (by decide)]; rw [Bool.eq_iff_iff]; simp
          rw [e]
          clear e
          go_enter Try.func74, Try.ntmps74
          go_wp2
          go_ret
          exact ⟨rfl, by go_grown⟩
        · have e : oneB 3 s n 0 hi = false := by unfold oneB; simp [h2]
          have g2 : (hi != 0) = true := by simpa using h2
          rw [e]
          clear e h2
          go_enter Try.func74, Try.ntmps74
          go_wp2
          go_ret
          exact ⟨rfl, by go_grown⟩
      · have e : oneB 3 s n lo hi = false := by unfold oneB; simp [h1]
        have g1 : (lo != 0) = true := by simpa using h1
        rw [e]
        clear e h1
        go_enter Try.func74, Try.ntmps74
        go_wp2
        go_ret
        exact ⟨rfl, by go_grown⟩
    · have g3 : (k != 3) = true := by simpa using h3
      by_cases hs : s = 0
      · rw [decide_eq_true hs] at hq
        by_cases h9 : k = 9
        · subst h9
          have e : oneB 9 s n lo hi = (decide (n = 1) && timesB lo hi) := by unfold oneB; rw [arity_678 (by decide) (by decide), hs]; rw [Bool.eq_iff_iff]; simp [and_comm]
          rw [e]
          clear e hs h3
          go_enter Try.func74, Try.ntmps74
          go_wp2
          all_goals
            go_ret
            refine ⟨congrArg (fun b => Ending.returned (Value.bool b)) ?_, by go_grown⟩
            rw [Bool.eq_iff_iff]
            simp [timesB]
            try omega
        · have g9 : (k == 9) = false := by simpa using h9
          by_cases h1 : lo = 0
          · subst h1
            by_cases h2 : hi = 0
            · subst h2
              by_cases b3 : k ≤ 3
              · have e : oneB k s n 0 0 = ((n : Int) == 0) := by unfold oneB; rw [arity_123 l1 b3, hs]; rw [Bool.eq_iff_iff]; simp [h9]
                rw [e]
                clear e hs h9 h3
                go_enter Try.func74, Try.ntmps74
                go_wp2
                go_ret
                exact ⟨rfl, by go_grown⟩
              · by_cases b5 : k ≤ 5
                · have e : oneB k s n 0 0 = decide (2 ≤ (n : Int)) := by unfold oneB; rw [arity_45 (by omega) b5, hs]; rw [Bool.eq_iff_iff]; simp [h9]; omega
                  rw [e]
                  clear e hs h9 h3
                  go_enter Try.func74, Try.ntmps74
                  go_wp2
                  go_ret
                  exact ⟨rfl, by go_grown⟩
                · have e : oneB k s n 0 0 = ((n : Int) == 1) := by unfold oneB; rw [arity_678 (by omega) l9, hs]; rw [Bool.eq_iff_iff]; simp [h9]; omega
                  rw [e]
                  clear e hs h9 h3
                  go_enter Try.func74, Try.ntmps74
                  go_wp2
                  go_ret
                  exact ⟨rfl, by go_grown⟩
            · have e : oneB k s n 0 hi = false := by unfold oneB; simp [h2, h9]
              have g2 : (hi != 0) = true := by simpa using h2
              rw [e]
              clear e hs h3 h2 h9
              go_enter Try.func74, Try.ntmps74
              go_wp2
              go_ret
              exact ⟨rfl, by go_grown⟩
          · have e : oneB k s n lo hi = false := by unfold oneB; simp [h1, h9]
            have g1 : (lo != 0) = true := by simpa using h1
            rw [e]
            clear e hs h3 h1 h9
            go_enter Try.func74, Try.ntmps74
            go_wp2
            go_ret
            exact ⟨rfl, by go_grown⟩
      · have e : oneB k s n lo hi = false := by unfold oneB; rw [decide_eq_false h3, decide_eq_false hs]; rfl
        rw [decide_eq_false hs] at hq
        rw [e]
        clear e h3 hs
        go_enter Try.func74, Try.ntmps74
        go_wp2
        go_ret
        exact ⟨rfl, by go_grown⟩
theorem allTs_iff (l : List Tr) : allTs l = true ↔ ∀ i (h : i < l.length), allT l[i] = true := by
  induction l with
  | nil => simp [allTs]
  | cons a l ih =>
    simp only [allTs, Bool.and_eq_true, ih]
    constructor
    · rintro ⟨h0, h1⟩ i hi
      cases i with
      | zero => exact h0
      | succ i => exact h1 i (by simpa using hi)
    · exact fun h => ⟨h 0 (by simp), fun i hi => h (i + 1) (Nat.succ_lt_succ hi)⟩
set_option maxRecDepth 20000 in
set_option maxHeartbeats 1600000 in
theorem ref_all6 : ∀ (V : Vt) (w : World), Lies w V → Calls Try.prog 62 #[.agg V.cells.toArray] w (Ret w (.bool (allT V.tr))) := by
  refine Vt.ind fun k s a cap kids lo hi ih w hA => ?_
  obtain ⟨_, _, _, sA, lA⟩ := hA.open
  obtain ⟨b, o, c1, c2, c3, c4, c5⟩ := sA.kids
  rw [Vt.tr_mk, allT, List.length_map]
  change Calls _ _ #[.agg (nodeC k s a kids.length cap lo hi).toArray] _ _
  have HC := Lib.hid c5; have HI := Lib.hid ih; have LA := Lib.hid lA
  clear c5 ih lA sA hA c4
  go_enter Try.func62, Try.ntmps62
  go_wp2
  go_loopw [3] (fun i wr => ∃ j : Nat, j ≤ kids.length ∧ i = .int .i64 j ∧ (∀ x, x < j → ∀ (h : x < kids.length), allT kids[x].tr = true) ∧ Box wr w.heap.size (nodeC k s a kids.length cap lo hi).toArray 37 ∧ Below w.heap.size w wr) (fun i _ => kids.length - (intOf i).toNat)
  case atStart => exact ⟨0, Nat.zero_le _, rfl, fun x hx => absurd hx (Nat.not_lt_zero x), Box.new' rfl _ _, by go_grown⟩
  case round =>
    obtain ⟨j, hj, rfl, hno, hb0, hB⟩ := hrel
    have HN := Lib.hid hno
    clear hno
    obtain ⟨p0, p1, p2, p3, p4, p5, p6, p7⟩ := hb0.node
    by_cases hlt : j < kids.length
    · obtain rfl := c3 j hlt
      have e1 := HC.out j hlt wr hB
      have i1 := HI.out j hlt wr ((LA.out j hlt).kept hB)
      have hr1 := fun (h : allT kids[j].tr = true) => (fun x (hx : x < j + 1) (h1 : x < kids.length) => (if e : x = j then by subst e; exact h else HN.out x (by omega) h1 : allT kids[x].tr = true))
      have hr2 : allT kids[j].tr = false → allTs (kids.map Vt.tr) = false := fun h => by
        rw [← Bool.not_eq_true, allTs_iff]
        intro hh
        have := hh j (by simpa using hlt)
        rw [List.getElem_map, h] at this; cases this
      have R1 := Lib.hid hr1; have R2 := Lib.hid hr2
      clear hr1 hr2 c3
      generalize kids[j] = V at *
      obtain ⟨k1, s1, a1, cp1, ks1, lo1, hi1⟩ := V
      obtain ⟨x0, x1, x2, x3, x4, x5, x6, x7⟩ := cells8 e1
      change Calls _ _ #[.agg (nodeC k1 s1 a1 ks1.length cp1 lo1 hi1).toArray] _ _ at i1
      clear e1
      cases hr : allT (Vt.mk k1 s1 a1 cp1 ks1 lo1 hi1).tr with
      | true =>
        have HR := Lib.hid (R1.out hr)
        rw [hr] at i1
        have I1 := Lib.hid i1
        clear hr R1 R2 i1
        go_wp2_with (go_at_call 62; go_must (refine I1.out.mono ?_; rintro e w1 ⟨rfl, hb⟩))
        go_roundw
        case rel => exact ⟨j + 1, hlt, by go_num, HR.out, hb0.kept hb, hB.trans (hb.mono hB.size)⟩
        case measure => simp [intOf]; omega
      | false =>
        have HR := Lib.hid (R2.out hr)
        rw [hr] at i1
        have I1 := Lib.hid i1
        clear hr R1 R2 i1
        go_wp2_with (go_at_call 62; go_must (refine I1.out.mono ?_; rintro e w1 ⟨rfl, hb⟩))
        go_ret
        exact ⟨by rw [HR.out, Bool.and_false]; rfl, hB.trans (hb.mono hB.size)⟩
    · have HE := Lib.hid ((allTs_iff (kids.map Vt.tr)).2 fun i h1 => by rw [List.getElem_map]; rw [List.length_map] at h1; exact HN.out i (by omega) h1)
      have i1 := ref_one6 k s a kids.length cap lo hi wr
      have I1 := Lib.hid i1
      clear i1
      go_wp2_with (go_at_call 74; go_must (refine I1.out.mono ?_; rintro e w1 ⟨rfl, hb⟩))
      go_ret
      exact ⟨by rw [HE.out, Bool.and_true]; rfl, hB.trans (hb.mono hB.size)⟩
set_option maxHeartbeats 800000 in
theorem ref_Right6 (V : Vt) (w : World) (hL : Lies w V) (hsz : sizeT V.tr ≤ 1099511627776) : Calls Try.prog 26 #[.agg V.cells.toArray] w (Ret w (.bool (rightT V.tr))) := by
  have c1 := fun w' (h : Below w.heap.size w w') => ref_Size6 V w' (hL.kept h) hsz
  have c2 := fun w' (h : Below w.heap.size w w') => ref_all6 V w' (hL.kept h)
  unfold rightT
  generalize allT V.tr = r at *
  generalize sizeT V.tr = z at *
  obtain ⟨k, s, a, cap, kids, lo, hi⟩ := V
  change ∀ w', Below w.heap.size w w' → Calls _ _ #[.agg (nodeC k s a kids.length cap lo hi).toArray] _ _ at c1 c2
  change Calls _ _ #[.agg (nodeC k s a kids.length cap lo hi).toArray] _ _
  have C1 := Lib.hid c1; have C2 := Lib.hid c2
  have x0 := Box.new w (nodeC k s a kids.length cap lo hi).toArray 37
  have hB := (Below.refl w.heap.size w).alloc (Nat.le_refl _) (.cells (nodeC k s a kids.length cap lo hi).toArray 37)
  clear c1 c2 hL
  by_cases hz : z ≤ 4096
  · rw [decide_eq_true hz, Bool.true_and]
    go_enter Try.func26, Try.ntmps26
    go_wp2_with (first | (go_at_call 28; go_must (refine (C1.out _ hB).mono ?_; rintro e w1 ⟨rfl, hb⟩; have hB1 := hB.trans (hb.mono hB.size); obtain ⟨p0, p1, p2, p3, p4, p5, p6, p7⟩ := (x0.kept hb).node)) | (go_at_call 62; go_must (refine (C2.out _ hB1).mono ?_; rintro e w2 ⟨rfl, hb2⟩)))
    go_ret
    exact ⟨rfl, hB1.trans (hb2.mono hB1.size)⟩
  · rw [decide_eq_false hz, Bool.false_and]
    go_enter Try.func26, Try.ntmps26
    go_wp2_with (go_at_call 28; go_must (refine (C1.out _ hB).mono ?_; rintro e w1 ⟨rfl, hb⟩; have hB1 := hB.trans (hb.mono hB.size); obtain ⟨p0, p1, p2, p3, p4, p5, p6, p7⟩ := (x0.kept hb).node))
    go_ret
    exact ⟨rfl, hB1⟩
end Go.Proofs.Ytinlfbacfmmfpaa
