/- The document's sets of two, its bytes and its pieces. -/
import Derived.Test.YtinlfbacfmmfpaaDoorSpans
import Derived.Test.YtinlfbacfmmfpaaDoorSets
namespace Go.Proofs.YtinlfbacfmmfpaaDoor
open Go.RowKit

/-- What the document takes of two sets: 0 what is in one, 1 in both, 2 in the first one alone. -/
def twoB (k : Nat) (x y : Bool) : Bool := match k with | 0 => x || y | 1 => x && y | _ => x && !y
def twoS (k : Nat) (a b : BSet) : BSet := ofP fun c => twoB k (mem a c) (mem b c)
def twoU (k : Nat) (a b : BSet) (j : Nat) : BSet := ofP fun c => decide (c < j) && twoB k (mem a c) (mem b c)
theorem twoU_zero (k : Nat) (a b : BSet) : twoU k a b 0 = 0 := (eq_ofP 0 _ fun c _ => by rw [mem_zero]; simp).symm
theorem twoU_end (k : Nat) (a b : BSet) : twoU k a b 256 = twoS k a b := ofP_congr fun c hc => by simp [hc]
theorem twoU_yes {k : Nat} {a b : BSet} {j : Nat} {x y : Bool} (hj : j < 256) (hx : mem a j = x) (hy : mem b j = y) (h : twoB k x y = true) : twoU k a b (j + 1) = withB (twoU k a b j) j := by
  unfold twoU
  rw [ofP_withB _ _ hj]
  refine ofP_congr fun c _ => ?_
  by_cases hc : j = c
  · subst hc; simp [hx, hy, h]
  · have : decide (c < j + 1) = decide (c < j) := by rw [decide_eq_decide]; omega
    simp [hc, this]
theorem twoU_no {k : Nat} {a b : BSet} {j : Nat} {x y : Bool} (hx : mem a j = x) (hy : mem b j = y) (h : twoB k x y = false) : twoU k a b (j + 1) = twoU k a b j := by
  unfold twoU
  refine ofP_congr fun c _ => ?_
  by_cases hc : j = c
  · subst hc; simp [hx, hy, h]
  · have : decide (c < j + 1) = decide (c < j) := by rw [decide_eq_decide]; omega
    simp [this]
theorem twoS_or (a b : BSet) : twoS 0 a b = a ||| b := (eq_ofP _ _ fun c _ => mem_or a b c).symm
theorem twoS_and (a b : BSet) : twoS 1 a b = a &&& b := (eq_ofP _ _ fun c _ => mem_and a b c).symm
theorem twoS_less (a b : BSet) : twoS 2 a b = a &&& ~~~b := (eq_ofP _ _ fun c hc => by rw [mem_and, mem_not _ _ hc]; rfl).symm
set_option maxRecDepth 20000 in
set_option maxHeartbeats 1600000 in
theorem ref_Two0 (a b : BSet) (w : World) :
    Calls Tryd.prog 36 #[setV a, setV b, .int .i64 0] w (Ret w (setV (twoS 0 a b))) := by
  go_enter Tryd.func36, Tryd.ntmps36
  go_wp2
  go_loopw [8] (fun i wr => ∃ j : Nat, j ≤ 256 ∧ i = .int .i64 j ∧ Box wr w.heap.size (setC a) 34 ∧ Box wr (w.heap.size + 1) (setC b) 34 ∧ Box wr (w.heap.size + 1 + 1) (setC 0) 34 ∧ Box wr (w.heap.size + 1 + 1 + 1) (setC (twoU 0 a b j)) 34 ∧ Below w.heap.size w wr) (fun i _ => 256 - (intOf i).toNat)
  case atStart =>
    refine ⟨0, Nat.zero_le _, rfl, ?_, ?_, ?_, ?_, by go_grown⟩
    · exact (((Box.new' rfl _ _).alloc _).alloc _).alloc _
    · exact ((Box.new' (by simp) _ _).alloc _).alloc _
    · rw [setC_zero]; exact (Box.new' (by simp) _ _).alloc _
    · rw [twoU_zero, setC_zero]; exact Box.new' (by simp) _ _
  case round =>
    obtain ⟨j, hj, rfl, ha, hb, h0, hs, hB⟩ := hrel
    by_cases hlt : j < 256
    · obtain ⟨⟨p0, p1, p2, p3⟩, _⟩ := ha.set4
      have HA := Lib.hid (fun w => ref_Has a j w hlt)
      have HC := Lib.hid (fun w => ref_Has b j w hlt)
      have HY := Lib.hid (@twoU_yes 0 a b j (mem a j) (mem b j) hlt rfl rfl)
      have HN := Lib.hid (@twoU_no 0 a b j (mem a j) (mem b j) rfl rfl)
      have hW := fun s w => ref_With s j w hlt
      have HW := Lib.hid hW
      clear hW
      generalize mem a j = x at *
      generalize mem b j = y at *
      have hdj : decide ((j : Int) < 256) = true := decide_eq_true (by omega)
      go_wp2_with fail
      refine (HA.out _).mono ?_
      rintro e w1 ⟨rfl, hb1⟩
      have hB1 := hB.trans (hb1.mono hB.size)
      have ha1 := ha.kept hb1
      have hb1' := hb.kept hb1
      have h01 := h0.kept hb1
      have hs1 := hs.kept hb1
      obtain ⟨⟨q0, q1, q2, q3⟩, _⟩ := hb1'.set4
      go_wp2_with fail
      refine (HC.out _).mono ?_
      rintro e w2 ⟨rfl, hb2⟩
      have hB2 := hB1.trans (hb2.mono hB1.size)
      have ha2 := ha1.kept hb2
      have hb2' := hb1'.kept hb2
      have h02 := h01.kept hb2
      have hs2 := hs1.kept hb2
      obtain ⟨⟨r0, r1, r2, r3⟩, _⟩ := hs2.set4
      clear ha hb h0 hs hB hb1 ha1 hb1' h01 hs1 hB1 p0 p1 p2 p3 q0 q1 q2 q3 HA HC hb2
      cases x <;> cases y
      all_goals first
        | (have e := HY.out rfl
           have HE := Lib.hid e
           clear e HY HN
           go_wp2_with (go_at_call 44; go_must (refine (HW.out _ _).mono ?_; rintro e w3 ⟨rfl, hb3⟩; have hx0 := h02.kept hb3; have hxs := hs2.kept hb3; have hxa := ha2.kept hb3; have hxb := hb2'.kept hb3; have hB3 := hB2.trans (hb3.mono hB2.size); obtain ⟨⟨s0, s1, s2, s3⟩, ⟨t0, t1, t2, t3⟩⟩ := hxs.set4))
           go_roundw
           case rel => exact ⟨j + 1, hlt, by go_num, hxa.other4 (by omega) _ _ _ _, hxb.other4 (by omega) _ _ _ _, hx0.other4 (by omega) _ _ _ _, by rw [HE.out]; exact hxs.store4 rfl _ _ _ _, by go_grown⟩
           case measure => simp [intOf]; omega)
        | (have e := HN.out rfl
           have HE := Lib.hid e
           clear e HY HN
           go_wp2
           go_roundw
           case rel => exact ⟨j + 1, hlt, by go_num, ha2, hb2', h02, by rw [HE.out]; exact hs2, hB2⟩
           case measure => simp [intOf]; omega)
    · obtain rfl : j = 256 := by omega
      rw [twoU_end] at hs
      obtain ⟨⟨p0, p1, p2, p3⟩, ⟨q0, q1, q2, q3⟩⟩ := h0.set4
      obtain ⟨⟨r0, r1, r2, r3⟩, _⟩ := hs.set4
      go_wp2
      exact ret_box Tryd.results36 rfl (h0.store4 rfl _ _ _ _) Tryd.underlying34 rfl (by kernel_rfl) rfl ⟨rfl, by go_grown⟩
set_option maxRecDepth 20000 in
set_option maxHeartbeats 1600000 in
theorem ref_Two1 (a b : BSet) (w : World) :
    Calls Tryd.prog 36 #[setV a, setV b, .int .i64 1] w (Ret w (setV (twoS 1 a b))) := by
  go_enter Tryd.func36, Tryd.ntmps36
  go_wp2
  go_loopw [8] (fun i wr => ∃ j : Nat, j ≤ 256 ∧ i = .int .i64 j ∧ Box wr w.heap.size (setC a) 34 ∧ Box wr (w.heap.size + 1) (setC b) 34 ∧ Box wr (w.heap.size + 1 + 1) (setC 0) 34 ∧ Box wr (w.heap.size + 1 + 1 + 1) (setC (twoU 1 a b j)) 34 ∧ Below w.heap.size w wr) (fun i _ => 256 - (intOf i).toNat)
  case atStart =>
    refine ⟨0, Nat.zero_le _, rfl, ?_, ?_, ?_, ?_, by go_grown⟩
    · exact (((Box.new' rfl _ _).alloc _).alloc _).alloc _
    · exact ((Box.new' (by simp) _ _).alloc _).alloc _
    · rw [setC_zero]; exact (Box.new' (by simp) _ _).alloc _
    · rw [twoU_zero, setC_zero]; exact Box.new' (by simp) _ _
  case round =>
    obtain ⟨j, hj, rfl, ha, hb, h0, hs, hB⟩ := hrel
    by_cases hlt : j < 256
    · obtain ⟨⟨p0, p1, p2, p3⟩, _⟩ := ha.set4
      have HA := Lib.hid (fun w => ref_Has a j w hlt)
      have HC := Lib.hid (fun w => ref_Has b j w hlt)
      have HY := Lib.hid (@twoU_yes 1 a b j (mem a j) (mem b j) hlt rfl rfl)
      have HN := Lib.hid (@twoU_no 1 a b j (mem a j) (mem b j) rfl rfl)
      have hW := fun s w => ref_With s j w hlt
      have HW := Lib.hid hW
      clear hW
      generalize mem a j = x at *
      generalize mem b j = y at *
      have hdj : decide ((j : Int) < 256) = true := decide_eq_true (by omega)
      go_wp2_with fail
      refine (HA.out _).mono ?_
      rintro e w1 ⟨rfl, hb1⟩
      have hB1 := hB.trans (hb1.mono hB.size)
      have ha1 := ha.kept hb1
      have hb1' := hb.kept hb1
      have h01 := h0.kept hb1
      have hs1 := hs.kept hb1
      obtain ⟨⟨q0, q1, q2, q3⟩, _⟩ := hb1'.set4
      go_wp2_with fail
      refine (HC.out _).mono ?_
      rintro e w2 ⟨rfl, hb2⟩
      have hB2 := hB1.trans (hb2.mono hB1.size)
      have ha2 := ha1.kept hb2
      have hb2' := hb1'.kept hb2
      have h02 := h01.kept hb2
      have hs2 := hs1.kept hb2
      obtain ⟨⟨r0, r1, r2, r3⟩, _⟩ := hs2.set4
      clear ha hb h0 hs hB hb1 ha1 hb1' h01 hs1 hB1 p0 p1 p2 p3 q0 q1 q2 q3 HA HC hb2
      cases x <;> cases y
      all_goals first
        | (have e := HY.out rfl
           have HE := Lib.hid e
           clear e HY HN
           go_wp2_with (go_at_call 44; go_must (refine (HW.out _ _).mono ?_; rintro e w3 ⟨rfl, hb3⟩; have hx0 := h02.kept hb3; have hxs := hs2.kept hb3; have hxa := ha2.kept hb3; have hxb := hb2'.kept hb3; have hB3 := hB2.trans (hb3.mono hB2.size); obtain ⟨⟨s0, s1, s2, s3⟩, ⟨t0, t1, t2, t3⟩⟩ := hxs.set4))
           go_roundw
           case rel => exact ⟨j + 1, hlt, by go_num, hxa.other4 (by omega) _ _ _ _, hxb.other4 (by omega) _ _ _ _, hx0.other4 (by omega) _ _ _ _, by rw [HE.out]; exact hxs.store4 rfl _ _ _ _, by go_grown⟩
           case measure => simp [intOf]; omega)
        | (have e := HN.out rfl
           have HE := Lib.hid e
           clear e HY HN
           go_wp2
           go_roundw
           case rel => exact ⟨j + 1, hlt, by go_num, ha2, hb2', h02, by rw [HE.out]; exact hs2, hB2⟩
           case measure => simp [intOf]; omega)
    · obtain rfl : j = 256 := by omega
      rw [twoU_end] at hs
      obtain ⟨⟨p0, p1, p2, p3⟩, ⟨q0, q1, q2, q3⟩⟩ := h0.set4
      obtain ⟨⟨r0, r1, r2, r3⟩, _⟩ := hs.set4
      go_wp2
      exact ret_box Tryd.results36 rfl (h0.store4 rfl _ _ _ _) Tryd.underlying34 rfl (by kernel_rfl) rfl ⟨rfl, by go_grown⟩
set_option maxRecDepth 20000 in
set_option maxHeartbeats 1600000 in
theorem ref_Two2 (a b : BSet) (w : World) :
    Calls Tryd.prog 36 #[setV a, setV b, .int .i64 2] w (Ret w (setV (twoS 2 a b))) := by
  go_enter Tryd.func36, Tryd.ntmps36
  go_wp2
  go_loopw [8] (fun i wr => ∃ j : Nat, j ≤ 256 ∧ i = .int .i64 j ∧ Box wr w.heap.size (setC a) 34 ∧ Box wr (w.heap.size + 1) (setC b) 34 ∧ Box wr (w.heap.size + 1 + 1) (setC 0) 34 ∧ Box wr (w.heap.size + 1 + 1 + 1) (setC (twoU 2 a b j)) 34 ∧ Below w.heap.size w wr) (fun i _ => 256 - (intOf i).toNat)
  case atStart =>
    refine ⟨0, Nat.zero_le _, rfl, ?_, ?_, ?_, ?_, by go_grown⟩
    · exact (((Box.new' rfl _ _).alloc _).alloc _).alloc _
    · exact ((Box.new' (by simp) _ _).alloc _).alloc _
    · rw [setC_zero]; exact (Box.new' (by simp) _ _).alloc _
    · rw [twoU_zero, setC_zero]; exact Box.new' (by simp) _ _
  case round =>
    obtain ⟨j, hj, rfl, ha, hb, h0, hs, hB⟩ := hrel
    by_cases hlt : j < 256
    · obtain ⟨⟨p0, p1, p2, p3⟩, _⟩ := ha.set4
      have HA := Lib.hid (fun w => ref_Has a j w hlt)
      have HC := Lib.hid (fun w => ref_Has b j w hlt)
      have HY := Lib.hid (@twoU_yes 2 a b j (mem a j) (mem b j) hlt rfl rfl)
      have HN := Lib.hid (@twoU_no 2 a b j (mem a j) (mem b j) rfl rfl)
      have hW := fun s w => ref_With s j w hlt
      have HW := Lib.hid hW
      clear hW
      generalize mem a j = x at *
      generalize mem b j = y at *
      have hdj : decide ((j : Int) < 256) = true := decide_eq_true (by omega)
      go_wp2_with fail
      refine (HA.out _).mono ?_
      rintro e w1 ⟨rfl, hb1⟩
      have hB1 := hB.trans (hb1.mono hB.size)
      have ha1 := ha.kept hb1
      have hb1' := hb.kept hb1
      have h01 := h0.kept hb1
      have hs1 := hs.kept hb1
      obtain ⟨⟨q0, q1, q2, q3⟩, _⟩ := hb1'.set4
      go_wp2_with fail
      refine (HC.out _).mono ?_
      rintro e w2 ⟨rfl, hb2⟩
      have hB2 := hB1.trans (hb2.mono hB1.size)
      have ha2 := ha1.kept hb2
      have hb2' := hb1'.kept hb2
      have h02 := h01.kept hb2
      have hs2 := hs1.kept hb2
      obtain ⟨⟨r0, r1, r2, r3⟩, _⟩ := hs2.set4
      clear ha hb h0 hs hB hb1 ha1 hb1' h01 hs1 hB1 p0 p1 p2 p3 q0 q1 q2 q3 HA HC hb2
      cases x <;> cases y
      all_goals first
        | (have e := HY.out rfl
           have HE := Lib.hid e
           clear e HY HN
           go_wp2_with (go_at_call 44; go_must (refine (HW.out _ _).mono ?_; rintro e w3 ⟨rfl, hb3⟩; have hx0 := h02.kept hb3; have hxs := hs2.kept hb3; have hxa := ha2.kept hb3; have hxb := hb2'.kept hb3; have hB3 := hB2.trans (hb3.mono hB2.size); obtain ⟨⟨s0, s1, s2, s3⟩, ⟨t0, t1, t2, t3⟩⟩ := hxs.set4))
           go_roundw
           case rel => exact ⟨j + 1, hlt, by go_num, hxa.other4 (by omega) _ _ _ _, hxb.other4 (by omega) _ _ _ _, hx0.other4 (by omega) _ _ _ _, by rw [HE.out]; exact hxs.store4 rfl _ _ _ _, by go_grown⟩
           case measure => simp [intOf]; omega)
        | (have e := HN.out rfl
           have HE := Lib.hid e
           clear e HY HN
           go_wp2
           go_roundw
           case rel => exact ⟨j + 1, hlt, by go_num, ha2, hb2', h02, by rw [HE.out]; exact hs2, hB2⟩
           case measure => simp [intOf]; omega)
    · obtain rfl : j = 256 := by omega
      rw [twoU_end] at hs
      obtain ⟨⟨p0, p1, p2, p3⟩, ⟨q0, q1, q2, q3⟩⟩ := h0.set4
      obtain ⟨⟨r0, r1, r2, r3⟩, _⟩ := hs.set4
      go_wp2
      exact ret_box Tryd.results36 rfl (h0.store4 rfl _ _ _ _) Tryd.underlying34 rfl (by kernel_rfl) rfl ⟨rfl, by go_grown⟩
end Go.Proofs.YtinlfbacfmmfpaaDoor
