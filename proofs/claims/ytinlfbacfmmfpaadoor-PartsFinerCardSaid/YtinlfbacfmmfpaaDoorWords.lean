/- Sets, word by word: meet, less, not, all, union. -/
import Derived.Test.YtinlfbacfmmfpaaDoorProg
import Derived.Test.YtinlfbacfmmfpaaDoorBase
import Derived.Laws.Bits64b
import Derived.Lib.Hide
namespace Go.Proofs.YtinlfbacfmmfpaaDoor
open Go.RowKit

/-- The first words of one set, the others of another one. -/
def mix (s t : BSet) (j : Nat) : BSet := ofWords (if 0 < j then word t 0 else word s 0) (if 1 < j then word t 1 else word s 1) (if 2 < j then word t 2 else word s 2) (if 3 < j then word t 3 else word s 3)
theorem word_mix (s t : BSet) (j k : Nat) (hk : k < 4) : word (mix s t j) k = if k < j then word t k else word s k := by
  unfold mix
  have hm : ∀ i, (if i < j then word t i else word s i) % 2 ^ 64 = if i < j then word t i else word s i := fun i => Nat.mod_eq_of_lt (by split <;> exact word_lt _ _)
  obtain ⟨e0, e1, e2, e3⟩ := word_ofWords (if 0 < j then word t 0 else word s 0) (if 1 < j then word t 1 else word s 1) (if 2 < j then word t 2 else word s 2) (if 3 < j then word t 3 else word s 3)
  match k, hk with
  | 0, _ => rw [e0, hm 0]
  | 1, _ => rw [e1, hm 1]
  | 2, _ => rw [e2, hm 2]
  | 3, _ => rw [e3, hm 3]
theorem mix_zero (s t : BSet) : mix s t 0 = s := word_inj fun i hi => by rw [word_mix _ _ _ _ hi, if_neg (by omega)]
theorem mix_four (s t : BSet) : mix s t 4 = t := word_inj fun i hi => by rw [word_mix _ _ _ _ hi, if_pos hi]
theorem mix_step (s t : BSet) (j : Nat) (hj : j < 4) : (setC (mix s t j)).setIfInBounds j (.int .u64 (word t j : Nat)) = setC (mix s t (j + 1)) := by
  have h := setC_set (mix s t j) (mix s t (j + 1)) j hj fun i hi hne => by
    rw [word_mix _ _ _ _ hi, word_mix _ _ _ _ hi]
    by_cases h : i < j
    · rw [if_pos h, if_pos (by omega)]
    · rw [if_neg h, if_neg (by omega)]
  rwa [word_mix _ _ _ _ hj, if_pos (by omega)] at h
theorem Box.mix {w : World} {b E : Nat} {s t : BSet} {j : Nat} (h : Box w b (setC (mix s t j)) E) (hj : j < 4) (v : Value) (hv : v = .int .u64 (word t j : Nat)) : Box (w.setCell ⟨b, j, none⟩ v) b (setC (Proofs.YtinlfbacfmmfpaaDoor.mix s t (j + 1))) E := by
  subst hv
  rw [← mix_step s t j hj]
  exact h.set j _
theorem Box.mixw {w : World} {b E : Nat} {s t : BSet} {j : Nat} (h : Box w b (setC (Proofs.YtinlfbacfmmfpaaDoor.mix s t j)) E) (hj : j < 4) : w.cell? ⟨b, j, none⟩ = some (.int .u64 (word s j : Nat)) := by
  have := h.setw hj
  rwa [word_mix _ _ _ _ hj, if_neg (by omega)] at this
theorem index_set (s : BSet) (j : Nat) (h : j < 4) (w : World) : (Instr.index 34 (.agg #[.int .u64 (word s 0 : Nat), .int .u64 (word s 1 : Nat), .int .u64 (word s 2 : Nat), .int .u64 (word s 3 : Nat)]) (.int .i64 (j : Nat))).run Tryd.prog w = .ok (.int .u64 (word s j : Nat)) w := by
  have i0 : (Instr.index 34 (.agg #[.int .u64 (word s 0 : Nat), .int .u64 (word s 1 : Nat), .int .u64 (word s 2 : Nat), .int .u64 (word s 3 : Nat)]) (.int .i64 (0 : Nat))).run Tryd.prog w = .ok (.int .u64 (word s 0 : Nat)) w := by kernel_rfl
  have i1 : (Instr.index 34 (.agg #[.int .u64 (word s 0 : Nat), .int .u64 (word s 1 : Nat), .int .u64 (word s 2 : Nat), .int .u64 (word s 3 : Nat)]) (.int .i64 (1 : Nat))).run Tryd.prog w = .ok (.int .u64 (word s 1 : Nat)) w := by kernel_rfl
  have i2 : (Instr.index 34 (.agg #[.int .u64 (word s 0 : Nat), .int .u64 (word s 1 : Nat), .int .u64 (word s 2 : Nat), .int .u64 (word s 3 : Nat)]) (.int .i64 (2 : Nat))).run Tryd.prog w = .ok (.int .u64 (word s 2 : Nat)) w := by kernel_rfl
  have i3 : (Instr.index 34 (.agg #[.int .u64 (word s 0 : Nat), .int .u64 (word s 1 : Nat), .int .u64 (word s 2 : Nat), .int .u64 (word s 3 : Nat)]) (.int .i64 (3 : Nat))).run Tryd.prog w = .ok (.int .u64 (word s 3 : Nat)) w := by kernel_rfl
  match j, h with
  | 0, _ => exact i0
  | 1, _ => exact i1
  | 2, _ => exact i2
  | 3, _ => exact i3
theorem and_words (s x : BSet) (j : Nat) : bits BinOp.and IntKind.u64 (word s j : Nat) (word x j : Nat) = ((word (s &&& x) j : Nat) : Int) := by
  rw [word_and, bits_and_u64_nat _ _ (word_lt _ _) (word_lt _ _)]
theorem or_words (s x : BSet) (j : Nat) : bits BinOp.or IntKind.u64 (word s j : Nat) (word x j : Nat) = ((word (s ||| x) j : Nat) : Int) := by
  rw [word_or, bits_or_u64_nat _ _ (word_lt _ _) (word_lt _ _)]
theorem less_words (s x : BSet) (j : Nat) (hj : j < 4) : bits BinOp.andNot IntKind.u64 (word s j : Nat) (word x j : Nat) = ((word (s &&& ~~~x) j : Nat) : Int) := by
  rw [word_and, word_not _ _ hj, u64_andNot_nat _ _ (word_lt _ _) (word_lt _ _)]

set_option maxHeartbeats 800000 in
theorem sets_Meet (s x : BSet) (w : World) : Calls Tryd.prog 33 #[.agg (setC s), .agg (setC x)] w (Ret w (setV (s &&& x))) := by
  have hop := and_words s x
  generalize s &&& x = t at *
  go_enter Tryd.func33, Tryd.ntmps33
  go_wp2
  go_loopw [8] (fun i wr => ∃ j : Nat, j ≤ 4 ∧ i = .int .i64 j ∧ Box wr w.heap.size (setC (mix s t j)) 34 ∧ Box wr (w.heap.size + 1 + 1) (setC 0) 34 ∧ Below w.heap.size w wr) (fun i _ => 4 - (intOf i).toNat)
  case atStart =>
    refine ⟨0, Nat.zero_le _, rfl, ?_, ?_, by go_grown⟩
    · rw [mix_zero]; exact ((Box.new' rfl _ _).alloc _).alloc _
    · rw [setC_zero]; exact Box.new' (by simp) _ _
  case round =>
    obtain ⟨j, hj, rfl, hb, h0, hB⟩ := hrel
    by_cases hlt : j < 4
    · have gw := index_set x j hlt
      have hc := hb.mixw hlt
      have hf := hb.free j
      have hv := hop j
      go_wp2
      go_roundw
      case rel => exact ⟨j + 1, hlt, by go_num, hb.mix hlt _ rfl, h0.other _ _ (by simp; omega), by go_grown⟩
      case measure => simp [intOf]; omega
    · obtain rfl : j = 4 := by omega
      rw [mix_four] at hb
      obtain ⟨⟨p0, p1, p2, p3⟩, ⟨q0, q1, q2, q3⟩⟩ := h0.set4
      obtain ⟨⟨r0, r1, r2, r3⟩, _⟩ := hb.set4
      go_wp2
      exact ret_box Tryd.results33 rfl (h0.store4 rfl _ _ _ _) Tryd.underlying34 rfl (by kernel_rfl) rfl ⟨rfl, by go_grown⟩
set_option maxHeartbeats 800000 in
theorem sets_Less (s x : BSet) (w : World) : Calls Tryd.prog 37 #[.agg (setC s), .agg (setC x)] w (Ret w (setV (s &&& ~~~x))) := by
  have hop := less_words s x
  generalize s &&& ~~~x = t at *
  go_enter Tryd.func37, Tryd.ntmps37
  go_wp2
  go_loopw [8] (fun i wr => ∃ j : Nat, j ≤ 4 ∧ i = .int .i64 j ∧ Box wr w.heap.size (setC (mix s t j)) 34 ∧ Box wr (w.heap.size + 1 + 1) (setC 0) 34 ∧ Below w.heap.size w wr) (fun i _ => 4 - (intOf i).toNat)
  case atStart =>
    refine ⟨0, Nat.zero_le _, rfl, ?_, ?_, by go_grown⟩
    · rw [mix_zero]; exact ((Box.new' rfl _ _).alloc _).alloc _
    · rw [setC_zero]; exact Box.new' (by simp) _ _
  case round =>
    obtain ⟨j, hj, rfl, hb, h0, hB⟩ := hrel
    by_cases hlt : j < 4
    · have gw := index_set x j hlt
      have hc := hb.mixw hlt
      have hf := hb.free j
      have hv := hop j hlt
      go_wp2
      go_roundw
      case rel => exact ⟨j + 1, hlt, by go_num, hb.mix hlt _ rfl, h0.other _ _ (by simp; omega), by go_grown⟩
      case measure => simp [intOf]; omega
    · obtain rfl : j = 4 := by omega
      rw [mix_four] at hb
      obtain ⟨⟨p0, p1, p2, p3⟩, ⟨q0, q1, q2, q3⟩⟩ := h0.set4
      obtain ⟨⟨r0, r1, r2, r3⟩, _⟩ := hb.set4
      go_wp2
      exact ret_box Tryd.results37 rfl (h0.store4 rfl _ _ _ _) Tryd.underlying34 rfl (by kernel_rfl) rfl ⟨rfl, by go_grown⟩
theorem xor_max (a : Nat) (h : a < 2 ^ 64) : (2 ^ 64 - 1) ^^^ a = 18446744073709551615 - a := by
  refine Nat.eq_of_testBit_eq fun i => ?_
  rw [Nat.testBit_xor, Nat.testBit_two_pow_sub_one, show 18446744073709551615 - a = 2 ^ 64 - (a + 1) by omega, Nat.testBit_two_pow_sub_succ h]
  by_cases hi : i < 64
  · simp [hi]
  · simp [hi, Nat.testBit_lt_two_pow (Nat.lt_of_lt_of_le h (Nat.pow_le_pow_right (by decide) (show 64 ≤ i by omega)))]
theorem not_words (s : BSet) (j : Nat) (hj : j < 4) : bits BinOp.xor IntKind.u64 IntKind.u64.max (word s j : Nat) = ((word (~~~s) j : Nat) : Int) := by
  rw [word_not _ _ hj, show IntKind.u64.max = ((2 ^ 64 - 1 : Nat) : Int) by decide, u64_xor_nat _ _ (by decide) (word_lt _ _), xor_max _ (word_lt _ _)]
set_option maxHeartbeats 800000 in
theorem sets_Not (s : BSet) (w : World) : Calls Tryd.prog 38 #[.agg (setC s)] w (Ret w (setV (~~~s))) := by
  have hop := not_words s
  generalize ~~~s = t at *
  go_enter Tryd.func38, Tryd.ntmps38
  go_wp2
  go_loopw [6] (fun i wr => ∃ j : Nat, j ≤ 4 ∧ i = .int .i64 j ∧ Box wr w.heap.size (setC (mix s t j)) 34 ∧ Box wr (w.heap.size + 1) (setC 0) 34 ∧ Below w.heap.size w wr) (fun i _ => 4 - (intOf i).toNat)
  case atStart =>
    refine ⟨0, Nat.zero_le _, rfl, ?_, ?_, by go_grown⟩
    · rw [mix_zero]; exact (Box.new' rfl _ _).alloc _
    · rw [setC_zero]; exact Box.new' (by simp) _ _
  case round =>
    obtain ⟨j, hj, rfl, hb, h0, hB⟩ := hrel
    by_cases hlt : j < 4
    · have gw := index_set s j hlt
      have hc := hb.mixw hlt
      have hf := hb.free j
      have hv := hop j hlt
      go_wp2
      go_roundw
      case rel => exact ⟨j + 1, hlt, by go_num, hb.mix hlt _ (by rw [if_neg (by decide), hv]), h0.other _ _ (by simp), by go_grown⟩
      case measure => simp [intOf]; omega
    · obtain rfl : j = 4 := by omega
      rw [mix_four] at hb
      obtain ⟨⟨p0, p1, p2, p3⟩, ⟨q0, q1, q2, q3⟩⟩ := h0.set4
      obtain ⟨⟨r0, r1, r2, r3⟩, _⟩ := hb.set4
      go_wp2
      exact ret_box Tryd.results38 rfl (h0.store4 rfl _ _ _ _) Tryd.underlying34 rfl (by kernel_rfl) rfl ⟨rfl, by go_grown⟩
theorem sets_All (w : World) : Calls Tryd.prog 23 #[] w (Ret w (setV (~~~0))) := by
  have hN := sets_Not 0
  rw [setC_zero] at hN
  generalize ~~~(0 : BSet) = t at *
  go_enter Tryd.func23, Tryd.ntmps23
  go_wp2_with (go_at_call 38; go_must (refine (hN _).mono ?_; rintro e w1 ⟨rfl, hb⟩; have h1 := (Box.new' (w := w) rfl #[.int .u64 0, .int .u64 0, .int .u64 0, .int .u64 0] 34).kept hb; have p0 := h1.cell 0; have p1 := h1.cell 1; have p2 := h1.cell 2; have p3 := h1.cell 3; have q0 := h1.free 0; have q1 := h1.free 1; have q2 := h1.free 2; have q3 := h1.free 3; have hB := ((Below.refl w.heap.size w).alloc (Nat.le_refl _) (.cells #[.int .u64 0, .int .u64 0, .int .u64 0, .int .u64 0] 34)).trans (hb.mono (by simp))))
  exact ret_box Tryd.results23 rfl (h1.store4 rfl _ _ _ _) Tryd.underlying34 rfl (by kernel_rfl) rfl ⟨rfl, by go_grown⟩
set_option maxHeartbeats 800000 in
theorem sets_Union (a : Option Addr) (cap : Nat) (l : List BSet) (w : World) (h : SliceR w (.slice a l.length cap) 4 encS l) :
    Calls Tryd.prog 35 #[.slice a l.length cap] w (Ret w (setV (l.foldl (· ||| ·) 0))) := by
  obtain ⟨b, o, hlen, hcap, hcap', ha, hbl, hcell⟩ := h.sets
  clear hlen h hbl
  have HC := Lib.hid hcell
  clear hcell
  go_enter Tryd.func35, Tryd.ntmps35
  go_wp2
  go_loopw [10] (fun i wr => ∃ j : Nat, j ≤ l.length ∧ i = .int .i64 j ∧ Box wr w.heap.size (setC 0) 34 ∧ Box wr (w.heap.size + 1) (setC ((l.take j).foldl (· ||| ·) 0)) 34 ∧ Below w.heap.size w wr) (fun i _ => l.length - (intOf i).toNat)
  case atStart =>
    refine ⟨0, Nat.zero_le _, rfl, ?_, ?_, by go_grown⟩
    · rw [setC_zero]; exact (Box.new' rfl _ _).alloc _
    · rw [List.take_zero, List.foldl_nil, setC_zero]; exact Box.new' (by simp) _ _
  case round =>
    obtain ⟨j, hj, rfl, h0, hb, hB⟩ := hrel
    by_cases hlt : j < l.length
    · have hdj : decide ((j : Int) < (l.length : Int)) = true := decide_eq_true (by omega)
      obtain rfl := ha j hlt
      obtain ⟨c0, c1, c2, c3⟩ := HC.out j hlt wr hB
      have e2 : (l.take (j + 1)).foldl (· ||| ·) 0 = (l.take j).foldl (· ||| ·) 0 ||| l[j] := by rw [List.take_succ_eq_append_getElem hlt, List.foldl_append]; rfl
      have HE := Lib.hid e2
      clear e2
      generalize l[j] = x at *
      generalize (l.take j).foldl (· ||| ·) 0 = s at *
      have hop := or_words s x
      generalize s ||| x = t at *
      have hs0 := h0.lt
      have hs1 := hb.lt
      go_wp2
      go_loopw [15] (fun i wr => ∃ k : Nat, k ≤ 4 ∧ i = .int .i64 k ∧ Box wr w.heap.size (setC 0) 34 ∧ Box wr (w.heap.size + 1) (setC (mix s t k)) 34 ∧ Below w.heap.size w wr) (fun i _ => 4 - (intOf i).toNat)
      case atStart => exact ⟨0, Nat.zero_le _, rfl, h0.alloc _, by rw [mix_zero]; exact hb.alloc _, by go_grown⟩
      case round =>
        obtain ⟨k, hk, rfl, h0, hb, hB⟩ := hrel
        by_cases hlt2 : k < 4
        · have gw := index_set x k hlt2
          have hc := hb.mixw hlt2
          have hf := hb.free k
          have hv := hop k
          go_wp2
          go_roundw
          case rel => exact ⟨k + 1, hlt2, by go_num, h0.other _ _ (by simp), hb.mix hlt2 _ rfl, by go_grown⟩
          case measure => simp [intOf]; omega
        · obtain rfl : k = 4 := by omega
          rw [mix_four] at hb
          go_wp2
          go_roundw
          case rel => exact ⟨j + 1, hlt, by go_num, h0, by rw [HE.out]; exact hb, hB⟩
          case measure => simp [intOf]; omega
    · obtain rfl : j = l.length := by omega
      rw [List.take_length] at hb
      obtain ⟨⟨p0, p1, p2, p3⟩, ⟨q0, q1, q2, q3⟩⟩ := h0.set4
      obtain ⟨⟨r0, r1, r2, r3⟩, _⟩ := hb.set4
      go_wp2
      exact ret_box Tryd.results35 rfl (h0.store4 rfl _ _ _ _) Tryd.underlying34 rfl (by kernel_rfl) rfl ⟨rfl, by go_grown⟩
end Go.Proofs.YtinlfbacfmmfpaaDoor
