/- How many bytes are in a set. -/
import Derived.Test.YtinlfbacfmmfpaaDoorWords
import Derived.Test.YtinlfbacfmmfpaaDoorPop
import Derived.Laws.Bits128
namespace Go.Proofs.YtinlfbacfmmfpaaDoor
open Go.RowKit

set_option maxHeartbeats 1000000 in
theorem ones_core (x a1 b1 a2 b2 c r : Nat) (w : World)
    (ha1 : bits BinOp.and IntKind.u64 ((x : Int) / 2) 6148914691236517205 = (a1 : Int)) (hb1 : bits BinOp.and IntKind.u64 (x : Int) 6148914691236517205 = (b1 : Int)) (h1 : a1 + b1 < 18446744073709551616)
    (ha2 : bits BinOp.and IntKind.u64 (((a1 : Int) + (b1 : Int)) / 4) 3689348814741910323 = (a2 : Int)) (hb2 : bits BinOp.and IntKind.u64 ((a1 : Int) + (b1 : Int)) 3689348814741910323 = (b2 : Int)) (h2 : (a2 + b2) / 16 + (a2 + b2) < 18446744073709551616)
    (hc : bits BinOp.and IntKind.u64 (((a2 : Int) + (b2 : Int)) / 16 + ((a2 : Int) + (b2 : Int))) 1085102592571150095 = (c : Int)) (h3 : c ≤ 578721382704613384)
    (hr : bits BinOp.and IntKind.i64 ((c : Int) + (c : Int) / 256 + ((c : Int) + (c : Int) / 256) / 65536 + ((c : Int) + (c : Int) / 256 + ((c : Int) + (c : Int) / 256) / 65536) / 4294967296) 127 = (r : Int)) :
    Calls Tryd.prog 47 #[.int .u64 x] w fun e w' => e = .returned (.int .i64 r) ∧ w' = w := by
  go_enter Tryd.func47, Tryd.ntmps47
  go_wp2
  go_ret
  exact ⟨rfl, rfl⟩
theorem and_div (x d M : Nat) (hx : x < 18446744073709551616) (hM : M < 18446744073709551616) : bits BinOp.and IntKind.u64 ((x : Int) / (d : Int)) (M : Int) = ((x / d &&& M : Nat) : Int) := by
  rw [← Int.natCast_ediv]; exact bits_and_u64_nat _ _ (Nat.lt_of_le_of_lt (Nat.div_le_self _ _) hx) hM
theorem ones64 (x : Nat) (hx : x < 18446744073709551616) (w : World) :
    Calls Tryd.prog 47 #[.int .u64 x] w fun e w' => e = .returned (.int .i64 ((elemsW x).length : Nat)) ∧ w' = w := by
  obtain ⟨h3, hs⟩ := pop3_sum x
  have hp1 : x / 2 &&& 6148914691236517205 ≤ 6148914691236517205 := Nat.and_le_right
  have hp2 : x &&& 6148914691236517205 ≤ 6148914691236517205 := Nat.and_le_right
  have hq1 : pop1 x / 4 &&& 3689348814741910323 ≤ 3689348814741910323 := Nat.and_le_right
  have hq2 : pop1 x &&& 3689348814741910323 ≤ 3689348814741910323 := Nat.and_le_right
  have hb1 : pop1 x < 18446744073709551616 := by unfold pop1; omega
  have hb2 : pop2 (pop1 x) / 16 + pop2 (pop1 x) < 18446744073709551616 := by unfold pop2; omega
  have c1 : (((x / 2 &&& 6148914691236517205 : Nat) : Int) + ((x &&& 6148914691236517205 : Nat) : Int)) = ((pop1 x : Nat) : Int) := by unfold pop1; omega
  have c2 : (((pop1 x / 4 &&& 3689348814741910323 : Nat) : Int) + ((pop1 x &&& 3689348814741910323 : Nat) : Int)) = ((pop2 (pop1 x) : Nat) : Int) := by unfold pop2; omega
  refine ones_core x (x / 2 &&& 6148914691236517205) (x &&& 6148914691236517205) (pop1 x / 4 &&& 3689348814741910323) (pop1 x &&& 3689348814741910323) (pop3 (pop2 (pop1 x))) _ w
    (and_div x 2 6148914691236517205 hx (by decide)) (bits_and_u64_nat x 6148914691236517205 hx (by decide)) hb1 ?_ ?_ hb2 ?_ h3 ?_
  · rw [c1]; exact and_div _ 4 3689348814741910323 hb1 (by decide)
  · rw [c1]; exact bits_and_u64_nat _ 3689348814741910323 hb1 (by decide)
  · rw [c2, show ((pop2 (pop1 x) : Nat) : Int) / 16 + ((pop2 (pop1 x) : Nat) : Int) = ((pop2 (pop1 x) / 16 + pop2 (pop1 x) : Nat) : Int) by omega]
    exact bits_and_u64_nat _ 1085102592571150095 hb2 (by decide)
  · rw [i64_and127, ← hs]
    generalize pop3 (pop2 (pop1 x)) = c
    omega
def cntS (s : BSet) : Nat → Nat
  | 0 => 0
  | j + 1 => cntS s j + (elemsW (word s j)).length
theorem cntS_le (s : BSet) : ∀ j, cntS s j ≤ 64 * j
  | 0 => Nat.le_refl _
  | j + 1 => by
    have h := cntS_le s j
    have h2 : (elemsW (word s j)).length ≤ 64 := by have := List.length_filter_le (fun i => (word s j).testBit i) (List.range 64); simpa [elemsW] using this
    simp only [cntS]; omega
theorem cntS_elems (s : BSet) : cntS s 4 = (elems s).length := by
  rw [elems_words]; simp [cntS, tailS, listW]; omega
set_option maxHeartbeats 800000 in
theorem sets_Count (s : BSet) (w : World) : Calls Tryd.prog 29 #[.agg (setC s)] w (Ret w (.int .i64 ((elems s).length : Nat))) := by
  rw [← cntS_elems]
  go_enter Tryd.func29, Tryd.ntmps29
  go_wp2
  go_loopw [3, 7] (fun n i wr => ∃ j : Nat, j ≤ 4 ∧ i = .int .i64 j ∧ n = .int .i64 (cntS s j : Nat) ∧ Below w.heap.size w wr) (fun _ i _ => 4 - (intOf i).toNat)
  case atStart => exact ⟨0, Nat.zero_le _, rfl, rfl, by go_grown⟩
  case round =>
    obtain ⟨j, hj, rfl, rfl, hB⟩ := hrel
    by_cases hlt : j < 4
    · have gw := index_set s j hlt
      have hle := cntS_le s j
      have hO := ones64 (word s j) (word_lt s j)
      have hst : cntS s (j + 1) = cntS s j + (elemsW (word s j)).length := rfl
      have hle2 : (elemsW (word s j)).length ≤ 64 := by have := List.length_filter_le (fun i => (word s j).testBit i) (List.range 64); simpa [elemsW] using this
      have HO := Lib.hid hO
      clear hO
      generalize (elemsW (word s j)).length = m at *
      go_wp2_with (go_at_call 47; go_must (refine (HO.out _).mono ?_; rintro e w1 ⟨rfl, rfl⟩))
      go_roundw
      case rel => exact ⟨j + 1, hlt, by go_num, by rw [hst]; go_num, hB⟩
      case measure => simp [intOf]; omega
    · obtain rfl : j = 4 := by omega
      go_wp2
      go_ret
      exact ⟨rfl, hB⟩
end Go.Proofs.YtinlfbacfmmfpaaDoor
