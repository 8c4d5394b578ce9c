/- The bits of words, and the bytes of sets, one behind the other: plain. -/
import Derived.Lib.TrailingZeros
import Derived.Test.YtinlfbacfmmfpaaDoorBase
namespace Go.Proofs.YtinlfbacfmmfpaaDoor

/-- The places of a word's bits, rising. -/
def elemsW (v : Nat) : List Nat := (List.range 64).filter fun j => v.testBit j
theorem elemsW_zero : elemsW 0 = [] := by simp [elemsW]
theorem low_step (v : Nat) (h0 : v ≠ 0) (h : v < 18446744073709551616) : elemsW v = Lib.ctz 64 v :: elemsW (v &&& (v - 1)) ∧ Lib.ctz 64 v < 64 ∧ v &&& (v - 1) < v := by
  obtain ⟨m, hm, hk⟩ := Lib.ctzFrom_spec 64 v (by omega) h
  have e : Lib.ctz 64 v = Lib.ctzFrom 64 v := by simp [Lib.ctz, h0]
  rw [e]
  generalize Lib.ctzFrom 64 v = k at *
  have hp : 0 < 2 ^ k := Nat.pow_pos (by decide)
  have h1 : v - 1 = 2 ^ k * (2 * m) + (2 ^ k - 1) := by rw [hm, Nat.mul_add]; omega
  have tv : ∀ j, v.testBit j = (decide (k ≤ j) && (2 * m + 1).testBit (j - k)) := fun j => by rw [hm, Nat.testBit_two_pow_mul]
  have tp : ∀ j, (v &&& (v - 1)).testBit j = (decide (k < j) && v.testBit j) := fun j => by
    rw [Nat.testBit_and, h1, Nat.testBit_two_pow_mul_add _ (by omega), tv]
    by_cases a : j < k
    · simp [a, show ¬ k ≤ j by omega, show ¬ k < j by omega]
    · by_cases b : j = k
      · subst b; simp
      · obtain ⟨d, rfl⟩ : ∃ d, j = k + (d + 1) := ⟨j - k - 1, by omega⟩
        rw [show k + (d + 1) - k = d + 1 by omega]
        simp [Nat.testBit_succ, show ¬ k + (d + 1) < k by omega, show k ≤ k + (d + 1) by omega, show k < k + (d + 1) by omega]
        rw [show (2 * m + 1) / 2 = m by omega]
        exact id
  refine ⟨?_, hk, ?_⟩
  · unfold elemsW
    have hr : List.range 64 = List.range k ++ (k :: (List.range (64 - (k + 1))).map (k + 1 + ·)) := by
      rw [show (64 : Nat) = (k + 1) + (64 - (k + 1)) by omega, List.range_add, List.range_succ]
      simp
    rw [hr, List.filter_append, List.filter_append, List.filter_cons, List.filter_cons]
    have f1 : (List.range k).filter (fun j => v.testBit j) = [] := List.filter_eq_nil_iff.2 fun x hx => by rw [tv]; simp [Nat.not_le.2 (List.mem_range.1 hx)]
    have f2 : (List.range k).filter (fun j => (v &&& (v - 1)).testBit j) = [] := List.filter_eq_nil_iff.2 fun x hx => by rw [tp]; simp [Nat.not_lt.2 (Nat.le_of_lt (List.mem_range.1 hx))]
    have f3 : v.testBit k = true := by rw [tv]; simp
    have f4 : (v &&& (v - 1)).testBit k = false := by rw [tp]; simp
    rw [f1, f2, f3, f4]
    simp only [List.nil_append, if_true, Bool.false_eq_true, if_false]
    congr 1
    refine List.filter_congr fun x hx => ?_
    obtain ⟨y, _, rfl⟩ := List.mem_map.1 hx
    rw [tp]; simp [show k < k + 1 + y by omega]
  · exact Nat.lt_of_le_of_lt Nat.and_le_right (by omega)

def listW (i v : Nat) : List Nat := (elemsW v).map (64 * i + ·)
/-- The bytes of a set, rising. -/
def elems (s : BSet) : List Nat := (List.range 256).filter (mem s)
def tailS (s : BSet) : Nat → Nat → List Nat
  | _, 0 => []
  | i, f + 1 => listW i (word s i) ++ tailS s (i + 1) f
theorem elems_filter (s : BSet) (i : Nat) : ((List.range 64).map (64 * i + ·)).filter (mem s) = listW i (word s i) := by
  rw [List.filter_map]
  unfold listW elemsW
  congr 1
  refine List.filter_congr fun x hx => ?_
  rw [word_testBit]; simp [List.mem_range.1 hx]
theorem elems_words (s : BSet) : elems s = tailS s 0 4 := by
  unfold elems
  rw [show List.range 256 = (List.range 64).map (64 * 0 + ·) ++ ((List.range 64).map (64 * 1 + ·) ++ ((List.range 64).map (64 * 2 + ·) ++ (List.range 64).map (64 * 3 + ·))) by decide +kernel]
  simp only [List.filter_append, elems_filter, tailS, List.append_nil]
theorem mem_elems (s : BSet) (x : Nat) : x ∈ elems s ↔ mem s x = true := by
  unfold elems
  rw [List.mem_filter, List.mem_range]
  refine ⟨fun h => h.2, fun h => ⟨?_, h⟩⟩
  apply Decidable.byContradiction
  intro hn
  rw [mem_ge s x (by omega)] at h; cases h
theorem elems_lt {s : BSet} {x : Nat} (h : x ∈ elems s) : x < 256 := List.mem_range.1 (List.mem_filter.1 h).1
theorem elems_length (s : BSet) : (elems s).length ≤ 256 := by
  have := List.length_filter_le (mem s) (List.range 256)
  simpa [elems] using this
theorem elems_sorted (s : BSet) : (elems s).Pairwise (· < ·) := List.Pairwise.filter _ List.pairwise_lt_range
theorem ofL_elems (s : BSet) : ofL (elems s) = s := set_ext fun b _ => by
  rw [mem_ofL _ _ fun x hx => elems_lt hx]
  by_cases h : mem s b = true
  · rw [h]; exact decide_eq_true ((mem_elems s b).2 h)
  · rw [Bool.not_eq_true] at h
    rw [h]; exact decide_eq_false fun hx => by rw [(mem_elems s b).1 hx] at h; cases h
theorem leastOf_elems (s : BSet) : leastOf s = match elems s with | [] => -1 | b :: _ => (b : Int) := by
  unfold leastOf elems
  generalize List.range 256 = l
  induction l with
  | nil => rfl
  | cons a l ih =>
    rw [List.find?_cons, List.filter_cons]
    cases mem s a
    · simpa using ih
    · rfl
end Go.Proofs.YtinlfbacfmmfpaaDoor
