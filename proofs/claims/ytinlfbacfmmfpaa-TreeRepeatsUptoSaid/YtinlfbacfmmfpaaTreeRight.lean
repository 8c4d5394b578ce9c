/- Whether a tree may be. -/
import Derived.Test.YtinlfbacfmmfpaaTreeWalk
import Derived.Test.YtinlfbacfmmfpaaTreeSame
namespace Go.Proofs.Ytinlfbacfmmfpaa
open Go.RowKit Go.Shelf
attribute [local go_sem] Oper.semAt_some

def timesB (lo hi : Int) : Bool := decide (0 ≤ lo) && decide (lo ≤ 1000) && (decide (hi = -1) || (decide (lo ≤ hi) && decide (hi ≤ 1000)))
def arityL : List Int := [-1, 0, 0, 0, 2, 2, 1, 1, 1, 1]
def arityZ (k : Int) : Int := if 0 ≤ k ∧ k < 10 then arityL.getD k.toNat (-1) else -1
/-- May a node be, without its kids? -/
def oneB (k : Int) (s : BSet) (n : Nat) (lo hi : Int) : Bool :=
  (decide (k = 3) || decide (s = 0)) && (if k = 9 then timesB lo hi else decide (lo = 0) && decide (hi = 0)) &&
    (if arityZ k = 0 then decide (n = 0) else if arityZ k = 1 then decide (n = 1) else if arityZ k = 2 then decide (2 ≤ n) else false)
mutual
def allT : Tr → Bool
  | .mk k s l lo hi => oneB k s l.length lo hi && allTs l
def allTs : List Tr → Bool
  | [] => true
  | a :: l => allT a && allTs l
end
def rightT (A : Tr) : Bool := decide (sizeT A ≤ 4096) && allT A
set_option maxHeartbeats 800000 in
theorem tree_times (lo hi : Int) (w : World) : Calls Try.prog 72 #[.int .i64 lo, .int .i64 hi] w (Ret w (.bool (timesB lo hi))) := by
  go_enter Try.func72, Try.ntmps72
  go_wp2
  all_goals
    go_ret
    refine ⟨congrArg (fun b => Ending.returned (Value.bool b)) ?_, by go_grown⟩
    rw [Bool.eq_iff_iff]
    simp [timesB]
    try omega
theorem arity_get (n : Nat) (h : n < 10) : [Value.int .i64 (-1), .int .i64 0, .int .i64 0, .int .i64 0, .int .i64 2, .int .i64 2, .int .i64 1, .int .i64 1, .int .i64 1, .int .i64 1][n]? = some (.int .i64 (arityZ n)) := by
  match n, h with
  | 0, _ => rfl
  | 1, _ => rfl
  | 2, _ => rfl
  | 3, _ => rfl
  | 4, _ => rfl
  | 5, _ => rfl
  | 6, _ => rfl
  | 7, _ => rfl
  | 8, _ => rfl
  | 9, _ => rfl
set_option maxHeartbeats 800000 in
theorem tree_arity (k : Int) (w : World) : Calls Try.prog 73 #[.int .i64 k] w (Ret w (.int .i64 (arityZ k))) := by
  by_cases h0 : k < 0
  · have e : arityZ k = -1 := by unfold arityZ; rw [if_neg (by omega)]
    rw [e]
    clear e
    go_enter Try.func73, Try.ntmps73
    go_wp2
    go_ret
    exact ⟨rfl, by go_grown⟩
  · by_cases h1 : 10 ≤ k
    · have e : arityZ k = -1 := by unfold arityZ; rw [if_neg (by omega)]
      rw [e]
      clear e
      go_enter Try.func73, Try.ntmps73
      go_wp2
      go_ret
      exact ⟨rfl, by go_grown⟩
    · obtain ⟨n, rfl⟩ := Int.eq_ofNat_of_zero_le (show 0 ≤ k by omega)
      have hn : n < 10 := by omega
      have hg := arity_get n hn
      generalize arityZ (n : Int) = z at *
      go_enter Try.func73, Try.ntmps73
      go_wp2
      go_ret
      refine ⟨congrArg Ending.returned ?_, by go_grown⟩
      obtain ⟨_, hz⟩ := List.getElem?_eq_some_iff.1 hg
      simp
      exact hz
theorem arity_cases (k : Int) : arityZ k = -1 ∨ arityZ k = 0 ∨ arityZ k = 1 ∨ arityZ k = 2 := by
  unfold arityZ
  split
  · rename_i h
    obtain ⟨n, rfl⟩ := Int.eq_ofNat_of_zero_le h.1
    have hn : n < 10 := by omega
    match n, hn with
    | 0, _ | 1, _ | 2, _ | 3, _ | 4, _ | 5, _ | 6, _ | 7, _ | 8, _ | 9, _ => decide
  · exact .inl rfl
set_option maxRecDepth 20000 in
set_option maxHeartbeats 1600000 in
theorem tree_alone (k : Int) (s : BSet) (a : Option Addr) (n cap : Nat) (lo hi : Int) (w : World) : Calls Try.prog 61 #[.agg (nodeC k s a n cap lo hi).toArray] w (Ret w (.bool (oneB k s n lo hi))) := by
  have hq := run_eqS (P := Try.prog) (t := 34) (e := 32) Try.underlying34 Try.underlying32 (by kernel_rfl) s 0
  unfold setV at hq
  rw [setC_zero] at hq
  by_cases h3 : k = 3
  · subst h3
    have ar : arityZ 3 = 0 := by decide
    by_cases h1 : lo = 0
    · subst h1
      by_cases h2 : hi = 0
      · subst h2
        have e : oneB 3 s n 0 0 = ((n : Int) == 0) := by unfold oneB; rw [ar]; rw [Bool.eq_iff_iff]; simp
        rw [e]
        clear e hq ar
        go_enter Try.func61, Try.ntmps61
        go_wp2_with (go_at_call 73; go_must (refine (tree_arity 3 _).mono ?_; rintro e w1 ⟨rfl, hb⟩; rw [show arityZ 3 = 0 by decide]; have x5 := ((Box.new w (nodeC 3 s a n cap 0 0).toArray 37).kept hb).cell 5))
        go_ret
        exact ⟨rfl, ((Below.refl w.heap.size w).alloc (Nat.le_refl _) _).trans (hb.mono (by simp))⟩
      · have e : oneB 3 s n 0 hi = false := by unfold oneB; simp [h2]
        have g2 : (hi != 0) = true := by simpa using h2
        rw [e]
        clear e hq ar h2
        go_enter Try.func61, Try.ntmps61
        go_wp2
        go_ret
        exact ⟨rfl, by go_grown⟩
    · have e : oneB 3 s n lo hi = false := by unfold oneB; simp [h1]
      have g1 : (lo != 0) = true := by simpa using h1
      rw [e]
      clear e hq ar h1
      go_enter Try.func61, Try.ntmps61
      go_wp2
      go_ret
      exact ⟨rfl, by go_grown⟩
  · have g3 : (k != 3) = true := by simpa using h3
    by_cases hs : s = 0
    · rw [decide_eq_true hs] at hq
      by_cases h9 : k = 9
      · subst h9
        have ar : arityZ 9 = 1 := by decide
        cases ht : timesB lo hi with
        | true =>
          have e : oneB 9 s n lo hi = ((n : Int) == 1) := by
            unfold oneB; rw [ar, ht, hs]; rw [Bool.eq_iff_iff]; simp; omega
          have HT := Lib.hid ht
          rw [e]
          clear e hs h3 ar ht
          go_enter Try.func61, Try.ntmps61
          go_wp2_with (first | (go_at_call 72; go_must (refine (tree_times lo hi _).mono ?_; rintro e w0 ⟨rfl, hb0⟩; rw [HT.out]; have y := (Box.new w (nodeC 9 s a n cap lo hi).toArray 37).kept hb0; have y0 := y.cell 0; have y5 := y.cell 5)) | (go_at_call 73; go_must (refine (tree_arity 9 _).mono ?_; rintro e w1 ⟨rfl, hb⟩; rw [show arityZ 9 = 1 by decide]; have x5 := (y.kept hb).cell 5)))
          go_ret
          exact ⟨rfl, (((Below.refl w.heap.size w).alloc (Nat.le_refl _) _).trans (hb0.mono (by simp))).trans (hb.mono (by have := hb0.size; simp at this; omega))⟩
        | false =>
          have e : oneB 9 s n lo hi = false := by unfold oneB; simp [ht]
          have HT := Lib.hid ht
          rw [e]
          clear e hs h3 ar ht
          go_enter Try.func61, Try.ntmps61
          go_wp2_with (go_at_call 72; go_must (refine (tree_times lo hi _).mono ?_; rintro e w0 ⟨rfl, hb0⟩; rw [HT.out]))
          go_ret
          exact ⟨rfl, ((Below.refl w.heap.size w).alloc (Nat.le_refl _) _).trans (hb0.mono (by simp))⟩
      · have g9 : (k == 9) = false := by simpa using h9
        by_cases h1 : lo = 0
        · subst h1
          by_cases h2 : hi = 0
          · subst h2
            rcases arity_cases k with hz | hz | hz | hz
            · have e : oneB k s n 0 0 = false := by unfold oneB; rw [hz, hs]; rw [Bool.eq_iff_iff]; simp [h9]
              have HZ := Lib.hid hz
              rw [e]
              clear e hz hs h3 h9
              go_enter Try.func61, Try.ntmps61
              go_wp2_with (go_at_call 73; go_must (refine (tree_arity k _).mono ?_; rintro e w1 ⟨rfl, hb⟩; rw [HZ.out]; have x5 := ((Box.new w (nodeC k s a n cap 0 0).toArray 37).kept hb).cell 5))
              go_ret
              exact ⟨rfl, ((Below.refl w.heap.size w).alloc (Nat.le_refl _) _).trans (hb.mono (by simp))⟩
            · have e : oneB k s n 0 0 = ((n : Int) == 0) := by unfold oneB; rw [hz, hs]; rw [Bool.eq_iff_iff]; simp [h9]
              have HZ := Lib.hid hz
              rw [e]
              clear e hz hs h3 h9
              go_enter Try.func61, Try.ntmps61
              go_wp2_with (go_at_call 73; go_must (refine (tree_arity k _).mono ?_; rintro e w1 ⟨rfl, hb⟩; rw [HZ.out]; have x5 := ((Box.new w (nodeC k s a n cap 0 0).toArray 37).kept hb).cell 5))
              go_ret
              exact ⟨rfl, ((Below.refl w.heap.size w).alloc (Nat.le_refl _) _).trans (hb.mono (by simp))⟩
            · have e : oneB k s n 0 0 = ((n : Int) == 1) := by unfold oneB; rw [hz, hs]; rw [Bool.eq_iff_iff]; simp [h9]; omega
              have HZ := Lib.hid hz
              rw [e]
              clear e hz hs h3 h9
              go_enter Try.func61, Try.ntmps61
              go_wp2_with (go_at_call 73; go_must (refine (tree_arity k _).mono ?_; rintro e w1 ⟨rfl, hb⟩; rw [HZ.out]; have x5 := ((Box.new w (nodeC k s a n cap 0 0).toArray 37).kept hb).cell 5))
              go_ret
              exact ⟨rfl, ((Below.refl w.heap.size w).alloc (Nat.le_refl _) _).trans (hb.mono (by simp))⟩
            · have e : oneB k s n 0 0 = decide (2 ≤ (n : Int)) := by unfold oneB; rw [hz, hs]; rw [Bool.eq_iff_iff]; simp [h9]; omega
              have HZ := Lib.hid hz
              rw [e]
              clear e hz hs h3 h9
              go_enter Try.func61, Try.ntmps61
              go_wp2_with (go_at_call 73; go_must (refine (tree_arity k _).mono ?_; rintro e w1 ⟨rfl, hb⟩; rw [HZ.out]; have x5 := ((Box.new w (nodeC k s a n cap 0 0).toArray 37).kept hb).cell 5))
              go_ret
              exact ⟨rfl, ((Below.refl w.heap.size w).alloc (Nat.le_refl _) _).trans (hb.mono (by simp))⟩
          · have e : oneB k s n 0 hi = false := by unfold oneB; simp [h2, h9]
            have g2 : (hi != 0) = true := by simpa using h2
            rw [e]
            clear e hs h3 h2 h9
            go_enter Try.func61, Try.ntmps61
            go_wp2
            go_ret
            exact ⟨rfl, by go_grown⟩
        · have e : oneB k s n lo hi = false := by unfold oneB; simp [h1, h9]
          have g1 : (lo != 0) = true := by simpa using h1
          rw [e]
          clear e hs h3 h1 h9
          go_enter Try.func61, Try.ntmps61
          go_wp2
          go_ret
          exact ⟨rfl, by go_grown⟩
    · have e : oneB k s n lo hi = false := by unfold oneB; rw [decide_eq_false h3, decide_eq_false hs]; rfl
      rw [decide_eq_false hs] at hq
      rw [e]
      clear e h3 hs
      go_enter Try.func61, Try.ntmps61
      go_wp2
      go_ret
      exact ⟨rfl, by go_grown⟩
end Go.Proofs.Ytinlfbacfmmfpaa
