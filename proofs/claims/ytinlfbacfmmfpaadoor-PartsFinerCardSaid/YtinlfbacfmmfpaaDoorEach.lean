/- The bytes of a set, given one by one: a range over a function. -/
import Derived.Test.YtinlfbacfmmfpaaDoorProg
import Derived.Test.YtinlfbacfmmfpaaDoorRange
import Derived.Test.YtinlfbacfmmfpaaDoorBits
import Derived.Test.YtinlfbacfmmfpaaDoorWords
import Derived.Laws.Bits64b
namespace Go.Proofs.YtinlfbacfmmfpaaDoor
open Go.RowKit Go.Shelf
attribute [local go_sem] Oper.semAt_some

/-- The library's table lies where its variable is. -/
def Tab (w : World) : Prop := ∀ j, j < 64 → w.cell? ⟨0, j, none⟩ = some (.int .u8 (Lib.deBruijn64tab.getD j 0))
theorem Tab.block {w : World} (h : Tab w) : ∃ o, w.heap[0]? = some o ∧ o.isCells = true := cells_of_cell (h 0 (by decide))
theorem Tab.keptC {X : Nat → Prop} {w w' : World} (h : Tab w) (hx : ¬ X 0) (hk : KeepC X w w') : Tab w' := fun j hj => hk.cell hx (h j hj)
theorem Tab.kept {w w' : World} (h : Tab w) (hb : Below w.heap.size w w') : Tab w' := h.keptC (X := fun _ => False) id (KeepC.below hb)
theorem Tab.pos {w : World} (h : Tab w) : 0 < w.heap.size := by obtain ⟨o, ho, _⟩ := h.block; exact (Array.getElem?_eq_some_iff.1 ho).1
theorem tz_key (x a : Nat) (hx : x < 18446744073709551616) (hx0 : x ≠ 0) (hlow : x &&& (18446744073709551616 - x) = a) :
    IntKind.u64.wrap (bits BinOp.and IntKind.u64 (x : Int) (IntKind.u64.wrap (-(x : Int))) * 285870213051353865) / 288230376151711744 = ((a * 285870213051353865 % 18446744073709551616 / 288230376151711744 : Nat) : Int) := by
  have e1 : IntKind.u64.wrap (-(x : Int)) = ((18446744073709551616 - x : Nat) : Int) := by rw [IntKind.wrap_u64]; omega
  rw [e1, bits_and_u64_nat x _ hx (by omega), hlow, IntKind.wrap_u64]
  omega
set_option maxHeartbeats 1000000 in
theorem tz64_core (x k idx : Nat) (w : World) (hx0 : ((x : Int) == 0) = false)
    (key : IntKind.u64.wrap (bits BinOp.and IntKind.u64 (x : Int) (IntKind.u64.wrap (-(x : Int))) * 285870213051353865) / 288230376151711744 = (idx : Int))
    (hi : idx < 64) (hcell : w.cell? ⟨0, idx, none⟩ = some (.int .u8 k)) (hk : k < 64) :
    Calls Tryd.prog 53 #[.int .u64 x] w fun e w' => e = .returned (.int .i64 k) ∧ w' = w := by
  go_enter Tryd.func53, Tryd.ntmps53
  go_wp2_with (simp only [key])
  go_ret
  exact ⟨rfl, rfl⟩
theorem tz64 (x : Nat) (h0 : x ≠ 0) (hx : x < 18446744073709551616) (w : World) (hT : Tab w) :
    Calls Tryd.prog 53 #[.int .u64 x] w fun e w' => e = .returned (.int .i64 (Lib.ctz 64 x : Nat)) ∧ w' = w := by
  obtain ⟨hlow, hk⟩ := Lib.lowest_bit 64 x h0 hx
  obtain ⟨hi, htab⟩ := Lib.deBruijn64_at _ hk
  have hcell := hT _ hi
  rw [htab] at hcell
  exact tz64_core x _ _ w (by simp; omega) (tz_key x _ hx h0 hlow) hi hcell hk
abbrev enc8 (x : Nat) : Array Value := #[.int .u8 x]
def EachRel (X : Nat → Prop) (J : List Nat → World → Prop) (s : BSet) (W wr : World) (i : Value) : Prop :=
  ∃ j pre, j ≤ 4 ∧ i = .int .i64 (j : Nat) ∧ pre ++ tailS s j (4 - j) = elems s ∧ J pre wr ∧ KeepC X W wr
def EachRel2 (X : Nat → Prop) (J : List Nat → World → Prop) (s : BSet) (j : Nat) (W wr : World) (v : Value) : Prop :=
  ∃ u pre : _, u < 18446744073709551616 ∧ v = .int .u64 (u : Nat) ∧ pre ++ (listW j u ++ tailS s (j + 1) (3 - j)) = elems s ∧ J pre wr ∧ KeepC X W wr
theorem and_pred (u : Nat) (h0 : u ≠ 0) (h : u < 18446744073709551616) : bits BinOp.and IntKind.u64 (u : Int) ((u : Int) - 1) = ((u &&& (u - 1) : Nat) : Int) := by
  rw [show ((u : Int) - 1) = ((u - 1 : Nat) : Int) by omega, bits_and_u64_nat u _ h (by omega)]
set_option maxRecDepth 100000 in
set_option maxHeartbeats 2000000 in
theorem each1_in (n l Bs : Nat) (X : Nat → Prop) (h0X : ¬ X 0) (J Jx : List Nat → World → Prop) (s : BSet)
    (hY : ∀ pre x W, J pre W → pre.length < (elems s).length → x < 256 → YieldAt Fence.wide (n - 1) Tryd.prog l (enc8 x) W fun e W' => (e = .returned (.bool true) ∧ J (pre ++ [x]) W' ∧ KeepC X W W') ∨ (e = .returned (.bool false) ∧ Jx (pre ++ [x]) W'))
    (W : World) (hT : Tab W) (hBs : Box W Bs (setC s) 34) (h0 : J [] W) :
    CallsIn Fence.wide n Tryd.prog 52 #[.func (.yield l) #[] #[], .pointer (some ⟨Bs, 0, none⟩)] W fun e W' => (∃ v, e = .returned v) ∧ ((∃ ys, ys = elems s ∧ J ys W') ∨ (∃ pre, pre <+: elems s ∧ Jx pre W')) := by
  obtain ⟨c0, c1, c2, c3⟩ := hBs.set4
  refine callsIn_of_wp Tryd.func52 rfl trivial ?_ rfl
  simp only [Tryd.ntmps52, List.size_toArray, List.length_cons, List.length_nil, Nat.reduceAdd, Nat.reduceSub, Array.replicate_succ, Array.replicate_zero, List.push_toArray, List.append_toArray, List.nil_append, List.cons_append]
  gi_wp2
  gi_loopw [6] (fun i wr => EachRel X J s W wr i) (fun i _ => 4 - (intOf i).toNat)
  case atStart => exact ⟨0, [], by omega, rfl, by rw [List.nil_append]; exact (elems_words s).symm, h0, KeepC.refl _ _⟩
  case round =>
    obtain ⟨j, pre, hj, rfl, he, hJr, hkr⟩ := hrel
    by_cases hlt : j < 4
    · have gw := index_set s j hlt
      have hdj : decide ((j : Int) < 4) = true := decide_eq_true (by omega)
      rw [show 4 - j = (3 - j) + 1 by omega, tailS] at he
      have hu := word_lt s j
      generalize word s j = u0 at *
      gi_wp2
      gi_loopw [4] (fun v wr => EachRel2 X J s j W wr v) (fun v _ => (intOf v).toNat)
      case atStart => exact ⟨_, pre, hu, rfl, he, hJr, hkr⟩
      case round =>
        obtain ⟨u, pre, hu, rfl, he, hJr, hkr⟩ := hrel
        by_cases hz : u = 0
        · subst hz
          rw [listW, elemsW_zero, List.map_nil, List.nil_append] at he
          gi_wp2
          exact ⟨⟨j + 1, pre, hlt, by simp, by rw [show 4 - (j + 1) = 3 - j by omega]; exact he, hJr, hkr⟩, by simp [intOf]; omega⟩
        · have hne : ((u : Int) != 0) = true := by simp; omega
          obtain ⟨hls, hk, hdec⟩ := low_step u hz hu
          have hand := and_pred u hz hu
          have hlw : listW j u = (64 * j + Lib.ctz 64 u) :: listW j (u &&& (u - 1)) := by rw [listW, hls]; rfl
          have hl : pre.length < (elems s).length := by
            rw [← he, listW, hls]; simp
          have hYY := hY pre (64 * j + Lib.ctz 64 u) wr hJr hl (by omega)
          rw [show enc8 (64 * j + Lib.ctz 64 u) = #[.int .u8 ((j : Int) * 64 + (Lib.ctz 64 u : Nat))] by simp only [enc8]; rw [show ((64 * j + Lib.ctz 64 u : Nat) : Int) = (j : Int) * 64 + (Lib.ctz 64 u : Nat) by omega]] at hYY
          obtain ⟨fn, tmps, assign, body, hy, hR⟩ := hYY
          have HT := Lib.hid (hT.keptC h0X hkr)
          have TZ := fun w hT => tz64 u hz hu w hT
          generalize Lib.ctz 64 u = k at *
          have hdd : ∀ k : Nat, (Fence.wide.depth.isSome = true → 1 ≤ k) := fun k h => by cases h
          gi_wp2_with (first | (refine ⟨trivial, hdd _, ?_⟩; gi_at_call 53; go_must (refine (callsIn_wide.2 (TZ _ HT.out)).mono ?_; rintro e w1 ⟨rfl, rfl⟩)) | (refine ⟨hdd _, ?_⟩; refine hR.mono ?_; clear hR; rintro e W2 (⟨rfl, hJ2, hk2⟩ | ⟨rfl, hx2⟩)))
          · refine ⟨⟨u &&& (u - 1), pre ++ [64 * j + k], by omega, rfl, ?_, hJ2, hkr.trans hk2⟩, by simp [intOf]; omega⟩
            rw [← he, hlw]; simp
          · refine bodyPost_ret (results_none rfl _ _ _) rfl ?_
            refine ⟨⟨_, rfl⟩, .inr ⟨_, ?_, hx2⟩⟩
            rw [← he, hlw]
            exact ⟨listW j (u &&& (u - 1)) ++ tailS s (j + 1) (3 - j), by simp⟩
    · obtain rfl : j = 4 := by omega
      rw [show tailS s 4 (4 - 4) = [] from rfl, List.append_nil] at he
      subst he
      gi_wp2
      go_end0
      exact ⟨⟨_, rfl⟩, .inl ⟨_, rfl, hJr⟩⟩
theorem each_stops (n Bs : Nat) (X : Nat → Prop) (s : BSet) (w : World) (h0X : ¬ X 0) (hT : Tab w) (hBs : Box w Bs (setC s) 34) :
    SeqStopsK Fence.wide n Tryd.prog 52 #[.pointer (some ⟨Bs, 0, none⟩)] enc8 (KeepC X) (fun ys => ys = elems s) (fun pre => pre <+: elems s) (elems s).length w := fun l J Jx W hW _ _ hY h0 =>
  each1_in n l Bs X h0X J Jx s (fun pre x W hj hl _ => hY pre x W hj hl) W (hT.kept hW) (hBs.kept hW) h0
/-- The same, where each byte bears that it is one. -/
abbrev encF (x : Fin 256) : Array Value := #[.int .u8 (x.val : Nat)]
theorem each_stopsF (n Bs : Nat) (X : Nat → Prop) (s : BSet) (w : World) (h0X : ¬ X 0) (hT : Tab w) (hBs : Box w Bs (setC s) 34) :
    SeqStopsK Fence.wide n Tryd.prog 52 #[.pointer (some ⟨Bs, 0, none⟩)] encF (KeepC X) (fun ys => ys.map (·.val) = elems s) (fun pre => pre.map (·.val) <+: elems s) (elems s).length w := fun l J Jx W hW _ _ hY h0 => by
  refine (each1_in n l Bs X h0X (fun pre W => ∃ p : List (Fin 256), p.map (·.val) = pre ∧ J p W) (fun pre W => ∃ p : List (Fin 256), p.map (·.val) = pre ∧ Jx p W) s
    (fun pre x W ⟨p, hp, hJ⟩ hl hx => (hY p ⟨x, hx⟩ W hJ (by rw [← hp] at hl; simpa using hl)).mono (fun e W' h => ?_)) W (hT.kept hW) (hBs.kept hW) ⟨[], rfl, h0⟩).mono (fun e W' h => ?_)
  · rcases h with ⟨h1, h2, h3⟩ | ⟨h1, h2⟩
    · exact .inl ⟨h1, ⟨_, by simp [hp], h2⟩, h3⟩
    · exact .inr ⟨h1, _, by simp [hp], h2⟩
  · rcases h with ⟨h1, ⟨_, rfl, p, hp, h2⟩ | ⟨_, h3, p, rfl, h2⟩⟩
    · exact ⟨h1, .inl ⟨p, hp, h2⟩⟩
    · exact ⟨h1, .inr ⟨p, h3, h2⟩⟩
theorem each_at (s : BSet) (w : World) : Calls Tryd.prog 46 #[.agg (setC s)] w fun e w' => e = .returned (.func (.func 52) #[] #[.pointer (some ⟨w.heap.size, 0, none⟩)]) ∧ w' = w.alloc (.cells (setC s) 34) := by
  go_enter Tryd.func46, Tryd.ntmps46
  go_wp2
  go_ret
  exact ⟨rfl, rfl⟩
end Go.Proofs.YtinlfbacfmmfpaaDoor
