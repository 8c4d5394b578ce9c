/- The classes of bytes: what the functions of 'parts' come to. -/
import Derived.Test.YtinlfbacfmmfpaaDoorNumberP
import Derived.Test.YtinlfbacfmmfpaaDoorSets
namespace Go.Proofs.YtinlfbacfmmfpaaDoor
open Go.RowKit

/-- No set of l tells b and c apart. -/
def RL (l : List BSet) (b c : Nat) : Bool := l.all fun s => mem s b == mem s c
theorem RL_equi (l : List BSet) : Equi (RL l) := by
  refine ⟨fun b => by simp [RL], fun {b c} h => ?_, fun {b c d} h k => ?_⟩ <;> simp only [RL, List.all_eq_true, beq_iff_eq] at *
  · exact fun s hs => (h s hs).symm
  · exact fun s hs => (h s hs).trans (k s hs)
theorem RL_snoc (l : List BSet) (s : BSet) (b c : Nat) : RL (l ++ [s]) b c = (RL l b c && (mem s b == mem s c)) := by simp [RL]
/-- The key of a byte, behind one set more. -/
def keyOf2 (R : Nat → Nat → Bool) (s : BSet) (b : Nat) : Int × Int := ((numR R b : Nat), if mem s b then 1 else 0)
theorem kern_keyOf2 {R : Nat → Nat → Bool} (E : Equi R) (s : BSet) {b c : Nat} (hb : b < 256) (hc : c < 256) : Kern (keyOf2 R s) b c = (R b c && (mem s b == mem s c)) := by
  rw [Bool.eq_iff_iff]
  simp only [Kern, keyOf2, decide_eq_true_eq, Prod.mk.injEq, Bool.and_eq_true, beq_iff_eq]
  rw [show (((numR R b : Nat) : Int) = ((numR R c : Nat) : Int)) ↔ numR R b = numR R c by omega, numR_eq E hb hc]
  cases mem s b <;> cases mem s c <;> simp

theorem parts_Of1 (b : Nat) (w : World) : Calls Tryd.prog 49 #[.int .i64 b] w (Ret w (.bool true)) := by
  go_enter Tryd.func49, Tryd.ntmps49
  go_wp2
  go_ret
  exact ⟨rfl, by go_grown⟩
set_option maxRecDepth 20000 in
theorem parts_Of2 (R : Nat → Nat → Bool) (E : Equi R) (s : BSet) (p q b : Nat) (w : World) (hb : b < 256) (hp : Box w p (setC s) 34) (hq : Box w q (arr8 (numR R)) 22) :
    Calls Tryd.prog 51 #[.int .i64 b, .pointer (some ⟨p, 0, none⟩), .pointer (some ⟨q, 0, none⟩)] w (Ret w (encP .i64 (keyOf2 R s b))) := by
  obtain ⟨⟨r0, r1, r2, r3⟩, _⟩ := hp.set4
  have hlt := numR_lt256 E.refl hb
  have l1 := hp.lt
  have l2 := hq.lt
  have hwr := wrap_u8_nat b hb
  cases hm : mem s b with
  | true =>
    have HM := Lib.hid hm
    clear hm
    go_enter Tryd.func51, Tryd.ntmps51
    go_wp2_with (go_at_call 34; go_must (refine (sets_Has _ _ _ hb).mono ?_; rintro e w1 ⟨rfl, hB⟩; rw [HM.out]; have hc1 := (((hq.alloc _).kept hB).cell b).trans (arr8_get _ b hb); have hx0 := (Box.new _ _ _).kept hB; have hx1 := hx0.cell 0; have hx2 := hx0.cell 1; have hx3 := hx0.free 0; have hx4 := hx0.free 1))
    refine ret_box Tryd.results51 rfl ((hx0.set 0 _).set 1 _) Tryd.underlying70 rfl (by kernel_rfl) rfl ⟨?_, by have hB1 := ((Below.refl w.heap.size w).alloc (Nat.le_refl _) _).trans (hB.mono (by simp)); go_grown⟩
    unfold keyOf2; rw [HM.out]; rfl
  | false =>
    have HM := Lib.hid hm
    clear hm
    go_enter Tryd.func51, Tryd.ntmps51
    go_wp2_with (go_at_call 34; go_must (refine (sets_Has _ _ _ hb).mono ?_; rintro e w1 ⟨rfl, hB⟩; rw [HM.out]; have hc1 := (((hq.alloc _).kept hB).cell b).trans (arr8_get _ b hb); have hx0 := (Box.new _ _ _).kept hB; have hx1 := hx0.cell 0; have hx2 := hx0.cell 1; have hx3 := hx0.free 0; have hx4 := hx0.free 1))
    refine ret_box Tryd.results51 rfl ((hx0.set 0 _).set 1 _) Tryd.underlying70 rfl (by kernel_rfl) rfl ⟨?_, by have hB1 := ((Below.refl w.heap.size w).alloc (Nat.le_refl _) _).trans (hB.mono (by simp)); go_grown⟩
    unfold keyOf2; rw [HM.out]; rfl
set_option maxRecDepth 20000 in
set_option maxHeartbeats 400000 in
theorem parts_Of (a : Option Addr) (cap : Nat) (l : List BSet) (w : World) (h : SliceR w (.slice a l.length cap) 4 encS l) :
    Calls Tryd.prog 32 #[.slice a l.length cap] w (Ret w (.tuple #[.agg (arr8 (numR (RL l))), .int .i64 (widR (RL l) : Nat)])) := by
  obtain ⟨b, o, hlen, hcap, hcap', ha, hbl, hcell⟩ := h.sets
  clear hlen h hbl
  have hz := zeroV_256
  have HC := Lib.hid hcell
  clear hcell
  go_enter Tryd.func32, Tryd.ntmps32
  go_wp2_with (first | (refine wpList_store_new rfl 22 (.tmp 4) (.tmp 11) rfl _ _ rfl rfl rfl (size_256 _) (by rw [arr8_size, arr8_size]) (arr8_all _) ?_) | (go_at_call 48; go_must (refine (number_bool (fun _ => true) _ (fun b hb w' _ => parts_Of1 b w')).mono ?_; rintro e w1 ⟨rfl, hB⟩)))
  have hx0 := (Box.new' (w := w) rfl (arr8 fun _ => 0) 22).kept hB
  have hB1 := ((Below.refl w.heap.size w).alloc (Nat.le_refl _) _).trans (hB.mono (by simp))
  have hsz : w.heap.size < w1.heap.size := hx0.lt
  have e0 : arr8 (numR (Kern fun _ => true)) = arr8 (numR (RL [])) := arr8_congr fun i hi => numR_congr (fun _ _ _ _ => by simp [Kern, RL]) hi
  have e1 : widR (Kern fun _ => true) = widR (RL []) := widR_congr (fun _ _ _ _ => by simp [Kern, RL])
  rw [e0, e1]
  clear e0 e1
  generalize hq : w1.heap.size = q
  go_loopw [5, 15] (fun n i wr => ∃ j : Nat, j ≤ l.length ∧ i = .int .i64 j ∧ n = .int .i64 (widR (RL (l.take j)) : Nat) ∧ Box wr w.heap.size (arr8 fun _ => 0) 22 ∧ Box wr q (arr8 (numR (RL (l.take j)))) 22 ∧ Below w.heap.size w wr) (fun _ i _ => l.length - (intOf i).toNat)
  case atStart =>
    subst hq
    exact ⟨0, Nat.zero_le _, rfl, rfl, hx0.alloc _, Box.new _ _ _, by go_grown⟩
  case round =>
    obtain ⟨j, hj, rfl, rfl, hb0, hb1, hB2⟩ := hrel
    by_cases hlt : j < l.length
    · obtain rfl := ha j hlt
      obtain ⟨c0, c1, c2, c3⟩ := HC.out j hlt wr hB2
      have e2 : l.take (j + 1) = l.take j ++ [l[j]] := List.take_succ_eq_append_getElem hlt
      have HE := Lib.hid e2
      clear e2 ha
      generalize l[j] = s at *
      have hR := RL_equi (l.take j)
      have hb0' := hb0.lt
      have hb1' := hb1.lt
      go_wp2_with (first | (refine wpList_load_row rfl 22 (.tmp 4) rfl q rfl _ _ _ _ (hb1.alloc _) Tryd.underlying22 rfl (size_256 _) ?_) | (refine wpList_store_new rfl 22 (.tmp 8) (.tmp 19) rfl _ _ rfl rfl (by simp) (size_256 _) (by rw [arr8_size, arr8_size]) (arr8_all _) ?_) | (refine wpList_store_row rfl 22 (.tmp 4) (.tmp 23) rfl q _ rfl rfl _ _ hx1 (size_256 _) (by rw [arr8_size, arr8_size]) (arr8_all _) ?_) | (go_at_call 50; go_must (refine (number_ii (keyOf2 (RL (l.take j)) s) _ _ _ (fun b hb w' hB' => parts_Of2 (RL (l.take j)) hR s _ _ b w' hb (((Box.new' rfl _ _).alloc _).kept hB') ((Box.new' (World.size_alloc _ _).symm _ _).kept hB'))).mono ?_; rintro e w2 ⟨rfl, hB3⟩; have hx0 := ((hb0.alloc _).alloc _).kept hB3; have hx1 := ((hb1.alloc _).alloc _).kept hB3; have hB4 := ((hB2.alloc (Nat.le_of_lt hb0') _).alloc (by simp; omega) _).trans (hB3.mono (by simp; omega)))))
      have eA : arr8 (numR (Kern (keyOf2 (RL (l.take j)) s))) = arr8 (numR (RL (l.take (j + 1)))) := arr8_congr fun i hi => numR_congr (fun b c hb hc => by rw [kern_keyOf2 hR s hb hc, HE.out, RL_snoc]) hi
      have eB : widR (Kern (keyOf2 (RL (l.take j)) s)) = widR (RL (l.take (j + 1))) := widR_congr (fun b c hb hc => by rw [kern_keyOf2 hR s hb hc, HE.out, RL_snoc])
      rw [eA, eB]
      go_roundw
      case rel => exact ⟨j + 1, hlt, by go_num, rfl, hx0.setRow_other _ (by omega), hx1.setRow _, below_setRow hB4 (by omega) _⟩
      case measure => simp [intOf]; omega
    · obtain rfl : j = l.length := by omega
      rw [List.take_length] at hb1 ⊢
      go_wp2_with (first | (refine wpList_load_row rfl 22 (.tmp 4) rfl q rfl _ _ _ _ hb1 Tryd.underlying22 rfl (size_256 _) ?_) | (refine wpList_store_row rfl 22 (.tmp 2) (.tmp 26) rfl w.heap.size _ rfl rfl _ _ hb0 (size_256 _) (by rw [arr8_size, arr8_size]) (arr8_all _) ?_))
      exact ret_box_tmp Tryd.results32 rfl rfl (hb0.setRow _) Tryd.underlying22 rfl (size_256 _) rfl ⟨rfl, below_setRow hB2 (Nat.le_refl _) _⟩
end Go.Proofs.YtinlfbacfmmfpaaDoor
