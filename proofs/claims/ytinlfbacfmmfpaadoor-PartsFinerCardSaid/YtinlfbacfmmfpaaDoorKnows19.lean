/- The chapter's example. -/
import Derived.Test.YtinlfbacfmmfpaaDoorPartsN
import Derived.Test.YtinlfbacfmmfpaaDoorOwn
namespace Go.Proofs.YtinlfbacfmmfpaaDoor
open Go.RowKit

def ex1 : BSet := ofP fun b => decide (97 ≤ b) && decide (b ≤ 99)
def ex2 : BSet := ofP fun b => decide (99 ≤ b) && decide (b ≤ 101)
def exR (b c : Nat) : Bool := ((decide (97 ≤ b) && decide (b ≤ 99)) == (decide (97 ≤ c) && decide (c ≤ 99))) && ((decide (99 ≤ b) && decide (b ≤ 101)) == (decide (99 ≤ c) && decide (c ≤ 101)))
theorem exR_eq (b c : Nat) (hb : b < 256) (hc : c < 256) : RL [ex1, ex2] b c = exR b c := by
  simp [RL, ex1, ex2, mem_ofP, exR, hb, hc]
theorem ex_wid : widR (RL [ex1, ex2]) = 4 := by rw [widR_congr exR_eq]; decide +kernel
theorem ex_num : numR (RL [ex1, ex2]) 0 = 0 ∧ numR (RL [ex1, ex2]) 97 = 1 ∧ numR (RL [ex1, ex2]) 99 = 2 ∧ numR (RL [ex1, ex2]) 100 = 3 ∧ numR (RL [ex1, ex2]) 122 = 0 := by
  refine ⟨?_, ?_, ?_, ?_, ?_⟩ <;> (rw [numR_congr exR_eq (by decide)]; decide +kernel)
/-- Numbers are normal. -/
theorem norm_num {R : Nat → Nat → Bool} (E : Equi R) : sameArr (numR (Kern (keyN (numR R)))) (numR R) = true ∧ widR (Kern (keyN (numR R))) = widR R := by
  have h : ∀ b c, b < 256 → c < 256 → Kern (keyN (numR R)) b c = R b c := fun b c hb hc => by
    have h1 : (keyN (numR R) b = keyN (numR R) c) ↔ R b c = true := by unfold keyN; rw [← numR_eq E hb hc]; omega
    rw [Bool.eq_iff_iff, ← h1]
    simp [Kern]
  exact ⟨(sameArr_iff _ _).2 fun b hb => numR_congr h hb, widR_congr h⟩
set_option maxRecDepth 20000 in
set_option maxHeartbeats 800000 in
theorem knows19 (w : World) : Calls Tryd.prog 18 #[] w (Ret w (.bool true)) := by
  have hz := zeroV_256
  have E := RL_equi [ex1, ex2]
  obtain ⟨n0, n97, n99, n100, n122⟩ := ex_num
  obtain ⟨s1, s2⟩ := norm_num E
  have hw := ex_wid
  have hr : ∀ w : World, Calls Tryd.prog 11 #[.agg (arr8 (numR (RL [ex1, ex2]))), .int .i64 4] w (Ret w (.bool true)) := fun w => by
    have := parts_Right (numR (RL [ex1, ex2])) 4 w
    rw [s1, s2, hw] at this; exact this
  have ho : ∀ (a : Option Addr) (cap : Nat) (w : World), SliceR w (.slice a 2 cap) 4 encS [ex1, ex2] → Calls Tryd.prog 32 #[.slice a 2 cap] w (Ret w (.tuple #[.agg (arr8 (numR (RL [ex1, ex2]))), .int .i64 4])) := fun a cap w h => by
    have := parts_Of a cap [ex1, ex2] w h
    rw [hw] at this; exact this
  have g : ∀ (i v : Nat), i < 256 → numR (RL [ex1, ex2]) i = v → (arr8 (numR (RL [ex1, ex2])))[i]? = some (.int .u8 (v : Nat)) := fun i v hi h => by rw [arr8_get _ i hi, h]
  have h1 : ∀ w, Calls Tryd.prog 21 #[.int .u8 97, .int .u8 99] w (Ret w (setV ex1)) := fun w => sets_Span 97 99 w (by decide) (by decide)
  have h2 : ∀ w, Calls Tryd.prog 21 #[.int .u8 99, .int .u8 101] w (Ret w (setV ex2)) := fun w => sets_Span 99 101 w (by decide) (by decide)
  have g0 := g 0 0 (by decide) n0
  have g97 := g 97 1 (by decide) n97
  have g99 := g 99 2 (by decide) n99
  have g100 := g 100 3 (by decide) n100
  have g122 := g 122 0 (by decide) n122
  have HR := Lib.hid hr
  have HO := Lib.hid ho
  have H1 := Lib.hid h1
  have H2 := Lib.hid h2
  clear n0 n97 n99 n100 n122 s1 s2 hw hr ho g h1 h2
  generalize numR (RL [ex1, ex2]) = F at *
  go_enter Tryd.func18, Tryd.ntmps18
  go_wp2_with fail
  refine (H1.out _).mono ?_
  rintro e w1 ⟨rfl, hB1⟩
  go_wp2_with fail
  refine (H2.out _).mono ?_
  rintro e w2 ⟨rfl, hB2⟩
  have hB3 := hB1.trans (hB2.mono hB1.size)
  go_wp2_with fail
  refine (HO.out _ _ _ ?_).mono ?_
  · refine ⟨_, w2.heap.size, 0, 2, rfl, by decide, by simp [maxLen], .inl rfl, fun i hi j u hu => ?_⟩
    have hlt : i < 2 := hi
    match i, hlt with
    | 0, _ => 
      match j with
      | 0 | 1 | 2 | 3 => simpa using hu
      | k + 4 => simp at hu
    | 1, _ =>
      match j with
      | 0 | 1 | 2 | 3 => simpa using hu
      | k + 4 => simp at hu
  rintro e w3 ⟨rfl, hB4⟩
  have hB5 : Below w.heap.size w w3 := (hB3.alloc hB3.size _).trans (hB4.mono (by have := hB3.size; simp; omega))
  go_wp2_with (first | (refine wpList_store_new rfl 22 (.tmp 1) (.tmp 8) rfl _ _ rfl rfl rfl (size_256 _) (arr8_sizes _ _) (arr8_all _) ?_))
  refine wp_load_row 22 (.tmp 1) rfl w3.heap.size rfl _ _ _ _ (Box.new w3 (arr8 F) 22) Tryd.underlying22 rfl (size_256 _) ?_
  go_wp2_with (go_at_call 11; go_must (refine (HR.out _).mono ?_; rintro e w4 ⟨rfl, hB6⟩))
  go_ret
  exact ⟨rfl, (hB5.alloc hB5.size _).trans (hB6.mono (by have := hB5.size; simp; omega))⟩
end Go.Proofs.YtinlfbacfmmfpaaDoor
