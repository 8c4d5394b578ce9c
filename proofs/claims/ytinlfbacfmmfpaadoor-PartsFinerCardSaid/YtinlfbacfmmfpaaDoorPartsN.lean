/- Norm, Right and Join of classes of bytes. -/
import Derived.Test.YtinlfbacfmmfpaaDoorParts
namespace Go.Proofs.YtinlfbacfmmfpaaDoor
open Go.RowKit

/-- Classes, as keys. -/
def keyN (f : Nat → Nat) (b : Nat) : Int := (f b : Nat)
theorem parts_Norm1 (f : Nat → Nat) (p b : Nat) (w : World) (hb : b < 256) (hp : Box w p (arr8 f) 22) :
    Calls Tryd.prog 42 #[.int .i64 b, .pointer (some ⟨p, 0, none⟩)] w (Ret w (.int .u8 (keyN f b))) := by
  have hc := (hp.cell b).trans (arr8_get _ b hb)
  go_enter Tryd.func42, Tryd.ntmps42
  go_wp2
  go_ret
  exact ⟨rfl, by go_grown⟩
set_option maxRecDepth 20000 in
theorem parts_Norm (f : Nat → Nat) (w : World) :
    Calls Tryd.prog 9 #[.agg (arr8 f)] w (Ret w (.tuple #[.agg (arr8 (numR (Kern (keyN f)))), .int .i64 (widR (Kern (keyN f)) : Nat)])) := by
  have hz := zeroV_256
  go_enter Tryd.func9, Tryd.ntmps9
  go_wp2_with (first | (refine wpList_store_row rfl 22 (.tmp 2) (.tmp 6) rfl _ _ rfl rfl _ _ hx1 (size_256 _) (arr8_sizes _ _) (arr8_all _) ?_) | (go_at_call 41; go_must (refine (number_u8 (keyN f) _ _ (fun b hb w' hB' => parts_Norm1 f w.heap.size b w' hb (((Box.new' rfl _ _).alloc _).kept hB'))).mono ?_; rintro e w1 ⟨rfl, hB⟩; have hx1 := (Box.new' (w := w.alloc (.cells (arr8 f) 22)) (World.size_alloc _ _).symm (arr8 fun _ => 0) 22).kept hB)))
  have hB1 := (((Below.refl w.heap.size w).alloc (Nat.le_refl _) (.cells (arr8 f) 22)).alloc (by simp) (.cells (arr8 fun _ => 0) 22)).trans (hB.mono (by simp; omega))
  exact ret_box_tmp Tryd.results9 rfl rfl (hx1.setRow _) Tryd.underlying22 rfl (size_256 _) rfl ⟨rfl, below_setRow hB1 (by simp) _⟩
set_option maxRecDepth 20000 in
set_option maxHeartbeats 400000 in
/-- Classes that are normal, and so many. -/
theorem parts_Right (f : Nat → Nat) (n : Int) (w : World) :
    Calls Tryd.prog 11 #[.agg (arr8 f), .int .i64 n] w (Ret w (.bool (sameArr (numR (Kern (keyN f))) f && ((widR (Kern (keyN f)) : Nat) == n)))) := by
  have hz := zeroV_256
  have hq := run_eq256 (P := Tryd.prog) (t := 22) (e := 5) Tryd.underlying22 Tryd.underlying5 (by kernel_rfl) (numR (Kern (keyN f))) f
  have hsz : ∀ w1 : World, Below (w.alloc (.cells (arr8 f) 22)).heap.size (w.alloc (.cells (arr8 f) 22)) w1 → Below w.heap.size w (w1.alloc (.cells (arr8 (numR (Kern (keyN f)))) 22)) := fun w1 hB => (((Below.refl w.heap.size w).alloc (Nat.le_refl _) _).trans (hB.mono (by go_size))).alloc (by have := hB.size; simp at this; omega) _
  have HS := Lib.hid hsz
  clear hsz
  cases hs : sameArr (numR (Kern (keyN f))) f with
  | true =>
    rw [hs] at hq
    clear hs
    go_enter Tryd.func11, Tryd.ntmps11
    go_wp2_with (first | (refine wpList_load_row rfl 22 (.tmp 2) rfl _ rfl _ _ _ _ (Box.new _ _ _) Tryd.underlying22 rfl (size_256 _) ?_) | (refine wpList_store_new rfl 22 (.tmp 5) (.tmp 10) rfl _ _ rfl rfl rfl (size_256 _) (arr8_sizes _ _) (arr8_all _) ?_) | (go_at_call 9; go_must (refine (parts_Norm f _).mono ?_; rintro e w1 ⟨rfl, hB⟩; have hx0 := (Box.new w (arr8 f) 22).kept hB)) | (refine wpList_load_row rfl 22 (.tmp 5) rfl _ rfl _ _ _ _ (Box.new _ _ _) Tryd.underlying22 rfl (size_256 _) ?_) | (refine wpList_load_row rfl 22 (.tmp 2) rfl _ rfl _ _ _ _ (hx0.alloc _) Tryd.underlying22 rfl (size_256 _) ?_))
    go_ret
    exact ⟨rfl, HS.out _ hB⟩
  | false =>
    rw [hs] at hq
    clear hs
    go_enter Tryd.func11, Tryd.ntmps11
    go_wp2_with (first | (refine wpList_load_row rfl 22 (.tmp 2) rfl _ rfl _ _ _ _ (Box.new _ _ _) Tryd.underlying22 rfl (size_256 _) ?_) | (refine wpList_store_new rfl 22 (.tmp 5) (.tmp 10) rfl _ _ rfl rfl rfl (size_256 _) (arr8_sizes _ _) (arr8_all _) ?_) | (go_at_call 9; go_must (refine (parts_Norm f _).mono ?_; rintro e w1 ⟨rfl, hB⟩; have hx0 := (Box.new w (arr8 f) 22).kept hB)) | (refine wpList_load_row rfl 22 (.tmp 5) rfl _ rfl _ _ _ _ (Box.new _ _ _) Tryd.underlying22 rfl (size_256 _) ?_) | (refine wpList_load_row rfl 22 (.tmp 2) rfl _ rfl _ _ _ _ (hx0.alloc _) Tryd.underlying22 rfl (size_256 _) ?_))
    go_ret
    exact ⟨rfl, HS.out _ hB⟩
end Go.Proofs.YtinlfbacfmmfpaaDoor
