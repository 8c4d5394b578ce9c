/- Norm, Right and Join of classes of bytes. -/
import Derived.Test.YtinlfbacfmmfpaaParts
namespace Go.Proofs.Ytinlfbacfmmfpaa
open Go.RowKit

/-- Classes, as keys. -/
def keyN (f : Nat → Nat) (b : Nat) : Int := (f b : Nat)
theorem parts_Norm1 (f : Nat → Nat) (p b : Nat) (w : World) (hb : b < 256) (hp : Box w p (arr8 f) 24) :
    Calls Try.prog 53 #[.int .i64 b, .pointer (some ⟨p, 0, none⟩)] w (Ret w (.int .u8 (keyN f b))) := by
  have hc := (hp.cell b).trans (arr8_get _ b hb)
  go_enter Try.func53, Try.ntmps53
  go_wp2
  go_ret
  exact ⟨rfl, by go_grown⟩
set_option maxRecDepth 20000 in
theorem parts_Norm (f : Nat → Nat) (w : World) :
    Calls Try.prog 14 #[.agg (arr8 f)] w (Ret w (.tuple #[.agg (arr8 (numR (Kern (keyN f)))), .int .i64 (widR (Kern (keyN f)) : Nat)])) := by
  have hz := zeroV_256
  go_enter Try.func14, Try.ntmps14
  go_wp2_with (first | (refine wpList_store_row rfl 24 (.tmp 2) (.tmp 6) rfl _ _ rfl rfl _ _ hx1 (size_256 _) (arr8_sizes _ _) (arr8_all _) ?_) | (go_at_call 52; go_must (refine (number_u8 (keyN f) _ _ (fun b hb w' hB' => parts_Norm1 f w.heap.size b w' hb (((Box.new' rfl _ _).alloc _).kept hB'))).mono ?_; rintro e w1 ⟨rfl, hB⟩; have hx1 := (Box.new' (w := w.alloc (.cells (arr8 f) 24)) (World.size_alloc _ _).symm (arr8 fun _ => 0) 24).kept hB)))
  have hB1 := (((Below.refl w.heap.size w).alloc (Nat.le_refl _) (.cells (arr8 f) 24)).alloc (by simp) (.cells (arr8 fun _ => 0) 24)).trans (hB.mono (by simp; omega))
  exact ret_box_tmp Try.results14 rfl rfl (hx1.setRow _) Try.underlying24 rfl (size_256 _) rfl ⟨rfl, below_setRow hB1 (by simp) _⟩
def keyJ (f g : Nat → Nat) (b : Nat) : Int × Int := ((f b : Nat), (g b : Nat))
set_option maxRecDepth 20000 in
theorem parts_Join1 (f g : Nat → Nat) (p q b : Nat) (w : World) (hb : b < 256) (hp : Box w p (arr8 f) 24) (hq : Box w q (arr8 g) 24) :
    Calls Try.prog 50 #[.int .i64 b, .pointer (some ⟨p, 0, none⟩), .pointer (some ⟨q, 0, none⟩)] w (Ret w (encP .u8 (keyJ f g b))) := by
  go_enter Try.func50, Try.ntmps50
  go_wp2
  have hp1 := hp.alloc (.cells #[.int .u8 0, .int .u8 0] 64)
  have hq1 := hq.alloc (.cells #[.int .u8 0, .int .u8 0] 64)
  have hx := Box.new w #[.int .u8 0, .int .u8 0] 64
  have hB := (Below.refl w.heap.size w).alloc (Nat.le_refl _) (.cells #[.int .u8 0, .int .u8 0] 64)
  generalize w.alloc (.cells #[.int .u8 0, .int .u8 0] 64) = W at *
  have hc := (hp1.cell b).trans (arr8_get _ b hb)
  have hd := (hq1.cell b).trans (arr8_get _ b hb)
  have x0 := hx.cell 0
  have x1 := hx.cell 1
  have y0 := hx.free 0
  have y1 := hx.free 1
  have hbI : (b : Int) < 256 := by omega
  have hbJ : (0 : Int) ≤ (b : Int) := by omega
  go_region
  go_wp2
  exact ret_box Try.results50 rfl ((hx.drew.set 0 _).set 1 _) Try.underlying64 rfl (by kernel_rfl) rfl ⟨rfl, by go_grown⟩
set_option maxRecDepth 20000 in
theorem parts_Join (f g : Nat → Nat) (w : World) :
    Calls Try.prog 12 #[.agg (arr8 f), .agg (arr8 g)] w (Ret w (.tuple #[.agg (arr8 (numR (Kern (keyJ f g)))), .int .i64 (widR (Kern (keyJ f g)) : Nat)])) := by
  have hz := zeroV_256
  go_enter Try.func12, Try.ntmps12
  go_wp2_with (first | (refine wpList_store_row rfl 24 (.tmp 4) (.tmp 8) rfl _ _ rfl rfl _ _ hx1 (size_256 _) (arr8_sizes _ _) (arr8_all _) ?_) | (go_at_call 49; go_must (refine (number_uu (keyJ f g) _ _ _ (fun b hb w' hB' => parts_Join1 f g w.heap.size (w.heap.size + 1) b w' hb ((((Box.new' rfl _ _).alloc _).alloc _).kept hB') (((Box.new' (World.size_alloc _ _).symm _ _).alloc _).kept hB'))).mono ?_; rintro e w1 ⟨rfl, hB⟩; have hx1 := (Box.new' (w := (w.alloc (.cells (arr8 f) 24)).alloc (.cells (arr8 g) 24)) (b := w.heap.size + 1 + 1) (by rw [World.size_alloc, World.size_alloc]) (arr8 fun _ => 0) 24).kept hB)))
  have hB1 := ((((Below.refl w.heap.size w).alloc (Nat.le_refl _) (.cells (arr8 f) 24)).alloc (by go_size) (.cells (arr8 g) 24)).alloc (by go_size) (.cells (arr8 fun _ => 0) 24)).trans (hB.mono (by go_size))
  exact ret_box_tmp Try.results12 rfl rfl (hx1.setRow _) Try.underlying24 rfl (size_256 _) rfl ⟨rfl, below_setRow hB1 (by omega) _⟩
set_option maxRecDepth 20000 in
set_option maxHeartbeats 400000 in
/-- Classes that are normal, and so many. -/
theorem parts_Right (f : Nat → Nat) (n : Int) (w : World) :
    Calls Try.prog 41 #[.agg (arr8 f), .int .i64 n] w (Ret w (.bool (sameArr (numR (Kern (keyN f))) f && ((widR (Kern (keyN f)) : Nat) == n)))) := by
  have hz := zeroV_256
  have hq := run_eq256 (P := Try.prog) (t := 24) (e := 5) Try.underlying24 Try.underlying5 (by kernel_rfl) (numR (Kern (keyN f))) f
  have hsz : ∀ w1 : World, Below (w.alloc (.cells (arr8 f) 24)).heap.size (w.alloc (.cells (arr8 f) 24)) w1 → Below w.heap.size w (w1.alloc (.cells (arr8 (numR (Kern (keyN f)))) 24)) := fun w1 hB => (((Below.refl w.heap.size w).alloc (Nat.le_refl _) _).trans (hB.mono (by go_size))).alloc (by have := hB.size; simp at this; omega) _
  have HS := Lib.hid hsz
  clear hsz
  cases hs : sameArr (numR (Kern (keyN f))) f with
  | true =>
    rw [hs] at hq
    clear hs
    go_enter Try.func41, Try.ntmps41
    go_wp2_with (first | (refine wpList_load_row rfl 24 (.tmp 2) rfl _ rfl _ _ _ _ (Box.new _ _ _) Try.underlying24 rfl (size_256 _) ?_) | (refine wpList_store_new rfl 24 (.tmp 5) (.tmp 10) rfl _ _ rfl rfl rfl (size_256 _) (arr8_sizes _ _) (arr8_all _) ?_) | (go_at_call 14; go_must (refine (parts_Norm f _).mono ?_; rintro e w1 ⟨rfl, hB⟩; have hx0 := (Box.new w (arr8 f) 24).kept hB)) | (refine wpList_load_row rfl 24 (.tmp 5) rfl _ rfl _ _ _ _ (Box.new _ _ _) Try.underlying24 rfl (size_256 _) ?_) | (refine wpList_load_row rfl 24 (.tmp 2) rfl _ rfl _ _ _ _ (hx0.alloc _) Try.underlying24 rfl (size_256 _) ?_))
    go_ret
    exact ⟨rfl, HS.out _ hB⟩
  | false =>
    rw [hs] at hq
    clear hs
    go_enter Try.func41, Try.ntmps41
    go_wp2_with (first | (refine wpList_load_row rfl 24 (.tmp 2) rfl _ rfl _ _ _ _ (Box.new _ _ _) Try.underlying24 rfl (size_256 _) ?_) | (refine wpList_store_new rfl 24 (.tmp 5) (.tmp 10) rfl _ _ rfl rfl rfl (size_256 _) (arr8_sizes _ _) (arr8_all _) ?_) | (go_at_call 14; go_must (refine (parts_Norm f _).mono ?_; rintro e w1 ⟨rfl, hB⟩; have hx0 := (Box.new w (arr8 f) 24).kept hB)) | (refine wpList_load_row rfl 24 (.tmp 5) rfl _ rfl _ _ _ _ (Box.new _ _ _) Try.underlying24 rfl (size_256 _) ?_) | (refine wpList_load_row rfl 24 (.tmp 2) rfl _ rfl _ _ _ _ (hx0.alloc _) Try.underlying24 rfl (size_256 _) ?_))
    go_ret
    exact ⟨rfl, HS.out _ hB⟩
end Go.Proofs.Ytinlfbacfmmfpaa
