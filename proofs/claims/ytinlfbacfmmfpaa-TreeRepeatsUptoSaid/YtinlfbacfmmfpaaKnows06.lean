/- The chapter's example of trees. -/
import Derived.Test.YtinlfbacfmmfpaaTreeMake
import Derived.Test.YtinlfbacfmmfpaaTreeSameP
import Derived.Test.YtinlfbacfmmfpaaTreeRight2
namespace Go.Proofs.Ytinlfbacfmmfpaa
open Go.RowKit

theorem two_bytes (w : World) (x y E : Nat) : SliceR (w.alloc (.cells #[.int .u8 x, .int .u8 y] E)) (.slice (some ⟨w.heap.size, 0, none⟩) 2 2) 1 encB [x, y] := by
  refine ⟨_, w.heap.size, 0, 2, rfl, Nat.le_refl _, by simp [maxLen], .inl rfl, fun i hi j u hu => ?_⟩
  have hlt : i < 2 := hi
  match i, hlt with
  | 0, _ =>
    match j with
    | 0 => rw [(Box.new w #[.int .u8 x, .int .u8 y] E).cell]; simpa using hu
    | k + 1 => simp at hu
  | 1, _ =>
    match j with
    | 0 => rw [(Box.new w #[.int .u8 x, .int .u8 y] E).cell]; simpa using hu
    | k + 1 => simp at hu
abbrev exT : Tr := .mk 4 0 [byteT 97, byteT 98] 0 0
theorem exT_size : sizeT exT = 3 := rfl
theorem exT_right : rightT exT = true := by
  unfold rightT
  rw [exT_size]
  simp [allT, allTs, oneB, show arityZ 4 = 2 by decide, show arityZ 3 = 0 by decide]
theorem tr_inv {k : Int} {s : BSet} {a : Option Addr} {cap : Nat} {kids : List Vt} {lo hi : Int} {k' : Int} {s' : BSet} {l' : List Tr} {lo' hi' : Int} (h : (Vt.mk k s a cap kids lo hi).tr = .mk k' s' l' lo' hi') : k = k' ∧ s = s' ∧ kids.map Vt.tr = l' ∧ lo = lo' ∧ hi = hi' := by
  rw [Vt.tr_mk] at h
  cases h
  exact ⟨rfl, rfl, rfl, rfl, rfl⟩
set_option maxRecDepth 20000 in
set_option maxHeartbeats 1600000 in
theorem knows06 (w : World) : Calls Try.prog 17 #[] w (Ret w (.bool true)) := by
  have hB1 : Below w.heap.size w (w.alloc (.cells #[.int .u8 97, .int .u8 98] 5)) := by go_grown
  have hW := tree_Word [97, 98] _ 2 _ (two_bytes w 97 98 5) (by simp) (by simp)
  have HW := Lib.hid hW
  clear hW
  go_enter Try.func17, Try.ntmps17
  go_wp2_with fail
  refine HW.out.mono ?_
  intro e w1 h1
  obtain ⟨k, s, a, cap, kids, lo, hi, rfl, hT, hL, hO, hb⟩ := h1.open
  have hB2 := hB1.trans (hb.mono hB1.size)
  obtain ⟨rfl, rfl, hk, rfl, rfl⟩ := tr_inv (show _ = exT from hT)
  have hkl : kids.length = 2 := by have := congrArg List.length hk; simpa using this
  have hS : ∀ w', Below w1.heap.size w1 w' → Calls Try.prog 27 #[.agg (nodeC 4 0 a kids.length cap 0 0).toArray] w' (Ret w' (.int .i64 3)) := fun w' h => by
    have := tree_Size (.mk 4 0 a cap kids 0 0) w' (hL.kept h) (by rw [hT]; exact Nat.le_of_ble_eq_true rfl)
    rw [hT] at this; exact this
  have hR : ∀ w', Below w1.heap.size w1 w' → Calls Try.prog 25 #[.agg (nodeC 4 0 a kids.length cap 0 0).toArray] w' (Ret w' (.bool true)) := fun w' h => by
    have := tree_Right (.mk 4 0 a cap kids 0 0) w' (hL.kept h)
    rw [hT] at this
    have e : rightT (manyT 4 (leafT 2 0) (List.map byteT [97, 98])) = true := exT_right
    rw [e] at this; exact this
  rw [hkl] at hS hR
  have HS := Lib.hid hS
  have HR := Lib.hid hR
  clear hS hR h1 hT hL hO hk hB1
  have hx := Box.new w1 (nodeC 4 0 a 2 cap 0 0).toArray 37
  have hB3 := hB2.alloc hB2.size (.cells (nodeC 4 0 a 2 cap 0 0).toArray 37)
  have hb3 := (Below.refl _ w1).alloc (Nat.le_refl _) (.cells (nodeC 4 0 a 2 cap 0 0).toArray 37)
  rw [hkl]
  clear hkl
  go_wp2_with (first | (go_at_call 27; go_must (refine (HS.out _ hb3).mono ?_; rintro e w2 ⟨rfl, hb4⟩; have hB4 := hB3.trans (hb4.mono hB3.size); have hb5 := hb3.trans (hb4.mono hb3.size); obtain ⟨p0, p1, p2, p3, p4, p5, p6, p7⟩ := (hx.kept hb4).node)) | (go_at_call 25; go_must (refine (HR.out _ hb5).mono ?_; rintro e w3 ⟨rfl, hb6⟩; have hB5 := hB4.trans (hb6.mono hB4.size))))
  refine (tree_Word [] none 0 w3 ⟨none, 0, 0, 0, rfl, Nat.le_refl _, by simp [maxLen], .inr ⟨rfl, fun _ => rfl⟩, fun i h => by simp at h⟩ (by simp) (by simp)).mono ?_
  intro e w4 h4
  obtain ⟨k4, s4, a4, cap4, kids4, lo4, hi4, rfl, hT4, hL4, _, hb7⟩ := h4.open
  have hB6 := hB5.trans (hb7.mono hB5.size)
  have HT4 := Lib.hid hT4
  clear hT4 h4
  go_wp2_with (first | (go_at_call 55; go_must (refine (tree_Empty' _).mono ?_; rintro e w5 ⟨rfl, hb8⟩; have hB7 := hB6.trans (hb8.mono hB6.size); have hs := tree_Same (.mk k4 s4 a4 cap4 kids4 lo4 hi4) (.mk 2 0 none 0 [] 0 0) w5 (hL4.kept hb8) (lies_leaf w5 2 0 (by decide)); rw [HT4.out, leaf_tr, show manyT 4 (leafT 2 0) (List.map byteT []) = leafT 2 0 from rfl, eqT_refl] at hs; have HS2 := Lib.hid hs; clear hs)) | (go_at_call 15; go_must (refine HS2.out.mono ?_; rintro e w6 ⟨rfl, hb9⟩)))
  go_ret
  exact ⟨rfl, hB7.trans (hb9.mono hB7.size)⟩
end Go.Proofs.Ytinlfbacfmmfpaa
