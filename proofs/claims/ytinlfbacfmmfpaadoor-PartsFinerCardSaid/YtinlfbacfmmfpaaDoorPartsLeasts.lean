/- The least bytes of classes, as the program makes them. -/
import Derived.Test.YtinlfbacfmmfpaaDoorPartsSets
import Derived.Test.YtinlfbacfmmfpaaDoorLeast
import Derived.Test.YtinlfbacfmmfpaaDoorBytes
namespace Go.Proofs.YtinlfbacfmmfpaaDoor
open Go.RowKit
theorem leasts_at {R : Nat → Nat → Bool} (E : Equi R) (k : Nat) (hk : k < (setsTo R 256).length) (hk2 : k < (reps R 256).length) : leastOf (setsTo R 256)[k] = ((reps R 256)[k] : Nat) := by
  simp only [setsTo, List.getElem_map]
  exact least_cls E (Nat.le_refl _) (List.getElem_mem hk2)
set_option maxRecDepth 20000 in
set_option maxHeartbeats 800000 in
theorem parts_Leasts (f : Nat → Nat) (w : World) (hT : Tab w) :
    Calls Tryd.prog 16 #[.agg (arr8 f)] w (RetOwn w 5 1 encB (reps (Kern (keyN f)) 256)) := by
  have hE := kern_equi (keyN f)
  have hS := parts_Sets f
  have hl := setsTo_length (Kern (keyN f)) 256
  have hat := leasts_at hE
  have hlt := fun x => reps_lt (Kern (keyN f)) 256 x
  have hm := reps_length (Kern (keyN f)) 256
  have hw := widR_def (Kern (keyN f))
  rw [hw] at hl
  generalize setsTo (Kern (keyN f)) 256 = L at *
  generalize reps (Kern (keyN f)) 256 = xs at *
  obtain ⟨m, hxm⟩ : ∃ m, xs.length = m := ⟨_, rfl⟩
  rw [hxm] at hl hm
  have HS := Lib.hid hS
  have HL := Lib.hid hl
  have HA := Lib.hid hat
  have HX := Lib.hid hlt
  have HM := Lib.hid hxm
  have HT := Lib.hid hT
  clear hE hS hl hat hlt hw hxm hT
  go_enter Tryd.func16, Tryd.ntmps16
  go_wp2_with (first | (refine wpList_load_row rfl 22 (.tmp 1) rfl _ rfl _ _ _ _ (Box.new _ _ _) Tryd.underlying22 rfl (size_256 _) ?_) | (go_at_call 14; go_must (refine (HS.out _).mono ?_; intro e w1 h1; obtain ⟨a1, cap1, rfl, o1, hb1⟩ := h1; rw [HL.out] at o1 ⊢)))
  have hB1 : Below w.heap.size w w1 := (later_alloc w _).trans (hb1.mono (by simp))
  have hT1 := HT.out.kept hB1
  have hs1 := o1.slice encS_ok
  obtain ⟨b, o, hlen, hcap, hcap', ha, hbl, hcell⟩ := SliceR.sets hs1
  have HC := Lib.hid hcell
  have HA1 := Lib.hid ha
  have HT1 := Lib.hid hT1
  have hsz := hB1.size
  clear hcell ha hlen hs1 o1 hb1 hT1 hbl
  go_loopw [3, 9] (fun v i wr => ∃ (k : Nat) (a : Option Addr) (cap : Nat), k ≤ m ∧ i = .int .i64 k ∧ v = .slice a k cap ∧ Own wr w1.heap.size 5 1 encB (.slice a k cap) (xs.take k) ∧ Below w1.heap.size w1 wr) (fun _ i _ => m - (intOf i).toNat)
  case atStart => exact ⟨0, none, 0, Nat.zero_le _, rfl, rfl, Own.nil _ _ _ _ _, Below.refl _ _⟩
  case round =>
    obtain ⟨k, a, cap, hk, rfl, rfl, hown, hB⟩ := hrel
    by_cases hlt : k < m
    · have hk2 : k < L.length := by rw [HL.out]; exact hlt
      have hk3 : k < xs.length := by rw [HM.out]; exact hlt
      have hl1 := HA.out k hk2 hk3
      have hx := HX.out _ (List.getElem_mem hk3)
      obtain rfl := HA1.out k hk2
      obtain ⟨c0, c1, c2, c3⟩ := HC.out k hk2 wr hB
      have htk : xs.take (k + 1) = xs.take k ++ [xs[k]] := List.take_succ_eq_append_getElem hk3
      have hln : (xs.take k).length = k := by rw [List.length_take]; omega
      have hle := fun w hT => sets_Least L[k] w hT
      rw [hl1] at hle
      generalize xs[k] = x at *
      generalize xs.take k = ys at *
      generalize L[k] = s at *
      have HLE := Lib.hid hle
      have HTK := Lib.hid htk
      have HLN := Lib.hid hln
      have hln2 : ys.length ≤ 256 := by omega
      have hu8 : IntKind.u8.wrap (x : Int) = (x : Int) := wrap_u8_nat x hx
      clear hl1 htk hln hle
      have hk0 : (0 : Int) ≤ (k : Int) := by omega
      have hkm : (k : Int) < (m : Int) := by omega
      go_wp2_with (first | (go_at_call 30; go_must (refine (HLE.out _ (HT1.out.kept (hB.alloc hB.size _))).mono ?_; rintro e w5 ⟨rfl, hb5⟩; have hown5 := (hown.alloc (.cells (setC s) 34)).kept hb5)) | (at_builtin; go_must (refine wpList_append1 rfl _ _ 29 rfl elem_u8 encB_ok rfl (hown5.alloc _) ⟨w5.heap.size, 0, none⟩ 1 x rfl (new_cells w5 [.int .u8 (x : Nat)] _) (by simp [maxLen]; omega) (by omega) (by have := hb5.size; have := hB.size; simp at *; omega) ?_; intro a' cap' W' hown' hg)))
      rw [HLN.out] at hown' ⊢
      go_roundw
      case rel =>
        refine ⟨k + 1, a', cap', hlt, by go_num, rfl, by rw [HTK.out]; exact hown', ?_⟩
        have h6 := (hB.alloc hB.size (.cells (setC s) 34)).trans (hb5.mono (by have := hB.size; simp; omega))
        have h7 := h6.alloc h6.size (.cells #[.int .u8 (x : Nat)] 5)
        exact below_grown h7 (hown5.alloc _) hg (Nat.le_refl _) h7.size
      case measure => simp [intOf]; omega
    · obtain rfl : k = m := by omega
      have htk : xs.take k = xs := List.take_of_length_le (by rw [HM.out]; omega)
      go_wp2
      go_ret
      rw [htk] at hown
      exact ⟨a, cap, by rw [HM.out]; rfl, by rw [HM.out]; exact hown.mono hsz, hB1.trans (hB.mono hsz)⟩
end Go.Proofs.YtinlfbacfmmfpaaDoor
