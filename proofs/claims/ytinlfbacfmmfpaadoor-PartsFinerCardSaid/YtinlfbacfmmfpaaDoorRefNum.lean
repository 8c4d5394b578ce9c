/- The numbers of classes that sets are, the document's. -/
import Derived.Test.YtinlfbacfmmfpaaDoorRefParts
namespace Go.Proofs.YtinlfbacfmmfpaaDoor
open Go.RowKit

theorem numF_take (L : List BSet) (i : Nat) (h : i < L.length) (c : Nat) : numF (L.take (i + 1)) c = if mem L[i] c then i else numF (L.take i) c := by
  rw [List.take_succ_eq_append_getElem h, numF_snoc, List.length_take, Nat.min_eq_left (Nat.le_of_lt h)]
def NumOuter (L : List BSet) (w wr : World) (i : Value) : Prop :=
  ∃ k : Nat, k ≤ L.length ∧ i = .int .i64 k ∧ Box wr w.heap.size (arr8 fun _ => 0) 22 ∧ Box wr (w.heap.size + 1) (arr8 (numF (L.take k))) 22 ∧ Below w.heap.size w wr
def NumInner (L : List BSet) (k : Nat) (w wr : World) (c : Value) : Prop :=
  ∃ n : Nat, n ≤ 256 ∧ c = .int .i64 n ∧ Box wr w.heap.size (arr8 fun _ => 0) 22 ∧ Box wr (w.heap.size + 1) (arr8 fun d => if d < n then numF (L.take (k + 1)) d else numF (L.take k) d) 22 ∧ Below w.heap.size w wr
theorem num_step {F G : Nat → Nat} {n v : Nat} (h : v = G n) : ∀ d, d < 256 → (if d = n then v else if d < n then G d else F d) = if d < n + 1 then G d else F d := by
  intro d _
  by_cases h1 : d = n
  · subst h1; simp [h]
  · by_cases h2 : d < n
    · simp [h1, h2, show d < n + 1 by omega]
    · simp [h1, h2, show ¬ d < n + 1 by omega]
theorem num_stay {F G : Nat → Nat} {n : Nat} (h : G n = F n) : ∀ d, d < 256 → (if d < n then G d else F d) = if d < n + 1 then G d else F d := by
  intro d _
  by_cases h1 : d = n
  · subst h1; simp [h]
  · by_cases h2 : d < n
    · simp [h2, show d < n + 1 by omega]
    · simp [h2, show ¬ d < n + 1 by omega]
set_option maxRecDepth 20000 in
set_option maxHeartbeats 800000 in
theorem ref_numbers (a : Option Addr) (cap : Nat) (L : List BSet) (w : World) (h : SliceR w (.slice a L.length cap) 4 encS L) (hL : L.length ≤ 256) :
    Calls Tryd.prog 43 #[.slice a L.length cap] w (Ret w (.tuple #[.agg (arr8 (numF L)), .int .i64 (L.length : Nat)])) := by
  obtain ⟨b, o, hlen, hcap, hcap', ha, hbl, hcell⟩ := h.sets
  clear hlen h hbl
  have HC := Lib.hid hcell
  clear hcell
  have hz := zeroV_256
  have hbd : (Program.built Tryd.prog 22 []) = some (arr8 fun _ => 0) := by kernel_rfl
  go_enter Tryd.func43, Tryd.ntmps43
  go_wp2_with (refine wpList_store_new rfl 22 (.tmp 4) (.tmp 7) rfl _ _ rfl rfl (by simp) (size_256 _) (arr8_sizes _ _) (arr8_all _) ?_)
  go_loopw [5] (fun i wr => NumOuter L w wr i) (fun i _ => L.length - (intOf i).toNat)
  case atStart => exact ⟨0, Nat.zero_le _, rfl, (Box.new' rfl _ _).alloc _, Box.new' (World.size_alloc _ _).symm _ _, by go_grown⟩
  case round =>
    obtain ⟨k, hk, rfl, hb0, hb1, hB⟩ := hrel
    by_cases hlt : k < L.length
    · obtain rfl := ha k hlt
      have hd : decide ((k : Int) < (L.length : Int)) = true := by simp; omega
      go_wp2
      clear hd
      go_loopw [6] (fun c w2 => NumInner L k w w2 c) (fun c _ => 256 - (intOf c).toNat)
      case atStart => exact ⟨0, Nat.zero_le _, rfl, hb0, by rw [arr8_congr (g := numF (L.take k)) (fun i _ => by simp)]; exact hb1, hB⟩
      case round =>
        obtain ⟨n, hn, rfl, hc0, hc1, hB2⟩ := hrel
        by_cases hn2 : n < 256
        · obtain ⟨c0, c1, c2, c3⟩ := HC.out k hlt _ hB2
          have hnt := numF_take L k hlt n
          have HN := Lib.hid hnt
          have hwr := wrap_u8_nat k (by omega)
          clear hnt
          cases hm : mem L[k] n with
          | true =>
            have HM := Lib.hid hm
            go_wp2_with (go_at_call 40; go_must (refine (ref_Has _ _ _ hn2).mono ?_; rintro e w3 ⟨rfl, hB3⟩; rw [HM.out]; have hB4 := hB2.trans (hB3.mono hB2.size); have hx0 := hc0.kept hB3; have hx1 := hc1.kept hB3; have hf := hx1.free n; have hc := (hx1.cell n).trans (arr8_get _ n hn2)))
            go_roundw
            case rel =>
              refine ⟨n + 1, hn2, by go_num, hx0.other _ _ (by simp), ?_, by go_grown⟩
              have := hx1.set n (.int .u8 (k : Nat))
              rw [arr8_set, arr8_congr (num_step (by rw [HN.out, HM.out]; rfl))] at this
              exact this
            case measure => simp [intOf]; omega
          | false =>
            have HM := Lib.hid hm
            go_wp2_with (go_at_call 40; go_must (refine (ref_Has _ _ _ hn2).mono ?_; rintro e w3 ⟨rfl, hB3⟩; rw [HM.out]; have hB4 := hB2.trans (hB3.mono hB2.size); have hx0 := hc0.kept hB3; have hx1 := hc1.kept hB3))
            go_roundw
            case rel =>
              refine ⟨n + 1, hn2, by go_num, hx0, ?_, hB4⟩
              rw [arr8_congr (num_stay (by rw [HN.out, HM.out]; rfl))] at hx1
              exact hx1
            case measure => simp [intOf]; omega
        · obtain rfl : n = 256 := by omega
          go_wp2
          go_roundw
          case rel =>
            refine ⟨k + 1, hlt, by go_num, hc0, ?_, hB2⟩
            rw [arr8_congr (g := numF (L.take (k + 1))) (fun i hi => if_pos hi)] at hc1
            exact hc1
          case measure => simp [intOf]; omega
    · obtain rfl : k = L.length := by omega
      rw [List.take_length] at hb1
      go_wp2_with (first | (refine wpList_load_row rfl 22 (.tmp 4) rfl _ rfl _ _ _ _ hb1 Tryd.underlying22 rfl (size_256 _) ?_) | (refine wpList_store_row rfl 22 (.tmp 2) (.tmp 28) rfl w.heap.size _ rfl rfl _ _ hb0 (size_256 _) (arr8_sizes _ _) (arr8_all _) ?_))
      exact ret_box_tmp Tryd.results43 rfl rfl (hb0.setRow _) Tryd.underlying22 rfl (size_256 _) rfl ⟨rfl, below_setRow hB (Nat.le_refl _) _⟩
end Go.Proofs.YtinlfbacfmmfpaaDoor
