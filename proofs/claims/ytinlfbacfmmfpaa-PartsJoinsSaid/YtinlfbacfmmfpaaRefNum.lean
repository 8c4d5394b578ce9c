/- The numbers of classes that sets are, the document's. -/
import Derived.Test.YtinlfbacfmmfpaaRefParts
namespace Go.Proofs.Ytinlfbacfmmfpaa
open Go.RowKit

theorem numF_take (L : List BSet) (i : Nat) (h : i < L.length) (c : Nat) : numF (L.take (i + 1)) c = if mem L[i] c then i else numF (L.take i) c := by
  rw [List.take_succ_eq_append_getElem h, numF_snoc, List.length_take, Nat.min_eq_left (Nat.le_of_lt h)]
def NumOuter (L : List BSet) (w wr : World) (i : Value) : Prop :=
  ∃ k : Nat, k ≤ L.length ∧ i = .int .i64 k ∧ Box wr w.heap.size (arr8 fun _ => 0) 24 ∧ Box wr (w.heap.size + 1) (arr8 (numF (L.take k))) 24 ∧ Below w.heap.size w wr
def NumInner (L : List BSet) (k : Nat) (w wr : World) (c : Value) : Prop :=
  ∃ n : Nat, n ≤ 256 ∧ c = .int .i64 n ∧ Box wr w.heap.size (arr8 fun _ => 0) 24 ∧ Box wr (w.heap.size + 1) (arr8 fun d => if d < n then numF (L.take (k + 1)) d else numF (L.take k) d) 24 ∧ Below w.heap.size w wr
theorem num_step {F G : Nat → Nat} {n v : Nat} (h : v = G n) : ∀ d, d < 256 → (if d = n then v else if d < n then G d else F d) = if d < n + 1 then G d else F d := by
  intro d _
  by_cases h1 : d = n
  · subst h1; simp [h]
  · by_cases h2 : d < n
    · simp [h1, h2, show d < n + 1 by omega]
    · simp [h1, h2, show ¬ d < n + 1 by omega]
theorem num_stay {F G : Nat → Nat} {n : Nat} (h : G n = F n) : ∀ d, d < 256 → (if d < n then G d else F d) = if d < n + 1 then G d else F d := by
  intro d _
  by_cases h1 : d = n
  · subst h1; simp [h]
  · by_cases h2 : d < n
    · simp [h2, show d < n + 1 by omega]
    · simp [h2, show ¬ d < n + 1 by omega]
set_option maxRecDepth 20000 in
set_option maxHeartbeats 800000 in
theorem ref_numbers (a : Option Addr) (cap : Nat) (L : List BSet) (w : World) (h : SliceR w (.slice a L.length cap) 4 encS L) (hL : L.length ≤ 256) :
    Calls Try.prog 47 #[.slice a L.length cap] w (Ret w (.tuple #[.agg (arr8 (numF L)), .int .i64 (L.length : Nat)])) := by
  obtain ⟨b, o, hlen, hcap, hcap', ha, hbl, hcell⟩ := h.sets
  clear hlen h hbl
  have HC := Lib.hid hcell
  clear hcell
  have hz := zeroV_256
  have hbd : (Program.built Try.prog 24 []) = some (arr8 fun _ => 0) := by kernel_rfl
  go_enter Try.func47, Try.ntmps47
  go_wp2_with (refine wpList_store_new rfl 24 (.tmp 4) (.tmp 7) rfl _ _ rfl rfl (by simp) (size_256 _) (arr8_sizes _ _) (arr8_all _) ?_)
  go_loopw [5] (fun i wr => NumOuter L w wr i) (fun i _ => L.length - (intOf i).toNat)
  case atStart => exact ⟨0, Nat.zero_le _, rfl, (Box.new' rfl _ _).alloc _, Box.new' (World.size_alloc _ _).symm _ _, by go_grown⟩
  case round =>
    obtain ⟨k, hk, rfl, hb0, hb1, hB⟩ := hrel
    by_cases hlt : k < L.length
    · obtain rfl := ha k hlt
      have hd : decide ((k : Int) < (L.length : Int)) = true := by simp; omega
      go_wp2
      clear hd
      go_loopw [6] (fun c w2 => NumInner L k w w2 c) (fun c _ => 256 - (intOf c).toNat)
      case atStart => exact ⟨0, Nat.zero_le _, rfl, hb0, by rw [arr8_congr (g := numF (L.take k)) (fun i _ => by simp)]; exact hb1, hB⟩
      case round =>
        obtain ⟨n, hn, rfl, hc0, hc1, hB2⟩ := hrel
        by_cases hn2 : n < 256
        · obtain ⟨c0, c1, c2, c3⟩ := HC.out k hlt _ hB2
          have hnt := numF_take L k hlt n
          have HN := Lib.hid hnt
          have hwr := wrap_u8_nat k (by omega)
          clear hnt
          cases hm : mem L[k] n with
          | true =>
            have HM := Lib.hid hm
            go_wp2_with (go_at_call 66; go_must (refine (ref_Has _ _ _ hn2).mono ?_; rintro e w3 ⟨rfl, hB3⟩; rw [HM.out]; have hB4 := hB2.trans (hB3.mono hB2.size); have hx0 := hc0.kept hB3; have hx1 := hc1.kept hB3; have hf := hx1.free n; have hc := (hx1.cell n).trans (arr8_get _ n hn2)))
            go_roundw
            case rel =>
              refine ⟨n + 1, hn2, by go_num, hx0.other _ _ (by simp), ?_, by go_grown⟩
              have := hx1.set n (.int .u8 (k : Nat))
              rw [arr8_set, arr8_congr (num_step (by rw [HN.out, HM.out]; rfl))] at this
              exact this
            case measure => simp [intOf]; omega
          | false =>
            have HM := Lib.hid hm
            go_wp2_with (go_at_call 66; go_must (refine (ref_Has _ _ _ hn2).mono ?_; rintro e w3 ⟨rfl, hB3⟩; rw [HM.out]; have hB4 := hB2.trans (hB3.mono hB2.size); have hx0 := hc0.kept hB3; have hx1 := hc1.kept hB3))
            go_roundw
            case rel =>
              refine ⟨n + 1, hn2, by go_num, hx0, ?_, hB4⟩
              rw [arr8_congr (num_stay (by rw [HN.out, HM.out]; rfl))] at hx1
              exact hx1
            case measure => simp [intOf]; omega
        · obtain rfl : n = 256 := by omega
          go_wp2
          go_roundw
          case rel =>
            refine ⟨k + 1, hlt, by go_num, hc0, ?_, hB2⟩
            rw [arr8_congr (g := numF (L.take (k + 1))) (fun i hi => if_pos hi)] at hc1
            exact hc1
          case measure => simp [intOf]; omega
    · obtain rfl : k = L.length := by omega
      rw [List.take_length] at hb1
      go_wp2_with (first | (refine wpList_load_row rfl 24 (.tmp 4) rfl _ rfl _ _ _ _ hb1 Try.underlying24 rfl (size_256 _) ?_) | (refine wpList_store_row rfl 24 (.tmp 2) (.tmp 28) rfl w.heap.size _ rfl rfl _ _ hb0 (size_256 _) (arr8_sizes _ _) (arr8_all _) ?_))
      exact ret_box_tmp Try.results47 rfl rfl (hb0.setRow _) Try.underlying24 rfl (size_256 _) rfl ⟨rfl, below_setRow hB (Nat.le_refl _) _⟩
set_option maxRecDepth 20000 in
set_option maxHeartbeats 400000 in
/-- The document's classes, of sets. -/
theorem ref_Of19 (a : Option Addr) (cap : Nat) (l : List BSet) (w : World) (h : SliceR w (.slice a l.length cap) 4 encS l) :
    Calls Try.prog 11 #[.slice a l.length cap] w (Ret w (.tuple #[.agg (arr8 (numR (RL l))), .int .i64 (widR (RL l) : Nat)])) := by
  have hz := zeroV_256
  have E := RL_equi l
  obtain ⟨L, hP, e1, e2⟩ : ∃ L : List BSet, (∀ wx, Below w.heap.size w wx → Calls Try.prog 48 #[.slice a l.length cap] wx (RetOwn wx 34 4 encS L)) ∧ arr8 (numF L) = arr8 (numR (RL l)) ∧ L.length = widR (RL l) := by
    refine ⟨_, fun wx hB => ref_Parts a cap l wx (h.kept hB), arr8_congr fun c hc => ?_, by rw [List.length_map, widR_def]⟩
    have := numF_cls E hc _ (Nat.le_refl _)
    rw [List.take_length] at this
    rw [this, if_pos]; have := numR_lt E.refl hc; rwa [widR_def] at this
  have H1 := Lib.hid e1
  have H2 := Lib.hid e2
  have HP := Lib.hid hP
  clear e1 e2 hP
  go_enter Try.func11, Try.ntmps11
  go_wp2_with (first | (refine wpList_store_row rfl 24 (.tmp 2) (.tmp 7) rfl w.heap.size _ rfl rfl _ _ hx0 (size_256 _) (arr8_sizes _ _) (arr8_all _) ?_) | (go_at_call 48; go_must (refine (HP.out _ ((Below.refl _ w).alloc (Nat.le_refl _) _)).mono ?_; rintro e w1 ⟨a1, cap1, rfl, hown, hB⟩)) | (go_at_call 47; go_must (refine (ref_numbers a1 cap1 _ _ (hown.slice encS_ok) (by rw [H2.out]; exact widR_le _)).mono ?_; rintro e w2 ⟨rfl, hB2⟩; rw [H1.out, H2.out]; have hx0 := ((Box.new' (w := w) rfl (arr8 fun _ => 0) 24).kept hB).kept hB2)))
  have hB3 := (((Below.refl w.heap.size w).alloc (Nat.le_refl _) (.cells (arr8 fun _ => 0) 24)).trans (hB.mono (by simp))).trans (hB2.mono (by have := hB.size; simp at this; omega))
  exact ret_box_tmp Try.results11 rfl rfl (hx0.setRow _) Try.underlying24 rfl (size_256 _) rfl ⟨rfl, below_setRow hB3 (Nat.le_refl _) _⟩
end Go.Proofs.Ytinlfbacfmmfpaa
