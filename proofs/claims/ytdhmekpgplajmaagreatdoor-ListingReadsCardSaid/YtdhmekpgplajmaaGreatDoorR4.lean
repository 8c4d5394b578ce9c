/- Joined by tools/merge.py: PartsSets, RefNum, RefSets, Ref19, Count, Range, OwnIn, RoundP. -/
import Derived.Test.YtdhmekpgplajmaaGreatDoorR3
import Derived.Test.YtdhmekpgplajmaaGreatDoorR2
import Derived.Test.YtdhmekpgplajmaaGreatDoorR1
import Derived.Laws.Bits128
import Derived.RangeFuncNested
import Derived.RangeFuncBound
import Derived.RangeFuncCalls
import Derived.RangeFuncLeaves
import Derived.Shelf.Abstract
import Derived.Shelf.RegionOpen
import Derived.WalkKit
import Derived.OwnWalkIn
import Derived.TacticsInMore
import Derived.LoopNIn
import Derived.LoopIn
section
namespace Go.Proofs.YtdhmekpgplajmaaGreatDoor
open Go.RowKit
/-- The sets of the classes, of the bytes below n alone. -/
def setsTo (R : Nat → Nat → Bool) (n : Nat) : List BSet := (reps R 256).map (cls R n)
theorem setsTo_length (R : Nat → Nat → Bool) (n : Nat) : (setsTo R n).length = widR R := by rw [setsTo, List.length_map, widR_def]
theorem setsTo_zero (R : Nat → Nat → Bool) : setsTo R 0 = List.replicate (widR R) 0 := by
  rw [setsTo, widR_def, ← List.map_const']
  refine List.map_congr_left fun c _ => set_ext fun b hb => ?_
  rw [mem_cls, mem_zero]; simp
theorem setsTo_succ {R : Nat → Nat → Bool} (E : Equi R) {n : Nat} (hn : n < 256) (hk : numR R n < (setsTo R n).length) :
    setsTo R (n + 1) = (setsTo R n).set (numR R n) ((setsTo R n)[numR R n] ||| ofL [n]) := by
  have hlen := setsTo_length R n
  refine List.ext_getElem (by rw [List.length_set, setsTo_length, setsTo_length]) fun i h1 h2 => ?_
  rw [List.getElem_set]
  have hi : i < (reps R 256).length := by rw [setsTo_length, widR_def] at h1; exact h1
  have hrep : (reps R 256)[i] < 256 := reps_lt R 256 _ (List.getElem_mem hi)
  have hone : ∀ c, mem (ofL [n]) c = decide (n = c) := fun c => by
    rw [mem_ofL _ _ (by intro x hx; simp at hx; omega)]; simp [eq_comm]
  have hnum : numR R (reps R 256)[i] = i := by
    have h3 := posR_get (R := R) (b := (reps R 256)[i]) hi (E.refl _) (fun j hj => by
      cases h : R (reps R 256)[i] ((reps R 256)[j]'(by omega)) with
      | false => rfl
      | true =>
        have hs := reps_sorted R 256 j i hj hi
        have := reps_least E 256 (reps R 256)[i] ((reps R 256)[j]'(by omega)) (List.getElem_mem hi) hs
        rw [this] at h; cases h)
    unfold numR; rw [h3]; rfl
  have hiff := numR_eq E hrep hn
  rw [hnum] at hiff
  simp only [setsTo, List.getElem_map]
  by_cases hki : numR R n = i
  · rw [if_pos hki]
    subst hki
    have hR := hiff.1 rfl
    refine set_ext fun c hc => ?_
    rw [mem_or, mem_cls, mem_cls, hone]
    by_cases hcn : n = c
    · subst hcn; simp [hc, hR]
    · have : (c < n + 1) ↔ (c < n) := by omega
      simp [hcn, this]
  · rw [if_neg hki]
    have hR : R (reps R 256)[i] n = false := by
      cases h : R (reps R 256)[i] n with
      | false => rfl
      | true => exact absurd (hiff.2 h).symm hki
    refine set_ext fun c hc => ?_
    rw [mem_cls, mem_cls]
    by_cases hcn : c = n
    · subst hcn; simp [hR]
    · have : (c < n + 1) ↔ (c < n) := by omega
      simp [this]
def PSets (G : Nat → Nat) (B p g m : Nat) (w : World) (L : List BSet) (w' : World) : Prop :=
  Box w' p (arr8 G) 23 ∧ Own w' B 43 4 encS (.slice (some ⟨g, 0, none⟩) m m) L ∧ Below B w w' ∧ p < g ∧ B ≤ g
theorem PSets.kept {G : Nat → Nat} {B p g m : Nat} {w w1 w2 : World} {L : List BSet} (h : PSets G B p g m w L w1) (hb : Below w1.heap.size w1 w2) (hB : B ≤ w1.heap.size) : PSets G B p g m w L w2 :=
  ⟨h.1.kept hb, h.2.1.kept hb, h.2.2.1.trans (hb.mono hB), h.2.2.2⟩
set_option maxRecDepth 20000 in
set_option maxHeartbeats 1600000 in
theorem parts_Sets (f : Nat → Nat) (w : World) :
    Calls Tryz.prog 34 #[.agg (arr8 f)] w (RetOwn w 43 4 encS (setsTo (Kern (keyN f)) 256)) := by
  have hz := zeroV_256
  have hE := kern_equi (keyN f)
  have hN := parts_Norm f
  have hm := widR_le (Kern (keyN f))
  have hlt := fun n (hn : n < 256) => numR_lt hE.refl hn
  have h0 := setsTo_zero (Kern (keyN f))
  have hs := fun n (hn : n < 256) hk => setsTo_succ hE (n := n) hn hk
  have hl := setsTo_length (Kern (keyN f))
  generalize setsTo (Kern (keyN f)) = L at *
  generalize numR (Kern (keyN f)) = G at *
  generalize widR (Kern (keyN f)) = m at *
  have HN := Lib.hid hN
  have H0 := Lib.hid h0
  have HS := Lib.hid hs
  have HL := Lib.hid hl
  have HG := Lib.hid hlt
  clear hN h0 hs hl hlt hE
  go_enter Tryz.func34, Tryz.ntmps34
  go_wp2_with (first | (refine wpList_load_row rfl 23 (.tmp 1) rfl _ rfl _ _ _ _ (Box.new _ _ _) Tryz.underlying23 rfl (size_256 _) ?_) | (refine wpList_store_new rfl 23 (.tmp 3) (.tmp 11) rfl _ _ rfl rfl rfl (size_256 _) (arr8_sizes _ _) (arr8_all _) ?_) | (go_at_call 59; go_must (refine (HN.out _).mono ?_; rintro e w1 ⟨rfl, hB⟩)) | (refine wpList_makeO rfl 67 _ _ rfl elem_set encS_ok 0 rfl m rfl rfl (by omega) (by simp [maxLen]; omega) w.heap.size (by have := hB.size; simp at this ⊢; omega) ?_; intro w2 ho hw2'; have HW := Lib.hid hw2'; clear hw2'))
  have hw2 := HW.out
  rw [World.size_alloc] at ho
  have hx1 : Box w2 w1.heap.size (arr8 G) 23 := by rw [hw2]; exact (Box.new w1 _ _).alloc _
  have hB2 : Below w.heap.size w w2 := by
    rw [hw2]
    exact (((((Below.refl w.heap.size w).alloc (Nat.le_refl _) _).trans (hB.mono (by simp))).alloc (by have := hB.size; simp at this; omega) _).alloc (by have := hB.size; simp at this ⊢; omega) _)
  have hp : w.heap.size ≤ w1.heap.size := by have := hB.size; simp at this; omega
  have hJ : PSets G w.heap.size w1.heap.size (w1.heap.size + 1) m w (L 0) w2 := ⟨hx1, by rw [H0.out]; exact ho, hB2, by omega, by omega⟩
  clear hw2 hx1 hB2 ho hB HW
  generalize w1.heap.size = p at *
  go_loopw [15] (fun i wr => ∃ n : Nat, n ≤ 256 ∧ i = .int .i64 n ∧ PSets G w.heap.size p (p + 1) m w (L n) wr) (fun i _ => 256 - (intOf i).toNat)
  case atStart => exact ⟨0, Nat.zero_le _, rfl, hJ⟩
  case round =>
    clear hJ
    obtain ⟨n, hn, rfl, hJ⟩ := hrel
    by_cases hlt : n < 256
    · have c0 := (hJ.1.cell n).trans (arr8_get _ n hlt)
      have hk := HG.out n hlt
      have hkl : G n < (L n).length := by rw [HL.out]; exact hk
      have e1 := HS.out n hlt hkl
      have HE := Lib.hid e1
      have hof := fun a cap w h => sets_Of a cap [n] w h (by intro x hx; simp at hx; omega)
      have hcell := fun w1 (h : PSets G w.heap.size p (p + 1) m w (L n) w1) => h.2.1.cells4 hkl
      clear e1
      generalize (L n)[G n] = s at *
      have hcell2 : ∀ w1, PSets G w.heap.size p (p + 1) m w (L n) w1 → _ := hcell
      generalize ofL [n] = s1 at *
      have hun : ∀ ad cap w, SliceR w (.slice ad 2 cap) 4 encS [s, s1] → Calls Tryz.prog 60 #[.slice ad 2 cap] w (Ret w (setV (s ||| s1))) := fun ad cap w h => by have := sets_Union ad cap [s, s1] w h; rwa [two_or] at this
      generalize s ||| s1 = t at *
      generalize G n = k at *
      have hJ0 : PSets G w.heap.size p (p + 1) m w (L n) wr.drew := hJ.kept (Below.refl _ _).drew (Nat.le_trans hJ.2.2.1.size (Nat.le_refl _))
      have hsz : w.heap.size ≤ wr.drew.heap.size := hJ0.2.2.1.size
      have HF : Hid (∀ w1, Later wr.drew w1 → PSets G w.heap.size p (p + 1) m w (L n) w1) := Lib.hid fun w1 hl => hJ0.kept hl hsz
      have HOF := Lib.hid hof
      have HUN := Lib.hid hun
      have HC := Lib.hid hcell
      have hu8 : IntKind.u8.wrap (n : Int) = (n : Int) := wrap_u8_nat n hlt
      have hk0 : (0 : Int) ≤ (k : Int) := by omega
      have hkm : (k : Int) < (m : Int) := by omega
      clear hcell2 hcell hof hun hJ hJ0 hkl
      go_wp2_with fail
      refine wp_region_M (R := Later) 13 (by kernel_rfl) ?_
      refine tkM 0 ?_ rfl (fun w1 hl => ?_) ?_
      rotate_left
      · have hJ := HF.out w1 hl; obtain ⟨⟨q0, q1, q2, q3⟩, _⟩ := HC.out w1 hJ; go_simp; try with_reducible rfl
      simp only [eA, eB, Act.put, eD, eE, eF]
      refine tkM 1 ?_ rfl (fun w1 hl => ?_) ?_
      rotate_left
      · have hJ := HF.out w1 hl; obtain ⟨⟨q0, q1, q2, q3⟩, _⟩ := HC.out w1 hJ; go_simp; try with_reducible rfl
      simp only [eA, eB, eC, Act.put, eD, eE, eF]
      refine tkM 2 ?_ rfl (fun w1 hl => ?_) ?_
      rotate_left
      · have hJ := HF.out w1 hl; obtain ⟨⟨q0, q1, q2, q3⟩, _⟩ := HC.out w1 hJ; go_simp; try with_reducible rfl
      simp only [eA, eB, eC, Act.put, eD, eE, eF]
      refine tkM 3 ?_ rfl (fun w1 hl => ?_) ?_
      rotate_left
      · have hJ := HF.out w1 hl; obtain ⟨⟨q0, q1, q2, q3⟩, _⟩ := HC.out w1 hJ; go_simp; try with_reducible rfl
      simp only [eA, eB, eC, Act.put, eD, eE, eF]
      refine tkM 4 ?_ rfl (fun w1 hl => ?_) ?_
      rotate_left
      · have hJ := HF.out w1 hl; obtain ⟨⟨q0, q1, q2, q3⟩, _⟩ := HC.out w1 hJ; go_simp; try with_reducible rfl
      simp only [eA, eB, eC, Act.put, eD, eE, eF]
      refine tkM 5 ?_ rfl (fun w1 hl => ?_) ?_
      rotate_left
      · have hJ := HF.out w1 hl; obtain ⟨⟨q0, q1, q2, q3⟩, _⟩ := HC.out w1 hJ; go_simp; try with_reducible rfl
      simp only [eA, eB, eC, Act.put, eD, eE, eF]
      refine tkM 6 ?_ rfl (fun w1 hl => ?_) ?_
      rotate_left
      · have hJ := HF.out w1 hl; obtain ⟨⟨q0, q1, q2, q3⟩, _⟩ := HC.out w1 hJ; go_simp; try with_reducible rfl
      simp only [eA, eB, eC, Act.put, eD, eE, eF]
      refine tkM 7 ?_ rfl (fun w1 hl => ?_) ?_
      rotate_left
      · have hJ := HF.out w1 hl; obtain ⟨⟨q0, q1, q2, q3⟩, _⟩ := HC.out w1 hJ; go_simp; try with_reducible rfl
      simp only [eA, eB, eC, Act.put, eD, eE, eF]
      refine wpM_one (t := 13) (i := 8) (by kernel_rfl) rfl (fun w1 hl K hK => ?_)
      go_simp
      refine hK.out _ _ (fun _ => later_alloc _ _) ?_
      have hL1 : Later wr.drew (w1.alloc (.cells #[.int .u8 (n : Nat)] 5)) := Later.trans _ _ _ hl (later_alloc _ _)
      have hs1 := sl_newB1 w1 n 5
      clear hK K
      refine wpM_call (t := 13) (i := 9) (f := ?_) (args := ?_) (v := ?_) rfl (by kernel_rfl) (by kernel_rfl) (by kernel_rfl) (by kernel_rfl) (fun _ _ _ h => h) (by rfl) (fun w1 => ?_) (fun w1 hl => ?_) ?_
      rotate_left 4
      · exact HOF.out _ _ _ (hs1.kept hl)
      rotate_left
      · go_simp
      simp only [eA, eB, eC, Act.put, eD, eE, eF]
      refine wpM_one (t := 13) (i := 10) (by kernel_rfl) rfl (fun w1 hl K hK => ?_)
      go_simp
      refine hK.out _ _ (fun _ => later_alloc _ _) ?_
      have hL2 := Later.trans _ _ _ hL1 (Later.trans _ _ _ hl (later_alloc w1 (.cells #[.int .u64 (word s 0 : Nat), .int .u64 (word s 1 : Nat), .int .u64 (word s 2 : Nat), .int .u64 (word s 3 : Nat), .int .u64 (word s1 0 : Nat), .int .u64 (word s1 1 : Nat), .int .u64 (word s1 2 : Nat), .int .u64 (word s1 3 : Nat)] 43)))
      have hs2 := sl_new2 w1 s s1 43
      clear hK K
      refine wpM_call (t := 13) (i := 11) (f := ?_) (args := ?_) (v := ?_) rfl (by kernel_rfl) (by kernel_rfl) (by kernel_rfl) (by kernel_rfl) (fun _ _ _ h => h) (by rfl) (fun w1 => ?_) (fun w1 hl => ?_) ?_
      rotate_left 4
      · exact HUN.out _ _ _ (hs2.kept hl)
      rotate_left
      · go_simp
      simp only [eA, eB, eC, Act.put, eD, eE, eF]
      refine tkM 12 ?_ rfl (fun w1 hl => ?_) ?_
      rotate_left
      · skip; go_simp; try with_reducible rfl
      simp only [eA, eB, eC, Act.put, eD, eE, eF]
      refine wpM_one (t := 13) (i := 13) (by kernel_rfl) rfl (fun w1 hl K hK => ?_)
      have hJ := HF.out w1 (Later.trans _ _ _ hL2 hl)
      obtain ⟨⟨q0, q1, q2, q3⟩, ⟨f0, f1, f2, f3⟩⟩ := HC.out w1 hJ
      go_simp
      refine hK.out _ _ (fun h => absurd rfl h) ?_
      clear hK K q0 q1 q2 q3 f0 f1 f2 f3
      have hJ4 : PSets G w.heap.size p (p + 1) m w (L (n + 1)) ((((w1.setCell ⟨p + 1, k * 4, none⟩ (.int .u64 (word t 0 : Nat))).setCell ⟨p + 1, k * 4 + 1, none⟩ (.int .u64 (word t 1 : Nat))).setCell ⟨p + 1, k * 4 + 2, none⟩ (.int .u64 (word t 2 : Nat))).setCell ⟨p + 1, k * 4 + 3, none⟩ (.int .u64 (word t 3 : Nat))) := by
        obtain ⟨j1, j2, j3, j4, j5⟩ := hJ
        refine ⟨j1.store4at (by omega) _ _ _ _, ?_, below_store4 j3 j5 _ _ _ _, j4, j5⟩
        rw [HE.out]
        exact j2.store4 (by rw [HL.out]; exact hk) rfl t
      refine wpM_done (by kernel_rfl) (fun w1 hl => ?_) _
      have hJ5 := hJ4.kept hl (by have := hJ4.2.2.1.size; exact this)
      clear hJ hJ4
      go_wp2
      go_roundw
      case rel => exact ⟨n + 1, hlt, by go_num, hJ5⟩
      case measure => simp [intOf]; omega
    · obtain rfl : n = 256 := by omega
      go_wp2
      go_ret
      exact ⟨some ⟨p + 1, 0, none⟩, m, by rw [HL.out]; rfl, by rw [HL.out]; exact hJ.2.1, hJ.2.2.1⟩
end Go.Proofs.YtdhmekpgplajmaaGreatDoor
end
section
namespace Go.Proofs.YtdhmekpgplajmaaGreatDoor
open Go.RowKit

theorem numF_take (L : List BSet) (i : Nat) (h : i < L.length) (c : Nat) : numF (L.take (i + 1)) c = if mem L[i] c then i else numF (L.take i) c := by
  rw [List.take_succ_eq_append_getElem h, numF_snoc, List.length_take, Nat.min_eq_left (Nat.le_of_lt h)]
def NumOuter (L : List BSet) (w wr : World) (i : Value) : Prop :=
  ∃ k : Nat, k ≤ L.length ∧ i = .int .i64 k ∧ Box wr w.heap.size (arr8 fun _ => 0) 23 ∧ Box wr (w.heap.size + 1) (arr8 (numF (L.take k))) 23 ∧ Below w.heap.size w wr
def NumInner (L : List BSet) (k : Nat) (w wr : World) (c : Value) : Prop :=
  ∃ n : Nat, n ≤ 256 ∧ c = .int .i64 n ∧ Box wr w.heap.size (arr8 fun _ => 0) 23 ∧ Box wr (w.heap.size + 1) (arr8 fun d => if d < n then numF (L.take (k + 1)) d else numF (L.take k) d) 23 ∧ Below w.heap.size w wr
theorem num_step {F G : Nat → Nat} {n v : Nat} (h : v = G n) : ∀ d, d < 256 → (if d = n then v else if d < n then G d else F d) = if d < n + 1 then G d else F d := by
  intro d _
  by_cases h1 : d = n
  · subst h1; simp [h]
  · by_cases h2 : d < n
    · simp [h1, h2, show d < n + 1 by omega]
    · simp [h1, h2, show ¬ d < n + 1 by omega]
theorem num_stay {F G : Nat → Nat} {n : Nat} (h : G n = F n) : ∀ d, d < 256 → (if d < n then G d else F d) = if d < n + 1 then G d else F d := by
  intro d _
  by_cases h1 : d = n
  · subst h1; simp [h]
  · by_cases h2 : d < n
    · simp [h2, show d < n + 1 by omega]
    · simp [h2, show ¬ d < n + 1 by omega]
set_option maxRecDepth 20000 in
set_option maxHeartbeats 800000 in
theorem ref_numbers (a : Option Addr) (cap : Nat) (L : List BSet) (w : World) (h : SliceR w (.slice a L.length cap) 4 encS L) (hL : L.length ≤ 256) :
    Calls Tryz.prog 82 #[.slice a L.length cap] w (Ret w (.tuple #[.agg (arr8 (numF L)), .int .i64 (L.length : Nat)])) := by
  obtain ⟨b, o, hlen, hcap, hcap', ha, hbl, hcell⟩ := h.sets
  clear hlen h hbl
  have HC := Lib.hid hcell
  clear hcell
  have hz := zeroV_256
  have hbd : (Program.built Tryz.prog 23 []) = some (arr8 fun _ => 0) := by kernel_rfl
  go_enter Tryz.func82, Tryz.ntmps82
  go_wp2_with (refine wpList_store_new rfl 23 (.tmp 4) (.tmp 7) rfl _ _ rfl rfl (by simp) (size_256 _) (arr8_sizes _ _) (arr8_all _) ?_)
  go_loopw [5] (fun i wr => NumOuter L w wr i) (fun i _ => L.length - (intOf i).toNat)
  case atStart => exact ⟨0, Nat.zero_le _, rfl, (Box.new' rfl _ _).alloc _, Box.new' (World.size_alloc _ _).symm _ _, by go_grown⟩
  case round =>
    obtain ⟨k, hk, rfl, hb0, hb1, hB⟩ := hrel
    by_cases hlt : k < L.length
    · obtain rfl := ha k hlt
      have hd : decide ((k : Int) < (L.length : Int)) = true := by simp; omega
      go_wp2
      clear hd
      go_loopw [6] (fun c w2 => NumInner L k w w2 c) (fun c _ => 256 - (intOf c).toNat)
      case atStart => exact ⟨0, Nat.zero_le _, rfl, hb0, by rw [arr8_congr (g := numF (L.take k)) (fun i _ => by simp)]; exact hb1, hB⟩
      case round =>
        obtain ⟨n, hn, rfl, hc0, hc1, hB2⟩ := hrel
        by_cases hn2 : n < 256
        · obtain ⟨c0, c1, c2, c3⟩ := HC.out k hlt _ hB2
          have hnt := numF_take L k hlt n
          have HN := Lib.hid hnt
          have hwr := wrap_u8_nat k (by omega)
          clear hnt
          cases hm : mem L[k] n with
          | true =>
            have HM := Lib.hid hm
            go_wp2_with (go_at_call 50; go_must (refine (ref_Has _ _ _ hn2).mono ?_; rintro e w3 ⟨rfl, hB3⟩; rw [HM.out]; have hB4 := hB2.trans (hB3.mono hB2.size); have hx0 := hc0.kept hB3; have hx1 := hc1.kept hB3; have hf := hx1.free n; have hc := (hx1.cell n).trans (arr8_get _ n hn2)))
            go_roundw
            case rel =>
              refine ⟨n + 1, hn2, by go_num, hx0.other _ _ (by simp), ?_, by go_grown⟩
              have := hx1.set n (.int .u8 (k : Nat))
              rw [arr8_set, arr8_congr (num_step (by rw [HN.out, HM.out]; rfl))] at this
              exact this
            case measure => simp [intOf]; omega
          | false =>
            have HM := Lib.hid hm
            go_wp2_with (go_at_call 50; go_must (refine (ref_Has _ _ _ hn2).mono ?_; rintro e w3 ⟨rfl, hB3⟩; rw [HM.out]; have hB4 := hB2.trans (hB3.mono hB2.size); have hx0 := hc0.kept hB3; have hx1 := hc1.kept hB3))
            go_roundw
            case rel =>
              refine ⟨n + 1, hn2, by go_num, hx0, ?_, hB4⟩
              rw [arr8_congr (num_stay (by rw [HN.out, HM.out]; rfl))] at hx1
              exact hx1
            case measure => simp [intOf]; omega
        · obtain rfl : n = 256 := by omega
          go_wp2
          go_roundw
          case rel =>
            refine ⟨k + 1, hlt, by go_num, hc0, ?_, hB2⟩
            rw [arr8_congr (g := numF (L.take (k + 1))) (fun i hi => if_pos hi)] at hc1
            exact hc1
          case measure => simp [intOf]; omega
    · obtain rfl : k = L.length := by omega
      rw [List.take_length] at hb1
      go_wp2_with (first | (refine wpList_load_row rfl 23 (.tmp 4) rfl _ rfl _ _ _ _ hb1 Tryz.underlying23 rfl (size_256 _) ?_) | (refine wpList_store_row rfl 23 (.tmp 2) (.tmp 28) rfl w.heap.size _ rfl rfl _ _ hb0 (size_256 _) (arr8_sizes _ _) (arr8_all _) ?_))
      exact ret_box_tmp Tryz.results82 rfl rfl (hb0.setRow _) Tryz.underlying23 rfl (size_256 _) rfl ⟨rfl, below_setRow hB (Nat.le_refl _) _⟩
end Go.Proofs.YtdhmekpgplajmaaGreatDoor
end
section
namespace Go.Proofs.YtdhmekpgplajmaaGreatDoor
open Go.RowKit

/-- 256 bools. -/
def arrB (g : Nat → Bool) : Array Value := ((List.range 256).map fun i => Value.bool (g i)).toArray
theorem arrB_size (g : Nat → Bool) : (arrB g).size = 256 := by simp [arrB]
theorem arrB_sizes (f g : Nat → Bool) : (arrB f).size = (arrB g).size := by rw [arrB_size, arrB_size]
theorem arrB_get (g : Nat → Bool) (i : Nat) (h : i < 256) : (arrB g)[i]? = some (.bool (g i)) := by simp [arrB, h]
theorem arrB_congr {f g : Nat → Bool} (h : ∀ i, i < 256 → f i = g i) : arrB f = arrB g := by
  have e : ((List.range 256).map fun i => Value.bool (f i)) = ((List.range 256).map fun i => Value.bool (g i)) := List.map_congr_left fun i hi => by rw [h i (by simpa using hi)]
  unfold arrB; rw [e]
theorem arrB_set (g : Nat → Bool) (k : Nat) (v : Bool) : (arrB g).setIfInBounds k (.bool v) = arrB (fun i => if i = k then v else g i) := by
  apply Array.ext_getElem?
  intro i
  rw [Array.getElem?_setIfInBounds]
  by_cases hi : i < 256
  · rw [arrB_get _ i hi, arrB_get _ i hi, arrB_size]
    by_cases hk : k = i
    · subst hk; simp [hi]
    · have : ¬ i = k := fun e => hk e.symm
      simp [hk, this]
  · have h1 : (arrB fun i => if i = k then v else g i)[i]? = none := by rw [Array.getElem?_eq_none]; rw [arrB_size]; omega
    have h2 : (arrB g)[i]? = none := by rw [Array.getElem?_eq_none]; rw [arrB_size]; omega
    rw [h1, h2, arrB_size]
    by_cases hk : k = i
    · simp [hk, hi]
    · simp [hk]
theorem arrB_all (g : Nat → Bool) : (arrB g).all (·.oneCell') = true := by
  rw [Array.all_eq_true_iff_forall_mem]
  intro v hv
  simp only [arrB, List.mem_toArray, List.mem_map] at hv
  obtain ⟨x, _, rfl⟩ := hv
  rfl
theorem kern_iff (f : Nat → Nat) (a b : Nat) : Kern (keyN f) a b = true ↔ f a = f b := by
  have : (keyN f a = keyN f b) ↔ f a = f b := by unfold keyN; omega
  rw [← this]; simp [Kern]
theorem any_reps {f : Nat → Nat} (n m : Nat) : (reps (Kern (keyN f)) n).any (Kern (keyN f) m) = (List.range n).any fun d => f d == f m := by
  have E := kern_equi (keyN f)
  have hK : ∀ a b, Kern (keyN f) a b = true ↔ f a = f b := fun a b => kern_iff f a b
  rw [Bool.eq_iff_iff, List.any_eq_true, List.any_eq_true]
  constructor
  · rintro ⟨c, hc, h⟩
    exact ⟨c, by simpa using reps_lt _ n c hc, by rw [beq_iff_eq]; exact ((hK _ _).1 h).symm⟩
  · rintro ⟨d, hd, h⟩
    obtain ⟨c, hc, h2⟩ := List.any_eq_true.1 (reps_any E.refl (show d < n by simpa using hd))
    exact ⟨c, hc, E.trans ((hK _ _).2 (beq_iff_eq.1 h).symm) h2⟩
/-- What the class of a first byte is, from that byte on. -/
theorem cls_from {f : Nat → Nat} {n : Nat} (h : ((List.range n).any fun d => f d == f n) = false) : (ofP fun e => decide (n ≤ e) && (decide (e < 256) && (f e == f n))) = cls (Kern (keyN f)) 256 n := by
  refine set_ext fun d hd => ?_
  rw [mem_ofP, mem_cls]
  have hK : Kern (keyN f) n d = (f d == f n) := by rw [Bool.eq_iff_iff, kern_iff, beq_iff_eq]; exact ⟨fun h => h.symm, fun h => h.symm⟩
  rw [hK]
  by_cases hnd : n ≤ d
  · simp [hd, hnd]
  · have := List.any_eq_false.1 h d (by simp; omega)
    have h2 : (f d == f n) = false := by simpa using this
    rw [h2]; simp
theorem done_step (f : Nat → Nat) (n v : Nat) : (if v = f n then true else (List.range n).any fun d => f d == v) = (List.range (n + 1)).any fun d => f d == v := by
  rw [List.range_succ, List.any_append]
  by_cases h : v = f n
  · subst h; simp
  · have h3 : (f n == v) = false := by rw [beq_eq_false_iff_ne]; exact fun e => h e.symm
    rw [if_neg h, List.any_cons, List.any_nil, h3]; simp
attribute [irreducible] arrB
theorem info_256b : (Tryz.prog.info? 101).map (fun i => (i.zero, i.size)) = some (some (.agg (arrB fun _ => false)), 256) := by kernel_rfl
theorem size_256b (f : Nat → Bool) : (Tryz.prog.info? 101).map (·.size) = some (arrB f).size := by rw [arrB_size]; exact (zero_of_info info_256b).2
/-- Where the loops stand: the outer one at n; the inner one, of the class of n, at d. -/
def SetsOuter (f : Nat → Nat) (w wr : World) (v i : Value) : Prop :=
  ∃ (n : Nat) (a' : Option Addr) (cap' : Nat), n ≤ 256 ∧ i = .int .i64 n ∧ v = .slice a' (reps (Kern (keyN f)) n).length cap' ∧ Box wr w.heap.size (arr8 f) 23 ∧ Box wr (w.heap.size + 1 + 1) (arrB fun v => (List.range n).any fun d => f d == v) 101 ∧
    Own wr (w.heap.size + 1) 43 4 encS (.slice a' (reps (Kern (keyN f)) n).length cap') ((reps (Kern (keyN f)) n).map (cls (Kern (keyN f)) 256)) ∧ Below w.heap.size w wr
def SetsInner (f : Nat → Nat) (n q : Nat) (W0 w2 : World) (d : Value) : Prop :=
  ∃ k : Nat, n ≤ k ∧ k ≤ 256 ∧ d = .int .i64 k ∧ Box w2 q (setC (ofP fun e => decide (n ≤ e) && (decide (e < k) && (f e == f n)))) 43 ∧ Below q W0 w2 ∧ q < w2.heap.size
set_option maxRecDepth 20000 in
set_option maxHeartbeats 800000 in
theorem ref_Sets19 (f : Nat → Nat) (hf : ∀ b, f b < 256) (w : World) :
    Calls Tryz.prog 39 #[.agg (arr8 f)] w (RetOwn w 43 4 encS ((reps (Kern (keyN f)) 256).map (cls (Kern (keyN f)) 256))) := by
  have hz := zeroV_256
  have hzb : ∀ w, (zeroValue 101).run Tryz.prog w = .ok (.agg (arrB fun _ => false)) w := (zero_of_info info_256b).1
  have hbd : (Program.built Tryz.prog 101 []) = some (arrB fun _ => false) := by kernel_rfl
  go_enter Tryz.func39, Tryz.ntmps39
  go_wp2_with (refine wpList_store_new rfl 101 (.tmp 4) (.tmp 9) rfl _ _ rfl rfl (by simp) (size_256b _) (arrB_sizes _ _) (arrB_all _) ?_)
  go_loopw [3, 5] (fun v i wr => SetsOuter f w wr v i) (fun _ i _ => 256 - (intOf i).toNat)
  case atStart =>
    refine ⟨0, some ⟨w.heap.size + 1, 0, none⟩, 0, Nat.zero_le _, rfl, by rw [reps_zero]; rfl, ((Box.new' rfl _ _).alloc _).alloc _, ?_, ?_, by go_grown⟩
    · rw [arrB_congr (g := fun _ => false) (fun i _ => by simp)]; exact Box.new' (by simp) _ _
    · rw [reps_zero]
      have := (Own.empty (w.alloc (.cells (arr8 f) 23)) (w.heap.size + 1) 43 4 encS (by simp)).alloc (.cells (arrB fun _ => false) 101)
      rw [World.size_alloc] at this; exact this
  case round =>
    obtain ⟨n, a', cap', hn, rfl, rfl, hb0, hb1, hown, hB⟩ := hrel
    by_cases hlt : n < 256
    · have c0 := (hb0.cell n).trans (arr8_get _ n hlt)
      have hfn := hf n
      have c1 := (hb1.cell (f n)).trans (arrB_get _ (f n) hfn)
      have hlen := reps_length (Kern (keyN f)) n
      have hany := any_reps (f := f) n n
      cases hd : ((List.range n).any fun d => f d == f n) with
      | true =>
        rw [hd] at c1 hany
        have e1 : reps (Kern (keyN f)) (n + 1) = reps (Kern (keyN f)) n := by rw [reps_succ, if_pos hany]
        have HE := Lib.hid e1
        have HD := Lib.hid hd
        clear e1 hany hd
        go_wp2
        go_roundw
        case rel =>
          refine ⟨n + 1, a', cap', hlt, by go_num, by rw [HE.out], hb0, ?_, by rw [HE.out]; exact hown, hB⟩
          rw [arrB_congr (g := fun v => (List.range n).any fun d => f d == v) (fun v hv => ?_)]
          · exact hb1
          · rw [List.range_succ, List.any_append]
            by_cases hv2 : f n = v
            · subst hv2; simp only [HD.out]; rfl
            · simp [hv2]
        case measure => simp [intOf]; omega
      | false =>
        rw [hd] at c1 hany
        have e1 : reps (Kern (keyN f)) (n + 1) = reps (Kern (keyN f)) n ++ [n] := by rw [reps_succ, hany]; rfl
        have e2 := cls_from hd
        have HE := Lib.hid e1
        have HC := Lib.hid e2
        have f1 := hb1.free (f n)
        have hdd : decide ((n : Int) < 256) = true := by simp; omega
        clear e1 e2 hany hd
        go_wp2
        have hsz : (wr.setCell ⟨w.heap.size + 1 + 1, f n, none⟩ (.bool true)).heap.size = wr.heap.size := World.size_setCell _ _ _
        have hb0' := hb0.other ⟨w.heap.size + 1 + 1, f n, none⟩ (.bool true) (by simp; omega)
        have hb1' := hb1.set (f n) (.bool true)
        rw [arrB_set, arrB_congr (g := fun v => (List.range (n + 1)).any fun d => f d == v) (fun v _ => done_step f n v)] at hb1'
        have hown' := hown.otherT hb1 (by decide) (f n) (.bool true)
        have hB' := hB.setCell (p := ⟨w.heap.size + 1 + 1, f n, none⟩) (by simp; omega) (.bool true)
        have hq0 := hb1.lt
        generalize wr.setCell ⟨w.heap.size + 1 + 1, f n, none⟩ (.bool true) = W0 at *
        have HSZ := Lib.hid hsz
        obtain ⟨q, hq⟩ : ∃ q, wr.heap.size = q := ⟨_, rfl⟩
        rw [hq] at hsz hq0 ⊢
        have hqw : w.heap.size + 1 + 1 < q := by omega
        clear hb0 hb1 hown hB c0 c1 f1 hq HSZ
        go_loopw [7] (fun d w2 => SetsInner f n q W0 w2 d) (fun d _ => 256 - (intOf d).toNat)
        case atStart =>
          refine ⟨n, Nat.le_refl _, hn, rfl, ?_, (Below.refl _ _).alloc (by omega) _, by simp; omega⟩
          rw [show (ofP fun e => decide (n ≤ e) && (decide (e < n) && (f e == f n))) = 0 from (eq_ofP 0 _ fun b _ => by rw [mem_zero]; by_cases h : n ≤ b <;> simp [h]; omega).symm, setC_zero]
          exact Box.new' hsz.symm _ _
        case round =>
          obtain ⟨k, hnk, hk, rfl, hs, hb, hq2⟩ := hrel
          have hx0 := hb0'.below hb (by omega)
          by_cases hk2 : k < 256
          · have d0 := (hx0.cell k).trans (arr8_get _ k hk2)
            have d1 := (hx0.cell n).trans (arr8_get _ n hlt)
            obtain ⟨⟨r0, r1, r2, r3⟩, _⟩ := hs.set4
            by_cases hkn : f k = f n
            · have hbe : ((f k : Int) == (f n : Int)) = true := by rw [beq_iff_eq, hkn]
              have es : (ofP fun e => decide (n ≤ e) && (decide (e < k + 1) && (f e == f n))) = withB (ofP fun e => decide (n ≤ e) && (decide (e < k) && (f e == f n))) k := by
                rw [ofP_withB _ _ hk2]
                refine ofP_congr fun b _ => ?_
                by_cases h1 : k = b
                · subst h1; simp [hnk, hkn]
                · have : decide (b < k + 1) = decide (b < k) := by rw [decide_eq_decide]; omega
                  simp [h1, this]
              have HES := Lib.hid es
              have HB := Lib.hid hbe
              clear es hkn
              go_wp2_with fail
              go_region
              go_wp2_with (go_at_call 66; go_must (refine (ref_With _ _ _ hk2).mono ?_; rintro e w5 ⟨rfl, hB7⟩; have hs5 := hs.drew.kept hB7; obtain ⟨⟨t0, t1, t2, t3⟩, ⟨g0, g1, g2, g3⟩⟩ := hs5.set4; have hB8 := hb.drew.trans (hB7.mono (Nat.le_of_lt hq2)); have hq5 : q < w5.heap.size := Nat.lt_of_lt_of_le hq2 hB7.size))
              go_roundw
              case rel => exact ⟨k + 1, by omega, hk2, by go_num, by rw [HES.out]; exact hs5.store4 rfl _ _ _ _, by go_grown, by simp; exact hq5⟩
              case measure => simp [intOf]; omega
            · have hbe : ((f k : Int) == (f n : Int)) = false := by rw [beq_eq_false_iff_ne]; omega
              have es : (ofP fun e => decide (n ≤ e) && (decide (e < k + 1) && (f e == f n))) = (ofP fun e => decide (n ≤ e) && (decide (e < k) && (f e == f n))) := by
                refine ofP_congr fun b _ => ?_
                by_cases h1 : b = k
                · subst h1; simp [hkn]
                · have : decide (b < k + 1) = decide (b < k) := by rw [decide_eq_decide]; omega
                  simp [this]
              have HES := Lib.hid es
              have HB := Lib.hid hbe
              clear es hkn
              go_wp2_with fail
              go_region
              go_wp2
              go_roundw
              case rel => exact ⟨k + 1, by omega, hk2, by go_num, by rw [HES.out]; exact hs.drew, hb.drew, hq2⟩
              case measure => simp [intOf]; omega
          · obtain rfl : k = 256 := by omega
            rw [show (ofP fun e => decide (n ≤ e) && (decide (e < 256) && (f e == f n))) = cls (Kern (keyN f)) 256 n from HC.out] at hs
            have hx1 := hb1'.below hb hqw
            have hown2 := hown'.kept (hsz ▸ hb)
            obtain ⟨⟨r0, r1, r2, r3⟩, _⟩ := hs.set4
            have hB2 := hB'.trans (hb.mono (by omega))
            go_wp2_with (at_builtin; go_must (refine wpList_append1 rfl _ _ 67 rfl elem_set encS_ok rfl (hown2.alloc _) ⟨wr.heap.size, 0, none⟩ 1 (cls (Kern (keyN f)) 256 n) rfl ?_ ?_ ?_ ?_ ?_))
            · exact new_cells wr _ _
            · simp [maxLen]; omega
            · simp; omega
            · have := hB2.size; simp; omega
            intro a2 cap2 w6 hown6 hgr6
            have hB5 := below_grown (hB2.alloc hB2.size _) (hown2.alloc _) hgr6 (by omega) (by have := hB2.size; simp; omega)
            have hy0 := (hx1.alloc (.cells (setC (cls (Kern (keyN f)) 256 n)) 43)).grownT (hown2.alloc _) hgr6 (by decide)
            have hy1 := ((hb0'.below hb (by omega)).alloc (.cells (setC (cls (Kern (keyN f)) 256 n)) 43)).grownT (hown2.alloc _) hgr6 (by decide)
            go_wp2
            go_roundw
            case rel =>
              refine ⟨n + 1, a2, cap2, hlt, by go_num, ?_, hy1, hy0, ?_, hB5⟩
              · rw [HE.out]; simp
              · rw [HE.out, List.map_append]
                rw [List.length_append]; simpa using hown6
            case measure => simp [intOf]; omega
    · obtain rfl : n = 256 := by omega
      go_wp2
      go_ret
      refine ⟨a', cap', ?_, ?_, hB⟩
      · rw [List.length_map]; rfl
      · rw [List.length_map]; exact hown.mono (by omega)
end Go.Proofs.YtdhmekpgplajmaaGreatDoor
end
section
namespace Go.Proofs.YtdhmekpgplajmaaGreatDoor
open Go.RowKit
set_option maxRecDepth 20000 in
theorem ref_Norm19 (f : Nat → Nat) (hf : ∀ b, f b < 256) (w : World) :
    Calls Tryz.prog 52 #[.agg (arr8 f)] w (Ret w (.tuple #[.agg (arr8 (numR (Kern (keyN f)))), .int .i64 (widR (Kern (keyN f)) : Nat)])) := by
  have hz := zeroV_256
  have E := kern_equi (keyN f)
  obtain ⟨L, hP, e1, e2⟩ : ∃ L : List BSet, (∀ wx, Calls Tryz.prog 39 #[.agg (arr8 f)] wx (RetOwn wx 43 4 encS L)) ∧ arr8 (numF L) = arr8 (numR (Kern (keyN f))) ∧ L.length = widR (Kern (keyN f)) := by
    refine ⟨_, fun wx => ref_Sets19 f hf wx, arr8_congr fun c hc => ?_, by rw [List.length_map, widR_def]⟩
    have := numF_cls E hc _ (Nat.le_refl _)
    rw [List.take_length] at this
    rw [this, if_pos]; have := numR_lt E.refl hc; rwa [widR_def] at this
  have H1 := Lib.hid e1
  have H2 := Lib.hid e2
  have HP := Lib.hid hP
  have hle := widR_le (Kern (keyN f))
  clear e1 e2 hP
  go_enter Tryz.func52, Tryz.ntmps52
  go_wp2_with (first | (refine wpList_load_row rfl 23 (.tmp 1) rfl _ rfl _ _ _ _ ((Box.new _ _ _).alloc _) Tryz.underlying23 rfl (size_256 _) ?_) | (refine wpList_store_row rfl 23 (.tmp 2) (.tmp 7) rfl (w.heap.size + 1) _ rfl rfl _ _ hx0 (size_256 _) (arr8_sizes _ _) (arr8_all _) ?_) | (go_at_call 39; go_must (refine (HP.out _).mono ?_; rintro e w1 ⟨a1, cap1, rfl, hown, hB⟩)) | (go_at_call 82; go_must (refine (ref_numbers a1 cap1 _ _ (hown.slice encS_ok) (by rw [H2.out]; exact hle)).mono ?_; rintro e w2 ⟨rfl, hB2⟩; rw [H1.out, H2.out]; have hx0 := ((Box.new' (w := w.alloc (.cells (arr8 f) 23)) (b := w.heap.size + 1) (by simp) (arr8 fun _ => 0) 23).kept hB).kept hB2)))
  have hB3 := ((((Below.refl w.heap.size w).alloc (Nat.le_refl _) (.cells (arr8 f) 23)).alloc (by simp) (.cells (arr8 fun _ => 0) 23)).trans (hB.mono (by simp; omega))).trans (hB2.mono (by have := hB.size; simp at this; omega))
  exact ret_box_tmp Tryz.results52 rfl rfl (hx0.setRow _) Tryz.underlying23 rfl (size_256 _) rfl ⟨rfl, below_setRow hB3 (by omega) _⟩
set_option maxRecDepth 20000 in
set_option maxHeartbeats 400000 in
theorem ref_Right19 (f : Nat → Nat) (hf : ∀ b, f b < 256) (n : Int) (w : World) :
    Calls Tryz.prog 26 #[.agg (arr8 f), .int .i64 n] w (Ret w (.bool (sameArr (numR (Kern (keyN f))) f && ((widR (Kern (keyN f)) : Nat) == n)))) := by
  have hz := zeroV_256
  have hq := run_eq256 (P := Tryz.prog) (t := 23) (e := 5) Tryz.underlying23 Tryz.underlying5 (by kernel_rfl) (numR (Kern (keyN f))) f
  have hsz : ∀ w1 : World, Below (w.alloc (.cells (arr8 f) 23)).heap.size (w.alloc (.cells (arr8 f) 23)) w1 → Below w.heap.size w (w1.alloc (.cells (arr8 (numR (Kern (keyN f)))) 23)) := fun w1 hB => (((Below.refl w.heap.size w).alloc (Nat.le_refl _) _).trans (hB.mono (by go_size))).alloc (by have := hB.size; simp at this; omega) _
  have HS := Lib.hid hsz
  have HF := Lib.hid hf
  clear hsz hf
  cases hs : sameArr (numR (Kern (keyN f))) f with
  | true =>
    rw [hs] at hq
    clear hs
    go_enter Tryz.func26, Tryz.ntmps26
    go_wp2_with (first | (refine wpList_load_row rfl 23 (.tmp 2) rfl _ rfl _ _ _ _ (Box.new _ _ _) Tryz.underlying23 rfl (size_256 _) ?_) | (refine wpList_store_new rfl 23 (.tmp 5) (.tmp 10) rfl _ _ rfl rfl rfl (size_256 _) (arr8_sizes _ _) (arr8_all _) ?_) | (go_at_call 52; go_must (refine (ref_Norm19 f HF.out _).mono ?_; rintro e w1 ⟨rfl, hB⟩; have hx0 := (Box.new w (arr8 f) 23).kept hB)) | (refine wpList_load_row rfl 23 (.tmp 5) rfl _ rfl _ _ _ _ (Box.new _ _ _) Tryz.underlying23 rfl (size_256 _) ?_) | (refine wpList_load_row rfl 23 (.tmp 2) rfl _ rfl _ _ _ _ (hx0.alloc _) Tryz.underlying23 rfl (size_256 _) ?_))
    go_ret
    exact ⟨rfl, HS.out _ hB⟩
  | false =>
    rw [hs] at hq
    clear hs
    go_enter Tryz.func26, Tryz.ntmps26
    go_wp2_with (first | (refine wpList_load_row rfl 23 (.tmp 2) rfl _ rfl _ _ _ _ (Box.new _ _ _) Tryz.underlying23 rfl (size_256 _) ?_) | (refine wpList_store_new rfl 23 (.tmp 5) (.tmp 10) rfl _ _ rfl rfl rfl (size_256 _) (arr8_sizes _ _) (arr8_all _) ?_) | (go_at_call 52; go_must (refine (ref_Norm19 f HF.out _).mono ?_; rintro e w1 ⟨rfl, hB⟩; have hx0 := (Box.new w (arr8 f) 23).kept hB)) | (refine wpList_load_row rfl 23 (.tmp 5) rfl _ rfl _ _ _ _ (Box.new _ _ _) Tryz.underlying23 rfl (size_256 _) ?_) | (refine wpList_load_row rfl 23 (.tmp 2) rfl _ rfl _ _ _ _ (hx0.alloc _) Tryz.underlying23 rfl (size_256 _) ?_))
    go_ret
    exact ⟨rfl, HS.out _ hB⟩
end Go.Proofs.YtdhmekpgplajmaaGreatDoor
end
section
namespace Go.Proofs.YtdhmekpgplajmaaGreatDoor
open Go.RowKit

set_option maxHeartbeats 1000000 in
theorem ones_core (x a1 b1 a2 b2 c r : Nat) (w : World)
    (ha1 : bits BinOp.and IntKind.u64 ((x : Int) / 2) 6148914691236517205 = (a1 : Int)) (hb1 : bits BinOp.and IntKind.u64 (x : Int) 6148914691236517205 = (b1 : Int)) (h1 : a1 + b1 < 18446744073709551616)
    (ha2 : bits BinOp.and IntKind.u64 (((a1 : Int) + (b1 : Int)) / 4) 3689348814741910323 = (a2 : Int)) (hb2 : bits BinOp.and IntKind.u64 ((a1 : Int) + (b1 : Int)) 3689348814741910323 = (b2 : Int)) (h2 : (a2 + b2) / 16 + (a2 + b2) < 18446744073709551616)
    (hc : bits BinOp.and IntKind.u64 (((a2 : Int) + (b2 : Int)) / 16 + ((a2 : Int) + (b2 : Int))) 1085102592571150095 = (c : Int)) (h3 : c ≤ 578721382704613384)
    (hr : bits BinOp.and IntKind.i64 ((c : Int) + (c : Int) / 256 + ((c : Int) + (c : Int) / 256) / 65536 + ((c : Int) + (c : Int) / 256 + ((c : Int) + (c : Int) / 256) / 65536) / 4294967296) 127 = (r : Int)) :
    Calls Tryz.prog 89 #[.int .u64 x] w fun e w' => e = .returned (.int .i64 r) ∧ w' = w := by
  go_enter Tryz.func89, Tryz.ntmps89
  go_wp2
  go_ret
  exact ⟨rfl, rfl⟩
theorem and_div (x d M : Nat) (hx : x < 18446744073709551616) (hM : M < 18446744073709551616) : bits BinOp.and IntKind.u64 ((x : Int) / (d : Int)) (M : Int) = ((x / d &&& M : Nat) : Int) := by
  rw [← Int.natCast_ediv]; exact bits_and_u64_nat _ _ (Nat.lt_of_le_of_lt (Nat.div_le_self _ _) hx) hM
theorem ones64 (x : Nat) (hx : x < 18446744073709551616) (w : World) :
    Calls Tryz.prog 89 #[.int .u64 x] w fun e w' => e = .returned (.int .i64 ((elemsW x).length : Nat)) ∧ w' = w := by
  obtain ⟨h3, hs⟩ := pop3_sum x
  have hp1 : x / 2 &&& 6148914691236517205 ≤ 6148914691236517205 := Nat.and_le_right
  have hp2 : x &&& 6148914691236517205 ≤ 6148914691236517205 := Nat.and_le_right
  have hq1 : pop1 x / 4 &&& 3689348814741910323 ≤ 3689348814741910323 := Nat.and_le_right
  have hq2 : pop1 x &&& 3689348814741910323 ≤ 3689348814741910323 := Nat.and_le_right
  have hb1 : pop1 x < 18446744073709551616 := by unfold pop1; omega
  have hb2 : pop2 (pop1 x) / 16 + pop2 (pop1 x) < 18446744073709551616 := by unfold pop2; omega
  have c1 : (((x / 2 &&& 6148914691236517205 : Nat) : Int) + ((x &&& 6148914691236517205 : Nat) : Int)) = ((pop1 x : Nat) : Int) := by unfold pop1; omega
  have c2 : (((pop1 x / 4 &&& 3689348814741910323 : Nat) : Int) + ((pop1 x &&& 3689348814741910323 : Nat) : Int)) = ((pop2 (pop1 x) : Nat) : Int) := by unfold pop2; omega
  refine ones_core x (x / 2 &&& 6148914691236517205) (x &&& 6148914691236517205) (pop1 x / 4 &&& 3689348814741910323) (pop1 x &&& 3689348814741910323) (pop3 (pop2 (pop1 x))) _ w
    (and_div x 2 6148914691236517205 hx (by decide)) (bits_and_u64_nat x 6148914691236517205 hx (by decide)) hb1 ?_ ?_ hb2 ?_ h3 ?_
  · rw [c1]; exact and_div _ 4 3689348814741910323 hb1 (by decide)
  · rw [c1]; exact bits_and_u64_nat _ 3689348814741910323 hb1 (by decide)
  · rw [c2, show ((pop2 (pop1 x) : Nat) : Int) / 16 + ((pop2 (pop1 x) : Nat) : Int) = ((pop2 (pop1 x) / 16 + pop2 (pop1 x) : Nat) : Int) by omega]
    exact bits_and_u64_nat _ 1085102592571150095 hb2 (by decide)
  · rw [i64_and127, ← hs]
    generalize pop3 (pop2 (pop1 x)) = c
    omega
def cntS (s : BSet) : Nat → Nat
  | 0 => 0
  | j + 1 => cntS s j + (elemsW (word s j)).length
theorem cntS_le (s : BSet) : ∀ j, cntS s j ≤ 64 * j
  | 0 => Nat.le_refl _
  | j + 1 => by
    have h := cntS_le s j
    have h2 : (elemsW (word s j)).length ≤ 64 := by have := List.length_filter_le (fun i => (word s j).testBit i) (List.range 64); simpa [elemsW] using this
    simp only [cntS]; omega
theorem cntS_elems (s : BSet) : cntS s 4 = (elems s).length := by
  rw [elems_words]; simp [cntS, tailS, listW]; omega
set_option maxHeartbeats 800000 in
theorem sets_Count (s : BSet) (w : World) : Calls Tryz.prog 62 #[.agg (setC s)] w (Ret w (.int .i64 ((elems s).length : Nat))) := by
  rw [← cntS_elems]
  go_enter Tryz.func62, Tryz.ntmps62
  go_wp2
  go_loopw [3, 7] (fun n i wr => ∃ j : Nat, j ≤ 4 ∧ i = .int .i64 j ∧ n = .int .i64 (cntS s j : Nat) ∧ Below w.heap.size w wr) (fun _ i _ => 4 - (intOf i).toNat)
  case atStart => exact ⟨0, Nat.zero_le _, rfl, rfl, by go_grown⟩
  case round =>
    obtain ⟨j, hj, rfl, rfl, hB⟩ := hrel
    by_cases hlt : j < 4
    · have gw := index_set s j hlt
      have hle := cntS_le s j
      have hO := ones64 (word s j) (word_lt s j)
      have hst : cntS s (j + 1) = cntS s j + (elemsW (word s j)).length := rfl
      have hle2 : (elemsW (word s j)).length ≤ 64 := by have := List.length_filter_le (fun i => (word s j).testBit i) (List.range 64); simpa [elemsW] using this
      have HO := Lib.hid hO
      clear hO
      generalize (elemsW (word s j)).length = m at *
      go_wp2_with (go_at_call 89; go_must (refine (HO.out _).mono ?_; rintro e w1 ⟨rfl, rfl⟩))
      go_roundw
      case rel => exact ⟨j + 1, hlt, by go_num, by rw [hst]; go_num, hB⟩
      case measure => simp [intOf]; omega
    · obtain rfl : j = 4 := by omega
      go_wp2
      go_ret
      exact ⟨rfl, hB⟩
end Go.Proofs.YtdhmekpgplajmaaGreatDoor
end
section
namespace Go.Proofs.YtdhmekpgplajmaaGreatDoor
open Go.RowKit

/-- All blocks of cells lie as they lay, but those of which X holds. -/
structure KeepC (X : Nat → Prop) (W W' : World) : Prop where
  size : W.heap.size ≤ W'.heap.size
  same : ∀ b, ¬ X b → ∀ (c : Array Value) (E : Nat) (fr : Nat × Nat), W.heap[b]? = some (.cells c E fr) → W'.heap[b]? = some (.cells c E fr)
section
variable {X : Nat → Prop} {A B C W W' : World}
theorem KeepC.refl (X : Nat → Prop) (W : World) : KeepC X W W := ⟨Nat.le_refl _, fun _ _ _ _ _ h => h⟩
theorem KeepC.trans (h : KeepC X A B) (k : KeepC X B C) : KeepC X A C := ⟨Nat.le_trans h.size k.size, fun b hb c E fr e => k.same b hb c E fr (h.same b hb c E fr e)⟩
theorem KeepC.below (h : Below W.heap.size W W') : KeepC X W W' := ⟨h.size, fun b _ _ _ _ e => (h.block b (Array.getElem?_eq_some_iff.1 e).1).trans e⟩
theorem KeepC.set (W : World) (a : Addr) (v : Value) (h : X a.block) : KeepC X W (W.setCell a v) :=
  ⟨by simp [World.setCell], fun b hb _ _ _ e => (heap_setCell_other W a b v (fun e => hb (e ▸ h))).trans e⟩
theorem KeepC.put {l : Nat} {o o' : Obj} (h : W.heap[l]? = some o) (hc : o.isCells = false) : KeepC X W (W.putObj l o') :=
  ⟨by simp, fun b _ _ _ _ e => (World.putObj_heap_other (fun e2 => by subst e2; rw [h] at e; cases e; cases hc)).trans e⟩
theorem KeepC.cell (h : KeepC X W W') {a : Addr} {v : Value} (ha : ¬ X a.block) (hv : W.cell? a = some v) : W'.cell? a = some v := by
  obtain ⟨o, ho, hc⟩ := cells_of_cell hv
  cases o with
  | cells _ _ _ => rw [← hv]; exact World.cell?_of_block ((h.same _ ha _ _ _ ho).trans ho.symm)
  | _ => cases hc
theorem KeepC.box (h : KeepC X W W') {b E : Nat} {c : Array Value} (hb : ¬ X b) (hx : Box W b c E) : Box W' b c E := h.same b hb c E (0, 0) hx
theorem KeepC.slice (h : KeepC X W W') {α : Type} {a : Option Addr} {n cap size : Nat} {enc : α → List Value} {xs : List α} (hs : SliceR W (.slice a n cap) size enc xs) (ha : 0 < xs.length → ∀ ad, a = some ad → ¬ X ad.block) : SliceR W' (.slice a n cap) size enc xs := by
  obtain ⟨a', b, o, cap', hv, hl, hc, ha', hx⟩ := hs
  obtain ⟨rfl, rfl, rfl⟩ := Value.slice.inj hv
  refine ⟨a, b, o, cap, rfl, hl, hc, ha', fun i hi j u hu => ?_⟩
  rcases ha' with rfl | ⟨rfl, _⟩
  · exact h.cell (a := ⟨b, o + i * size + j, none⟩) (ha (by omega) ⟨b, o, none⟩ rfl) (hx i hi j u hu)
  · simp at hi
end
theorem keepC_b {X : Nat → Prop} {w : World} (W : World) (l : Nat) (o o' : Obj) (_ : w.heap.size ≤ l) (h : W.heap[l]? = some o) (hc : o.isCells = false) (_ : o.isWalk = false) : KeepC X W (W.putObj l o') := KeepC.put h hc
theorem ownFrom_box {β : Type} (B b E : Nat) (f : β → Array Value) : OwnFrom B (fun (s : β) W => Box W b (f s) E) := fun s W W' row hs hg hr => by
  refine (hg.block b hs.lt fun e => ?_).trans hs
  obtain ⟨_, o, ho, hc⟩ := hr b e.symm
  rw [show W.heap[b]? = _ from hs] at ho
  cases ho; cases hc
theorem ownFrom_false {β : Type} (B : Nat) : OwnFrom B (fun (_ : β) (_ : World) => False) := fun _ _ _ _ h _ _ => h
end Go.Proofs.YtdhmekpgplajmaaGreatDoor
end
section
namespace Go.Proofs.YtdhmekpgplajmaaGreatDoor
open Go.RowKit

theorem wpListIn_append1 {α : Type} {w : World} {base E size : Nat} {enc : α → List Value} {v : Value} {xs : List α} {F : Fence} {n : Nat} {P : Program} {ops : Array Oper} {rest : List Oper} {o : Oper} {a : Act} {Q : Exit → Act → World → Prop} (hgd : o.guard = none) (s x : Operand) (t : TypeId)
    (ho : o.op = .call { callee := .builtin .append, args := #[s, x], argTypes := #[t, t] }) {z : Value} {bytes : Nat} (hE : ElemOK P t E z size bytes) (he : EncOK enc size)
    (hs : a.eval s = v) (hown : Own w base E size enc v xs) (ad : Addr) (c : Nat) (y : α) (hx : a.eval x = .slice (some ad) 1 c) (hnews : ∀ j u, (enc y)[j]? = some u → w.cell? (ad.add j) = some u)
    (h63 : xs.length + 1 ≤ maxLen) (hbytes : (xs.length + 1) * bytes ≤ 140737488355328) (hbase : base ≤ w.heap.size)
    (h : ∀ a' cap' w', Own w' base E size enc (.slice a' (xs.length + 1) cap') (xs ++ [y]) → w.grownBy w' v.ownBlock → wpListIn F n P ops Q rest (a.put o.dst (.slice a' (xs.length + 1) cap')) w') : wpListIn F n P ops Q (o :: rest) a w := by
  obtain ⟨i, hi, hz, hsz, hby⟩ := hE.info
  refine wpListIn_append_own w hgd s x t ho base E i z size bytes hE.slice hi hz hsz hby hE.zsize hE.pos v xs.length (xs.flatMap enc) hs (hown.toRow he) ad 1 c (enc y) hx (by rw [he.len, Nat.one_mul]) hnews (he.one y) h63 hbytes hbase ?_
  intro v' w' hr hg _
  have hr' : Own w' base E size enc v' (xs ++ [y]) := by
    refine Own.ofRow ?_ he
    rw [List.length_append, List.flatMap_append]
    simpa using hr
  obtain ⟨a', cap', rfl⟩ := hr'.form
  have e : (xs ++ [y]).length = xs.length + 1 := by simp
  rw [e] at hr' ⊢
  exact h a' cap' w' hr' hg
theorem Own.block {α : Type} {w : World} {base E size : Nat} {enc : α → List Value} {v : Value} {xs : List α} (h : Own w base E size enc v xs) (g : Nat) (hg : v.ownBlock = some g) : base ≤ g ∧ ∃ cur, Box w g cur E := by
  obtain ⟨a, cap, rfl, _, _, hh⟩ := h
  rcases hh with ⟨rfl, _⟩ | ⟨g', cur, rfl, hb, hg', _⟩
  · simp [Value.ownBlock] at hg
  · simp [Value.ownBlock] at hg; subst hg; exact ⟨hb, cur, hg'⟩
theorem ownFrom_own {α β : Type} (B base E size : Nat) (enc : α → List Value) (v : β → Value) (xs : β → List α) : OwnFrom B (fun (s : β) W => Own W base E size enc (v s) (xs s)) := fun s W W' row hs hg hr => by
  obtain ⟨a, cap, hv, hle, hm, hh⟩ := hs
  refine ⟨a, cap, hv, hle, hm, ?_⟩
  rcases hh with hh | ⟨g, cur, ha, hb, hg', hc⟩
  · exact .inl hh
  · exact .inr ⟨g, cur, ha, hb, ownFrom_box B g E (fun _ : Unit => cur) () W W' row hg' hg hr, hc⟩
/-- What an append keeps. -/
theorem KeepC.grown {α : Type} {X : Nat → Prop} {w w' : World} {base E size : Nat} {enc : α → List Value} {v : Value} {xs : List α} (h : Own w base E size enc v xs) (hg : w.grownBy w' v.ownBlock) (hX : ∀ b, base ≤ b → X b) : KeepC X w w' :=
  ⟨hg.size, fun b hb _ _ _ e => (hg.block b (Array.getElem?_eq_some_iff.1 e).1 fun e2 => hb (hX b (h.block b e2.symm).1)).trans e⟩
theorem KeepsOthers.grownOwn {α : Type} {w w' : World} {base E size : Nat} {enc : α → List Value} {v : Value} {xs : List α} (h : Own w base E size enc v xs) (hg : w.grownBy w' v.ownBlock) : KeepsOthers w w' :=
  KeepsOthers.of_grownBy hg fun j o e ho => by
    obtain ⟨_, cur, hb⟩ := h.block j e
    rw [show w.heap[j]? = _ from hb] at ho
    cases ho; rfl
end Go.Proofs.YtdhmekpgplajmaaGreatDoor
end
section
namespace Go.Proofs.YtdhmekpgplajmaaGreatDoor
open Go.RowKit
/-- A code's walk in the frames of one function. -/
def WpAt (f : FuncId) (P : Program) (c : Code) (Q : Exit → Act → World → Prop) (a : Act) (w : World) : Prop :=
  ∀ (b : Frame) (k : List Item) (cs : List Frame), b.roundOf = none → b.fn = f →
    ∃ e a' w', Q e a' w' ∧ ArrivesIn (Machine.fenced P Fence.wide) P (lone (b.atR a (.code c :: k)) cs w) b k cs e a' w'
section
variable {f : FuncId} {P : Program} {Q : Exit → Act → World → Prop} {a : Act} {w : World}
theorem wpAt_of_wp {c : Code} (h : c.wp P Q a w) : WpAt f P c Q a w := fun b k cs hb _ => (wpIn_wide (n := 0)).2 h b k cs hb trivial (room_wide _)
theorem wpAt_seq {x y : Code} (h : WpAt f P x (Exit.then (WpAt f P y Q) Q) a w) : WpAt f P (.seq x y) Q a w := fun b k cs hb hf => by
  have s0 : StepsIn (Machine.fenced P Fence.wide) P (lone (b.atR a (.code (.seq x y) :: k)) cs w) _ := .one (fenced_wide _ _) stepR_seq
  obtain ⟨e, a1, w1, hq, hs⟩ := h b (.code y :: k) cs hb hf
  match e, hq, hs with
  | .normal, hq, hs =>
    obtain ⟨e2, a2, w2, hq2, hs2⟩ := hq b k cs hb hf
    exact ⟨e2, a2, w2, hq2, .of_steps (s0.trans hs) hs2⟩
  | .exit i, hq, hs => exact ⟨.exit i, a1, w1, hq, .of_steps s0 (.pass (x := .code y) rfl (fun _ _ => .inl (by simp)) hs)⟩
  | .goto i, hq, hs => exact ⟨.goto i, a1, w1, hq, .of_steps s0 (.pass (x := .code y) rfl (fun _ _ => .inl (by simp)) hs)⟩
  | .ret, hq, hs => exact ⟨.ret, a1, w1, hq, .of_steps s0 (.pass (x := .code y) rfl (fun _ _ => .inl (by simp)) hs)⟩
  | .panic c, hq, hs => exact ⟨.panic c, a1, w1, hq, .of_steps s0 (.pass (x := .code y) rfl (fun _ _ => .inl (by simp)) hs)⟩
  | .outgrown, hq, hs => exact ⟨.outgrown, a1, w1, hq, .of_steps s0 (.pass (x := .code y) rfl (fun _ _ => .inl (by simp)) hs)⟩
/-- The statement, in the frames of the function f. -/
theorem wpAt_rangeFunc {g : Operand} {ps : Array Tmp} {assign body : Code} {l : Nat} {mark : List Deferred} {w1 w1' w2 : World} {d : Deferred} {gf : FuncId} {args : Array Value}
    (he : (Instr.enterLoop f a.tmps ps assign body none).run P w = .ok (l, mark) w1) (hres : (resolve a.eval (rangeCall g l) 0).run P w1 = .ok d w1')
    (hinv : (invoke d.target d.args).run P w1' = .ok (.enter gf args) w2)
    (hcall : CallsIn Fence.wide 0 P gf args w2 (rangePost Fence.wide 0 P l Q { a with defers := mark ++ a.defers })) :
    WpAt f P (.rangeFunc g ps assign body) Q a w := fun b k cs hb hf => by
  subst hf
  rw [← hb] at he
  have s0 : StepsIn (Machine.fenced P Fence.wide) P (lone (b.atR a (.code (.rangeFunc g ps assign body) :: k)) cs w) _ := .one (fenced_wide _ _) (stepR_rangeFunc (a := a) (k := k) (cs := cs) he hres hinv)
  obtain ⟨e, w3, fr, hR, hs, hfn, hl⟩ := hcall.2 (b.atR { a with defers := mark ++ a.defers } (.inRangeFunc l :: k) :: cs) (room_wide _)
  match e, hR, hs, hl with
  | .outgrown, hR, hs, _ =>
    obtain ⟨a0, w0, hq⟩ := hR
    exact ⟨.outgrown, a0, w0, hq, .inr (Outgrown.of_steps s0.steps hs)⟩
  | .returned v, hR, hs, hl =>
    obtain ⟨jump, w4, hend, hj⟩ := hR
    have s1 : StepsIn (Machine.fenced P Fence.wide) P (lone fr (b.atR { a with defers := mark ++ a.defers } (.inRangeFunc l :: k) :: cs) w3) (lone (b.atR { a with defers := mark ++ a.defers } (.endRangeFunc l :: k)) cs w3) :=
      .one (fenced_wide _ _) (by rw [← finish_atR_inRangeFunc l v]; exact step_leave_returned hl)
    have s2 := (s0.trans hs).trans (s1.trans (.one (fenced_wide _ _) (stepR_endRangeFunc hend)))
    match jump, hj, s2 with
    | none, hj, s2 => exact ⟨.normal, _, w4, hj, s2⟩
    | some c, hj, s2 =>
      obtain ⟨e', a', w5, hq, hs5⟩ := hj b k cs hb trivial (room_wide _)
      exact ⟨e', a', w5, hq, .of_steps s2 hs5⟩
  | .panicked ch, hR, hs, hl =>
    exact ⟨.panic ch, _, w3, hR, .inRangeFunc l :: k, (s0.trans hs).trans (.one (fenced_wide _ _) (by rw [← Frame.raise_atR]; exact step_leave_panicked hl))⟩
/-- A function's contract out of its body's walk, marks and all. -/
theorem calls_of_wpAt {fn : Func} {c : Code} {args : Array Value} {R : Ending → World → Prop} (hf : P.funcs[f]? = some fn) (hb : fn.body = some c)
    (h : WpAt f P c (bodyPostM Fence.wide 0 P fn R) { tmps := args ++ Array.replicate (fn.ntmps - args.size) undef, defers := [] } w) : Calls P f args w R := by
  refine (callsIn_wide (n := 0)).1 ⟨trivial, fun cs hr => ?_⟩
  obtain ⟨b, hb0⟩ : ∃ b : Frame, b = { (default : Frame) with fn := f, kind := .normal, roundOf := none } := ⟨_, rfl⟩
  have hen : Frame.enter P f args .normal = b.atR { tmps := args ++ Array.replicate (fn.ntmps - args.size) undef, defers := [] } [.code c] := by
    rw [hb0]; simp [Frame.enter, Frame.atR, hf, hb]
  obtain ⟨e, a1, w1, hq, hs⟩ := h b [] cs (by rw [hb0]) (by rw [hb0])
  rw [← hen] at hs
  have hfn : b.fn = f := by rw [hb0]
  have hk : b.kind = .normal := by rw [hb0]
  match e, hq, hs with
  | .normal, hq, hs =>
    obtain ⟨e2, w2, fr2, hR, hs2, hfn2, hl2⟩ := leaves_stepsInM a1.defers .returning w1 { b.atR a1 [] with mode := .returning } cs rfl rfl rfl (by rw [← hfn] at hf; exact hf) hk trivial (room_wide _) hq
    exact ⟨e2, w2, fr2, hR, .of_steps (StepsIn.trans hs (.one (fenced_wide _ _) (stepR_end (by rw [hb0])))) hs2, hfn2.trans hfn, hl2⟩
  | .ret, hq, hs =>
    obtain ⟨todo, hs0⟩ := hs.1 (by rw [hb0])
    obtain ⟨e2, w2, fr2, hR, hs2, hfn2, hl2⟩ := leaves_stepsInM a1.defers .returning w1 { b.atR a1 todo with mode := .returning } cs rfl rfl rfl (by rw [← hfn] at hf; exact hf) hk trivial (room_wide _) hq
    exact ⟨e2, w2, fr2, hR, .of_steps hs0 hs2, hfn2.trans hfn, hl2⟩
  | .panic ch, hq, hs =>
    obtain ⟨todo, hs0⟩ := hs
    obtain ⟨e2, w2, fr2, hR, hs2, hfn2, hl2⟩ := leaves_stepsInM a1.defers (.panicking ch) w1 { b.atR a1 todo with mode := .panicking ch } cs rfl rfl rfl (by rw [← hfn] at hf; exact hf) hk trivial (room_wide _) hq
    exact ⟨e2, w2, fr2, hR, .of_steps hs0 hs2, hfn2.trans hfn, hl2⟩
  | .outgrown, hq, hs => exact ⟨.outgrown, w1, b, hq, hs.resolve_left (by rw [hb0]; simp), hfn, trivial⟩
  | .exit _, hq, _ => exact hq.elim
  | .goto _, hq, _ => exact hq.elim
/-- How a round may end: off its end, or by a panic. -/
def roundPostP (P : Program) (l : Nat) (R : Ending → World → Prop) : Exit → Act → World → Prop
  | .normal, _, w => ∃ v w', (Instr.endRound l none).run P w = .ok v w' ∧ R (.returned v) w'
  | .panic ch, a, w => a.defers = [] ∧ R (.panicked ch) w
  | _, _, _ => False
theorem roundIn_panics {l n : Nat} {fn : Func} {tmps : Array Value} {assign body : Code} {R : Ending → World → Prop} (hf : P.funcs[f]? = some fn)
    (h : assign.wpIn (Fence.wide.inRound l) n P (Exit.then (fun a1 w1 => ∃ w2, (Instr.beginRound l).run P w1 = .ok () w2 ∧ body.wpIn (Fence.wide.inRound l) n P (roundPostP P l R) a1 w2) (fun _ _ _ => False))
      { tmps := tmps, defers := [] } w) : RoundIn Fence.wide n P l f tmps assign body w R := by
  refine ⟨trivial, fun c cs hr => ?_⟩
  obtain ⟨b, hb0⟩ : ∃ b : Frame, b = { (default : Frame) with fn := f, kind := .normal, roundOf := some l } := ⟨_, rfl⟩
  have hen : Frame.round l f tmps assign body .normal = b.atR { tmps := tmps, defers := [] } [.code assign, .beginRound, .code body] := by
    rw [hb0]; simp [Frame.round, Frame.atR]
  have hbr : b.roundOf = some l := by rw [hb0]
  have hbf : b.fn = f := by rw [hb0]
  have hbk : b.kind = .normal := by rw [hb0]
  obtain ⟨e, a1, w1, hq, hs⟩ := h b [.beginRound, .code body] (c :: cs) hbr trivial (room_wide _)
  rw [← hen] at hs
  match e, hq, hs with
  | .normal, ⟨w2, hbg, hbody⟩, hs =>
    have s1 : StepsIn (Machine.fenced P Fence.wide) P (lone (b.atR a1 [.beginRound, .code body]) (c :: cs) w1) (lone (b.atR a1 [.code body]) (c :: cs) w2) := .one (fenced_wide _ _) (stepR_beginRound hbr hbg)
    obtain ⟨e2, a2, w3, hq2, hs2⟩ := hbody b [] (c :: cs) hbr trivial (room_wide _)
    match e2, hq2, hs2 with
    | .normal, ⟨v, w4, hend, hR⟩, hs2 =>
      exact ⟨.returned v, w4, hR, (StepsIn.trans hs s1).trans (StepsIn.trans hs2 (.one (fenced_wide _ _) (stepR_round_end hbr hbk hend)))⟩
    | .panic ch, ⟨hd, hR⟩, ⟨todo, hs2⟩ =>
      refine ⟨.panicked ch, w3, hR, (StepsIn.trans hs s1).trans (StepsIn.trans hs2 (.one (fenced_wide _ _) (step_leave_panicked ⟨rfl, hd, fn, ?_⟩)))⟩
      rw [← hbf] at hf; exact hf
end
end Go.Proofs.YtdhmekpgplajmaaGreatDoor
end
