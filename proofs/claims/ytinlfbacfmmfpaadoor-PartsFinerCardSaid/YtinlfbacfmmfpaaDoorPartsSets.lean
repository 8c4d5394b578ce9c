/- The sets of classes, as the program makes them. -/
import Derived.Test.YtinlfbacfmmfpaaDoorPartsN
import Derived.Test.YtinlfbacfmmfpaaDoorRefParts
import Derived.Test.YtinlfbacfmmfpaaDoorWords
import Derived.Test.YtinlfbacfmmfpaaDoorSets
import Derived.Test.YtinlfbacfmmfpaaDoorMake
import Derived.Test.YtinlfbacfmmfpaaDoorFresh
import Derived.Test.YtinlfbacfmmfpaaDoorOrdM
namespace Go.Proofs.YtinlfbacfmmfpaaDoor
open Go.RowKit
/-- The sets of the classes, of the bytes below n alone. -/
def setsTo (R : Nat → Nat → Bool) (n : Nat) : List BSet := (reps R 256).map (cls R n)
theorem setsTo_length (R : Nat → Nat → Bool) (n : Nat) : (setsTo R n).length = widR R := by rw [setsTo, List.length_map, widR_def]
theorem setsTo_zero (R : Nat → Nat → Bool) : setsTo R 0 = List.replicate (widR R) 0 := by
  rw [setsTo, widR_def, ← List.map_const']
  refine List.map_congr_left fun c _ => set_ext fun b hb => ?_
  rw [mem_cls, mem_zero]; simp
theorem setsTo_succ {R : Nat → Nat → Bool} (E : Equi R) {n : Nat} (hn : n < 256) (hk : numR R n < (setsTo R n).length) :
    setsTo R (n + 1) = (setsTo R n).set (numR R n) ((setsTo R n)[numR R n] ||| ofL [n]) := by
  have hlen := setsTo_length R n
  refine List.ext_getElem (by rw [List.length_set, setsTo_length, setsTo_length]) fun i h1 h2 => ?_
  rw [List.getElem_set]
  have hi : i < (reps R 256).length := by rw [setsTo_length, widR_def] at h1; exact h1
  have hrep : (reps R 256)[i] < 256 := reps_lt R 256 _ (List.getElem_mem hi)
  have hone : ∀ c, mem (ofL [n]) c = decide (n = c) := fun c => by
    rw [mem_ofL _ _ (by intro x hx; simp at hx; omega)]; simp [eq_comm]
  have hnum : numR R (reps R 256)[i] = i := by
    have h3 := posR_get (R := R) (b := (reps R 256)[i]) hi (E.refl _) (fun j hj => by
      cases h : R (reps R 256)[i] ((reps R 256)[j]'(by omega)) with
      | false => rfl
      | true =>
        have hs := reps_sorted R 256 j i hj hi
        have := reps_least E 256 (reps R 256)[i] ((reps R 256)[j]'(by omega)) (List.getElem_mem hi) hs
        rw [this] at h; cases h)
    unfold numR; rw [h3]; rfl
  have hiff := numR_eq E hrep hn
  rw [hnum] at hiff
  simp only [setsTo, List.getElem_map]
  by_cases hki : numR R n = i
  · rw [if_pos hki]
    subst hki
    have hR := hiff.1 rfl
    refine set_ext fun c hc => ?_
    rw [mem_or, mem_cls, mem_cls, hone]
    by_cases hcn : n = c
    · subst hcn; simp [hc, hR]
    · have : (c < n + 1) ↔ (c < n) := by omega
      simp [hcn, this]
  · rw [if_neg hki]
    have hR : R (reps R 256)[i] n = false := by
      cases h : R (reps R 256)[i] n with
      | false => rfl
      | true => exact absurd (hiff.2 h).symm hki
    refine set_ext fun c hc => ?_
    rw [mem_cls, mem_cls]
    by_cases hcn : c = n
    · subst hcn; simp [hR]
    · have : (c < n + 1) ↔ (c < n) := by omega
      simp [this]
def PSets (G : Nat → Nat) (B p g m : Nat) (w : World) (L : List BSet) (w' : World) : Prop :=
  Box w' p (arr8 G) 22 ∧ Own w' B 34 4 encS (.slice (some ⟨g, 0, none⟩) m m) L ∧ Below B w w' ∧ p < g ∧ B ≤ g
theorem PSets.kept {G : Nat → Nat} {B p g m : Nat} {w w1 w2 : World} {L : List BSet} (h : PSets G B p g m w L w1) (hb : Below w1.heap.size w1 w2) (hB : B ≤ w1.heap.size) : PSets G B p g m w L w2 :=
  ⟨h.1.kept hb, h.2.1.kept hb, h.2.2.1.trans (hb.mono hB), h.2.2.2⟩
set_option maxRecDepth 20000 in
set_option maxHeartbeats 1600000 in
theorem parts_Sets (f : Nat → Nat) (w : World) :
    Calls Tryd.prog 14 #[.agg (arr8 f)] w (RetOwn w 34 4 encS (setsTo (Kern (keyN f)) 256)) := by
  have hz := zeroV_256
  have hE := kern_equi (keyN f)
  have hN := parts_Norm f
  have hm := widR_le (Kern (keyN f))
  have hlt := fun n (hn : n < 256) => numR_lt hE.refl hn
  have h0 := setsTo_zero (Kern (keyN f))
  have hs := fun n (hn : n < 256) hk => setsTo_succ hE (n := n) hn hk
  have hl := setsTo_length (Kern (keyN f))
  generalize setsTo (Kern (keyN f)) = L at *
  generalize numR (Kern (keyN f)) = G at *
  generalize widR (Kern (keyN f)) = m at *
  have HN := Lib.hid hN
  have H0 := Lib.hid h0
  have HS := Lib.hid hs
  have HL := Lib.hid hl
  have HG := Lib.hid hlt
  clear hN h0 hs hl hlt hE
  go_enter Tryd.func14, Tryd.ntmps14
  go_wp2_with (first | (refine wpList_load_row rfl 22 (.tmp 1) rfl _ rfl _ _ _ _ (Box.new _ _ _) Tryd.underlying22 rfl (size_256 _) ?_) | (refine wpList_store_new rfl 22 (.tmp 3) (.tmp 11) rfl _ _ rfl rfl rfl (size_256 _) (arr8_sizes _ _) (arr8_all _) ?_) | (go_at_call 9; go_must (refine (HN.out _).mono ?_; rintro e w1 ⟨rfl, hB⟩)) | (refine wpList_makeO rfl 27 _ _ rfl elem_set encS_ok 0 rfl m rfl rfl (by omega) (by simp [maxLen]; omega) w.heap.size (by have := hB.size; simp at this ⊢; omega) ?_; intro w2 ho hw2'; have HW := Lib.hid hw2'; clear hw2'))
  have hw2 := HW.out
  rw [World.size_alloc] at ho
  have hx1 : Box w2 w1.heap.size (arr8 G) 22 := by rw [hw2]; exact (Box.new w1 _ _).alloc _
  have hB2 : Below w.heap.size w w2 := by
    rw [hw2]
    exact (((((Below.refl w.heap.size w).alloc (Nat.le_refl _) _).trans (hB.mono (by simp))).alloc (by have := hB.size; simp at this; omega) _).alloc (by have := hB.size; simp at this ⊢; omega) _)
  have hp : w.heap.size ≤ w1.heap.size := by have := hB.size; simp at this; omega
  have hJ : PSets G w.heap.size w1.heap.size (w1.heap.size + 1) m w (L 0) w2 := ⟨hx1, by rw [H0.out]; exact ho, hB2, by omega, by omega⟩
  clear hw2 hx1 hB2 ho hB HW
  generalize w1.heap.size = p at *
  go_loopw [15] (fun i wr => ∃ n : Nat, n ≤ 256 ∧ i = .int .i64 n ∧ PSets G w.heap.size p (p + 1) m w (L n) wr) (fun i _ => 256 - (intOf i).toNat)
  case atStart => exact ⟨0, Nat.zero_le _, rfl, hJ⟩
  case round =>
    clear hJ
    obtain ⟨n, hn, rfl, hJ⟩ := hrel
    by_cases hlt : n < 256
    · have c0 := (hJ.1.cell n).trans (arr8_get _ n hlt)
      have hk := HG.out n hlt
      have hkl : G n < (L n).length := by rw [HL.out]; exact hk
      have e1 := HS.out n hlt hkl
      have HE := Lib.hid e1
      have hof := fun a cap w h => sets_Of a cap [n] w h (by intro x hx; simp at hx; omega)
      have hcell := fun w1 (h : PSets G w.heap.size p (p + 1) m w (L n) w1) => h.2.1.cells4 hkl
      clear e1
      generalize (L n)[G n] = s at *
      have hcell2 : ∀ w1, PSets G w.heap.size p (p + 1) m w (L n) w1 → _ := hcell
      generalize ofL [n] = s1 at *
      have hun : ∀ ad cap w, SliceR w (.slice ad 2 cap) 4 encS [s, s1] → Calls Tryd.prog 35 #[.slice ad 2 cap] w (Ret w (setV (s ||| s1))) := fun ad cap w h => by have := sets_Union ad cap [s, s1] w h; rwa [two_or] at this
      generalize s ||| s1 = t at *
      generalize G n = k at *
      have hJ0 : PSets G w.heap.size p (p + 1) m w (L n) wr.drew := hJ.kept (Below.refl _ _).drew (Nat.le_trans hJ.2.2.1.size (Nat.le_refl _))
      have hsz : w.heap.size ≤ wr.drew.heap.size := hJ0.2.2.1.size
      have HF : Hid (∀ w1, Later wr.drew w1 → PSets G w.heap.size p (p + 1) m w (L n) w1) := Lib.hid fun w1 hl => hJ0.kept hl hsz
      have HOF := Lib.hid hof
      have HUN := Lib.hid hun
      have HC := Lib.hid hcell
      have hu8 : IntKind.u8.wrap (n : Int) = (n : Int) := wrap_u8_nat n hlt
      have hk0 : (0 : Int) ≤ (k : Int) := by omega
      have hkm : (k : Int) < (m : Int) := by omega
      clear hcell2 hcell hof hun hJ hJ0 hkl
      go_wp2_with fail
      refine wp_region_M 13 (by kernel_rfl) ?_
      refine wpM_take (t := 13) (i := 0) (v := ?_) rfl (by kernel_rfl) (by kernel_rfl) (by kernel_rfl) (by kernel_rfl) (fun _ _ _ h => h) (by rfl) (fun w1 hl => ?_) ?_
      rotate_left
      · have hJ := HF.out w1 hl; obtain ⟨⟨q0, q1, q2, q3⟩, _⟩ := HC.out w1 hJ; go_simp; try with_reducible rfl
      simp only [List.getElem_toArray, List.getElem_cons_zero, Act.put, List.setIfInBounds_toArray, List.set_cons_zero, List.set_cons_succ]
      refine wpM_take (t := 13) (i := 1) (v := ?_) rfl (by kernel_rfl) (by kernel_rfl) (by kernel_rfl) (by kernel_rfl) (fun _ _ _ h => h) (by rfl) (fun w1 hl => ?_) ?_
      rotate_left
      · have hJ := HF.out w1 hl; obtain ⟨⟨q0, q1, q2, q3⟩, _⟩ := HC.out w1 hJ; go_simp; try with_reducible rfl
      simp only [List.getElem_toArray, List.getElem_cons_zero, List.getElem_cons_succ, Act.put, List.setIfInBounds_toArray, List.set_cons_zero, List.set_cons_succ]
      refine wpM_take (t := 13) (i := 2) (v := ?_) rfl (by kernel_rfl) (by kernel_rfl) (by kernel_rfl) (by kernel_rfl) (fun _ _ _ h => h) (by rfl) (fun w1 hl => ?_) ?_
      rotate_left
      · have hJ := HF.out w1 hl; obtain ⟨⟨q0, q1, q2, q3⟩, _⟩ := HC.out w1 hJ; go_simp; try with_reducible rfl
      simp only [List.getElem_toArray, List.getElem_cons_zero, List.getElem_cons_succ, Act.put, List.setIfInBounds_toArray, List.set_cons_zero, List.set_cons_succ]
      refine wpM_take (t := 13) (i := 3) (v := ?_) rfl (by kernel_rfl) (by kernel_rfl) (by kernel_rfl) (by kernel_rfl) (fun _ _ _ h => h) (by rfl) (fun w1 hl => ?_) ?_
      rotate_left
      · have hJ := HF.out w1 hl; obtain ⟨⟨q0, q1, q2, q3⟩, _⟩ := HC.out w1 hJ; go_simp; try with_reducible rfl
      simp only [List.getElem_toArray, List.getElem_cons_zero, List.getElem_cons_succ, Act.put, List.setIfInBounds_toArray, List.set_cons_zero, List.set_cons_succ]
      refine wpM_take (t := 13) (i := 4) (v := ?_) rfl (by kernel_rfl) (by kernel_rfl) (by kernel_rfl) (by kernel_rfl) (fun _ _ _ h => h) (by rfl) (fun w1 hl => ?_) ?_
      rotate_left
      · have hJ := HF.out w1 hl; obtain ⟨⟨q0, q1, q2, q3⟩, _⟩ := HC.out w1 hJ; go_simp; try with_reducible rfl
      simp only [List.getElem_toArray, List.getElem_cons_zero, List.getElem_cons_succ, Act.put, List.setIfInBounds_toArray, List.set_cons_zero, List.set_cons_succ]
      refine wpM_take (t := 13) (i := 5) (v := ?_) rfl (by kernel_rfl) (by kernel_rfl) (by kernel_rfl) (by kernel_rfl) (fun _ _ _ h => h) (by rfl) (fun w1 hl => ?_) ?_
      rotate_left
      · have hJ := HF.out w1 hl; obtain ⟨⟨q0, q1, q2, q3⟩, _⟩ := HC.out w1 hJ; go_simp; try with_reducible rfl
      simp only [List.getElem_toArray, List.getElem_cons_zero, List.getElem_cons_succ, Act.put, List.setIfInBounds_toArray, List.set_cons_zero, List.set_cons_succ]
      refine wpM_take (t := 13) (i := 6) (v := ?_) rfl (by kernel_rfl) (by kernel_rfl) (by kernel_rfl) (by kernel_rfl) (fun _ _ _ h => h) (by rfl) (fun w1 hl => ?_) ?_
      rotate_left
      · have hJ := HF.out w1 hl; obtain ⟨⟨q0, q1, q2, q3⟩, _⟩ := HC.out w1 hJ; go_simp; try with_reducible rfl
      simp only [List.getElem_toArray, List.getElem_cons_zero, List.getElem_cons_succ, Act.put, List.setIfInBounds_toArray, List.set_cons_zero, List.set_cons_succ]
      refine wpM_take (t := 13) (i := 7) (v := ?_) rfl (by kernel_rfl) (by kernel_rfl) (by kernel_rfl) (by kernel_rfl) (fun _ _ _ h => h) (by rfl) (fun w1 hl => ?_) ?_
      rotate_left
      · have hJ := HF.out w1 hl; obtain ⟨⟨q0, q1, q2, q3⟩, _⟩ := HC.out w1 hJ; go_simp; try with_reducible rfl
      simp only [List.getElem_toArray, List.getElem_cons_zero, List.getElem_cons_succ, Act.put, List.setIfInBounds_toArray, List.set_cons_zero, List.set_cons_succ]
      refine wpM_one (t := 13) (i := 8) (by kernel_rfl) rfl (fun w1 hl K hK => ?_)
      go_simp
      refine hK.out _ _ (fun _ => later_alloc _ _) ?_
      have hL1 : Later wr.drew (w1.alloc (.cells #[.int .u8 (n : Nat)] 5)) := Later.trans _ _ _ hl (later_alloc _ _)
      have hs1 := sl_newB1 w1 n 5
      clear hK K
      refine wpM_call (t := 13) (i := 9) (f := ?_) (args := ?_) (v := ?_) rfl (by kernel_rfl) (by kernel_rfl) (by kernel_rfl) (by kernel_rfl) (fun _ _ _ h => h) (by rfl) (fun w1 => ?_) (fun w1 hl => ?_) ?_
      rotate_left 4
      · exact HOF.out _ _ _ (hs1.kept hl)
      rotate_left
      · go_simp
      simp only [List.getElem_toArray, List.getElem_cons_zero, List.getElem_cons_succ, Act.put, List.setIfInBounds_toArray, List.set_cons_zero, List.set_cons_succ]
      refine wpM_one (t := 13) (i := 10) (by kernel_rfl) rfl (fun w1 hl K hK => ?_)
      go_simp
      refine hK.out _ _ (fun _ => later_alloc _ _) ?_
      have hL2 := Later.trans _ _ _ hL1 (Later.trans _ _ _ hl (later_alloc w1 (.cells #[.int .u64 (word s 0 : Nat), .int .u64 (word s 1 : Nat), .int .u64 (word s 2 : Nat), .int .u64 (word s 3 : Nat), .int .u64 (word s1 0 : Nat), .int .u64 (word s1 1 : Nat), .int .u64 (word s1 2 : Nat), .int .u64 (word s1 3 : Nat)] 34)))
      have hs2 := sl_new2 w1 s s1 34
      clear hK K
      refine wpM_call (t := 13) (i := 11) (f := ?_) (args := ?_) (v := ?_) rfl (by kernel_rfl) (by kernel_rfl) (by kernel_rfl) (by kernel_rfl) (fun _ _ _ h => h) (by rfl) (fun w1 => ?_) (fun w1 hl => ?_) ?_
      rotate_left 4
      · exact HUN.out _ _ _ (hs2.kept hl)
      rotate_left
      · go_simp
      simp only [List.getElem_toArray, List.getElem_cons_zero, List.getElem_cons_succ, Act.put, List.setIfInBounds_toArray, List.set_cons_zero, List.set_cons_succ]
      refine wpM_take (t := 13) (i := 12) (v := ?_) rfl (by kernel_rfl) (by kernel_rfl) (by kernel_rfl) (by kernel_rfl) (fun _ _ _ h => h) (by rfl) (fun w1 hl => ?_) ?_
      rotate_left
      · skip; go_simp; try with_reducible rfl
      simp only [List.getElem_toArray, List.getElem_cons_zero, List.getElem_cons_succ, Act.put, List.setIfInBounds_toArray, List.set_cons_zero, List.set_cons_succ]
      refine wpM_one (t := 13) (i := 13) (by kernel_rfl) rfl (fun w1 hl K hK => ?_)
      have hJ := HF.out w1 (Later.trans _ _ _ hL2 hl)
      obtain ⟨⟨q0, q1, q2, q3⟩, ⟨f0, f1, f2, f3⟩⟩ := HC.out w1 hJ
      go_simp
      refine hK.out _ _ (fun h => absurd rfl h) ?_
      clear hK K q0 q1 q2 q3 f0 f1 f2 f3
      have hJ4 : PSets G w.heap.size p (p + 1) m w (L (n + 1)) ((((w1.setCell ⟨p + 1, k * 4, none⟩ (.int .u64 (word t 0 : Nat))).setCell ⟨p + 1, k * 4 + 1, none⟩ (.int .u64 (word t 1 : Nat))).setCell ⟨p + 1, k * 4 + 2, none⟩ (.int .u64 (word t 2 : Nat))).setCell ⟨p + 1, k * 4 + 3, none⟩ (.int .u64 (word t 3 : Nat))) := by
        obtain ⟨j1, j2, j3, j4, j5⟩ := hJ
        refine ⟨j1.store4at (by omega) _ _ _ _, ?_, below_store4 j3 j5 _ _ _ _, j4, j5⟩
        rw [HE.out]
        exact j2.store4 (by rw [HL.out]; exact hk) rfl t
      refine wpM_done (by kernel_rfl) (fun w1 hl => ?_) _
      have hJ5 := hJ4.kept hl (by have := hJ4.2.2.1.size; exact this)
      clear hJ hJ4
      go_wp2
      go_roundw
      case rel => exact ⟨n + 1, hlt, by go_num, hJ5⟩
      case measure => simp [intOf]; omega
    · obtain rfl : n = 256 := by omega
      go_wp2
      go_ret
      exact ⟨some ⟨p + 1, 0, none⟩, m, by rw [HL.out]; rfl, by rw [HL.out]; exact hJ.2.1, hJ.2.2.1⟩
end Go.Proofs.YtinlfbacfmmfpaaDoor
