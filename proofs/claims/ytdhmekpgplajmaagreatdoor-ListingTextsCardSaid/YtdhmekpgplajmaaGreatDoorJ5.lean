/- Joined by tools/merge.py: Number, NumberP, Parts, PartsN, RefParts, PartsSets, RefNum, RefSets. -/
import Derived.Test.YtdhmekpgplajmaaGreatDoorProg
import Derived.Test.YtdhmekpgplajmaaGreatDoorJ3
import Derived.Deep.WholeRow
import Derived.Test.YtdhmekpgplajmaaGreatDoorJ4
import Derived.Test.YtdhmekpgplajmaaGreatDoorJ1
import Derived.Test.YtdhmekpgplajmaaGreatDoorJ2
section
namespace Go.Proofs.YtdhmekpgplajmaaGreatDoor
open Go.RowKit

theorem info_256 : (Tryz.prog.info? 23).map (fun i => (i.zero, i.size)) = some (some (.agg (arr8 fun _ => 0)), 256) := by kernel_rfl
theorem zeroV_256 (w : World) : (zeroValue 23).run Tryz.prog w = .ok (.agg (arr8 fun _ => 0)) w := (zero_of_info info_256).1 w
theorem size_256 (f : Nat → Nat) : (Tryz.prog.info? 23).map (·.size) = some (arr8 f).size := by rw [arr8_size]; exact (zero_of_info info_256).2


theorem key_u8 : KeyOK Tryz.prog 5 (fun n : Int => Value.int .u8 n) := keyOK_int Tryz.underlying5
set_option maxRecDepth 20000 in
set_option maxHeartbeats 400000 in
theorem number_u8 (k : Nat → Int) (p : Value) (w : World)
    (hkey : ∀ b : Nat, b < 256 → ∀ w', Below w.heap.size w w' → Calls Tryz.prog 88 #[.int .i64 b, p] w' (Ret w' (.int .u8 (k b)))) :
    Calls Tryz.prog 87 #[.func (.func 88) #[] #[p]] w (Ret w (.tuple #[.agg (arr8 (numR (Kern k))), .int .i64 (widR (Kern k) : Nat)])) := by
  have E := kern_equi k
  have hz := zeroV_256
  have hmm := @run_makeMap Tryz.prog
  have HK := Lib.hid hkey
  clear hkey
  generalize hR : Kern k = R at *
  have HR := Lib.hid hR
  clear hR
  go_enter Tryz.func87, Tryz.ntmps87
  go_wp2
  go_loopw [11] (fun i wr => ∃ n : Nat, n ≤ 256 ∧ i = .int .i64 n ∧ Box wr w.heap.size (arr8 fun _ => 0) 23 ∧ Box wr (w.heap.size + 1) (arr8 fun b => if b < n then numR R b else 0) 23 ∧ MapBox wr (w.heap.size + 1 + 1) (fun n : Int => Value.int .u8 n) (kvsOf k (reps R n)) ∧ Below w.heap.size w wr) (fun i _ => 256 - (intOf i).toNat)
  case atStart =>
    refine ⟨0, Nat.zero_le _, rfl, ((Box.new' rfl _ _).alloc _).alloc _, ?_, ?_, by go_grown⟩
    · rw [arr8_congr (g := fun _ => 0) (fun i _ => by simp)]; exact (Box.new' (World.size_alloc _ _).symm _ _).alloc _
    · rw [kvsOf_zero]; refine MapBox.new' ?_ _; simp
  case round =>
    obtain ⟨n, hn, rfl, hb0, hb1, hm, hB⟩ := hrel
    by_cases hlt : n < 256
    · have hlook := look_kvsOf k n (reps R n)
      rw [HR.out] at hlook
      have hlen := reps_length R n
      cases hany : (reps R n).any (R n) with
      | true =>
        obtain ⟨e1, e2⟩ := numR_old E.refl hlt hany
        rw [e2] at hlook
        have HL := Lib.hid hlook
        have HE := Lib.hid e1
        clear hlook e1 e2 hany
        go_wp2_with (go_at_call 88; go_must (refine (HK.out n hlt _ hB).mono ?_; rintro e w1 ⟨rfl, hb⟩; have hB1 := (hB.trans (hb.mono hB.size)); have hx0 := (hb0.kept hb); have hx1 := (hb1.kept hb); have hm1 := (hm.kept hb); have hrun := hm1.run_look key_u8 Tryz.underlying136 (Tryz.zeroValue5 _) (k n); rw [HL.out] at hrun; have hc := (hx1.cell n).trans (arr8_get _ n hlt); have hf := hx1.free n))
        go_roundw
        case rel =>
          refine ⟨n + 1, hlt, by go_num, hx0.other _ _ (by simp), ?_, ?_, by go_grown⟩
          · have := hx1.set n (.int .u8 (numR R n : Nat))
            rw [arr8_set, arr8_congr (g := fun b => if b < n + 1 then numR R b else 0) (number_step rfl)] at this
            exact this
          · rw [HE.out]; exact hm1.other _ _ (by simp)
        case measure => simp [intOf]; omega
      | false =>
        obtain ⟨e1, e2⟩ := numR_new E.refl hlt hany
        rw [posR_none hany] at hlook
        have HL := Lib.hid hlook
        have HE := Lib.hid e1
        have HN := Lib.hid e2
        clear hlook e1 e2 hany
        go_wp2_with (go_at_call 88; go_must (refine (HK.out n hlt _ hB).mono ?_; rintro e w1 ⟨rfl, hb⟩; have hB1 := (hB.trans (hb.mono hB.size)); have hx0 := (hb0.kept hb); have hx1 := (hb1.kept hb); have hm1 := (hm.kept hb); have hrun := hm1.run_look key_u8 Tryz.underlying136 (Tryz.zeroValue5 _) (k n); rw [HL.out] at hrun; have hlen1 := hm1.run_len Tryz.underlying136 3 _ (kvsOf_length k (reps R n)); obtain ⟨w2, hput, hm2, hoth, hsz2, hbel⟩ := hm1.run_put key_u8 Tryz.underlying136 (k n) (.int .u8 ((reps R n).length : Nat)); have hy0 := hx0.turn hoth (by omega); have hy1 := hx1.turn hoth (by omega); have hB2 := hB1.trans (hbel w.heap.size (by omega)); have hlk : look (k n) (kvsOf k (reps R n)) = none := HL.out; rw [putIn_none _ _ _ hlk, ← kvsOf_snoc] at hm2; have hc := (hy1.cell n).trans (arr8_get _ n hlt); have hf := hy1.free n; have hconv := wrap_u8_nat (reps R n).length (by omega);  clear hoth hbel hsz2 hlk))
        go_roundw
        case rel =>
          refine ⟨n + 1, hlt, by go_num, hy0.other _ _ (by simp), ?_, ?_, by go_grown⟩
          · have := hy1.set n (.int .u8 ((reps R n).length : Nat))
            rw [arr8_set, arr8_congr (g := fun b => if b < n + 1 then numR R b else 0) (number_step HN.out)] at this
            exact this
          · rw [HE.out]; exact hm2.other _ _ (by simp)
        case measure => simp [intOf]; omega
    · obtain rfl : n = 256 := by omega
      have hlen1 := hm.run_len Tryz.underlying136 3 _ (kvsOf_length k (reps R 256))
      rw [arr8_congr (g := numR R) (fun i hi => if_pos hi)] at hb1
      go_wp2_with (first | (refine wpList_load_row rfl 23 (.tmp 4) rfl (w.heap.size + 1) rfl _ _ _ _ hb1 Tryz.underlying23 rfl (size_256 _) ?_) | (refine wpList_store_row rfl 23 (.tmp 2) (.tmp 35) rfl w.heap.size _ rfl rfl _ _ hb0 (size_256 _) (by rw [arr8_size, arr8_size]) (arr8_all _) ?_))
      refine ret_box_tmp Tryz.results87 rfl rfl (hb0.setRow _) Tryz.underlying23 rfl (size_256 _) rfl ⟨?_, below_setRow hB (Nat.le_refl _) _⟩
      rw [widR_def]; rfl
end Go.Proofs.YtdhmekpgplajmaaGreatDoor
end
section
namespace Go.Proofs.YtdhmekpgplajmaaGreatDoor
open Go.RowKit



end Go.Proofs.YtdhmekpgplajmaaGreatDoor
end
section
namespace Go.Proofs.YtdhmekpgplajmaaGreatDoor
open Go.RowKit

/-- No set of l tells b and c apart. -/
def RL (l : List BSet) (b c : Nat) : Bool := l.all fun s => mem s b == mem s c
theorem RL_equi (l : List BSet) : Equi (RL l) := by
  refine ⟨fun b => by simp [RL], fun {b c} h => ?_, fun {b c d} h k => ?_⟩ <;> simp only [RL, List.all_eq_true, beq_iff_eq] at *
  · exact fun s hs => (h s hs).symm
  · exact fun s hs => (h s hs).trans (k s hs)
theorem RL_snoc (l : List BSet) (s : BSet) (b c : Nat) : RL (l ++ [s]) b c = (RL l b c && (mem s b == mem s c)) := by simp [RL]
/-- The key of a byte, behind one set more. -/
def keyOf2 (R : Nat → Nat → Bool) (s : BSet) (b : Nat) : Int × Int := ((numR R b : Nat), if mem s b then 1 else 0)
theorem kern_keyOf2 {R : Nat → Nat → Bool} (E : Equi R) (s : BSet) {b c : Nat} (hb : b < 256) (hc : c < 256) : Kern (keyOf2 R s) b c = (R b c && (mem s b == mem s c)) := by
  rw [Bool.eq_iff_iff]
  simp only [Kern, keyOf2, decide_eq_true_eq, Prod.mk.injEq, Bool.and_eq_true, beq_iff_eq]
  rw [show (((numR R b : Nat) : Int) = ((numR R c : Nat) : Int)) ↔ numR R b = numR R c by omega, numR_eq E hb hc]
  cases mem s b <;> cases mem s c <;> simp

end Go.Proofs.YtdhmekpgplajmaaGreatDoor
end
section
namespace Go.Proofs.YtdhmekpgplajmaaGreatDoor
open Go.RowKit

/-- Classes, as keys. -/
def keyN (f : Nat → Nat) (b : Nat) : Int := (f b : Nat)
theorem parts_Norm1 (f : Nat → Nat) (p b : Nat) (w : World) (hb : b < 256) (hp : Box w p (arr8 f) 23) :
    Calls Tryz.prog 88 #[.int .i64 b, .pointer (some ⟨p, 0, none⟩)] w (Ret w (.int .u8 (keyN f b))) := by
  have hc := (hp.cell b).trans (arr8_get _ b hb)
  go_enter Tryz.func88, Tryz.ntmps88
  go_wp2
  go_ret
  exact ⟨rfl, by go_grown⟩
set_option maxRecDepth 20000 in
theorem parts_Norm (f : Nat → Nat) (w : World) :
    Calls Tryz.prog 59 #[.agg (arr8 f)] w (Ret w (.tuple #[.agg (arr8 (numR (Kern (keyN f)))), .int .i64 (widR (Kern (keyN f)) : Nat)])) := by
  have hz := zeroV_256
  go_enter Tryz.func59, Tryz.ntmps59
  go_wp2_with (first | (refine wpList_store_row rfl 23 (.tmp 2) (.tmp 6) rfl _ _ rfl rfl _ _ hx1 (size_256 _) (arr8_sizes _ _) (arr8_all _) ?_) | (go_at_call 87; go_must (refine (number_u8 (keyN f) _ _ (fun b hb w' hB' => parts_Norm1 f w.heap.size b w' hb (((Box.new' rfl _ _).alloc _).kept hB'))).mono ?_; rintro e w1 ⟨rfl, hB⟩; have hx1 := (Box.new' (w := w.alloc (.cells (arr8 f) 23)) (World.size_alloc _ _).symm (arr8 fun _ => 0) 23).kept hB)))
  have hB1 := (((Below.refl w.heap.size w).alloc (Nat.le_refl _) (.cells (arr8 f) 23)).alloc (by simp) (.cells (arr8 fun _ => 0) 23)).trans (hB.mono (by simp; omega))
  exact ret_box_tmp Tryz.results59 rfl rfl (hx1.setRow _) Tryz.underlying23 rfl (size_256 _) rfl ⟨rfl, below_setRow hB1 (by simp) _⟩
set_option maxRecDepth 20000 in
set_option maxHeartbeats 400000 in
/-- Classes that are normal, and so many. -/
theorem parts_Right (f : Nat → Nat) (n : Int) (w : World) :
    Calls Tryz.prog 54 #[.agg (arr8 f), .int .i64 n] w (Ret w (.bool (sameArr (numR (Kern (keyN f))) f && ((widR (Kern (keyN f)) : Nat) == n)))) := by
  have hz := zeroV_256
  have hq := run_eq256 (P := Tryz.prog) (t := 23) (e := 5) Tryz.underlying23 Tryz.underlying5 (by kernel_rfl) (numR (Kern (keyN f))) f
  have hsz : ∀ w1 : World, Below (w.alloc (.cells (arr8 f) 23)).heap.size (w.alloc (.cells (arr8 f) 23)) w1 → Below w.heap.size w (w1.alloc (.cells (arr8 (numR (Kern (keyN f)))) 23)) := fun w1 hB => (((Below.refl w.heap.size w).alloc (Nat.le_refl _) _).trans (hB.mono (by go_size))).alloc (by have := hB.size; simp at this; omega) _
  have HS := Lib.hid hsz
  clear hsz
  cases hs : sameArr (numR (Kern (keyN f))) f with
  | true =>
    rw [hs] at hq
    clear hs
    go_enter Tryz.func54, Tryz.ntmps54
    go_wp2_with (first | (refine wpList_load_row rfl 23 (.tmp 2) rfl _ rfl _ _ _ _ (Box.new _ _ _) Tryz.underlying23 rfl (size_256 _) ?_) | (refine wpList_store_new rfl 23 (.tmp 5) (.tmp 10) rfl _ _ rfl rfl rfl (size_256 _) (arr8_sizes _ _) (arr8_all _) ?_) | (go_at_call 59; go_must (refine (parts_Norm f _).mono ?_; rintro e w1 ⟨rfl, hB⟩; have hx0 := (Box.new w (arr8 f) 23).kept hB)) | (refine wpList_load_row rfl 23 (.tmp 5) rfl _ rfl _ _ _ _ (Box.new _ _ _) Tryz.underlying23 rfl (size_256 _) ?_) | (refine wpList_load_row rfl 23 (.tmp 2) rfl _ rfl _ _ _ _ (hx0.alloc _) Tryz.underlying23 rfl (size_256 _) ?_))
    go_ret
    exact ⟨rfl, HS.out _ hB⟩
  | false =>
    rw [hs] at hq
    clear hs
    go_enter Tryz.func54, Tryz.ntmps54
    go_wp2_with (first | (refine wpList_load_row rfl 23 (.tmp 2) rfl _ rfl _ _ _ _ (Box.new _ _ _) Tryz.underlying23 rfl (size_256 _) ?_) | (refine wpList_store_new rfl 23 (.tmp 5) (.tmp 10) rfl _ _ rfl rfl rfl (size_256 _) (arr8_sizes _ _) (arr8_all _) ?_) | (go_at_call 59; go_must (refine (parts_Norm f _).mono ?_; rintro e w1 ⟨rfl, hB⟩; have hx0 := (Box.new w (arr8 f) 23).kept hB)) | (refine wpList_load_row rfl 23 (.tmp 5) rfl _ rfl _ _ _ _ (Box.new _ _ _) Tryz.underlying23 rfl (size_256 _) ?_) | (refine wpList_load_row rfl 23 (.tmp 2) rfl _ rfl _ _ _ _ (hx0.alloc _) Tryz.underlying23 rfl (size_256 _) ?_))
    go_ret
    exact ⟨rfl, HS.out _ hB⟩
end Go.Proofs.YtdhmekpgplajmaaGreatDoor
end
section
namespace Go.Proofs.YtdhmekpgplajmaaGreatDoor
open Go.RowKit

theorem elem_set : ElemOK Tryz.prog 67 43 (.agg #[.int .u64 0, .int .u64 0, .int .u64 0, .int .u64 0]) 4 32 :=
  ⟨Tryz.underlying67, info_parts (by kernel_rfl), rfl, by decide⟩
end Go.Proofs.YtdhmekpgplajmaaGreatDoor
end
section
namespace Go.Proofs.YtdhmekpgplajmaaGreatDoor
open Go.RowKit
/-- The sets of the classes, of the bytes below n alone. -/
def setsTo (R : Nat → Nat → Bool) (n : Nat) : List BSet := (reps R 256).map (cls R n)
theorem setsTo_length (R : Nat → Nat → Bool) (n : Nat) : (setsTo R n).length = widR R := by rw [setsTo, List.length_map, widR_def]
theorem setsTo_zero (R : Nat → Nat → Bool) : setsTo R 0 = List.replicate (widR R) 0 := by
  rw [setsTo, widR_def, ← List.map_const']
  refine List.map_congr_left fun c _ => set_ext fun b hb => ?_
  rw [mem_cls, mem_zero]; simp
theorem setsTo_succ {R : Nat → Nat → Bool} (E : Equi R) {n : Nat} (hn : n < 256) (hk : numR R n < (setsTo R n).length) :
    setsTo R (n + 1) = (setsTo R n).set (numR R n) ((setsTo R n)[numR R n] ||| ofL [n]) := by
  have hlen := setsTo_length R n
  refine List.ext_getElem (by rw [List.length_set, setsTo_length, setsTo_length]) fun i h1 h2 => ?_
  rw [List.getElem_set]
  have hi : i < (reps R 256).length := by rw [setsTo_length, widR_def] at h1; exact h1
  have hrep : (reps R 256)[i] < 256 := reps_lt R 256 _ (List.getElem_mem hi)
  have hone : ∀ c, mem (ofL [n]) c = decide (n = c) := fun c => by
    rw [mem_ofL _ _ (by intro x hx; simp at hx; omega)]; simp [eq_comm]
  have hnum : numR R (reps R 256)[i] = i := by
    have h3 := posR_get (R := R) (b := (reps R 256)[i]) hi (E.refl _) (fun j hj => by
      cases h : R (reps R 256)[i] ((reps R 256)[j]'(by omega)) with
      | false => rfl
      | true =>
        have hs := reps_sorted R 256 j i hj hi
        have := reps_least E 256 (reps R 256)[i] ((reps R 256)[j]'(by omega)) (List.getElem_mem hi) hs
        rw [this] at h; cases h)
    unfold numR; rw [h3]; rfl
  have hiff := numR_eq E hrep hn
  rw [hnum] at hiff
  simp only [setsTo, List.getElem_map]
  by_cases hki : numR R n = i
  · rw [if_pos hki]
    subst hki
    have hR := hiff.1 rfl
    refine set_ext fun c hc => ?_
    rw [mem_or, mem_cls, mem_cls, hone]
    by_cases hcn : n = c
    · subst hcn; simp [hc, hR]
    · have : (c < n + 1) ↔ (c < n) := by omega
      simp [hcn, this]
  · rw [if_neg hki]
    have hR : R (reps R 256)[i] n = false := by
      cases h : R (reps R 256)[i] n with
      | false => rfl
      | true => exact absurd (hiff.2 h).symm hki
    refine set_ext fun c hc => ?_
    rw [mem_cls, mem_cls]
    by_cases hcn : c = n
    · subst hcn; simp [hR]
    · have : (c < n + 1) ↔ (c < n) := by omega
      simp [this]
def PSets (G : Nat → Nat) (B p g m : Nat) (w : World) (L : List BSet) (w' : World) : Prop :=
  Box w' p (arr8 G) 23 ∧ Own w' B 43 4 encS (.slice (some ⟨g, 0, none⟩) m m) L ∧ Below B w w' ∧ p < g ∧ B ≤ g
theorem PSets.kept {G : Nat → Nat} {B p g m : Nat} {w w1 w2 : World} {L : List BSet} (h : PSets G B p g m w L w1) (hb : Below w1.heap.size w1 w2) (hB : B ≤ w1.heap.size) : PSets G B p g m w L w2 :=
  ⟨h.1.kept hb, h.2.1.kept hb, h.2.2.1.trans (hb.mono hB), h.2.2.2⟩
set_option maxRecDepth 20000 in
set_option maxHeartbeats 1600000 in
theorem parts_Sets (f : Nat → Nat) (w : World) :
    Calls Tryz.prog 34 #[.agg (arr8 f)] w (RetOwn w 43 4 encS (setsTo (Kern (keyN f)) 256)) := by
  have hz := zeroV_256
  have hE := kern_equi (keyN f)
  have hN := parts_Norm f
  have hm := widR_le (Kern (keyN f))
  have hlt := fun n (hn : n < 256) => numR_lt hE.refl hn
  have h0 := setsTo_zero (Kern (keyN f))
  have hs := fun n (hn : n < 256) hk => setsTo_succ hE (n := n) hn hk
  have hl := setsTo_length (Kern (keyN f))
  generalize setsTo (Kern (keyN f)) = L at *
  generalize numR (Kern (keyN f)) = G at *
  generalize widR (Kern (keyN f)) = m at *
  have HN := Lib.hid hN
  have H0 := Lib.hid h0
  have HS := Lib.hid hs
  have HL := Lib.hid hl
  have HG := Lib.hid hlt
  clear hN h0 hs hl hlt hE
  go_enter Tryz.func34, Tryz.ntmps34
  go_wp2_with (first | (refine wpList_load_row rfl 23 (.tmp 1) rfl _ rfl _ _ _ _ (Box.new _ _ _) Tryz.underlying23 rfl (size_256 _) ?_) | (refine wpList_store_new rfl 23 (.tmp 3) (.tmp 11) rfl _ _ rfl rfl rfl (size_256 _) (arr8_sizes _ _) (arr8_all _) ?_) | (go_at_call 59; go_must (refine (HN.out _).mono ?_; rintro e w1 ⟨rfl, hB⟩)) | (refine wpList_makeO rfl 67 _ _ rfl elem_set encS_ok 0 rfl m rfl rfl (by omega) (by simp [maxLen]; omega) w.heap.size (by have := hB.size; simp at this ⊢; omega) ?_; intro w2 ho hw2'; have HW := Lib.hid hw2'; clear hw2'))
  have hw2 := HW.out
  rw [World.size_alloc] at ho
  have hx1 : Box w2 w1.heap.size (arr8 G) 23 := by rw [hw2]; exact (Box.new w1 _ _).alloc _
  have hB2 : Below w.heap.size w w2 := by
    rw [hw2]
    exact (((((Below.refl w.heap.size w).alloc (Nat.le_refl _) _).trans (hB.mono (by simp))).alloc (by have := hB.size; simp at this; omega) _).alloc (by have := hB.size; simp at this ⊢; omega) _)
  have hp : w.heap.size ≤ w1.heap.size := by have := hB.size; simp at this; omega
  have hJ : PSets G w.heap.size w1.heap.size (w1.heap.size + 1) m w (L 0) w2 := ⟨hx1, by rw [H0.out]; exact ho, hB2, by omega, by omega⟩
  clear hw2 hx1 hB2 ho hB HW
  generalize w1.heap.size = p at *
  go_loopw [15] (fun i wr => ∃ n : Nat, n ≤ 256 ∧ i = .int .i64 n ∧ PSets G w.heap.size p (p + 1) m w (L n) wr) (fun i _ => 256 - (intOf i).toNat)
  case atStart => exact ⟨0, Nat.zero_le _, rfl, hJ⟩
  case round =>
    clear hJ
    obtain ⟨n, hn, rfl, hJ⟩ := hrel
    by_cases hlt : n < 256
    · have c0 := (hJ.1.cell n).trans (arr8_get _ n hlt)
      have hk := HG.out n hlt
      have hkl : G n < (L n).length := by rw [HL.out]; exact hk
      have e1 := HS.out n hlt hkl
      have HE := Lib.hid e1
      have hof := fun a cap w h => sets_Of a cap [n] w h (by intro x hx; simp at hx; omega)
      have hcell := fun w1 (h : PSets G w.heap.size p (p + 1) m w (L n) w1) => h.2.1.cells4 hkl
      clear e1
      generalize (L n)[G n] = s at *
      have hcell2 : ∀ w1, PSets G w.heap.size p (p + 1) m w (L n) w1 → _ := hcell
      generalize ofL [n] = s1 at *
      have hun : ∀ ad cap w, SliceR w (.slice ad 2 cap) 4 encS [s, s1] → Calls Tryz.prog 60 #[.slice ad 2 cap] w (Ret w (setV (s ||| s1))) := fun ad cap w h => by have := sets_Union ad cap [s, s1] w h; rwa [two_or] at this
      generalize s ||| s1 = t at *
      generalize G n = k at *
      have hJ0 : PSets G w.heap.size p (p + 1) m w (L n) wr.drew := hJ.kept (Below.refl _ _).drew (Nat.le_trans hJ.2.2.1.size (Nat.le_refl _))
      have hsz : w.heap.size ≤ wr.drew.heap.size := hJ0.2.2.1.size
      have HF : Hid (∀ w1, Later wr.drew w1 → PSets G w.heap.size p (p + 1) m w (L n) w1) := Lib.hid fun w1 hl => hJ0.kept hl hsz
      have HOF := Lib.hid hof
      have HUN := Lib.hid hun
      have HC := Lib.hid hcell
      have hu8 : IntKind.u8.wrap (n : Int) = (n : Int) := wrap_u8_nat n hlt
      have hk0 : (0 : Int) ≤ (k : Int) := by omega
      have hkm : (k : Int) < (m : Int) := by omega
      clear hcell2 hcell hof hun hJ hJ0 hkl
      go_wp2_with fail
      refine wp_region_M (R := Later) 13 (by kernel_rfl) ?_
      refine wpM_take (t := 13) (i := 0) (v := ?_) rfl (by kernel_rfl) (by kernel_rfl) (by kernel_rfl) (by kernel_rfl) (fun _ _ _ h => h) (by rfl) (fun w1 hl => ?_) ?_
      rotate_left
      · have hJ := HF.out w1 hl; obtain ⟨⟨q0, q1, q2, q3⟩, _⟩ := HC.out w1 hJ; go_simp; try with_reducible rfl
      simp only [List.getElem_toArray, List.getElem_cons_zero, Act.put, List.setIfInBounds_toArray, List.set_cons_zero, List.set_cons_succ]
      refine wpM_take (t := 13) (i := 1) (v := ?_) rfl (by kernel_rfl) (by kernel_rfl) (by kernel_rfl) (by kernel_rfl) (fun _ _ _ h => h) (by rfl) (fun w1 hl => ?_) ?_
      rotate_left
      · have hJ := HF.out w1 hl; obtain ⟨⟨q0, q1, q2, q3⟩, _⟩ := HC.out w1 hJ; go_simp; try with_reducible rfl
      simp only [List.getElem_toArray, List.getElem_cons_zero, List.getElem_cons_succ, Act.put, List.setIfInBounds_toArray, List.set_cons_zero, List.set_cons_succ]
      refine wpM_take (t := 13) (i := 2) (v := ?_) rfl (by kernel_rfl) (by kernel_rfl) (by kernel_rfl) (by kernel_rfl) (fun _ _ _ h => h) (by rfl) (fun w1 hl => ?_) ?_
      rotate_left
      · have hJ := HF.out w1 hl; obtain ⟨⟨q0, q1, q2, q3⟩, _⟩ := HC.out w1 hJ; go_simp; try with_reducible rfl
      simp only [List.getElem_toArray, List.getElem_cons_zero, List.getElem_cons_succ, Act.put, List.setIfInBounds_toArray, List.set_cons_zero, List.set_cons_succ]
      refine wpM_take (t := 13) (i := 3) (v := ?_) rfl (by kernel_rfl) (by kernel_rfl) (by kernel_rfl) (by kernel_rfl) (fun _ _ _ h => h) (by rfl) (fun w1 hl => ?_) ?_
      rotate_left
      · have hJ := HF.out w1 hl; obtain ⟨⟨q0, q1, q2, q3⟩, _⟩ := HC.out w1 hJ; go_simp; try with_reducible rfl
      simp only [List.getElem_toArray, List.getElem_cons_zero, List.getElem_cons_succ, Act.put, List.setIfInBounds_toArray, List.set_cons_zero, List.set_cons_succ]
      refine wpM_take (t := 13) (i := 4) (v := ?_) rfl (by kernel_rfl) (by kernel_rfl) (by kernel_rfl) (by kernel_rfl) (fun _ _ _ h => h) (by rfl) (fun w1 hl => ?_) ?_
      rotate_left
      · have hJ := HF.out w1 hl; obtain ⟨⟨q0, q1, q2, q3⟩, _⟩ := HC.out w1 hJ; go_simp; try with_reducible rfl
      simp only [List.getElem_toArray, List.getElem_cons_zero, List.getElem_cons_succ, Act.put, List.setIfInBounds_toArray, List.set_cons_zero, List.set_cons_succ]
      refine wpM_take (t := 13) (i := 5) (v := ?_) rfl (by kernel_rfl) (by kernel_rfl) (by kernel_rfl) (by kernel_rfl) (fun _ _ _ h => h) (by rfl) (fun w1 hl => ?_) ?_
      rotate_left
      · have hJ := HF.out w1 hl; obtain ⟨⟨q0, q1, q2, q3⟩, _⟩ := HC.out w1 hJ; go_simp; try with_reducible rfl
      simp only [List.getElem_toArray, List.getElem_cons_zero, List.getElem_cons_succ, Act.put, List.setIfInBounds_toArray, List.set_cons_zero, List.set_cons_succ]
      refine wpM_take (t := 13) (i := 6) (v := ?_) rfl (by kernel_rfl) (by kernel_rfl) (by kernel_rfl) (by kernel_rfl) (fun _ _ _ h => h) (by rfl) (fun w1 hl => ?_) ?_
      rotate_left
      · have hJ := HF.out w1 hl; obtain ⟨⟨q0, q1, q2, q3⟩, _⟩ := HC.out w1 hJ; go_simp; try with_reducible rfl
      simp only [List.getElem_toArray, List.getElem_cons_zero, List.getElem_cons_succ, Act.put, List.setIfInBounds_toArray, List.set_cons_zero, List.set_cons_succ]
      refine wpM_take (t := 13) (i := 7) (v := ?_) rfl (by kernel_rfl) (by kernel_rfl) (by kernel_rfl) (by kernel_rfl) (fun _ _ _ h => h) (by rfl) (fun w1 hl => ?_) ?_
      rotate_left
      · have hJ := HF.out w1 hl; obtain ⟨⟨q0, q1, q2, q3⟩, _⟩ := HC.out w1 hJ; go_simp; try with_reducible rfl
      simp only [List.getElem_toArray, List.getElem_cons_zero, List.getElem_cons_succ, Act.put, List.setIfInBounds_toArray, List.set_cons_zero, List.set_cons_succ]
      refine wpM_one (t := 13) (i := 8) (by kernel_rfl) rfl (fun w1 hl K hK => ?_)
      go_simp
      refine hK.out _ _ (fun _ => later_alloc _ _) ?_
      have hL1 : Later wr.drew (w1.alloc (.cells #[.int .u8 (n : Nat)] 5)) := Later.trans _ _ _ hl (later_alloc _ _)
      have hs1 := sl_newB1 w1 n 5
      clear hK K
      refine wpM_call (t := 13) (i := 9) (f := ?_) (args := ?_) (v := ?_) rfl (by kernel_rfl) (by kernel_rfl) (by kernel_rfl) (by kernel_rfl) (fun _ _ _ h => h) (by rfl) (fun w1 => ?_) (fun w1 hl => ?_) ?_
      rotate_left 4
      · exact HOF.out _ _ _ (hs1.kept hl)
      rotate_left
      · go_simp
      simp only [List.getElem_toArray, List.getElem_cons_zero, List.getElem_cons_succ, Act.put, List.setIfInBounds_toArray, List.set_cons_zero, List.set_cons_succ]
      refine wpM_one (t := 13) (i := 10) (by kernel_rfl) rfl (fun w1 hl K hK => ?_)
      go_simp
      refine hK.out _ _ (fun _ => later_alloc _ _) ?_
      have hL2 := Later.trans _ _ _ hL1 (Later.trans _ _ _ hl (later_alloc w1 (.cells #[.int .u64 (word s 0 : Nat), .int .u64 (word s 1 : Nat), .int .u64 (word s 2 : Nat), .int .u64 (word s 3 : Nat), .int .u64 (word s1 0 : Nat), .int .u64 (word s1 1 : Nat), .int .u64 (word s1 2 : Nat), .int .u64 (word s1 3 : Nat)] 43)))
      have hs2 := sl_new2 w1 s s1 43
      clear hK K
      refine wpM_call (t := 13) (i := 11) (f := ?_) (args := ?_) (v := ?_) rfl (by kernel_rfl) (by kernel_rfl) (by kernel_rfl) (by kernel_rfl) (fun _ _ _ h => h) (by rfl) (fun w1 => ?_) (fun w1 hl => ?_) ?_
      rotate_left 4
      · exact HUN.out _ _ _ (hs2.kept hl)
      rotate_left
      · go_simp
      simp only [List.getElem_toArray, List.getElem_cons_zero, List.getElem_cons_succ, Act.put, List.setIfInBounds_toArray, List.set_cons_zero, List.set_cons_succ]
      refine wpM_take (t := 13) (i := 12) (v := ?_) rfl (by kernel_rfl) (by kernel_rfl) (by kernel_rfl) (by kernel_rfl) (fun _ _ _ h => h) (by rfl) (fun w1 hl => ?_) ?_
      rotate_left
      · skip; go_simp; try with_reducible rfl
      simp only [List.getElem_toArray, List.getElem_cons_zero, List.getElem_cons_succ, Act.put, List.setIfInBounds_toArray, List.set_cons_zero, List.set_cons_succ]
      refine wpM_one (t := 13) (i := 13) (by kernel_rfl) rfl (fun w1 hl K hK => ?_)
      have hJ := HF.out w1 (Later.trans _ _ _ hL2 hl)
      obtain ⟨⟨q0, q1, q2, q3⟩, ⟨f0, f1, f2, f3⟩⟩ := HC.out w1 hJ
      go_simp
      refine hK.out _ _ (fun h => absurd rfl h) ?_
      clear hK K q0 q1 q2 q3 f0 f1 f2 f3
      have hJ4 : PSets G w.heap.size p (p + 1) m w (L (n + 1)) ((((w1.setCell ⟨p + 1, k * 4, none⟩ (.int .u64 (word t 0 : Nat))).setCell ⟨p + 1, k * 4 + 1, none⟩ (.int .u64 (word t 1 : Nat))).setCell ⟨p + 1, k * 4 + 2, none⟩ (.int .u64 (word t 2 : Nat))).setCell ⟨p + 1, k * 4 + 3, none⟩ (.int .u64 (word t 3 : Nat))) := by
        obtain ⟨j1, j2, j3, j4, j5⟩ := hJ
        refine ⟨j1.store4at (by omega) _ _ _ _, ?_, below_store4 j3 j5 _ _ _ _, j4, j5⟩
        rw [HE.out]
        exact j2.store4 (by rw [HL.out]; exact hk) rfl t
      refine wpM_done (by kernel_rfl) (fun w1 hl => ?_) _
      have hJ5 := hJ4.kept hl (by have := hJ4.2.2.1.size; exact this)
      clear hJ hJ4
      go_wp2
      go_roundw
      case rel => exact ⟨n + 1, hlt, by go_num, hJ5⟩
      case measure => simp [intOf]; omega
    · obtain rfl : n = 256 := by omega
      go_wp2
      go_ret
      exact ⟨some ⟨p + 1, 0, none⟩, m, by rw [HL.out]; rfl, by rw [HL.out]; exact hJ.2.1, hJ.2.2.1⟩
end Go.Proofs.YtdhmekpgplajmaaGreatDoor
end
section
namespace Go.Proofs.YtdhmekpgplajmaaGreatDoor
open Go.RowKit

theorem numF_take (L : List BSet) (i : Nat) (h : i < L.length) (c : Nat) : numF (L.take (i + 1)) c = if mem L[i] c then i else numF (L.take i) c := by
  rw [List.take_succ_eq_append_getElem h, numF_snoc, List.length_take, Nat.min_eq_left (Nat.le_of_lt h)]
def NumOuter (L : List BSet) (w wr : World) (i : Value) : Prop :=
  ∃ k : Nat, k ≤ L.length ∧ i = .int .i64 k ∧ Box wr w.heap.size (arr8 fun _ => 0) 23 ∧ Box wr (w.heap.size + 1) (arr8 (numF (L.take k))) 23 ∧ Below w.heap.size w wr
def NumInner (L : List BSet) (k : Nat) (w wr : World) (c : Value) : Prop :=
  ∃ n : Nat, n ≤ 256 ∧ c = .int .i64 n ∧ Box wr w.heap.size (arr8 fun _ => 0) 23 ∧ Box wr (w.heap.size + 1) (arr8 fun d => if d < n then numF (L.take (k + 1)) d else numF (L.take k) d) 23 ∧ Below w.heap.size w wr
theorem num_step {F G : Nat → Nat} {n v : Nat} (h : v = G n) : ∀ d, d < 256 → (if d = n then v else if d < n then G d else F d) = if d < n + 1 then G d else F d := by
  intro d _
  by_cases h1 : d = n
  · subst h1; simp [h]
  · by_cases h2 : d < n
    · simp [h1, h2, show d < n + 1 by omega]
    · simp [h1, h2, show ¬ d < n + 1 by omega]
theorem num_stay {F G : Nat → Nat} {n : Nat} (h : G n = F n) : ∀ d, d < 256 → (if d < n then G d else F d) = if d < n + 1 then G d else F d := by
  intro d _
  by_cases h1 : d = n
  · subst h1; simp [h]
  · by_cases h2 : d < n
    · simp [h2, show d < n + 1 by omega]
    · simp [h2, show ¬ d < n + 1 by omega]
set_option maxRecDepth 20000 in
set_option maxHeartbeats 800000 in
theorem ref_numbers (a : Option Addr) (cap : Nat) (L : List BSet) (w : World) (h : SliceR w (.slice a L.length cap) 4 encS L) (hL : L.length ≤ 256) :
    Calls Tryz.prog 82 #[.slice a L.length cap] w (Ret w (.tuple #[.agg (arr8 (numF L)), .int .i64 (L.length : Nat)])) := by
  obtain ⟨b, o, hlen, hcap, hcap', ha, hbl, hcell⟩ := h.sets
  clear hlen h hbl
  have HC := Lib.hid hcell
  clear hcell
  have hz := zeroV_256
  have hbd : (Program.built Tryz.prog 23 []) = some (arr8 fun _ => 0) := by kernel_rfl
  go_enter Tryz.func82, Tryz.ntmps82
  go_wp2_with (refine wpList_store_new rfl 23 (.tmp 4) (.tmp 7) rfl _ _ rfl rfl (by simp) (size_256 _) (arr8_sizes _ _) (arr8_all _) ?_)
  go_loopw [5] (fun i wr => NumOuter L w wr i) (fun i _ => L.length - (intOf i).toNat)
  case atStart => exact ⟨0, Nat.zero_le _, rfl, (Box.new' rfl _ _).alloc _, Box.new' (World.size_alloc _ _).symm _ _, by go_grown⟩
  case round =>
    obtain ⟨k, hk, rfl, hb0, hb1, hB⟩ := hrel
    by_cases hlt : k < L.length
    · obtain rfl := ha k hlt
      have hd : decide ((k : Int) < (L.length : Int)) = true := by simp; omega
      go_wp2
      clear hd
      go_loopw [6] (fun c w2 => NumInner L k w w2 c) (fun c _ => 256 - (intOf c).toNat)
      case atStart => exact ⟨0, Nat.zero_le _, rfl, hb0, by rw [arr8_congr (g := numF (L.take k)) (fun i _ => by simp)]; exact hb1, hB⟩
      case round =>
        obtain ⟨n, hn, rfl, hc0, hc1, hB2⟩ := hrel
        by_cases hn2 : n < 256
        · obtain ⟨c0, c1, c2, c3⟩ := HC.out k hlt _ hB2
          have hnt := numF_take L k hlt n
          have HN := Lib.hid hnt
          have hwr := wrap_u8_nat k (by omega)
          clear hnt
          cases hm : mem L[k] n with
          | true =>
            have HM := Lib.hid hm
            go_wp2_with (go_at_call 50; go_must (refine (ref_Has _ _ _ hn2).mono ?_; rintro e w3 ⟨rfl, hB3⟩; rw [HM.out]; have hB4 := hB2.trans (hB3.mono hB2.size); have hx0 := hc0.kept hB3; have hx1 := hc1.kept hB3; have hf := hx1.free n; have hc := (hx1.cell n).trans (arr8_get _ n hn2)))
            go_roundw
            case rel =>
              refine ⟨n + 1, hn2, by go_num, hx0.other _ _ (by simp), ?_, by go_grown⟩
              have := hx1.set n (.int .u8 (k : Nat))
              rw [arr8_set, arr8_congr (num_step (by rw [HN.out, HM.out]; rfl))] at this
              exact this
            case measure => simp [intOf]; omega
          | false =>
            have HM := Lib.hid hm
            go_wp2_with (go_at_call 50; go_must (refine (ref_Has _ _ _ hn2).mono ?_; rintro e w3 ⟨rfl, hB3⟩; rw [HM.out]; have hB4 := hB2.trans (hB3.mono hB2.size); have hx0 := hc0.kept hB3; have hx1 := hc1.kept hB3))
            go_roundw
            case rel =>
              refine ⟨n + 1, hn2, by go_num, hx0, ?_, hB4⟩
              rw [arr8_congr (num_stay (by rw [HN.out, HM.out]; rfl))] at hx1
              exact hx1
            case measure => simp [intOf]; omega
        · obtain rfl : n = 256 := by omega
          go_wp2
          go_roundw
          case rel =>
            refine ⟨k + 1, hlt, by go_num, hc0, ?_, hB2⟩
            rw [arr8_congr (g := numF (L.take (k + 1))) (fun i hi => if_pos hi)] at hc1
            exact hc1
          case measure => simp [intOf]; omega
    · obtain rfl : k = L.length := by omega
      rw [List.take_length] at hb1
      go_wp2_with (first | (refine wpList_load_row rfl 23 (.tmp 4) rfl _ rfl _ _ _ _ hb1 Tryz.underlying23 rfl (size_256 _) ?_) | (refine wpList_store_row rfl 23 (.tmp 2) (.tmp 28) rfl w.heap.size _ rfl rfl _ _ hb0 (size_256 _) (arr8_sizes _ _) (arr8_all _) ?_))
      exact ret_box_tmp Tryz.results82 rfl rfl (hb0.setRow _) Tryz.underlying23 rfl (size_256 _) rfl ⟨rfl, below_setRow hB (Nat.le_refl _) _⟩
end Go.Proofs.YtdhmekpgplajmaaGreatDoor
end
section
namespace Go.Proofs.YtdhmekpgplajmaaGreatDoor
open Go.RowKit

/-- 256 bools. -/
def arrB (g : Nat → Bool) : Array Value := ((List.range 256).map fun i => Value.bool (g i)).toArray
theorem arrB_size (g : Nat → Bool) : (arrB g).size = 256 := by simp [arrB]
theorem arrB_sizes (f g : Nat → Bool) : (arrB f).size = (arrB g).size := by rw [arrB_size, arrB_size]
theorem arrB_get (g : Nat → Bool) (i : Nat) (h : i < 256) : (arrB g)[i]? = some (.bool (g i)) := by simp [arrB, h]
theorem arrB_congr {f g : Nat → Bool} (h : ∀ i, i < 256 → f i = g i) : arrB f = arrB g := by
  have e : ((List.range 256).map fun i => Value.bool (f i)) = ((List.range 256).map fun i => Value.bool (g i)) := List.map_congr_left fun i hi => by rw [h i (by simpa using hi)]
  unfold arrB; rw [e]
theorem arrB_set (g : Nat → Bool) (k : Nat) (v : Bool) : (arrB g).setIfInBounds k (.bool v) = arrB (fun i => if i = k then v else g i) := by
  apply Array.ext_getElem?
  intro i
  rw [Array.getElem?_setIfInBounds]
  by_cases hi : i < 256
  · rw [arrB_get _ i hi, arrB_get _ i hi, arrB_size]
    by_cases hk : k = i
    · subst hk; simp [hi]
    · have : ¬ i = k := fun e => hk e.symm
      simp [hk, this]
  · have h1 : (arrB fun i => if i = k then v else g i)[i]? = none := by rw [Array.getElem?_eq_none]; rw [arrB_size]; omega
    have h2 : (arrB g)[i]? = none := by rw [Array.getElem?_eq_none]; rw [arrB_size]; omega
    rw [h1, h2, arrB_size]
    by_cases hk : k = i
    · simp [hk, hi]
    · simp [hk]
theorem arrB_all (g : Nat → Bool) : (arrB g).all (·.oneCell') = true := by
  rw [Array.all_eq_true_iff_forall_mem]
  intro v hv
  simp only [arrB, List.mem_toArray, List.mem_map] at hv
  obtain ⟨x, _, rfl⟩ := hv
  rfl
theorem kern_iff (f : Nat → Nat) (a b : Nat) : Kern (keyN f) a b = true ↔ f a = f b := by
  have : (keyN f a = keyN f b) ↔ f a = f b := by unfold keyN; omega
  rw [← this]; simp [Kern]
theorem any_reps {f : Nat → Nat} (n m : Nat) : (reps (Kern (keyN f)) n).any (Kern (keyN f) m) = (List.range n).any fun d => f d == f m := by
  have E := kern_equi (keyN f)
  have hK : ∀ a b, Kern (keyN f) a b = true ↔ f a = f b := fun a b => kern_iff f a b
  rw [Bool.eq_iff_iff, List.any_eq_true, List.any_eq_true]
  constructor
  · rintro ⟨c, hc, h⟩
    exact ⟨c, by simpa using reps_lt _ n c hc, by rw [beq_iff_eq]; exact ((hK _ _).1 h).symm⟩
  · rintro ⟨d, hd, h⟩
    obtain ⟨c, hc, h2⟩ := List.any_eq_true.1 (reps_any E.refl (show d < n by simpa using hd))
    exact ⟨c, hc, E.trans ((hK _ _).2 (beq_iff_eq.1 h).symm) h2⟩
/-- What the class of a first byte is, from that byte on. -/
theorem cls_from {f : Nat → Nat} {n : Nat} (h : ((List.range n).any fun d => f d == f n) = false) : (ofP fun e => decide (n ≤ e) && (decide (e < 256) && (f e == f n))) = cls (Kern (keyN f)) 256 n := by
  refine set_ext fun d hd => ?_
  rw [mem_ofP, mem_cls]
  have hK : Kern (keyN f) n d = (f d == f n) := by rw [Bool.eq_iff_iff, kern_iff, beq_iff_eq]; exact ⟨fun h => h.symm, fun h => h.symm⟩
  rw [hK]
  by_cases hnd : n ≤ d
  · simp [hd, hnd]
  · have := List.any_eq_false.1 h d (by simp; omega)
    have h2 : (f d == f n) = false := by simpa using this
    rw [h2]; simp
theorem done_step (f : Nat → Nat) (n v : Nat) : (if v = f n then true else (List.range n).any fun d => f d == v) = (List.range (n + 1)).any fun d => f d == v := by
  rw [List.range_succ, List.any_append]
  by_cases h : v = f n
  · subst h; simp
  · have h3 : (f n == v) = false := by rw [beq_eq_false_iff_ne]; exact fun e => h e.symm
    rw [if_neg h, List.any_cons, List.any_nil, h3]; simp
attribute [irreducible] arrB
theorem info_256b : (Tryz.prog.info? 101).map (fun i => (i.zero, i.size)) = some (some (.agg (arrB fun _ => false)), 256) := by kernel_rfl
theorem size_256b (f : Nat → Bool) : (Tryz.prog.info? 101).map (·.size) = some (arrB f).size := by rw [arrB_size]; exact (zero_of_info info_256b).2
/-- Where the loops stand: the outer one at n; the inner one, of the class of n, at d. -/
def SetsOuter (f : Nat → Nat) (w wr : World) (v i : Value) : Prop :=
  ∃ (n : Nat) (a' : Option Addr) (cap' : Nat), n ≤ 256 ∧ i = .int .i64 n ∧ v = .slice a' (reps (Kern (keyN f)) n).length cap' ∧ Box wr w.heap.size (arr8 f) 23 ∧ Box wr (w.heap.size + 1 + 1) (arrB fun v => (List.range n).any fun d => f d == v) 101 ∧
    Own wr (w.heap.size + 1) 43 4 encS (.slice a' (reps (Kern (keyN f)) n).length cap') ((reps (Kern (keyN f)) n).map (cls (Kern (keyN f)) 256)) ∧ Below w.heap.size w wr
def SetsInner (f : Nat → Nat) (n q : Nat) (W0 w2 : World) (d : Value) : Prop :=
  ∃ k : Nat, n ≤ k ∧ k ≤ 256 ∧ d = .int .i64 k ∧ Box w2 q (setC (ofP fun e => decide (n ≤ e) && (decide (e < k) && (f e == f n)))) 43 ∧ Below q W0 w2 ∧ q < w2.heap.size
set_option maxRecDepth 20000 in
set_option maxHeartbeats 800000 in
theorem ref_Sets19 (f : Nat → Nat) (hf : ∀ b, f b < 256) (w : World) :
    Calls Tryz.prog 39 #[.agg (arr8 f)] w (RetOwn w 43 4 encS ((reps (Kern (keyN f)) 256).map (cls (Kern (keyN f)) 256))) := by
  have hz := zeroV_256
  have hzb : ∀ w, (zeroValue 101).run Tryz.prog w = .ok (.agg (arrB fun _ => false)) w := (zero_of_info info_256b).1
  have hbd : (Program.built Tryz.prog 101 []) = some (arrB fun _ => false) := by kernel_rfl
  go_enter Tryz.func39, Tryz.ntmps39
  go_wp2_with (refine wpList_store_new rfl 101 (.tmp 4) (.tmp 9) rfl _ _ rfl rfl (by simp) (size_256b _) (arrB_sizes _ _) (arrB_all _) ?_)
  go_loopw [3, 5] (fun v i wr => SetsOuter f w wr v i) (fun _ i _ => 256 - (intOf i).toNat)
  case atStart =>
    refine ⟨0, some ⟨w.heap.size + 1, 0, none⟩, 0, Nat.zero_le _, rfl, by rw [reps_zero]; rfl, ((Box.new' rfl _ _).alloc _).alloc _, ?_, ?_, by go_grown⟩
    · rw [arrB_congr (g := fun _ => false) (fun i _ => by simp)]; exact Box.new' (by simp) _ _
    · rw [reps_zero]
      have := (Own.empty (w.alloc (.cells (arr8 f) 23)) (w.heap.size + 1) 43 4 encS (by simp)).alloc (.cells (arrB fun _ => false) 101)
      rw [World.size_alloc] at this; exact this
  case round =>
    obtain ⟨n, a', cap', hn, rfl, rfl, hb0, hb1, hown, hB⟩ := hrel
    by_cases hlt : n < 256
    · have c0 := (hb0.cell n).trans (arr8_get _ n hlt)
      have hfn := hf n
      have c1 := (hb1.cell (f n)).trans (arrB_get _ (f n) hfn)
      have hlen := reps_length (Kern (keyN f)) n
      have hany := any_reps (f := f) n n
      cases hd : ((List.range n).any fun d => f d == f n) with
      | true =>
        rw [hd] at c1 hany
        have e1 : reps (Kern (keyN f)) (n + 1) = reps (Kern (keyN f)) n := by rw [reps_succ, if_pos hany]
        have HE := Lib.hid e1
        have HD := Lib.hid hd
        clear e1 hany hd
        go_wp2
        go_roundw
        case rel =>
          refine ⟨n + 1, a', cap', hlt, by go_num, by rw [HE.out], hb0, ?_, by rw [HE.out]; exact hown, hB⟩
          rw [arrB_congr (g := fun v => (List.range n).any fun d => f d == v) (fun v hv => ?_)]
          · exact hb1
          · rw [List.range_succ, List.any_append]
            by_cases hv2 : f n = v
            · subst hv2; simp only [HD.out]; rfl
            · simp [hv2]
        case measure => simp [intOf]; omega
      | false =>
        rw [hd] at c1 hany
        have e1 : reps (Kern (keyN f)) (n + 1) = reps (Kern (keyN f)) n ++ [n] := by rw [reps_succ, hany]; rfl
        have e2 := cls_from hd
        have HE := Lib.hid e1
        have HC := Lib.hid e2
        have f1 := hb1.free (f n)
        have hdd : decide ((n : Int) < 256) = true := by simp; omega
        clear e1 e2 hany hd
        go_wp2
        have hsz : (wr.setCell ⟨w.heap.size + 1 + 1, f n, none⟩ (.bool true)).heap.size = wr.heap.size := World.size_setCell _ _ _
        have hb0' := hb0.other ⟨w.heap.size + 1 + 1, f n, none⟩ (.bool true) (by simp; omega)
        have hb1' := hb1.set (f n) (.bool true)
        rw [arrB_set, arrB_congr (g := fun v => (List.range (n + 1)).any fun d => f d == v) (fun v _ => done_step f n v)] at hb1'
        have hown' := hown.otherT hb1 (by decide) (f n) (.bool true)
        have hB' := hB.setCell (p := ⟨w.heap.size + 1 + 1, f n, none⟩) (by simp; omega) (.bool true)
        have hq0 := hb1.lt
        generalize wr.setCell ⟨w.heap.size + 1 + 1, f n, none⟩ (.bool true) = W0 at *
        have HSZ := Lib.hid hsz
        obtain ⟨q, hq⟩ : ∃ q, wr.heap.size = q := ⟨_, rfl⟩
        rw [hq] at hsz hq0 ⊢
        have hqw : w.heap.size + 1 + 1 < q := by omega
        clear hb0 hb1 hown hB c0 c1 f1 hq HSZ
        go_loopw [7] (fun d w2 => SetsInner f n q W0 w2 d) (fun d _ => 256 - (intOf d).toNat)
        case atStart =>
          refine ⟨n, Nat.le_refl _, hn, rfl, ?_, (Below.refl _ _).alloc (by omega) _, by simp; omega⟩
          rw [show (ofP fun e => decide (n ≤ e) && (decide (e < n) && (f e == f n))) = 0 from (eq_ofP 0 _ fun b _ => by rw [mem_zero]; by_cases h : n ≤ b <;> simp [h]; omega).symm, setC_zero]
          exact Box.new' hsz.symm _ _
        case round =>
          obtain ⟨k, hnk, hk, rfl, hs, hb, hq2⟩ := hrel
          have hx0 := hb0'.below hb (by omega)
          by_cases hk2 : k < 256
          · have d0 := (hx0.cell k).trans (arr8_get _ k hk2)
            have d1 := (hx0.cell n).trans (arr8_get _ n hlt)
            obtain ⟨⟨r0, r1, r2, r3⟩, _⟩ := hs.set4
            by_cases hkn : f k = f n
            · have hbe : ((f k : Int) == (f n : Int)) = true := by rw [beq_iff_eq, hkn]
              have es : (ofP fun e => decide (n ≤ e) && (decide (e < k + 1) && (f e == f n))) = withB (ofP fun e => decide (n ≤ e) && (decide (e < k) && (f e == f n))) k := by
                rw [ofP_withB _ _ hk2]
                refine ofP_congr fun b _ => ?_
                by_cases h1 : k = b
                · subst h1; simp [hnk, hkn]
                · have : decide (b < k + 1) = decide (b < k) := by rw [decide_eq_decide]; omega
                  simp [h1, this]
              have HES := Lib.hid es
              have HB := Lib.hid hbe
              clear es hkn
              go_wp2_with fail
              go_region
              go_wp2_with (go_at_call 66; go_must (refine (ref_With _ _ _ hk2).mono ?_; rintro e w5 ⟨rfl, hB7⟩; have hs5 := hs.drew.kept hB7; obtain ⟨⟨t0, t1, t2, t3⟩, ⟨g0, g1, g2, g3⟩⟩ := hs5.set4; have hB8 := hb.drew.trans (hB7.mono (Nat.le_of_lt hq2)); have hq5 : q < w5.heap.size := Nat.lt_of_lt_of_le hq2 hB7.size))
              go_roundw
              case rel => exact ⟨k + 1, by omega, hk2, by go_num, by rw [HES.out]; exact hs5.store4 rfl _ _ _ _, by go_grown, by simp; exact hq5⟩
              case measure => simp [intOf]; omega
            · have hbe : ((f k : Int) == (f n : Int)) = false := by rw [beq_eq_false_iff_ne]; omega
              have es : (ofP fun e => decide (n ≤ e) && (decide (e < k + 1) && (f e == f n))) = (ofP fun e => decide (n ≤ e) && (decide (e < k) && (f e == f n))) := by
                refine ofP_congr fun b _ => ?_
                by_cases h1 : b = k
                · subst h1; simp [hkn]
                · have : decide (b < k + 1) = decide (b < k) := by rw [decide_eq_decide]; omega
                  simp [this]
              have HES := Lib.hid es
              have HB := Lib.hid hbe
              clear es hkn
              go_wp2_with fail
              go_region
              go_wp2
              go_roundw
              case rel => exact ⟨k + 1, by omega, hk2, by go_num, by rw [HES.out]; exact hs.drew, hb.drew, hq2⟩
              case measure => simp [intOf]; omega
          · obtain rfl : k = 256 := by omega
            rw [show (ofP fun e => decide (n ≤ e) && (decide (e < 256) && (f e == f n))) = cls (Kern (keyN f)) 256 n from HC.out] at hs
            have hx1 := hb1'.below hb hqw
            have hown2 := hown'.kept (hsz ▸ hb)
            obtain ⟨⟨r0, r1, r2, r3⟩, _⟩ := hs.set4
            have hB2 := hB'.trans (hb.mono (by omega))
            go_wp2_with (at_builtin; go_must (refine wpList_append1 rfl _ _ 67 rfl elem_set encS_ok rfl (hown2.alloc _) ⟨wr.heap.size, 0, none⟩ 1 (cls (Kern (keyN f)) 256 n) rfl ?_ ?_ ?_ ?_ ?_))
            · exact new_cells wr _ _
            · simp [maxLen]; omega
            · simp; omega
            · have := hB2.size; simp; omega
            intro a2 cap2 w6 hown6 hgr6
            have hB5 := below_grown (hB2.alloc hB2.size _) (hown2.alloc _) hgr6 (by omega) (by have := hB2.size; simp; omega)
            have hy0 := (hx1.alloc (.cells (setC (cls (Kern (keyN f)) 256 n)) 43)).grownT (hown2.alloc _) hgr6 (by decide)
            have hy1 := ((hb0'.below hb (by omega)).alloc (.cells (setC (cls (Kern (keyN f)) 256 n)) 43)).grownT (hown2.alloc _) hgr6 (by decide)
            go_wp2
            go_roundw
            case rel =>
              refine ⟨n + 1, a2, cap2, hlt, by go_num, ?_, hy1, hy0, ?_, hB5⟩
              · rw [HE.out]; simp
              · rw [HE.out, List.map_append]
                rw [List.length_append]; simpa using hown6
            case measure => simp [intOf]; omega
    · obtain rfl : n = 256 := by omega
      go_wp2
      go_ret
      refine ⟨a', cap', ?_, ?_, hB⟩
      · rw [List.length_map]; rfl
      · rw [List.length_map]; exact hown.mono (by omega)
end Go.Proofs.YtdhmekpgplajmaaGreatDoor
end
