/- The sets of classes, the document's. -/
import Derived.Test.YtinlfbacfmmfpaaDoorRefNum
import Derived.Test.YtinlfbacfmmfpaaDoorPartsN
namespace Go.Proofs.YtinlfbacfmmfpaaDoor
open Go.RowKit

/-- 256 bools. -/
def arrB (g : Nat → Bool) : Array Value := ((List.range 256).map fun i => Value.bool (g i)).toArray
theorem arrB_size (g : Nat → Bool) : (arrB g).size = 256 := by simp [arrB]
theorem arrB_sizes (f g : Nat → Bool) : (arrB f).size = (arrB g).size := by rw [arrB_size, arrB_size]
theorem arrB_get (g : Nat → Bool) (i : Nat) (h : i < 256) : (arrB g)[i]? = some (.bool (g i)) := by simp [arrB, h]
theorem arrB_congr {f g : Nat → Bool} (h : ∀ i, i < 256 → f i = g i) : arrB f = arrB g := by
  have e : ((List.range 256).map fun i => Value.bool (f i)) = ((List.range 256).map fun i => Value.bool (g i)) := List.map_congr_left fun i hi => by rw [h i (by simpa using hi)]
  unfold arrB; rw [e]
theorem arrB_set (g : Nat → Bool) (k : Nat) (v : Bool) : (arrB g).setIfInBounds k (.bool v) = arrB (fun i => if i = k then v else g i) := by
  apply Array.ext_getElem?
  intro i
  rw [Array.getElem?_setIfInBounds]
  by_cases hi : i < 256
  · rw [arrB_get _ i hi, arrB_get _ i hi, arrB_size]
    by_cases hk : k = i
    · subst hk; simp [hi]
    · have : ¬ i = k := fun e => hk e.symm
      simp [hk, this]
  · have h1 : (arrB fun i => if i = k then v else g i)[i]? = none := by rw [Array.getElem?_eq_none]; rw [arrB_size]; omega
    have h2 : (arrB g)[i]? = none := by rw [Array.getElem?_eq_none]; rw [arrB_size]; omega
    rw [h1, h2, arrB_size]
    by_cases hk : k = i
    · simp [hk, hi]
    · simp [hk]
theorem arrB_all (g : Nat → Bool) : (arrB g).all (·.oneCell') = true := by
  rw [Array.all_eq_true_iff_forall_mem]
  intro v hv
  simp only [arrB, List.mem_toArray, List.mem_map] at hv
  obtain ⟨x, _, rfl⟩ := hv
  rfl
theorem kern_iff (f : Nat → Nat) (a b : Nat) : Kern (keyN f) a b = true ↔ f a = f b := by
  have : (keyN f a = keyN f b) ↔ f a = f b := by unfold keyN; omega
  rw [← this]; simp [Kern]
theorem any_reps {f : Nat → Nat} (n m : Nat) : (reps (Kern (keyN f)) n).any (Kern (keyN f) m) = (List.range n).any fun d => f d == f m := by
  have E := kern_equi (keyN f)
  have hK : ∀ a b, Kern (keyN f) a b = true ↔ f a = f b := fun a b => kern_iff f a b
  rw [Bool.eq_iff_iff, List.any_eq_true, List.any_eq_true]
  constructor
  · rintro ⟨c, hc, h⟩
    exact ⟨c, by simpa using reps_lt _ n c hc, by rw [beq_iff_eq]; exact ((hK _ _).1 h).symm⟩
  · rintro ⟨d, hd, h⟩
    obtain ⟨c, hc, h2⟩ := List.any_eq_true.1 (reps_any E.refl (show d < n by simpa using hd))
    exact ⟨c, hc, E.trans ((hK _ _).2 (beq_iff_eq.1 h).symm) h2⟩
/-- What the class of a first byte is, from that byte on. -/
theorem cls_from {f : Nat → Nat} {n : Nat} (h : ((List.range n).any fun d => f d == f n) = false) : (ofP fun e => decide (n ≤ e) && (decide (e < 256) && (f e == f n))) = cls (Kern (keyN f)) 256 n := by
  refine set_ext fun d hd => ?_
  rw [mem_ofP, mem_cls]
  have hK : Kern (keyN f) n d = (f d == f n) := by rw [Bool.eq_iff_iff, kern_iff, beq_iff_eq]; exact ⟨fun h => h.symm, fun h => h.symm⟩
  rw [hK]
  by_cases hnd : n ≤ d
  · simp [hd, hnd]
  · have := List.any_eq_false.1 h d (by simp; omega)
    have h2 : (f d == f n) = false := by simpa using this
    rw [h2]; simp
theorem done_step (f : Nat → Nat) (n v : Nat) : (if v = f n then true else (List.range n).any fun d => f d == v) = (List.range (n + 1)).any fun d => f d == v := by
  rw [List.range_succ, List.any_append]
  by_cases h : v = f n
  · subst h; simp
  · have h3 : (f n == v) = false := by rw [beq_eq_false_iff_ne]; exact fun e => h e.symm
    rw [if_neg h, List.any_cons, List.any_nil, h3]; simp
attribute [irreducible] arrB
theorem info_256b : (Tryd.prog.info? 59).map (fun i => (i.zero, i.size)) = some (some (.agg (arrB fun _ => false)), 256) := by kernel_rfl
theorem size_256b (f : Nat → Bool) : (Tryd.prog.info? 59).map (·.size) = some (arrB f).size := by rw [arrB_size]; exact (zero_of_info info_256b).2
/-- Where the loops stand: the outer one at n; the inner one, of the class of n, at d. -/
def SetsOuter (f : Nat → Nat) (w wr : World) (v i : Value) : Prop :=
  ∃ (n : Nat) (a' : Option Addr) (cap' : Nat), n ≤ 256 ∧ i = .int .i64 n ∧ v = .slice a' (reps (Kern (keyN f)) n).length cap' ∧ Box wr w.heap.size (arr8 f) 22 ∧ Box wr (w.heap.size + 1 + 1) (arrB fun v => (List.range n).any fun d => f d == v) 59 ∧
    Own wr (w.heap.size + 1) 34 4 encS (.slice a' (reps (Kern (keyN f)) n).length cap') ((reps (Kern (keyN f)) n).map (cls (Kern (keyN f)) 256)) ∧ Below w.heap.size w wr
def SetsInner (f : Nat → Nat) (n q : Nat) (W0 w2 : World) (d : Value) : Prop :=
  ∃ k : Nat, n ≤ k ∧ k ≤ 256 ∧ d = .int .i64 k ∧ Box w2 q (setC (ofP fun e => decide (n ≤ e) && (decide (e < k) && (f e == f n)))) 34 ∧ Below q W0 w2 ∧ q < w2.heap.size
set_option maxRecDepth 20000 in
set_option maxHeartbeats 800000 in
theorem ref_Sets19 (f : Nat → Nat) (hf : ∀ b, f b < 256) (w : World) :
    Calls Tryd.prog 15 #[.agg (arr8 f)] w (RetOwn w 34 4 encS ((reps (Kern (keyN f)) 256).map (cls (Kern (keyN f)) 256))) := by
  have hz := zeroV_256
  have hzb : ∀ w, (zeroValue 59).run Tryd.prog w = .ok (.agg (arrB fun _ => false)) w := (zero_of_info info_256b).1
  have hbd : (Program.built Tryd.prog 59 []) = some (arrB fun _ => false) := by kernel_rfl
  go_enter Tryd.func15, Tryd.ntmps15
  go_wp2_with (refine wpList_store_new rfl 59 (.tmp 4) (.tmp 9) rfl _ _ rfl rfl (by simp) (size_256b _) (arrB_sizes _ _) (arrB_all _) ?_)
  go_loopw [3, 5] (fun v i wr => SetsOuter f w wr v i) (fun _ i _ => 256 - (intOf i).toNat)
  case atStart =>
    refine ⟨0, some ⟨w.heap.size + 1, 0, none⟩, 0, Nat.zero_le _, rfl, by rw [reps_zero]; rfl, ((Box.new' rfl _ _).alloc _).alloc _, ?_, ?_, by go_grown⟩
    · rw [arrB_congr (g := fun _ => false) (fun i _ => by simp)]; exact Box.new' (by simp) _ _
    · rw [reps_zero]
      have := (Own.empty (w.alloc (.cells (arr8 f) 22)) (w.heap.size + 1) 34 4 encS (by simp)).alloc (.cells (arrB fun _ => false) 59)
      rw [World.size_alloc] at this; exact this
  case round =>
    obtain ⟨n, a', cap', hn, rfl, rfl, hb0, hb1, hown, hB⟩ := hrel
    by_cases hlt : n < 256
    · have c0 := (hb0.cell n).trans (arr8_get _ n hlt)
      have hfn := hf n
      have c1 := (hb1.cell (f n)).trans (arrB_get _ (f n) hfn)
      have hlen := reps_length (Kern (keyN f)) n
      have hany := any_reps (f := f) n n
      cases hd : ((List.range n).any fun d => f d == f n) with
      | true =>
        rw [hd] at c1 hany
        have e1 : reps (Kern (keyN f)) (n + 1) = reps (Kern (keyN f)) n := by rw [reps_succ, if_pos hany]
        have HE := Lib.hid e1
        have HD := Lib.hid hd
        clear e1 hany hd
        go_wp2
        go_roundw
        case rel =>
          refine ⟨n + 1, a', cap', hlt, by go_num, by rw [HE.out], hb0, ?_, by rw [HE.out]; exact hown, hB⟩
          rw [arrB_congr (g := fun v => (List.range n).any fun d => f d == v) (fun v hv => ?_)]
          · exact hb1
          · rw [List.range_succ, List.any_append]
            by_cases hv2 : f n = v
            · subst hv2; simp only [HD.out]; rfl
            · simp [hv2]
        case measure => simp [intOf]; omega
      | false =>
        rw [hd] at c1 hany
        have e1 : reps (Kern (keyN f)) (n + 1) = reps (Kern (keyN f)) n ++ [n] := by rw [reps_succ, hany]; rfl
        have e2 := cls_from hd
        have HE := Lib.hid e1
        have HC := Lib.hid e2
        have f1 := hb1.free (f n)
        have hdd : decide ((n : Int) < 256) = true := by simp; omega
        clear e1 e2 hany hd
        go_wp2
        have hsz : (wr.setCell ⟨w.heap.size + 1 + 1, f n, none⟩ (.bool true)).heap.size = wr.heap.size := World.size_setCell _ _ _
        have hb0' := hb0.other ⟨w.heap.size + 1 + 1, f n, none⟩ (.bool true) (by simp; omega)
        have hb1' := hb1.set (f n) (.bool true)
        rw [arrB_set, arrB_congr (g := fun v => (List.range (n + 1)).any fun d => f d == v) (fun v _ => done_step f n v)] at hb1'
        have hown' := hown.otherT hb1 (by decide) (f n) (.bool true)
        have hB' := hB.setCell (p := ⟨w.heap.size + 1 + 1, f n, none⟩) (by simp; omega) (.bool true)
        have hq0 := hb1.lt
        generalize wr.setCell ⟨w.heap.size + 1 + 1, f n, none⟩ (.bool true) = W0 at *
        have HSZ := Lib.hid hsz
        obtain ⟨q, hq⟩ : ∃ q, wr.heap.size = q := ⟨_, rfl⟩
        rw [hq] at hsz hq0 ⊢
        have hqw : w.heap.size + 1 + 1 < q := by omega
        clear hb0 hb1 hown hB c0 c1 f1 hq HSZ
        go_loopw [7] (fun d w2 => SetsInner f n q W0 w2 d) (fun d _ => 256 - (intOf d).toNat)
        case atStart =>
          refine ⟨n, Nat.le_refl _, hn, rfl, ?_, (Below.refl _ _).alloc (by omega) _, by simp; omega⟩
          rw [show (ofP fun e => decide (n ≤ e) && (decide (e < n) && (f e == f n))) = 0 from (eq_ofP 0 _ fun b _ => by rw [mem_zero]; by_cases h : n ≤ b <;> simp [h]; omega).symm, setC_zero]
          exact Box.new' hsz.symm _ _
        case round =>
          obtain ⟨k, hnk, hk, rfl, hs, hb, hq2⟩ := hrel
          have hx0 := hb0'.below hb (by omega)
          by_cases hk2 : k < 256
          · have d0 := (hx0.cell k).trans (arr8_get _ k hk2)
            have d1 := (hx0.cell n).trans (arr8_get _ n hlt)
            obtain ⟨⟨r0, r1, r2, r3⟩, _⟩ := hs.set4
            by_cases hkn : f k = f n
            · have hbe : ((f k : Int) == (f n : Int)) = true := by rw [beq_iff_eq, hkn]
              have es : (ofP fun e => decide (n ≤ e) && (decide (e < k + 1) && (f e == f n))) = withB (ofP fun e => decide (n ≤ e) && (decide (e < k) && (f e == f n))) k := by
                rw [ofP_withB _ _ hk2]
                refine ofP_congr fun b _ => ?_
                by_cases h1 : k = b
                · subst h1; simp [hnk, hkn]
                · have : decide (b < k + 1) = decide (b < k) := by rw [decide_eq_decide]; omega
                  simp [h1, this]
              have HES := Lib.hid es
              have HB := Lib.hid hbe
              clear es hkn
              go_wp2_with fail
              go_region
              go_wp2_with (go_at_call 44; go_must (refine (ref_With _ _ _ hk2).mono ?_; rintro e w5 ⟨rfl, hB7⟩; have hs5 := hs.drew.kept hB7; obtain ⟨⟨t0, t1, t2, t3⟩, ⟨g0, g1, g2, g3⟩⟩ := hs5.set4; have hB8 := hb.drew.trans (hB7.mono (Nat.le_of_lt hq2)); have hq5 : q < w5.heap.size := Nat.lt_of_lt_of_le hq2 hB7.size))
              go_roundw
              case rel => exact ⟨k + 1, by omega, hk2, by go_num, by rw [HES.out]; exact hs5.store4 rfl _ _ _ _, by go_grown, by simp; exact hq5⟩
              case measure => simp [intOf]; omega
            · have hbe : ((f k : Int) == (f n : Int)) = false := by rw [beq_eq_false_iff_ne]; omega
              have es : (ofP fun e => decide (n ≤ e) && (decide (e < k + 1) && (f e == f n))) = (ofP fun e => decide (n ≤ e) && (decide (e < k) && (f e == f n))) := by
                refine ofP_congr fun b _ => ?_
                by_cases h1 : b = k
                · subst h1; simp [hkn]
                · have : decide (b < k + 1) = decide (b < k) := by rw [decide_eq_decide]; omega
                  simp [this]
              have HES := Lib.hid es
              have HB := Lib.hid hbe
              clear es hkn
              go_wp2_with fail
              go_region
              go_wp2
              go_roundw
              case rel => exact ⟨k + 1, by omega, hk2, by go_num, by rw [HES.out]; exact hs.drew, hb.drew, hq2⟩
              case measure => simp [intOf]; omega
          · obtain rfl : k = 256 := by omega
            rw [show (ofP fun e => decide (n ≤ e) && (decide (e < 256) && (f e == f n))) = cls (Kern (keyN f)) 256 n from HC.out] at hs
            have hx1 := hb1'.below hb hqw
            have hown2 := hown'.kept (hsz ▸ hb)
            obtain ⟨⟨r0, r1, r2, r3⟩, _⟩ := hs.set4
            have hB2 := hB'.trans (hb.mono (by omega))
            go_wp2_with (at_builtin; go_must (refine wpList_append1 rfl _ _ 27 rfl elem_set encS_ok rfl (hown2.alloc _) ⟨wr.heap.size, 0, none⟩ 1 (cls (Kern (keyN f)) 256 n) rfl ?_ ?_ ?_ ?_ ?_))
            · exact new_cells wr _ _
            · simp [maxLen]; omega
            · simp; omega
            · have := hB2.size; simp; omega
            intro a2 cap2 w6 hown6 hgr6
            have hB5 := below_grown (hB2.alloc hB2.size _) (hown2.alloc _) hgr6 (by omega) (by have := hB2.size; simp; omega)
            have hy0 := (hx1.alloc (.cells (setC (cls (Kern (keyN f)) 256 n)) 34)).grownT (hown2.alloc _) hgr6 (by decide)
            have hy1 := ((hb0'.below hb (by omega)).alloc (.cells (setC (cls (Kern (keyN f)) 256 n)) 34)).grownT (hown2.alloc _) hgr6 (by decide)
            go_wp2
            go_roundw
            case rel =>
              refine ⟨n + 1, a2, cap2, hlt, by go_num, ?_, hy1, hy0, ?_, hB5⟩
              · rw [HE.out]; simp
              · rw [HE.out, List.map_append]
                rw [List.length_append]; simpa using hown6
            case measure => simp [intOf]; omega
    · obtain rfl : n = 256 := by omega
      go_wp2
      go_ret
      refine ⟨a', cap', ?_, ?_, hB⟩
      · rw [List.length_map]; rfl
      · rw [List.length_map]; exact hown.mono (by omega)
end Go.Proofs.YtinlfbacfmmfpaaDoor
