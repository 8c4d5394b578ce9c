/- The sets of a tree's leaves. -/
import Derived.Test.YtinlfbacfmmfpaaTreeMake
import Derived.Test.YtinlfbacfmmfpaaOwn2
namespace Go.Proofs.Ytinlfbacfmmfpaa
open Go.RowKit

mutual
def leavesT : Tr → List BSet
  | .mk k s l _ _ => if k = 3 then [s] else leavesTs l
def leavesTs : List Tr → List BSet
  | [] => []
  | a :: l => leavesT a ++ leavesTs l
end
theorem leavesTs_append (l m : List Tr) : leavesTs (l ++ m) = leavesTs l ++ leavesTs m := by
  induction l with
  | nil => simp [leavesTs]
  | cons a l ih => simp [leavesTs, ih]
theorem leaves_le : ∀ A : Tr, (leavesT A).length ≤ sizeT A := by
  refine Tr.ind fun k s l lo hi ih => ?_
  have key : ∀ l : List Tr, (∀ i (h : i < l.length), (leavesT l[i]).length ≤ sizeT l[i]) → (leavesTs l).length ≤ sizeTs l := by
    intro l
    induction l with
    | nil => intro _; simp [leavesTs]
    | cons a l ihl =>
      intro h
      have h0 := h 0 (by simp)
      have h1 := ihl fun i hi => h (i + 1) (Nat.succ_lt_succ hi)
      simp only [List.getElem_cons_zero] at h0
      simp [leavesTs, sizeTs]; omega
  have := key l ih
  simp only [leavesT, sizeT]
  split
  · simp
  · omega
theorem elem_set6 : ElemOK Try.prog 22 34 (.agg #[.int .u64 0, .int .u64 0, .int .u64 0, .int .u64 0]) 4 32 :=
  ⟨Try.underlying22, info_parts (by kernel_rfl), rfl, by decide⟩
theorem one_set {w : World} {b : Nat} (hb : b = w.heap.size) (s : BSet) (E : Nat) {B : Nat} (hB : B ≤ w.heap.size) : Own (w.alloc (.cells (setC s) E)) B E 4 encS (.slice (some ⟨b, 0, none⟩) 1 1) [s] := by
  subst hb
  refine ⟨_, 1, rfl, by simp, by simp [maxLen], .inr ⟨w.heap.size, _, rfl, hB, Box.new _ _ _, rfl, fun i hi j hj => ?_⟩⟩
  obtain rfl : i = 0 := by simp at hi; omega
  simp
def LeavesRel (kids : List Vt) (w wr : World) (B : Nat) (v i : Value) : Prop :=
  ∃ (j : Nat) (L : List BSet) (a' : Option Addr) (cap' : Nat), j ≤ kids.length ∧ i = .int .i64 j ∧ v = .slice a' L.length cap' ∧ L = leavesTs ((kids.take j).map Vt.tr) ∧ Own wr B 34 4 encS (.slice a' L.length cap') L ∧ Below w.heap.size w wr
set_option maxRecDepth 20000 in
set_option maxHeartbeats 1600000 in
theorem tree_Leaves : ∀ (V : Vt) (w : World), Lies w V → sizeT V.tr ≤ 1099511627776 → Calls Try.prog 30 #[.agg V.cells.toArray] w (RetOwn w 34 4 encS (leavesT V.tr)) := by
  refine Vt.ind fun k s a cap kids lo hi ih w hA hsz => ?_
  obtain ⟨_, _, _, sA, lA⟩ := hA.open
  obtain ⟨b, o, c1, c2, c3, c4, c5⟩ := sA.kids
  rw [Vt.tr_mk, sizeT] at hsz
  rw [Vt.tr_mk, leavesT]
  have hl := sizeTs_len (kids.map Vt.tr)
  rw [List.length_map] at hl
  change Calls _ _ #[.agg (nodeC k s a kids.length cap lo hi).toArray] _ _
  by_cases h3 : k = 3
  · subst h3
    rw [if_pos rfl]
    clear ih hA sA lA c1 c2 c3 c4 c5 hl hsz
    go_enter Try.func30, Try.ntmps30
    go_wp2
    go_ret
    exact ⟨_, 1, rfl, one_set (World.size_alloc _ _).symm s 34 (by simp), by go_grown⟩
  · rw [if_neg h3]
    have g3 : (k == 3) = false := by simpa using h3
    have HC := Lib.hid c5; have HI := Lib.hid ih; have LA := Lib.hid lA
    have HLV := Lib.hid (fun A => leaves_le A)
    clear c5 ih lA sA hA c4 h3
    go_enter Try.func30, Try.ntmps30
    go_wp2
    go_loopw [3, 15] (fun v i wr => LeavesRel kids w wr w.heap.size v i) (fun _ i _ => kids.length - (intOf i).toNat)
    case atStart => exact ⟨0, [], none, 0, Nat.zero_le _, rfl, rfl, rfl, Own.nil _ _ _ _ _, by go_grown⟩
    case round =>
      obtain ⟨j, L, a', cap', hj, rfl, rfl, hLL, hown, hB⟩ := hrel
      have HLL := Lib.hid hLL
      by_cases hlt : j < kids.length
      · obtain rfl := c3 j hlt
        have e1 := HC.out j hlt wr hB
        have hB1 := hB.alloc hB.size (.cells kids[j].cells.toArray 37)
        have hst : leavesTs ((kids.take (j + 1)).map Vt.tr) = leavesTs ((kids.take j).map Vt.tr) ++ leavesT kids[j].tr := by
          rw [List.take_succ_eq_append_getElem hlt, List.map_append, leavesTs_append]; simp [leavesTs]
        have hz1 : sizeTs ((kids.take j).map Vt.tr) + sizeT kids[j].tr ≤ 1099511627776 := by
          have h1 : sizeTs (kids.map Vt.tr) = sizeTs ((kids.take (j + 1)).map Vt.tr) + sizeTs ((kids.drop (j + 1)).map Vt.tr) := by rw [← sizeTs_append, ← List.map_append, List.take_append_drop]
          have h2 : sizeTs ((kids.take (j + 1)).map Vt.tr) = sizeTs ((kids.take j).map Vt.tr) + sizeT kids[j].tr := by
            rw [List.take_succ_eq_append_getElem hlt, List.map_append, sizeTs_append]; simp [sizeTs]
          omega
        have hLz : L.length + (leavesT kids[j].tr).length ≤ 1099511627776 := by
          have h1 := leaves_le kids[j].tr
          have h2 : L.length ≤ sizeTs ((kids.take j).map Vt.tr) := by
            have := leaves_le (.mk 4 0 ((kids.take j).map Vt.tr) 0 0)
            simp only [leavesT, sizeT] at this
            rw [if_neg (by decide)] at this
            rw [hLL]
            have hh : ∀ l : List Tr, (leavesTs l).length ≤ sizeTs l := fun l => by
              induction l with
              | nil => simp [leavesTs]
              | cons a l ih => have := leaves_le a; simp [leavesTs, sizeTs]; omega
            exact hh _
          omega
        have i1 := HI.out j hlt _ ((LA.out j hlt).kept hB1) (by omega)
        have HT := Lib.hid hst
        have hown1 := hown.kept ((Below.refl _ wr).alloc (Nat.le_refl _) (.cells kids[j].cells.toArray 37))
        clear hst c3 hLL hz1
        generalize kids[j] = V at *
        obtain ⟨k1, s1, a1, cp1, ks1, lo1, hi1⟩ := V
        obtain ⟨x0, x1, x2, x3, x4, x5, x6, x7⟩ := cells8 e1
        change Calls _ _ #[.agg (nodeC k1 s1 a1 ks1.length cp1 lo1 hi1).toArray] (wr.alloc (.cells (nodeC k1 s1 a1 ks1.length cp1 lo1 hi1).toArray 37)) _ at i1
        change Below w.heap.size w (wr.alloc (.cells (nodeC k1 s1 a1 ks1.length cp1 lo1 hi1).toArray 37)) at hB1
        change Own (wr.alloc (.cells (nodeC k1 s1 a1 ks1.length cp1 lo1 hi1).toArray 37)) _ _ _ _ _ _ at hown1
        generalize leavesT (Vt.mk k1 s1 a1 cp1 ks1 lo1 hi1).tr = M at *
        have I1 := Lib.hid i1
        clear e1 i1
        go_wp2_with (first | (go_at_call 30; go_must (refine I1.out.mono ?_; intro e w1 h1; obtain ⟨a2, cap2, rfl, hown2, hb⟩ := h1.open; clear h1; have hown3 := hown1.kept hb; have hB2 := hB1.trans (hb.mono hB1.size))) | (at_builtin; go_must (refine wpList_appendO rfl _ _ 22 rfl elem_set6 encS_ok rfl hown3 a2 cap2 rfl hown2 ?_ ?_ ?_ ?_)))
        · simp [maxLen]; omega
        · omega
        · exact hB2.size
        intro a3 cap3 w3 hown4 hgr
        have hB3 := below_grown hB2 hown3 hgr (Nat.le_refl _) hB2.size
        have hMP := Lib.hid (show L ++ M = leavesTs ((kids.take (j + 1)).map Vt.tr) by rw [HT.out, HLL.out])
        clear hgr hown3 hown2
        go_wp2
        go_roundw
        case rel => exact ⟨j + 1, L ++ M, a3, cap3, hlt, by go_num, by simp, hMP.out, by simpa using hown4, hB3⟩
        case measure => simp [intOf]; omega
      · obtain rfl : j = kids.length := by omega
        rw [List.take_length] at hLL
        subst hLL
        go_wp2
        go_ret
        exact ⟨a', cap', rfl, hown, hB⟩
def LeavesRel2 (cs : Array Value) (kids : List Vt) (w wr : World) (v i : Value) : Prop :=
  ∃ (j : Nat) (L : List BSet) (a' : Option Addr) (cap' : Nat), j ≤ kids.length ∧ i = .int .i64 j ∧ v = .slice a' L.length cap' ∧ L = leavesTs ((kids.take j).map Vt.tr) ∧ Own wr (w.heap.size + 1) 34 4 encS (.slice a' L.length cap') L ∧ Box wr w.heap.size cs 37 ∧ Below w.heap.size w wr
set_option maxRecDepth 20000 in
set_option maxHeartbeats 1600000 in
theorem ref_Leaves6 : ∀ (V : Vt) (w : World), Lies w V → sizeT V.tr ≤ 1099511627776 → Calls Try.prog 31 #[.agg V.cells.toArray] w (RetOwn w 34 4 encS (leavesT V.tr)) := by
  refine Vt.ind fun k s a cap kids lo hi ih w hA hsz => ?_
  obtain ⟨_, _, _, sA, lA⟩ := hA.open
  obtain ⟨b, o, c1, c2, c3, c4, c5⟩ := sA.kids
  rw [Vt.tr_mk, sizeT] at hsz
  rw [Vt.tr_mk, leavesT]
  have hl := sizeTs_len (kids.map Vt.tr)
  rw [List.length_map] at hl
  change Calls _ _ #[.agg (nodeC k s a kids.length cap lo hi).toArray] _ _
  by_cases h3 : k = 3
  · subst h3
    rw [if_pos rfl]
    clear ih hA sA lA c1 c2 c3 c4 c5 hl hsz
    go_enter Try.func31, Try.ntmps31
    go_wp2
    go_ret
    exact ⟨_, 1, rfl, one_set (World.size_alloc _ _).symm s 34 (by simp), by go_grown⟩
  · rw [if_neg h3]
    have g3 : (k == 3) = false := by simpa using h3
    have HC := Lib.hid c5; have HI := Lib.hid ih; have LA := Lib.hid lA
    have HLV := Lib.hid (fun A => leaves_le A)
    clear c5 ih lA sA hA c4 h3
    go_enter Try.func31, Try.ntmps31
    go_wp2
    go_loopw [3, 4] (fun v i wr => LeavesRel2 (nodeC k s a kids.length cap lo hi).toArray kids w wr v i) (fun _ i _ => kids.length - (intOf i).toNat)
    case atStart => exact ⟨0, [], _, 0, Nat.zero_le _, rfl, rfl, rfl, Own.empty' (World.size_alloc _ _).symm _ _ _ _ (by simp), (Box.new w _ _).alloc _, by go_grown⟩
    case round =>
      obtain ⟨j, L, a', cap', hj, rfl, rfl, hLL, hown, hx0, hB⟩ := hrel
      obtain ⟨p0, p1, p2, p3, p4, p5, p6, p7⟩ := hx0.node
      have hw0 := hx0.lt
      have HLL := Lib.hid hLL
      by_cases hlt : j < kids.length
      · obtain rfl := c3 j hlt
        have e1 := HC.out j hlt wr hB
        have hst : leavesTs ((kids.take (j + 1)).map Vt.tr) = leavesTs ((kids.take j).map Vt.tr) ++ leavesT kids[j].tr := by
          rw [List.take_succ_eq_append_getElem hlt, List.map_append, leavesTs_append]; simp [leavesTs]
        have hz1 : sizeTs ((kids.take j).map Vt.tr) + sizeT kids[j].tr ≤ 1099511627776 := by
          have h1 : sizeTs (kids.map Vt.tr) = sizeTs ((kids.take (j + 1)).map Vt.tr) + sizeTs ((kids.drop (j + 1)).map Vt.tr) := by rw [← sizeTs_append, ← List.map_append, List.take_append_drop]
          have h2 : sizeTs ((kids.take (j + 1)).map Vt.tr) = sizeTs ((kids.take j).map Vt.tr) + sizeT kids[j].tr := by
            rw [List.take_succ_eq_append_getElem hlt, List.map_append, sizeTs_append]; simp [sizeTs]
          omega
        have hLz : L.length + (leavesT kids[j].tr).length ≤ 1099511627776 := by
          have h1 := leaves_le kids[j].tr
          have h2 : L.length ≤ sizeTs ((kids.take j).map Vt.tr) := by
            have := leaves_le (.mk 4 0 ((kids.take j).map Vt.tr) 0 0)
            simp only [leavesT, sizeT] at this
            rw [if_neg (by decide)] at this
            rw [hLL]
            have hh : ∀ l : List Tr, (leavesTs l).length ≤ sizeTs l := fun l => by
              induction l with
              | nil => simp [leavesTs]
              | cons a l ih => have := leaves_le a; simp [leavesTs, sizeTs]; omega
            exact hh _
          omega
        have i1 := HI.out j hlt _ ((LA.out j hlt).kept hB) (by omega)
        have HT := Lib.hid hst
        clear hst c3 hLL hz1
        generalize kids[j] = V at *
        obtain ⟨k1, s1, a1, cp1, ks1, lo1, hi1⟩ := V
        obtain ⟨x0, x1, x2, x3, x4, x5, x6, x7⟩ := cells8 e1
        change Calls _ _ #[.agg (nodeC k1 s1 a1 ks1.length cp1 lo1 hi1).toArray] wr _ at i1
        generalize leavesT (Vt.mk k1 s1 a1 cp1 ks1 lo1 hi1).tr = M at *
        have I1 := Lib.hid i1
        clear e1 i1
        go_wp2_with (first | (go_at_call 31; go_must (refine I1.out.mono ?_; intro e w1 h1; obtain ⟨a2, cap2, rfl, hown2, hb⟩ := h1.open; clear h1; have hown3 := hown.kept hb; have hB2 := hB.trans (hb.mono hB.size); have hx1 := hx0.kept hb)) | (at_builtin; go_must (refine wpList_appendO rfl _ _ 22 rfl elem_set6 encS_ok rfl hown3 a2 cap2 rfl hown2 ?_ ?_ ?_ ?_)))
        · simp [maxLen]; omega
        · omega
        · have := hb.size; omega
        intro a3 cap3 w3 hown4 hgr
        have hgb : Below (w.heap.size + 1) w1 w3 := below_grown (Below.refl _ _) hown3 hgr (Nat.le_refl _) (by have := hb.size; omega)
        have hB3 := hB2.trans (hgb.mono (by omega))
        have hx3 := hx1.below hgb (by omega)
        have hMP := Lib.hid (show L ++ M = leavesTs ((kids.take (j + 1)).map Vt.tr) by rw [HT.out, HLL.out])
        clear hgr hown3 hown2
        go_wp2
        go_roundw
        case rel => exact ⟨j + 1, L ++ M, a3, cap3, hlt, by go_num, by simp, hMP.out, by simpa using hown4, hx3, hB3⟩
        case measure => simp [intOf]; omega
      · obtain rfl : j = kids.length := by omega
        rw [List.take_length] at hLL
        subst hLL
        go_wp2
        go_ret
        exact ⟨a', cap', rfl, hown.mono (by omega), hB⟩
end Go.Proofs.Ytinlfbacfmmfpaa
