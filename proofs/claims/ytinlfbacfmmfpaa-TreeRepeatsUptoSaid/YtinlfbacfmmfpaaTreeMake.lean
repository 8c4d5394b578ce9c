/- Trees that the program makes. -/
import Derived.Test.YtinlfbacfmmfpaaProg
import Derived.Test.YtinlfbacfmmfpaaTreeOwn
import Derived.Test.YtinlfbacfmmfpaaSets
import Derived.Test.YtinlfbacfmmfpaaBase2
namespace Go.Proofs.Ytinlfbacfmmfpaa
open Go.RowKit

abbrev zeroNode : Value := .agg #[.int .i64 0, .int .u64 0, .int .u64 0, .int .u64 0, .int .u64 0, .slice none 0 0, .int .i64 0, .int .i64 0]
abbrev zeroC : Array Value := #[.int .i64 0, .int .u64 0, .int .u64 0, .int .u64 0, .int .u64 0, .slice none 0 0, .int .i64 0, .int .i64 0]
theorem elem_node : ElemOK Try.prog 35 37 zeroNode 8 80 :=
  ⟨Try.underlying35, info_parts (by kernel_rfl), rfl, by decide⟩
theorem slice_nil (w : World) : SliceR w (.slice none 0 0) 8 Vt.cells ([] : List Vt) := ⟨none, 0, 0, 0, rfl, Nat.le_refl _, by simp [maxLen], .inr ⟨rfl, fun _ => rfl⟩, fun i h => by simp at h⟩
theorem lies_leaf (w : World) (k : Int) (s : BSet) (hk : I64 k) : Lies w (.mk k s none 0 [] 0 0) := .mk k s none 0 [] 0 0 hk (by decide) (by decide) (slice_nil w) (fun i h => by simp at h)
theorem on_leaf (S : Nat → Prop) (k : Int) (s : BSet) : On S (.mk k s none 0 [] 0 0) := .mk k s none 0 [] 0 0 (fun h => by simp at h) (fun i h => by simp at h)
abbrev leafT (k : Int) (s : BSet) : Tr := .mk k s [] 0 0
theorem leaf_tr (k : Int) (s : BSet) : (Vt.mk k s none 0 [] 0 0).tr = leafT k s := by rw [Vt.tr_mk]; rfl
theorem ret_leaf {w w' : World} (k : Int) (s : BSet) (hk : I64 k) (hb : Below w.heap.size w w') : RetT w (leafT k s) (.returned (.agg (nodeC k s none 0 0 0 0).toArray)) w' :=
  ⟨.mk k s none 0 [] 0 0, rfl, leaf_tr k s, lies_leaf w' k s hk, on_leaf _ k s, hb⟩
theorem tree_Bytes (s : BSet) (w : World) : Calls Try.prog 38 #[setV s] w (RetT w (leafT 3 s)) := by
  go_enter Try.func38, Try.ntmps38
  go_wp2
  exact ret_box Try.results38 rfl (cs := (nodeC 3 s none 0 0 0 0).toArray) (Box.new' (World.size_alloc _ _).symm _ _) Try.underlying37 rfl (by kernel_rfl) rfl (ret_leaf 3 s (by decide) (by go_grown))
theorem tree_None' (w : World) : Calls Try.prog 39 #[] w (Ret w (.agg (nodeC 1 0 none 0 0 0 0).toArray)) := by
  have hz : nodeC 1 0 none 0 0 0 0 = [.int .i64 1, .int .u64 0, .int .u64 0, .int .u64 0, .int .u64 0, .slice none 0 0, .int .i64 0, .int .i64 0] := by simp only [nodeC, word_zero]; rfl
  go_enter Try.func39, Try.ntmps39
  go_wp2
  exact ret_box Try.results39 rfl (cs := (nodeC 1 0 none 0 0 0 0).toArray) (by rw [hz]; exact Box.new' rfl _ _) Try.underlying37 rfl (by kernel_rfl) rfl ⟨rfl, by go_grown⟩
theorem tree_None (w : World) : Calls Try.prog 39 #[] w (RetT w (leafT 1 0)) := (tree_None' w).mono fun e w' h => by
  obtain ⟨rfl, hb⟩ := h
  exact ret_leaf 1 0 (by decide) hb
theorem tree_Empty' (w : World) : Calls Try.prog 55 #[] w (Ret w (.agg (nodeC 2 0 none 0 0 0 0).toArray)) := by
  have hz : nodeC 2 0 none 0 0 0 0 = [.int .i64 2, .int .u64 0, .int .u64 0, .int .u64 0, .int .u64 0, .slice none 0 0, .int .i64 0, .int .i64 0] := by simp only [nodeC, word_zero]; rfl
  go_enter Try.func55, Try.ntmps55
  go_wp2
  exact ret_box Try.results55 rfl (cs := (nodeC 2 0 none 0 0 0 0).toArray) (by rw [hz]; exact Box.new' rfl _ _) Try.underlying37 rfl (by kernel_rfl) rfl ⟨rfl, by go_grown⟩
theorem tree_Empty (w : World) : Calls Try.prog 55 #[] w (RetT w (leafT 2 0)) := (tree_Empty' w).mono fun e w' h => by
  obtain ⟨rfl, hb⟩ := h
  exact ret_leaf 2 0 (by decide) hb
def CopiesRel (l : List Vt) (w wr : World) (v i : Value) : Prop :=
  ∃ (j : Nat) (vs : List Vt) (a' : Option Addr) (cap' : Nat), j ≤ l.length ∧ i = .int .i64 j ∧ v = .slice a' vs.length cap' ∧ vs.length = j ∧ vs.map Vt.tr = (l.take j).map Vt.tr ∧ OwnT wr w.heap.size 37 (.slice a' vs.length cap') vs ∧
    (∀ i (h : i < vs.length), On (fun b => w.heap.size ≤ b) vs[i]) ∧ Below w.heap.size w wr
set_option maxRecDepth 20000 in
set_option maxHeartbeats 1600000 in
theorem copies6 (l : List Vt) (a : Option Addr) (cap : Nat) (w : World) (sA : SliceR w (.slice a l.length cap) 8 Vt.cells l) (lA : ∀ i (h : i < l.length), Lies w l[i]) (hsz : l.length ≤ 1099511627776)
    (ih : ∀ i (h : i < l.length) (w : World), Lies w l[i] → Calls Try.prog 29 #[.agg l[i].cells.toArray] w (RetT w l[i].tr)) :
    Calls Try.prog 63 #[.slice a l.length cap] w (RetTs w 37 (l.map Vt.tr)) := by
  obtain ⟨b, o, c1, c2, c3, c4, c5⟩ := sA.kids
  clear sA c4
  have HC := Lib.hid c5; have HI := Lib.hid ih; have LA := Lib.hid lA
  clear c5 ih lA
  go_enter Try.func63, Try.ntmps63
  go_wp2
  go_loopw [3, 8] (fun v i wr => CopiesRel l w wr v i) (fun _ i _ => l.length - (intOf i).toNat)
  case atStart => exact ⟨0, [], none, 0, Nat.zero_le _, rfl, rfl, rfl, rfl, OwnT.nil _ _ _, fun i h => by simp at h, by go_grown⟩
  case round =>
    obtain ⟨j, vs, a', cap', hj, rfl, rfl, hvl, hvs, hown, hon, hB⟩ := hrel
    have HV := Lib.hid hvs; have HO := Lib.hid hon; have HL := Lib.hid hvl
    by_cases hlt : j < l.length
    · obtain rfl := c3 j hlt
      have e1 := HC.out j hlt wr hB
      have hB1 := hB.alloc hB.size (.cells l[j].cells.toArray 37)
      have i1 := HI.out j hlt _ ((LA.out j hlt).kept hB1)
      have e3 : (l.take (j + 1)).map Vt.tr = (l.take j).map Vt.tr ++ [l[j].tr] := by rw [List.take_succ_eq_append_getElem hlt, List.map_append]; rfl
      have HE := Lib.hid e3
      clear e3 c3
      generalize l[j] = V at *
      obtain ⟨k1, s1, a1, cp1, ks1, lo1, hi1⟩ := V
      obtain ⟨x0, x1, x2, x3, x4, x5, x6, x7⟩ := cells8 e1
      change Below w.heap.size w (wr.alloc (.cells (nodeC k1 s1 a1 ks1.length cp1 lo1 hi1).toArray 37)) at hB1
      have hown1 := hown.kept ((Below.refl _ wr).alloc (Nat.le_refl _) (.cells (nodeC k1 s1 a1 ks1.length cp1 lo1 hi1).toArray 37))
      have I1 := Lib.hid i1
      clear e1 hvs hon hvl i1
      go_wp2_with (first | (go_at_call 29; go_must (refine I1.out.mono ?_; intro e w1 h1; obtain ⟨k2, s2, a2, cp2, ks2, lo2, hi2, rfl, hT, hL, hO, hb⟩ := h1.open; have HT := Lib.hid hT; clear h1 hT; have hown2 := hown1.kept hb)) | (at_builtin; go_must (refine wpList_append1b rfl _ _ 35 rfl elem_node enc8 rfl (hown2.1.alloc _) ⟨w1.heap.size, 0, none⟩ 1 (Vt.mk k2 s2 a2 cp2 ks2 lo2 hi2) rfl ?_ ?_ ?_ ?_ ?_)))
      · exact new_cells w1 (nodeC k2 s2 a2 ks2.length cp2 lo2 hi2) _
      · have := HL.out; simp [maxLen]; omega
      · have := hj; have := HL.out; omega
      · have h1 := hB1.size; have h2 := hb.size; simp only [World.size_alloc] at h1 h2 ⊢; omega
      intro a3 cap3 w3 hown3 hgr hblk
      have hal := (Below.refl _ w1).alloc (Nat.le_refl _) (.cells (nodeC k2 s2 a2 ks2.length cp2 lo2 hi2).toArray 37)
      have hlt2 : ∀ g, (Value.slice a' vs.length cap').ownBlock = some g → g < wr.heap.size := fun g hg => ((hown.1.toRow enc8).lt g hg).2
      have hT3 := (hown2.kept hal).appended (hL.kept hal) (hO.mono fun b hb1 e => by have := hlt2 b e; simp only [World.size_alloc] at hb1; omega) hown3 hgr (by rw [World.size_alloc]; exact hblk)
      have hB2 : Below w.heap.size w w1 := hB1.trans (hb.mono hB1.size)
      have hB3 := below_grown (hB2.alloc hB2.size (.cells (nodeC k2 s2 a2 ks2.length cp2 lo2 hi2).toArray 37)) (hown2.1.alloc _) hgr (Nat.le_refl _) (by have := hB2.size; simp; omega)
      have hON := Lib.hid fun i (h : i < (vs ++ [Vt.mk k2 s2 a2 cp2 ks2 lo2 hi2]).length) => show On (fun b => w.heap.size ≤ b) (vs ++ [Vt.mk k2 s2 a2 cp2 ks2 lo2 hi2])[i] by
        by_cases hi : i < vs.length
        · rw [List.getElem_append_left hi]; exact HO.out i hi
        · have : i = vs.length := by simp at h; omega
          subst this; simp only [List.getElem_concat_length]; exact hO.mono fun b hb1 => by have := hB1.size; simp only [World.size_alloc] at this hb1; omega
      have hMP := Lib.hid (show (vs ++ [Vt.mk k2 s2 a2 cp2 ks2 lo2 hi2]).map Vt.tr = (l.take (j + 1)).map Vt.tr by rw [HE.out, List.map_append, HV.out, ← HT.out]; rfl)
      clear hlt2 hal hgr hblk
      go_wp2
      go_roundw
      case rel => exact ⟨j + 1, vs ++ [Vt.mk k2 s2 a2 cp2 ks2 lo2 hi2], a3, cap3, hlt, by go_num, by simp, by simp [HL.out], hMP.out, by simpa using hT3, hON.out, hB3⟩
      case measure => simp [intOf]; omega
    · obtain rfl : j = l.length := by omega
      clear hvs hon hvl
      go_wp2
      go_ret
      exact ⟨a', cap', vs, rfl, by rw [HV.out, List.take_length], hown, HO.out, hB⟩
set_option maxRecDepth 20000 in
set_option maxHeartbeats 1600000 in
theorem tree_Copy : ∀ (V : Vt) (w : World), Lies w V → sizeT V.tr ≤ 1099511627776 → Calls Try.prog 29 #[.agg V.cells.toArray] w (RetT w V.tr) := by
  refine Vt.ind fun k s a cap kids lo hi ih w hA hsz => ?_
  obtain ⟨hk, hlo, hhi, sA, lA⟩ := hA.open
  rw [Vt.tr_mk, sizeT] at hsz
  have hl := sizeTs_len (kids.map Vt.tr)
  rw [List.length_map] at hl
  change Calls _ _ #[.agg (nodeC k s a kids.length cap lo hi).toArray] _ _
  have bB : Below w.heap.size w ((w.alloc (.cells (nodeC k s a kids.length cap lo hi).toArray 37)).alloc (.cells zeroC 37)) := by go_grown
  have hC := copies6 kids a cap _ (sA.kept bB) (fun i h => (lA i h).kept bB) (by omega) (fun i h w' hw => ih i h w' hw (by have := sizeTs_get (kids.map Vt.tr) i (by simpa using h); rw [List.getElem_map] at this; omega))
  have x0 := (Box.new w (nodeC k s a kids.length cap lo hi).toArray 37).alloc (.cells zeroC 37)
  have x1 := Box.new' (w := w.alloc (.cells (nodeC k s a kids.length cap lo hi).toArray 37)) (b := w.heap.size + 1) (World.size_alloc _ _).symm zeroC 37
  have HC := Lib.hid hC
  clear hC sA lA hA ih hl
  go_enter Try.func29, Try.ntmps29
  go_wp2_with (go_at_call 63; go_must (refine HC.out.mono ?_; intro e w1 h1; obtain ⟨a2, cap2, vs, rfl, hT, hO, hon, hb⟩ := h1; have HT := Lib.hid hT; have HO := Lib.hid hO; have HN := Lib.hid hon; clear hT hO hon; have y0 := x0.kept hb; have y1 := x1.kept hb; obtain ⟨p0, p1, p2, p3, p4, p5, p6, p7⟩ := y0.node; obtain ⟨q0, q1, q2, q3, q4, q5, q6, q7⟩ := y0.node8f; obtain ⟨r0, r1, r2, r3, r4, r5, r6, r7⟩ := y1.node8f; have z0 := y1.cell 0; have z1 := y1.cell 1; have z2 := y1.cell 2; have z3 := y1.cell 3; have z4 := y1.cell 4; have z5 := y1.cell 5; have z6 := y1.cell 6; have z7 := y1.cell 7))
  have hB1 := bB.trans (hb.mono bB.size)
  have hS : (2 : Nat) + w.heap.size ≤ ((w.alloc (.cells (nodeC k s a kids.length cap lo hi).toArray 37)).alloc (.cells zeroC 37)).heap.size := by simp; omega
  have hAb : Above ((w.alloc (.cells (nodeC k s a kids.length cap lo hi).toArray 37)).alloc (.cells zeroC 37)).heap.size w1 _ := ((Above.refl _ w1).set (a := ⟨w.heap.size, 5, none⟩) (by simp only; omega) (.slice a2 vs.length cap2)).set8 (g := w.heap.size + 1) (by omega) (.int .i64 k) (.int .u64 (word s 0 : Nat)) (.int .u64 (word s 1 : Nat)) (.int .u64 (word s 2 : Nat)) (.int .u64 (word s 3 : Nat)) (.slice a2 vs.length cap2) (.int .i64 lo) (.int .i64 hi)
  obtain ⟨n1, n2⟩ := HO.out.node HN.out (Nat.le_refl _) hAb k s lo hi hk hlo hhi
  exact ret_box Try.results29 rfl (cs := (nodeC k s a2 vs.length cap2 lo hi).toArray) ((y1.other _ _ (by simp)).store8 rfl _ _ _ _ _ _ _ _) Try.underlying37 rfl (by kernel_rfl) rfl ⟨_, rfl, by rw [Vt.tr_mk, Vt.tr_mk, HT.out], n1, n2.mono (fun b hb => by omega), below_set8 (hB1.setCell (by simp) _) (by omega) _ _ _ _ _ _ _ _⟩
def manyT (k : Int) (z : Tr) : List Tr → Tr
  | [] => z
  | [a] => a
  | a :: b :: l => .mk k 0 (a :: b :: l) 0 0
theorem manyT_two {k : Int} {z : Tr} {l : List Tr} (h : 2 ≤ l.length) : manyT k z l = .mk k 0 l 0 0 := by
  match l, h with
  | _ :: _ :: _, _ => rfl
set_option maxRecDepth 20000 in
set_option maxHeartbeats 1600000 in
theorem tree_many (k k0 : Int) (s0 : BSet) (hk : I64 k) (hk0 : I64 k0) (l : List Vt) (a : Option Addr) (cap : Nat) (w : World) (sA : SliceR w (.slice a l.length cap) 8 Vt.cells l) (lA : ∀ i (h : i < l.length), Lies w l[i]) (hsz : sizeTs (l.map Vt.tr) ≤ 1099511627776) :
    Calls Try.prog 57 #[.int .i64 k, .agg (nodeC k0 s0 none 0 0 0 0).toArray, .slice a l.length cap] w (RetT w (manyT k (leafT k0 s0) (l.map Vt.tr))) := by
  have hl := sizeTs_len (l.map Vt.tr)
  rw [List.length_map] at hl
  have hz : nodeC k 0 none 0 0 0 0 = [.int .i64 k, .int .u64 0, .int .u64 0, .int .u64 0, .int .u64 0, .slice none 0 0, .int .i64 0, .int .i64 0] := by simp only [nodeC, word_zero]; rfl
  have HZ := Lib.hid hz
  clear hz
  by_cases h0 : l.length = 0
  · obtain rfl := List.eq_nil_of_length_eq_zero h0
    clear hl sA lA h0
    simp only [List.length_nil]
    go_enter Try.func57, Try.ntmps57
    go_wp2
    exact ret_box Try.results57 rfl (cs := (nodeC k0 s0 none 0 0 0 0).toArray) (Box.new' (World.size_alloc _ _).symm _ _) Try.underlying37 rfl (by kernel_rfl) rfl (ret_leaf k0 s0 hk0 (by go_grown))
  · have bB : Below w.heap.size w ((w.alloc (.cells (nodeC k0 s0 none 0 0 0 0).toArray 37)).alloc (.cells zeroC 37)) := by go_grown
    have x1 := Box.new' (w := w.alloc (.cells (nodeC k0 s0 none 0 0 0 0).toArray 37)) (b := w.heap.size + 1) (World.size_alloc _ _).symm zeroC 37
    have hS : w.heap.size + 2 = ((w.alloc (.cells (nodeC k0 s0 none 0 0 0 0).toArray 37)).alloc (.cells zeroC 37)).heap.size := by simp
    by_cases h1 : l.length = 1
    · obtain ⟨V, rfl⟩ : ∃ V, l = [V] := by
        match l, h1 with
        | [V], _ => exact ⟨V, rfl⟩
      obtain ⟨b, o, c1, c2, c3, c4, c5⟩ := sA.kids
      obtain rfl := c3 0 (by simp)
      have e1 := c5 0 (by simp) _ bB
      have hC := tree_Copy V _ ((lA 0 (by simp)).kept bB) (by simpa [sizeTs] using hsz)
      simp only [List.length_singleton]
      clear sA lA c3 c4 c5 hl h0 h1
      simp only [List.getElem_cons_zero] at e1
      obtain ⟨k1, s1, a1, cp1, ks1, lo1, hi1⟩ := V
      obtain ⟨y0, y1, y2, y3, y4, y5, y6, y7⟩ := cells8 e1
      change Calls _ _ #[.agg (nodeC k1 s1 a1 ks1.length cp1 lo1 hi1).toArray] _ _ at hC
      simp only [Nat.zero_mul, Nat.add_zero] at y0 y1 y2 y3 y4 y5 y6 y7
      have HC := Lib.hid hC
      have HS := Lib.hid hS
      clear hC e1 hS
      go_enter Try.func57, Try.ntmps57
      go_wp2_with (go_at_call 29; go_must (refine HC.out.mono ?_; intro e w1 h1; obtain ⟨k2, s2, a2, cp2, ks2, lo2, hi2, rfl, hT, hL, hO, hb⟩ := h1.open; have HT := Lib.hid hT; clear h1 hT; have z := x1.kept hb; obtain ⟨r0, r1, r2, r3, r4, r5, r6, r7⟩ := z.node8f; have z0 := z.cell 0; have z1 := z.cell 1; have z2 := z.cell 2; have z3 := z.cell 3; have z4 := z.cell 4; have z5 := z.cell 5; have z6 := z.cell 6; have z7 := z.cell 7))
      have hB1 := bB.trans (hb.mono bB.size)
      have hS := HS.out
      have hAb := (Above.refl (w.heap.size + 2) w1).set8 (g := w.heap.size + 1) (by omega) (.int .i64 k2) (.int .u64 (word s2 0 : Nat)) (.int .u64 (word s2 1 : Nat)) (.int .u64 (word s2 2 : Nat)) (.int .u64 (word s2 3 : Nat)) (.slice a2 ks2.length cp2) (.int .i64 lo2) (.int .i64 hi2)
      refine ret_box Try.results57 rfl (cs := (nodeC k2 s2 a2 ks2.length cp2 lo2 hi2).toArray) (z.store8 rfl _ _ _ _ _ _ _ _) Try.underlying37 rfl (by kernel_rfl) rfl ⟨_, rfl, by rw [HT.out]; rfl, hL.above (hO.mono fun b hb => by omega) hAb, hO.mono fun b hb => by omega, below_set8 hB1 (by omega) _ _ _ _ _ _ _ _⟩
    · have hC := copies6 l a cap _ (sA.kept bB) (fun i h => (lA i h).kept bB) (by omega) (fun i h w' hw => tree_Copy l[i] w' hw (by have := sizeTs_get (l.map Vt.tr) i (by simpa using h); rw [List.getElem_map] at this; omega))
      have g0 : (((l.length : Nat) : Int) == 0) = false := by rw [beq_eq_false_iff_ne]; omega
      have g1 : (((l.length : Nat) : Int) == 1) = false := by rw [beq_eq_false_iff_ne]; omega
      rw [manyT_two (by simp; omega)]
      have HC := Lib.hid hC
      have HS := Lib.hid hS
      clear hC hS sA lA hl h0 h1
      go_enter Try.func57, Try.ntmps57
      go_wp2_with (go_at_call 63; go_must (refine HC.out.mono ?_; intro e w1 h1; obtain ⟨a2, cap2, vs, rfl, hT, hO, hon, hb⟩ := h1; have HT := Lib.hid hT; have HO := Lib.hid hO; have HN := Lib.hid hon; clear hT hO hon; have z := x1.kept hb; obtain ⟨r0, r1, r2, r3, r4, r5, r6, r7⟩ := z.node8f; have z0 := z.cell 0; have z1 := z.cell 1; have z2 := z.cell 2; have z3 := z.cell 3; have z4 := z.cell 4; have z5 := z.cell 5; have z6 := z.cell 6; have z7 := z.cell 7))
      have hB1 := bB.trans (hb.mono bB.size)
      have hS := HS.out
      have hAb := (Above.refl (w.heap.size + 2) w1).set8 (g := w.heap.size + 1) (by omega) (.int .i64 k) (.int .u64 0) (.int .u64 0) (.int .u64 0) (.int .u64 0) (.slice a2 vs.length cap2) (.int .i64 0) (.int .i64 0)
      obtain ⟨n1, n2⟩ := HO.out.node (fun i h => (HN.out i h).mono fun b hb => show w.heap.size + 2 ≤ b by omega) (by omega) hAb k 0 0 0 hk (by decide) (by decide)
      have hz : nodeC k 0 a2 vs.length cap2 0 0 = [.int .i64 k, .int .u64 0, .int .u64 0, .int .u64 0, .int .u64 0, .slice a2 vs.length cap2, .int .i64 0, .int .i64 0] := by simp only [nodeC, word_zero]; rfl
      refine ret_box Try.results57 rfl (cs := (nodeC k 0 a2 vs.length cap2 0 0).toArray) (by rw [hz]; exact z.store8 rfl _ _ _ _ _ _ _ _) Try.underlying37 rfl (by kernel_rfl) rfl ⟨_, rfl, by rw [Vt.tr_mk, HT.out], n1, n2.mono fun b hb => by omega, below_set8 hB1 (by omega) _ _ _ _ _ _ _ _⟩
set_option maxRecDepth 20000 in
set_option maxHeartbeats 800000 in
theorem tree_Cat (l : List Vt) (a : Option Addr) (cap : Nat) (w : World) (sA : SliceR w (.slice a l.length cap) 8 Vt.cells l) (lA : ∀ i (h : i < l.length), Lies w l[i]) (hsz : sizeTs (l.map Vt.tr) ≤ 1099511627776) :
    Calls Try.prog 20 #[.slice a l.length cap] w (RetT w (manyT 4 (leafT 2 0) (l.map Vt.tr))) := by
  have x0 := Box.new w zeroC 37
  have hM : ∀ w', Below w.heap.size w w' → Calls Try.prog 57 #[.int .i64 4, .agg (nodeC 2 0 none 0 0 0 0).toArray, .slice a l.length cap] w' (RetT w' (manyT 4 (leafT 2 0) (l.map Vt.tr))) := fun w' hb => tree_many 4 2 0 (by decide) (by decide) l a cap w' (sA.kept hb) (fun i h => (lA i h).kept hb) hsz
  have HM := Lib.hid hM
  clear hM sA lA hsz
  go_enter Try.func20, Try.ntmps20
  go_wp2_with (first | (go_at_call 55; go_must (refine (tree_Empty' _).mono ?_; rintro e w1 ⟨rfl, hb1⟩; have hB1 := ((Below.refl w.heap.size w).alloc (Nat.le_refl _) (.cells zeroC 37)).trans (hb1.mono (by simp)))) | (go_at_call 57; go_must (refine (HM.out _ hB1).mono ?_; intro e w2 h1; obtain ⟨k2, s2, a2, cp2, ks2, lo2, hi2, rfl, hT, hL, hO, hb⟩ := h1.open; have HT := Lib.hid hT; clear h1 hT; have z := (x0.kept hb1).kept hb; obtain ⟨r0, r1, r2, r3, r4, r5, r6, r7⟩ := z.node8f; have z0 := z.cell 0; have z1 := z.cell 1; have z2 := z.cell 2; have z3 := z.cell 3; have z4 := z.cell 4; have z5 := z.cell 5; have z6 := z.cell 6; have z7 := z.cell 7)))
  have hlt : w.heap.size < w1.heap.size := by have := hb1.size; simp only [World.size_alloc] at this; omega
  have hAb := (Above.refl w1.heap.size w2).set8 (g := w.heap.size) hlt (.int .i64 k2) (.int .u64 (word s2 0 : Nat)) (.int .u64 (word s2 1 : Nat)) (.int .u64 (word s2 2 : Nat)) (.int .u64 (word s2 3 : Nat)) (.slice a2 ks2.length cp2) (.int .i64 lo2) (.int .i64 hi2)
  exact ret_box Try.results20 rfl (cs := (nodeC k2 s2 a2 ks2.length cp2 lo2 hi2).toArray) (z.store8 rfl _ _ _ _ _ _ _ _) Try.underlying37 rfl (by kernel_rfl) rfl ⟨_, rfl, by rw [HT.out], hL.above hO hAb, hO.mono fun b hb => by omega, below_set8 (hB1.trans (hb.mono hB1.size)) (Nat.le_refl _) _ _ _ _ _ _ _ _⟩
set_option maxRecDepth 20000 in
set_option maxHeartbeats 800000 in
theorem tree_Alt (l : List Vt) (a : Option Addr) (cap : Nat) (w : World) (sA : SliceR w (.slice a l.length cap) 8 Vt.cells l) (lA : ∀ i (h : i < l.length), Lies w l[i]) (hsz : sizeTs (l.map Vt.tr) ≤ 1099511627776) :
    Calls Try.prog 22 #[.slice a l.length cap] w (RetT w (manyT 5 (leafT 1 0) (l.map Vt.tr))) := by
  have x0 := Box.new w zeroC 37
  have hM : ∀ w', Below w.heap.size w w' → Calls Try.prog 57 #[.int .i64 5, .agg (nodeC 1 0 none 0 0 0 0).toArray, .slice a l.length cap] w' (RetT w' (manyT 5 (leafT 1 0) (l.map Vt.tr))) := fun w' hb => tree_many 5 1 0 (by decide) (by decide) l a cap w' (sA.kept hb) (fun i h => (lA i h).kept hb) hsz
  have HM := Lib.hid hM
  clear hM sA lA hsz
  go_enter Try.func22, Try.ntmps22
  go_wp2_with (first | (go_at_call 39; go_must (refine (tree_None' _).mono ?_; rintro e w1 ⟨rfl, hb1⟩; have hB1 := ((Below.refl w.heap.size w).alloc (Nat.le_refl _) (.cells zeroC 37)).trans (hb1.mono (by simp)))) | (go_at_call 57; go_must (refine (HM.out _ hB1).mono ?_; intro e w2 h1; obtain ⟨k2, s2, a2, cp2, ks2, lo2, hi2, rfl, hT, hL, hO, hb⟩ := h1.open; have HT := Lib.hid hT; clear h1 hT; have z := (x0.kept hb1).kept hb; obtain ⟨r0, r1, r2, r3, r4, r5, r6, r7⟩ := z.node8f; have z0 := z.cell 0; have z1 := z.cell 1; have z2 := z.cell 2; have z3 := z.cell 3; have z4 := z.cell 4; have z5 := z.cell 5; have z6 := z.cell 6; have z7 := z.cell 7)))
  have hlt : w.heap.size < w1.heap.size := by have := hb1.size; simp only [World.size_alloc] at this; omega
  have hAb := (Above.refl w1.heap.size w2).set8 (g := w.heap.size) hlt (.int .i64 k2) (.int .u64 (word s2 0 : Nat)) (.int .u64 (word s2 1 : Nat)) (.int .u64 (word s2 2 : Nat)) (.int .u64 (word s2 3 : Nat)) (.slice a2 ks2.length cp2) (.int .i64 lo2) (.int .i64 hi2)
  exact ret_box Try.results22 rfl (cs := (nodeC k2 s2 a2 ks2.length cp2 lo2 hi2).toArray) (z.store8 rfl _ _ _ _ _ _ _ _) Try.underlying37 rfl (by kernel_rfl) rfl ⟨_, rfl, by rw [HT.out], hL.above hO hAb, hO.mono fun b hb => by omega, below_set8 (hB1.trans (hb.mono hB1.size)) (Nat.le_refl _) _ _ _ _ _ _ _ _⟩
abbrev byteT (x : Nat) : Tr := leafT 3 (ofL [x])
theorem sizeTs_leaves (xs : List Nat) : sizeTs (xs.map byteT) = xs.length := by
  induction xs with
  | nil => rfl
  | cons x xs ih => simp only [List.map_cons, sizeTs, ih, sizeT, List.length_cons]; omega
def WordRel (xs : List Nat) (w wr : World) (v i : Value) : Prop :=
  ∃ (j : Nat) (vs : List Vt) (a' : Option Addr) (cap' : Nat), j ≤ xs.length ∧ i = .int .i64 j ∧ v = .slice a' vs.length cap' ∧ vs.length = j ∧ vs.map Vt.tr = (xs.take j).map byteT ∧ OwnT wr (w.heap.size + 1) 37 (.slice a' vs.length cap') vs ∧
    Box wr w.heap.size zeroC 37 ∧ Below w.heap.size w wr
theorem one_byte (w : World) (x E : Nat) : SliceR (w.alloc (.cells #[.int .u8 x] E)) (.slice (some ⟨w.heap.size, 0, none⟩) 1 1) 1 encB [x] := by
  refine ⟨_, w.heap.size, 0, 1, rfl, Nat.le_refl _, by simp [maxLen], .inl rfl, fun i hi j u hu => ?_⟩
  obtain rfl : i = 0 := by simp at hi; omega
  obtain rfl : j = 0 := by have := (List.getElem?_eq_some_iff.1 hu).1; simp at this; omega
  rw [(Box.new w #[.int .u8 x] E).cell]; simpa using hu
set_option maxRecDepth 20000 in
set_option maxHeartbeats 1600000 in
theorem tree_Word (xs : List Nat) (a : Option Addr) (cap : Nat) (w : World) (h : SliceR w (.slice a xs.length cap) 1 encB xs) (hx : ∀ x ∈ xs, x < 256) (hsz : xs.length ≤ 1099511627776) :
    Calls Try.prog 24 #[.slice a xs.length cap] w (RetT w (manyT 4 (leafT 2 0) (xs.map byteT))) := by
  obtain ⟨b, o, _, c1, c2, c3, _, c5⟩ := h.bytes
  have HC := Lib.hid c5; have HX := Lib.hid hx
  clear h c5 hx
  go_enter Try.func24, Try.ntmps24
  go_wp2
  go_loopw [3, 8] (fun v i wr => WordRel xs w wr v i) (fun _ i _ => xs.length - (intOf i).toNat)
  case atStart => exact ⟨0, [], none, 0, Nat.zero_le _, rfl, rfl, rfl, rfl, OwnT.nil _ _ _, Box.new w _ _, by go_grown⟩
  case round =>
    obtain ⟨j, vs, a', cap', hj, rfl, rfl, hvl, hvs, hown, hx0, hB⟩ := hrel
    have HV := Lib.hid hvs; have HL := Lib.hid hvl
    have hw0 := hx0.lt
    by_cases hlt : j < xs.length
    · obtain rfl := c3 j hlt
      have e1 := HC.out j hlt wr hB
      have e2 := HX.out xs[j] (List.getElem_mem hlt)
      have e3 : (xs.take (j + 1)).map byteT = (xs.take j).map byteT ++ [byteT xs[j]] := by rw [List.take_succ_eq_append_getElem hlt, List.map_append]; rfl
      have HE := Lib.hid e3
      clear e3 c3
      generalize xs[j] = x at *
      have hB1 := hB.alloc hB.size (.cells #[.int .u8 x] 5)
      have hown1 := hown.kept ((Below.refl _ wr).alloc (Nat.le_refl _) (.cells #[.int .u8 x] 5))
      have i1 := sets_Of (some ⟨wr.heap.size, 0, none⟩) 1 [x] _ (one_byte wr x 5) (by simpa using e2)
      simp only [List.length_singleton] at i1
      have I1 := Lib.hid i1
      clear hvs hvl i1
      go_wp2_with (first | (go_at_call 59; go_must (refine I1.out.mono ?_; rintro e w1 ⟨rfl, hb1⟩; have hB2 := hB1.trans (hb1.mono hB1.size); have hown2 := hown1.kept hb1)) | (go_at_call 38; go_must (refine (tree_Bytes (ofL [x]) _).mono ?_; intro e w2 h1; obtain ⟨k2, s2, a2, cp2, ks2, lo2, hi2, rfl, hT, hL, hO, hb⟩ := h1.open; have HT := Lib.hid hT; clear h1 hT; have hown3 := hown2.kept hb)) | (at_builtin; go_must (refine wpList_append1b rfl _ _ 35 rfl elem_node enc8 rfl (hown3.1.alloc _) ⟨w2.heap.size, 0, none⟩ 1 (Vt.mk k2 s2 a2 cp2 ks2 lo2 hi2) rfl ?_ ?_ ?_ ?_ ?_)))
      · exact new_cells w2 (nodeC k2 s2 a2 ks2.length cp2 lo2 hi2) _
      · have := HL.out; simp [maxLen]; omega
      · have := hj; have := HL.out; omega
      · have h1 := hB2.size; have h2 := hb.size; have h3 := hb1.size; simp only [World.size_alloc] at h1 h2 h3 ⊢; omega
      intro a3 cap3 w3 hown4 hgr hblk
      have hal := (Below.refl _ w2).alloc (Nat.le_refl _) (.cells (nodeC k2 s2 a2 ks2.length cp2 lo2 hi2).toArray 37)
      have hlt2 : ∀ g, (Value.slice a' vs.length cap').ownBlock = some g → g < w1.heap.size := fun g hg => ((hown2.1.toRow enc8).lt g hg).2
      have hT3 := (hown3.kept hal).appended (hL.kept hal) (hO.mono fun b hb1 e => by have := hlt2 b e; omega) hown4 hgr (by rw [World.size_alloc]; exact hblk)
      have hB3 : Below w.heap.size w w2 := hB2.trans (hb.mono hB2.size)
      have hsz1 : wr.heap.size + 1 ≤ w1.heap.size := by have := hb1.size; simpa using this
      have hsz2 : w1.heap.size ≤ w2.heap.size := hb.size
      have hgb : Below (w.heap.size + 1) (w2.alloc (.cells (nodeC k2 s2 a2 ks2.length cp2 lo2 hi2).toArray 37)) w3 := below_grown (Below.refl _ _) (hown3.1.alloc _) hgr (Nat.le_refl _) (by simp only [World.size_alloc]; omega)
      have hB4 : Below w.heap.size w w3 := (hB3.alloc hB3.size _).trans (hgb.mono (by omega))
      have hx3 : Box w3 w.heap.size zeroC 37 := ((((hx0.alloc _).kept hb1).kept hb).alloc _).below hgb (by omega)
      have hMP := Lib.hid (show (vs ++ [Vt.mk k2 s2 a2 cp2 ks2 lo2 hi2]).map Vt.tr = (xs.take (j + 1)).map byteT by rw [HE.out, List.map_append, HV.out, List.map_singleton, HT.out])
      clear hlt2 hal hgr hblk
      go_wp2
      go_roundw
      case rel => exact ⟨j + 1, vs ++ [Vt.mk k2 s2 a2 cp2 ks2 lo2 hi2], a3, cap3, hlt, by go_num, by simp, by simp [HL.out], hMP.out, by simpa using hT3, hx3, hB4⟩
      case measure => simp [intOf]; omega
    · obtain rfl : j = xs.length := by omega
      have hM : vs.map Vt.tr = xs.map byteT := by rw [HV.out, List.take_length]
      have hC := tree_Cat vs a' cap' wr hown.slice hown.2.1 (by rw [hM, sizeTs_leaves]; exact hsz)
      rw [hM] at hC
      have HC2 := Lib.hid hC
      clear hvs hvl hM hC
      go_wp2_with (go_at_call 20; go_must (refine HC2.out.mono ?_; intro e w2 h1; obtain ⟨k2, s2, a2, cp2, ks2, lo2, hi2, rfl, hT, hL, hO, hb⟩ := h1.open; have HT := Lib.hid hT; clear h1 hT; have z := hx0.kept hb; obtain ⟨r0, r1, r2, r3, r4, r5, r6, r7⟩ := z.node8f; have z0 := z.cell 0; have z1 := z.cell 1; have z2 := z.cell 2; have z3 := z.cell 3; have z4 := z.cell 4; have z5 := z.cell 5; have z6 := z.cell 6; have z7 := z.cell 7))
      have hAb := (Above.refl wr.heap.size w2).set8 (g := w.heap.size) hw0 (.int .i64 k2) (.int .u64 (word s2 0 : Nat)) (.int .u64 (word s2 1 : Nat)) (.int .u64 (word s2 2 : Nat)) (.int .u64 (word s2 3 : Nat)) (.slice a2 ks2.length cp2) (.int .i64 lo2) (.int .i64 hi2)
      exact ret_box Try.results24 rfl (cs := (nodeC k2 s2 a2 ks2.length cp2 lo2 hi2).toArray) (z.store8 rfl _ _ _ _ _ _ _ _) Try.underlying37 rfl (by kernel_rfl) rfl ⟨_, rfl, by rw [HT.out], hL.above hO hAb, hO.mono fun b hb => by omega, below_set8 (hB.trans (hb.mono hB.size)) (Nat.le_refl _) _ _ _ _ _ _ _ _⟩
end Go.Proofs.Ytinlfbacfmmfpaa
