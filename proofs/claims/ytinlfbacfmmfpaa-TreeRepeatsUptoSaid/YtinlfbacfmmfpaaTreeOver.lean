/- Trees over one kid: the program's, and the document's. -/
import Derived.Test.YtinlfbacfmmfpaaRefMake
namespace Go.Proofs.Ytinlfbacfmmfpaa
open Go.RowKit

theorem one_node {w : World} {b : Nat} (hb : b = w.heap.size) (V : Vt) (E : Nat) : SliceR (w.alloc (.cells V.cells.toArray E)) (.slice (some ⟨b, 0, none⟩) 1 1) 8 Vt.cells [V] := by
  subst hb
  refine ⟨_, w.heap.size, 0, 1, rfl, Nat.le_refl _, by simp [maxLen], .inl rfl, fun i hi j u hu => ?_⟩
  obtain rfl : i = 0 := by simp at hi; omega
  rw [(Box.new w V.cells.toArray E).cell, Nat.zero_mul, Nat.zero_add]; simpa using hu
theorem tr_inv2 {k : Int} {s : BSet} {a : Option Addr} {cap : Nat} {kids : List Vt} {lo hi : Int} {k' : Int} {s' : BSet} {l' : List Tr} {lo' hi' : Int} (h : (Vt.mk k s a cap kids lo hi).tr = .mk k' s' l' lo' hi') : k = k' ∧ s = s' ∧ kids.map Vt.tr = l' ∧ lo = lo' ∧ hi = hi' := by
  rw [Vt.tr_mk] at h
  cases h
  exact ⟨rfl, rfl, rfl, rfl, rfl⟩
set_option maxRecDepth 20000 in
set_option maxHeartbeats 800000 in
theorem tree_over (k : Int) (hk : I64 k) (V : Vt) (w : World) (hV : Lies w V) (hsz : sizeT V.tr ≤ 1099511627776) : Calls Try.prog 64 #[.int .i64 k, .agg V.cells.toArray] w (RetT w (.mk k 0 [V.tr] 0 0)) := by
  have hB : Below w.heap.size w ((w.alloc (.cells V.cells.toArray 37)).alloc (.cells zeroC 37)) := by go_grown
  have hC := tree_Copy V _ (hV.kept hB) hsz
  generalize hTr : V.tr = T at *
  have x1 := Box.new' (w := w.alloc (.cells V.cells.toArray 37)) (b := w.heap.size + 1) (World.size_alloc _ _).symm zeroC 37
  obtain ⟨k1, s1, a1, cap1, kids1, lo1, hi1⟩ := V
  change Calls _ _ #[.agg (nodeC k1 s1 a1 kids1.length cap1 lo1 hi1).toArray] ((w.alloc (.cells (nodeC k1 s1 a1 kids1.length cap1 lo1 hi1).toArray 37)).alloc (.cells zeroC 37)) (RetT ((w.alloc (.cells (nodeC k1 s1 a1 kids1.length cap1 lo1 hi1).toArray 37)).alloc (.cells zeroC 37)) T) at hC
  change Below w.heap.size w ((w.alloc (.cells (nodeC k1 s1 a1 kids1.length cap1 lo1 hi1).toArray 37)).alloc (.cells zeroC 37)) at hB
  change Calls _ _ #[.int .i64 k, .agg (nodeC k1 s1 a1 kids1.length cap1 lo1 hi1).toArray] _ _
  have HC := Lib.hid hC
  have hsB : ((w.alloc (.cells (nodeC k1 s1 a1 kids1.length cap1 lo1 hi1).toArray 37)).alloc (.cells zeroC 37)).heap.size = w.heap.size + 2 := by simp
  have HS := Lib.hid hsB
  clear hC hV hTr hsB
  go_enter Try.func64, Try.ntmps64
  go_wp2_with (go_at_call 29; go_must (refine HC.out.mono ?_; intro e w1 h1; obtain ⟨k2, s2, a2, cp2, ks2, lo2, hi2, rfl, hT, hL, hO, hb⟩ := h1.open; have HT := Lib.hid hT; clear h1 hT; have z := (x1.kept hb).alloc (.cells (nodeC k2 s2 a2 ks2.length cp2 lo2 hi2).toArray 37); obtain ⟨r0, r1, r2, r3, r4, r5, r6, r7⟩ := z.node8f; have z0 := z.cell 0; have z1 := z.cell 1; have z2 := z.cell 2; have z3 := z.cell 3; have z4 := z.cell 4; have z5 := z.cell 5; have z6 := z.cell 6; have z7 := z.cell 7))
  have hsB := HS.out
  have hB1 := hB.trans (hb.mono hB.size)
  have hB2 := hB1.alloc hB1.size (.cells (nodeC k2 s2 a2 ks2.length cp2 lo2 hi2).toArray 37)
  have hw1 : w.heap.size + 2 ≤ w1.heap.size := by have := hb.size; omega
  have hal := (Below.refl _ w1).alloc (Nat.le_refl _) (.cells (nodeC k2 s2 a2 ks2.length cp2 lo2 hi2).toArray 37)
  have hN : Lies (w1.alloc (.cells (nodeC k2 s2 a2 ks2.length cp2 lo2 hi2).toArray 37)) (Vt.mk k 0 (some ⟨w1.heap.size, 0, none⟩) 1 [Vt.mk k2 s2 a2 cp2 ks2 lo2 hi2] 0 0) :=
    .mk k 0 _ 1 _ 0 0 hk (by decide) (by decide) (one_node rfl _ _) fun i hi => by
      obtain rfl : i = 0 := by simp at hi; omega
      exact hL.kept hal
  have hON : On (fun b => w.heap.size + 2 ≤ b) (Vt.mk k 0 (some ⟨w1.heap.size, 0, none⟩) 1 [Vt.mk k2 s2 a2 cp2 ks2 lo2 hi2] 0 0) := .mk _ _ _ _ _ _ _ (fun _ ad ha => by obtain rfl := Option.some.inj ha; exact hw1) fun i hi => by
    obtain rfl : i = 0 := by simp at hi; omega
    exact hO.mono fun b hb => by omega
  have hz : nodeC k 0 (some ⟨w1.heap.size, 0, none⟩) 1 1 0 0 = [.int .i64 k, .int .u64 0, .int .u64 0, .int .u64 0, .int .u64 0, .slice (some ⟨w1.heap.size, 0, none⟩) 1 1, .int .i64 0, .int .i64 0] := by simp only [nodeC, word_zero]; rfl
  exact ret_box Try.results64 rfl (cs := (nodeC k 0 (some ⟨w1.heap.size, 0, none⟩) 1 1 0 0).toArray) (by rw [hz]; exact z.store8 rfl _ _ _ _ _ _ _ _) Try.underlying37 rfl (by kernel_rfl) rfl ⟨_, rfl, by rw [Vt.tr_mk, List.map_singleton, HT.out], hN.set8 (hON.mono fun b hb => by omega) _ _ _ _ _ _ _ _, hON.mono fun b hb => by omega, below_set8 hB2 (by omega) _ _ _ _ _ _ _ _⟩
set_option maxRecDepth 20000 in
set_option maxHeartbeats 800000 in
theorem tree_Star (V : Vt) (w : World) (hV : Lies w V) (hsz : sizeT V.tr ≤ 1099511627776) : Calls Try.prog 32 #[.agg V.cells.toArray] w (RetT w (.mk 6 0 [V.tr] 0 0)) := by
  have hB : Below w.heap.size w ((w.alloc (.cells V.cells.toArray 37)).alloc (.cells zeroC 37)) := by go_grown
  have hC := tree_over 6 (by decide) V _ (hV.kept hB) hsz
  generalize hTr : V.tr = T at *
  have x1 := Box.new' (w := w.alloc (.cells V.cells.toArray 37)) (b := w.heap.size + 1) (World.size_alloc _ _).symm zeroC 37
  obtain ⟨k1, s1, a1, cap1, kids1, lo1, hi1⟩ := V
  change Calls _ _ #[_, .agg (nodeC k1 s1 a1 kids1.length cap1 lo1 hi1).toArray] ((w.alloc (.cells (nodeC k1 s1 a1 kids1.length cap1 lo1 hi1).toArray 37)).alloc (.cells zeroC 37)) (RetT ((w.alloc (.cells (nodeC k1 s1 a1 kids1.length cap1 lo1 hi1).toArray 37)).alloc (.cells zeroC 37)) _) at hC
  change Below w.heap.size w ((w.alloc (.cells (nodeC k1 s1 a1 kids1.length cap1 lo1 hi1).toArray 37)).alloc (.cells zeroC 37)) at hB
  change Calls _ _ #[.agg (nodeC k1 s1 a1 kids1.length cap1 lo1 hi1).toArray] _ _
  have HC := Lib.hid hC
  have hsB : ((w.alloc (.cells (nodeC k1 s1 a1 kids1.length cap1 lo1 hi1).toArray 37)).alloc (.cells zeroC 37)).heap.size = w.heap.size + 2 := by simp
  have HS := Lib.hid hsB
  clear hC hV hTr hsB
  go_enter Try.func32, Try.ntmps32
  go_wp2_with (go_at_call 64; go_must (refine HC.out.mono ?_; intro e w1 h1; obtain ⟨k2, s2, a2, cp2, ks2, lo2, hi2, rfl, hT, hL, hO, hb⟩ := h1.open; have HT := Lib.hid hT; clear h1 hT; have z := x1.kept hb; obtain ⟨r0, r1, r2, r3, r4, r5, r6, r7⟩ := z.node8f; have z0 := z.cell 0; have z1 := z.cell 1; have z2 := z.cell 2; have z3 := z.cell 3; have z4 := z.cell 4; have z5 := z.cell 5; have z6 := z.cell 6; have z7 := z.cell 7))
  have hsB := HS.out
  exact ret_box Try.results32 rfl (cs := (nodeC k2 s2 a2 ks2.length cp2 lo2 hi2).toArray) (z.store8 rfl _ _ _ _ _ _ _ _) Try.underlying37 rfl (by kernel_rfl) rfl ⟨_, rfl, HT.out, hL.set8 (hO.mono fun b hb => by omega) _ _ _ _ _ _ _ _, hO.mono fun b hb => by omega, below_set8 (hB.trans (hb.mono hB.size)) (by omega) _ _ _ _ _ _ _ _⟩
set_option maxRecDepth 20000 in
set_option maxHeartbeats 800000 in
theorem tree_Plus (V : Vt) (w : World) (hV : Lies w V) (hsz : sizeT V.tr ≤ 1099511627776) : Calls Try.prog 34 #[.agg V.cells.toArray] w (RetT w (.mk 7 0 [V.tr] 0 0)) := by
  have hB : Below w.heap.size w ((w.alloc (.cells V.cells.toArray 37)).alloc (.cells zeroC 37)) := by go_grown
  have hC := tree_over 7 (by decide) V _ (hV.kept hB) hsz
  generalize hTr : V.tr = T at *
  have x1 := Box.new' (w := w.alloc (.cells V.cells.toArray 37)) (b := w.heap.size + 1) (World.size_alloc _ _).symm zeroC 37
  obtain ⟨k1, s1, a1, cap1, kids1, lo1, hi1⟩ := V
  change Calls _ _ #[_, .agg (nodeC k1 s1 a1 kids1.length cap1 lo1 hi1).toArray] ((w.alloc (.cells (nodeC k1 s1 a1 kids1.length cap1 lo1 hi1).toArray 37)).alloc (.cells zeroC 37)) (RetT ((w.alloc (.cells (nodeC k1 s1 a1 kids1.length cap1 lo1 hi1).toArray 37)).alloc (.cells zeroC 37)) _) at hC
  change Below w.heap.size w ((w.alloc (.cells (nodeC k1 s1 a1 kids1.length cap1 lo1 hi1).toArray 37)).alloc (.cells zeroC 37)) at hB
  change Calls _ _ #[.agg (nodeC k1 s1 a1 kids1.length cap1 lo1 hi1).toArray] _ _
  have HC := Lib.hid hC
  have hsB : ((w.alloc (.cells (nodeC k1 s1 a1 kids1.length cap1 lo1 hi1).toArray 37)).alloc (.cells zeroC 37)).heap.size = w.heap.size + 2 := by simp
  have HS := Lib.hid hsB
  clear hC hV hTr hsB
  go_enter Try.func34, Try.ntmps34
  go_wp2_with (go_at_call 64; go_must (refine HC.out.mono ?_; intro e w1 h1; obtain ⟨k2, s2, a2, cp2, ks2, lo2, hi2, rfl, hT, hL, hO, hb⟩ := h1.open; have HT := Lib.hid hT; clear h1 hT; have z := x1.kept hb; obtain ⟨r0, r1, r2, r3, r4, r5, r6, r7⟩ := z.node8f; have z0 := z.cell 0; have z1 := z.cell 1; have z2 := z.cell 2; have z3 := z.cell 3; have z4 := z.cell 4; have z5 := z.cell 5; have z6 := z.cell 6; have z7 := z.cell 7))
  have hsB := HS.out
  exact ret_box Try.results34 rfl (cs := (nodeC k2 s2 a2 ks2.length cp2 lo2 hi2).toArray) (z.store8 rfl _ _ _ _ _ _ _ _) Try.underlying37 rfl (by kernel_rfl) rfl ⟨_, rfl, HT.out, hL.set8 (hO.mono fun b hb => by omega) _ _ _ _ _ _ _ _, hO.mono fun b hb => by omega, below_set8 (hB.trans (hb.mono hB.size)) (by omega) _ _ _ _ _ _ _ _⟩
set_option maxRecDepth 20000 in
set_option maxHeartbeats 800000 in
theorem tree_Opt (V : Vt) (w : World) (hV : Lies w V) (hsz : sizeT V.tr ≤ 1099511627776) : Calls Try.prog 35 #[.agg V.cells.toArray] w (RetT w (.mk 8 0 [V.tr] 0 0)) := by
  have hB : Below w.heap.size w ((w.alloc (.cells V.cells.toArray 37)).alloc (.cells zeroC 37)) := by go_grown
  have hC := tree_over 8 (by decide) V _ (hV.kept hB) hsz
  generalize hTr : V.tr = T at *
  have x1 := Box.new' (w := w.alloc (.cells V.cells.toArray 37)) (b := w.heap.size + 1) (World.size_alloc _ _).symm zeroC 37
  obtain ⟨k1, s1, a1, cap1, kids1, lo1, hi1⟩ := V
  change Calls _ _ #[_, .agg (nodeC k1 s1 a1 kids1.length cap1 lo1 hi1).toArray] ((w.alloc (.cells (nodeC k1 s1 a1 kids1.length cap1 lo1 hi1).toArray 37)).alloc (.cells zeroC 37)) (RetT ((w.alloc (.cells (nodeC k1 s1 a1 kids1.length cap1 lo1 hi1).toArray 37)).alloc (.cells zeroC 37)) _) at hC
  change Below w.heap.size w ((w.alloc (.cells (nodeC k1 s1 a1 kids1.length cap1 lo1 hi1).toArray 37)).alloc (.cells zeroC 37)) at hB
  change Calls _ _ #[.agg (nodeC k1 s1 a1 kids1.length cap1 lo1 hi1).toArray] _ _
  have HC := Lib.hid hC
  have hsB : ((w.alloc (.cells (nodeC k1 s1 a1 kids1.length cap1 lo1 hi1).toArray 37)).alloc (.cells zeroC 37)).heap.size = w.heap.size + 2 := by simp
  have HS := Lib.hid hsB
  clear hC hV hTr hsB
  go_enter Try.func35, Try.ntmps35
  go_wp2_with (go_at_call 64; go_must (refine HC.out.mono ?_; intro e w1 h1; obtain ⟨k2, s2, a2, cp2, ks2, lo2, hi2, rfl, hT, hL, hO, hb⟩ := h1.open; have HT := Lib.hid hT; clear h1 hT; have z := x1.kept hb; obtain ⟨r0, r1, r2, r3, r4, r5, r6, r7⟩ := z.node8f; have z0 := z.cell 0; have z1 := z.cell 1; have z2 := z.cell 2; have z3 := z.cell 3; have z4 := z.cell 4; have z5 := z.cell 5; have z6 := z.cell 6; have z7 := z.cell 7))
  have hsB := HS.out
  exact ret_box Try.results35 rfl (cs := (nodeC k2 s2 a2 ks2.length cp2 lo2 hi2).toArray) (z.store8 rfl _ _ _ _ _ _ _ _) Try.underlying37 rfl (by kernel_rfl) rfl ⟨_, rfl, HT.out, hL.set8 (hO.mono fun b hb => by omega) _ _ _ _ _ _ _ _, hO.mono fun b hb => by omega, below_set8 (hB.trans (hb.mono hB.size)) (by omega) _ _ _ _ _ _ _ _⟩
set_option maxRecDepth 20000 in
set_option maxHeartbeats 1600000 in
theorem tree_Rep (V : Vt) (lo hi : Int) (hlo : I64 lo) (hhi : I64 hi) (w : World) (hV : Lies w V) (hsz : sizeT V.tr ≤ 1099511627776) : Calls Try.prog 36 #[.agg V.cells.toArray, .int .i64 lo, .int .i64 hi] w (RetT w (.mk 9 0 [V.tr] lo hi)) := by
  have hB : Below w.heap.size w ((w.alloc (.cells V.cells.toArray 37)).alloc (.cells zeroC 37)) := by go_grown
  have hC := tree_over 9 (by decide) V _ (hV.kept hB) hsz
  generalize hTr : V.tr = T at *
  have x1 := Box.new' (w := w.alloc (.cells V.cells.toArray 37)) (b := w.heap.size + 1) (World.size_alloc _ _).symm zeroC 37
  obtain ⟨k1, s1, a1, cap1, kids1, lo1, hi1⟩ := V
  change Calls _ _ #[_, .agg (nodeC k1 s1 a1 kids1.length cap1 lo1 hi1).toArray] ((w.alloc (.cells (nodeC k1 s1 a1 kids1.length cap1 lo1 hi1).toArray 37)).alloc (.cells zeroC 37)) (RetT ((w.alloc (.cells (nodeC k1 s1 a1 kids1.length cap1 lo1 hi1).toArray 37)).alloc (.cells zeroC 37)) _) at hC
  change Below w.heap.size w ((w.alloc (.cells (nodeC k1 s1 a1 kids1.length cap1 lo1 hi1).toArray 37)).alloc (.cells zeroC 37)) at hB
  change Calls _ _ #[.agg (nodeC k1 s1 a1 kids1.length cap1 lo1 hi1).toArray, _, _] _ _
  have HC := Lib.hid hC
  have hsB : ((w.alloc (.cells (nodeC k1 s1 a1 kids1.length cap1 lo1 hi1).toArray 37)).alloc (.cells zeroC 37)).heap.size = w.heap.size + 2 := by simp
  have HS := Lib.hid hsB
  clear hC hV hTr hsB
  go_enter Try.func36, Try.ntmps36
  go_wp2_with (go_at_call 64; go_must (refine HC.out.mono ?_; intro e w1 h1; obtain ⟨k2, s2, a2, cp2, ks2, lo2, hi2, rfl, hT, hL, hO, hb⟩ := h1.open; have HT := Lib.hid hT; clear h1 hT; have z := (x1.kept hb).alloc (.cells (nodeC k2 s2 a2 ks2.length cp2 lo hi).toArray 37); obtain ⟨r0, r1, r2, r3, r4, r5, r6, r7⟩ := z.node8f; have z0 := z.cell 0; have z1 := z.cell 1; have z2 := z.cell 2; have z3 := z.cell 3; have z4 := z.cell 4; have z5 := z.cell 5; have z6 := z.cell 6; have z7 := z.cell 7))
  have hsB := HS.out
  have hB1 := hB.trans (hb.mono hB.size)
  have hw1 : w.heap.size + 2 ≤ w1.heap.size := by have := hb.size; omega
  obtain ⟨rfl, rfl, hk, rfl, rfl⟩ := tr_inv2 HT.out
  obtain ⟨hI, _, _, sK, lK⟩ := hL.open
  have hal := (Below.refl _ w1).alloc (Nat.le_refl _) (.cells (nodeC 9 0 a2 ks2.length cp2 lo hi).toArray 37)
  have hN : Lies (w1.alloc (.cells (nodeC 9 0 a2 ks2.length cp2 lo hi).toArray 37)) (Vt.mk 9 0 a2 cp2 ks2 lo hi) := (Lies.mk 9 0 a2 cp2 ks2 lo hi hI hlo hhi sK lK).kept hal
  have hON : On (fun b => w.heap.size + 2 ≤ b) (Vt.mk 9 0 a2 cp2 ks2 lo hi) := by
    cases hO with
    | mk _ _ _ _ _ _ _ g1 g2 => exact .mk _ _ _ _ _ _ _ (fun h0 ad ha => by have := g1 h0 ad ha; omega) fun i hi => (g2 i hi).mono fun b hb => by omega
  exact ret_box Try.results36 rfl (cs := (nodeC 9 0 a2 ks2.length cp2 lo hi).toArray) (z.store8 rfl _ _ _ _ _ _ _ _) Try.underlying37 rfl (by kernel_rfl) rfl ⟨_, rfl, by rw [Vt.tr_mk, hk], hN.set8 (hON.mono fun b hb => by omega) _ _ _ _ _ _ _ _, hON.mono fun b hb => by omega, below_set8 (hB1.alloc hB1.size _) (by omega) _ _ _ _ _ _ _ _⟩
set_option maxRecDepth 20000 in
set_option maxHeartbeats 1600000 in
theorem ref_Rep6 (V : Vt) (lo hi : Int) (hlo : I64 lo) (hhi : I64 hi) (w : World) (hV : Lies w V) : Calls Try.prog 37 #[.agg V.cells.toArray, .int .i64 lo, .int .i64 hi] w (RetS (fun b => b < w.heap.size) w (.mk 9 0 [V.tr] lo hi)) := by
  have hB : Below w.heap.size w (((w.alloc (.cells V.cells.toArray 37)).alloc (.cells zeroC 37)).alloc (.cells V.cells.toArray 37)) := by go_grown
  have hC := ref_Of6 (fun b => b < w.heap.size) 9 (by decide) [V] _ 1 _ (one_node (b := w.heap.size + 1 + 1) (w := (w.alloc (.cells V.cells.toArray 37)).alloc (.cells zeroC 37)) (by simp) V 37) (fun i hi => by
    obtain rfl : i = 0 := by simp at hi; omega
    exact hV.kept hB) (fun i hi => by
    obtain rfl : i = 0 := by simp at hi; omega
    exact hV.on) (by simp) (by simp)
  generalize hTr : V.tr = T at *
  have x1 := (Box.new' (w := w.alloc (.cells V.cells.toArray 37)) (b := w.heap.size + 1) (World.size_alloc _ _).symm zeroC 37).alloc (.cells V.cells.toArray 37)
  simp only [List.length_singleton, List.map_singleton, hTr] at hC
  obtain ⟨k1, s1, a1, cap1, kids1, lo1, hi1⟩ := V
  change Calls _ _ #[_, _] (((w.alloc (.cells (nodeC k1 s1 a1 kids1.length cap1 lo1 hi1).toArray 37)).alloc (.cells zeroC 37)).alloc (.cells (nodeC k1 s1 a1 kids1.length cap1 lo1 hi1).toArray 37)) (RetS _ (((w.alloc (.cells (nodeC k1 s1 a1 kids1.length cap1 lo1 hi1).toArray 37)).alloc (.cells zeroC 37)).alloc (.cells (nodeC k1 s1 a1 kids1.length cap1 lo1 hi1).toArray 37)) _) at hC
  change Below w.heap.size w (((w.alloc (.cells (nodeC k1 s1 a1 kids1.length cap1 lo1 hi1).toArray 37)).alloc (.cells zeroC 37)).alloc (.cells (nodeC k1 s1 a1 kids1.length cap1 lo1 hi1).toArray 37)) at hB
  change Calls _ _ #[.agg (nodeC k1 s1 a1 kids1.length cap1 lo1 hi1).toArray, _, _] _ _
  have HC := Lib.hid hC
  have hsB : (((w.alloc (.cells (nodeC k1 s1 a1 kids1.length cap1 lo1 hi1).toArray 37)).alloc (.cells zeroC 37)).alloc (.cells (nodeC k1 s1 a1 kids1.length cap1 lo1 hi1).toArray 37)).heap.size = w.heap.size + 3 := by simp
  have HS := Lib.hid hsB
  clear hC hV hTr hsB
  go_enter Try.func37, Try.ntmps37
  go_wp2_with (go_at_call 33; go_must (refine HC.out.mono ?_; intro e w1 h1; obtain ⟨k2, s2, a2, cp2, ks2, lo2, hi2, rfl, hT, hL, hO, hb⟩ := h1.open; have HT := Lib.hid hT; clear h1 hT; have z := (x1.kept hb).alloc (.cells (nodeC k2 s2 a2 ks2.length cp2 lo hi).toArray 37); obtain ⟨r0, r1, r2, r3, r4, r5, r6, r7⟩ := z.node8f; have z0 := z.cell 0; have z1 := z.cell 1; have z2 := z.cell 2; have z3 := z.cell 3; have z4 := z.cell 4; have z5 := z.cell 5; have z6 := z.cell 6; have z7 := z.cell 7))
  have hsB := HS.out
  have hB1 := hB.trans (hb.mono hB.size)
  have hw1 : w.heap.size + 3 ≤ w1.heap.size := by have := hb.size; omega
  obtain ⟨rfl, rfl, hk, rfl, rfl⟩ := tr_inv2 HT.out
  obtain ⟨hI, _, _, sK, lK⟩ := hL.open
  have hal := (Below.refl _ w1).alloc (Nat.le_refl _) (.cells (nodeC 9 0 a2 ks2.length cp2 lo hi).toArray 37)
  have hN : Lies (w1.alloc (.cells (nodeC 9 0 a2 ks2.length cp2 lo hi).toArray 37)) (Vt.mk 9 0 a2 cp2 ks2 lo hi) := (Lies.mk 9 0 a2 cp2 ks2 lo hi hI hlo hhi sK lK).kept hal
  have hON : On (fun b => b < w.heap.size ∨ w.heap.size + 3 ≤ b) (Vt.mk 9 0 a2 cp2 ks2 lo hi) := by
    cases hO with
    | mk _ _ _ _ _ _ _ g1 g2 => exact .mk _ _ _ _ _ _ _ (fun h0 ad ha => by have := g1 h0 ad ha; omega) fun i hi => (g2 i hi).mono fun b hb => by omega
  exact ret_box Try.results37 rfl (cs := (nodeC 9 0 a2 ks2.length cp2 lo hi).toArray) (z.store8 rfl _ _ _ _ _ _ _ _) Try.underlying37 rfl (by kernel_rfl) rfl ⟨_, rfl, by rw [Vt.tr_mk, hk], hN.set8 (hON.mono fun b hb => by omega) _ _ _ _ _ _ _ _, hON.mono fun b hb => by omega, below_set8 (hB1.alloc hB1.size _) (by omega) _ _ _ _ _ _ _ _⟩
end Go.Proofs.Ytinlfbacfmmfpaa
