/- Trees that the document's functions make. -/
import Derived.Test.YtinlfbacfmmfpaaTreeMake
namespace Go.Proofs.Ytinlfbacfmmfpaa
open Go.RowKit

theorem Lies.set8 {w : World} {V : Vt} (h : Lies w V) {g : Nat} (ho : On (fun b => b ≠ g) V) (v0 v1 v2 v3 v4 v5 v6 v7 : Value) :
    Lies ((((((((w.setCell ⟨g, 0, none⟩ v0).setCell ⟨g, 1, none⟩ v1).setCell ⟨g, 2, none⟩ v2).setCell ⟨g, 3, none⟩ v3).setCell ⟨g, 4, none⟩ v4).setCell ⟨g, 5, none⟩ v5).setCell ⟨g, 6, none⟩ v6).setCell ⟨g, 7, none⟩ v7) V := by
  have one : ∀ (w : World) (i : Nat) (v : Value), Lies w V → Lies (w.setCell ⟨g, i, none⟩ v) V := fun w i v h => h.keptOn ho fun b hb => heap_setCell_other w ⟨g, i, none⟩ b v hb
  exact one _ _ _ (one _ _ _ (one _ _ _ (one _ _ _ (one _ _ _ (one _ _ _ (one _ _ _ (one _ _ _ h)))))))
theorem Own.nodeL {w : World} {base E : Nat} {a : Option Addr} {cap : Nat} {vs : List Vt} (h : Own w base E 8 Vt.cells (.slice a vs.length cap) vs) (hl : ∀ i (h : i < vs.length), Lies w vs[i])
    (k : Int) (s : BSet) (lo hi : Int) (hk : I64 k) (hlo : I64 lo) (hhi : I64 hi) : Lies w (.mk k s a cap vs lo hi) := .mk k s a cap vs lo hi hk hlo hhi (h.slice enc8) hl
/-- A call that returns a tree, each of whose slices is new, or lies where S holds. -/
def RetS (S : Nat → Prop) (w : World) (A : Tr) (e : Ending) (w' : World) : Prop :=
  ∃ V : Vt, e = .returned (.agg V.cells.toArray) ∧ V.tr = A ∧ Lies w' V ∧ On (fun b => S b ∨ w.heap.size ≤ b) V ∧ Below w.heap.size w w'
theorem RetS.open {S : Nat → Prop} {w w' : World} {A : Tr} {e : Ending} (h : RetS S w A e w') : ∃ (k : Int) (s : BSet) (a : Option Addr) (cap : Nat) (kids : List Vt) (lo hi : Int), e = .returned (.agg (nodeC k s a kids.length cap lo hi).toArray) ∧
    (Vt.mk k s a cap kids lo hi).tr = A ∧ Lies w' (.mk k s a cap kids lo hi) ∧ On (fun b => S b ∨ w.heap.size ≤ b) (.mk k s a cap kids lo hi) ∧ Below w.heap.size w w' := by
  obtain ⟨⟨k, s, a, cap, kids, lo, hi⟩, h1, h2, h3, h4, h5⟩ := h
  exact ⟨k, s, a, cap, kids, lo, hi, h1, h2, h3, h4, h5⟩
theorem RetT.toS {S : Nat → Prop} {w w' : World} {A : Tr} {e : Ending} (h : RetT w A e w') : RetS S w A e w' := by
  obtain ⟨V, h1, h2, h3, h4, h5⟩ := h
  exact ⟨V, h1, h2, h3, h4.mono fun _ hb => .inr hb, h5⟩
theorem ref_Bytes6 (s : BSet) (w : World) : Calls Try.prog 18 #[setV s] w (RetT w (leafT 3 s)) := by
  go_enter Try.func18, Try.ntmps18
  go_wp2
  exact ret_box Try.results18 rfl (cs := (nodeC 3 s none 0 0 0 0).toArray) (Box.new' (World.size_alloc _ _).symm _ _) Try.underlying37 rfl (by kernel_rfl) rfl (ret_leaf 3 s (by decide) (by go_grown))
set_option maxRecDepth 20000 in
set_option maxHeartbeats 1600000 in
theorem ref_Of6 (S : Nat → Prop) (k : Int) (hk : I64 k) (l : List Vt) (a : Option Addr) (cap : Nat) (w : World) (sA : SliceR w (.slice a l.length cap) 8 Vt.cells l) (lA : ∀ i (h : i < l.length), Lies w l[i]) (lS : ∀ i (h : i < l.length), On S l[i]) (h0 : 0 < l.length) (hsz : l.length ≤ 1099511627776) :
    Calls Try.prog 33 #[.int .i64 k, .slice a l.length cap] w (RetS S w (.mk k 0 (l.map Vt.tr) 0 0)) := by
  obtain ⟨b, o, c1, c2, c3, c4, c5⟩ := sA.kids
  obtain rfl := c3 0 h0
  have hW : Below w.heap.size w ((w.alloc (.cells zeroC 37)).alloc (.cells #[] 37)) := by go_grown
  have hcells : ∀ j u, (l.flatMap Vt.cells)[j]? = some u → ((w.alloc (.cells zeroC 37)).alloc (.cells #[] 37)).cell? ((⟨b, o, none⟩ : Addr).add j) = some u := fun j u hu => by
    have hj : j < l.length * 8 := by have := (List.getElem?_eq_some_iff.1 hu).1; rwa [flatMap_length Vt.cells_len] at this
    have h1 : j / 8 < l.length := by omega
    have h2 : j % 8 < 8 := Nat.mod_lt _ (by decide)
    have h3 := flatMap_get Vt.cells_len l (j / 8) (j % 8) h1 h2
    rw [show j / 8 * 8 + j % 8 = j by omega, hu] at h3
    have := c5 (j / 8) h1 _ hW (j % 8) u h3.symm
    rw [Addr.add_mid, show o + j = o + j / 8 * 8 + j % 8 by omega]; exact this
  have hown := Own.empty (w.alloc (.cells zeroC 37)) (w.heap.size + 1) 37 8 Vt.cells (by simp)
  have hx0 := (Box.new w zeroC 37).alloc (.cells #[] 37)
  have LA := Lib.hid lA
  have LS := Lib.hid lS
  have HC := Lib.hid hcells
  clear c3 c5 hcells lA lS sA c4
  rw [World.size_alloc] at hown
  go_enter Try.func33, Try.ntmps33
  go_wp2_with (at_builtin; go_must (refine wpList_appendN rfl _ _ 35 rfl elem_node enc8 rfl hown ⟨b, o, none⟩ cap l rfl HC.out ?_ ?_ ?_ ?_))
  · simp [maxLen]; omega
  · simp; omega
  · simp
  intro a3 cap3 w3 hown3 hgr
  have hg : Below (w.heap.size + 1) ((w.alloc (.cells zeroC 37)).alloc (.cells #[] 37)) w3 := below_grown (Below.refl _ _) hown hgr (Nat.le_refl _) (by simp)
  have hB3 : Below w.heap.size w w3 := hW.trans (hg.mono (by omega))
  have z := hx0.below hg (by omega)
  obtain ⟨r0, r1, r2, r3, r4, r5, r6, r7⟩ := z.node8f
  have z0 := z.cell 0; have z1 := z.cell 1; have z2 := z.cell 2; have z3 := z.cell 3; have z4 := z.cell 4; have z5 := z.cell 5; have z6 := z.cell 6; have z7 := z.cell 7
  have hL := Own.nodeL hown3 (fun i h => (LA.out i h).kept hB3) k 0 0 0 hk (by decide) (by decide)
  have hO : On (fun b => b ≠ w.heap.size) (Vt.mk k 0 a3 cap3 l 0 0) := .mk _ _ _ _ _ _ _ (fun h ad ha => by
    obtain ⟨g, hg1, hg2, _⟩ := hown3.addr h
    rw [hg1] at ha
    obtain rfl := Option.some.inj ha
    show g ≠ _
    omega) fun i h => (LA.out i h).on.mono fun b hb => by omega
  have hO2 : On (fun b => S b ∨ w.heap.size ≤ b) (Vt.mk k 0 a3 cap3 l 0 0) := .mk _ _ _ _ _ _ _ (fun h ad ha => by
    obtain ⟨g, hg1, hg2, _⟩ := hown3.addr h
    rw [hg1] at ha
    obtain rfl := Option.some.inj ha
    exact .inr (show w.heap.size ≤ g by omega)) fun i h => (LS.out i h).mono fun b hb => .inl hb
  clear hgr hown hown3
  go_wp2
  have hz : nodeC k 0 a3 l.length cap3 0 0 = [.int .i64 k, .int .u64 0, .int .u64 0, .int .u64 0, .int .u64 0, .slice a3 l.length cap3, .int .i64 0, .int .i64 0] := by simp only [nodeC, word_zero]; rfl
  refine ret_box Try.results33 rfl (cs := (nodeC k 0 a3 l.length cap3 0 0).toArray) (by rw [hz]; exact z.store8 rfl _ _ _ _ _ _ _ _) Try.underlying37 rfl (by kernel_rfl) rfl ⟨_, rfl, by rw [Vt.tr_mk], hL.set8 hO _ _ _ _ _ _ _ _, hO2, below_set8 hB3 (Nat.le_refl _) _ _ _ _ _ _ _ _⟩
set_option maxRecDepth 20000 in
set_option maxHeartbeats 1600000 in
theorem ref_Many6 (S : Nat → Prop) (k k0 : Int) (hk : I64 k) (hk0 : I64 k0) (l : List Vt) (a : Option Addr) (cap : Nat) (w : World) (hS : ∀ b, S b → b < w.heap.size) (sA : SliceR w (.slice a l.length cap) 8 Vt.cells l) (lA : ∀ i (h : i < l.length), Lies w l[i]) (lS : ∀ i (h : i < l.length), On S l[i]) (hsz : l.length ≤ 1099511627776) :
    Calls Try.prog 58 #[.int .i64 k, .int .i64 k0, .slice a l.length cap] w (RetS S w (manyT k (leafT k0 0) (l.map Vt.tr))) := by
  by_cases h0 : l.length = 0
  · obtain rfl := List.eq_nil_of_length_eq_zero h0
    have hz : nodeC k0 0 none 0 0 0 0 = [.int .i64 k0, .int .u64 0, .int .u64 0, .int .u64 0, .int .u64 0, .slice none 0 0, .int .i64 0, .int .i64 0] := by simp only [nodeC, word_zero]; rfl
    have HZ := Lib.hid hz
    clear sA lA lS h0 hz hS
    simp only [List.length_nil]
    go_enter Try.func58, Try.ntmps58
    go_wp2
    exact ret_box Try.results58 rfl (cs := (nodeC k0 0 none 0 0 0 0).toArray) (by rw [HZ.out]; exact Box.new' rfl _ _) Try.underlying37 rfl (by kernel_rfl) rfl (ret_leaf k0 0 hk0 (by go_grown)).toS
  · have g0 : (((l.length : Nat) : Int) == 0) = false := by rw [beq_eq_false_iff_ne]; omega
    have bB : Below w.heap.size w (w.alloc (.cells zeroC 37)) := by go_grown
    have x1 := Box.new w zeroC 37
    by_cases h1 : l.length = 1
    · obtain ⟨V, rfl⟩ : ∃ V, l = [V] := by
        match l, h1 with
        | [V], _ => exact ⟨V, rfl⟩
      obtain ⟨b, o, c1, c2, c3, c4, c5⟩ := sA.kids
      obtain rfl := c3 0 (by simp)
      have e1 := c5 0 (by simp) _ bB
      have hL := lA 0 (by simp)
      have hO := lS 0 (by simp)
      simp only [List.length_singleton]
      clear sA lA lS c3 c4 c5 h0 h1 g0 hS
      simp only [List.getElem_cons_zero] at e1 hL hO
      obtain ⟨k1, s1, a1, cp1, ks1, lo1, hi1⟩ := V
      obtain ⟨y0, y1, y2, y3, y4, y5, y6, y7⟩ := cells8 e1
      simp only [Nat.zero_mul, Nat.add_zero] at y0 y1 y2 y3 y4 y5 y6 y7
      clear e1
      go_enter Try.func58, Try.ntmps58
      go_wp2
      have hB := (Below.refl w.heap.size w).alloc (Nat.le_refl _) (.cells (nodeC k1 s1 a1 ks1.length cp1 lo1 hi1).toArray 37)
      exact ret_box Try.results58 rfl (cs := (nodeC k1 s1 a1 ks1.length cp1 lo1 hi1).toArray) (Box.new' rfl _ _) Try.underlying37 rfl (by kernel_rfl) rfl ⟨_, rfl, rfl, hL.kept hB, hO.mono fun b hb => .inl hb, hB⟩
    · have hC := ref_Of6 S k hk l a cap _ (sA.kept bB) (fun i h => (lA i h).kept bB) lS (by omega) hsz
      have g1 : (((l.length : Nat) : Int) == 1) = false := by rw [beq_eq_false_iff_ne]; omega
      rw [manyT_two (by simp; omega)]
      have HC := Lib.hid hC
      have HS := Lib.hid hS
      clear hC sA lA lS h0 h1 hS
      go_enter Try.func58, Try.ntmps58
      go_wp2_with (go_at_call 33; go_must (refine HC.out.mono ?_; intro e w1 h1; obtain ⟨k2, s2, a2, cp2, ks2, lo2, hi2, rfl, hT, hL, hO, hb⟩ := h1.open; have HT := Lib.hid hT; clear h1 hT; have z := x1.kept hb; obtain ⟨r0, r1, r2, r3, r4, r5, r6, r7⟩ := z.node8f; have z0 := z.cell 0; have z1 := z.cell 1; have z2 := z.cell 2; have z3 := z.cell 3; have z4 := z.cell 4; have z5 := z.cell 5; have z6 := z.cell 6; have z7 := z.cell 7))
      have hs1 : (w.alloc (.cells zeroC 37)).heap.size = w.heap.size + 1 := World.size_alloc _ _
      exact ret_box Try.results58 rfl (cs := (nodeC k2 s2 a2 ks2.length cp2 lo2 hi2).toArray) (z.store8 rfl _ _ _ _ _ _ _ _) Try.underlying37 rfl (by kernel_rfl) rfl ⟨_, rfl, HT.out, hL.set8 (hO.mono fun b hb => by rcases hb with hb | hb; (have := HS.out b hb; omega); omega) _ _ _ _ _ _ _ _, hO.mono fun b hb => by (rcases hb with hb | hb; (exact .inl hb); (right; omega)), below_set8 (bB.trans (hb.mono bB.size)) (Nat.le_refl _) _ _ _ _ _ _ _ _⟩
set_option maxRecDepth 20000 in
set_option maxHeartbeats 800000 in
theorem ref_Cat6 (S : Nat → Prop) (l : List Vt) (a : Option Addr) (cap : Nat) (w : World) (hS : ∀ b, S b → b < w.heap.size) (sA : SliceR w (.slice a l.length cap) 8 Vt.cells l) (lA : ∀ i (h : i < l.length), Lies w l[i]) (lS : ∀ i (h : i < l.length), On S l[i]) (hsz : l.length ≤ 1099511627776) :
    Calls Try.prog 21 #[.slice a l.length cap] w (RetS S w (manyT 4 (leafT 2 0) (l.map Vt.tr))) := by
  have x0 := Box.new w zeroC 37
  have bB : Below w.heap.size w (w.alloc (.cells zeroC 37)) := by go_grown
  have hs1 : (w.alloc (.cells zeroC 37)).heap.size = w.heap.size + 1 := World.size_alloc _ _
  have hM := ref_Many6 S 4 2 (by decide) (by decide) l a cap _ (fun b hb => by have := hS b hb; omega) (sA.kept bB) (fun i h => (lA i h).kept bB) lS hsz
  have HM := Lib.hid hM
  have HS := Lib.hid hS
  have H1 := Lib.hid hs1
  clear hM sA lA lS hS hs1
  go_enter Try.func21, Try.ntmps21
  go_wp2_with (go_at_call 58; go_must (refine HM.out.mono ?_; intro e w1 h1; obtain ⟨k2, s2, a2, cp2, ks2, lo2, hi2, rfl, hT, hL, hO, hb⟩ := h1.open; have HT := Lib.hid hT; clear h1 hT; have z := x0.kept hb; obtain ⟨r0, r1, r2, r3, r4, r5, r6, r7⟩ := z.node8f; have z0 := z.cell 0; have z1 := z.cell 1; have z2 := z.cell 2; have z3 := z.cell 3; have z4 := z.cell 4; have z5 := z.cell 5; have z6 := z.cell 6; have z7 := z.cell 7))
  have hs1 := H1.out
  exact ret_box Try.results21 rfl (cs := (nodeC k2 s2 a2 ks2.length cp2 lo2 hi2).toArray) (z.store8 rfl _ _ _ _ _ _ _ _) Try.underlying37 rfl (by kernel_rfl) rfl ⟨_, rfl, HT.out, hL.set8 (hO.mono fun b hb => by rcases hb with hb | hb; (have := HS.out b hb; omega); omega) _ _ _ _ _ _ _ _, hO.mono fun b hb => by (rcases hb with hb | hb; (exact .inl hb); (right; omega)), below_set8 (bB.trans (hb.mono bB.size)) (Nat.le_refl _) _ _ _ _ _ _ _ _⟩
set_option maxRecDepth 20000 in
set_option maxHeartbeats 800000 in
theorem ref_Alt6 (S : Nat → Prop) (l : List Vt) (a : Option Addr) (cap : Nat) (w : World) (hS : ∀ b, S b → b < w.heap.size) (sA : SliceR w (.slice a l.length cap) 8 Vt.cells l) (lA : ∀ i (h : i < l.length), Lies w l[i]) (lS : ∀ i (h : i < l.length), On S l[i]) (hsz : l.length ≤ 1099511627776) :
    Calls Try.prog 23 #[.slice a l.length cap] w (RetS S w (manyT 5 (leafT 1 0) (l.map Vt.tr))) := by
  have x0 := Box.new w zeroC 37
  have bB : Below w.heap.size w (w.alloc (.cells zeroC 37)) := by go_grown
  have hs1 : (w.alloc (.cells zeroC 37)).heap.size = w.heap.size + 1 := World.size_alloc _ _
  have hM := ref_Many6 S 5 1 (by decide) (by decide) l a cap _ (fun b hb => by have := hS b hb; omega) (sA.kept bB) (fun i h => (lA i h).kept bB) lS hsz
  have HM := Lib.hid hM
  have HS := Lib.hid hS
  have H1 := Lib.hid hs1
  clear hM sA lA lS hS hs1
  go_enter Try.func23, Try.ntmps23
  go_wp2_with (go_at_call 58; go_must (refine HM.out.mono ?_; intro e w1 h1; obtain ⟨k2, s2, a2, cp2, ks2, lo2, hi2, rfl, hT, hL, hO, hb⟩ := h1.open; have HT := Lib.hid hT; clear h1 hT; have z := x0.kept hb; obtain ⟨r0, r1, r2, r3, r4, r5, r6, r7⟩ := z.node8f; have z0 := z.cell 0; have z1 := z.cell 1; have z2 := z.cell 2; have z3 := z.cell 3; have z4 := z.cell 4; have z5 := z.cell 5; have z6 := z.cell 6; have z7 := z.cell 7))
  have hs1 := H1.out
  exact ret_box Try.results23 rfl (cs := (nodeC k2 s2 a2 ks2.length cp2 lo2 hi2).toArray) (z.store8 rfl _ _ _ _ _ _ _ _) Try.underlying37 rfl (by kernel_rfl) rfl ⟨_, rfl, HT.out, hL.set8 (hO.mono fun b hb => by rcases hb with hb | hb; (have := HS.out b hb; omega); omega) _ _ _ _ _ _ _ _, hO.mono fun b hb => by (rcases hb with hb | hb; (exact .inl hb); (right; omega)), below_set8 (bB.trans (hb.mono bB.size)) (Nat.le_refl _) _ _ _ _ _ _ _ _⟩
end Go.Proofs.Ytinlfbacfmmfpaa
