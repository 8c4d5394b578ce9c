/- Whether two trees are the same: the program's function. -/
import Derived.Test.YtinlfbacfmmfpaaTreeSame
namespace Go.Proofs.Ytinlfbacfmmfpaa
open Go.RowKit

set_option maxRecDepth 20000 in
set_option maxHeartbeats 1600000 in
theorem EqualFunc6 (k : Int) (s : BSet) (lo hi : Int) (l l' : List Vt) (a a' : Option Addr) (cap cap' : Nat) (w : World) (sA : SliceR w (.slice a l.length cap) 8 Vt.cells l) (sB : SliceR w (.slice a' l'.length cap') 8 Vt.cells l')
    (lA : ∀ i (h : i < l.length), Lies w l[i]) (lB : ∀ i (h : i < l'.length), Lies w l'[i])
    (ih : ∀ i (h : i < l.length) (B : Vt) (w : World), Lies w l[i] → Lies w B → Calls Try.prog 15 #[.agg l[i].cells.toArray, .agg B.cells.toArray] w (Ret w (.bool (eqT l[i].tr B.tr)))) :
    Calls Try.prog 54 #[.slice a l.length cap, .slice a' l'.length cap', .func (.func 15) #[] #[]] w (Ret w (.bool (eqT (.mk k s (l.map Vt.tr) lo hi) (.mk k s (l'.map Vt.tr) lo hi)))) := by
  by_cases h5 : l.length = l'.length
  · obtain ⟨b, o, c1, c2, c3, c4, c5⟩ := sA.kids
    obtain ⟨b', o', d1, d2, d3, d4, d5⟩ := sB.kids
    clear sA sB c4 d4
    have HC := Lib.hid c5; have HD := Lib.hid d5; have HI := Lib.hid ih; have LA := Lib.hid lA; have LB := Lib.hid lB; have HL := Lib.hid h5
    have g5 : (((l.length : Nat) : Int) != ((l'.length : Nat) : Int)) = false := by simp [h5]
    clear c5 d5 ih lA lB h5
    go_enter Try.func54, Try.ntmps54
    go_wp2
    go_loopw [17] (fun i wr => ∃ j : Nat, j ≤ l.length ∧ i = .int .i64 j ∧ (∀ x, x < j → ∀ (h : x < l.length) (h' : x < l'.length), eqT l[x].tr l'[x].tr = true) ∧ Below w.heap.size w wr) (fun i _ => l.length - (intOf i).toNat)
    case atStart => exact ⟨0, Nat.zero_le _, rfl, fun x hx => absurd hx (Nat.not_lt_zero x), by go_grown⟩
    case round =>
      obtain ⟨j, hj, rfl, hno, hB⟩ := hrel
      have HN := Lib.hid hno
      clear hno
      by_cases hlt : j < l.length
      · have hlt' : j < l'.length := by rw [← HL.out]; exact hlt
        obtain rfl := c3 j hlt
        obtain rfl := d3 j hlt'
        have e1 := HC.out j hlt
        have e2 := HD.out j hlt'
        have i1 := fun w' (h : Below w.heap.size w w') => HI.out j hlt l'[j] w' ((LA.out j hlt).kept h) ((LB.out j hlt').kept h)
        have hr1 := fun (h : eqT l[j].tr l'[j].tr = true) => (fun x (hx : x < j + 1) (h1 : x < l.length) (h2 : x < l'.length) => (if e : x = j then by subst e; exact h else HN.out x (by omega) h1 h2 : eqT l[x].tr l'[x].tr = true))
        have hr2 := fun (h : eqT l[j].tr l'[j].tr = false) => eqT_kid (k := k) (k' := k) (s := s) (s' := s) (lo := lo) (lo' := lo) (hi := hi) (hi' := hi) (l := l.map Vt.tr) (l' := l'.map Vt.tr) j (by simpa using hlt) (by simpa using hlt') (by simpa using h)
        have R1 := Lib.hid hr1; have R2 := Lib.hid hr2
        clear hr1 hr2
        generalize l[j] = V at *
        generalize l'[j] = V' at *
        obtain ⟨k1, s1, a1, cp1, ks1, lo1, hi1⟩ := V
        obtain ⟨k2, s2, a2, cp2, ks2, lo2, hi2⟩ := V'
        obtain ⟨x0, x1, x2, x3, x4, x5, x6, x7⟩ := cells8 (e1 wr hB)
        have hB1 := hB.alloc hB.size (.cells (nodeC k1 s1 a1 ks1.length cp1 lo1 hi1).toArray 37)
        obtain ⟨y0, y1, y2, y3, y4, y5, y6, y7⟩ := cells8 (e2 _ hB1)
        change ∀ w', Below w.heap.size w w' → Calls _ _ #[.agg (nodeC k1 s1 a1 ks1.length cp1 lo1 hi1).toArray, .agg (nodeC k2 s2 a2 ks2.length cp2 lo2 hi2).toArray] _ _ at i1
        have i2 := i1 _ (hB1.alloc hB1.size (.cells (nodeC k2 s2 a2 ks2.length cp2 lo2 hi2).toArray 37))
        clear e1 e2 c3 d3 i1
        cases hr : eqT (Vt.mk k1 s1 a1 cp1 ks1 lo1 hi1).tr (Vt.mk k2 s2 a2 cp2 ks2 lo2 hi2).tr with
        | true =>
          have HR := Lib.hid (R1.out hr)
          rw [hr] at i2
          have I2 := Lib.hid i2
          clear hr R1 R2 i2
          go_wp2_with (go_at_call 15; go_must (refine I2.out.mono ?_; rintro e w1 ⟨rfl, hb⟩))
          go_roundw
          case rel => exact ⟨j + 1, hlt, by go_num, HR.out, (hB1.alloc hB1.size _).trans (hb.mono (hB1.alloc hB1.size _).size)⟩
          case measure => simp [intOf]; omega
        | false =>
          have HR := Lib.hid (R2.out hr)
          rw [hr] at i2
          have I2 := Lib.hid i2
          clear hr R1 R2 i2
          go_wp2_with (go_at_call 15; go_must (refine I2.out.mono ?_; rintro e w1 ⟨rfl, hb⟩))
          go_ret
          exact ⟨by rw [HR.out]; rfl, (hB1.alloc hB1.size _).trans (hb.mono (hB1.alloc hB1.size _).size)⟩
      · have HE := Lib.hid (eqT_all (k := k) (s := s) (lo := lo) (hi := hi) (l := l.map Vt.tr) (l' := l'.map Vt.tr) (by simpa using HL.out) (fun i h1 h2 => by rw [List.getElem_map, List.getElem_map]; rw [List.length_map] at h1 h2; exact HN.out i (by omega) h1 h2))
        go_wp2
        go_ret
        exact ⟨by rw [HE.out]; rfl, hB⟩
  · rw [eqT_head (fun h => h5 (by simpa using h.2.2.2.2))]
    have g5 : (((l.length : Nat) : Int) != ((l'.length : Nat) : Int)) = true := by simp; omega
    clear ih sA sB lA lB h5
    go_enter Try.func54, Try.ntmps54
    go_wp2
    go_ret
    exact ⟨rfl, by go_grown⟩
set_option maxRecDepth 20000 in
set_option maxHeartbeats 1600000 in
theorem tree_Same : ∀ (A B : Vt) (w : World), Lies w A → Lies w B → Calls Try.prog 15 #[.agg A.cells.toArray, .agg B.cells.toArray] w (Ret w (.bool (eqT A.tr B.tr))) := by
  refine Vt.ind fun k s a cap kids lo hi ih => ?_
  rintro ⟨k', s', a', cap', kids', lo', hi'⟩ w hA hB
  have hq := run_eqS (P := Try.prog) (t := 34) (e := 32) Try.underlying34 Try.underlying32 (by kernel_rfl) s s'
  rw [Vt.tr_mk, Vt.tr_mk]
  change Calls _ _ #[.agg (nodeC k s a kids.length cap lo hi).toArray, .agg (nodeC k' s' a' kids'.length cap' lo' hi').toArray] _ _
  by_cases h1 : k = k'
  · subst h1
    by_cases h2 : s = s'
    · subst h2
      rw [decide_eq_true rfl] at hq
      by_cases h3 : lo = lo'
      · subst h3
        by_cases h4 : hi = hi'
        · subst h4
          obtain ⟨_, _, _, sA, lA⟩ := hA.open
          obtain ⟨_, _, _, sB, lB⟩ := hB.open
          have bB : Below w.heap.size w ((w.alloc (.cells (nodeC k s a kids.length cap lo hi).toArray 37)).alloc (.cells (nodeC k s a' kids'.length cap' lo hi).toArray 37)) := by go_grown
          have hE := EqualFunc6 k s lo hi kids kids' a a' cap cap' _ (sA.kept bB) (sB.kept bB) (fun i h => (lA i h).kept bB) (fun i h => (lB i h).kept bB) (fun i h B w' hk hB => ih i h B w' hk hB)
          have HE := Lib.hid hE
          clear hE sA sB lA lB hA hB ih
          go_enter Try.func15, Try.ntmps15
          go_wp2_with (go_at_call 54; go_must (refine HE.out.mono ?_; rintro e w1 ⟨rfl, hb⟩))
          go_ret
          exact ⟨rfl, bB.trans (hb.mono bB.size)⟩
        · rw [eqT_head (fun h => h4 h.2.2.2.1)]
          have g4 : (hi != hi') = true := by simpa using h4
          clear ih hA hB h4
          go_enter Try.func15, Try.ntmps15
          go_wp2
          go_ret
          exact ⟨rfl, by go_grown⟩
      · rw [eqT_head (fun h => h3 h.2.2.1)]
        have g3 : (lo != lo') = true := by simpa using h3
        clear ih hA hB h3
        go_enter Try.func15, Try.ntmps15
        go_wp2
        go_ret
        exact ⟨rfl, by go_grown⟩
    · rw [eqT_head (fun h => h2 h.2.1)]
      rw [decide_eq_false h2] at hq
      clear ih hA hB h2
      go_enter Try.func15, Try.ntmps15
      go_wp2
      go_ret
      exact ⟨rfl, by go_grown⟩
  · rw [eqT_head (fun h => h1 h.1)]
    have g1 : (k != k') = true := by simpa using h1
    clear h1 ih hA hB hq
    go_enter Try.func15, Try.ntmps15
    go_wp2
    go_ret
    exact ⟨rfl, by go_grown⟩
end Go.Proofs.Ytinlfbacfmmfpaa
