/- Whether two trees are the same: the document's function, and the program's. -/
import Derived.Test.YtinlfbacfmmfpaaProg
import Derived.Test.YtinlfbacfmmfpaaTree
import Derived.Test.YtinlfbacfmmfpaaMap
import Derived.Test.YtinlfbacfmmfpaaBase2
namespace Go.Proofs.Ytinlfbacfmmfpaa
open Go.RowKit

theorem run_eqS {P : Program} {t e : TypeId} (hu : P.underlying t = some (.array 4 e)) (he : P.underlying e = some (.int .u64)) (hi : (P.info? e).map (fun i => i.size) = some 1) (s u : BSet) (w : World) :
    (Op.equalIn 10000 t (setV s) (setV u)).run P w = .ok (decide (s = u)) w := by
  cases hq : P.info? e with
  | none => simp [hq] at hi
  | some i =>
    have hs : i.size = 1 := by simpa [hq] using hi
    have hc : P.cellsOf e = 1 := by simp [Program.cellsOf, hq, hs]
    have := run_equalIn_ints (P := P) 9998 (q := .u64) hu he hq hc [(word s 0 : Nat), (word s 1 : Nat), (word s 2 : Nat), (word s 3 : Nat)] [(word u 0 : Nat), (word u 1 : Nat), (word u 2 : Nat), (word u 3 : Nat)] rfl rfl w
    refine this.trans ?_
    congr 1
    rw [decide_eq_decide]
    constructor
    · intro h
      simp only [List.cons.injEq, and_true, Int.natCast_inj] at h
      obtain ⟨h0, h1, h2, h3⟩ := h
      refine word_inj fun i hi => ?_
      match i, hi with
      | 0, _ => exact h0
      | 1, _ => exact h1
      | 2, _ => exact h2
      | 3, _ => exact h3
    · rintro rfl; rfl
set_option maxRecDepth 20000 in
set_option maxHeartbeats 1600000 in
theorem ref_Same6 : ∀ (A B : Vt) (w : World), Lies w A → Lies w B → Calls Try.prog 16 #[.agg A.cells.toArray, .agg B.cells.toArray] w (Ret w (.bool (eqT A.tr B.tr))) := by
  refine Vt.ind fun k s a cap kids lo hi ih => ?_
  rintro ⟨k', s', a', cap', kids', lo', hi'⟩ w hA hB
  have hq := run_eqS (P := Try.prog) (t := 34) (e := 32) Try.underlying34 Try.underlying32 (by kernel_rfl) s s'
  rw [Vt.tr_mk, Vt.tr_mk]
  change Calls _ _ #[.agg (nodeC k s a kids.length cap lo hi).toArray, .agg (nodeC k' s' a' kids'.length cap' lo' hi').toArray] _ _
  by_cases h1 : k = k'
  · subst h1
    by_cases h2 : s = s'
    · subst h2
      rw [decide_eq_true rfl] at hq
      by_cases h3 : lo = lo'
      · subst h3
        by_cases h4 : hi = hi'
        · subst h4
          by_cases h5 : kids.length = kids'.length
          · obtain ⟨_, _, _, sA, lA⟩ := hA.open
            obtain ⟨_, _, _, sB, lB⟩ := hB.open
            obtain ⟨b, o, c1, c2, c3, c4, c5⟩ := sA.kids
            obtain ⟨b', o', d1, d2, d3, d4, d5⟩ := sB.kids
            clear sA sB hA hB c4 d4
            have HC := Lib.hid c5; have HD := Lib.hid d5; have HI := Lib.hid ih; have LA := Lib.hid lA; have LB := Lib.hid lB; have HL := Lib.hid h5
            have g5 : (((kids.length : Nat) : Int) != ((kids'.length : Nat) : Int)) = false := by simp [h5]
            clear c5 d5 ih lA lB h5
            go_enter Try.func16, Try.ntmps16
            go_wp2
            go_loopw [5] (fun i wr => ∃ j : Nat, j ≤ kids.length ∧ i = .int .i64 j ∧ (∀ x, x < j → ∀ (h : x < kids.length) (h' : x < kids'.length), eqT kids[x].tr kids'[x].tr = true) ∧ Box wr w.heap.size (nodeC k s a kids.length cap lo hi).toArray 37 ∧ Box wr (w.heap.size + 1) (nodeC k s a' kids'.length cap' lo hi).toArray 37 ∧ Below w.heap.size w wr) (fun i _ => kids.length - (intOf i).toNat)
            case atStart => exact ⟨0, Nat.zero_le _, rfl, fun x hx => absurd hx (Nat.not_lt_zero x), (Box.new' rfl _ _).alloc _, Box.new' (World.size_alloc _ _).symm _ _, by go_grown⟩
            case round =>
              obtain ⟨j, hj, rfl, hno, hb0, hb1, hB⟩ := hrel
              have HN := Lib.hid hno
              clear hno
              obtain ⟨p0, p1, p2, p3, p4, p5, p6, p7⟩ := hb0.node
              obtain ⟨q0, q1, q2, q3, q4, q5, q6, q7⟩ := hb1.node
              by_cases hlt : j < kids.length
              · have hlt' : j < kids'.length := by rw [← HL.out]; exact hlt
                obtain rfl := c3 j hlt
                obtain rfl := d3 j hlt'
                have e1 := HC.out j hlt wr hB
                have e2 := HD.out j hlt' wr hB
                have i1 := HI.out j hlt kids'[j] wr.drew ((LA.out j hlt).kept hB.drew) ((LB.out j hlt').kept hB.drew)
                have hr1 := fun (h : eqT kids[j].tr kids'[j].tr = true) => (fun x (hx : x < j + 1) (h1 : x < kids.length) (h2 : x < kids'.length) => (if e : x = j then by subst e; exact h else HN.out x (by omega) h1 h2 : eqT kids[x].tr kids'[x].tr = true))
                have hr2 := fun (h : eqT kids[j].tr kids'[j].tr = false) => eqT_kid (k := k) (k' := k) (s := s) (s' := s) (lo := lo) (lo' := lo) (hi := hi) (hi' := hi) (l := kids.map Vt.tr) (l' := kids'.map Vt.tr) j (by simpa using hlt) (by simpa using hlt') (by simpa using h)
                have R1 := Lib.hid hr1; have R2 := Lib.hid hr2
                clear hr1 hr2
                generalize kids[j] = V at *
                generalize kids'[j] = V' at *
                obtain ⟨k1, s1, a1, cp1, ks1, lo1, hi1⟩ := V
                obtain ⟨k2, s2, a2, cp2, ks2, lo2, hi2⟩ := V'
                obtain ⟨x0, x1, x2, x3, x4, x5, x6, x7⟩ := cells8 e1
                obtain ⟨y0, y1, y2, y3, y4, y5, y6, y7⟩ := cells8 e2
                change Calls _ _ #[.agg (nodeC k1 s1 a1 ks1.length cp1 lo1 hi1).toArray, .agg (nodeC k2 s2 a2 ks2.length cp2 lo2 hi2).toArray] _ _ at i1
                clear e1 e2 c3 d3
                cases hr : eqT (Vt.mk k1 s1 a1 cp1 ks1 lo1 hi1).tr (Vt.mk k2 s2 a2 cp2 ks2 lo2 hi2).tr with
                | true =>
                  have HR := Lib.hid (R1.out hr)
                  rw [hr] at i1
                  have I1 := Lib.hid i1
                  clear hr R1 R2 i1
                  go_wp2_with fail
                  go_still_tail 10, (by kernel_rfl)
                  change wpList _ _ _ _ _ wr.drew
                  go_wp2_with (go_at_call 16; go_must (refine I1.out.mono ?_; rintro e w1 ⟨rfl, hb⟩))
                  go_roundw
                  case rel => exact ⟨j + 1, hlt, by go_num, HR.out, hb0.drew.kept hb, hb1.drew.kept hb, hB.drew.trans (hb.mono hB.drew.size)⟩
                  case measure => simp [intOf]; omega
                | false =>
                  have HR := Lib.hid (R2.out hr)
                  rw [hr] at i1
                  have I1 := Lib.hid i1
                  clear hr R1 R2 i1
                  go_wp2_with fail
                  go_still_tail 10, (by kernel_rfl)
                  change wpList _ _ _ _ _ wr.drew
                  go_wp2_with (go_at_call 16; go_must (refine I1.out.mono ?_; rintro e w1 ⟨rfl, hb⟩))
                  go_ret
                  exact ⟨by rw [HR.out]; rfl, hB.drew.trans (hb.mono hB.drew.size)⟩
              · have HE := Lib.hid (eqT_all (k := k) (s := s) (lo := lo) (hi := hi) (l := kids.map Vt.tr) (l' := kids'.map Vt.tr) (by simpa using HL.out) (fun i h1 h2 => by rw [List.getElem_map, List.getElem_map]; rw [List.length_map] at h1 h2; exact HN.out i (by omega) h1 h2))
                go_wp2
                go_ret
                exact ⟨by rw [HE.out]; rfl, hB⟩
          · rw [eqT_head (fun h => h5 (by simpa using h.2.2.2.2))]
            have g5 : (((kids.length : Nat) : Int) != ((kids'.length : Nat) : Int)) = true := by simp; omega
            clear ih hA hB h5
            go_enter Try.func16, Try.ntmps16
            go_wp2
            go_ret
            exact ⟨rfl, by go_grown⟩
        · rw [eqT_head (fun h => h4 h.2.2.2.1)]
          have g4 : (hi != hi') = true := by simpa using h4
          clear ih hA hB h4
          go_enter Try.func16, Try.ntmps16
          go_wp2
          go_ret
          exact ⟨rfl, by go_grown⟩
      · rw [eqT_head (fun h => h3 h.2.2.1)]
        have g3 : (lo != lo') = true := by simpa using h3
        clear ih hA hB h3
        go_enter Try.func16, Try.ntmps16
        go_wp2
        go_ret
        exact ⟨rfl, by go_grown⟩
    · rw [eqT_head (fun h => h2 h.2.1)]
      rw [decide_eq_false h2] at hq
      clear ih hA hB h2
      go_enter Try.func16, Try.ntmps16
      go_wp2
      go_ret
      exact ⟨rfl, by go_grown⟩
  · rw [eqT_head (fun h => h1 h.1)]
    have g1 : (k != k') = true := by simpa using h1
    clear h1 ih hA hB hq
    go_enter Try.func16, Try.ntmps16
    go_wp2
    go_ret
    exact ⟨rfl, by go_grown⟩
end Go.Proofs.Ytinlfbacfmmfpaa
