/- The law TreeAsks returns true for every tree, and leaves it as it was. Condition: what comes in is of bulk at most 1,048,576 (the form Upto). -/
import Derived.Test.YtinlfbacfmmfpaaTreeIn
import Derived.Test.YtinlfbacfmmfpaaKnows06
import Derived.Test.YtinlfbacfmmfpaaRefTree
import Derived.Test.YtinlfbacfmmfpaaLeaves
import Derived.Test.YtinlfbacfmmfpaaBulk
namespace Go.Proofs.Ytinlfbacfmmfpaa
open Go.ChangeShapes Go.WideShapes Go.ChangeAt Go.RowKit

set_option maxRecDepth 20000 in
set_option maxHeartbeats 4000000 in
theorem law_TreeAsks (A : Vt) (w : World) (hA : Lies w A) (hsz : sizeT A.tr ≤ 1048576) : Calls Try.prog 7 #[.agg A.cells.toArray] w (Ret w (.bool true)) := by
  have hs2 : sizeT A.tr ≤ 1099511627776 := by omega
  have c1 := fun w' (h : Below w.heap.size w w') => tree_Right A w' (hA.kept h)
  have c2 := fun w' (h : Below w.heap.size w w') => ref_Right6 A w' (hA.kept h) hs2
  have c3 := fun w' (h : Below w.heap.size w w') => tree_Size A w' (hA.kept h) hs2
  have c4 := fun w' (h : Below w.heap.size w w') => ref_Size6 A w' (hA.kept h) hs2
  have c5 := fun w' (h : Below w.heap.size w w') => tree_Copy A w' (hA.kept h) hs2
  have c6 := fun w' (V : Vt) (h : Below w.heap.size w w') (hV : Lies w' V) (hT : V.tr = A.tr) => ref_Same6 V A w' hV (hA.kept h)
  have c7 := fun w' (h : Below w.heap.size w w') => tree_Leaves A w' (hA.kept h) hs2
  have c8 := fun w' (h : Below w.heap.size w w') => ref_Leaves6 A w' (hA.kept h) hs2
  have hlz := leaves_le A.tr
  generalize hTr : A.tr = T at *
  generalize rightT T = r at *
  obtain ⟨z, hz⟩ : ∃ z, sizeT T = z := ⟨_, rfl⟩
  rw [hz] at c3 c4 hlz hsz
  generalize leavesT T = L at *
  obtain ⟨k1, s1, a1, cap1, kids1, lo1, hi1⟩ := A
  have C1 : Hid (∀ w', ((w'.cell? ⟨w.heap.size, 0, none⟩ = some (.int .i64 k1) ∧ w'.cell? ⟨w.heap.size, 1, none⟩ = some (.int .u64 (word s1 0 : Nat)) ∧ w'.cell? ⟨w.heap.size, 2, none⟩ = some (.int .u64 (word s1 1 : Nat)) ∧ w'.cell? ⟨w.heap.size, 3, none⟩ = some (.int .u64 (word s1 2 : Nat)) ∧ w'.cell? ⟨w.heap.size, 4, none⟩ = some (.int .u64 (word s1 3 : Nat)) ∧ w'.cell? ⟨w.heap.size, 5, none⟩ = some (.slice a1 kids1.length cap1) ∧ w'.cell? ⟨w.heap.size, 6, none⟩ = some (.int .i64 lo1) ∧ w'.cell? ⟨w.heap.size, 7, none⟩ = some (.int .i64 hi1)) ∧ Box w' w.heap.size (nodeC k1 s1 a1 kids1.length cap1 lo1 hi1).toArray 37 ∧ Below w.heap.size w w') → Calls Try.prog 25 #[.agg (nodeC k1 s1 a1 kids1.length cap1 lo1 hi1).toArray] w' (Ret w' (.bool r))) := Lib.hid fun w' h => c1 w' h.2.2
  have C2 : Hid (∀ w', ((w'.cell? ⟨w.heap.size, 0, none⟩ = some (.int .i64 k1) ∧ w'.cell? ⟨w.heap.size, 1, none⟩ = some (.int .u64 (word s1 0 : Nat)) ∧ w'.cell? ⟨w.heap.size, 2, none⟩ = some (.int .u64 (word s1 1 : Nat)) ∧ w'.cell? ⟨w.heap.size, 3, none⟩ = some (.int .u64 (word s1 2 : Nat)) ∧ w'.cell? ⟨w.heap.size, 4, none⟩ = some (.int .u64 (word s1 3 : Nat)) ∧ w'.cell? ⟨w.heap.size, 5, none⟩ = some (.slice a1 kids1.length cap1) ∧ w'.cell? ⟨w.heap.size, 6, none⟩ = some (.int .i64 lo1) ∧ w'.cell? ⟨w.heap.size, 7, none⟩ = some (.int .i64 hi1)) ∧ Box w' w.heap.size (nodeC k1 s1 a1 kids1.length cap1 lo1 hi1).toArray 37 ∧ Below w.heap.size w w') → Calls Try.prog 26 #[.agg (nodeC k1 s1 a1 kids1.length cap1 lo1 hi1).toArray] w' (Ret w' (.bool r))) := Lib.hid fun w' h => c2 w' h.2.2
  have C3 : Hid (∀ w', ((w'.cell? ⟨w.heap.size, 0, none⟩ = some (.int .i64 k1) ∧ w'.cell? ⟨w.heap.size, 1, none⟩ = some (.int .u64 (word s1 0 : Nat)) ∧ w'.cell? ⟨w.heap.size, 2, none⟩ = some (.int .u64 (word s1 1 : Nat)) ∧ w'.cell? ⟨w.heap.size, 3, none⟩ = some (.int .u64 (word s1 2 : Nat)) ∧ w'.cell? ⟨w.heap.size, 4, none⟩ = some (.int .u64 (word s1 3 : Nat)) ∧ w'.cell? ⟨w.heap.size, 5, none⟩ = some (.slice a1 kids1.length cap1) ∧ w'.cell? ⟨w.heap.size, 6, none⟩ = some (.int .i64 lo1) ∧ w'.cell? ⟨w.heap.size, 7, none⟩ = some (.int .i64 hi1)) ∧ Box w' w.heap.size (nodeC k1 s1 a1 kids1.length cap1 lo1 hi1).toArray 37 ∧ Below w.heap.size w w') → Calls Try.prog 27 #[.agg (nodeC k1 s1 a1 kids1.length cap1 lo1 hi1).toArray] w' (Ret w' (.int .i64 (z : Nat)))) := Lib.hid fun w' h => c3 w' h.2.2
  have C4 : Hid (∀ w', ((w'.cell? ⟨w.heap.size, 0, none⟩ = some (.int .i64 k1) ∧ w'.cell? ⟨w.heap.size, 1, none⟩ = some (.int .u64 (word s1 0 : Nat)) ∧ w'.cell? ⟨w.heap.size, 2, none⟩ = some (.int .u64 (word s1 1 : Nat)) ∧ w'.cell? ⟨w.heap.size, 3, none⟩ = some (.int .u64 (word s1 2 : Nat)) ∧ w'.cell? ⟨w.heap.size, 4, none⟩ = some (.int .u64 (word s1 3 : Nat)) ∧ w'.cell? ⟨w.heap.size, 5, none⟩ = some (.slice a1 kids1.length cap1) ∧ w'.cell? ⟨w.heap.size, 6, none⟩ = some (.int .i64 lo1) ∧ w'.cell? ⟨w.heap.size, 7, none⟩ = some (.int .i64 hi1)) ∧ Box w' w.heap.size (nodeC k1 s1 a1 kids1.length cap1 lo1 hi1).toArray 37 ∧ Below w.heap.size w w') → Calls Try.prog 28 #[.agg (nodeC k1 s1 a1 kids1.length cap1 lo1 hi1).toArray] w' (Ret w' (.int .i64 (z : Nat)))) := Lib.hid fun w' h => c4 w' h.2.2
  have C5 : Hid (∀ w', ((w'.cell? ⟨w.heap.size, 0, none⟩ = some (.int .i64 k1) ∧ w'.cell? ⟨w.heap.size, 1, none⟩ = some (.int .u64 (word s1 0 : Nat)) ∧ w'.cell? ⟨w.heap.size, 2, none⟩ = some (.int .u64 (word s1 1 : Nat)) ∧ w'.cell? ⟨w.heap.size, 3, none⟩ = some (.int .u64 (word s1 2 : Nat)) ∧ w'.cell? ⟨w.heap.size, 4, none⟩ = some (.int .u64 (word s1 3 : Nat)) ∧ w'.cell? ⟨w.heap.size, 5, none⟩ = some (.slice a1 kids1.length cap1) ∧ w'.cell? ⟨w.heap.size, 6, none⟩ = some (.int .i64 lo1) ∧ w'.cell? ⟨w.heap.size, 7, none⟩ = some (.int .i64 hi1)) ∧ Box w' w.heap.size (nodeC k1 s1 a1 kids1.length cap1 lo1 hi1).toArray 37 ∧ Below w.heap.size w w') → Calls Try.prog 29 #[.agg (nodeC k1 s1 a1 kids1.length cap1 lo1 hi1).toArray] w' (RetT w' T)) := Lib.hid fun w' h => c5 w' h.2.2
  have C6 : Hid (∀ w' {k2 : Int} {s2 : BSet} {a2 : Option Addr} {cp2 : Nat} {ks2 : List Vt} {lo2 hi2 : Int}, True → ((w'.cell? ⟨w.heap.size, 0, none⟩ = some (.int .i64 k1) ∧ w'.cell? ⟨w.heap.size, 1, none⟩ = some (.int .u64 (word s1 0 : Nat)) ∧ w'.cell? ⟨w.heap.size, 2, none⟩ = some (.int .u64 (word s1 1 : Nat)) ∧ w'.cell? ⟨w.heap.size, 3, none⟩ = some (.int .u64 (word s1 2 : Nat)) ∧ w'.cell? ⟨w.heap.size, 4, none⟩ = some (.int .u64 (word s1 3 : Nat)) ∧ w'.cell? ⟨w.heap.size, 5, none⟩ = some (.slice a1 kids1.length cap1) ∧ w'.cell? ⟨w.heap.size, 6, none⟩ = some (.int .i64 lo1) ∧ w'.cell? ⟨w.heap.size, 7, none⟩ = some (.int .i64 hi1)) ∧ Box w' w.heap.size (nodeC k1 s1 a1 kids1.length cap1 lo1 hi1).toArray 37 ∧ Below w.heap.size w w') → Lies w' (.mk k2 s2 a2 cp2 ks2 lo2 hi2) → (Vt.mk k2 s2 a2 cp2 ks2 lo2 hi2).tr = T → Calls Try.prog 16 #[.agg (nodeC k2 s2 a2 ks2.length cp2 lo2 hi2).toArray, .agg (nodeC k1 s1 a1 kids1.length cap1 lo1 hi1).toArray] w' (Ret w' (.bool true))) := Lib.hid fun w' {k2 s2 a2 cp2 ks2 lo2 hi2} _ h hV hT => by
    have := c6 w' _ h.2.2 hV hT
    rw [hT, eqT_refl] at this
    exact this
  have C7 : Hid (∀ w', Below w.heap.size w w' → Calls Try.prog 30 #[.agg (nodeC k1 s1 a1 kids1.length cap1 lo1 hi1).toArray] w' (RetOwn w' 34 4 encS L)) := Lib.hid fun w' h => c7 w' h
  have C8 : Hid (∀ w', Below w.heap.size w w' → Calls Try.prog 31 #[.agg (nodeC k1 s1 a1 kids1.length cap1 lo1 hi1).toArray] w' (RetOwn w' 34 4 encS L)) := Lib.hid fun w' h => c8 w' h
  have hq : ∀ (u : BSet) (w : World), (Op.equalIn 10000 34 (setV u) (setV u)).run Try.prog w = .ok true w := fun u w => by rw [run_eqS (P := Try.prog) (t := 34) (e := 32) Try.underlying34 Try.underlying32 (by kernel_rfl) u u w, decide_eq_true rfl]
  have HQ := Lib.hid hq
  clear c1 c2 c3 c4 c5 c6 c7 c8 hA hTr hz hs2 hq
  have HK : Hid (∀ w1 w2, ((w1.cell? ⟨w.heap.size, 0, none⟩ = some (.int .i64 k1) ∧ w1.cell? ⟨w.heap.size, 1, none⟩ = some (.int .u64 (word s1 0 : Nat)) ∧ w1.cell? ⟨w.heap.size, 2, none⟩ = some (.int .u64 (word s1 1 : Nat)) ∧ w1.cell? ⟨w.heap.size, 3, none⟩ = some (.int .u64 (word s1 2 : Nat)) ∧ w1.cell? ⟨w.heap.size, 4, none⟩ = some (.int .u64 (word s1 3 : Nat)) ∧ w1.cell? ⟨w.heap.size, 5, none⟩ = some (.slice a1 kids1.length cap1) ∧ w1.cell? ⟨w.heap.size, 6, none⟩ = some (.int .i64 lo1) ∧ w1.cell? ⟨w.heap.size, 7, none⟩ = some (.int .i64 hi1)) ∧ Box w1 w.heap.size (nodeC k1 s1 a1 kids1.length cap1 lo1 hi1).toArray 37 ∧ Below w.heap.size w w1) → Below w1.heap.size w1 w2 → ((w2.cell? ⟨w.heap.size, 0, none⟩ = some (.int .i64 k1) ∧ w2.cell? ⟨w.heap.size, 1, none⟩ = some (.int .u64 (word s1 0 : Nat)) ∧ w2.cell? ⟨w.heap.size, 2, none⟩ = some (.int .u64 (word s1 1 : Nat)) ∧ w2.cell? ⟨w.heap.size, 3, none⟩ = some (.int .u64 (word s1 2 : Nat)) ∧ w2.cell? ⟨w.heap.size, 4, none⟩ = some (.int .u64 (word s1 3 : Nat)) ∧ w2.cell? ⟨w.heap.size, 5, none⟩ = some (.slice a1 kids1.length cap1) ∧ w2.cell? ⟨w.heap.size, 6, none⟩ = some (.int .i64 lo1) ∧ w2.cell? ⟨w.heap.size, 7, none⟩ = some (.int .i64 hi1)) ∧ Box w2 w.heap.size (nodeC k1 s1 a1 kids1.length cap1 lo1 hi1).toArray 37 ∧ Below w.heap.size w w2)) := Lib.hid fun w1 w2 ⟨h1, h2, h3⟩ hb => ⟨(h2.kept hb).node, h2.kept hb, h3.trans (hb.mono h3.size)⟩
  have H0 : Hid (((w.alloc (.cells (nodeC k1 s1 a1 kids1.length cap1 lo1 hi1).toArray 37)).drew.cell? ⟨w.heap.size, 0, none⟩ = some (.int .i64 k1) ∧ (w.alloc (.cells (nodeC k1 s1 a1 kids1.length cap1 lo1 hi1).toArray 37)).drew.cell? ⟨w.heap.size, 1, none⟩ = some (.int .u64 (word s1 0 : Nat)) ∧ (w.alloc (.cells (nodeC k1 s1 a1 kids1.length cap1 lo1 hi1).toArray 37)).drew.cell? ⟨w.heap.size, 2, none⟩ = some (.int .u64 (word s1 1 : Nat)) ∧ (w.alloc (.cells (nodeC k1 s1 a1 kids1.length cap1 lo1 hi1).toArray 37)).drew.cell? ⟨w.heap.size, 3, none⟩ = some (.int .u64 (word s1 2 : Nat)) ∧ (w.alloc (.cells (nodeC k1 s1 a1 kids1.length cap1 lo1 hi1).toArray 37)).drew.cell? ⟨w.heap.size, 4, none⟩ = some (.int .u64 (word s1 3 : Nat)) ∧ (w.alloc (.cells (nodeC k1 s1 a1 kids1.length cap1 lo1 hi1).toArray 37)).drew.cell? ⟨w.heap.size, 5, none⟩ = some (.slice a1 kids1.length cap1) ∧ (w.alloc (.cells (nodeC k1 s1 a1 kids1.length cap1 lo1 hi1).toArray 37)).drew.cell? ⟨w.heap.size, 6, none⟩ = some (.int .i64 lo1) ∧ (w.alloc (.cells (nodeC k1 s1 a1 kids1.length cap1 lo1 hi1).toArray 37)).drew.cell? ⟨w.heap.size, 7, none⟩ = some (.int .i64 hi1)) ∧ Box (w.alloc (.cells (nodeC k1 s1 a1 kids1.length cap1 lo1 hi1).toArray 37)).drew w.heap.size (nodeC k1 s1 a1 kids1.length cap1 lo1 hi1).toArray 37 ∧ Below w.heap.size w (w.alloc (.cells (nodeC k1 s1 a1 kids1.length cap1 lo1 hi1).toArray 37)).drew) := Lib.hid ⟨(Box.new w (nodeC k1 s1 a1 kids1.length cap1 lo1 hi1).toArray 37).drew.node, (Box.new w (nodeC k1 s1 a1 kids1.length cap1 lo1 hi1).toArray 37).drew, by go_grown⟩
  change Calls _ _ #[.agg (nodeC k1 s1 a1 kids1.length cap1 lo1 hi1).toArray] _ _
  go_enter Try.func7, Try.ntmps7
  go_wp2
  go_region_held3 (fun w' => (w'.cell? ⟨w.heap.size, 0, none⟩ = some (.int .i64 k1) ∧ w'.cell? ⟨w.heap.size, 1, none⟩ = some (.int .u64 (word s1 0 : Nat)) ∧ w'.cell? ⟨w.heap.size, 2, none⟩ = some (.int .u64 (word s1 1 : Nat)) ∧ w'.cell? ⟨w.heap.size, 3, none⟩ = some (.int .u64 (word s1 2 : Nat)) ∧ w'.cell? ⟨w.heap.size, 4, none⟩ = some (.int .u64 (word s1 3 : Nat)) ∧ w'.cell? ⟨w.heap.size, 5, none⟩ = some (.slice a1 kids1.length cap1) ∧ w'.cell? ⟨w.heap.size, 6, none⟩ = some (.int .i64 lo1) ∧ w'.cell? ⟨w.heap.size, 7, none⟩ = some (.int .i64 hi1)) ∧ Box w' w.heap.size (nodeC k1 s1 a1 kids1.length cap1 lo1 hi1).toArray 37 ∧ Below w.heap.size w w') (first | exact H0.out | exact HK.out _ _ (by assumption) hb) (first | (go_at_call 25; (with_reducible refine (C1.out _ (by assumption)).mono ?_); rintro e w1 ⟨rfl, hb⟩) | (go_at_call 26; (with_reducible refine (C2.out _ (by assumption)).mono ?_); rintro e w1 ⟨rfl, hb⟩) | (go_at_call 27; (with_reducible refine (C3.out _ (by assumption)).mono ?_); rintro e w1 ⟨rfl, hb⟩) | (go_at_call 28; (with_reducible refine (C4.out _ (by assumption)).mono ?_); rintro e w1 ⟨rfl, hb⟩) | (go_at_call 29; (with_reducible refine (C5.out _ (by assumption)).mono ?_); intro e w1 h1; obtain ⟨k2, s2, a2, cp2, ks2, lo2, hi2, rfl, hT, hL, _, hb⟩ := h1.open; have HT := Lib.hid hT; clear h1 hT) | (go_at_call 16; (with_reducible refine (C6.out _ trivial (by assumption) hL HT.out).mono ?_); rintro e w1 ⟨rfl, hb⟩))
  rename_i hS
  obtain ⟨⟨p0, p1, p2, p3, p4, p5, p6, p7⟩, hbx, hB⟩ := hS
  go_wp2_with fail
  refine (C7.out _ hB).mono ?_
  intro e w7 h7
  obtain ⟨a7, cap7, rfl, ho7, hb7⟩ := h7.open
  clear h7
  have hB7 := hB.trans (hb7.mono hB.size)
  obtain ⟨q0, q1, q2, q3, q4, q5, q6, q7⟩ := (hbx.kept hb7).node
  go_wp2_with fail
  refine (C8.out _ hB7).mono ?_
  intro e w8 h8
  obtain ⟨a8, cap8, rfl, ho8, hb8⟩ := h8.open
  clear h8
  have hB8 := hB7.trans (hb8.mono hB7.size)
  have ho9 := ho7.kept hb8
  go_wp2_with fail
  go_loopw [5] (fun i wr => ∃ j : Nat, j ≤ L.length ∧ i = .int .i64 j ∧ (∃ B1, Own wr B1 34 4 encS (.slice a7 L.length cap7) L) ∧ (∃ B2, Own wr B2 34 4 encS (.slice a8 L.length cap8) L) ∧ Below w.heap.size w wr) (fun i _ => L.length - (intOf i).toNat)
  case atStart => exact ⟨0, Nat.zero_le _, rfl, ⟨_, ho9⟩, ⟨_, ho8⟩, hB8⟩
  case round =>
    obtain ⟨j, hj, rfl, ⟨B1, o1⟩, ⟨B2, o2⟩, hBr⟩ := hrel
    by_cases hlt : j < L.length
    · obtain ⟨g1, rfl, _, _⟩ := o1.addr (by omega)
      obtain ⟨g2, rfl, _, _⟩ := o2.addr (by omega)
      obtain ⟨⟨x0, x1, x2, x3⟩, _⟩ := o1.cells4 hlt
      obtain ⟨⟨y0, y1, y2, y3⟩, _⟩ := o2.cells4 hlt
      have hq := HQ.out L[j]
      generalize L[j] = u at *
      have i0 : (0 : Int) ≤ (j : Int) := by omega
      have i1 : (j : Int) < (L.length : Int) := by omega
      go_wp2_with fail
      go_quiet (fail)
      go_wp2
      go_roundw
      case rel => exact ⟨j + 1, hlt, by go_num, ⟨B1, o1⟩, ⟨B2, o2⟩, ⟨hBr.os, hBr.tape, hBr.output, hBr.size, hBr.block⟩⟩
      case measure => simp [intOf]; omega
    · go_wp2_with (go_at_call 17; go_must (refine (knows06 _).mono ?_; rintro e w9 ⟨rfl, hb9⟩))
      go_ret
      exact ⟨rfl, hBr.trans (hb9.mono hBr.size)⟩
set_option maxRecDepth 100000 in
theorem contract_TreeAsks (H : Type) (enc : TypeId × Value → H) (W : World) (base : Nat) (args : Array Value) (ds gs : List (DataW H)) (before : List MemPlace)
    (hval0 : ∀ (j : Nat) t v, Try.f7.params[j]? = some t → args[j]? = some v → Value.okWide Try.prog W .any base t v)
    (hW : DataW.Whole enc Try.prog Try.f7.params.toList Rows.treeAsksSpec.vars false W args.toList ds gs before) (hk : Rows.uptoSmall H (ds ++ gs) = true) :
    Calls Try.prog 7 args W fun e W' => ∃ v, e = .returned v ∧ Rows.treeAsksSpec.post enc Try.prog Try.f7 false true false false W args v W' := by
  have hval : ∀ (j : Nat) t v, Try.f7.params[j]? = some t → args[j]? = some v → Value.okWide Try.prog W .any base t v := hval0
  have hW' := hW
  obtain ⟨p, q, hA0, hV, rfl, hfz, hnd⟩ := hW
  have hA : DataW.TrodAll enc Try.prog W 0 (fun _ => true) true Try.f7.params.toList args.toList ds p := hA0
  rw [Try.params7] at hA hval
  obtain ⟨v0, vs0, d0, ds0, p0, q0, hargs, rfl, rfl, h00, r0⟩ := trodAll_cons hA
  obtain ⟨rfl, rfl, rfl⟩ := trodAll_nil r0
  obtain rfl : args = #[v0] := by cases args; simp_all
  obtain ⟨rfl, rfl⟩ := trodVars_none hV
  have hk1 : Rows.uptoBulkAll ([d0] ++ []) ≤ 1048576 := of_decide_eq_true hk
  simp only [List.append_nil, Rows.uptoBulkAll] at hk1
  have k00 := h00
  have lt0 : ∀ x ∈ p0, x.block < W.heap.size := by obtain ⟨m, hm⟩ := k00; exact DataW.trod_lt m _ _ _ hm
  obtain ⟨x, rfl, hx, hzx⟩ : ∃ T : Vt, v0 = .agg T.cells.toArray ∧ Lies W T ∧ sizeT T.tr ≤ Rows.uptoBulk d0 := by
    obtain ⟨fuel, hfu⟩ := h00
    obtain ⟨cs, hcs, _⟩ := okWide_struct Try.underlying37 (hval 0 37 v0 rfl rfl)
    subst hcs
    obtain ⟨T, h2, h3, h4⟩ := trod_nodeB nodeTys fuel _ _ hfu
    exact ⟨T, by rw [← h2]; rfl, h3, h4⟩
  clear hA0 hval0
  refine (law_TreeAsks x W hx (by omega)).mono fun e W' ⟨he, bel⟩ => ?_
  subst he
  exact ⟨_, rfl, _, _, _, [], _, [], hW', trodAll_mk1 (shut_bool Try.underlying4 _), (trodAll_cons_mk (Below.trod laidOut (by kernel_rfl) (of_decide_eq_true (by kernel_rfl)) k00 bel lt0) trodAll_mk0), rfl, bel.frame _, fun h => by cases h⟩
set_option maxRecDepth 100000 in
theorem lifted_TreeAsks (os : Os) (started : os.Started) (H : Type) (enc : TypeId × Value → H) (F : Stop.Interp) :
    ReturnsInHanded {} Try.checked os 7 .any ((Rows.OpenSpec.upto Rows.treeAsksSpec).pre6 enc Try.prog Try.f7 Rows.treeAsksUptoRow.domain false) (((Rows.OpenSpec.upto Rows.treeAsksSpec).at F).post enc Try.prog Try.f7 false true false false) := by
  refine returnsInHanded_of_cond (C := Try.checked) (s := Rows.OpenSpec.upto Rows.treeAsksSpec) (k := Rows.uptoSmall) rfl own started (by kernel_rfl) Try.func7
    (OpenSpec.witness (enc := enc) (C := Try.checked) (s := Rows.OpenSpec.upto Rows.treeAsksSpec) (k := Rows.uptoSmall) rfl false ⟨#[], #[.agg #[.int .i64 0, .int .u64 0, .int .u64 0, .int .u64 0, .int .u64 0, .slice none 0 0, .int .i64 0, .int .i64 0]], []⟩ 8 (by kernel_rfl) (by kernel_rfl) (by kernel_rfl)
      (x := ([.agg [.lit (.int .i64 0), .agg [.lit (.int .u64 0), .lit (.int .u64 0), .lit (.int .u64 0), .lit (.int .u64 0)], .nil, .lit (.int .i64 0), .lit (.int .i64 0)]], [], [])) (by kernel_rfl) rfl (by kernel_rfl)) ?_
  intro W base args ds gs before hval hW _ hk _
  exact contract_TreeAsks H enc W base args ds gs before hval hW hk
theorem over_TreeAsks : Rows.treeAsksUptoRow.holds Try.pinned (Rows.OpenSpec.upto Rows.treeAsksSpec) :=
  OpenClaim.holds_of_cond 7 Try.f7 rfl rfl rfl rfl rfl rfl rfl ⟨rfl, rfl, rfl, rfl, rfl⟩ rfl rfl rfl rfl rfl (by kernel_rfl) Try.func7 (by kernel_rfl)
    (of_decide_eq_true (by kernel_rfl)) (by unfold Func.isWrapper; first | (rw [if_pos (by decide +kernel)]; kernel_rfl) | (rw [if_neg (by decide +kernel)]; exact ⟨rfl, rfl⟩))
    (fun os started H enc _ F => lifted_TreeAsks os started H enc F)
theorem TreeAsks_holds : Rows.TreeAsksUptoSaid := over_TreeAsks
#print axioms TreeAsks_holds
end Go.Proofs.Ytinlfbacfmmfpaa
