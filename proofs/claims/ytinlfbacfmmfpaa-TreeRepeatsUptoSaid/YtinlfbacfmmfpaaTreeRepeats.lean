/- The law TreeRepeats returns true for every tree, all numbers and every set, and leaves them as they were. Condition: what comes in is of bulk at most 1,048,576 (the form Upto). -/
import Derived.Test.YtinlfbacfmmfpaaTreeIn
import Derived.Test.YtinlfbacfmmfpaaKnows06
import Derived.Test.YtinlfbacfmmfpaaTreeOver
import Derived.Test.YtinlfbacfmmfpaaBulk
import Derived.Deep.DeepCutAuto
import Derived.IntWalk
namespace Go.Proofs.Ytinlfbacfmmfpaa
open Go.ChangeShapes Go.WideShapes Go.ChangeAt Go.RowKit

theorem right_leaf (s : BSet) : rightT (leafT 3 s) = true := by
  unfold rightT
  simp [sizeT, sizeTs, allT, allTs, oneB, show arityZ 3 = 0 by decide]
theorem right_opt (T : Tr) : rightT (.mk 8 0 [T] 0 0) = (rightT T && decide (sizeT T < 4096)) := by
  unfold rightT
  rw [show sizeT (.mk 8 0 [T] 0 0) = sizeT T + 1 by simp only [sizeT, sizeTs]; omega, show allT (.mk 8 0 [T] 0 0) = allT T by simp [allT, allTs, oneB, show arityZ 8 = 1 by decide]]
  by_cases h : sizeT T < 4096
  · rw [decide_eq_true (show sizeT T + 1 ≤ 4096 by omega), decide_eq_true (show sizeT T ≤ 4096 by omega), decide_eq_true h]; simp
  · rw [decide_eq_false (show ¬ sizeT T + 1 ≤ 4096 by omega), decide_eq_false h]; simp
theorem right_rep (T : Tr) (lo hi : Int) : rightT (.mk 9 0 [T] lo hi) = ((rightT T && decide (sizeT T < 4096)) && timesB lo hi) := by
  unfold rightT
  rw [show sizeT (.mk 9 0 [T] lo hi) = sizeT T + 1 by simp only [sizeT, sizeTs]; omega, show allT (.mk 9 0 [T] lo hi) = (timesB lo hi && allT T) by simp [allT, allTs, oneB, show arityZ 9 = 1 by decide]]
  by_cases h : sizeT T < 4096
  · rw [decide_eq_true (show sizeT T + 1 ≤ 4096 by omega), decide_eq_true (show sizeT T ≤ 4096 by omega), decide_eq_true h]; simp [Bool.and_comm]
  · rw [decide_eq_false (show ¬ sizeT T + 1 ≤ 4096 by omega), decide_eq_false h]; simp
set_option maxRecDepth 100000 in
set_option maxHeartbeats 16000000 in
theorem law_TreeRepeats (A : Vt) (lo hi : Int) (st : BSet) (w : World) (hA : Lies w A) (hsz : sizeT A.tr ≤ 1048576) (hlo : I64 lo) (hhi : I64 hi) :
    Calls Try.prog 8 #[.agg A.cells.toArray, .int .i64 lo, .int .i64 hi, setV st] w (Ret w (.bool true)) := by
  have hs2 : sizeT A.tr ≤ 1099511627776 := by omega
  have cstar := fun w' (h : Below w.heap.size w w') => tree_Star A w' (hA.kept h) hs2
  have cplus := fun w' (h : Below w.heap.size w w') => tree_Plus A w' (hA.kept h) hs2
  have copt := fun w' (h : Below w.heap.size w w') => tree_Opt A w' (hA.kept h) hs2
  have crep := fun w' (h : Below w.heap.size w w') => tree_Rep A lo hi hlo hhi w' (hA.kept h) hs2
  have crrep := fun w' (h : Below w.heap.size w w') => (ref_Rep6 A lo hi hlo hhi w' (hA.kept h)).mono fun e w2 h => show RetL w' _ e w2 from (by obtain ⟨V, h1, h2, h3, _, h5⟩ := h; exact ⟨V, h1, h2, h3, h5⟩)
  have cof := fun (k : Int) w' (hk : I64 k) (hx : Box w' (w.heap.size + 1 + 1) A.cells.toArray 37) (h : Below w.heap.size w w') => (ref_Of6 (fun b => b < w.heap.size) k hk [A] (some ⟨w.heap.size + 1 + 1, 0, none⟩) 1 w' (by
    refine ⟨_, w.heap.size + 1 + 1, 0, 1, rfl, Nat.le_refl _, by simp [maxLen], .inl rfl, fun i hi j u hu => ?_⟩
    obtain rfl : i = 0 := by simp at hi; omega
    rw [hx.cell, Nat.zero_mul, Nat.zero_add]; simpa using hu) (fun i hi => by
    obtain rfl : i = 0 := by simp at hi; omega
    exact hA.kept h) (fun i hi => by
    obtain rfl : i = 0 := by simp at hi; omega
    exact hA.on) (by simp) (by simp)).mono fun e w2 h => show RetL w' _ e w2 from (by obtain ⟨V, h1, h2, h3, _, h5⟩ := h; exact ⟨V, h1, h2, h3, h5⟩)
  have crx := fun w' (h : Below w.heap.size w w') => tree_Right A w' (hA.kept h)
  have csx := fun w' (h : Below w.heap.size w w') => tree_Size A w' (hA.kept h) hs2
  simp only [List.map_singleton, List.length_singleton] at cof
  generalize hTr : A.tr = T at *
  obtain ⟨z, hz⟩ : ∃ z, sizeT T = z := ⟨_, rfl⟩
  obtain ⟨r, hr⟩ : ∃ r, rightT T = r := ⟨_, rfl⟩
  obtain ⟨u, hu⟩ : ∃ u, (r && decide (z < 4096)) = u := ⟨_, rfl⟩
  have HU : (rightT T && decide (sizeT T < 4096)) = u := by rw [hr, hz]; exact hu
  rw [hr] at crx
  rw [hz] at csx hsz
  obtain ⟨k1, s1, a1, cap1, kids1, lo1, hi1⟩ := A
  have CStar : Hid (∀ w', ((w'.cell? ⟨w.heap.size, 0, none⟩ = some (.int .i64 k1) ∧ w'.cell? ⟨w.heap.size, 1, none⟩ = some (.int .u64 (word s1 0 : Nat)) ∧ w'.cell? ⟨w.heap.size, 2, none⟩ = some (.int .u64 (word s1 1 : Nat)) ∧ w'.cell? ⟨w.heap.size, 3, none⟩ = some (.int .u64 (word s1 2 : Nat)) ∧ w'.cell? ⟨w.heap.size, 4, none⟩ = some (.int .u64 (word s1 3 : Nat)) ∧ w'.cell? ⟨w.heap.size, 5, none⟩ = some (.slice a1 kids1.length cap1) ∧ w'.cell? ⟨w.heap.size, 6, none⟩ = some (.int .i64 lo1) ∧ w'.cell? ⟨w.heap.size, 7, none⟩ = some (.int .i64 hi1)) ∧ (w'.cell? ⟨w.heap.size + 1, 0, none⟩ = some (.int .u64 (word st 0 : Nat)) ∧ w'.cell? ⟨w.heap.size + 1, 1, none⟩ = some (.int .u64 (word st 1 : Nat)) ∧ w'.cell? ⟨w.heap.size + 1, 2, none⟩ = some (.int .u64 (word st 2 : Nat)) ∧ w'.cell? ⟨w.heap.size + 1, 3, none⟩ = some (.int .u64 (word st 3 : Nat))) ∧ Box w' w.heap.size (nodeC k1 s1 a1 kids1.length cap1 lo1 hi1).toArray 37 ∧ Box w' (w.heap.size + 1) (setC st) 34 ∧ Box w' (w.heap.size + 1 + 1) (nodeC k1 s1 a1 kids1.length cap1 lo1 hi1).toArray 37 ∧ Below w.heap.size w w') → Calls Try.prog 32 #[.agg (nodeC k1 s1 a1 kids1.length cap1 lo1 hi1).toArray] w' (RetT w' (.mk 6 0 [T] 0 0))) := Lib.hid (fun w' h => cstar w' h.2.2.2.2.2)
  have CPlus : Hid (∀ w', ((w'.cell? ⟨w.heap.size, 0, none⟩ = some (.int .i64 k1) ∧ w'.cell? ⟨w.heap.size, 1, none⟩ = some (.int .u64 (word s1 0 : Nat)) ∧ w'.cell? ⟨w.heap.size, 2, none⟩ = some (.int .u64 (word s1 1 : Nat)) ∧ w'.cell? ⟨w.heap.size, 3, none⟩ = some (.int .u64 (word s1 2 : Nat)) ∧ w'.cell? ⟨w.heap.size, 4, none⟩ = some (.int .u64 (word s1 3 : Nat)) ∧ w'.cell? ⟨w.heap.size, 5, none⟩ = some (.slice a1 kids1.length cap1) ∧ w'.cell? ⟨w.heap.size, 6, none⟩ = some (.int .i64 lo1) ∧ w'.cell? ⟨w.heap.size, 7, none⟩ = some (.int .i64 hi1)) ∧ (w'.cell? ⟨w.heap.size + 1, 0, none⟩ = some (.int .u64 (word st 0 : Nat)) ∧ w'.cell? ⟨w.heap.size + 1, 1, none⟩ = some (.int .u64 (word st 1 : Nat)) ∧ w'.cell? ⟨w.heap.size + 1, 2, none⟩ = some (.int .u64 (word st 2 : Nat)) ∧ w'.cell? ⟨w.heap.size + 1, 3, none⟩ = some (.int .u64 (word st 3 : Nat))) ∧ Box w' w.heap.size (nodeC k1 s1 a1 kids1.length cap1 lo1 hi1).toArray 37 ∧ Box w' (w.heap.size + 1) (setC st) 34 ∧ Box w' (w.heap.size + 1 + 1) (nodeC k1 s1 a1 kids1.length cap1 lo1 hi1).toArray 37 ∧ Below w.heap.size w w') → Calls Try.prog 34 #[.agg (nodeC k1 s1 a1 kids1.length cap1 lo1 hi1).toArray] w' (RetT w' (.mk 7 0 [T] 0 0))) := Lib.hid (fun w' h => cplus w' h.2.2.2.2.2)
  have COpt : Hid (∀ w', ((w'.cell? ⟨w.heap.size, 0, none⟩ = some (.int .i64 k1) ∧ w'.cell? ⟨w.heap.size, 1, none⟩ = some (.int .u64 (word s1 0 : Nat)) ∧ w'.cell? ⟨w.heap.size, 2, none⟩ = some (.int .u64 (word s1 1 : Nat)) ∧ w'.cell? ⟨w.heap.size, 3, none⟩ = some (.int .u64 (word s1 2 : Nat)) ∧ w'.cell? ⟨w.heap.size, 4, none⟩ = some (.int .u64 (word s1 3 : Nat)) ∧ w'.cell? ⟨w.heap.size, 5, none⟩ = some (.slice a1 kids1.length cap1) ∧ w'.cell? ⟨w.heap.size, 6, none⟩ = some (.int .i64 lo1) ∧ w'.cell? ⟨w.heap.size, 7, none⟩ = some (.int .i64 hi1)) ∧ (w'.cell? ⟨w.heap.size + 1, 0, none⟩ = some (.int .u64 (word st 0 : Nat)) ∧ w'.cell? ⟨w.heap.size + 1, 1, none⟩ = some (.int .u64 (word st 1 : Nat)) ∧ w'.cell? ⟨w.heap.size + 1, 2, none⟩ = some (.int .u64 (word st 2 : Nat)) ∧ w'.cell? ⟨w.heap.size + 1, 3, none⟩ = some (.int .u64 (word st 3 : Nat))) ∧ Box w' w.heap.size (nodeC k1 s1 a1 kids1.length cap1 lo1 hi1).toArray 37 ∧ Box w' (w.heap.size + 1) (setC st) 34 ∧ Box w' (w.heap.size + 1 + 1) (nodeC k1 s1 a1 kids1.length cap1 lo1 hi1).toArray 37 ∧ Below w.heap.size w w') → Calls Try.prog 35 #[.agg (nodeC k1 s1 a1 kids1.length cap1 lo1 hi1).toArray] w' (RetT w' (.mk 8 0 [T] 0 0))) := Lib.hid (fun w' h => copt w' h.2.2.2.2.2)
  have CRep : Hid (∀ w', ((w'.cell? ⟨w.heap.size, 0, none⟩ = some (.int .i64 k1) ∧ w'.cell? ⟨w.heap.size, 1, none⟩ = some (.int .u64 (word s1 0 : Nat)) ∧ w'.cell? ⟨w.heap.size, 2, none⟩ = some (.int .u64 (word s1 1 : Nat)) ∧ w'.cell? ⟨w.heap.size, 3, none⟩ = some (.int .u64 (word s1 2 : Nat)) ∧ w'.cell? ⟨w.heap.size, 4, none⟩ = some (.int .u64 (word s1 3 : Nat)) ∧ w'.cell? ⟨w.heap.size, 5, none⟩ = some (.slice a1 kids1.length cap1) ∧ w'.cell? ⟨w.heap.size, 6, none⟩ = some (.int .i64 lo1) ∧ w'.cell? ⟨w.heap.size, 7, none⟩ = some (.int .i64 hi1)) ∧ (w'.cell? ⟨w.heap.size + 1, 0, none⟩ = some (.int .u64 (word st 0 : Nat)) ∧ w'.cell? ⟨w.heap.size + 1, 1, none⟩ = some (.int .u64 (word st 1 : Nat)) ∧ w'.cell? ⟨w.heap.size + 1, 2, none⟩ = some (.int .u64 (word st 2 : Nat)) ∧ w'.cell? ⟨w.heap.size + 1, 3, none⟩ = some (.int .u64 (word st 3 : Nat))) ∧ Box w' w.heap.size (nodeC k1 s1 a1 kids1.length cap1 lo1 hi1).toArray 37 ∧ Box w' (w.heap.size + 1) (setC st) 34 ∧ Box w' (w.heap.size + 1 + 1) (nodeC k1 s1 a1 kids1.length cap1 lo1 hi1).toArray 37 ∧ Below w.heap.size w w') → Calls Try.prog 36 #[.agg (nodeC k1 s1 a1 kids1.length cap1 lo1 hi1).toArray, .int .i64 lo, .int .i64 hi] w' (RetT w' (.mk 9 0 [T] lo hi))) := Lib.hid (fun w' h => crep w' h.2.2.2.2.2)
  have CRRep : Hid (∀ w', ((w'.cell? ⟨w.heap.size, 0, none⟩ = some (.int .i64 k1) ∧ w'.cell? ⟨w.heap.size, 1, none⟩ = some (.int .u64 (word s1 0 : Nat)) ∧ w'.cell? ⟨w.heap.size, 2, none⟩ = some (.int .u64 (word s1 1 : Nat)) ∧ w'.cell? ⟨w.heap.size, 3, none⟩ = some (.int .u64 (word s1 2 : Nat)) ∧ w'.cell? ⟨w.heap.size, 4, none⟩ = some (.int .u64 (word s1 3 : Nat)) ∧ w'.cell? ⟨w.heap.size, 5, none⟩ = some (.slice a1 kids1.length cap1) ∧ w'.cell? ⟨w.heap.size, 6, none⟩ = some (.int .i64 lo1) ∧ w'.cell? ⟨w.heap.size, 7, none⟩ = some (.int .i64 hi1)) ∧ (w'.cell? ⟨w.heap.size + 1, 0, none⟩ = some (.int .u64 (word st 0 : Nat)) ∧ w'.cell? ⟨w.heap.size + 1, 1, none⟩ = some (.int .u64 (word st 1 : Nat)) ∧ w'.cell? ⟨w.heap.size + 1, 2, none⟩ = some (.int .u64 (word st 2 : Nat)) ∧ w'.cell? ⟨w.heap.size + 1, 3, none⟩ = some (.int .u64 (word st 3 : Nat))) ∧ Box w' w.heap.size (nodeC k1 s1 a1 kids1.length cap1 lo1 hi1).toArray 37 ∧ Box w' (w.heap.size + 1) (setC st) 34 ∧ Box w' (w.heap.size + 1 + 1) (nodeC k1 s1 a1 kids1.length cap1 lo1 hi1).toArray 37 ∧ Below w.heap.size w w') → Calls Try.prog 37 #[.agg (nodeC k1 s1 a1 kids1.length cap1 lo1 hi1).toArray, .int .i64 lo, .int .i64 hi] w' (RetL w' (.mk 9 0 [T] lo hi))) := Lib.hid (fun w' h => crrep w' h.2.2.2.2.2)
  have COf : Hid (∀ (k : Int) w', I64 k → ((w'.cell? ⟨w.heap.size, 0, none⟩ = some (.int .i64 k1) ∧ w'.cell? ⟨w.heap.size, 1, none⟩ = some (.int .u64 (word s1 0 : Nat)) ∧ w'.cell? ⟨w.heap.size, 2, none⟩ = some (.int .u64 (word s1 1 : Nat)) ∧ w'.cell? ⟨w.heap.size, 3, none⟩ = some (.int .u64 (word s1 2 : Nat)) ∧ w'.cell? ⟨w.heap.size, 4, none⟩ = some (.int .u64 (word s1 3 : Nat)) ∧ w'.cell? ⟨w.heap.size, 5, none⟩ = some (.slice a1 kids1.length cap1) ∧ w'.cell? ⟨w.heap.size, 6, none⟩ = some (.int .i64 lo1) ∧ w'.cell? ⟨w.heap.size, 7, none⟩ = some (.int .i64 hi1)) ∧ (w'.cell? ⟨w.heap.size + 1, 0, none⟩ = some (.int .u64 (word st 0 : Nat)) ∧ w'.cell? ⟨w.heap.size + 1, 1, none⟩ = some (.int .u64 (word st 1 : Nat)) ∧ w'.cell? ⟨w.heap.size + 1, 2, none⟩ = some (.int .u64 (word st 2 : Nat)) ∧ w'.cell? ⟨w.heap.size + 1, 3, none⟩ = some (.int .u64 (word st 3 : Nat))) ∧ Box w' w.heap.size (nodeC k1 s1 a1 kids1.length cap1 lo1 hi1).toArray 37 ∧ Box w' (w.heap.size + 1) (setC st) 34 ∧ Box w' (w.heap.size + 1 + 1) (nodeC k1 s1 a1 kids1.length cap1 lo1 hi1).toArray 37 ∧ Below w.heap.size w w') → Calls Try.prog 33 #[.int .i64 k, .slice (some ⟨w.heap.size + 1 + 1, 0, none⟩) 1 1] w' (RetL w' (.mk k 0 [T] 0 0))) := Lib.hid (fun k w' hk h => cof k w' hk h.2.2.2.2.1 h.2.2.2.2.2)
  have CSame : Hid (∀ w' {k2 : Int} {s2 : BSet} {a2 : Option Addr} {cp2 : Nat} {ks2 : List Vt} {lo2 hi2 : Int} {k3 : Int} {s3 : BSet} {a3 : Option Addr} {cp3 : Nat} {ks3 : List Vt} {lo3 hi3 : Int} (U : Tr), ((w'.cell? ⟨w.heap.size, 0, none⟩ = some (.int .i64 k1) ∧ w'.cell? ⟨w.heap.size, 1, none⟩ = some (.int .u64 (word s1 0 : Nat)) ∧ w'.cell? ⟨w.heap.size, 2, none⟩ = some (.int .u64 (word s1 1 : Nat)) ∧ w'.cell? ⟨w.heap.size, 3, none⟩ = some (.int .u64 (word s1 2 : Nat)) ∧ w'.cell? ⟨w.heap.size, 4, none⟩ = some (.int .u64 (word s1 3 : Nat)) ∧ w'.cell? ⟨w.heap.size, 5, none⟩ = some (.slice a1 kids1.length cap1) ∧ w'.cell? ⟨w.heap.size, 6, none⟩ = some (.int .i64 lo1) ∧ w'.cell? ⟨w.heap.size, 7, none⟩ = some (.int .i64 hi1)) ∧ (w'.cell? ⟨w.heap.size + 1, 0, none⟩ = some (.int .u64 (word st 0 : Nat)) ∧ w'.cell? ⟨w.heap.size + 1, 1, none⟩ = some (.int .u64 (word st 1 : Nat)) ∧ w'.cell? ⟨w.heap.size + 1, 2, none⟩ = some (.int .u64 (word st 2 : Nat)) ∧ w'.cell? ⟨w.heap.size + 1, 3, none⟩ = some (.int .u64 (word st 3 : Nat))) ∧ Box w' w.heap.size (nodeC k1 s1 a1 kids1.length cap1 lo1 hi1).toArray 37 ∧ Box w' (w.heap.size + 1) (setC st) 34 ∧ Box w' (w.heap.size + 1 + 1) (nodeC k1 s1 a1 kids1.length cap1 lo1 hi1).toArray 37 ∧ Below w.heap.size w w') → Lies w' (Vt.mk k2 s2 a2 cp2 ks2 lo2 hi2) → Lies w' (Vt.mk k3 s3 a3 cp3 ks3 lo3 hi3) → (Vt.mk k2 s2 a2 cp2 ks2 lo2 hi2).tr = U → (Vt.mk k3 s3 a3 cp3 ks3 lo3 hi3).tr = U → Calls Try.prog 16 #[.agg (nodeC k2 s2 a2 ks2.length cp2 lo2 hi2).toArray, .agg (nodeC k3 s3 a3 ks3.length cp3 lo3 hi3).toArray] w' (Ret w' (.bool true))) := Lib.hid (fun w' {k2 s2 a2 cp2 ks2 lo2 hi2} {k3 s3 a3 cp3 ks3 lo3 hi3} U _ h2 h3 e2 e3 => by
    have := ref_Same6 _ _ w' h2 h3
    rw [e2, e3, eqT_refl] at this
    exact this)
  have CBytes : Hid (∀ w', Calls Try.prog 38 #[.agg (setC st)] w' (RetT w' (leafT 3 st))) := Lib.hid (fun w' => tree_Bytes st w')
  have CRBytes : Hid (∀ w', Calls Try.prog 18 #[.agg (setC st)] w' (RetT w' (leafT 3 st))) := Lib.hid (fun w' => ref_Bytes6 st w')
  have CRtB : Hid (∀ w' {k2 : Int} {s2 : BSet} {a2 : Option Addr} {cp2 : Nat} {ks2 : List Vt} {lo2 hi2 : Int}, Lies w' (Vt.mk k2 s2 a2 cp2 ks2 lo2 hi2) → (Vt.mk k2 s2 a2 cp2 ks2 lo2 hi2).tr = leafT 3 st → Calls Try.prog 25 #[.agg (nodeC k2 s2 a2 ks2.length cp2 lo2 hi2).toArray] w' (Ret w' (.bool true))) := Lib.hid (fun w' {k2 s2 a2 cp2 ks2 lo2 hi2} h e => by
    have := tree_Right _ w' h
    rw [e, right_leaf] at this
    exact this)
  have CRt8 : Hid (∀ w' {k2 : Int} {s2 : BSet} {a2 : Option Addr} {cp2 : Nat} {ks2 : List Vt} {lo2 hi2 : Int}, Lies w' (Vt.mk k2 s2 a2 cp2 ks2 lo2 hi2) → (Vt.mk k2 s2 a2 cp2 ks2 lo2 hi2).tr = .mk 8 0 [T] 0 0 → Calls Try.prog 25 #[.agg (nodeC k2 s2 a2 ks2.length cp2 lo2 hi2).toArray] w' (Ret w' (.bool u))) := Lib.hid (fun w' {k2 s2 a2 cp2 ks2 lo2 hi2} h e => by
    have := tree_Right _ w' h
    rw [e, right_opt, HU] at this
    exact this)
  have CRt9 : Hid (∀ w' {k2 : Int} {s2 : BSet} {a2 : Option Addr} {cp2 : Nat} {ks2 : List Vt} {lo2 hi2 : Int}, Lies w' (Vt.mk k2 s2 a2 cp2 ks2 lo2 hi2) → (Vt.mk k2 s2 a2 cp2 ks2 lo2 hi2).tr = .mk 9 0 [T] lo hi → Calls Try.prog 25 #[.agg (nodeC k2 s2 a2 ks2.length cp2 lo2 hi2).toArray] w' (Ret w' (.bool (u && timesB lo hi)))) := Lib.hid (fun w' {k2 s2 a2 cp2 ks2 lo2 hi2} h e => by
    have := tree_Right _ w' h
    rw [e, right_rep, HU] at this
    exact this)
  have CRx : Hid (∀ w', ((w'.cell? ⟨w.heap.size, 0, none⟩ = some (.int .i64 k1) ∧ w'.cell? ⟨w.heap.size, 1, none⟩ = some (.int .u64 (word s1 0 : Nat)) ∧ w'.cell? ⟨w.heap.size, 2, none⟩ = some (.int .u64 (word s1 1 : Nat)) ∧ w'.cell? ⟨w.heap.size, 3, none⟩ = some (.int .u64 (word s1 2 : Nat)) ∧ w'.cell? ⟨w.heap.size, 4, none⟩ = some (.int .u64 (word s1 3 : Nat)) ∧ w'.cell? ⟨w.heap.size, 5, none⟩ = some (.slice a1 kids1.length cap1) ∧ w'.cell? ⟨w.heap.size, 6, none⟩ = some (.int .i64 lo1) ∧ w'.cell? ⟨w.heap.size, 7, none⟩ = some (.int .i64 hi1)) ∧ (w'.cell? ⟨w.heap.size + 1, 0, none⟩ = some (.int .u64 (word st 0 : Nat)) ∧ w'.cell? ⟨w.heap.size + 1, 1, none⟩ = some (.int .u64 (word st 1 : Nat)) ∧ w'.cell? ⟨w.heap.size + 1, 2, none⟩ = some (.int .u64 (word st 2 : Nat)) ∧ w'.cell? ⟨w.heap.size + 1, 3, none⟩ = some (.int .u64 (word st 3 : Nat))) ∧ Box w' w.heap.size (nodeC k1 s1 a1 kids1.length cap1 lo1 hi1).toArray 37 ∧ Box w' (w.heap.size + 1) (setC st) 34 ∧ Box w' (w.heap.size + 1 + 1) (nodeC k1 s1 a1 kids1.length cap1 lo1 hi1).toArray 37 ∧ Below w.heap.size w w') → Calls Try.prog 25 #[.agg (nodeC k1 s1 a1 kids1.length cap1 lo1 hi1).toArray] w' (Ret w' (.bool r))) := Lib.hid (fun w' h => crx w' h.2.2.2.2.2)
  have CSx : Hid (∀ w', Below w.heap.size w w' → Calls Try.prog 27 #[.agg (nodeC k1 s1 a1 kids1.length cap1 lo1 hi1).toArray] w' (Ret w' (.int .i64 (z : Nat)))) := Lib.hid (fun w' h => csx w' h)
  have CS6 : Hid (∀ w' {k2 : Int} {s2 : BSet} {a2 : Option Addr} {cp2 : Nat} {ks2 : List Vt} {lo2 hi2 : Int}, Lies w' (Vt.mk k2 s2 a2 cp2 ks2 lo2 hi2) → (Vt.mk k2 s2 a2 cp2 ks2 lo2 hi2).tr = .mk 6 0 [T] 0 0 → Calls Try.prog 27 #[.agg (nodeC k2 s2 a2 ks2.length cp2 lo2 hi2).toArray] w' (Ret w' (.int .i64 ((z : Int) + 1)))) := Lib.hid (fun w' {k2 s2 a2 cp2 ks2 lo2 hi2} h e => by
    have := tree_Size _ w' h (by rw [e]; simp only [sizeT, sizeTs]; omega)
    rw [e, show sizeT (.mk 6 0 [T] 0 0) = z + 1 by simp only [sizeT, sizeTs]; omega] at this
    rw [← Int.natCast_succ]
    exact this)
  have hcase : (r = false ∧ u = false) ∨ (r = true ∧ z < 4096 ∧ u = true) ∨ (r = true ∧ ¬ z < 4096 ∧ u = false) := by
    rw [← hu]
    by_cases h : z < 4096 <;> cases r <;> simp [h]
  have HCASE := Lib.hid hcase
  clear cstar cplus copt crep crrep cof crx csx hA hTr hz hr hu HU hs2 hcase
  have HK : Hid (∀ w1 w2, ((w1.cell? ⟨w.heap.size, 0, none⟩ = some (.int .i64 k1) ∧ w1.cell? ⟨w.heap.size, 1, none⟩ = some (.int .u64 (word s1 0 : Nat)) ∧ w1.cell? ⟨w.heap.size, 2, none⟩ = some (.int .u64 (word s1 1 : Nat)) ∧ w1.cell? ⟨w.heap.size, 3, none⟩ = some (.int .u64 (word s1 2 : Nat)) ∧ w1.cell? ⟨w.heap.size, 4, none⟩ = some (.int .u64 (word s1 3 : Nat)) ∧ w1.cell? ⟨w.heap.size, 5, none⟩ = some (.slice a1 kids1.length cap1) ∧ w1.cell? ⟨w.heap.size, 6, none⟩ = some (.int .i64 lo1) ∧ w1.cell? ⟨w.heap.size, 7, none⟩ = some (.int .i64 hi1)) ∧ (w1.cell? ⟨w.heap.size + 1, 0, none⟩ = some (.int .u64 (word st 0 : Nat)) ∧ w1.cell? ⟨w.heap.size + 1, 1, none⟩ = some (.int .u64 (word st 1 : Nat)) ∧ w1.cell? ⟨w.heap.size + 1, 2, none⟩ = some (.int .u64 (word st 2 : Nat)) ∧ w1.cell? ⟨w.heap.size + 1, 3, none⟩ = some (.int .u64 (word st 3 : Nat))) ∧ Box w1 w.heap.size (nodeC k1 s1 a1 kids1.length cap1 lo1 hi1).toArray 37 ∧ Box w1 (w.heap.size + 1) (setC st) 34 ∧ Box w1 (w.heap.size + 1 + 1) (nodeC k1 s1 a1 kids1.length cap1 lo1 hi1).toArray 37 ∧ Below w.heap.size w w1) → Below w1.heap.size w1 w2 → ((w2.cell? ⟨w.heap.size, 0, none⟩ = some (.int .i64 k1) ∧ w2.cell? ⟨w.heap.size, 1, none⟩ = some (.int .u64 (word s1 0 : Nat)) ∧ w2.cell? ⟨w.heap.size, 2, none⟩ = some (.int .u64 (word s1 1 : Nat)) ∧ w2.cell? ⟨w.heap.size, 3, none⟩ = some (.int .u64 (word s1 2 : Nat)) ∧ w2.cell? ⟨w.heap.size, 4, none⟩ = some (.int .u64 (word s1 3 : Nat)) ∧ w2.cell? ⟨w.heap.size, 5, none⟩ = some (.slice a1 kids1.length cap1) ∧ w2.cell? ⟨w.heap.size, 6, none⟩ = some (.int .i64 lo1) ∧ w2.cell? ⟨w.heap.size, 7, none⟩ = some (.int .i64 hi1)) ∧ (w2.cell? ⟨w.heap.size + 1, 0, none⟩ = some (.int .u64 (word st 0 : Nat)) ∧ w2.cell? ⟨w.heap.size + 1, 1, none⟩ = some (.int .u64 (word st 1 : Nat)) ∧ w2.cell? ⟨w.heap.size + 1, 2, none⟩ = some (.int .u64 (word st 2 : Nat)) ∧ w2.cell? ⟨w.heap.size + 1, 3, none⟩ = some (.int .u64 (word st 3 : Nat))) ∧ Box w2 w.heap.size (nodeC k1 s1 a1 kids1.length cap1 lo1 hi1).toArray 37 ∧ Box w2 (w.heap.size + 1) (setC st) 34 ∧ Box w2 (w.heap.size + 1 + 1) (nodeC k1 s1 a1 kids1.length cap1 lo1 hi1).toArray 37 ∧ Below w.heap.size w w2)) := Lib.hid fun w1 w2 ⟨h1, h2, h3, h4, h5, h6⟩ hb => ⟨(h3.kept hb).node, (h4.kept hb).set4.1, h3.kept hb, h4.kept hb, h5.kept hb, h6.trans (hb.mono h6.size)⟩
  have HF : Hid (∀ w1, ((w1.cell? ⟨w.heap.size, 0, none⟩ = some (.int .i64 k1) ∧ w1.cell? ⟨w.heap.size, 1, none⟩ = some (.int .u64 (word s1 0 : Nat)) ∧ w1.cell? ⟨w.heap.size, 2, none⟩ = some (.int .u64 (word s1 1 : Nat)) ∧ w1.cell? ⟨w.heap.size, 3, none⟩ = some (.int .u64 (word s1 2 : Nat)) ∧ w1.cell? ⟨w.heap.size, 4, none⟩ = some (.int .u64 (word s1 3 : Nat)) ∧ w1.cell? ⟨w.heap.size, 5, none⟩ = some (.slice a1 kids1.length cap1) ∧ w1.cell? ⟨w.heap.size, 6, none⟩ = some (.int .i64 lo1) ∧ w1.cell? ⟨w.heap.size, 7, none⟩ = some (.int .i64 hi1)) ∧ (w1.cell? ⟨w.heap.size + 1, 0, none⟩ = some (.int .u64 (word st 0 : Nat)) ∧ w1.cell? ⟨w.heap.size + 1, 1, none⟩ = some (.int .u64 (word st 1 : Nat)) ∧ w1.cell? ⟨w.heap.size + 1, 2, none⟩ = some (.int .u64 (word st 2 : Nat)) ∧ w1.cell? ⟨w.heap.size + 1, 3, none⟩ = some (.int .u64 (word st 3 : Nat))) ∧ Box w1 w.heap.size (nodeC k1 s1 a1 kids1.length cap1 lo1 hi1).toArray 37 ∧ Box w1 (w.heap.size + 1) (setC st) 34 ∧ Box w1 (w.heap.size + 1 + 1) (nodeC k1 s1 a1 kids1.length cap1 lo1 hi1).toArray 37 ∧ Below w.heap.size w w1) → Below w.heap.size w w1) := Lib.hid fun w1 h => h.2.2.2.2.2
  have HD : Hid (∀ w1, ((w1.cell? ⟨w.heap.size, 0, none⟩ = some (.int .i64 k1) ∧ w1.cell? ⟨w.heap.size, 1, none⟩ = some (.int .u64 (word s1 0 : Nat)) ∧ w1.cell? ⟨w.heap.size, 2, none⟩ = some (.int .u64 (word s1 1 : Nat)) ∧ w1.cell? ⟨w.heap.size, 3, none⟩ = some (.int .u64 (word s1 2 : Nat)) ∧ w1.cell? ⟨w.heap.size, 4, none⟩ = some (.int .u64 (word s1 3 : Nat)) ∧ w1.cell? ⟨w.heap.size, 5, none⟩ = some (.slice a1 kids1.length cap1) ∧ w1.cell? ⟨w.heap.size, 6, none⟩ = some (.int .i64 lo1) ∧ w1.cell? ⟨w.heap.size, 7, none⟩ = some (.int .i64 hi1)) ∧ (w1.cell? ⟨w.heap.size + 1, 0, none⟩ = some (.int .u64 (word st 0 : Nat)) ∧ w1.cell? ⟨w.heap.size + 1, 1, none⟩ = some (.int .u64 (word st 1 : Nat)) ∧ w1.cell? ⟨w.heap.size + 1, 2, none⟩ = some (.int .u64 (word st 2 : Nat)) ∧ w1.cell? ⟨w.heap.size + 1, 3, none⟩ = some (.int .u64 (word st 3 : Nat))) ∧ Box w1 w.heap.size (nodeC k1 s1 a1 kids1.length cap1 lo1 hi1).toArray 37 ∧ Box w1 (w.heap.size + 1) (setC st) 34 ∧ Box w1 (w.heap.size + 1 + 1) (nodeC k1 s1 a1 kids1.length cap1 lo1 hi1).toArray 37 ∧ Below w.heap.size w w1) → ((w1.drew.cell? ⟨w.heap.size, 0, none⟩ = some (.int .i64 k1) ∧ w1.drew.cell? ⟨w.heap.size, 1, none⟩ = some (.int .u64 (word s1 0 : Nat)) ∧ w1.drew.cell? ⟨w.heap.size, 2, none⟩ = some (.int .u64 (word s1 1 : Nat)) ∧ w1.drew.cell? ⟨w.heap.size, 3, none⟩ = some (.int .u64 (word s1 2 : Nat)) ∧ w1.drew.cell? ⟨w.heap.size, 4, none⟩ = some (.int .u64 (word s1 3 : Nat)) ∧ w1.drew.cell? ⟨w.heap.size, 5, none⟩ = some (.slice a1 kids1.length cap1) ∧ w1.drew.cell? ⟨w.heap.size, 6, none⟩ = some (.int .i64 lo1) ∧ w1.drew.cell? ⟨w.heap.size, 7, none⟩ = some (.int .i64 hi1)) ∧ (w1.drew.cell? ⟨w.heap.size + 1, 0, none⟩ = some (.int .u64 (word st 0 : Nat)) ∧ w1.drew.cell? ⟨w.heap.size + 1, 1, none⟩ = some (.int .u64 (word st 1 : Nat)) ∧ w1.drew.cell? ⟨w.heap.size + 1, 2, none⟩ = some (.int .u64 (word st 2 : Nat)) ∧ w1.drew.cell? ⟨w.heap.size + 1, 3, none⟩ = some (.int .u64 (word st 3 : Nat))) ∧ Box w1.drew w.heap.size (nodeC k1 s1 a1 kids1.length cap1 lo1 hi1).toArray 37 ∧ Box w1.drew (w.heap.size + 1) (setC st) 34 ∧ Box w1.drew (w.heap.size + 1 + 1) (nodeC k1 s1 a1 kids1.length cap1 lo1 hi1).toArray 37 ∧ Below w.heap.size w w1.drew)) := Lib.hid fun w1 ⟨h1, h2, h3, h4, h5, h6⟩ => ⟨h1, h2, h3, h4, h5, h6.drew⟩
  have H0 : Hid (((((w.alloc (.cells (nodeC k1 s1 a1 kids1.length cap1 lo1 hi1).toArray 37)).alloc (.cells (setC st) 34)).alloc (.cells (nodeC k1 s1 a1 kids1.length cap1 lo1 hi1).toArray 37)).drew.cell? ⟨w.heap.size, 0, none⟩ = some (.int .i64 k1) ∧ (((w.alloc (.cells (nodeC k1 s1 a1 kids1.length cap1 lo1 hi1).toArray 37)).alloc (.cells (setC st) 34)).alloc (.cells (nodeC k1 s1 a1 kids1.length cap1 lo1 hi1).toArray 37)).drew.cell? ⟨w.heap.size, 1, none⟩ = some (.int .u64 (word s1 0 : Nat)) ∧ (((w.alloc (.cells (nodeC k1 s1 a1 kids1.length cap1 lo1 hi1).toArray 37)).alloc (.cells (setC st) 34)).alloc (.cells (nodeC k1 s1 a1 kids1.length cap1 lo1 hi1).toArray 37)).drew.cell? ⟨w.heap.size, 2, none⟩ = some (.int .u64 (word s1 1 : Nat)) ∧ (((w.alloc (.cells (nodeC k1 s1 a1 kids1.length cap1 lo1 hi1).toArray 37)).alloc (.cells (setC st) 34)).alloc (.cells (nodeC k1 s1 a1 kids1.length cap1 lo1 hi1).toArray 37)).drew.cell? ⟨w.heap.size, 3, none⟩ = some (.int .u64 (word s1 2 : Nat)) ∧ (((w.alloc (.cells (nodeC k1 s1 a1 kids1.length cap1 lo1 hi1).toArray 37)).alloc (.cells (setC st) 34)).alloc (.cells (nodeC k1 s1 a1 kids1.length cap1 lo1 hi1).toArray 37)).drew.cell? ⟨w.heap.size, 4, none⟩ = some (.int .u64 (word s1 3 : Nat)) ∧ (((w.alloc (.cells (nodeC k1 s1 a1 kids1.length cap1 lo1 hi1).toArray 37)).alloc (.cells (setC st) 34)).alloc (.cells (nodeC k1 s1 a1 kids1.length cap1 lo1 hi1).toArray 37)).drew.cell? ⟨w.heap.size, 5, none⟩ = some (.slice a1 kids1.length cap1) ∧ (((w.alloc (.cells (nodeC k1 s1 a1 kids1.length cap1 lo1 hi1).toArray 37)).alloc (.cells (setC st) 34)).alloc (.cells (nodeC k1 s1 a1 kids1.length cap1 lo1 hi1).toArray 37)).drew.cell? ⟨w.heap.size, 6, none⟩ = some (.int .i64 lo1) ∧ (((w.alloc (.cells (nodeC k1 s1 a1 kids1.length cap1 lo1 hi1).toArray 37)).alloc (.cells (setC st) 34)).alloc (.cells (nodeC k1 s1 a1 kids1.length cap1 lo1 hi1).toArray 37)).drew.cell? ⟨w.heap.size, 7, none⟩ = some (.int .i64 hi1)) ∧ ((((w.alloc (.cells (nodeC k1 s1 a1 kids1.length cap1 lo1 hi1).toArray 37)).alloc (.cells (setC st) 34)).alloc (.cells (nodeC k1 s1 a1 kids1.length cap1 lo1 hi1).toArray 37)).drew.cell? ⟨w.heap.size + 1, 0, none⟩ = some (.int .u64 (word st 0 : Nat)) ∧ (((w.alloc (.cells (nodeC k1 s1 a1 kids1.length cap1 lo1 hi1).toArray 37)).alloc (.cells (setC st) 34)).alloc (.cells (nodeC k1 s1 a1 kids1.length cap1 lo1 hi1).toArray 37)).drew.cell? ⟨w.heap.size + 1, 1, none⟩ = some (.int .u64 (word st 1 : Nat)) ∧ (((w.alloc (.cells (nodeC k1 s1 a1 kids1.length cap1 lo1 hi1).toArray 37)).alloc (.cells (setC st) 34)).alloc (.cells (nodeC k1 s1 a1 kids1.length cap1 lo1 hi1).toArray 37)).drew.cell? ⟨w.heap.size + 1, 2, none⟩ = some (.int .u64 (word st 2 : Nat)) ∧ (((w.alloc (.cells (nodeC k1 s1 a1 kids1.length cap1 lo1 hi1).toArray 37)).alloc (.cells (setC st) 34)).alloc (.cells (nodeC k1 s1 a1 kids1.length cap1 lo1 hi1).toArray 37)).drew.cell? ⟨w.heap.size + 1, 3, none⟩ = some (.int .u64 (word st 3 : Nat))) ∧ Box (((w.alloc (.cells (nodeC k1 s1 a1 kids1.length cap1 lo1 hi1).toArray 37)).alloc (.cells (setC st) 34)).alloc (.cells (nodeC k1 s1 a1 kids1.length cap1 lo1 hi1).toArray 37)).drew w.heap.size (nodeC k1 s1 a1 kids1.length cap1 lo1 hi1).toArray 37 ∧ Box (((w.alloc (.cells (nodeC k1 s1 a1 kids1.length cap1 lo1 hi1).toArray 37)).alloc (.cells (setC st) 34)).alloc (.cells (nodeC k1 s1 a1 kids1.length cap1 lo1 hi1).toArray 37)).drew (w.heap.size + 1) (setC st) 34 ∧ Box (((w.alloc (.cells (nodeC k1 s1 a1 kids1.length cap1 lo1 hi1).toArray 37)).alloc (.cells (setC st) 34)).alloc (.cells (nodeC k1 s1 a1 kids1.length cap1 lo1 hi1).toArray 37)).drew (w.heap.size + 1 + 1) (nodeC k1 s1 a1 kids1.length cap1 lo1 hi1).toArray 37 ∧ Below w.heap.size w (((w.alloc (.cells (nodeC k1 s1 a1 kids1.length cap1 lo1 hi1).toArray 37)).alloc (.cells (setC st) 34)).alloc (.cells (nodeC k1 s1 a1 kids1.length cap1 lo1 hi1).toArray 37)).drew) := Lib.hid (by
    have b0 := (Box.new w (nodeC k1 s1 a1 kids1.length cap1 lo1 hi1).toArray 37).alloc (.cells (setC st) 34)
    have b1 := Box.new' (w := w.alloc (.cells (nodeC k1 s1 a1 kids1.length cap1 lo1 hi1).toArray 37)) (b := w.heap.size + 1) (World.size_alloc _ _).symm (setC st) 34
    have b2 := Box.new' (w := (w.alloc (.cells (nodeC k1 s1 a1 kids1.length cap1 lo1 hi1).toArray 37)).alloc (.cells (setC st) 34)) (b := w.heap.size + 1 + 1) (by simp) (nodeC k1 s1 a1 kids1.length cap1 lo1 hi1).toArray 37
    exact ⟨((b0.alloc _).drew).node, ((b1.alloc _).drew).set4.1, (b0.alloc _).drew, (b1.alloc _).drew, b2.drew, by go_grown⟩)
  have hfld : ∀ w : World, (Instr.field 37 (.agg (nodeC 1 (0#256) none 0 0 0 0).toArray) 0).run Try.prog w = .ok (.int .i64 1) w := fun _ => by kernel_rfl
  change Calls _ _ #[.agg (nodeC k1 s1 a1 kids1.length cap1 lo1 hi1).toArray, _, _, _] _ _
  go_enter Try.func8, Try.ntmps8
  go_wp2
  first | go_region_held3 (fun w' => (w'.cell? ⟨w.heap.size, 0, none⟩ = some (.int .i64 k1) ∧ w'.cell? ⟨w.heap.size, 1, none⟩ = some (.int .u64 (word s1 0 : Nat)) ∧ w'.cell? ⟨w.heap.size, 2, none⟩ = some (.int .u64 (word s1 1 : Nat)) ∧ w'.cell? ⟨w.heap.size, 3, none⟩ = some (.int .u64 (word s1 2 : Nat)) ∧ w'.cell? ⟨w.heap.size, 4, none⟩ = some (.int .u64 (word s1 3 : Nat)) ∧ w'.cell? ⟨w.heap.size, 5, none⟩ = some (.slice a1 kids1.length cap1) ∧ w'.cell? ⟨w.heap.size, 6, none⟩ = some (.int .i64 lo1) ∧ w'.cell? ⟨w.heap.size, 7, none⟩ = some (.int .i64 hi1)) ∧ (w'.cell? ⟨w.heap.size + 1, 0, none⟩ = some (.int .u64 (word st 0 : Nat)) ∧ w'.cell? ⟨w.heap.size + 1, 1, none⟩ = some (.int .u64 (word st 1 : Nat)) ∧ w'.cell? ⟨w.heap.size + 1, 2, none⟩ = some (.int .u64 (word st 2 : Nat)) ∧ w'.cell? ⟨w.heap.size + 1, 3, none⟩ = some (.int .u64 (word st 3 : Nat))) ∧ Box w' w.heap.size (nodeC k1 s1 a1 kids1.length cap1 lo1 hi1).toArray 37 ∧ Box w' (w.heap.size + 1) (setC st) 34 ∧ Box w' (w.heap.size + 1 + 1) (nodeC k1 s1 a1 kids1.length cap1 lo1 hi1).toArray 37 ∧ Below w.heap.size w w') (first | exact H0.out | assumption | exact HK.out _ _ (by assumption) hb) (first | (go_at_call 32; (with_reducible refine (CStar.out _ (by assumption)).mono ?_); intro e w1 h1; obtain ⟨k2, s2, a2, cp2, ks2, lo2, hi2, rfl, hT, hLa, _, hb⟩ := h1.open; have HTa := Lib.hid hT; clear h1 hT) | (go_at_call 34; (with_reducible refine (CPlus.out _ (by assumption)).mono ?_); intro e w1 h1; obtain ⟨k2, s2, a2, cp2, ks2, lo2, hi2, rfl, hT, hLa, _, hb⟩ := h1.open; have HTa := Lib.hid hT; clear h1 hT) | (go_at_call 35; (with_reducible refine (COpt.out _ (by assumption)).mono ?_); intro e w1 h1; obtain ⟨k2, s2, a2, cp2, ks2, lo2, hi2, rfl, hT, hLa, _, hb⟩ := h1.open; have HTa := Lib.hid hT; clear h1 hT) | (go_at_call 36; (with_reducible refine (CRep.out _ (by assumption)).mono ?_); intro e w1 h1; obtain ⟨k2, s2, a2, cp2, ks2, lo2, hi2, rfl, hT, hLa, _, hb⟩ := h1.open; have HTa := Lib.hid hT; clear h1 hT) | (go_at_call 37; (with_reducible refine (CRRep.out _ (by assumption)).mono ?_); intro e w1 h1; obtain ⟨k3, s3, a3, cp3, ks3, lo3, hi3, rfl, hT, hLb, hb⟩ := h1.open; have HTb := Lib.hid hT; clear h1 hT; have hLc := hLa.kept hb) | (go_at_call 33; (with_reducible refine (COf.out _ _ (by decide) (by assumption)).mono ?_); intro e w1 h1; obtain ⟨k3, s3, a3, cp3, ks3, lo3, hi3, rfl, hT, hLb, hb⟩ := h1.open; have HTb := Lib.hid hT; clear h1 hT; have hLc := hLa.kept hb) | (go_at_call 16; (with_reducible refine (CSame.out _ _ (by assumption) hLc hLb HTa.out HTb.out).mono ?_); rintro e w1 ⟨rfl, hb⟩)) | fail
  go_wp2
  first | go_region_held3 (fun w' => (w'.cell? ⟨w.heap.size, 0, none⟩ = some (.int .i64 k1) ∧ w'.cell? ⟨w.heap.size, 1, none⟩ = some (.int .u64 (word s1 0 : Nat)) ∧ w'.cell? ⟨w.heap.size, 2, none⟩ = some (.int .u64 (word s1 1 : Nat)) ∧ w'.cell? ⟨w.heap.size, 3, none⟩ = some (.int .u64 (word s1 2 : Nat)) ∧ w'.cell? ⟨w.heap.size, 4, none⟩ = some (.int .u64 (word s1 3 : Nat)) ∧ w'.cell? ⟨w.heap.size, 5, none⟩ = some (.slice a1 kids1.length cap1) ∧ w'.cell? ⟨w.heap.size, 6, none⟩ = some (.int .i64 lo1) ∧ w'.cell? ⟨w.heap.size, 7, none⟩ = some (.int .i64 hi1)) ∧ (w'.cell? ⟨w.heap.size + 1, 0, none⟩ = some (.int .u64 (word st 0 : Nat)) ∧ w'.cell? ⟨w.heap.size + 1, 1, none⟩ = some (.int .u64 (word st 1 : Nat)) ∧ w'.cell? ⟨w.heap.size + 1, 2, none⟩ = some (.int .u64 (word st 2 : Nat)) ∧ w'.cell? ⟨w.heap.size + 1, 3, none⟩ = some (.int .u64 (word st 3 : Nat))) ∧ Box w' w.heap.size (nodeC k1 s1 a1 kids1.length cap1 lo1 hi1).toArray 37 ∧ Box w' (w.heap.size + 1) (setC st) 34 ∧ Box w' (w.heap.size + 1 + 1) (nodeC k1 s1 a1 kids1.length cap1 lo1 hi1).toArray 37 ∧ Below w.heap.size w w') (first | exact HD.out _ (by assumption) | assumption | exact HK.out _ _ (by assumption) hb) (first | (go_at_call 38; (with_reducible refine (CBytes.out _).mono ?_); intro e w1 h1; obtain ⟨k2, s2, a2, cp2, ks2, lo2, hi2, rfl, hT, hLa, _, hb⟩ := h1.open; have HTa := Lib.hid hT; clear h1 hT) | (go_at_call 18; (with_reducible refine (CRBytes.out _).mono ?_); intro e w1 h1; obtain ⟨k3, s3, a3, cp3, ks3, lo3, hi3, rfl, hT, hLb, _, hb⟩ := h1.open; have HTb := Lib.hid hT; clear h1 hT; have hLc := hLa.kept hb) | (go_at_call 16; (with_reducible refine (CSame.out _ _ (by assumption) hLc hLb HTa.out HTb.out).mono ?_); rintro e w1 ⟨rfl, hb⟩) | (go_at_call 25; (with_reducible refine (CRtB.out _ hLa HTa.out).mono ?_); rintro e w1 ⟨rfl, hb⟩) | (go_at_call 39; (refine (tree_None' _).mono ?_); rintro e w1 ⟨rfl, hb⟩)) | fail
  rename_i hS
  obtain ⟨⟨p0, p1, p2, p3, p4, p5, p6, p7⟩, ⟨t0, t1, t2, t3⟩, hx0, hx1, hx2, hB⟩ := hS
  go_wp2_with (go_at_call 27; go_must (refine (CSx.out _ hB).mono ?_; rintro e w9 ⟨rfl, hb9⟩))
  have hS9 := Lib.hid (show _ from HK.out _ _ ⟨⟨p0, p1, p2, p3, p4, p5, p6, p7⟩, ⟨t0, t1, t2, t3⟩, hx0, hx1, hx2, hB⟩ hb9)
  clear p0 p1 p2 p3 p4 p5 p6 p7 t0 t1 t2 t3 hx0 hx1 hx2 hB
  have hS10 := HD.out _ hS9.out
  rcases HCASE.out with ⟨rfl, rfl⟩ | ⟨rfl, hz, rfl⟩ | ⟨rfl, hz, rfl⟩
  · have HS10 := Lib.hid hS10
    clear hS10 HCASE
    have hwz : IntKind.i64.wrap ((z : Int) + 1) = (z : Int) + 1 := IntWalk.i64_in _ (by omega)
    first | go_region_held (fun w' => (w'.cell? ⟨w.heap.size, 0, none⟩ = some (.int .i64 k1) ∧ w'.cell? ⟨w.heap.size, 1, none⟩ = some (.int .u64 (word s1 0 : Nat)) ∧ w'.cell? ⟨w.heap.size, 2, none⟩ = some (.int .u64 (word s1 1 : Nat)) ∧ w'.cell? ⟨w.heap.size, 3, none⟩ = some (.int .u64 (word s1 2 : Nat)) ∧ w'.cell? ⟨w.heap.size, 4, none⟩ = some (.int .u64 (word s1 3 : Nat)) ∧ w'.cell? ⟨w.heap.size, 5, none⟩ = some (.slice a1 kids1.length cap1) ∧ w'.cell? ⟨w.heap.size, 6, none⟩ = some (.int .i64 lo1) ∧ w'.cell? ⟨w.heap.size, 7, none⟩ = some (.int .i64 hi1)) ∧ (w'.cell? ⟨w.heap.size + 1, 0, none⟩ = some (.int .u64 (word st 0 : Nat)) ∧ w'.cell? ⟨w.heap.size + 1, 1, none⟩ = some (.int .u64 (word st 1 : Nat)) ∧ w'.cell? ⟨w.heap.size + 1, 2, none⟩ = some (.int .u64 (word st 2 : Nat)) ∧ w'.cell? ⟨w.heap.size + 1, 3, none⟩ = some (.int .u64 (word st 3 : Nat))) ∧ Box w' w.heap.size (nodeC k1 s1 a1 kids1.length cap1 lo1 hi1).toArray 37 ∧ Box w' (w.heap.size + 1) (setC st) 34 ∧ Box w' (w.heap.size + 1 + 1) (nodeC k1 s1 a1 kids1.length cap1 lo1 hi1).toArray 37 ∧ Below w.heap.size w w') (first | exact HS10.out | assumption | exact HK.out _ _ (by assumption) hb) (first | (go_at_call 32; (with_reducible refine (CStar.out _ (by assumption)).mono ?_); intro e w1 h1; obtain ⟨k2, s2, a2, cp2, ks2, lo2, hi2, rfl, hT, hLa, _, hb⟩ := h1.open; have HTa := Lib.hid hT; clear h1 hT) | (go_at_call 27; (with_reducible refine (CS6.out _ hLa HTa.out).mono ?_); rintro e w1 ⟨rfl, hb⟩) | (go_at_call 35; (with_reducible refine (COpt.out _ (by assumption)).mono ?_); intro e w1 h1; obtain ⟨k2, s2, a2, cp2, ks2, lo2, hi2, rfl, hT, hLa, _, hb⟩ := h1.open; have HTa := Lib.hid hT; clear h1 hT) | (go_at_call 25; (with_reducible refine (CRt8.out _ hLa HTa.out).mono ?_); rintro e w1 ⟨rfl, hb⟩) | (go_at_call 25; (with_reducible refine (CRx.out _ (by assumption)).mono ?_); rintro e w1 ⟨rfl, hb⟩)) | fail
    rename_i hS
    have HS11 := Lib.hid hS
    clear hS
    go_upto_region 9 with fail
    go_cut [11] (fun s11 wx => s11 = .bool (timesB lo hi) ∧ ((wx.cell? ⟨w.heap.size, 0, none⟩ = some (.int .i64 k1) ∧ wx.cell? ⟨w.heap.size, 1, none⟩ = some (.int .u64 (word s1 0 : Nat)) ∧ wx.cell? ⟨w.heap.size, 2, none⟩ = some (.int .u64 (word s1 1 : Nat)) ∧ wx.cell? ⟨w.heap.size, 3, none⟩ = some (.int .u64 (word s1 2 : Nat)) ∧ wx.cell? ⟨w.heap.size, 4, none⟩ = some (.int .u64 (word s1 3 : Nat)) ∧ wx.cell? ⟨w.heap.size, 5, none⟩ = some (.slice a1 kids1.length cap1) ∧ wx.cell? ⟨w.heap.size, 6, none⟩ = some (.int .i64 lo1) ∧ wx.cell? ⟨w.heap.size, 7, none⟩ = some (.int .i64 hi1)) ∧ (wx.cell? ⟨w.heap.size + 1, 0, none⟩ = some (.int .u64 (word st 0 : Nat)) ∧ wx.cell? ⟨w.heap.size + 1, 1, none⟩ = some (.int .u64 (word st 1 : Nat)) ∧ wx.cell? ⟨w.heap.size + 1, 2, none⟩ = some (.int .u64 (word st 2 : Nat)) ∧ wx.cell? ⟨w.heap.size + 1, 3, none⟩ = some (.int .u64 (word st 3 : Nat))) ∧ Box wx w.heap.size (nodeC k1 s1 a1 kids1.length cap1 lo1 hi1).toArray 37 ∧ Box wx (w.heap.size + 1) (setC st) 34 ∧ Box wx (w.heap.size + 1 + 1) (nodeC k1 s1 a1 kids1.length cap1 lo1 hi1).toArray 37 ∧ Below w.heap.size w wx))
    case first =>
      go_wp2_with fail
      all_goals
        try (have hh : hi = -1 := by assumption
             subst hh)
        go_meet
        refine ⟨congrArg Value.bool ?_, HS11.out⟩
        rw [Bool.eq_iff_iff]
        simp [timesB]
        try omega
    case rest =>
      obtain ⟨rfl, hS12⟩ := hcut
      have HS12 := Lib.hid (HD.out _ hS12)
      clear hS12
      generalize timesB lo hi = m at *
      cases m
      all_goals
        go_wp2_with fail
        first | go_region_held (fun w' => (w'.cell? ⟨w.heap.size, 0, none⟩ = some (.int .i64 k1) ∧ w'.cell? ⟨w.heap.size, 1, none⟩ = some (.int .u64 (word s1 0 : Nat)) ∧ w'.cell? ⟨w.heap.size, 2, none⟩ = some (.int .u64 (word s1 1 : Nat)) ∧ w'.cell? ⟨w.heap.size, 3, none⟩ = some (.int .u64 (word s1 2 : Nat)) ∧ w'.cell? ⟨w.heap.size, 4, none⟩ = some (.int .u64 (word s1 3 : Nat)) ∧ w'.cell? ⟨w.heap.size, 5, none⟩ = some (.slice a1 kids1.length cap1) ∧ w'.cell? ⟨w.heap.size, 6, none⟩ = some (.int .i64 lo1) ∧ w'.cell? ⟨w.heap.size, 7, none⟩ = some (.int .i64 hi1)) ∧ (w'.cell? ⟨w.heap.size + 1, 0, none⟩ = some (.int .u64 (word st 0 : Nat)) ∧ w'.cell? ⟨w.heap.size + 1, 1, none⟩ = some (.int .u64 (word st 1 : Nat)) ∧ w'.cell? ⟨w.heap.size + 1, 2, none⟩ = some (.int .u64 (word st 2 : Nat)) ∧ w'.cell? ⟨w.heap.size + 1, 3, none⟩ = some (.int .u64 (word st 3 : Nat))) ∧ Box w' w.heap.size (nodeC k1 s1 a1 kids1.length cap1 lo1 hi1).toArray 37 ∧ Box w' (w.heap.size + 1) (setC st) 34 ∧ Box w' (w.heap.size + 1 + 1) (nodeC k1 s1 a1 kids1.length cap1 lo1 hi1).toArray 37 ∧ Below w.heap.size w w') (first | exact HS12.out | assumption | exact HK.out _ _ (by assumption) hb) (first | (go_at_call 36; (with_reducible refine (CRep.out _ (by assumption)).mono ?_); intro e w1 h1; obtain ⟨k2, s2, a2, cp2, ks2, lo2, hi2, rfl, hT, hLa, _, hb⟩ := h1.open; have HTa := Lib.hid hT; clear h1 hT) | (go_at_call 25; (with_reducible refine (CRt9.out _ hLa HTa.out).mono ?_); rintro e w1 ⟨rfl, hb⟩) | (go_at_call 25; (with_reducible refine (CRx.out _ (by assumption)).mono ?_); rintro e w1 ⟨rfl, hb⟩) | (go_at_call 17; refine (knows06 _).mono ?_; rintro e w1 ⟨rfl, hb⟩)) | fail
        go_wp2
        go_ret
        exact ⟨rfl, HF.out _ (by assumption)⟩
  · have HS10 := Lib.hid hS10
    clear hS10 HCASE
    have hwz : IntKind.i64.wrap ((z : Int) + 1) = (z : Int) + 1 := IntWalk.i64_in _ (by omega)
    have hz1 : decide ((z : Int) < 4096) = true := decide_eq_true (by omega)
    have hz2 : decide (z < 4096) = true := by simpa using hz
    clear hz
    first | go_region_held3 (fun w' => (w'.cell? ⟨w.heap.size, 0, none⟩ = some (.int .i64 k1) ∧ w'.cell? ⟨w.heap.size, 1, none⟩ = some (.int .u64 (word s1 0 : Nat)) ∧ w'.cell? ⟨w.heap.size, 2, none⟩ = some (.int .u64 (word s1 1 : Nat)) ∧ w'.cell? ⟨w.heap.size, 3, none⟩ = some (.int .u64 (word s1 2 : Nat)) ∧ w'.cell? ⟨w.heap.size, 4, none⟩ = some (.int .u64 (word s1 3 : Nat)) ∧ w'.cell? ⟨w.heap.size, 5, none⟩ = some (.slice a1 kids1.length cap1) ∧ w'.cell? ⟨w.heap.size, 6, none⟩ = some (.int .i64 lo1) ∧ w'.cell? ⟨w.heap.size, 7, none⟩ = some (.int .i64 hi1)) ∧ (w'.cell? ⟨w.heap.size + 1, 0, none⟩ = some (.int .u64 (word st 0 : Nat)) ∧ w'.cell? ⟨w.heap.size + 1, 1, none⟩ = some (.int .u64 (word st 1 : Nat)) ∧ w'.cell? ⟨w.heap.size + 1, 2, none⟩ = some (.int .u64 (word st 2 : Nat)) ∧ w'.cell? ⟨w.heap.size + 1, 3, none⟩ = some (.int .u64 (word st 3 : Nat))) ∧ Box w' w.heap.size (nodeC k1 s1 a1 kids1.length cap1 lo1 hi1).toArray 37 ∧ Box w' (w.heap.size + 1) (setC st) 34 ∧ Box w' (w.heap.size + 1 + 1) (nodeC k1 s1 a1 kids1.length cap1 lo1 hi1).toArray 37 ∧ Below w.heap.size w w') (first | exact HS10.out | assumption | exact HK.out _ _ (by assumption) hb) (first | (go_at_call 32; (with_reducible refine (CStar.out _ (by assumption)).mono ?_); intro e w1 h1; obtain ⟨k2, s2, a2, cp2, ks2, lo2, hi2, rfl, hT, hLa, _, hb⟩ := h1.open; have HTa := Lib.hid hT; clear h1 hT) | (go_at_call 27; (with_reducible refine (CS6.out _ hLa HTa.out).mono ?_); rintro e w1 ⟨rfl, hb⟩) | (go_at_call 35; (with_reducible refine (COpt.out _ (by assumption)).mono ?_); intro e w1 h1; obtain ⟨k2, s2, a2, cp2, ks2, lo2, hi2, rfl, hT, hLa, _, hb⟩ := h1.open; have HTa := Lib.hid hT; clear h1 hT) | (go_at_call 25; (with_reducible refine (CRt8.out _ hLa HTa.out).mono ?_); rintro e w1 ⟨rfl, hb⟩) | (go_at_call 25; (with_reducible refine (CRx.out _ (by assumption)).mono ?_); rintro e w1 ⟨rfl, hb⟩)) | fail
    rename_i hS
    have HS11 := Lib.hid hS
    clear hS
    go_upto_region 9 with fail
    go_cut [11] (fun s11 wx => s11 = .bool (timesB lo hi) ∧ ((wx.cell? ⟨w.heap.size, 0, none⟩ = some (.int .i64 k1) ∧ wx.cell? ⟨w.heap.size, 1, none⟩ = some (.int .u64 (word s1 0 : Nat)) ∧ wx.cell? ⟨w.heap.size, 2, none⟩ = some (.int .u64 (word s1 1 : Nat)) ∧ wx.cell? ⟨w.heap.size, 3, none⟩ = some (.int .u64 (word s1 2 : Nat)) ∧ wx.cell? ⟨w.heap.size, 4, none⟩ = some (.int .u64 (word s1 3 : Nat)) ∧ wx.cell? ⟨w.heap.size, 5, none⟩ = some (.slice a1 kids1.length cap1) ∧ wx.cell? ⟨w.heap.size, 6, none⟩ = some (.int .i64 lo1) ∧ wx.cell? ⟨w.heap.size, 7, none⟩ = some (.int .i64 hi1)) ∧ (wx.cell? ⟨w.heap.size + 1, 0, none⟩ = some (.int .u64 (word st 0 : Nat)) ∧ wx.cell? ⟨w.heap.size + 1, 1, none⟩ = some (.int .u64 (word st 1 : Nat)) ∧ wx.cell? ⟨w.heap.size + 1, 2, none⟩ = some (.int .u64 (word st 2 : Nat)) ∧ wx.cell? ⟨w.heap.size + 1, 3, none⟩ = some (.int .u64 (word st 3 : Nat))) ∧ Box wx w.heap.size (nodeC k1 s1 a1 kids1.length cap1 lo1 hi1).toArray 37 ∧ Box wx (w.heap.size + 1) (setC st) 34 ∧ Box wx (w.heap.size + 1 + 1) (nodeC k1 s1 a1 kids1.length cap1 lo1 hi1).toArray 37 ∧ Below w.heap.size w wx))
    case first =>
      go_wp2_with fail
      all_goals
        try (have hh : hi = -1 := by assumption
             subst hh)
        go_meet
        refine ⟨congrArg Value.bool ?_, HS11.out⟩
        rw [Bool.eq_iff_iff]
        simp [timesB]
        try omega
    case rest =>
      obtain ⟨rfl, hS12⟩ := hcut
      have HS12 := Lib.hid (HD.out _ hS12)
      clear hS12
      generalize timesB lo hi = m at *
      cases m
      all_goals
        go_wp2_with fail
        first | go_region_held3 (fun w' => (w'.cell? ⟨w.heap.size, 0, none⟩ = some (.int .i64 k1) ∧ w'.cell? ⟨w.heap.size, 1, none⟩ = some (.int .u64 (word s1 0 : Nat)) ∧ w'.cell? ⟨w.heap.size, 2, none⟩ = some (.int .u64 (word s1 1 : Nat)) ∧ w'.cell? ⟨w.heap.size, 3, none⟩ = some (.int .u64 (word s1 2 : Nat)) ∧ w'.cell? ⟨w.heap.size, 4, none⟩ = some (.int .u64 (word s1 3 : Nat)) ∧ w'.cell? ⟨w.heap.size, 5, none⟩ = some (.slice a1 kids1.length cap1) ∧ w'.cell? ⟨w.heap.size, 6, none⟩ = some (.int .i64 lo1) ∧ w'.cell? ⟨w.heap.size, 7, none⟩ = some (.int .i64 hi1)) ∧ (w'.cell? ⟨w.heap.size + 1, 0, none⟩ = some (.int .u64 (word st 0 : Nat)) ∧ w'.cell? ⟨w.heap.size + 1, 1, none⟩ = some (.int .u64 (word st 1 : Nat)) ∧ w'.cell? ⟨w.heap.size + 1, 2, none⟩ = some (.int .u64 (word st 2 : Nat)) ∧ w'.cell? ⟨w.heap.size + 1, 3, none⟩ = some (.int .u64 (word st 3 : Nat))) ∧ Box w' w.heap.size (nodeC k1 s1 a1 kids1.length cap1 lo1 hi1).toArray 37 ∧ Box w' (w.heap.size + 1) (setC st) 34 ∧ Box w' (w.heap.size + 1 + 1) (nodeC k1 s1 a1 kids1.length cap1 lo1 hi1).toArray 37 ∧ Below w.heap.size w w') (first | exact HS12.out | assumption | exact HK.out _ _ (by assumption) hb) (first | (go_at_call 36; (with_reducible refine (CRep.out _ (by assumption)).mono ?_); intro e w1 h1; obtain ⟨k2, s2, a2, cp2, ks2, lo2, hi2, rfl, hT, hLa, _, hb⟩ := h1.open; have HTa := Lib.hid hT; clear h1 hT) | (go_at_call 25; (with_reducible refine (CRt9.out _ hLa HTa.out).mono ?_); rintro e w1 ⟨rfl, hb⟩) | (go_at_call 25; (with_reducible refine (CRx.out _ (by assumption)).mono ?_); rintro e w1 ⟨rfl, hb⟩) | (go_at_call 17; refine (knows06 _).mono ?_; rintro e w1 ⟨rfl, hb⟩)) | fail
        go_wp2
        go_ret
        exact ⟨rfl, HF.out _ (by assumption)⟩
  · have HS10 := Lib.hid hS10
    clear hS10 HCASE
    have hwz : IntKind.i64.wrap ((z : Int) + 1) = (z : Int) + 1 := IntWalk.i64_in _ (by omega)
    have hz1 : decide ((z : Int) < 4096) = false := decide_eq_false (by omega)
    have hz2 : decide (z < 4096) = false := by simpa using hz
    clear hz
    first | go_region_held3 (fun w' => (w'.cell? ⟨w.heap.size, 0, none⟩ = some (.int .i64 k1) ∧ w'.cell? ⟨w.heap.size, 1, none⟩ = some (.int .u64 (word s1 0 : Nat)) ∧ w'.cell? ⟨w.heap.size, 2, none⟩ = some (.int .u64 (word s1 1 : Nat)) ∧ w'.cell? ⟨w.heap.size, 3, none⟩ = some (.int .u64 (word s1 2 : Nat)) ∧ w'.cell? ⟨w.heap.size, 4, none⟩ = some (.int .u64 (word s1 3 : Nat)) ∧ w'.cell? ⟨w.heap.size, 5, none⟩ = some (.slice a1 kids1.length cap1) ∧ w'.cell? ⟨w.heap.size, 6, none⟩ = some (.int .i64 lo1) ∧ w'.cell? ⟨w.heap.size, 7, none⟩ = some (.int .i64 hi1)) ∧ (w'.cell? ⟨w.heap.size + 1, 0, none⟩ = some (.int .u64 (word st 0 : Nat)) ∧ w'.cell? ⟨w.heap.size + 1, 1, none⟩ = some (.int .u64 (word st 1 : Nat)) ∧ w'.cell? ⟨w.heap.size + 1, 2, none⟩ = some (.int .u64 (word st 2 : Nat)) ∧ w'.cell? ⟨w.heap.size + 1, 3, none⟩ = some (.int .u64 (word st 3 : Nat))) ∧ Box w' w.heap.size (nodeC k1 s1 a1 kids1.length cap1 lo1 hi1).toArray 37 ∧ Box w' (w.heap.size + 1) (setC st) 34 ∧ Box w' (w.heap.size + 1 + 1) (nodeC k1 s1 a1 kids1.length cap1 lo1 hi1).toArray 37 ∧ Below w.heap.size w w') (first | exact HS10.out | assumption | exact HK.out _ _ (by assumption) hb) (first | (go_at_call 32; (with_reducible refine (CStar.out _ (by assumption)).mono ?_); intro e w1 h1; obtain ⟨k2, s2, a2, cp2, ks2, lo2, hi2, rfl, hT, hLa, _, hb⟩ := h1.open; have HTa := Lib.hid hT; clear h1 hT) | (go_at_call 27; (with_reducible refine (CS6.out _ hLa HTa.out).mono ?_); rintro e w1 ⟨rfl, hb⟩) | (go_at_call 35; (with_reducible refine (COpt.out _ (by assumption)).mono ?_); intro e w1 h1; obtain ⟨k2, s2, a2, cp2, ks2, lo2, hi2, rfl, hT, hLa, _, hb⟩ := h1.open; have HTa := Lib.hid hT; clear h1 hT) | (go_at_call 25; (with_reducible refine (CRt8.out _ hLa HTa.out).mono ?_); rintro e w1 ⟨rfl, hb⟩) | (go_at_call 25; (with_reducible refine (CRx.out _ (by assumption)).mono ?_); rintro e w1 ⟨rfl, hb⟩)) | fail
    rename_i hS
    have HS11 := Lib.hid hS
    clear hS
    go_upto_region 9 with fail
    go_cut [11] (fun s11 wx => s11 = .bool (timesB lo hi) ∧ ((wx.cell? ⟨w.heap.size, 0, none⟩ = some (.int .i64 k1) ∧ wx.cell? ⟨w.heap.size, 1, none⟩ = some (.int .u64 (word s1 0 : Nat)) ∧ wx.cell? ⟨w.heap.size, 2, none⟩ = some (.int .u64 (word s1 1 : Nat)) ∧ wx.cell? ⟨w.heap.size, 3, none⟩ = some (.int .u64 (word s1 2 : Nat)) ∧ wx.cell? ⟨w.heap.size, 4, none⟩ = some (.int .u64 (word s1 3 : Nat)) ∧ wx.cell? ⟨w.heap.size, 5, none⟩ = some (.slice a1 kids1.length cap1) ∧ wx.cell? ⟨w.heap.size, 6, none⟩ = some (.int .i64 lo1) ∧ wx.cell? ⟨w.heap.size, 7, none⟩ = some (.int .i64 hi1)) ∧ (wx.cell? ⟨w.heap.size + 1, 0, none⟩ = some (.int .u64 (word st 0 : Nat)) ∧ wx.cell? ⟨w.heap.size + 1, 1, none⟩ = some (.int .u64 (word st 1 : Nat)) ∧ wx.cell? ⟨w.heap.size + 1, 2, none⟩ = some (.int .u64 (word st 2 : Nat)) ∧ wx.cell? ⟨w.heap.size + 1, 3, none⟩ = some (.int .u64 (word st 3 : Nat))) ∧ Box wx w.heap.size (nodeC k1 s1 a1 kids1.length cap1 lo1 hi1).toArray 37 ∧ Box wx (w.heap.size + 1) (setC st) 34 ∧ Box wx (w.heap.size + 1 + 1) (nodeC k1 s1 a1 kids1.length cap1 lo1 hi1).toArray 37 ∧ Below w.heap.size w wx))
    case first =>
      go_wp2_with fail
      all_goals
        try (have hh : hi = -1 := by assumption
             subst hh)
        go_meet
        refine ⟨congrArg Value.bool ?_, HS11.out⟩
        rw [Bool.eq_iff_iff]
        simp [timesB]
        try omega
    case rest =>
      obtain ⟨rfl, hS12⟩ := hcut
      have HS12 := Lib.hid (HD.out _ hS12)
      clear hS12
      generalize timesB lo hi = m at *
      cases m
      all_goals
        go_wp2_with fail
        first | go_region_held (fun w' => (w'.cell? ⟨w.heap.size, 0, none⟩ = some (.int .i64 k1) ∧ w'.cell? ⟨w.heap.size, 1, none⟩ = some (.int .u64 (word s1 0 : Nat)) ∧ w'.cell? ⟨w.heap.size, 2, none⟩ = some (.int .u64 (word s1 1 : Nat)) ∧ w'.cell? ⟨w.heap.size, 3, none⟩ = some (.int .u64 (word s1 2 : Nat)) ∧ w'.cell? ⟨w.heap.size, 4, none⟩ = some (.int .u64 (word s1 3 : Nat)) ∧ w'.cell? ⟨w.heap.size, 5, none⟩ = some (.slice a1 kids1.length cap1) ∧ w'.cell? ⟨w.heap.size, 6, none⟩ = some (.int .i64 lo1) ∧ w'.cell? ⟨w.heap.size, 7, none⟩ = some (.int .i64 hi1)) ∧ (w'.cell? ⟨w.heap.size + 1, 0, none⟩ = some (.int .u64 (word st 0 : Nat)) ∧ w'.cell? ⟨w.heap.size + 1, 1, none⟩ = some (.int .u64 (word st 1 : Nat)) ∧ w'.cell? ⟨w.heap.size + 1, 2, none⟩ = some (.int .u64 (word st 2 : Nat)) ∧ w'.cell? ⟨w.heap.size + 1, 3, none⟩ = some (.int .u64 (word st 3 : Nat))) ∧ Box w' w.heap.size (nodeC k1 s1 a1 kids1.length cap1 lo1 hi1).toArray 37 ∧ Box w' (w.heap.size + 1) (setC st) 34 ∧ Box w' (w.heap.size + 1 + 1) (nodeC k1 s1 a1 kids1.length cap1 lo1 hi1).toArray 37 ∧ Below w.heap.size w w') (first | exact HS12.out | assumption | exact HK.out _ _ (by assumption) hb) (first | (go_at_call 36; (with_reducible refine (CRep.out _ (by assumption)).mono ?_); intro e w1 h1; obtain ⟨k2, s2, a2, cp2, ks2, lo2, hi2, rfl, hT, hLa, _, hb⟩ := h1.open; have HTa := Lib.hid hT; clear h1 hT) | (go_at_call 25; (with_reducible refine (CRt9.out _ hLa HTa.out).mono ?_); rintro e w1 ⟨rfl, hb⟩) | (go_at_call 25; (with_reducible refine (CRx.out _ (by assumption)).mono ?_); rintro e w1 ⟨rfl, hb⟩) | (go_at_call 17; refine (knows06 _).mono ?_; rintro e w1 ⟨rfl, hb⟩)) | fail
        go_wp2
        go_ret
        exact ⟨rfl, HF.out _ (by assumption)⟩
set_option maxRecDepth 100000 in
theorem contract_TreeRepeats (H : Type) (enc : TypeId × Value → H) (W : World) (base : Nat) (args : Array Value) (ds gs : List (DataW H)) (before : List MemPlace)
    (hval0 : ∀ (j : Nat) t v, Try.f8.params[j]? = some t → args[j]? = some v → Value.okWide Try.prog W .any base t v)
    (hW : DataW.Whole enc Try.prog Try.f8.params.toList Rows.treeRepeatsSpec.vars false W args.toList ds gs before) (hk : Rows.uptoSmall H (ds ++ gs) = true) :
    Calls Try.prog 8 args W fun e W' => ∃ v, e = .returned v ∧ Rows.treeRepeatsSpec.post enc Try.prog Try.f8 false true false false W args v W' := by
  have hval : ∀ (j : Nat) t v, Try.f8.params[j]? = some t → args[j]? = some v → Value.okWide Try.prog W .any base t v := hval0
  have hW' := hW
  obtain ⟨p, q, hA0, hV, rfl, hfz, hnd⟩ := hW
  have hA : DataW.TrodAll enc Try.prog W 0 (fun _ => true) true Try.f8.params.toList args.toList ds p := hA0
  rw [Try.params8] at hA hval
  obtain ⟨v0, vs0, d0, ds0, p0, q0, hargs, rfl, rfl, h00, r0⟩ := trodAll_cons hA
  obtain ⟨v1, vs1, d1, ds1, p1, q1, rfl, rfl, rfl, h01, r1⟩ := trodAll_cons r0
  obtain ⟨v2, vs2, d2, ds2, p2, q2, rfl, rfl, rfl, h02, r2⟩ := trodAll_cons r1
  obtain ⟨v3, vs3, d3, ds3, p3, q3, rfl, rfl, rfl, h03, r3⟩ := trodAll_cons r2
  obtain ⟨rfl, rfl, rfl⟩ := trodAll_nil r3
  obtain rfl : args = #[v0, v1, v2, v3] := by cases args; simp_all
  obtain ⟨rfl, rfl⟩ := trodVars_none hV
  have hk1 : Rows.uptoBulkAll ([d0, d1, d2, d3] ++ []) ≤ 1048576 := of_decide_eq_true hk
  simp only [List.append_nil, Rows.uptoBulkAll] at hk1
  have k00 := h00
  have lt0 : ∀ x ∈ p0, x.block < W.heap.size := by obtain ⟨m, hm⟩ := k00; exact DataW.trod_lt m _ _ _ hm
  have k01 := h01
  have lt1 : ∀ x ∈ p1, x.block < W.heap.size := by obtain ⟨m, hm⟩ := k01; exact DataW.trod_lt m _ _ _ hm
  have k02 := h02
  have lt2 : ∀ x ∈ p2, x.block < W.heap.size := by obtain ⟨m, hm⟩ := k02; exact DataW.trod_lt m _ _ _ hm
  have k03 := h03
  have lt3 : ∀ x ∈ p3, x.block < W.heap.size := by obtain ⟨m, hm⟩ := k03; exact DataW.trod_lt m _ _ _ hm
  obtain ⟨x, rfl, hx, hzx⟩ : ∃ T : Vt, v0 = .agg T.cells.toArray ∧ Lies W T ∧ sizeT T.tr ≤ Rows.uptoBulk d0 := by
    obtain ⟨fuel, hfu⟩ := h00
    obtain ⟨cs, hcs, _⟩ := okWide_struct Try.underlying37 (hval 0 37 v0 rfl rfl)
    subst hcs
    obtain ⟨T, h2, h3, h4⟩ := trod_nodeB nodeTys fuel _ _ hfu
    exact ⟨T, by rw [← h2]; rfl, h3, h4⟩
  obtain ⟨lo, rfl⟩ := okWide_int Try.underlying3 (hval 1 3 v1 rfl rfl)
  have hlo : (Lit.int .i64 lo).wf = true := by
    obtain ⟨fuel, hfu⟩ := h01
    obtain ⟨z, hz1, _, hz2⟩ := DataW.trod_int Try.underlying3 hfu
    simp [Value.cells] at hz1
    subst hz1; exact hz2
  obtain ⟨hi, rfl⟩ := okWide_int Try.underlying3 (hval 2 3 v2 rfl rfl)
  have hhi : (Lit.int .i64 hi).wf = true := by
    obtain ⟨fuel, hfu⟩ := h02
    obtain ⟨z, hz1, _, hz2⟩ := DataW.trod_int Try.underlying3 hfu
    simp [Value.cells] at hz1
    subst hz1; exact hz2
  obtain ⟨s, rfl⟩ : ∃ s : BSet, v3 = setV s := by
    obtain ⟨fuel, hfu⟩ := h03
    obtain ⟨cs, hcs, _⟩ := okWide_arr Try.underlying34 (hval 3 34 v3 rfl rfl)
    subst hcs
    obtain ⟨s, h2⟩ := trod_set Try.underlying34 Try.underlying32 (by kernel_rfl) (by kernel_rfl) hfu
    exact ⟨s, by rw [show cs = setC s from Array.ext' h2]⟩
  clear hA0 hval0
  refine (law_TreeRepeats x lo hi s W hx (by omega) (wf_i64 hlo) (wf_i64 hhi)).mono fun e W' ⟨he, bel⟩ => ?_
  subst he
  exact ⟨_, rfl, _, _, _, [], _, [], hW', trodAll_mk1 (shut_bool Try.underlying4 _), (trodAll_cons_mk (Below.trod laidOut (by kernel_rfl) (of_decide_eq_true (by kernel_rfl)) k00 bel lt0) (trodAll_cons_mk (Below.trod laidOut (by kernel_rfl) (of_decide_eq_true (by kernel_rfl)) k01 bel lt1) (trodAll_cons_mk (Below.trod laidOut (by kernel_rfl) (of_decide_eq_true (by kernel_rfl)) k02 bel lt2) (trodAll_cons_mk (Below.trod laidOut (by kernel_rfl) (of_decide_eq_true (by kernel_rfl)) k03 bel lt3) trodAll_mk0)))), rfl, bel.frame _, fun h => by cases h⟩
set_option maxRecDepth 100000 in
theorem lifted_TreeRepeats (os : Os) (started : os.Started) (H : Type) (enc : TypeId × Value → H) (F : Stop.Interp) :
    ReturnsInHanded {} Try.checked os 8 .any ((Rows.OpenSpec.upto Rows.treeRepeatsSpec).pre6 enc Try.prog Try.f8 Rows.treeRepeatsUptoRow.domain false) (((Rows.OpenSpec.upto Rows.treeRepeatsSpec).at F).post enc Try.prog Try.f8 false true false false) := by
  refine returnsInHanded_of_cond (C := Try.checked) (s := Rows.OpenSpec.upto Rows.treeRepeatsSpec) (k := Rows.uptoSmall) rfl own started (by kernel_rfl) Try.func8
    (OpenSpec.witness (enc := enc) (C := Try.checked) (s := Rows.OpenSpec.upto Rows.treeRepeatsSpec) (k := Rows.uptoSmall) rfl false ⟨#[], #[.agg #[.int .i64 0, .int .u64 0, .int .u64 0, .int .u64 0, .int .u64 0, .slice none 0 0, .int .i64 0, .int .i64 0], .int .i64 0, .int .i64 0, .agg (Array.replicate 4 (.int .u64 0))], []⟩ 8 (by kernel_rfl) (by kernel_rfl) (by kernel_rfl)
      (x := ([.agg [.lit (.int .i64 0), .agg [.lit (.int .u64 0), .lit (.int .u64 0), .lit (.int .u64 0), .lit (.int .u64 0)], .nil, .lit (.int .i64 0), .lit (.int .i64 0)], .lit (.int .i64 0), .lit (.int .i64 0), .agg [.lit (.int .u64 0), .lit (.int .u64 0), .lit (.int .u64 0), .lit (.int .u64 0)]], [], [])) (by kernel_rfl) rfl (by kernel_rfl)) ?_
  intro W base args ds gs before hval hW _ hk _
  exact contract_TreeRepeats H enc W base args ds gs before hval hW hk
theorem over_TreeRepeats : Rows.treeRepeatsUptoRow.holds Try.pinned (Rows.OpenSpec.upto Rows.treeRepeatsSpec) :=
  OpenClaim.holds_of_cond 8 Try.f8 rfl rfl rfl rfl rfl rfl rfl ⟨rfl, rfl, rfl, rfl, rfl⟩ rfl rfl rfl rfl rfl (by kernel_rfl) Try.func8 (by kernel_rfl)
    (of_decide_eq_true (by kernel_rfl)) (by unfold Func.isWrapper; first | (rw [if_pos (by decide +kernel)]; kernel_rfl) | (rw [if_neg (by decide +kernel)]; exact ⟨rfl, rfl⟩))
    (fun os started H enc _ F => lifted_TreeRepeats os started H enc F)
theorem TreeRepeats_holds : Rows.TreeRepeatsUptoSaid := over_TreeRepeats
#print axioms TreeRepeats_holds
end Go.Proofs.Ytinlfbacfmmfpaa
