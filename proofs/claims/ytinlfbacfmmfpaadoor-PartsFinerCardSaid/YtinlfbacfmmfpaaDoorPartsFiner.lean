/- The law PartsFiner returns true for every list of sets, and leaves the list as it was. No condition. -/
import Derived.Test.YtinlfbacfmmfpaaDoorPartsAsks
namespace Go.Proofs.YtinlfbacfmmfpaaDoor
open Go.ChangeShapes Go.WideShapes Go.ChangeAt Go.RowKit
/-! ### The plain laws -/
theorem setsTo_congr {R S : Nat → Nat → Bool} (h : ∀ b c, b < 256 → c < 256 → R b c = S b c) : setsTo R 256 = setsTo S 256 := by
  unfold setsTo
  rw [reps_congr 256 h]
  refine List.map_congr_left fun c hc => set_ext fun d hd => ?_
  rw [mem_cls, mem_cls, h c d (reps_lt S 256 c hc) hd]
theorem kern_num {R : Nat → Nat → Bool} (E : Equi R) (b c : Nat) (hb : b < 256) (hc : c < 256) : Kern (keyN (numR R)) b c = R b c := by
  have h1 : (keyN (numR R) b = keyN (numR R) c) ↔ R b c = true := by unfold keyN; rw [← numR_eq E hb hc]; omega
  rw [Bool.eq_iff_iff, ← h1]
  simp [Kern]
/-- A set and one of the classes: all of the class, or nothing of it. -/
theorem meet_class (l : List BSet) (i k : Nat) (hi : i < l.length) (hk : k < (setsTo (RL l) 256).length) : l[i] &&& (setsTo (RL l) 256)[k] = (setsTo (RL l) 256)[k] ∨ l[i] &&& (setsTo (RL l) 256)[k] = 0 := by
  simp only [setsTo, List.getElem_map]
  generalize (reps (RL l) 256)[k]'(by simpa [setsTo] using hk) = c
  have key : ∀ d, RL l c d = true → mem l[i] d = mem l[i] c := fun d h => by
    unfold RL at h
    have := List.all_eq_true.1 h l[i] (List.getElem_mem hi)
    simpa using (beq_iff_eq.1 this).symm
  cases hm : mem l[i] c with
  | true =>
    refine .inl (set_ext fun d hd => ?_)
    rw [mem_and, mem_cls]
    cases hR : RL l c d with
    | false => simp
    | true => rw [key d hR, hm]; simp
  | false =>
    refine .inr (set_ext fun d hd => ?_)
    rw [mem_and, mem_cls, mem_zero]
    cases hR : RL l c d with
    | false => simp
    | true => rw [key d hR, hm]; simp
theorem apart_reps (l : List BSet) (a b : Nat) (ha : a < (reps (RL l) 256).length) (hb : b < a) : RL l (reps (RL l) 256)[a] ((reps (RL l) 256)[b]'(by omega)) = false :=
  reps_least (RL_equi l) 256 _ _ (List.getElem_mem ha) (reps_sorted _ 256 b a hb ha)
theorem apart_step (l : List BSet) (i x y : Nat) (hi : i < l.length) : (!RL (l.take (i + 1)) x y) = ((!RL (l.take i) x y) || (mem l[i] x != mem l[i] y)) := by
  rw [List.take_succ_eq_append_getElem hi, RL_snoc]
  cases RL (l.take i) x y <;> simp [bne]
/-- All that the walk wants to know of the classes. -/
theorem finer_plain (l : List BSet) (n : Nat) (hn : l.length = n) : ∃ (G : Nat → Nat) (m : Nat) (C : List BSet) (xs : List Nat) (A : Nat → Nat → Nat → Bool),
    (∀ a cap w, SliceR w (.slice a n cap) 4 encS l → Calls Tryd.prog 32 #[.slice a n cap] w (Ret w (.tuple #[.agg (arr8 G), .int .i64 (m : Nat)]))) ∧
    (∀ w, Calls Tryd.prog 14 #[.agg (arr8 G)] w (RetOwn w 34 4 encS C)) ∧
    (∀ w, Tab w → Calls Tryd.prog 16 #[.agg (arr8 G)] w (RetOwn w 5 1 encB xs)) ∧
    C.length = m ∧ xs.length = m ∧ m ≤ 256 ∧ (∀ i k (hi : i < l.length) (hk : k < C.length), l[i] &&& C[k] = C[k] ∨ l[i] &&& C[k] = 0) ∧
    (∀ i x y (hi : i < l.length), A (i + 1) x y = (A i x y || (mem l[i] x != mem l[i] y))) ∧
    (∀ p q (hp : p < xs.length) (hq : q < p), A n xs[p] (xs[q]'(by omega)) = true) ∧ (∀ x y, A 0 x y = false) ∧ ∀ x ∈ xs, x < 256 := by
  subst hn
  have hE := RL_equi l
  have e1 : setsTo (Kern (keyN (numR (RL l)))) 256 = setsTo (RL l) 256 := setsTo_congr (kern_num hE)
  have e2 : reps (Kern (keyN (numR (RL l)))) 256 = reps (RL l) 256 := reps_congr 256 (kern_num hE)
  refine ⟨numR (RL l), widR (RL l), setsTo (RL l) 256, reps (RL l) 256, fun i x y => !RL (l.take i) x y, ?_, ?_, ?_, ?_, ?_, ?_, ?_, ?_, ?_, ?_, ?_⟩
  · exact fun a cap w h => parts_Of a cap l w h
  · intro w
    have := parts_Sets (numR (RL l)) w
    rwa [e1] at this
  · intro w hT
    have := parts_Leasts (numR (RL l)) w hT
    rwa [e2] at this
  · exact setsTo_length _ _
  · exact (widR_def _).symm
  · exact widR_le _
  · exact meet_class l
  · exact fun i x y hi => apart_step l i x y hi
  · intro p q hp hq
    show (!RL (l.take l.length) _ _) = true
    rw [List.take_length, apart_reps l p q hp hq]; rfl
  · exact fun x y => rfl
  · exact fun x => reps_lt _ 256 x
set_option maxRecDepth 100000 in
set_option maxHeartbeats 3200000 in
theorem law_PartsFiner (a : Option Addr) (cap n : Nat) (l : List BSet) (hn : l.length = n) (w : World) (h : SliceR w (.slice a n cap) 4 encS l) (hT : Tab w) :
    Calls Tryd.prog 6 #[.slice a n cap] w (Ret w (.bool true)) := by
  obtain ⟨b1, o1, hn1, hlen, hcap, ha1, _, hc1⟩ := h.sets
  rw [← hn1] at hlen
  have hz := zeroV_256
  by_cases hb : 100 < n
  · have hd100 : decide (100 < (n : Int)) = true := by simp; omega
    clear hn hn1 hc1 ha1 h hT
    go_enter Tryd.func6, Tryd.ntmps6
    go_wp2_with (go_at_call 18; go_must (refine (knows19 _).mono ?_; rintro e w1 ⟨rfl, hB⟩))
    go_ret
    exact ⟨rfl, hB⟩
  · obtain ⟨G, m, C, xs, A, hO, hS, hL, hl1, hl2, hm, hmeet, hst2, hap2, h0A, hlt⟩ := finer_plain l n hn
    have HO := Lib.hid (hO a cap w h)
    have HS := Lib.hid hS
    have HL := Lib.hid hL
    have HC := Lib.hid hl1
    have HX := Lib.hid hl2
    have HM := Lib.hid hmeet
    have HS2 := Lib.hid hst2
    have HP2 := Lib.hid hap2
    have H0 := Lib.hid h0A
    have HLT := Lib.hid hlt
    have HN := Lib.hid hn
    have HT := Lib.hid hT
    have HA1 := Lib.hid ha1
    have HC1 := Lib.hid hc1
    clear hO hS hL hl1 hl2 hmeet hst2 hap2 h0A hlt hn hn1 hT h ha1 hc1
    have hd100 : decide (100 < (n : Int)) = false := by simp; omega
    go_enter Tryd.func6, Tryd.ntmps6
    go_wp2_with (first | (go_at_call 32; go_must (refine HO.out.mono ?_; rintro e w1 ⟨rfl, hB1⟩)) | (refine wpList_store_new rfl 22 (.tmp 3) (.tmp 21) rfl _ _ rfl rfl rfl (size_256 _) (arr8_sizes _ _) (arr8_all _) ?_) | (refine wpList_load_row rfl 22 (.tmp 3) rfl _ rfl _ _ _ _ (Box.new _ _ _) Tryd.underlying22 rfl (size_256 _) ?_) | (go_at_call 14; go_must (refine (HS.out _).mono ?_; intro e w2 h2; obtain ⟨a2, cap2, rfl, o2, hB2⟩ := h2; rw [HC.out] at o2 ⊢)))
    have hp : w.heap.size ≤ w1.heap.size := hB1.size
    have hB : Below w.heap.size w w2 := (hB1.alloc hp _).trans (hB2.mono (by simp; omega))
    have hx2 : Box w2 w1.heap.size (arr8 G) 22 := (Box.new w1 _ _).kept hB2
    obtain ⟨b2, q2, hn2, hcap2, hcap2', ha2, _, hc2⟩ := SliceR.sets (o2.slice encS_ok)
    have HC2 := Lib.hid hc2
    have HA2 := Lib.hid ha2
    have HX2 := Lib.hid hx2
    have HB := Lib.hid hB
    have hqz : ∀ w, (Op.equalIn 10000 34 (.agg #[.int .u64 0, .int .u64 0, .int .u64 0, .int .u64 0]) (.agg #[.int .u64 0, .int .u64 0, .int .u64 0, .int .u64 0])).run Tryd.prog w = .ok true w := fun w => by
      have := run_eqS (P := Tryd.prog) (t := 34) (e := 32) Tryd.underlying34 Tryd.underlying32 (by kernel_rfl) 0 0 w
      rw [setV, setC_zero] at this
      simpa using this
    have HQZ := Lib.hid hqz
    generalize w1.heap.size = p3 at *
    clear hB hx2 o2 hn2 hc2 ha2 hB1 hB2 hqz
    go_loopw [6] (fun i wr => ∃ j : Nat, j ≤ n ∧ i = .int .i64 j ∧ Below w2.heap.size w2 wr) (fun i _ => n - (intOf i).toNat)
    case atStart => exact ⟨0, Nat.zero_le _, rfl, Below.refl _ _⟩
    case round =>
      obtain ⟨j, hj, rfl, hB⟩ := hrel
      by_cases hlt : j < n
      · have hdj : decide ((j : Int) < (n : Int)) = true := by simp; omega
        go_wp2
        go_loopw [7] (fun i wr => ∃ k : Nat, k ≤ m ∧ i = .int .i64 k ∧ Below w2.heap.size w2 wr) (fun i _ => m - (intOf i).toNat)
        case atStart => exact ⟨0, Nat.zero_le _, rfl, hB⟩
        case round =>
          clear hB
          obtain ⟨k, hk, rfl, hB⟩ := hrel
          by_cases hlt2 : k < m
          · have hj2 : j < l.length := by rw [HN.out]; exact hlt
            have hk2 : k < C.length := by rw [HC.out]; exact hlt2
            obtain rfl := HA1.out j hj2
            obtain rfl := HA2.out k hk2
            have hcc1 := HC1.out j hj2
            have hcc2 := HC2.out k hk2
            have hmm := HM.out j k hj2 hk2
            have hme := fun w => sets_Meet l[j] C[k] w
            have hqs := fun (x y : BSet) w => run_eqS (P := Tryd.prog) (t := 34) (e := 32) Tryd.underlying34 Tryd.underlying32 (by kernel_rfl) x y w
            generalize l[j] &&& C[k] = M at *
            generalize l[j] = s1 at *
            generalize C[k] = s2 at *
            have HF : Hid (∀ w1, Later wr.drew w1 → Below w2.heap.size w2 w1) := Lib.hid fun w1 hl => hB.drew.trans (Below.mono hl hB.size)
            have HME := Lib.hid hme
            have HQS := Lib.hid hqs
            have HK1 := Lib.hid hcc1
            have HK2 := Lib.hid hcc2
            have HMM := Lib.hid hmm
            have hk0 : (0 : Int) ≤ (k : Int) := by omega
            have hkm : (k : Int) < (m : Int) := by omega
            have hj0 : (0 : Int) ≤ (j : Int) := by omega
            have hjn : (j : Int) < (n : Int) := by omega
            clear hme hqs hcc1 hcc2 hmm hB
            go_wp2_with fail
            refine wp_region_M 10 (by kernel_rfl) ?_
            refine wpM_take (t := 10) (i := 0) (v := ?_) rfl (by kernel_rfl) (by kernel_rfl) (by kernel_rfl) (by kernel_rfl) (fun _ _ _ h => h) (by rfl) (fun w1 hl => ?_) ?_
            rotate_left
            · obtain ⟨c0, c1, c2, c3⟩ := HK1.out w1 (HB.out.trans ((HF.out w1 hl).mono HB.out.size)); obtain ⟨d0, d1, d2, d3⟩ := HK2.out w1 (HF.out w1 hl); go_simp; try with_reducible rfl
            simp only [List.getElem_toArray, List.getElem_cons_zero, Act.put, List.setIfInBounds_toArray, List.set_cons_zero, List.set_cons_succ]
            refine wpM_take (t := 10) (i := 1) (v := ?_) rfl (by kernel_rfl) (by kernel_rfl) (by kernel_rfl) (by kernel_rfl) (fun _ _ _ h => h) (by rfl) (fun w1 hl => ?_) ?_
            rotate_left
            · obtain ⟨c0, c1, c2, c3⟩ := HK1.out w1 (HB.out.trans ((HF.out w1 hl).mono HB.out.size)); obtain ⟨d0, d1, d2, d3⟩ := HK2.out w1 (HF.out w1 hl); go_simp; try with_reducible rfl
            simp only [List.getElem_toArray, List.getElem_cons_zero, List.getElem_cons_succ, Act.put, List.setIfInBounds_toArray, List.set_cons_zero, List.set_cons_succ]
            refine wpM_take (t := 10) (i := 2) (v := ?_) rfl (by kernel_rfl) (by kernel_rfl) (by kernel_rfl) (by kernel_rfl) (fun _ _ _ h => h) (by rfl) (fun w1 hl => ?_) ?_
            rotate_left
            · obtain ⟨c0, c1, c2, c3⟩ := HK1.out w1 (HB.out.trans ((HF.out w1 hl).mono HB.out.size)); obtain ⟨d0, d1, d2, d3⟩ := HK2.out w1 (HF.out w1 hl); go_simp; try with_reducible rfl
            simp only [List.getElem_toArray, List.getElem_cons_zero, List.getElem_cons_succ, Act.put, List.setIfInBounds_toArray, List.set_cons_zero, List.set_cons_succ]
            refine wpM_take (t := 10) (i := 3) (v := ?_) rfl (by kernel_rfl) (by kernel_rfl) (by kernel_rfl) (by kernel_rfl) (fun _ _ _ h => h) (by rfl) (fun w1 hl => ?_) ?_
            rotate_left
            · obtain ⟨c0, c1, c2, c3⟩ := HK1.out w1 (HB.out.trans ((HF.out w1 hl).mono HB.out.size)); obtain ⟨d0, d1, d2, d3⟩ := HK2.out w1 (HF.out w1 hl); go_simp; try with_reducible rfl
            simp only [List.getElem_toArray, List.getElem_cons_zero, List.getElem_cons_succ, Act.put, List.setIfInBounds_toArray, List.set_cons_zero, List.set_cons_succ]
            refine wpM_take (t := 10) (i := 4) (v := ?_) rfl (by kernel_rfl) (by kernel_rfl) (by kernel_rfl) (by kernel_rfl) (fun _ _ _ h => h) (by rfl) (fun w1 hl => ?_) ?_
            rotate_left
            · obtain ⟨c0, c1, c2, c3⟩ := HK1.out w1 (HB.out.trans ((HF.out w1 hl).mono HB.out.size)); obtain ⟨d0, d1, d2, d3⟩ := HK2.out w1 (HF.out w1 hl); go_simp; try with_reducible rfl
            simp only [List.getElem_toArray, List.getElem_cons_zero, List.getElem_cons_succ, Act.put, List.setIfInBounds_toArray, List.set_cons_zero, List.set_cons_succ]
            refine wpM_take (t := 10) (i := 5) (v := ?_) rfl (by kernel_rfl) (by kernel_rfl) (by kernel_rfl) (by kernel_rfl) (fun _ _ _ h => h) (by rfl) (fun w1 hl => ?_) ?_
            rotate_left
            · obtain ⟨c0, c1, c2, c3⟩ := HK1.out w1 (HB.out.trans ((HF.out w1 hl).mono HB.out.size)); obtain ⟨d0, d1, d2, d3⟩ := HK2.out w1 (HF.out w1 hl); go_simp; try with_reducible rfl
            simp only [List.getElem_toArray, List.getElem_cons_zero, List.getElem_cons_succ, Act.put, List.setIfInBounds_toArray, List.set_cons_zero, List.set_cons_succ]
            refine wpM_take (t := 10) (i := 6) (v := ?_) rfl (by kernel_rfl) (by kernel_rfl) (by kernel_rfl) (by kernel_rfl) (fun _ _ _ h => h) (by rfl) (fun w1 hl => ?_) ?_
            rotate_left
            · obtain ⟨c0, c1, c2, c3⟩ := HK1.out w1 (HB.out.trans ((HF.out w1 hl).mono HB.out.size)); obtain ⟨d0, d1, d2, d3⟩ := HK2.out w1 (HF.out w1 hl); go_simp; try with_reducible rfl
            simp only [List.getElem_toArray, List.getElem_cons_zero, List.getElem_cons_succ, Act.put, List.setIfInBounds_toArray, List.set_cons_zero, List.set_cons_succ]
            refine wpM_take (t := 10) (i := 7) (v := ?_) rfl (by kernel_rfl) (by kernel_rfl) (by kernel_rfl) (by kernel_rfl) (fun _ _ _ h => h) (by rfl) (fun w1 hl => ?_) ?_
            rotate_left
            · obtain ⟨c0, c1, c2, c3⟩ := HK1.out w1 (HB.out.trans ((HF.out w1 hl).mono HB.out.size)); obtain ⟨d0, d1, d2, d3⟩ := HK2.out w1 (HF.out w1 hl); go_simp; try with_reducible rfl
            simp only [List.getElem_toArray, List.getElem_cons_zero, List.getElem_cons_succ, Act.put, List.setIfInBounds_toArray, List.set_cons_zero, List.set_cons_succ]
            refine wpM_call (t := 10) (i := 8) (f := ?_) (args := ?_) (v := ?_) rfl (by kernel_rfl) (by kernel_rfl) (by kernel_rfl) (by kernel_rfl) (fun _ _ _ h => h) (by rfl) (fun w1 => ?_) (fun w1 hl => ?_) ?_
            rotate_left 4
            · exact HME.out w1
            rotate_left
            · go_simp
            simp only [List.getElem_toArray, List.getElem_cons_zero, List.getElem_cons_succ, Act.put, List.setIfInBounds_toArray, List.set_cons_zero, List.set_cons_succ]
            refine wpM_one (t := 10) (i := 9) (by kernel_rfl) rfl (fun w1 hl K hK => ?_)
            go_simp
            refine hK.out _ _ (fun _ => later_alloc _ _) ?_
            have l1 : Later wr.drew (w1.alloc (.cells #[.int .u64 0, .int .u64 0, .int .u64 0, .int .u64 0] 34)) := Later.trans _ _ _ hl (later_alloc _ _)
            have hb8 := Box.new w1 #[.int .u64 0, .int .u64 0, .int .u64 0, .int .u64 0] 34
            have hp8 : w2.heap.size ≤ w1.heap.size := (HF.out w1 hl).size
            generalize w1.heap.size = p8 at *
            clear hK K
            refine wpM_one (t := 10) (i := 10) (by kernel_rfl) rfl (fun w1 hl K hK => ?_)
            have hb9 := hb8.kept hl
            have x0 := hb9.cell 0
            have x1 := hb9.cell 1
            have x2 := hb9.cell 2
            have x3 := hb9.cell 3
            have y0 := hb9.free 0
            have y1 := hb9.free 1
            have y2 := hb9.free 2
            have y3 := hb9.free 3
            go_simp
            refine hK.out _ _ (fun h => absurd rfl h) ?_
            have hbM := hb9.store4 rfl (.int .u64 (word M 0 : Nat)) (.int .u64 (word M 1 : Nat)) (.int .u64 (word M 2 : Nat)) (.int .u64 (word M 3 : Nat))
            have hB10 := (HF.out _ (Later.trans _ _ _ l1 hl))
            have hB11 : Below w2.heap.size w2 ((((w1.setCell ⟨p8, 0, none⟩ (.int .u64 (word M 0 : Nat))).setCell ⟨p8, 1, none⟩ (.int .u64 (word M 1 : Nat))).setCell ⟨p8, 2, none⟩ (.int .u64 (word M 2 : Nat))).setCell ⟨p8, 3, none⟩ (.int .u64 (word M 3 : Nat))) := (((hB10.setCell (by simpa using hp8) _).setCell (by simpa using hp8) _).setCell (by simpa using hp8) _).setCell (by simpa using hp8) _
            generalize ((((w1.setCell ⟨p8, 0, none⟩ (.int .u64 (word M 0 : Nat))).setCell ⟨p8, 1, none⟩ (.int .u64 (word M 1 : Nat))).setCell ⟨p8, 2, none⟩ (.int .u64 (word M 2 : Nat))).setCell ⟨p8, 3, none⟩ (.int .u64 (word M 3 : Nat))) = W3 at *
            clear hK K x0 x1 x2 x3 y0 y1 y2 y3 hb8 hb9 hB10
            refine wpM_done (by kernel_rfl) (fun w1 hl => ?_) _
            have hb12 := hbM.kept hl
            have hB12 := hB11.trans (Below.mono hl hB11.size)
            clear hbM hB11 hl HF
            by_cases hM : M = s2
            · subst hM
              have hq1 : ∀ w, (Op.equalIn 10000 34 (.agg (setC M)) (.agg (setC M))).run Tryd.prog w = .ok true w := fun w => by
                have := HQS.out M M w
                rw [show decide (M = M) = true by simp] at this; exact this
              have HQ1 := Lib.hid hq1
              have HF : Hid (∀ v, Later w1.drew v → Below w2.heap.size w2 v ∧ Box v p8 (setC M) 34) := Lib.hid fun v hl => ⟨hB12.drew.trans (Below.mono hl hB12.size), hb12.drew.kept hl⟩
              clear hb12 hB12 hq1
              go_wp2_with fail
              refine wp_region_M 11 (by kernel_rfl) ?_
              refine wpM_take (t := 11) (i := 0) (v := ?_) rfl (by kernel_rfl) (by kernel_rfl) (by kernel_rfl) (by kernel_rfl) (fun _ _ _ h => h) (by rfl) (fun w1 hl => ?_) ?_
              rotate_left
              · obtain ⟨⟨x0, x1, x2, x3⟩, _⟩ := (HF.out w1 hl).2.set4; obtain ⟨d0, d1, d2, d3⟩ := HK2.out w1 (HF.out w1 hl).1; have hq1 := HQ1.out; go_simp; try with_reducible rfl
              simp only [List.getElem_toArray, List.getElem_cons_zero, Act.put, List.setIfInBounds_toArray, List.set_cons_zero, List.set_cons_succ]
              refine wpM_take (t := 11) (i := 1) (v := ?_) rfl (by kernel_rfl) (by kernel_rfl) (by kernel_rfl) (by kernel_rfl) (fun _ _ _ h => h) (by rfl) (fun w1 hl => ?_) ?_
              rotate_left
              · obtain ⟨⟨x0, x1, x2, x3⟩, _⟩ := (HF.out w1 hl).2.set4; obtain ⟨d0, d1, d2, d3⟩ := HK2.out w1 (HF.out w1 hl).1; have hq1 := HQ1.out; go_simp; try with_reducible rfl
              simp only [List.getElem_toArray, List.getElem_cons_zero, List.getElem_cons_succ, Act.put, List.setIfInBounds_toArray, List.set_cons_zero, List.set_cons_succ]
              refine wpM_take (t := 11) (i := 2) (v := ?_) rfl (by kernel_rfl) (by kernel_rfl) (by kernel_rfl) (by kernel_rfl) (fun _ _ _ h => h) (by rfl) (fun w1 hl => ?_) ?_
              rotate_left
              · obtain ⟨⟨x0, x1, x2, x3⟩, _⟩ := (HF.out w1 hl).2.set4; obtain ⟨d0, d1, d2, d3⟩ := HK2.out w1 (HF.out w1 hl).1; have hq1 := HQ1.out; go_simp; try with_reducible rfl
              simp only [List.getElem_toArray, List.getElem_cons_zero, List.getElem_cons_succ, Act.put, List.setIfInBounds_toArray, List.set_cons_zero, List.set_cons_succ]
              refine wpM_take (t := 11) (i := 3) (v := ?_) rfl (by kernel_rfl) (by kernel_rfl) (by kernel_rfl) (by kernel_rfl) (fun _ _ _ h => h) (by rfl) (fun w1 hl => ?_) ?_
              rotate_left
              · obtain ⟨⟨x0, x1, x2, x3⟩, _⟩ := (HF.out w1 hl).2.set4; obtain ⟨d0, d1, d2, d3⟩ := HK2.out w1 (HF.out w1 hl).1; have hq1 := HQ1.out; go_simp; try with_reducible rfl
              simp only [List.getElem_toArray, List.getElem_cons_zero, List.getElem_cons_succ, Act.put, List.setIfInBounds_toArray, List.set_cons_zero, List.set_cons_succ]
              refine wpM_take (t := 11) (i := 4) (v := ?_) rfl (by kernel_rfl) (by kernel_rfl) (by kernel_rfl) (by kernel_rfl) (fun _ _ _ h => h) (by rfl) (fun w1 hl => ?_) ?_
              rotate_left
              · obtain ⟨⟨x0, x1, x2, x3⟩, _⟩ := (HF.out w1 hl).2.set4; obtain ⟨d0, d1, d2, d3⟩ := HK2.out w1 (HF.out w1 hl).1; have hq1 := HQ1.out; go_simp; try with_reducible rfl
              simp only [List.getElem_toArray, List.getElem_cons_zero, List.getElem_cons_succ, Act.put, List.setIfInBounds_toArray, List.set_cons_zero, List.set_cons_succ]
              refine wpM_take (t := 11) (i := 5) (v := ?_) rfl (by kernel_rfl) (by kernel_rfl) (by kernel_rfl) (by kernel_rfl) (fun _ _ _ h => h) (by rfl) (fun w1 hl => ?_) ?_
              rotate_left
              · obtain ⟨⟨x0, x1, x2, x3⟩, _⟩ := (HF.out w1 hl).2.set4; obtain ⟨d0, d1, d2, d3⟩ := HK2.out w1 (HF.out w1 hl).1; have hq1 := HQ1.out; go_simp; try with_reducible rfl
              simp only [List.getElem_toArray, List.getElem_cons_zero, List.getElem_cons_succ, Act.put, List.setIfInBounds_toArray, List.set_cons_zero, List.set_cons_succ]
              refine wpM_take (t := 11) (i := 6) (v := ?_) rfl (by kernel_rfl) (by kernel_rfl) (by kernel_rfl) (by kernel_rfl) (fun _ _ _ h => h) (by rfl) (fun w1 hl => ?_) ?_
              rotate_left
              · obtain ⟨⟨x0, x1, x2, x3⟩, _⟩ := (HF.out w1 hl).2.set4; obtain ⟨d0, d1, d2, d3⟩ := HK2.out w1 (HF.out w1 hl).1; have hq1 := HQ1.out; go_simp; try with_reducible rfl
              simp only [List.getElem_toArray, List.getElem_cons_zero, List.getElem_cons_succ, Act.put, List.setIfInBounds_toArray, List.set_cons_zero, List.set_cons_succ]
              refine wpM_skip (t := 11) (i := 7) rfl (by kernel_rfl) (by kernel_rfl) (by kernel_rfl) (by kernel_rfl) (fun _ _ _ h => h) (by rfl) ?_
              simp only [List.getElem_toArray, List.getElem_cons_zero, List.getElem_cons_succ, Act.put, List.setIfInBounds_toArray, List.set_cons_zero, List.set_cons_succ]
              refine wpM_skip (t := 11) (i := 8) rfl (by kernel_rfl) (by kernel_rfl) (by kernel_rfl) (by kernel_rfl) (fun _ _ _ h => h) (by rfl) ?_
              simp only [List.getElem_toArray, List.getElem_cons_zero, List.getElem_cons_succ, Act.put, List.setIfInBounds_toArray, List.set_cons_zero, List.set_cons_succ]
              refine wpM_skip (t := 11) (i := 9) rfl (by kernel_rfl) (by kernel_rfl) (by kernel_rfl) (by kernel_rfl) (fun _ _ _ h => h) (by rfl) ?_
              simp only [List.getElem_toArray, List.getElem_cons_zero, List.getElem_cons_succ, Act.put, List.setIfInBounds_toArray, List.set_cons_zero, List.set_cons_succ]
              refine wpM_take (t := 11) (i := 10) (v := ?_) rfl (by kernel_rfl) (by kernel_rfl) (by kernel_rfl) (by kernel_rfl) (fun _ _ _ h => h) (by rfl) (fun w1 hl => ?_) ?_
              rotate_left
              · skip; go_simp; try with_reducible rfl
              simp only [List.getElem_toArray, List.getElem_cons_zero, List.getElem_cons_succ, Act.put, List.setIfInBounds_toArray, List.set_cons_zero, List.set_cons_succ]
              refine wpM_done (by kernel_rfl) (fun w1 hl => ?_) _
              go_wp2
              go_roundw
              case rel => exact ⟨k + 1, hlt2, by go_num, (HF.out _ hl).1⟩
              case measure => simp [intOf]; omega
            · obtain rfl : M = 0 := by
                rcases HMM.out with h | h
                · exact absurd h hM
                · exact h
              have hq1 : ∀ w, (Op.equalIn 10000 34 (.agg #[.int .u64 0, .int .u64 0, .int .u64 0, .int .u64 0]) (.agg (setC s2))).run Tryd.prog w = .ok false w := fun w => by
                have := HQS.out 0 s2 w
                rw [setV, setC_zero, decide_eq_false hM] at this
                exact this
              have HQ1 := Lib.hid hq1
              have hb13 : Box w1 p8 #[.int .u64 0, .int .u64 0, .int .u64 0, .int .u64 0] 34 := by rw [← setC_zero]; exact hb12
              have HF : Hid (∀ v, Later w1.drew v → Below w2.heap.size w2 v ∧ Box v p8 #[.int .u64 0, .int .u64 0, .int .u64 0, .int .u64 0] 34) := Lib.hid fun v hl => ⟨hB12.drew.trans (Below.mono hl hB12.size), hb13.drew.kept hl⟩
              clear hb12 hB12 hq1 hM hb13
              go_wp2_with fail
              refine wp_region_M 11 (by kernel_rfl) ?_
              refine wpM_take (t := 11) (i := 0) (v := ?_) rfl (by kernel_rfl) (by kernel_rfl) (by kernel_rfl) (by kernel_rfl) (fun _ _ _ h => h) (by rfl) (fun w1 hl => ?_) ?_
              rotate_left
              · have x0 := (HF.out w1 hl).2.cell 0; have x1 := (HF.out w1 hl).2.cell 1; have x2 := (HF.out w1 hl).2.cell 2; have x3 := (HF.out w1 hl).2.cell 3; obtain ⟨d0, d1, d2, d3⟩ := HK2.out w1 (HF.out w1 hl).1; have hq1 := HQ1.out; go_simp; try with_reducible rfl
              simp only [List.getElem_toArray, List.getElem_cons_zero, Act.put, List.setIfInBounds_toArray, List.set_cons_zero, List.set_cons_succ]
              refine wpM_take (t := 11) (i := 1) (v := ?_) rfl (by kernel_rfl) (by kernel_rfl) (by kernel_rfl) (by kernel_rfl) (fun _ _ _ h => h) (by rfl) (fun w1 hl => ?_) ?_
              rotate_left
              · have x0 := (HF.out w1 hl).2.cell 0; have x1 := (HF.out w1 hl).2.cell 1; have x2 := (HF.out w1 hl).2.cell 2; have x3 := (HF.out w1 hl).2.cell 3; obtain ⟨d0, d1, d2, d3⟩ := HK2.out w1 (HF.out w1 hl).1; have hq1 := HQ1.out; go_simp; try with_reducible rfl
              simp only [List.getElem_toArray, List.getElem_cons_zero, List.getElem_cons_succ, Act.put, List.setIfInBounds_toArray, List.set_cons_zero, List.set_cons_succ]
              refine wpM_take (t := 11) (i := 2) (v := ?_) rfl (by kernel_rfl) (by kernel_rfl) (by kernel_rfl) (by kernel_rfl) (fun _ _ _ h => h) (by rfl) (fun w1 hl => ?_) ?_
              rotate_left
              · have x0 := (HF.out w1 hl).2.cell 0; have x1 := (HF.out w1 hl).2.cell 1; have x2 := (HF.out w1 hl).2.cell 2; have x3 := (HF.out w1 hl).2.cell 3; obtain ⟨d0, d1, d2, d3⟩ := HK2.out w1 (HF.out w1 hl).1; have hq1 := HQ1.out; go_simp; try with_reducible rfl
              simp only [List.getElem_toArray, List.getElem_cons_zero, List.getElem_cons_succ, Act.put, List.setIfInBounds_toArray, List.set_cons_zero, List.set_cons_succ]
              refine wpM_take (t := 11) (i := 3) (v := ?_) rfl (by kernel_rfl) (by kernel_rfl) (by kernel_rfl) (by kernel_rfl) (fun _ _ _ h => h) (by rfl) (fun w1 hl => ?_) ?_
              rotate_left
              · have x0 := (HF.out w1 hl).2.cell 0; have x1 := (HF.out w1 hl).2.cell 1; have x2 := (HF.out w1 hl).2.cell 2; have x3 := (HF.out w1 hl).2.cell 3; obtain ⟨d0, d1, d2, d3⟩ := HK2.out w1 (HF.out w1 hl).1; have hq1 := HQ1.out; go_simp; try with_reducible rfl
              simp only [List.getElem_toArray, List.getElem_cons_zero, List.getElem_cons_succ, Act.put, List.setIfInBounds_toArray, List.set_cons_zero, List.set_cons_succ]
              refine wpM_take (t := 11) (i := 4) (v := ?_) rfl (by kernel_rfl) (by kernel_rfl) (by kernel_rfl) (by kernel_rfl) (fun _ _ _ h => h) (by rfl) (fun w1 hl => ?_) ?_
              rotate_left
              · have x0 := (HF.out w1 hl).2.cell 0; have x1 := (HF.out w1 hl).2.cell 1; have x2 := (HF.out w1 hl).2.cell 2; have x3 := (HF.out w1 hl).2.cell 3; obtain ⟨d0, d1, d2, d3⟩ := HK2.out w1 (HF.out w1 hl).1; have hq1 := HQ1.out; go_simp; try with_reducible rfl
              simp only [List.getElem_toArray, List.getElem_cons_zero, List.getElem_cons_succ, Act.put, List.setIfInBounds_toArray, List.set_cons_zero, List.set_cons_succ]
              refine wpM_take (t := 11) (i := 5) (v := ?_) rfl (by kernel_rfl) (by kernel_rfl) (by kernel_rfl) (by kernel_rfl) (fun _ _ _ h => h) (by rfl) (fun w1 hl => ?_) ?_
              rotate_left
              · have x0 := (HF.out w1 hl).2.cell 0; have x1 := (HF.out w1 hl).2.cell 1; have x2 := (HF.out w1 hl).2.cell 2; have x3 := (HF.out w1 hl).2.cell 3; obtain ⟨d0, d1, d2, d3⟩ := HK2.out w1 (HF.out w1 hl).1; have hq1 := HQ1.out; go_simp; try with_reducible rfl
              simp only [List.getElem_toArray, List.getElem_cons_zero, List.getElem_cons_succ, Act.put, List.setIfInBounds_toArray, List.set_cons_zero, List.set_cons_succ]
              refine wpM_take (t := 11) (i := 6) (v := ?_) rfl (by kernel_rfl) (by kernel_rfl) (by kernel_rfl) (by kernel_rfl) (fun _ _ _ h => h) (by rfl) (fun w1 hl => ?_) ?_
              rotate_left
              · have x0 := (HF.out w1 hl).2.cell 0; have x1 := (HF.out w1 hl).2.cell 1; have x2 := (HF.out w1 hl).2.cell 2; have x3 := (HF.out w1 hl).2.cell 3; obtain ⟨d0, d1, d2, d3⟩ := HK2.out w1 (HF.out w1 hl).1; have hq1 := HQ1.out; go_simp; try with_reducible rfl
              simp only [List.getElem_toArray, List.getElem_cons_zero, List.getElem_cons_succ, Act.put, List.setIfInBounds_toArray, List.set_cons_zero, List.set_cons_succ]
              refine wpM_take (t := 11) (i := 7) (v := ?_) rfl (by kernel_rfl) (by kernel_rfl) (by kernel_rfl) (by kernel_rfl) (fun _ _ _ h => h) (by rfl) (fun w1 hl => ?_) ?_
              rotate_left
              · have x0 := (HF.out w1 hl).2.cell 0; have x1 := (HF.out w1 hl).2.cell 1; have x2 := (HF.out w1 hl).2.cell 2; have x3 := (HF.out w1 hl).2.cell 3; have hqz := HQZ.out; go_simp; try with_reducible rfl
              simp only [List.getElem_toArray, List.getElem_cons_zero, List.getElem_cons_succ, Act.put, List.setIfInBounds_toArray, List.set_cons_zero, List.set_cons_succ]
              refine wpM_take (t := 11) (i := 8) (v := ?_) rfl (by kernel_rfl) (by kernel_rfl) (by kernel_rfl) (by kernel_rfl) (fun _ _ _ h => h) (by rfl) (fun w1 hl => ?_) ?_
              rotate_left
              · have x0 := (HF.out w1 hl).2.cell 0; have x1 := (HF.out w1 hl).2.cell 1; have x2 := (HF.out w1 hl).2.cell 2; have x3 := (HF.out w1 hl).2.cell 3; have hqz := HQZ.out; go_simp; try with_reducible rfl
              simp only [List.getElem_toArray, List.getElem_cons_zero, List.getElem_cons_succ, Act.put, List.setIfInBounds_toArray, List.set_cons_zero, List.set_cons_succ]
              refine wpM_take (t := 11) (i := 9) (v := ?_) rfl (by kernel_rfl) (by kernel_rfl) (by kernel_rfl) (by kernel_rfl) (fun _ _ _ h => h) (by rfl) (fun w1 hl => ?_) ?_
              rotate_left
              · have x0 := (HF.out w1 hl).2.cell 0; have x1 := (HF.out w1 hl).2.cell 1; have x2 := (HF.out w1 hl).2.cell 2; have x3 := (HF.out w1 hl).2.cell 3; have hqz := HQZ.out; go_simp; try with_reducible rfl
              simp only [List.getElem_toArray, List.getElem_cons_zero, List.getElem_cons_succ, Act.put, List.setIfInBounds_toArray, List.set_cons_zero, List.set_cons_succ]
              refine wpM_take (t := 11) (i := 10) (v := ?_) rfl (by kernel_rfl) (by kernel_rfl) (by kernel_rfl) (by kernel_rfl) (fun _ _ _ h => h) (by rfl) (fun w1 hl => ?_) ?_
              rotate_left
              · have x0 := (HF.out w1 hl).2.cell 0; have x1 := (HF.out w1 hl).2.cell 1; have x2 := (HF.out w1 hl).2.cell 2; have x3 := (HF.out w1 hl).2.cell 3; have hqz := HQZ.out; go_simp; try with_reducible rfl
              simp only [List.getElem_toArray, List.getElem_cons_zero, List.getElem_cons_succ, Act.put, List.setIfInBounds_toArray, List.set_cons_zero, List.set_cons_succ]
              refine wpM_done (by kernel_rfl) (fun w1 hl => ?_) _
              go_wp2
              go_roundw
              case rel => exact ⟨k + 1, hlt2, by go_num, (HF.out _ hl).1⟩
              case measure => simp [intOf]; omega
          · go_wp2
            go_roundw
            case rel => exact ⟨j + 1, hlt, by go_num, hB⟩
            case measure => simp [intOf]; omega
      · have hx5 := HX2.out.kept hB
        have hT5 := HT.out.kept (HB.out.trans (hB.mono HB.out.size))
        go_wp2_with (first | (refine wpList_load_row rfl 22 (.tmp 3) rfl _ rfl _ _ _ _ hx5 Tryd.underlying22 rfl (size_256 _) ?_) | (go_at_call 16; go_must (refine (HL.out _ hT5).mono ?_; intro e w3 h3; obtain ⟨a3, cap3, rfl, o3, hB3⟩ := h3; rw [HX.out] at o3 ⊢)))
        have hB6 : Below w.heap.size w w3 := (HB.out.trans (hB.mono HB.out.size)).trans (hB3.mono (by have := HB.out.size; have := hB.size; omega))
        obtain ⟨b3, q3, hn3, hcap3, hcap3', ha3, _, hc3⟩ := SliceR.bytes (o3.slice encB_ok)
        have HC3 := Lib.hid hc3
        have HA3 := Lib.hid ha3
        have HB6 := Lib.hid hB6
        clear hn3 hc3 ha3 hB6 hB3 o3 hx5 hT5 hB
        go_loopw [10] (fun i wr => ∃ p : Nat, p ≤ m ∧ i = .int .i64 p ∧ Below w3.heap.size w3 wr) (fun i _ => m - (intOf i).toNat)
        case atStart => exact ⟨0, Nat.zero_le _, rfl, Below.refl _ _⟩
        case round =>
          obtain ⟨p, hp4, rfl, hB⟩ := hrel
          by_cases hlt : p < m
          · have hdp : decide ((p : Int) < (m : Int)) = true := by simp; omega
            go_wp2
            go_loopw [11] (fun i wr => ∃ q : Nat, q ≤ p ∧ i = .int .i64 q ∧ Below w3.heap.size w3 wr) (fun i _ => p - (intOf i).toNat)
            case atStart => exact ⟨0, Nat.zero_le _, rfl, hB⟩
            case round =>
              clear hB
              obtain ⟨q, hq4, rfl, hB⟩ := hrel
              by_cases hlt2 : q < p
              · have hp5 : p < xs.length := by rw [HX.out]; exact hlt
                have hq5 : q < xs.length := by omega
                obtain rfl := HA3.out p hp5
                have hcp := HC3.out p hp5
                have hcq := HC3.out q hq5
                have hfin := HP2.out p q hp5 hlt2
                have hxp := HLT.out _ (List.getElem_mem hp5)
                have hxq := HLT.out _ (List.getElem_mem hq5)
                generalize xs[p] = x at *
                generalize xs[q] = y at *
                have HCP := Lib.hid hcp
                have HCQ := Lib.hid hcq
                have HFI := Lib.hid hfin
                have hp0 : (0 : Int) ≤ (p : Int) := by omega
                have hpm : (p : Int) < (m : Int) := by omega
                have hq0 : (0 : Int) ≤ (q : Int) := by omega
                have hqm : (q : Int) < (m : Int) := by omega
                have hdq : decide ((q : Int) < (p : Int)) = true := by simp; omega
                clear hcp hcq hfin
                go_wp2
                go_loopw [12, 13] (fun v i wr => ∃ j : Nat, j ≤ n ∧ i = .int .i64 j ∧ v = .bool (A j x y) ∧ Below w3.heap.size w3 wr) (fun _ i _ => n - (intOf i).toNat)
                case atStart => exact ⟨0, Nat.zero_le _, rfl, by rw [H0.out], hB⟩
                case round =>
                  clear hB
                  obtain ⟨j, hj, rfl, rfl, hB⟩ := hrel
                  by_cases hlt3 : j < n
                  · have hj2 : j < l.length := by rw [HN.out]; exact hlt3
                    obtain rfl := HA1.out j hj2
                    have hcc1 := HC1.out j hj2
                    have hst := HS2.out j x y hj2
                    have hhx := fun w => sets_Has l[j] x w hxp
                    have hhy := fun w => sets_Has l[j] y w hxq
                    generalize l[j] = s1 at *
                    have HF : Hid (∀ v, Later wr.drew v → Below w3.heap.size w3 v) := Lib.hid fun v hl => hB.drew.trans (Below.mono hl hB.size)
                    have HK1 := Lib.hid hcc1
                    have HHX := Lib.hid hhx
                    have HHY := Lib.hid hhy
                    have hj0 : (0 : Int) ≤ (j : Int) := by omega
                    have hjn : (j : Int) < (n : Int) := by omega
                    have hdj : decide ((j : Int) < (n : Int)) = true := by simp; omega
                    cases hA : A j x y with
                    | true =>
                      rw [hA, Bool.true_or] at hst
                      have HST := Lib.hid hst
                      clear hcc1 hB hst hA hhx hhy
                      go_wp2_with fail
                      refine wp_region_M 23 (by kernel_rfl) ?_
                      refine wpM_take (t := 23) (i := 0) (v := ?_) rfl (by kernel_rfl) (by kernel_rfl) (by kernel_rfl) (by kernel_rfl) (fun _ _ _ h => h) (by rfl) (fun w1 hl => ?_) ?_
                      rotate_left
                      · skip; go_simp; try with_reducible rfl
                      simp only [List.getElem_toArray, List.getElem_cons_zero, Act.put, List.setIfInBounds_toArray, List.set_cons_zero, List.set_cons_succ]
                      refine wpM_take (t := 23) (i := 1) (v := ?_) rfl (by kernel_rfl) (by kernel_rfl) (by kernel_rfl) (by kernel_rfl) (fun _ _ _ h => h) (by rfl) (fun w1 hl => ?_) ?_
                      rotate_left
                      · skip; go_simp; try with_reducible rfl
                      simp only [List.getElem_toArray, List.getElem_cons_zero, List.getElem_cons_succ, Act.put, List.setIfInBounds_toArray, List.set_cons_zero, List.set_cons_succ]
                      refine wpM_skip (t := 23) (i := 2) rfl (by kernel_rfl) (by kernel_rfl) (by kernel_rfl) (by kernel_rfl) (fun _ _ _ h => h) (by rfl) ?_
                      simp only [List.getElem_toArray, List.getElem_cons_zero, List.getElem_cons_succ, Act.put, List.setIfInBounds_toArray, List.set_cons_zero, List.set_cons_succ]
                      refine wpM_skip (t := 23) (i := 3) rfl (by kernel_rfl) (by kernel_rfl) (by kernel_rfl) (by kernel_rfl) (fun _ _ _ h => h) (by rfl) ?_
                      simp only [List.getElem_toArray, List.getElem_cons_zero, List.getElem_cons_succ, Act.put, List.setIfInBounds_toArray, List.set_cons_zero, List.set_cons_succ]
                      refine wpM_skip (t := 23) (i := 4) rfl (by kernel_rfl) (by kernel_rfl) (by kernel_rfl) (by kernel_rfl) (fun _ _ _ h => h) (by rfl) ?_
                      simp only [List.getElem_toArray, List.getElem_cons_zero, List.getElem_cons_succ, Act.put, List.setIfInBounds_toArray, List.set_cons_zero, List.set_cons_succ]
                      refine wpM_skip (t := 23) (i := 5) rfl (by kernel_rfl) (by kernel_rfl) (by kernel_rfl) (by kernel_rfl) (fun _ _ _ h => h) (by rfl) ?_
                      simp only [List.getElem_toArray, List.getElem_cons_zero, List.getElem_cons_succ, Act.put, List.setIfInBounds_toArray, List.set_cons_zero, List.set_cons_succ]
                      refine wpM_skip (t := 23) (i := 6) rfl (by kernel_rfl) (by kernel_rfl) (by kernel_rfl) (by kernel_rfl) (fun _ _ _ h => h) (by rfl) ?_
                      simp only [List.getElem_toArray, List.getElem_cons_zero, List.getElem_cons_succ, Act.put, List.setIfInBounds_toArray, List.set_cons_zero, List.set_cons_succ]
                      refine wpM_skip (t := 23) (i := 7) rfl (by kernel_rfl) (by kernel_rfl) (by kernel_rfl) (by kernel_rfl) (fun _ _ _ h => h) (by rfl) ?_
                      simp only [List.getElem_toArray, List.getElem_cons_zero, List.getElem_cons_succ, Act.put, List.setIfInBounds_toArray, List.set_cons_zero, List.set_cons_succ]
                      refine wpM_skip (t := 23) (i := 8) rfl (by kernel_rfl) (by kernel_rfl) (by kernel_rfl) (by kernel_rfl) (fun _ _ _ h => h) (by rfl) ?_
                      simp only [List.getElem_toArray, List.getElem_cons_zero, List.getElem_cons_succ, Act.put, List.setIfInBounds_toArray, List.set_cons_zero, List.set_cons_succ]
                      refine wpM_skip (t := 23) (i := 9) rfl (by kernel_rfl) (by kernel_rfl) (by kernel_rfl) (by kernel_rfl) (fun _ _ _ h => h) (by rfl) ?_
                      simp only [List.getElem_toArray, List.getElem_cons_zero, List.getElem_cons_succ, Act.put, List.setIfInBounds_toArray, List.set_cons_zero, List.set_cons_succ]
                      refine wpM_skip (t := 23) (i := 10) rfl (by kernel_rfl) (by kernel_rfl) (by kernel_rfl) (by kernel_rfl) (fun _ _ _ h => h) (by rfl) ?_
                      simp only [List.getElem_toArray, List.getElem_cons_zero, List.getElem_cons_succ, Act.put, List.setIfInBounds_toArray, List.set_cons_zero, List.set_cons_succ]
                      refine wpM_skip (t := 23) (i := 11) rfl (by kernel_rfl) (by kernel_rfl) (by kernel_rfl) (by kernel_rfl) (fun _ _ _ h => h) (by rfl) ?_
                      simp only [List.getElem_toArray, List.getElem_cons_zero, List.getElem_cons_succ, Act.put, List.setIfInBounds_toArray, List.set_cons_zero, List.set_cons_succ]
                      refine wpM_skip (t := 23) (i := 12) rfl (by kernel_rfl) (by kernel_rfl) (by kernel_rfl) (by kernel_rfl) (fun _ _ _ h => h) (by rfl) ?_
                      simp only [List.getElem_toArray, List.getElem_cons_zero, List.getElem_cons_succ, Act.put, List.setIfInBounds_toArray, List.set_cons_zero, List.set_cons_succ]
                      refine wpM_skip (t := 23) (i := 13) rfl (by kernel_rfl) (by kernel_rfl) (by kernel_rfl) (by kernel_rfl) (fun _ _ _ h => h) (by rfl) ?_
                      simp only [List.getElem_toArray, List.getElem_cons_zero, List.getElem_cons_succ, Act.put, List.setIfInBounds_toArray, List.set_cons_zero, List.set_cons_succ]
                      refine wpM_skip (t := 23) (i := 14) rfl (by kernel_rfl) (by kernel_rfl) (by kernel_rfl) (by kernel_rfl) (fun _ _ _ h => h) (by rfl) ?_
                      simp only [List.getElem_toArray, List.getElem_cons_zero, List.getElem_cons_succ, Act.put, List.setIfInBounds_toArray, List.set_cons_zero, List.set_cons_succ]
                      refine wpM_skip (t := 23) (i := 15) rfl (by kernel_rfl) (by kernel_rfl) (by kernel_rfl) (by kernel_rfl) (fun _ _ _ h => h) (by rfl) ?_
                      simp only [List.getElem_toArray, List.getElem_cons_zero, List.getElem_cons_succ, Act.put, List.setIfInBounds_toArray, List.set_cons_zero, List.set_cons_succ]
                      refine wpM_skip (t := 23) (i := 16) rfl (by kernel_rfl) (by kernel_rfl) (by kernel_rfl) (by kernel_rfl) (fun _ _ _ h => h) (by rfl) ?_
                      simp only [List.getElem_toArray, List.getElem_cons_zero, List.getElem_cons_succ, Act.put, List.setIfInBounds_toArray, List.set_cons_zero, List.set_cons_succ]
                      refine wpM_skip (t := 23) (i := 17) rfl (by kernel_rfl) (by kernel_rfl) (by kernel_rfl) (by kernel_rfl) (fun _ _ _ h => h) (by rfl) ?_
                      simp only [List.getElem_toArray, List.getElem_cons_zero, List.getElem_cons_succ, Act.put, List.setIfInBounds_toArray, List.set_cons_zero, List.set_cons_succ]
                      refine wpM_skip (t := 23) (i := 18) rfl (by kernel_rfl) (by kernel_rfl) (by kernel_rfl) (by kernel_rfl) (fun _ _ _ h => h) (by rfl) ?_
                      simp only [List.getElem_toArray, List.getElem_cons_zero, List.getElem_cons_succ, Act.put, List.setIfInBounds_toArray, List.set_cons_zero, List.set_cons_succ]
                      refine wpM_skip (t := 23) (i := 19) rfl (by kernel_rfl) (by kernel_rfl) (by kernel_rfl) (by kernel_rfl) (fun _ _ _ h => h) (by rfl) ?_
                      simp only [List.getElem_toArray, List.getElem_cons_zero, List.getElem_cons_succ, Act.put, List.setIfInBounds_toArray, List.set_cons_zero, List.set_cons_succ]
                      refine wpM_skip (t := 23) (i := 20) rfl (by kernel_rfl) (by kernel_rfl) (by kernel_rfl) (by kernel_rfl) (fun _ _ _ h => h) (by rfl) ?_
                      simp only [List.getElem_toArray, List.getElem_cons_zero, List.getElem_cons_succ, Act.put, List.setIfInBounds_toArray, List.set_cons_zero, List.set_cons_succ]
                      refine wpM_take (t := 23) (i := 21) (v := ?_) rfl (by kernel_rfl) (by kernel_rfl) (by kernel_rfl) (by kernel_rfl) (fun _ _ _ h => h) (by rfl) (fun w1 hl => ?_) ?_
                      rotate_left
                      · skip; go_simp; try with_reducible rfl
                      simp only [List.getElem_toArray, List.getElem_cons_zero, List.getElem_cons_succ, Act.put, List.setIfInBounds_toArray, List.set_cons_zero, List.set_cons_succ]
                      refine wpM_take (t := 23) (i := 22) (v := ?_) rfl (by kernel_rfl) (by kernel_rfl) (by kernel_rfl) (by kernel_rfl) (fun _ _ _ h => h) (by rfl) (fun w1 hl => ?_) ?_
                      rotate_left
                      · skip; go_simp; try with_reducible rfl
                      simp only [List.getElem_toArray, List.getElem_cons_zero, List.getElem_cons_succ, Act.put, List.setIfInBounds_toArray, List.set_cons_zero, List.set_cons_succ]
                      refine wpM_done (by kernel_rfl) (fun w1 hl => ?_) _
                      go_wp2
                      go_roundw
                      case rel => exact ⟨j + 1, hlt3, by go_num, by rw [HST.out], HF.out _ hl⟩
                      case measure => simp [intOf]; omega
                    | false =>
                      rw [hA, Bool.false_or] at hst
                      have HST := Lib.hid hst
                      clear hcc1 hB hst hA hhx hhy
                      go_wp2_with fail
                      refine wp_region_M 23 (by kernel_rfl) ?_
                      refine wpM_take (t := 23) (i := 0) (v := ?_) rfl (by kernel_rfl) (by kernel_rfl) (by kernel_rfl) (by kernel_rfl) (fun _ _ _ h => h) (by rfl) (fun w1 hl => ?_) ?_
                      rotate_left
                      · obtain ⟨c0, c1, c2, c3⟩ := HK1.out w1 (HB6.out.trans ((HF.out w1 hl).mono HB6.out.size)); have cp := HCP.out w1 (HF.out w1 hl); have cq := HCQ.out w1 (HF.out w1 hl); go_simp; try with_reducible rfl
                      simp only [List.getElem_toArray, List.getElem_cons_zero, Act.put, List.setIfInBounds_toArray, List.set_cons_zero, List.set_cons_succ]
                      refine wpM_take (t := 23) (i := 1) (v := ?_) rfl (by kernel_rfl) (by kernel_rfl) (by kernel_rfl) (by kernel_rfl) (fun _ _ _ h => h) (by rfl) (fun w1 hl => ?_) ?_
                      rotate_left
                      · obtain ⟨c0, c1, c2, c3⟩ := HK1.out w1 (HB6.out.trans ((HF.out w1 hl).mono HB6.out.size)); have cp := HCP.out w1 (HF.out w1 hl); have cq := HCQ.out w1 (HF.out w1 hl); go_simp; try with_reducible rfl
                      simp only [List.getElem_toArray, List.getElem_cons_zero, List.getElem_cons_succ, Act.put, List.setIfInBounds_toArray, List.set_cons_zero, List.set_cons_succ]
                      refine wpM_take (t := 23) (i := 2) (v := ?_) rfl (by kernel_rfl) (by kernel_rfl) (by kernel_rfl) (by kernel_rfl) (fun _ _ _ h => h) (by rfl) (fun w1 hl => ?_) ?_
                      rotate_left
                      · obtain ⟨c0, c1, c2, c3⟩ := HK1.out w1 (HB6.out.trans ((HF.out w1 hl).mono HB6.out.size)); have cp := HCP.out w1 (HF.out w1 hl); have cq := HCQ.out w1 (HF.out w1 hl); go_simp; try with_reducible rfl
                      simp only [List.getElem_toArray, List.getElem_cons_zero, List.getElem_cons_succ, Act.put, List.setIfInBounds_toArray, List.set_cons_zero, List.set_cons_succ]
                      refine wpM_take (t := 23) (i := 3) (v := ?_) rfl (by kernel_rfl) (by kernel_rfl) (by kernel_rfl) (by kernel_rfl) (fun _ _ _ h => h) (by rfl) (fun w1 hl => ?_) ?_
                      rotate_left
                      · obtain ⟨c0, c1, c2, c3⟩ := HK1.out w1 (HB6.out.trans ((HF.out w1 hl).mono HB6.out.size)); have cp := HCP.out w1 (HF.out w1 hl); have cq := HCQ.out w1 (HF.out w1 hl); go_simp; try with_reducible rfl
                      simp only [List.getElem_toArray, List.getElem_cons_zero, List.getElem_cons_succ, Act.put, List.setIfInBounds_toArray, List.set_cons_zero, List.set_cons_succ]
                      refine wpM_take (t := 23) (i := 4) (v := ?_) rfl (by kernel_rfl) (by kernel_rfl) (by kernel_rfl) (by kernel_rfl) (fun _ _ _ h => h) (by rfl) (fun w1 hl => ?_) ?_
                      rotate_left
                      · obtain ⟨c0, c1, c2, c3⟩ := HK1.out w1 (HB6.out.trans ((HF.out w1 hl).mono HB6.out.size)); have cp := HCP.out w1 (HF.out w1 hl); have cq := HCQ.out w1 (HF.out w1 hl); go_simp; try with_reducible rfl
                      simp only [List.getElem_toArray, List.getElem_cons_zero, List.getElem_cons_succ, Act.put, List.setIfInBounds_toArray, List.set_cons_zero, List.set_cons_succ]
                      refine wpM_take (t := 23) (i := 5) (v := ?_) rfl (by kernel_rfl) (by kernel_rfl) (by kernel_rfl) (by kernel_rfl) (fun _ _ _ h => h) (by rfl) (fun w1 hl => ?_) ?_
                      rotate_left
                      · obtain ⟨c0, c1, c2, c3⟩ := HK1.out w1 (HB6.out.trans ((HF.out w1 hl).mono HB6.out.size)); have cp := HCP.out w1 (HF.out w1 hl); have cq := HCQ.out w1 (HF.out w1 hl); go_simp; try with_reducible rfl
                      simp only [List.getElem_toArray, List.getElem_cons_zero, List.getElem_cons_succ, Act.put, List.setIfInBounds_toArray, List.set_cons_zero, List.set_cons_succ]
                      refine wpM_take (t := 23) (i := 6) (v := ?_) rfl (by kernel_rfl) (by kernel_rfl) (by kernel_rfl) (by kernel_rfl) (fun _ _ _ h => h) (by rfl) (fun w1 hl => ?_) ?_
                      rotate_left
                      · obtain ⟨c0, c1, c2, c3⟩ := HK1.out w1 (HB6.out.trans ((HF.out w1 hl).mono HB6.out.size)); have cp := HCP.out w1 (HF.out w1 hl); have cq := HCQ.out w1 (HF.out w1 hl); go_simp; try with_reducible rfl
                      simp only [List.getElem_toArray, List.getElem_cons_zero, List.getElem_cons_succ, Act.put, List.setIfInBounds_toArray, List.set_cons_zero, List.set_cons_succ]
                      refine wpM_take (t := 23) (i := 7) (v := ?_) rfl (by kernel_rfl) (by kernel_rfl) (by kernel_rfl) (by kernel_rfl) (fun _ _ _ h => h) (by rfl) (fun w1 hl => ?_) ?_
                      rotate_left
                      · obtain ⟨c0, c1, c2, c3⟩ := HK1.out w1 (HB6.out.trans ((HF.out w1 hl).mono HB6.out.size)); have cp := HCP.out w1 (HF.out w1 hl); have cq := HCQ.out w1 (HF.out w1 hl); go_simp; try with_reducible rfl
                      simp only [List.getElem_toArray, List.getElem_cons_zero, List.getElem_cons_succ, Act.put, List.setIfInBounds_toArray, List.set_cons_zero, List.set_cons_succ]
                      refine wpM_take (t := 23) (i := 8) (v := ?_) rfl (by kernel_rfl) (by kernel_rfl) (by kernel_rfl) (by kernel_rfl) (fun _ _ _ h => h) (by rfl) (fun w1 hl => ?_) ?_
                      rotate_left
                      · obtain ⟨c0, c1, c2, c3⟩ := HK1.out w1 (HB6.out.trans ((HF.out w1 hl).mono HB6.out.size)); have cp := HCP.out w1 (HF.out w1 hl); have cq := HCQ.out w1 (HF.out w1 hl); go_simp; try with_reducible rfl
                      simp only [List.getElem_toArray, List.getElem_cons_zero, List.getElem_cons_succ, Act.put, List.setIfInBounds_toArray, List.set_cons_zero, List.set_cons_succ]
                      refine wpM_take (t := 23) (i := 9) (v := ?_) rfl (by kernel_rfl) (by kernel_rfl) (by kernel_rfl) (by kernel_rfl) (fun _ _ _ h => h) (by rfl) (fun w1 hl => ?_) ?_
                      rotate_left
                      · obtain ⟨c0, c1, c2, c3⟩ := HK1.out w1 (HB6.out.trans ((HF.out w1 hl).mono HB6.out.size)); have cp := HCP.out w1 (HF.out w1 hl); have cq := HCQ.out w1 (HF.out w1 hl); go_simp; try with_reducible rfl
                      simp only [List.getElem_toArray, List.getElem_cons_zero, List.getElem_cons_succ, Act.put, List.setIfInBounds_toArray, List.set_cons_zero, List.set_cons_succ]
                      refine wpM_take (t := 23) (i := 11) (v := ?_) rfl (by kernel_rfl) (by kernel_rfl) (by kernel_rfl) (by kernel_rfl) (fun _ _ _ h => h) (by rfl) (fun w1 hl => ?_) ?_
                      rotate_left
                      · obtain ⟨c0, c1, c2, c3⟩ := HK1.out w1 (HB6.out.trans ((HF.out w1 hl).mono HB6.out.size)); have cp := HCP.out w1 (HF.out w1 hl); have cq := HCQ.out w1 (HF.out w1 hl); go_simp; try with_reducible rfl
                      simp only [List.getElem_toArray, List.getElem_cons_zero, List.getElem_cons_succ, Act.put, List.setIfInBounds_toArray, List.set_cons_zero, List.set_cons_succ]
                      refine wpM_take (t := 23) (i := 12) (v := ?_) rfl (by kernel_rfl) (by kernel_rfl) (by kernel_rfl) (by kernel_rfl) (fun _ _ _ h => h) (by rfl) (fun w1 hl => ?_) ?_
                      rotate_left
                      · obtain ⟨c0, c1, c2, c3⟩ := HK1.out w1 (HB6.out.trans ((HF.out w1 hl).mono HB6.out.size)); have cp := HCP.out w1 (HF.out w1 hl); have cq := HCQ.out w1 (HF.out w1 hl); go_simp; try with_reducible rfl
                      simp only [List.getElem_toArray, List.getElem_cons_zero, List.getElem_cons_succ, Act.put, List.setIfInBounds_toArray, List.set_cons_zero, List.set_cons_succ]
                      refine wpM_take (t := 23) (i := 13) (v := ?_) rfl (by kernel_rfl) (by kernel_rfl) (by kernel_rfl) (by kernel_rfl) (fun _ _ _ h => h) (by rfl) (fun w1 hl => ?_) ?_
                      rotate_left
                      · obtain ⟨c0, c1, c2, c3⟩ := HK1.out w1 (HB6.out.trans ((HF.out w1 hl).mono HB6.out.size)); have cp := HCP.out w1 (HF.out w1 hl); have cq := HCQ.out w1 (HF.out w1 hl); go_simp; try with_reducible rfl
                      simp only [List.getElem_toArray, List.getElem_cons_zero, List.getElem_cons_succ, Act.put, List.setIfInBounds_toArray, List.set_cons_zero, List.set_cons_succ]
                      refine wpM_take (t := 23) (i := 14) (v := ?_) rfl (by kernel_rfl) (by kernel_rfl) (by kernel_rfl) (by kernel_rfl) (fun _ _ _ h => h) (by rfl) (fun w1 hl => ?_) ?_
                      rotate_left
                      · obtain ⟨c0, c1, c2, c3⟩ := HK1.out w1 (HB6.out.trans ((HF.out w1 hl).mono HB6.out.size)); have cp := HCP.out w1 (HF.out w1 hl); have cq := HCQ.out w1 (HF.out w1 hl); go_simp; try with_reducible rfl
                      simp only [List.getElem_toArray, List.getElem_cons_zero, List.getElem_cons_succ, Act.put, List.setIfInBounds_toArray, List.set_cons_zero, List.set_cons_succ]
                      refine wpM_take (t := 23) (i := 15) (v := ?_) rfl (by kernel_rfl) (by kernel_rfl) (by kernel_rfl) (by kernel_rfl) (fun _ _ _ h => h) (by rfl) (fun w1 hl => ?_) ?_
                      rotate_left
                      · obtain ⟨c0, c1, c2, c3⟩ := HK1.out w1 (HB6.out.trans ((HF.out w1 hl).mono HB6.out.size)); have cp := HCP.out w1 (HF.out w1 hl); have cq := HCQ.out w1 (HF.out w1 hl); go_simp; try with_reducible rfl
                      simp only [List.getElem_toArray, List.getElem_cons_zero, List.getElem_cons_succ, Act.put, List.setIfInBounds_toArray, List.set_cons_zero, List.set_cons_succ]
                      refine wpM_take (t := 23) (i := 16) (v := ?_) rfl (by kernel_rfl) (by kernel_rfl) (by kernel_rfl) (by kernel_rfl) (fun _ _ _ h => h) (by rfl) (fun w1 hl => ?_) ?_
                      rotate_left
                      · obtain ⟨c0, c1, c2, c3⟩ := HK1.out w1 (HB6.out.trans ((HF.out w1 hl).mono HB6.out.size)); have cp := HCP.out w1 (HF.out w1 hl); have cq := HCQ.out w1 (HF.out w1 hl); go_simp; try with_reducible rfl
                      simp only [List.getElem_toArray, List.getElem_cons_zero, List.getElem_cons_succ, Act.put, List.setIfInBounds_toArray, List.set_cons_zero, List.set_cons_succ]
                      refine wpM_take (t := 23) (i := 17) (v := ?_) rfl (by kernel_rfl) (by kernel_rfl) (by kernel_rfl) (by kernel_rfl) (fun _ _ _ h => h) (by rfl) (fun w1 hl => ?_) ?_
                      rotate_left
                      · obtain ⟨c0, c1, c2, c3⟩ := HK1.out w1 (HB6.out.trans ((HF.out w1 hl).mono HB6.out.size)); have cp := HCP.out w1 (HF.out w1 hl); have cq := HCQ.out w1 (HF.out w1 hl); go_simp; try with_reducible rfl
                      simp only [List.getElem_toArray, List.getElem_cons_zero, List.getElem_cons_succ, Act.put, List.setIfInBounds_toArray, List.set_cons_zero, List.set_cons_succ]
                      refine wpM_take (t := 23) (i := 18) (v := ?_) rfl (by kernel_rfl) (by kernel_rfl) (by kernel_rfl) (by kernel_rfl) (fun _ _ _ h => h) (by rfl) (fun w1 hl => ?_) ?_
                      rotate_left
                      · obtain ⟨c0, c1, c2, c3⟩ := HK1.out w1 (HB6.out.trans ((HF.out w1 hl).mono HB6.out.size)); have cp := HCP.out w1 (HF.out w1 hl); have cq := HCQ.out w1 (HF.out w1 hl); go_simp; try with_reducible rfl
                      simp only [List.getElem_toArray, List.getElem_cons_zero, List.getElem_cons_succ, Act.put, List.setIfInBounds_toArray, List.set_cons_zero, List.set_cons_succ]
                      refine wpM_call (t := 23) (i := 10) (f := ?_) (args := ?_) (v := ?_) rfl (by kernel_rfl) (by kernel_rfl) (by kernel_rfl) (by kernel_rfl) (fun _ _ _ h => h) (by rfl) (fun w1 => ?_) (fun w1 hl => ?_) ?_
                      rotate_left 4
                      · exact HHX.out w1
                      rotate_left
                      · go_simp
                      simp only [List.getElem_toArray, List.getElem_cons_zero, List.getElem_cons_succ, Act.put, List.setIfInBounds_toArray, List.set_cons_zero, List.set_cons_succ]
                      refine wpM_call (t := 23) (i := 19) (f := ?_) (args := ?_) (v := ?_) rfl (by kernel_rfl) (by kernel_rfl) (by kernel_rfl) (by kernel_rfl) (fun _ _ _ h => h) (by rfl) (fun w1 => ?_) (fun w1 hl => ?_) ?_
                      rotate_left 4
                      · exact HHY.out w1
                      rotate_left
                      · go_simp
                      simp only [List.getElem_toArray, List.getElem_cons_zero, List.getElem_cons_succ, Act.put, List.setIfInBounds_toArray, List.set_cons_zero, List.set_cons_succ]
                      refine wpM_take (t := 23) (i := 20) (v := ?_) rfl (by kernel_rfl) (by kernel_rfl) (by kernel_rfl) (by kernel_rfl) (fun _ _ _ h => h) (by rfl) (fun w1 hl => ?_) ?_
                      rotate_left
                      · skip; go_simp; try with_reducible rfl
                      simp only [List.getElem_toArray, List.getElem_cons_zero, List.getElem_cons_succ, Act.put, List.setIfInBounds_toArray, List.set_cons_zero, List.set_cons_succ]
                      refine wpM_take (t := 23) (i := 21) (v := ?_) rfl (by kernel_rfl) (by kernel_rfl) (by kernel_rfl) (by kernel_rfl) (fun _ _ _ h => h) (by rfl) (fun w1 hl => ?_) ?_
                      rotate_left
                      · skip; go_simp; try with_reducible rfl
                      simp only [List.getElem_toArray, List.getElem_cons_zero, List.getElem_cons_succ, Act.put, List.setIfInBounds_toArray, List.set_cons_zero, List.set_cons_succ]
                      refine wpM_take (t := 23) (i := 22) (v := ?_) rfl (by kernel_rfl) (by kernel_rfl) (by kernel_rfl) (by kernel_rfl) (fun _ _ _ h => h) (by rfl) (fun w1 hl => ?_) ?_
                      rotate_left
                      · skip; go_simp; try with_reducible rfl
                      simp only [List.getElem_toArray, List.getElem_cons_zero, List.getElem_cons_succ, Act.put, List.setIfInBounds_toArray, List.set_cons_zero, List.set_cons_succ]
                      refine wpM_done (by kernel_rfl) (fun w1 hl => ?_) _
                      go_wp2
                      go_roundw
                      case rel => exact ⟨j + 1, hlt3, by go_num, by rw [HST.out]; simp [bne], HF.out _ hl⟩
                      case measure => simp [intOf]; omega
                  · obtain rfl : j = n := by omega
                    have hfin := HFI.out
                    go_wp2
                    go_roundw
                    case rel => exact ⟨q + 1, hlt2, by go_num, hB⟩
                    case measure => simp [intOf]; omega
              · go_wp2
                go_roundw
                case rel => exact ⟨p + 1, hlt, by go_num, hB⟩
                case measure => simp [intOf]; omega
          · go_wp2_with (go_at_call 18; go_must (refine (knows19 _).mono ?_; rintro e w7 ⟨rfl, hB7⟩))
            go_ret
            have h8 := HB6.out.trans (hB.mono HB6.out.size)
            exact ⟨rfl, h8.trans (hB7.mono h8.size)⟩
theorem table_PartsFiner {W : World} (h : laidMetH Tryd.prog Rows.partsFinerRow.laid W) : Tab W := tab_of_tabIs (Lib.tabIs_of_head (zs := Lib.deBruijn64tab.map fun (x : Nat) => (x : Int)) (rest := []) gTab gTabType Tryd.underlying77 Tryd.underlying5 (by kernel_rfl) (by kernel_rfl) h)
set_option maxRecDepth 100000 in
theorem contract_PartsFiner (H : Type) (enc : TypeId × Value → H) (W : World) (base : Nat) (args : Array Value) (ds gs : List (DataW H)) (before : List MemPlace)
    (hval0 : ∀ (j : Nat) t v, Tryd.f6.params[j]? = some t → args[j]? = some v → Value.okWide Tryd.prog W .any base t v)
    (hW : DataW.Whole enc Tryd.prog Tryd.f6.params.toList Rows.partsFinerSpec.vars false W args.toList ds gs before) (hL : laidMetH Tryd.prog Rows.partsFinerRow.laid W) :
    Calls Tryd.prog 6 args W fun e W' => ∃ v, e = .returned v ∧ Rows.partsFinerSpec.post enc Tryd.prog Tryd.f6 false true false false W args v W' := by
  have hval : ∀ (j : Nat) t v, Tryd.f6.params[j]? = some t → args[j]? = some v → Value.okWide Tryd.prog W .any base t v := hval0
  have hW' := hW
  have hT := table_PartsFiner hL
  obtain ⟨p, q, hA0, hV, rfl, hfz, hnd⟩ := hW
  have hA : DataW.TrodAll enc Tryd.prog W 0 (fun _ => true) true Tryd.f6.params.toList args.toList ds p := hA0
  rw [Tryd.params6] at hA hval
  obtain ⟨v0, vs0, d0, ds0, p0, q0, hargs, rfl, rfl, h00, r0⟩ := trodAll_cons hA
  obtain ⟨rfl, rfl, rfl⟩ := trodAll_nil r0
  obtain rfl : args = #[v0] := by cases args; simp_all
  obtain ⟨rfl, rfl⟩ := trodVars_none hV
  have k00 := h00
  have lt0 : ∀ x ∈ p0, x.block < W.heap.size := by obtain ⟨m, hm⟩ := k00; exact DataW.trod_lt m _ _ _ hm
  obtain ⟨a_l, len0, cap_l, rfl⟩ := okWide_slice Tryd.underlying27 (hval 0 27 v0 rfl rfl)
  obtain ⟨l, hl0, hl⟩ : ∃ l : List BSet, len0 = l.length ∧ SliceR W (.slice a_l l.length cap_l) 4 encS l := by
    obtain ⟨fuel, hfu⟩ := h00
    exact trod_sets Tryd.underlying27 Tryd.underlying34 Tryd.underlying32 (by kernel_rfl) (by kernel_rfl) hfu
  subst hl0
  clear hA0 hval0
  refine (law_PartsFiner a_l cap_l l.length l rfl W hl hT).mono fun e W' ⟨he, bel⟩ => ?_
  subst he
  exact ⟨_, rfl, _, _, _, [], _, [], hW', trodAll_mk1 (shut_bool Tryd.underlying4 _), (trodAll_cons_mk (Below.trod laidOut (by kernel_rfl) (of_decide_eq_true (by kernel_rfl)) k00 bel lt0) trodAll_mk0), rfl, bel.frame _, fun h => by cases h⟩
theorem laid_met_PartsFiner (os : Os) : laidMet Tryd.prog Rows.partsFinerRow.laid ((laidWorld os).forCall (fun _ _ => 0) ⟨#[], #[.slice none 0 0], []⟩).memory :=
  laidMet_of_run' 8 (by kernel_rfl) (by kernel_rfl)
theorem reads_PartsFiner (os : Os) {H : Type} (enc : TypeId × Value → H) : ∃ places, DataW.whole enc Tryd.prog ((laidWorld os).forCall (fun _ _ => 0) ⟨#[], #[.slice none 0 0], []⟩).memory Tryd.f6.params.toList Rows.partsFinerSpec.vars false (#[.slice none 0 0] : Array Value).toList 8 = some ([.nil], [], places) :=
  ⟨[], by kernel_rfl⟩
set_option maxRecDepth 100000 in
theorem lifted_PartsFiner (os : Os) (started : os.Started) (H : Type) (enc : TypeId × Value → H) (F : Stop.Interp) :
    ReturnsInHanded {} Tryd.checked os 6 .any ((OpenSpec.ofChange Rows.partsFinerSpec).preRow enc Tryd.prog Tryd.f6 Rows.partsFinerRow.domain false Rows.partsFinerRow.laid) (((OpenSpec.ofChange Rows.partsFinerSpec).at F).post enc Tryd.prog Tryd.f6 false true false false) := by
  obtain ⟨places, hx⟩ := reads_PartsFiner os enc
  refine returnsInHanded_of_row (C := Tryd.checked) (s := OpenSpec.ofChange Rows.partsFinerSpec) own started (by kernel_rfl) Tryd.func6
    (witness_row_at (enc := enc) (C := Tryd.checked) false (laidWorld os) #[.slice none 0 0] rfl (by kernel_rfl) (by kernel_rfl) (by kernel_rfl)
      (OpenSpec.preRow_of_cond 8 hx (by kernel_rfl) (fun k hk => by cases hk) (by kernel_rfl) (laid_met_PartsFiner os))) ?_
  intro W base args ds gs before hval hW _ _ _ hL _ _
  exact contract_PartsFiner H enc W base args ds gs before hval hW hL
theorem said_PartsFiner : Rows.PartsFinerSaid :=
  OpenClaim.holds_of_cond 6 Tryd.f6 rfl rfl rfl rfl rfl rfl rfl ⟨rfl, rfl, rfl, rfl, rfl⟩ rfl rfl rfl rfl rfl (by kernel_rfl) Tryd.func6 (by kernel_rfl)
    (of_decide_eq_true (by kernel_rfl)) (by unfold Func.isWrapper; first | (rw [if_pos (by decide +kernel)]; kernel_rfl) | (rw [if_neg (by decide +kernel)]; exact ⟨rfl, rfl⟩))
    (fun os started H enc _ F => by rw [OpenClaim.pre_eq_preRow]; exact lifted_PartsFiner os started H enc F)
theorem plain_PartsFiner (f : FuncId) (fn : Func) (hf : Tryd.pinned.checked.prog.funcNamed "doublet/doubletlaw19.PartsFiner" = some f) (hfn : Tryd.pinned.checked.prog.funcs[f]? = some fn) :
    false = Tryd.pinned.checked.prog.looks [] ∧ ∀ (j : Nat) t, fn.params[j]? = some t → Tryd.pinned.checked.prog.wantsStandIn t = false := by
  obtain rfl : f = 6 := Option.some.inj ((show Tryd.prog.funcNamed "doublet/doubletlaw19.PartsFiner" = some 6 by kernel_rfl).symm.trans hf) |>.symm
  obtain rfl : fn = Tryd.f6 := (Option.some.inj (Tryd.func6.symm.trans hfn)).symm
  refine ⟨by kernel_rfl, fun j t ht => ?_⟩
  rw [Tryd.params6] at ht
  have hm := Array.mem_of_getElem? ht
  simp only [List.mem_toArray, List.mem_cons, List.not_mem_nil, or_false] at hm
  subst hm
  · exact (show Tryd.prog.wantsStandIn 27 = false by kernel_rfl)
theorem PartsFiner_holds : Rows.PartsFinerCardSaid :=
  Claim7.holds_tied_plain_at .later [] _ _ _ _ said_PartsFiner (fun _ h => by cases h) (by kernel_rfl) (fun _ h => by cases h) partsFiner_row_tie rfl ⟨rfl, rfl⟩ (by kernel_rfl) rfl plain_PartsFiner (by kernel_rfl)
#print axioms PartsFiner_holds
end Go.Proofs.YtinlfbacfmmfpaaDoor
