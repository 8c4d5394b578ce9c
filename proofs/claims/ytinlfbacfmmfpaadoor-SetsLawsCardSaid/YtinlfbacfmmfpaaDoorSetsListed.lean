/- The law SetsListed returns true for every set, and leaves it as it was. No condition. -/
import Derived.Test.YtinlfbacfmmfpaaDoorSetsJoined
import Derived.Laws.BytesArg
import Derived.Shelf.Bytes.SlSmallAll
namespace Go.Proofs.YtinlfbacfmmfpaaDoor
open Go.ChangeShapes Go.WideShapes Go.ChangeAt Go.RowKit

/-- The string of a list of bytes. -/
def strN (l : List Nat) : ByteArray := strOfNums (l.map fun (x : Nat) => (x : Int))
theorem conv_bytes {P : Program} {w : World} {src dst e : TypeId} (hs : P.underlying src = some (.slice e)) (he : P.underlying e = some (.int .u8)) (hd : P.underlying dst = some .string) {a : Option Addr} {cap n : Nat} {xs : List Nat} (hn : n = xs.length) (h : SliceR w (.slice a n cap) 1 encB xs) :
    (convert src dst (.slice a n cap)).run P w = .ok (.string (strN xs)) w := by
  subst hn
  obtain ⟨a', b, o, cap', hv, hl, hc, ha, hx⟩ := h
  obtain ⟨rfl, _, rfl⟩ := Value.slice.inj hv
  rcases ha with rfl | ⟨rfl, _⟩
  · refine run_convert_bytes_arg w src e hs he b o xs.length cap (xs.map fun (x : Nat) => (x : Int)) (by simp) (fun i hi => ?_) dst hd
    have := hx i hi 0 _ rfl
    rw [Nat.mul_one, Nat.add_zero] at this
    rw [this]
    simp [List.getD, hi]
  · exact run_convert_bytes_zero w src e hs he a cap dst hd
theorem neq_self (s : ByteArray) : (!(s.toList == s.toList)) = false := by simp
theorem below_drewN {B : Nat} {w w1 : World} (h : Below B w w1) (n : Nat) : Below B w (w1.drewN n) := ⟨h.os, h.tape, h.output, h.size, h.block⟩
/-- What lies while the law runs: the set, its bytes, and its pieces twice. -/
def ListS (s : BSet) (g : Nat) (B : Nat) (vb vl vm : Value) (w : World) : Prop :=
  Box w g (setC s) 34 ∧ Own w B 5 1 encB vb (elems s) ∧ Own w B 45 2 encQ vl (spansL (elems s)) ∧ Own w B 45 2 encQ vm (spansL (elems s))
theorem ListS.kept {s : BSet} {g B : Nat} {vb vl vm : Value} {w w' : World} (h : ListS s g B vb vl vm w) (hb : Below w.heap.size w w') : ListS s g B vb vl vm w' := ⟨h.1.kept hb, h.2.1.kept hb, h.2.2.1.kept hb, h.2.2.2.kept hb⟩
theorem ListS.drew {s : BSet} {g B : Nat} {vb vl vm : Value} {w : World} (h : ListS s g B vb vl vm w) : ListS s g B vb vl vm w.drew := h.kept (Below.refl _ _).drew
set_option maxRecDepth 20000 in
set_option maxHeartbeats 3200000 in
theorem law_SetsListed (s : BSet) (w : World) (hT : Tab w) : Calls Tryd.prog 5 #[setV s] w (Ret w (.bool true)) := by
  have hstr : ∀ (a : Option Addr) (cap : Nat) (w : World), SliceR w (.slice a (elems s).length cap) 1 encB (elems s) → (convert 29 9 (.slice a (elems s).length cap)).run Tryd.prog w = .ok (.string (strN (elems s))) w := fun a cap w h =>
    conv_bytes Tryd.underlying29 Tryd.underlying5 Tryd.underlying9 rfl h
  have hl1 := elems_length s
  have hl2 := spansL_length (elems s)
  have h1 := fun w h => sets_Bytes s w h
  have h2 := fun w h => sets_Spans s w h
  have h3 := fun w => ref_Spans s w
  have h4 := fun w => ref_Bytes s w
  have h5 := fun w => sets_Count s w
  have h6 := fun w h => sets_Least s w h
  have h7 := fun w => ref_Least s w
  have HSt := Lib.hid hstr
  have H1 := Lib.hid h1
  have H2 := Lib.hid h2
  have H3 := Lib.hid h3
  have H4 := Lib.hid h4
  have H5 := Lib.hid h5
  have H6 := Lib.hid h6
  have H7 := Lib.hid h7
  have HT := Lib.hid hT
  clear hstr h1 h2 h3 h4 h5 h6 h7 hT
  generalize leastOf s = z at *
  generalize strN (elems s) = str at *
  obtain ⟨n, hn⟩ : ∃ n, (elems s).length = n := ⟨_, rfl⟩
  obtain ⟨m, hm⟩ : ∃ m, (spansL (elems s)).length = m := ⟨_, rfl⟩
  have HN := Lib.hid hn
  have HM := Lib.hid hm
  rw [hn] at HSt H5 hl1 hl2
  rw [hm] at hl2
  clear hn hm
  go_enter Tryd.func5, Tryd.ntmps5
  go_wp2_with fail
  have b0 := Box.new w (setC s) 34
  have B0 : Below w.heap.size w (w.alloc (.cells (setC s) 34)) := by go_grown
  generalize w.alloc (.cells (setC s) 34) = W0 at *
  refine (H1.out _ (HT.out.kept B0)).mono ?_
  intro e w1 h1
  obtain ⟨a1, cap1, rfl, o1, hb1⟩ := h1
  have b1 := b0.kept hb1
  have B1 := B0.trans (hb1.mono B0.size)
  rw [HN.out] at o1 ⊢
  have o1 := o1.mono B0.size
  obtain ⟨⟨p0, p1, p2, p3⟩, _⟩ := b1.set4
  go_wp2_with fail
  refine (H2.out _ (HT.out.kept B1)).mono ?_
  intro e w2 h2
  obtain ⟨a2, cap2, rfl, o2, hb2⟩ := h2
  have b2 := b1.kept hb2
  have B2 := B1.trans (hb2.mono B1.size)
  rw [HM.out] at o2 ⊢
  have o2 := o2.mono B1.size
  have o12 := o1.kept hb2
  clear p0 p1 p2 p3
  obtain ⟨⟨p0, p1, p2, p3⟩, _⟩ := b2.set4
  go_wp2_with fail
  refine (H3.out _).mono ?_
  intro e w3 h3
  obtain ⟨a3, cap3, rfl, o3, hb3⟩ := h3
  have b3 := b2.kept hb3
  have B3 := B2.trans (hb3.mono B2.size)
  rw [HM.out] at o3 ⊢
  have o3 := o3.mono B2.size
  clear p0 p1 p2 p3
  have L3 : ListS s w.heap.size w.heap.size (.slice a1 n cap1) (.slice a2 m cap2) (.slice a3 m cap3) w3 := ⟨b3, o12.kept hb3, o2.kept hb3, o3⟩
  have HX : Hid (∀ w', ListS s w.heap.size w.heap.size (.slice a1 n cap1) (.slice a2 m cap2) (.slice a3 m cap3) w' → (convert 29 9 (.slice a1 n cap1)).run Tryd.prog w' = .ok (.string str) w') := Lib.hid fun w' h => HSt.out _ _ _ (h.2.1.slice encB_ok)
  have HK : Hid (∀ w1 w2, ((w1.cell? ⟨w.heap.size, 0, none⟩ = some (.int .u64 (word s 0 : Nat)) ∧ w1.cell? ⟨w.heap.size, 1, none⟩ = some (.int .u64 (word s 1 : Nat)) ∧ w1.cell? ⟨w.heap.size, 2, none⟩ = some (.int .u64 (word s 2 : Nat)) ∧ w1.cell? ⟨w.heap.size, 3, none⟩ = some (.int .u64 (word s 3 : Nat))) ∧ (convert 29 9 (.slice a1 n cap1)).run Tryd.prog w1 = .ok (.string str) w1 ∧ ListS s w.heap.size w.heap.size (.slice a1 n cap1) (.slice a2 m cap2) (.slice a3 m cap3) w1 ∧ Below w.heap.size w w1) → Below w1.heap.size w1 w2 → ((w2.cell? ⟨w.heap.size, 0, none⟩ = some (.int .u64 (word s 0 : Nat)) ∧ w2.cell? ⟨w.heap.size, 1, none⟩ = some (.int .u64 (word s 1 : Nat)) ∧ w2.cell? ⟨w.heap.size, 2, none⟩ = some (.int .u64 (word s 2 : Nat)) ∧ w2.cell? ⟨w.heap.size, 3, none⟩ = some (.int .u64 (word s 3 : Nat))) ∧ (convert 29 9 (.slice a1 n cap1)).run Tryd.prog w2 = .ok (.string str) w2 ∧ ListS s w.heap.size w.heap.size (.slice a1 n cap1) (.slice a2 m cap2) (.slice a3 m cap3) w2 ∧ Below w.heap.size w w2)) := Lib.hid fun w1 w2 ⟨_, _, h3, h4⟩ hb => ⟨(h3.kept hb).1.set4.1, HX.out _ (h3.kept hb), h3.kept hb, h4.trans (hb.mono h4.size)⟩
  have H0 : Hid ((w3.drew.cell? ⟨w.heap.size, 0, none⟩ = some (.int .u64 (word s 0 : Nat)) ∧ w3.drew.cell? ⟨w.heap.size, 1, none⟩ = some (.int .u64 (word s 1 : Nat)) ∧ w3.drew.cell? ⟨w.heap.size, 2, none⟩ = some (.int .u64 (word s 2 : Nat)) ∧ w3.drew.cell? ⟨w.heap.size, 3, none⟩ = some (.int .u64 (word s 3 : Nat))) ∧ (convert 29 9 (.slice a1 n cap1)).run Tryd.prog w3.drew = .ok (.string str) w3.drew ∧ ListS s w.heap.size w.heap.size (.slice a1 n cap1) (.slice a2 m cap2) (.slice a3 m cap3) w3.drew ∧ Below w.heap.size w w3.drew) := Lib.hid ⟨L3.drew.1.set4.1, HX.out _ L3.drew, L3.drew, B3.drew⟩
  have HL : Hid (∀ w1, ((w1.cell? ⟨w.heap.size, 0, none⟩ = some (.int .u64 (word s 0 : Nat)) ∧ w1.cell? ⟨w.heap.size, 1, none⟩ = some (.int .u64 (word s 1 : Nat)) ∧ w1.cell? ⟨w.heap.size, 2, none⟩ = some (.int .u64 (word s 2 : Nat)) ∧ w1.cell? ⟨w.heap.size, 3, none⟩ = some (.int .u64 (word s 3 : Nat))) ∧ (convert 29 9 (.slice a1 n cap1)).run Tryd.prog w1 = .ok (.string str) w1 ∧ ListS s w.heap.size w.heap.size (.slice a1 n cap1) (.slice a2 m cap2) (.slice a3 m cap3) w1 ∧ Below w.heap.size w w1) → Calls Tryd.prog 30 #[.agg (setC s)] w1 (Ret w1 (.int .i64 z))) := Lib.hid fun w1 h => H6.out w1 (HT.out.kept h.2.2.2)
  clear b0 b1 b2 b3 o1 o2 o3 o12 B0 B1 B2 B3 hb1 hb2 hb3 L3
  go_wp2_with fail
  first | go_region_held (fun w' => (w'.cell? ⟨w.heap.size, 0, none⟩ = some (.int .u64 (word s 0 : Nat)) ∧ w'.cell? ⟨w.heap.size, 1, none⟩ = some (.int .u64 (word s 1 : Nat)) ∧ w'.cell? ⟨w.heap.size, 2, none⟩ = some (.int .u64 (word s 2 : Nat)) ∧ w'.cell? ⟨w.heap.size, 3, none⟩ = some (.int .u64 (word s 3 : Nat))) ∧ (convert 29 9 (.slice a1 n cap1)).run Tryd.prog w' = .ok (.string str) w' ∧ ListS s w.heap.size w.heap.size (.slice a1 n cap1) (.slice a2 m cap2) (.slice a3 m cap3) w' ∧ Below w.heap.size w w') (first | exact H0.out | exact HK.out _ _ (by assumption) hb) (first | (go_at_call 28; (with_reducible refine (H4.out _).mono ?_); intro e w1 h8; obtain ⟨a4, cap4, rfl, o4, hb⟩ := h8; rw [HN.out] at o4 ⊢; have hcv := HSt.out _ _ _ (o4.slice encB_ok)) | (go_at_call 29; (with_reducible refine (H5.out _).mono ?_); rintro e w1 ⟨rfl, hb⟩) | (go_at_call 30; (with_reducible refine (HL.out _ (by assumption)).mono ?_); rintro e w1 ⟨rfl, hb⟩) | (go_at_call 31; (with_reducible refine (H7.out _).mono ?_); rintro e w1 ⟨rfl, hb⟩)) | fail
  rename_i hS
  obtain ⟨_, _, hL, hB⟩ := hS
  have heq := fun (p : Nat × Nat) (w : World) => run_eqQ (P := Tryd.prog) (t := 45) (e := 5) Tryd.underlying45 Tryd.underlying5 (by kernel_rfl) p p w
  have HE := Lib.hid heq
  clear heq H4 H5 H7 HL H0 HX HSt H1 H2 H3 H6
  go_wp2
  go_loopw [6] (fun i wr => ∃ k : Nat, k ≤ m ∧ i = .int .i64 k ∧ ListS s w.heap.size w.heap.size (.slice a1 n cap1) (.slice a2 m cap2) (.slice a3 m cap3) wr ∧ Below w.heap.size w wr) (fun i _ => m - (intOf i).toNat)
  case atStart => exact ⟨0, Nat.zero_le _, rfl, hL, hB⟩
  case round =>
    clear hL hB
    obtain ⟨k, hk, rfl, hL, hB⟩ := hrel
    by_cases hlt : k < m
    · obtain ⟨g2, rfl, _, _⟩ := hL.2.2.1.addr (by omega)
      obtain ⟨g3, rfl, _, _⟩ := hL.2.2.2.addr (by omega)
      have hk2 : k < (spansL (elems s)).length := by rw [HM.out]; exact hlt
      obtain ⟨q0, _⟩ := hL.2.2.1.cellAt (i := k) (j := 0) hk2 (by decide)
      obtain ⟨q1, _⟩ := hL.2.2.1.cellAt (i := k) (j := 1) hk2 (by decide)
      obtain ⟨r0, _⟩ := hL.2.2.2.cellAt (i := k) (j := 0) hk2 (by decide)
      obtain ⟨r1, _⟩ := hL.2.2.2.cellAt (i := k) (j := 1) hk2 (by decide)
      generalize (spansL (elems s))[k] = p at *
      obtain ⟨x, y⟩ := p
      rw [Nat.add_zero] at q0 r0
      have e1 : ∀ w, (Op.equalIn 10000 45 (.agg #[.int .u8 x, .int .u8 y]) (.agg #[.int .u8 x, .int .u8 y])).run Tryd.prog w = .ok true w := fun w => by
        have := HE.out (x, y) w
        rwa [decide_true] at this
      have hk0 : (0 : Int) ≤ (k : Int) := by omega
      have hkm : (k : Int) < (m : Int) := by omega
      clear hk2
      go_wp2_with fail
      go_quiet (fail)
      go_wp2
      go_roundw
      case rel => exact ⟨k + 1, hlt, by go_num, hL.kept (below_drewN (Below.refl _ _) _), below_drewN hB _⟩
      case measure => simp [intOf]; omega
    · go_wp2_with (go_at_call 24; go_must (refine (knows02 _ (HT.out.kept hB)).mono ?_; rintro e w7 ⟨rfl, hB7⟩))
      go_ret
      exact ⟨rfl, hB.trans (hB7.mono hB.size)⟩
theorem table_SetsListed {W : World} (h : laidMetH Tryd.prog Rows.setsListedRow.laid W) : Tab W := tab_of_tabIs (Lib.tabIs_of_head (zs := Lib.deBruijn64tab.map fun (x : Nat) => (x : Int)) (rest := []) gTab gTabType Tryd.underlying77 Tryd.underlying5 (by kernel_rfl) (by kernel_rfl) h)
set_option maxRecDepth 100000 in
theorem contract_SetsListed (H : Type) (enc : TypeId × Value → H) (W : World) (base : Nat) (args : Array Value) (ds gs : List (DataW H)) (before : List MemPlace)
    (hval0 : ∀ (j : Nat) t v, Tryd.f5.params[j]? = some t → args[j]? = some v → Value.okWide Tryd.prog W .any base t v)
    (hW : DataW.Whole enc Tryd.prog Tryd.f5.params.toList Rows.setsListedSpec.vars false W args.toList ds gs before) (hL : laidMetH Tryd.prog Rows.setsListedRow.laid W) :
    Calls Tryd.prog 5 args W fun e W' => ∃ v, e = .returned v ∧ Rows.setsListedSpec.post enc Tryd.prog Tryd.f5 false true false false W args v W' := by
  have hval : ∀ (j : Nat) t v, Tryd.f5.params[j]? = some t → args[j]? = some v → Value.okWide Tryd.prog W .any base t v := hval0
  have hW' := hW
  have hT := table_SetsListed hL
  obtain ⟨p, q, hA0, hV, rfl, hfz, hnd⟩ := hW
  have hA : DataW.TrodAll enc Tryd.prog W 0 (fun _ => true) true Tryd.f5.params.toList args.toList ds p := hA0
  rw [Tryd.params5] at hA hval
  obtain ⟨v0, vs0, d0, ds0, p0, q0, hargs, rfl, rfl, h00, r0⟩ := trodAll_cons hA
  obtain ⟨rfl, rfl, rfl⟩ := trodAll_nil r0
  obtain rfl : args = #[v0] := by cases args; simp_all
  obtain ⟨rfl, rfl⟩ := trodVars_none hV
  have k00 := h00
  have lt0 : ∀ x ∈ p0, x.block < W.heap.size := by obtain ⟨m, hm⟩ := k00; exact DataW.trod_lt m _ _ _ hm
  obtain ⟨s, rfl⟩ : ∃ s : BSet, v0 = setV s := by
    obtain ⟨fuel, hfu⟩ := h00
    obtain ⟨cs, hcs, _⟩ := okWide_arr Tryd.underlying34 (hval 0 34 v0 rfl rfl)
    subst hcs
    obtain ⟨s, h2⟩ := trod_set Tryd.underlying34 Tryd.underlying32 (by kernel_rfl) (by kernel_rfl) hfu
    exact ⟨s, by rw [show cs = setC s from Array.ext' h2]⟩
  clear hA0 hval0
  refine (law_SetsListed s W hT).mono fun e W' ⟨he, bel⟩ => ?_
  subst he
  exact ⟨_, rfl, _, _, _, [], _, [], hW', trodAll_mk1 (shut_bool Tryd.underlying4 _), (trodAll_cons_mk (Below.trod laidOut (by kernel_rfl) (of_decide_eq_true (by kernel_rfl)) k00 bel lt0) trodAll_mk0), rfl, bel.frame _, fun h => by cases h⟩
theorem laid_met_SetsListed (os : Os) : laidMet Tryd.prog Rows.setsListedRow.laid ((laidWorld os).forCall (fun _ _ => 0) ⟨#[], #[.agg (Array.replicate 4 (.int .u64 0))], []⟩).memory :=
  laidMet_of_run' 8 (by kernel_rfl) (by kernel_rfl)
theorem reads_SetsListed (os : Os) {H : Type} (enc : TypeId × Value → H) : ∃ places, DataW.whole enc Tryd.prog ((laidWorld os).forCall (fun _ _ => 0) ⟨#[], #[.agg (Array.replicate 4 (.int .u64 0))], []⟩).memory Tryd.f5.params.toList Rows.setsListedSpec.vars false (#[.agg (Array.replicate 4 (.int .u64 0))] : Array Value).toList 8 = some ([.agg [.lit (.int .u64 0), .lit (.int .u64 0), .lit (.int .u64 0), .lit (.int .u64 0)]], [], places) :=
  ⟨[], by kernel_rfl⟩
set_option maxRecDepth 100000 in
theorem lifted_SetsListed (os : Os) (started : os.Started) (H : Type) (enc : TypeId × Value → H) (F : Stop.Interp) :
    ReturnsInHanded {} Tryd.checked os 5 .any ((OpenSpec.ofChange Rows.setsListedSpec).preRow enc Tryd.prog Tryd.f5 Rows.setsListedRow.domain false Rows.setsListedRow.laid) (((OpenSpec.ofChange Rows.setsListedSpec).at F).post enc Tryd.prog Tryd.f5 false true false false) := by
  obtain ⟨places, hx⟩ := reads_SetsListed os enc
  refine returnsInHanded_of_row (C := Tryd.checked) (s := OpenSpec.ofChange Rows.setsListedSpec) own started (by kernel_rfl) Tryd.func5
    (witness_row_at (enc := enc) (C := Tryd.checked) false (laidWorld os) #[.agg (Array.replicate 4 (.int .u64 0))] rfl (by kernel_rfl) (by kernel_rfl) (by kernel_rfl)
      (OpenSpec.preRow_of_cond 8 hx (by kernel_rfl) (fun k hk => by cases hk) (by kernel_rfl) (laid_met_SetsListed os))) ?_
  intro W base args ds gs before hval hW _ _ _ hL _ _
  exact contract_SetsListed H enc W base args ds gs before hval hW hL
theorem said_SetsListed : Rows.SetsListedSaid :=
  OpenClaim.holds_of_cond 5 Tryd.f5 rfl rfl rfl rfl rfl rfl rfl ⟨rfl, rfl, rfl, rfl, rfl⟩ rfl rfl rfl rfl rfl (by kernel_rfl) Tryd.func5 (by kernel_rfl)
    (of_decide_eq_true (by kernel_rfl)) (by unfold Func.isWrapper; first | (rw [if_pos (by decide +kernel)]; kernel_rfl) | (rw [if_neg (by decide +kernel)]; exact ⟨rfl, rfl⟩))
    (fun os started H enc _ F => by rw [OpenClaim.pre_eq_preRow]; exact lifted_SetsListed os started H enc F)
theorem plain_SetsListed (f : FuncId) (fn : Func) (hf : Tryd.pinned.checked.prog.funcNamed "doublet/doubletlaw02.SetsListed" = some f) (hfn : Tryd.pinned.checked.prog.funcs[f]? = some fn) :
    false = Tryd.pinned.checked.prog.looks [] ∧ ∀ (j : Nat) t, fn.params[j]? = some t → Tryd.pinned.checked.prog.wantsStandIn t = false := by
  obtain rfl : f = 5 := Option.some.inj ((show Tryd.prog.funcNamed "doublet/doubletlaw02.SetsListed" = some 5 by kernel_rfl).symm.trans hf) |>.symm
  obtain rfl : fn = Tryd.f5 := (Option.some.inj (Tryd.func5.symm.trans hfn)).symm
  refine ⟨by kernel_rfl, fun j t ht => ?_⟩
  rw [Tryd.params5] at ht
  have hm := Array.mem_of_getElem? ht
  simp only [List.mem_toArray, List.mem_cons, List.not_mem_nil, or_false] at hm
  subst hm
  · exact (show Tryd.prog.wantsStandIn 34 = false by kernel_rfl)
theorem SetsListed_holds : Rows.SetsListedCardSaid :=
  Claim7.holds_tied_plain_at .later [] _ _ _ _ said_SetsListed (fun _ h => by cases h) (by kernel_rfl) (fun _ h => by cases h) setsListed_row_tie rfl ⟨rfl, rfl⟩ (by kernel_rfl) rfl plain_SetsListed (by kernel_rfl)
#print axioms SetsListed_holds
end Go.Proofs.YtinlfbacfmmfpaaDoor
