/- The law SetsMade returns true for every list of bytes and every two bytes, and leaves what it was given as it was. No condition. -/
import Derived.Test.YtinlfbacfmmfpaaDoorCard
import Derived.Test.YtinlfbacfmmfpaaDoorKnows02
namespace Go.Proofs.YtinlfbacfmmfpaaDoor
open Go.ChangeShapes Go.WideShapes Go.ChangeAt Go.RowKit

theorem eqS_self (s : BSet) (w : World) : (Op.equalIn 10000 34 (.agg (setC s)) (.agg (setC s))).run Tryd.prog w = .ok true w := by
  have := run_eqS (P := Tryd.prog) (t := 34) (e := 32) Tryd.underlying34 Tryd.underlying32 (by kernel_rfl) s s w
  rwa [decide_eq_true rfl] at this
set_option maxRecDepth 20000 in
set_option maxHeartbeats 1600000 in
theorem law_SetsMade (a : Option Addr) (cap : Nat) (l : List Nat) (lo hi : Nat) (w : World) (h : SliceR w (.slice a l.length cap) 1 encB l) (hb : ∀ x ∈ l, x < 256) (hlo : lo < 256) (hhi : hi < 256) (hT : Tab w) :
    Calls Tryd.prog 4 #[.slice a l.length cap, .int .u8 lo, .int .u8 hi] w (Ret w (.bool true)) := by
  have hq1 := eqS_self (ofL l)
  have hq2 := eqS_self (ofP fun b => decide (lo ≤ b) && decide (b ≤ hi))
  have hq3 := eqS_self (~~~(0 : BSet))
  have h1 := fun w h => sets_Of a cap l w h hb
  have h2 := fun w h => ref_Of a cap l w h hb
  have h3 := fun w => sets_Span lo hi w hlo hhi
  have h4 := fun w => ref_Span lo hi w hhi
  have h5 := fun w => sets_All w
  have h6 := fun w => ref_Span 0 255 w (by decide)
  rw [all_set] at h6
  have HS := Lib.hid h
  have H1 := Lib.hid h1
  have H2 := Lib.hid h2
  have H3 := Lib.hid h3
  have H4 := Lib.hid h4
  have H5 := Lib.hid h5
  have H6 := Lib.hid h6
  have HT := Lib.hid hT
  clear h h1 h2 h3 h4 h5 h6 hT hb
  generalize ofL l = s1 at *
  generalize (ofP fun b => decide (lo ≤ b) && decide (b ≤ hi)) = s2 at *
  generalize ~~~(0 : BSet) = s3 at *
  go_enter Tryd.func4, Tryd.ntmps4
  go_wp2_with fail
  refine (H1.out _ HS.out).mono ?_
  rintro e w1 ⟨rfl, hB1⟩
  go_wp2_with fail
  refine (H2.out _ (HS.out.kept hB1)).mono ?_
  rintro e w2 ⟨rfl, hB2⟩
  have b2 := hB1.trans (hB2.mono hB1.size)
  go_wp2_with fail
  refine (H3.out _).mono ?_
  rintro e w3 ⟨rfl, hB3⟩
  have b3 := b2.trans (hB3.mono b2.size)
  go_wp2_with fail
  refine (H4.out _).mono ?_
  rintro e w4 ⟨rfl, hB4⟩
  have b4 := b3.trans (hB4.mono b3.size)
  go_wp2_with fail
  refine (H5.out _).mono ?_
  rintro e w5 ⟨rfl, hB5⟩
  have b5 := b4.trans (hB5.mono b4.size)
  go_wp2_with fail
  refine (H6.out _).mono ?_
  rintro e w6 ⟨rfl, hB6⟩
  have b6 := b5.trans (hB6.mono b5.size)
  go_wp2_with (go_at_call 24; go_must (refine (knows02 _ (HT.out.kept b6)).mono ?_; rintro e w7 ⟨rfl, hB7⟩))
  go_ret
  exact ⟨rfl, b6.trans (hB7.mono b6.size)⟩
theorem table_SetsMade {W : World} (h : laidMetH Tryd.prog Rows.setsMadeRow.laid W) : Tab W := tab_of_tabIs (Lib.tabIs_of_head (zs := Lib.deBruijn64tab.map fun (x : Nat) => (x : Int)) (rest := []) gTab gTabType Tryd.underlying77 Tryd.underlying5 (by kernel_rfl) (by kernel_rfl) h)
set_option maxRecDepth 100000 in
theorem contract_SetsMade (H : Type) (enc : TypeId × Value → H) (W : World) (base : Nat) (args : Array Value) (ds gs : List (DataW H)) (before : List MemPlace)
    (hval0 : ∀ (j : Nat) t v, Tryd.f4.params[j]? = some t → args[j]? = some v → Value.okWide Tryd.prog W .any base t v)
    (hW : DataW.Whole enc Tryd.prog Tryd.f4.params.toList Rows.setsMadeSpec.vars false W args.toList ds gs before) (hL : laidMetH Tryd.prog Rows.setsMadeRow.laid W) :
    Calls Tryd.prog 4 args W fun e W' => ∃ v, e = .returned v ∧ Rows.setsMadeSpec.post enc Tryd.prog Tryd.f4 false true false false W args v W' := by
  have hval : ∀ (j : Nat) t v, Tryd.f4.params[j]? = some t → args[j]? = some v → Value.okWide Tryd.prog W .any base t v := hval0
  have hW' := hW
  have hT := table_SetsMade hL
  obtain ⟨p, q, hA0, hV, rfl, hfz, hnd⟩ := hW
  have hA : DataW.TrodAll enc Tryd.prog W 0 (fun _ => true) true Tryd.f4.params.toList args.toList ds p := hA0
  rw [Tryd.params4] at hA hval
  obtain ⟨v0, vs0, d0, ds0, p0, q0, hargs, rfl, rfl, h00, r0⟩ := trodAll_cons hA
  obtain ⟨v1, vs1, d1, ds1, p1, q1, rfl, rfl, rfl, h01, r1⟩ := trodAll_cons r0
  obtain ⟨v2, vs2, d2, ds2, p2, q2, rfl, rfl, rfl, h02, r2⟩ := trodAll_cons r1
  obtain ⟨rfl, rfl, rfl⟩ := trodAll_nil r2
  obtain rfl : args = #[v0, v1, v2] := by cases args; simp_all
  obtain ⟨rfl, rfl⟩ := trodVars_none hV
  have k00 := h00
  have lt0 : ∀ x ∈ p0, x.block < W.heap.size := by obtain ⟨m, hm⟩ := k00; exact DataW.trod_lt m _ _ _ hm
  have k01 := h01
  have lt1 : ∀ x ∈ p1, x.block < W.heap.size := by obtain ⟨m, hm⟩ := k01; exact DataW.trod_lt m _ _ _ hm
  have k02 := h02
  have lt2 : ∀ x ∈ p2, x.block < W.heap.size := by obtain ⟨m, hm⟩ := k02; exact DataW.trod_lt m _ _ _ hm
  obtain ⟨a_l, len0, cap_l, rfl⟩ := okWide_slice Tryd.underlying29 (hval 0 29 v0 rfl rfl)
  obtain ⟨l, hl0, hl, hbl⟩ : ∃ l : List Nat, len0 = l.length ∧ SliceR W (.slice a_l l.length cap_l) 1 encB l ∧ ∀ x ∈ l, x < 256 := by
    obtain ⟨fuel, hfu⟩ := h00
    exact trod_bytes Tryd.underlying29 Tryd.underlying5 (by kernel_rfl) hfu
  subst hl0
  obtain ⟨lo, rfl, hlo⟩ : ∃ n : Nat, v1 = .int .u8 n ∧ n < 256 := by
    obtain ⟨fuel, hfu⟩ := h01
    obtain ⟨z0, rfl⟩ := okWide_int Tryd.underlying5 (hval 1 5 v1 rfl rfl)
    obtain ⟨z, hz1, _, hz2⟩ := DataW.trod_int Tryd.underlying5 hfu
    simp [Value.cells] at hz1
    subst hz1
    obtain ⟨n, rfl, hn⟩ := wf_u8 hz2
    exact ⟨n, rfl, hn⟩
  obtain ⟨hi, rfl, hhi⟩ : ∃ n : Nat, v2 = .int .u8 n ∧ n < 256 := by
    obtain ⟨fuel, hfu⟩ := h02
    obtain ⟨z0, rfl⟩ := okWide_int Tryd.underlying5 (hval 2 5 v2 rfl rfl)
    obtain ⟨z, hz1, _, hz2⟩ := DataW.trod_int Tryd.underlying5 hfu
    simp [Value.cells] at hz1
    subst hz1
    obtain ⟨n, rfl, hn⟩ := wf_u8 hz2
    exact ⟨n, rfl, hn⟩
  clear hA0 hval0
  refine (law_SetsMade a_l cap_l l lo hi W hl hbl hlo hhi hT).mono fun e W' ⟨he, bel⟩ => ?_
  subst he
  exact ⟨_, rfl, _, _, _, [], _, [], hW', trodAll_mk1 (shut_bool Tryd.underlying4 _), (trodAll_cons_mk (Below.trod laidOut (by kernel_rfl) (of_decide_eq_true (by kernel_rfl)) k00 bel lt0) (trodAll_cons_mk (Below.trod laidOut (by kernel_rfl) (of_decide_eq_true (by kernel_rfl)) k01 bel lt1) (trodAll_cons_mk (Below.trod laidOut (by kernel_rfl) (of_decide_eq_true (by kernel_rfl)) k02 bel lt2) trodAll_mk0))), rfl, bel.frame _, fun h => by cases h⟩
theorem laid_met_SetsMade (os : Os) : laidMet Tryd.prog Rows.setsMadeRow.laid ((laidWorld os).forCall (fun _ _ => 0) ⟨#[], #[.slice none 0 0, .int .u8 0, .int .u8 0], []⟩).memory :=
  laidMet_of_run' 8 (by kernel_rfl) (by kernel_rfl)
theorem reads_SetsMade (os : Os) {H : Type} (enc : TypeId × Value → H) : ∃ places, DataW.whole enc Tryd.prog ((laidWorld os).forCall (fun _ _ => 0) ⟨#[], #[.slice none 0 0, .int .u8 0, .int .u8 0], []⟩).memory Tryd.f4.params.toList Rows.setsMadeSpec.vars false (#[.slice none 0 0, .int .u8 0, .int .u8 0] : Array Value).toList 8 = some ([.nil, .lit (.int .u8 0), .lit (.int .u8 0)], [], places) :=
  ⟨[], by kernel_rfl⟩
set_option maxRecDepth 100000 in
theorem lifted_SetsMade (os : Os) (started : os.Started) (H : Type) (enc : TypeId × Value → H) (F : Stop.Interp) :
    ReturnsInHanded {} Tryd.checked os 4 .any ((OpenSpec.ofChange Rows.setsMadeSpec).preRow enc Tryd.prog Tryd.f4 Rows.setsMadeRow.domain false Rows.setsMadeRow.laid) (((OpenSpec.ofChange Rows.setsMadeSpec).at F).post enc Tryd.prog Tryd.f4 false true false false) := by
  obtain ⟨places, hx⟩ := reads_SetsMade os enc
  refine returnsInHanded_of_row (C := Tryd.checked) (s := OpenSpec.ofChange Rows.setsMadeSpec) own started (by kernel_rfl) Tryd.func4
    (witness_row_at (enc := enc) (C := Tryd.checked) false (laidWorld os) #[.slice none 0 0, .int .u8 0, .int .u8 0] rfl (by kernel_rfl) (by kernel_rfl) (by kernel_rfl)
      (OpenSpec.preRow_of_cond 8 hx (by kernel_rfl) (fun k hk => by cases hk) (by kernel_rfl) (laid_met_SetsMade os))) ?_
  intro W base args ds gs before hval hW _ _ _ hL _ _
  exact contract_SetsMade H enc W base args ds gs before hval hW hL
theorem said_SetsMade : Rows.SetsMadeSaid :=
  OpenClaim.holds_of_cond 4 Tryd.f4 rfl rfl rfl rfl rfl rfl rfl ⟨rfl, rfl, rfl, rfl, rfl⟩ rfl rfl rfl rfl rfl (by kernel_rfl) Tryd.func4 (by kernel_rfl)
    (of_decide_eq_true (by kernel_rfl)) (by unfold Func.isWrapper; first | (rw [if_pos (by decide +kernel)]; kernel_rfl) | (rw [if_neg (by decide +kernel)]; exact ⟨rfl, rfl⟩))
    (fun os started H enc _ F => by rw [OpenClaim.pre_eq_preRow]; exact lifted_SetsMade os started H enc F)
theorem plain_SetsMade (f : FuncId) (fn : Func) (hf : Tryd.pinned.checked.prog.funcNamed "doublet/doubletlaw02.SetsMade" = some f) (hfn : Tryd.pinned.checked.prog.funcs[f]? = some fn) :
    false = Tryd.pinned.checked.prog.looks [] ∧ ∀ (j : Nat) t, fn.params[j]? = some t → Tryd.pinned.checked.prog.wantsStandIn t = false := by
  obtain rfl : f = 4 := Option.some.inj ((show Tryd.prog.funcNamed "doublet/doubletlaw02.SetsMade" = some 4 by kernel_rfl).symm.trans hf) |>.symm
  obtain rfl : fn = Tryd.f4 := (Option.some.inj (Tryd.func4.symm.trans hfn)).symm
  refine ⟨by kernel_rfl, fun j t ht => ?_⟩
  rw [Tryd.params4] at ht
  have hm := Array.mem_of_getElem? ht
  simp only [List.mem_toArray, List.mem_cons, List.not_mem_nil, or_false] at hm
  rcases hm with rfl | rfl | rfl
  · exact (show Tryd.prog.wantsStandIn 29 = false by kernel_rfl)
  · exact (show Tryd.prog.wantsStandIn 5 = false by kernel_rfl)
  · exact (show Tryd.prog.wantsStandIn 5 = false by kernel_rfl)
theorem SetsMade_holds : Rows.SetsMadeCardSaid :=
  Claim7.holds_tied_plain_at .later [] _ _ _ _ said_SetsMade (fun _ h => by cases h) (by kernel_rfl) (fun _ h => by cases h) setsMade_row_tie rfl ⟨rfl, rfl⟩ (by kernel_rfl) rfl plain_SetsMade (by kernel_rfl)
#print axioms SetsMade_holds
end Go.Proofs.YtinlfbacfmmfpaaDoor
