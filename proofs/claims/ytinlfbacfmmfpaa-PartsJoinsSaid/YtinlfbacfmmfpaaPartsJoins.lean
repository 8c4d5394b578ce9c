/- The law PartsJoins returns true for every two lists of classes, and leaves them as they were. No condition. -/
import Derived.Test.YtinlfbacfmmfpaaPartsOf
import Derived.Test.YtinlfbacfmmfpaaRefJoin
import Derived.Test.YtinlfbacfmmfpaaBase2
namespace Go.Proofs.Ytinlfbacfmmfpaa
open Go.ChangeShapes Go.WideShapes Go.ChangeAt Go.RowKit

theorem kernJ_swap (f g : Nat → Nat) (b c : Nat) : Kern (keyJ g f) b c = Kern (keyJ f g) b c := by rw [kern_keyJ, kern_keyJ, Bool.and_comm]
theorem kernJ_self (f : Nat → Nat) (b c : Nat) : Kern (keyJ f f) b c = Kern (keyN f) b c := by rw [kern_keyJ, Bool.and_self]
set_option maxRecDepth 20000 in
set_option maxHeartbeats 1600000 in
theorem law_PartsJoins (f g : Nat → Nat) (hf : ∀ b, f b < 256) (hg : ∀ b, g b < 256) (w : World) :
    Calls Try.prog 4 #[.agg (arr8 f), .agg (arr8 g)] w (Ret w (.bool true)) := by
  have hz := zeroV_256
  obtain ⟨F, n, j1, j2, j3⟩ : ∃ (F : Nat → Nat) (n : Nat), (∀ wx, Calls Try.prog 12 #[.agg (arr8 f), .agg (arr8 g)] wx (Ret wx (.tuple #[.agg (arr8 F), .int .i64 n]))) ∧
      (∀ wx, Calls Try.prog 13 #[.agg (arr8 f), .agg (arr8 g)] wx (Ret wx (.tuple #[.agg (arr8 F), .int .i64 n]))) ∧
      (∀ wx, Calls Try.prog 12 #[.agg (arr8 g), .agg (arr8 f)] wx (Ret wx (.tuple #[.agg (arr8 F), .int .i64 n]))) := by
    refine ⟨_, _, fun wx => parts_Join f g wx, fun wx => ref_Join f g hf hg wx, fun wx => ?_⟩
    have := parts_Join g f wx
    rw [widR_congr (S := Kern (keyJ f g)) (fun b c _ _ => kernJ_swap f g b c), arr8_congr (fun i hi => numR_congr (S := Kern (keyJ f g)) (fun b c _ _ => kernJ_swap f g b c) hi)] at this
    exact this
  obtain ⟨G, m, j4, j5⟩ : ∃ (G : Nat → Nat) (m : Nat), (∀ wx, Calls Try.prog 12 #[.agg (arr8 f), .agg (arr8 f)] wx (Ret wx (.tuple #[.agg (arr8 G), .int .i64 m]))) ∧
      (∀ wx, Calls Try.prog 14 #[.agg (arr8 f)] wx (Ret wx (.tuple #[.agg (arr8 G), .int .i64 m]))) := by
    refine ⟨_, _, fun wx => ?_, fun wx => parts_Norm f wx⟩
    have := parts_Join f f wx
    rw [widR_congr (S := Kern (keyN f)) (fun b c _ _ => kernJ_self f b c), arr8_congr (fun i hi => numR_congr (S := Kern (keyN f)) (fun b c _ _ => kernJ_self f b c) hi)] at this
    exact this
  have hqF := run_eq256 (P := Try.prog) (t := 24) (e := 5) Try.underlying24 Try.underlying5 (by kernel_rfl) F F
  have hqG := run_eq256 (P := Try.prog) (t := 24) (e := 5) Try.underlying24 Try.underlying5 (by kernel_rfl) G G
  rw [sameArr_self] at hqF hqG
  have J1 := Lib.hid j1
  have J2 := Lib.hid j2
  have J3 := Lib.hid j3
  have J4 := Lib.hid j4
  have J5 := Lib.hid j5
  clear j1 j2 j3 j4 j5
  go_enter Try.func4, Try.ntmps4
  have a0 := (Box.new w (arr8 f) 24).alloc (.cells (arr8 g) 24)
  have a1 := Box.new' (w := w.alloc (.cells (arr8 f) 24)) (World.size_alloc _ _).symm (arr8 g) 24
  have aB : Below w.heap.size w ((w.alloc (.cells (arr8 f) 24)).alloc (.cells (arr8 g) 24)) := by go_grown
  go_wp2_with (first | (refine wpList_load_row rfl 24 (.tmp 2) rfl (w.heap.size) rfl _ _ _ _ a0 Try.underlying24 rfl (size_256 _) ?_) | (refine wpList_load_row rfl 24 (.tmp 3) rfl (w.heap.size + 1) rfl _ _ _ _ a1 Try.underlying24 rfl (size_256 _) ?_))
  refine (J1.out _).mono ?_
  rintro e w1 ⟨rfl, h1⟩
  have c1_2 := (a0.kept h1).alloc (.cells (arr8 F) 24)
  have c1_3 := (a1.kept h1).alloc (.cells (arr8 F) 24)
  have c1_5 := Box.new w1 (arr8 F) 24
  have bB1 := (aB.trans (h1.mono aB.size))
  have bA1 := bB1.alloc bB1.size (.cells (arr8 F) 24)
  clear a0 a1
  go_wp2_with (first | (refine wpList_store_new rfl 24 (.tmp 5) (.tmp 19) rfl _ _ rfl rfl rfl (size_256 _) (arr8_sizes _ _) (arr8_all _) ?_) | (refine wpList_load_row rfl 24 (.tmp 2) rfl (w.heap.size) rfl _ _ _ _ c1_2 Try.underlying24 rfl (size_256 _) ?_) | (refine wpList_load_row rfl 24 (.tmp 3) rfl (w.heap.size + 1) rfl _ _ _ _ c1_3 Try.underlying24 rfl (size_256 _) ?_))
  refine (J2.out _).mono ?_
  rintro e w2 ⟨rfl, h2⟩
  have c2_2 := (c1_2.kept h2).alloc (.cells (arr8 F) 24)
  have c2_3 := (c1_3.kept h2).alloc (.cells (arr8 F) 24)
  have c2_5 := (c1_5.kept h2).alloc (.cells (arr8 F) 24)
  have c2_7 := Box.new w2 (arr8 F) 24
  have bB2 := (bA1.trans (h2.mono bA1.size))
  have bA2 := bB2.alloc bB2.size (.cells (arr8 F) 24)
  clear c1_2 c1_3 c1_5
  go_wp2_with (first | (refine wpList_store_new rfl 24 (.tmp 7) (.tmp 25) rfl _ _ rfl rfl rfl (size_256 _) (arr8_sizes _ _) (arr8_all _) ?_) | (refine wpList_load_row rfl 24 (.tmp 3) rfl (w.heap.size + 1) rfl _ _ _ _ c2_3 Try.underlying24 rfl (size_256 _) ?_) | (refine wpList_load_row rfl 24 (.tmp 2) rfl (w.heap.size) rfl _ _ _ _ c2_2 Try.underlying24 rfl (size_256 _) ?_))
  refine (J3.out _).mono ?_
  rintro e w3 ⟨rfl, h3⟩
  have c3_2 := (c2_2.kept h3).alloc (.cells (arr8 F) 24)
  have c3_3 := (c2_3.kept h3).alloc (.cells (arr8 F) 24)
  have c3_5 := (c2_5.kept h3).alloc (.cells (arr8 F) 24)
  have c3_7 := (c2_7.kept h3).alloc (.cells (arr8 F) 24)
  have c3_9 := Box.new w3 (arr8 F) 24
  have bB3 := (bA2.trans (h3.mono bA2.size))
  have bA3 := bB3.alloc bB3.size (.cells (arr8 F) 24)
  clear c2_2 c2_3 c2_5 c2_7
  go_wp2_with (first | (refine wpList_store_new rfl 24 (.tmp 9) (.tmp 31) rfl _ _ rfl rfl rfl (size_256 _) (arr8_sizes _ _) (arr8_all _) ?_) | (refine wpList_load_row rfl 24 (.tmp 2) rfl (w.heap.size) rfl _ _ _ _ c3_2 Try.underlying24 rfl (size_256 _) ?_))
  refine (J4.out _).mono ?_
  rintro e w4 ⟨rfl, h4⟩
  have c4_2 := (c3_2.kept h4).alloc (.cells (arr8 G) 24)
  have c4_3 := (c3_3.kept h4).alloc (.cells (arr8 G) 24)
  have c4_5 := (c3_5.kept h4).alloc (.cells (arr8 G) 24)
  have c4_7 := (c3_7.kept h4).alloc (.cells (arr8 G) 24)
  have c4_9 := (c3_9.kept h4).alloc (.cells (arr8 G) 24)
  have c4_11 := Box.new w4 (arr8 G) 24
  have bB4 := (bA3.trans (h4.mono bA3.size))
  have bA4 := bB4.alloc bB4.size (.cells (arr8 G) 24)
  clear c3_2 c3_3 c3_5 c3_7 c3_9
  go_wp2_with (first | (refine wpList_store_new rfl 24 (.tmp 11) (.tmp 37) rfl _ _ rfl rfl rfl (size_256 _) (arr8_sizes _ _) (arr8_all _) ?_) | (refine wpList_load_row rfl 24 (.tmp 2) rfl (w.heap.size) rfl _ _ _ _ c4_2 Try.underlying24 rfl (size_256 _) ?_))
  refine (J5.out _).mono ?_
  rintro e w5 ⟨rfl, h5⟩
  have c5_2 := (c4_2.kept h5).alloc (.cells (arr8 G) 24)
  have c5_3 := (c4_3.kept h5).alloc (.cells (arr8 G) 24)
  have c5_5 := (c4_5.kept h5).alloc (.cells (arr8 G) 24)
  have c5_7 := (c4_7.kept h5).alloc (.cells (arr8 G) 24)
  have c5_9 := (c4_9.kept h5).alloc (.cells (arr8 G) 24)
  have c5_11 := (c4_11.kept h5).alloc (.cells (arr8 G) 24)
  have c5_13 := Box.new w5 (arr8 G) 24
  have bB5 := (bA4.trans (h5.mono bA4.size))
  have bA5 := bB5.alloc bB5.size (.cells (arr8 G) 24)
  clear c4_2 c4_3 c4_5 c4_7 c4_9 c4_11
  clear c5_2 c5_3 J1 J2 J3 J4 J5 hf hg
  go_wp2_with (first | (refine wpList_store_new rfl 24 (.tmp 13) (.tmp 42) rfl _ _ rfl rfl rfl (size_256 _) (arr8_sizes _ _) (arr8_all _) ?_) | (refine wpList_load_row_g rfl 24 (.tmp 5) rfl (w1.heap.size) rfl _ _ _ _ c5_5 Try.underlying24 rfl (size_256 _) ?_) | (refine wpList_load_row_g rfl 24 (.tmp 7) rfl (w2.heap.size) rfl _ _ _ _ c5_7 Try.underlying24 rfl (size_256 _) ?_) | (refine wpList_load_row_g rfl 24 (.tmp 9) rfl (w3.heap.size) rfl _ _ _ _ c5_9 Try.underlying24 rfl (size_256 _) ?_) | (refine wpList_load_row_g rfl 24 (.tmp 11) rfl (w4.heap.size) rfl _ _ _ _ c5_11 Try.underlying24 rfl (size_256 _) ?_) | (refine wpList_load_row_g rfl 24 (.tmp 13) rfl (w5.heap.size) rfl _ _ _ _ c5_13 Try.underlying24 rfl (size_256 _) ?_) | (go_at_call 9; go_must (refine (knows19 _).mono ?_; rintro e w9 ⟨rfl, h9⟩)))
  go_ret
  exact ⟨rfl, bA5.trans (h9.mono bA5.size)⟩
set_option maxRecDepth 100000 in
theorem lifted_PartsJoins (os : Os) (started : os.Started) (H : Type) (enc : TypeId × Value → H) :
    ReturnsInHanded {} Try.checked os 4 .any (Rows.partsJoinsSpec.pre6 enc Try.prog Try.f4 Rows.partsJoinsRow.domain false) (Rows.partsJoinsSpec.post enc Try.prog Try.f4 false true false false) := by
  refine returnsInHanded_of_change (C := Try.checked) own started (by kernel_rfl) Try.func4
    (ChangeSpec.witness6 (enc := enc) (C := Try.checked) false ⟨#[], #[.agg (Array.replicate 256 (.int .u8 0)), .agg (Array.replicate 256 (.int .u8 0))], []⟩ 8 (by kernel_rfl) (by kernel_rfl) (by kernel_rfl) (by kernel_rfl)) ?_
  intro W base args ds gs before hval0 hW hcnd _
  have hval : ∀ (j : Nat) t v, Try.f4.params[j]? = some t → args[j]? = some v → Value.okWide Try.prog W .any base t v := hval0
  have hW' := hW
  obtain ⟨p, q, hA0, hV, rfl, hfz, hnd⟩ := hW
  have hA : DataW.TrodAll enc Try.prog W 0 (fun _ => true) true Try.f4.params.toList args.toList ds p := hA0
  rw [Try.params4] at hA hval
  obtain ⟨v0, vs0, d0, ds0, p0, q0, hargs, rfl, rfl, h00, r0⟩ := trodAll_cons hA
  obtain ⟨v1, vs1, d1, ds1, p1, q1, rfl, rfl, rfl, h01, r1⟩ := trodAll_cons r0
  obtain ⟨rfl, rfl, rfl⟩ := trodAll_nil r1
  obtain rfl : args = #[v0, v1] := by cases args; simp_all
  obtain ⟨rfl, rfl⟩ := trodVars_none hV
  have k00 := h00
  have lt0 : ∀ x ∈ p0, x.block < W.heap.size := by obtain ⟨m, hm⟩ := k00; exact DataW.trod_lt m _ _ _ hm
  have k01 := h01
  have lt1 : ∀ x ∈ p1, x.block < W.heap.size := by obtain ⟨m, hm⟩ := k01; exact DataW.trod_lt m _ _ _ hm
  obtain ⟨f, rfl, hf⟩ : ∃ f : Nat → Nat, v0 = .agg (arr8 f) ∧ ∀ b, f b < 256 := by
    obtain ⟨fuel, hfu⟩ := h00
    obtain ⟨cs, hcs, _⟩ := okWide_arr Try.underlying24 (hval 0 24 v0 rfl rfl)
    subst hcs
    obtain ⟨f, h2, h3⟩ := trod_arr8 Try.underlying24 Try.underlying5 (by kernel_rfl) (by kernel_rfl) hfu
    exact ⟨f, by rw [show cs = arr8 f from Array.ext' h2], h3⟩
  obtain ⟨g, rfl, hg⟩ : ∃ f : Nat → Nat, v1 = .agg (arr8 f) ∧ ∀ b, f b < 256 := by
    obtain ⟨fuel, hfu⟩ := h01
    obtain ⟨cs, hcs, _⟩ := okWide_arr Try.underlying24 (hval 1 24 v1 rfl rfl)
    subst hcs
    obtain ⟨f, h2, h3⟩ := trod_arr8 Try.underlying24 Try.underlying5 (by kernel_rfl) (by kernel_rfl) hfu
    exact ⟨f, by rw [show cs = arr8 f from Array.ext' h2], h3⟩
  clear hA0 hval0
  refine (law_PartsJoins f g hf hg W).mono fun e W' ⟨he, bel⟩ => ?_
  subst he
  exact ⟨_, rfl, _, _, _, [], _, [], hW', trodAll_mk1 (shut_bool Try.underlying4 _), (trodAll_cons_mk (Below.trod laidOut (by kernel_rfl) (of_decide_eq_true (by kernel_rfl)) k00 bel lt0) (trodAll_cons_mk (Below.trod laidOut (by kernel_rfl) (of_decide_eq_true (by kernel_rfl)) k01 bel lt1) trodAll_mk0)), rfl, bel.frame _, fun h => by cases h⟩
theorem over_PartsJoins : Rows.partsJoinsRow.holds Try.pinned (OpenSpec.ofChange Rows.partsJoinsSpec) :=
  OpenClaim.holds_of_wide 4 Try.f4 rfl rfl rfl rfl rfl rfl rfl ⟨rfl, rfl, rfl, rfl, rfl⟩ rfl rfl rfl rfl rfl (by kernel_rfl) Try.func4 (by kernel_rfl)
    (of_decide_eq_true (by kernel_rfl)) (by unfold Func.isWrapper; first | (rw [if_pos (by decide +kernel)]; kernel_rfl) | (rw [if_neg (by decide +kernel)]; exact ⟨rfl, rfl⟩))
    (fun os started H enc _ => lifted_PartsJoins os started H enc)
theorem PartsJoins_holds : Rows.PartsJoinsSaid := over_PartsJoins
#print axioms PartsJoins_holds
end Go.Proofs.Ytinlfbacfmmfpaa
