/- The law PartsOf returns true for every list of sets, and leaves the list as it was. No condition. -/
import Derived.Test.YtinlfbacfmmfpaaRows
import Derived.Test.YtinlfbacfmmfpaaKnows19
import Derived.Test.YtinlfbacfmmfpaaRefNum
import Derived.Test.YtinlfbacfmmfpaaOpen
namespace Go.Proofs.Ytinlfbacfmmfpaa
open Go.ChangeShapes Go.WideShapes Go.ChangeAt Go.RowKit
theorem own : ownKnob Try.prog.godebug = none := by kernel_rfl
theorem laidOut : laidOutB Try.prog = true := by kernel_rfl
theorem sameArr_self (f : Nat → Nat) : sameArr f f = true := (sameArr_iff f f).2 fun _ _ => rfl

set_option maxRecDepth 20000 in
set_option maxHeartbeats 800000 in
theorem law_PartsOf (a : Option Addr) (cap : Nat) (l : List BSet) (w : World) (h : SliceR w (.slice a l.length cap) 4 encS l) :
    Calls Try.prog 3 #[.slice a l.length cap] w (Ret w (.bool true)) := by
  obtain ⟨_, _, _, hlen, hcap, _⟩ := h.open
  have hz := zeroV_256
  have hq := run_eq256 (P := Try.prog) (t := 24) (e := 5) Try.underlying24 Try.underlying5 (by kernel_rfl) (numR (RL l)) (numR (RL l))
  rw [sameArr_self] at hq
  by_cases hb : 300 < l.length
  · go_enter Try.func3, Try.ntmps3
    go_wp2_with (go_at_call 9; go_must (refine (knows19 _).mono ?_; rintro e w1 ⟨rfl, hB⟩))
    go_ret
    exact ⟨rfl, hB⟩
  · go_enter Try.func3, Try.ntmps3
    go_wp2_with fail
    refine (parts_Of a cap l _ h).mono ?_
    rintro e w1 ⟨rfl, hB1⟩
    have h1 := h.kept hB1
    go_wp2_with (refine wpList_store_new rfl 24 (.tmp 3) (.tmp 14) rfl _ _ rfl rfl rfl (size_256 _) (arr8_sizes _ _) (arr8_all _) ?_)
    refine (ref_Of19 a cap l _ (h1.kept ((Below.refl _ _).alloc (Nat.le_refl _) _))).mono ?_
    rintro e w2 ⟨rfl, hB2⟩
    have hx1 := (Box.new w1 (arr8 (numR (RL l))) 24).kept hB2
    have hB3 : Below w.heap.size w w2 := (hB1.alloc hB1.size _).trans (hB2.mono (by have := hB1.size; simp; omega))
    go_wp2_with (first | (refine wpList_store_new rfl 24 (.tmp 5) (.tmp 19) rfl _ _ rfl rfl rfl (size_256 _) (arr8_sizes _ _) (arr8_all _) ?_) | (refine wpList_load_row rfl 24 (.tmp 3) rfl w1.heap.size rfl _ _ _ _ (hx1.alloc _) Try.underlying24 rfl (size_256 _) ?_) | (refine wpList_load_row rfl 24 (.tmp 5) rfl w2.heap.size rfl _ _ _ _ (Box.new w2 _ _) Try.underlying24 rfl (size_256 _) ?_) | (go_at_call 9; go_must (refine (knows19 _).mono ?_; rintro e w3 ⟨rfl, hB4⟩)))
    go_ret
    exact ⟨rfl, (hB3.alloc hB3.size _).trans (hB4.mono (by have := hB3.size; simp; omega))⟩

set_option maxRecDepth 100000 in
theorem lifted_PartsOf (os : Os) (started : os.Started) (H : Type) (enc : TypeId × Value → H) :
    ReturnsInHanded {} Try.checked os 3 .any (Rows.partsOfSpec.pre6 enc Try.prog Try.f3 Rows.partsOfRow.domain false) (Rows.partsOfSpec.post enc Try.prog Try.f3 false true false false) := by
  refine returnsInHanded_of_change (C := Try.checked) own started (by kernel_rfl) Try.func3
    (ChangeSpec.witness6 (enc := enc) (C := Try.checked) false ⟨#[], #[.slice none 0 0], []⟩ 8 (by kernel_rfl) (by kernel_rfl) (by kernel_rfl) (by kernel_rfl)) ?_
  intro W base args ds gs before hval0 hW hcnd _
  have hval : ∀ (j : Nat) t v, Try.f3.params[j]? = some t → args[j]? = some v → Value.okWide Try.prog W .any base t v := hval0
  have hW' := hW
  obtain ⟨p, q, hA0, hV, rfl, hfz, hnd⟩ := hW
  have hA : DataW.TrodAll enc Try.prog W 0 (fun _ => true) true Try.f3.params.toList args.toList ds p := hA0
  rw [Try.params3] at hA hval
  obtain ⟨v0, vs0, d0, ds0, p0, q0, hargs, rfl, rfl, h0, r0⟩ := trodAll_cons hA
  obtain ⟨rfl, rfl, rfl⟩ := trodAll_nil r0
  obtain rfl : args = #[v0] := by cases args; simp_all
  obtain ⟨rfl, rfl⟩ := trodVars_none hV
  obtain ⟨a0, len0, cap0, rfl⟩ := okWide_slice Try.underlying22 (hval 0 22 v0 rfl rfl)
  have k0 := h0
  have lt0 : ∀ x ∈ p0, x.block < W.heap.size := by obtain ⟨m, hm⟩ := k0; exact DataW.trod_lt m _ _ _ hm
  obtain ⟨l, hl, hs⟩ : ∃ l : List BSet, len0 = l.length ∧ SliceR W (.slice a0 l.length cap0) 4 encS l := by
    obtain ⟨fuel, hf⟩ := h0
    exact trod_sets Try.underlying22 Try.underlying34 Try.underlying32 (by kernel_rfl) (by kernel_rfl) hf
  clear hA0 hval0
  subst hl
  refine (law_PartsOf a0 cap0 l W hs).mono fun e W' ⟨he, bel⟩ => ?_
  subst he
  exact ⟨_, rfl, _, _, _, [], _, [], hW', trodAll_mk1 (shut_bool Try.underlying4 _), (trodAll_cons_mk (Below.trod laidOut (by kernel_rfl) (of_decide_eq_true (by kernel_rfl)) k0 bel lt0) trodAll_mk0), rfl, bel.frame _, fun h => by cases h⟩

theorem over_PartsOf : Rows.partsOfRow.holds Try.pinned (OpenSpec.ofChange Rows.partsOfSpec) :=
  OpenClaim.holds_of_wide 3 Try.f3 rfl rfl rfl rfl rfl rfl rfl ⟨rfl, rfl, rfl, rfl, rfl⟩ rfl rfl rfl rfl rfl (by kernel_rfl) Try.func3 (by kernel_rfl)
    (of_decide_eq_true (by kernel_rfl)) (by unfold Func.isWrapper; first | (rw [if_pos (by decide +kernel)]; kernel_rfl) | (rw [if_neg (by decide +kernel)]; exact ⟨rfl, rfl⟩))
    (fun os started H enc _ => lifted_PartsOf os started H enc)
theorem PartsOf_holds : Rows.PartsOfSaid := over_PartsOf
#print axioms PartsOf_holds
end Go.Proofs.Ytinlfbacfmmfpaa
