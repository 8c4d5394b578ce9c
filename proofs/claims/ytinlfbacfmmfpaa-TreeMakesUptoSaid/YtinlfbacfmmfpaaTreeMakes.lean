/- The law TreeMakes returns true for every list of trees and every list of bytes, and leaves them as they were. Condition: what comes in is of bulk at most 1,048,576 (the form Upto). -/
import Derived.Test.YtinlfbacfmmfpaaTreeIn
import Derived.Test.YtinlfbacfmmfpaaKnows06
import Derived.Test.YtinlfbacfmmfpaaRefMake
import Derived.Test.YtinlfbacfmmfpaaBulk
namespace Go.Proofs.Ytinlfbacfmmfpaa
open Go.ChangeShapes Go.WideShapes Go.ChangeAt Go.RowKit

def MakesRel (xs : List Nat) (w wr : World) (v i : Value) : Prop :=
  ∃ (j : Nat) (vs : List Vt) (a' : Option Addr) (cap' : Nat), j ≤ xs.length ∧ i = .int .i64 j ∧ v = .slice a' vs.length cap' ∧ vs.length = j ∧ vs.map Vt.tr = (xs.take j).map byteT ∧ OwnT wr w.heap.size 37 (.slice a' vs.length cap') vs ∧ Below w.heap.size w wr
set_option maxRecDepth 20000 in
set_option maxHeartbeats 4000000 in
theorem law_TreeMakes (l : List Vt) (a : Option Addr) (cap : Nat) (xs : List Nat) (a' : Option Addr) (cap' : Nat) (w : World) (sA : SliceR w (.slice a l.length cap) 8 Vt.cells l) (lA : ∀ i (h : i < l.length), Lies w l[i]) (hsz : sizeTs (l.map Vt.tr) ≤ 1099511627776)
    (h : SliceR w (.slice a' xs.length cap') 1 encB xs) (hx : ∀ x ∈ xs, x < 256) (hxz : xs.length ≤ 1099511627776) :
    Calls Try.prog 6 #[.slice a l.length cap, .slice a' xs.length cap'] w (Ret w (.bool true)) := by
  have hll : l.length ≤ 1099511627776 := by have := sizeTs_len (l.map Vt.tr); rw [List.length_map] at this; omega
  have c1 := Lib.hid fun w' (hb : Below w.heap.size w w') => tree_Cat l a cap w' (sA.kept hb) (fun i h => (lA i h).kept hb) hsz
  have c2 := Lib.hid fun w' (hb : Below w.heap.size w w') => ref_Cat6 (fun b => b < w.heap.size) l a cap w' (fun b h => Nat.lt_of_lt_of_le h hb.size) (sA.kept hb) (fun i h => (lA i h).kept hb) (fun i h => (lA i h).on) hll
  have c3 := Lib.hid fun w' (hb : Below w.heap.size w w') => tree_Alt l a cap w' (sA.kept hb) (fun i h => (lA i h).kept hb) hsz
  have c4 := Lib.hid fun w' (hb : Below w.heap.size w w') => ref_Alt6 (fun b => b < w.heap.size) l a cap w' (fun b h => Nat.lt_of_lt_of_le h hb.size) (sA.kept hb) (fun i h => (lA i h).kept hb) (fun i h => (lA i h).on) hll
  have c5 := Lib.hid fun w' (hb : Below w.heap.size w w') => tree_Word xs a' cap' w' (h.kept hb) hx hxz
  obtain ⟨b, o, _, g1, g2, g3, _, g5⟩ := h.bytes
  have HC := Lib.hid g5; have HX := Lib.hid hx
  clear h g5 hx sA lA
  go_enter Try.func6, Try.ntmps6
  go_wp2
  go_loopw [5, 6] (fun v i wr => MakesRel xs w wr v i) (fun _ i _ => xs.length - (intOf i).toNat)
  case atStart => exact ⟨0, [], _, 0, Nat.zero_le _, rfl, rfl, rfl, rfl, ⟨Own.empty _ _ _ _ _ (Nat.le_refl _), fun i h => by simp at h, fun i h => by simp at h⟩, by go_grown⟩
  case round =>
    obtain ⟨j, vs, av, capv, hj, rfl, rfl, hvl, hvs, hown, hB⟩ := hrel
    have HV := Lib.hid hvs; have HL := Lib.hid hvl
    by_cases hlt : j < xs.length
    · obtain rfl := g3 j hlt
      have e1 := HC.out j hlt wr hB
      have e2 := HX.out xs[j] (List.getElem_mem hlt)
      have e3 : (xs.take (j + 1)).map byteT = (xs.take j).map byteT ++ [byteT xs[j]] := by rw [List.take_succ_eq_append_getElem hlt, List.map_append]; rfl
      have HE := Lib.hid e3
      clear e3 g3
      generalize xs[j] = x at *
      have hB1 := hB.alloc hB.size (.cells #[.int .u8 x] 5)
      have hown1 := hown.kept ((Below.refl _ wr).alloc (Nat.le_refl _) (.cells #[.int .u8 x] 5))
      have i1 := ref_Of (some ⟨wr.heap.size, 0, none⟩) 1 [x] _ (one_byte wr x 5) (by simpa using e2)
      simp only [List.length_singleton] at i1
      have I1 := Lib.hid i1
      clear hvs hvl i1
      go_wp2_with (first | (go_at_call 19; go_must (refine I1.out.mono ?_; rintro e w1 ⟨rfl, hb1⟩; have hB2 := hB1.trans (hb1.mono hB1.size); have hown2 := hown1.kept hb1)) | (go_at_call 18; go_must (refine (ref_Bytes6 (ofL [x]) _).mono ?_; intro e w2 h1; obtain ⟨k2, s2, a2, cp2, ks2, lo2, hi2, rfl, hT, hL, hO, hb⟩ := h1.open; have HT := Lib.hid hT; clear h1 hT; have hown3 := hown2.kept hb)) | (at_builtin; go_must (refine wpList_append1b rfl _ _ 35 rfl elem_node enc8 rfl (hown3.1.alloc _) ⟨w2.heap.size, 0, none⟩ 1 (Vt.mk k2 s2 a2 cp2 ks2 lo2 hi2) rfl ?_ ?_ ?_ ?_ ?_)))
      · exact new_cells w2 (nodeC k2 s2 a2 ks2.length cp2 lo2 hi2) _
      · have := HL.out; simp [maxLen]; omega
      · have := hj; have := HL.out; omega
      · have h1 := hB2.size; have h2 := hb.size; have h3 := hb1.size; simp only [World.size_alloc] at h1 h2 h3 ⊢; omega
      intro a3 cap3 w3 hown4 hgr hblk
      have hal := (Below.refl _ w2).alloc (Nat.le_refl _) (.cells (nodeC k2 s2 a2 ks2.length cp2 lo2 hi2).toArray 37)
      have hlt2 : ∀ g, (Value.slice av vs.length capv).ownBlock = some g → g < w1.heap.size := fun g hg => ((hown2.1.toRow enc8).lt g hg).2
      have hT3 := (hown3.kept hal).appended (hL.kept hal) (hO.mono fun b hb1 e => by have := hlt2 b e; omega) hown4 hgr (by rw [World.size_alloc]; exact hblk)
      have hB3 : Below w.heap.size w w2 := hB2.trans (hb.mono hB2.size)
      have hsz1 : wr.heap.size + 1 ≤ w1.heap.size := by have := hb1.size; simpa using this
      have hsz2 : w1.heap.size ≤ w2.heap.size := hb.size
      have hgb : Below w.heap.size (w2.alloc (.cells (nodeC k2 s2 a2 ks2.length cp2 lo2 hi2).toArray 37)) w3 := below_grown (Below.refl _ _) (hown3.1.alloc _) hgr (Nat.le_refl _) (by have := hB3.size; simp only [World.size_alloc]; omega)
      have hB4 : Below w.heap.size w w3 := (hB3.alloc hB3.size _).trans hgb
      have hMP := Lib.hid (show (vs ++ [Vt.mk k2 s2 a2 cp2 ks2 lo2 hi2]).map Vt.tr = (xs.take (j + 1)).map byteT by rw [HE.out, List.map_append, HV.out, List.map_singleton, HT.out])
      clear hlt2 hal hgr hblk
      go_wp2
      go_roundw
      case rel => exact ⟨j + 1, vs ++ [Vt.mk k2 s2 a2 cp2 ks2 lo2 hi2], a3, cap3, hlt, by go_num, by simp, by simp [HL.out], hMP.out, by simpa using hT3, hB4⟩
      case measure => simp [intOf]; omega
    · obtain rfl : j = xs.length := by omega
      have hM : vs.map Vt.tr = xs.map byteT := by rw [HV.out, List.take_length]
      have HM := Lib.hid hM
      have c6 := Lib.hid fun w' (hb : Below wr.heap.size wr w') => ref_Cat6 (fun b => b < wr.heap.size) vs av capv w' (fun b h => Nat.lt_of_lt_of_le h hb.size) ((hown.kept hb).slice) (hown.kept hb).2.1 (fun i h => (hown.2.1 i h).on) (by have := HL.out; omega)
      clear hvs hvl hM
      have B0 := hB
      have R0 := Below.refl wr.heap.size wr
      go_wp2_with fail
      refine (c1.out _ B0).mono ?_
      intro e w1 h1
      obtain ⟨k1, s1, a1, cp1, ks1, lo1, hi1, rfl, hT1, hL1, _, hb1⟩ := h1.open
      clear h1
      have HT1 := Lib.hid hT1
      clear hT1
      have B1 := B0.trans (hb1.mono B0.size)
      have R1 := R0.trans (hb1.mono R0.size)
      go_wp2_with fail
      refine (c2.out _ B1).mono ?_
      intro e w2 h2
      obtain ⟨k2, s2, a2, cp2, ks2, lo2, hi2, rfl, hT2, hL2, _, hb2⟩ := h2.open
      clear h2
      have HT2 := Lib.hid hT2
      clear hT2
      have B2 := B1.trans (hb2.mono B1.size)
      have R2 := R1.trans (hb2.mono R1.size)
      have e3 := ref_Same6 (.mk k1 s1 a1 cp1 ks1 lo1 hi1) (.mk k2 s2 a2 cp2 ks2 lo2 hi2) w2 (hL1.kept hb2) hL2
      rw [HT1.out, HT2.out, eqT_refl] at e3
      have E3 := Lib.hid e3
      clear e3
      go_wp2_with fail
      refine (E3.out).mono ?_
      rintro e w3 ⟨rfl, hb3⟩
      have B3 := B2.trans (hb3.mono B2.size)
      have R3 := R2.trans (hb3.mono R2.size)
      go_wp2_with fail
      refine (c3.out _ B3).mono ?_
      intro e w4 h4
      obtain ⟨k4, s4, a4, cp4, ks4, lo4, hi4, rfl, hT4, hL4, _, hb4⟩ := h4.open
      clear h4
      have HT4 := Lib.hid hT4
      clear hT4
      have B4 := B3.trans (hb4.mono B3.size)
      have R4 := R3.trans (hb4.mono R3.size)
      go_wp2_with fail
      refine (c4.out _ B4).mono ?_
      intro e w5 h5
      obtain ⟨k5, s5, a5, cp5, ks5, lo5, hi5, rfl, hT5, hL5, _, hb5⟩ := h5.open
      clear h5
      have HT5 := Lib.hid hT5
      clear hT5
      have B5 := B4.trans (hb5.mono B4.size)
      have R5 := R4.trans (hb5.mono R4.size)
      have e6 := ref_Same6 (.mk k4 s4 a4 cp4 ks4 lo4 hi4) (.mk k5 s5 a5 cp5 ks5 lo5 hi5) w5 (hL4.kept hb5) hL5
      rw [HT4.out, HT5.out, eqT_refl] at e6
      have E6 := Lib.hid e6
      clear e6
      go_wp2_with fail
      refine (E6.out).mono ?_
      rintro e w6 ⟨rfl, hb6⟩
      have B6 := B5.trans (hb6.mono B5.size)
      have R6 := R5.trans (hb6.mono R5.size)
      go_wp2_with fail
      refine (c5.out _ B6).mono ?_
      intro e w7 h7
      obtain ⟨k7, s7, a7, cp7, ks7, lo7, hi7, rfl, hT7, hL7, _, hb7⟩ := h7.open
      clear h7
      have HT7 := Lib.hid hT7
      clear hT7
      have B7 := B6.trans (hb7.mono B6.size)
      have R7 := R6.trans (hb7.mono R6.size)
      go_wp2_with fail
      refine (c6.out _ R7).mono ?_
      intro e w8 h8
      obtain ⟨k8, s8, a8, cp8, ks8, lo8, hi8, rfl, hT8, hL8, _, hb8⟩ := h8.open
      clear h8
      have HT8 := Lib.hid hT8
      clear hT8
      have B8 := B7.trans (hb8.mono B7.size)
      have R8 := R7.trans (hb8.mono R7.size)
      have e9 := ref_Same6 (.mk k7 s7 a7 cp7 ks7 lo7 hi7) (.mk k8 s8 a8 cp8 ks8 lo8 hi8) w8 (hL7.kept hb8) hL8
      rw [HT7.out, HT8.out, HM.out, eqT_refl] at e9
      have E9 := Lib.hid e9
      clear e9
      go_wp2_with fail
      refine (E9.out).mono ?_
      rintro e w9 ⟨rfl, hb9⟩
      have B9 := B8.trans (hb9.mono B8.size)
      have R9 := R8.trans (hb9.mono R8.size)
      go_wp2_with fail
      refine (knows06 _).mono ?_
      rintro e w10 ⟨rfl, hb10⟩
      have B10 := B9.trans (hb10.mono B9.size)
      have R10 := R9.trans (hb10.mono R9.size)
      go_wp2
      go_ret
      exact ⟨rfl, B10⟩
set_option maxRecDepth 100000 in
theorem contract_TreeMakes (H : Type) (enc : TypeId × Value → H) (W : World) (base : Nat) (args : Array Value) (ds gs : List (DataW H)) (before : List MemPlace)
    (hval0 : ∀ (j : Nat) t v, Try.f6.params[j]? = some t → args[j]? = some v → Value.okWide Try.prog W .any base t v)
    (hW : DataW.Whole enc Try.prog Try.f6.params.toList Rows.treeMakesSpec.vars false W args.toList ds gs before) (hk : Rows.uptoSmall H (ds ++ gs) = true) :
    Calls Try.prog 6 args W fun e W' => ∃ v, e = .returned v ∧ Rows.treeMakesSpec.post enc Try.prog Try.f6 false true false false W args v W' := by
  have hval : ∀ (j : Nat) t v, Try.f6.params[j]? = some t → args[j]? = some v → Value.okWide Try.prog W .any base t v := hval0
  have hW' := hW
  obtain ⟨p, q, hA0, hV, rfl, hfz, hnd⟩ := hW
  have hA : DataW.TrodAll enc Try.prog W 0 (fun _ => true) true Try.f6.params.toList args.toList ds p := hA0
  rw [Try.params6] at hA hval
  obtain ⟨v0, vs0, d0, ds0, p0, q0, hargs, rfl, rfl, h00, r0⟩ := trodAll_cons hA
  obtain ⟨v1, vs1, d1, ds1, p1, q1, rfl, rfl, rfl, h01, r1⟩ := trodAll_cons r0
  obtain ⟨rfl, rfl, rfl⟩ := trodAll_nil r1
  obtain rfl : args = #[v0, v1] := by cases args; simp_all
  obtain ⟨rfl, rfl⟩ := trodVars_none hV
  have hk1 : Rows.uptoBulkAll ([d0, d1] ++ []) ≤ 1048576 := of_decide_eq_true hk
  simp only [List.append_nil, Rows.uptoBulkAll] at hk1
  have k00 := h00
  have lt0 : ∀ x ∈ p0, x.block < W.heap.size := by obtain ⟨m, hm⟩ := k00; exact DataW.trod_lt m _ _ _ hm
  have k01 := h01
  have lt1 : ∀ x ∈ p1, x.block < W.heap.size := by obtain ⟨m, hm⟩ := k01; exact DataW.trod_lt m _ _ _ hm
  obtain ⟨a_l, len0, cap_l, rfl⟩ := okWide_slice Try.underlying35 (hval 0 35 v0 rfl rfl)
  obtain ⟨l, hl0, hl, hLl, hzl⟩ : ∃ l : List Vt, len0 = l.length ∧ SliceR W (.slice a_l l.length cap_l) 8 Vt.cells l ∧ (∀ i (h : i < l.length), Lies W l[i]) ∧ sizeTs (l.map Vt.tr) ≤ Rows.uptoBulk d0 := by
    obtain ⟨fuel, hfu⟩ := h00
    exact trod_nodesB nodeTys fuel hfu
  subst hl0
  obtain ⟨a_xs, len1, cap_xs, rfl⟩ := okWide_slice Try.underlying39 (hval 1 39 v1 rfl rfl)
  obtain ⟨xs, hl1, hxs, hbxs, hzxs⟩ : ∃ l : List Nat, len1 = l.length ∧ SliceR W (.slice a_xs l.length cap_xs) 1 encB l ∧ (∀ x ∈ l, x < 256) ∧ l.length ≤ Rows.uptoBulk d1 := by
    obtain ⟨fuel, hfu⟩ := h01
    exact trod_bytesB Try.underlying39 Try.underlying5 (by kernel_rfl) hfu
  subst hl1
  clear hA0 hval0
  refine (law_TreeMakes l a_l cap_l xs a_xs cap_xs W hl hLl (by omega) hxs hbxs (by omega)).mono fun e W' ⟨he, bel⟩ => ?_
  subst he
  exact ⟨_, rfl, _, _, _, [], _, [], hW', trodAll_mk1 (shut_bool Try.underlying4 _), (trodAll_cons_mk (Below.trod laidOut (by kernel_rfl) (of_decide_eq_true (by kernel_rfl)) k00 bel lt0) (trodAll_cons_mk (Below.trod laidOut (by kernel_rfl) (of_decide_eq_true (by kernel_rfl)) k01 bel lt1) trodAll_mk0)), rfl, bel.frame _, fun h => by cases h⟩
set_option maxRecDepth 100000 in
theorem lifted_TreeMakes (os : Os) (started : os.Started) (H : Type) (enc : TypeId × Value → H) (F : Stop.Interp) :
    ReturnsInHanded {} Try.checked os 6 .any ((Rows.OpenSpec.upto Rows.treeMakesSpec).pre6 enc Try.prog Try.f6 Rows.treeMakesUptoRow.domain false) (((Rows.OpenSpec.upto Rows.treeMakesSpec).at F).post enc Try.prog Try.f6 false true false false) := by
  refine returnsInHanded_of_cond (C := Try.checked) (s := Rows.OpenSpec.upto Rows.treeMakesSpec) (k := Rows.uptoSmall) rfl own started (by kernel_rfl) Try.func6
    (OpenSpec.witness (enc := enc) (C := Try.checked) (s := Rows.OpenSpec.upto Rows.treeMakesSpec) (k := Rows.uptoSmall) rfl false ⟨#[], #[.slice none 0 0, .slice none 0 0], []⟩ 8 (by kernel_rfl) (by kernel_rfl) (by kernel_rfl)
      (x := ([.nil, .nil], [], [])) (by kernel_rfl) rfl (by kernel_rfl)) ?_
  intro W base args ds gs before hval hW _ hk _
  exact contract_TreeMakes H enc W base args ds gs before hval hW hk
theorem over_TreeMakes : Rows.treeMakesUptoRow.holds Try.pinned (Rows.OpenSpec.upto Rows.treeMakesSpec) :=
  OpenClaim.holds_of_cond 6 Try.f6 rfl rfl rfl rfl rfl rfl rfl ⟨rfl, rfl, rfl, rfl, rfl⟩ rfl rfl rfl rfl rfl (by kernel_rfl) Try.func6 (by kernel_rfl)
    (of_decide_eq_true (by kernel_rfl)) (by unfold Func.isWrapper; first | (rw [if_pos (by decide +kernel)]; kernel_rfl) | (rw [if_neg (by decide +kernel)]; exact ⟨rfl, rfl⟩))
    (fun os started H enc _ F => lifted_TreeMakes os started H enc F)
theorem TreeMakes_holds : Rows.TreeMakesUptoSaid := over_TreeMakes
#print axioms TreeMakes_holds
end Go.Proofs.Ytinlfbacfmmfpaa
