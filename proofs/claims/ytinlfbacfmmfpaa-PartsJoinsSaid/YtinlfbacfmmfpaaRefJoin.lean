/- The classes that two have together, the document's. -/
import Derived.Test.YtinlfbacfmmfpaaRefSets
namespace Go.Proofs.Ytinlfbacfmmfpaa
open Go.RowKit

/-- The cells of 256 bytes, as a list. -/
def l8 (f : Nat → Nat) : List Value := (arr8 f).toList
theorem l8_arr (f : Nat → Nat) : (l8 f).toArray = arr8 f := by unfold l8; exact Array.toArray_toList
theorem l8_len (f : Nat → Nat) : (l8 f).length = 256 := by unfold l8; rw [Array.length_toList, arr8_size]
theorem l8_one (f : Nat → Nat) : ∀ v ∈ l8 f, v.oneCell' = true := fun v hv => by
  have := arr8_all f
  rw [Array.all_eq_true_iff_forall_mem] at this
  exact this v (by unfold l8 at hv; simpa using hv)
theorem Box.range {w : World} {b E : Nat} {f : Nat → Nat} (h : Box w b (arr8 f) E) : w.rangeAt b 0 (l8 f) := fun j v hv => by
  rw [Nat.zero_add, h.cell]; unfold l8 at hv; simpa using hv
theorem Box.there {w : World} {b E : Nat} {f g : Nat → Nat} (h : Box w b (arr8 f) E) : w.there b 0 (l8 g).length := fun j hj => by
  rw [l8_len] at hj
  rw [Nat.zero_add, h.cell, arr8_get _ j hj]
  exact ⟨rfl, h.free j⟩
theorem RL_cls {R : Nat → Nat → Bool} (E : Equi R) {b c : Nat} (hb : b < 256) (hc : c < 256) : RL ((reps R 256).map (cls R 256)) b c = R b c := by
  rw [Bool.eq_iff_iff]
  simp only [RL, List.all_map, List.all_eq_true, Function.comp, beq_iff_eq, mem_cls, hb, hc, decide_true, Bool.true_and]
  constructor
  · intro h
    obtain ⟨r, hr, hbr⟩ := List.any_eq_true.1 (reps_any E.refl hb)
    have := h r hr
    rw [E.symm hbr] at this
    exact E.trans hbr this.symm
  · intro h r _
    rw [Bool.eq_iff_iff]
    exact ⟨fun k => E.trans k h, fun k => E.trans k (E.symm h)⟩
theorem RL_append (l m : List BSet) (b c : Nat) : RL (l ++ m) b c = (RL l b c && RL m b c) := by simp [RL]
theorem kern_keyJ (f g : Nat → Nat) (b c : Nat) : Kern (keyJ f g) b c = (Kern (keyN f) b c && Kern (keyN g) b c) := by
  rw [Bool.eq_iff_iff, Bool.and_eq_true, kern_iff, kern_iff]
  simp only [Kern, decide_eq_true_eq]
  unfold keyJ
  rw [Prod.mk.injEq]
  omega
theorem reps_pos (R : Nat → Nat → Bool) (E : Equi R) : 0 < (reps R 256).length := by
  have := reps_any E.refl (show 0 < 256 by decide)
  cases h : reps R 256 with
  | nil => rw [h] at this; simp at this
  | cons a l => simp
theorem Box.setCells {w : World} {b E : Nat} : ∀ (vs : List Value) (o : Nat) (c : Array Value), Box w b c E → ∃ c', Box (w.setCells b o vs) b c' E ∧ c'.size = c.size ∧ (∀ i, i < o → c'[i]? = c[i]?) ∧ (∀ i, o + i < c.size → i < vs.length → c'[o + i]? = vs[i]?) := by
  intro vs
  induction vs generalizing w with
  | nil => intro o c h; exact ⟨c, h, rfl, fun _ _ => rfl, fun i _ hi => by simp at hi⟩
  | cons v vs ih =>
    intro o c h
    obtain ⟨c', h1, h2, h3, h4⟩ := ih (o + 1) _ (h.set o v)
    refine ⟨c', h1, by rw [h2]; simp, fun i hi => ?_, fun i hi hl => ?_⟩
    · rw [h3 i (by omega), Array.getElem?_setIfInBounds]; simp; omega
    · cases i with
      | zero =>
        rw [h3 (o + 0) (by omega), Array.getElem?_setIfInBounds]; simp at hi ⊢; omega
      | succ i =>
        have := h4 i (by simp; omega) (by simpa using hl)
        rw [show o + (i + 1) = o + 1 + i by omega, this]; rfl
theorem Box.setCells8 {w : World} {b E : Nat} {f g : Nat → Nat} (h : Box w b (arr8 f) E) : Box (w.setCells b 0 (l8 g)) b (arr8 g) E := by
  obtain ⟨c', h1, h2, _, h4⟩ := Box.setCells (l8 g) 0 _ h
  have : c' = arr8 g := by
    apply Array.ext_getElem?
    intro i
    by_cases hi : i < 256
    · have := h4 i (by rw [arr8_size]; omega) (by rw [l8_len]; exact hi)
      rw [Nat.zero_add] at this
      rw [this]; unfold l8; simp
    · rw [Array.getElem?_eq_none (by rw [h2, arr8_size]; omega), Array.getElem?_eq_none (by rw [arr8_size]; omega)]
  rw [← this]; exact h1
theorem below_setCells {B : Nat} {a w : World} {b : Nat} (hb : B ≤ b) : ∀ (vs : List Value) (o : Nat), Below B a w → Below B a (w.setCells b o vs) := by
  intro vs
  induction vs generalizing w with
  | nil => intro o h; exact h
  | cons v vs ih => intro o h; exact ih (o + 1) (h.setCell hb v)
attribute [irreducible] l8
/-- What stands while the region of Join runs. -/
def JoinS (f g : Nat → Nat) (w w' : World) : Prop :=
  Box w' w.heap.size (arr8 f) 24 ∧ Box w' (w.heap.size + 1) (arr8 g) 24 ∧ (∃ h, Box w' (w.heap.size + 1 + 1) (arr8 h) 24) ∧ Below w.heap.size w w'
theorem JoinS.kept {f g : Nat → Nat} {w wi w1 : World} (h : JoinS f g w wi) (hb : Below wi.heap.size wi w1) : JoinS f g w w1 := by
  obtain ⟨k0, k1, ⟨h, k2⟩, k3⟩ := h
  exact ⟨k0.kept hb, k1.kept hb, ⟨h, k2.kept hb⟩, k3.trans (hb.mono k3.size)⟩
theorem JoinS.grown {f g : Nat → Nat} {w wi w1 : World} {base : Nat} {v : Value} {xs : List BSet} (h : JoinS f g w wi) (ho : Own wi base 34 4 encS v xs) (hlt : w.heap.size + 1 + 1 < base) (hle : base ≤ wi.heap.size) (hg : wi.grownBy w1 v.ownBlock) : JoinS f g w w1 := by
  obtain ⟨k0, k1, ⟨h, k2⟩, k3⟩ := h
  have hb : Below base wi w1 := below_grown (Below.refl _ _) ho hg (Nat.le_refl _) hle
  exact ⟨k0.below hb (by omega), k1.below hb (by omega), ⟨h, k2.below hb hlt⟩, k3.trans (hb.mono (by omega))⟩
theorem JoinS.store {f g h : Nat → Nat} {w wi : World} (k : JoinS f g w wi) : JoinS f g w (wi.setRow (w.heap.size + 1 + 1) (arr8 h)) := by
  obtain ⟨k0, k1, ⟨h', k2⟩, k3⟩ := k
  exact ⟨k0.setRow_other _ (by omega), k1.setRow_other _ (by omega), ⟨h, k2.setRow _⟩, below_setRow k3 (by omega) _⟩
set_option maxRecDepth 20000 in
set_option maxHeartbeats 1600000 in
theorem ref_Join (f g : Nat → Nat) (hf : ∀ b, f b < 256) (hg : ∀ b, g b < 256) (w : World) :
    Calls Try.prog 13 #[.agg (arr8 f), .agg (arr8 g)] w (Ret w (.tuple #[.agg (arr8 (numR (Kern (keyJ f g)))), .int .i64 (widR (Kern (keyJ f g)) : Nat)])) := by
  have hz := zeroV_256
  obtain ⟨L, hL, pL⟩ : ∃ L : List BSet, (reps (Kern (keyN f)) 256).map (cls (Kern (keyN f)) 256) = L ∧ 0 < L.length ∧ L.length ≤ 256 := ⟨_, rfl, by rw [List.length_map]; exact reps_pos _ (kern_equi _), by rw [List.length_map]; exact reps_length _ _⟩
  obtain ⟨M, hM, pM⟩ : ∃ M : List BSet, (reps (Kern (keyN g)) 256).map (cls (Kern (keyN g)) 256) = M ∧ 0 < M.length ∧ M.length ≤ 256 := ⟨_, rfl, by rw [List.length_map]; exact reps_pos _ (kern_equi _), by rw [List.length_map]; exact reps_length _ _⟩
  have hR : ∀ b c, b < 256 → c < 256 → RL (L ++ M) b c = Kern (keyJ f g) b c := fun b c hb hc => by
    rw [RL_append, ← hL, ← hM, RL_cls (kern_equi _) hb hc, RL_cls (kern_equi _) hb hc, kern_keyJ]
  have hSf : ∀ wx, Calls Try.prog 51 #[.agg (l8 f).toArray] wx (RetOwn wx 34 4 encS L) := fun wx => by
    rw [l8_arr, ← hL]; exact ref_Sets19 f hf wx
  have hSg : ∀ wx, Calls Try.prog 51 #[.agg (l8 g).toArray] wx (RetOwn wx 34 4 encS M) := fun wx => by
    rw [l8_arr, ← hM]; exact ref_Sets19 g hg wx
  have hO : ∀ (a : Option Addr) (cap : Nat) wx, SliceR wx (.slice a (L.length + M.length) cap) 4 encS (L ++ M) → Calls Try.prog 11 #[.slice a (L.length + M.length) cap] wx (Ret wx (.tuple #[.agg (l8 (numR (Kern (keyJ f g)))).toArray, .int .i64 (widR (Kern (keyJ f g)) : Nat)])) := fun a cap wx h => by
    have e : (L ++ M).length = L.length + M.length := by simp
    have := ref_Of19 a cap (L ++ M) wx (by rw [e]; exact h)
    rw [e, widR_congr hR, arr8_congr (fun i hi => numR_congr hR hi)] at this
    rw [l8_arr]; exact this
  have HF := Lib.hid hSf
  have HG := Lib.hid hSg
  have HO := Lib.hid hO
  clear hSf hSg hO hL hM hR
  obtain ⟨pL1, pL2⟩ := pL
  obtain ⟨pM1, pM2⟩ := pM
  go_enter Try.func13, Try.ntmps13
  go_wp2
  have hb0 := ((Box.new w (arr8 f) 24).alloc (.cells (arr8 g) 24)).alloc (.cells (arr8 fun _ => 0) 24)
  have hb1 := (Box.new' (w := w.alloc (.cells (arr8 f) 24)) (World.size_alloc _ _).symm (arr8 g) 24).alloc (.cells (arr8 fun _ => 0) 24)
  have hb2 := Box.new' (w := (w.alloc (.cells (arr8 f) 24)).alloc (.cells (arr8 g) 24)) (b := w.heap.size + 1 + 1) (by rw [World.size_alloc, World.size_alloc]) (arr8 fun _ => 0) 24
  have hB : Below w.heap.size w (((w.alloc (.cells (arr8 f) 24)).alloc (.cells (arr8 g) 24)).alloc (.cells (arr8 fun _ => 0) 24)) := by go_grown
  generalize ((w.alloc (.cells (arr8 f) 24)).alloc (.cells (arr8 g) 24)).alloc (.cells (arr8 fun _ => 0) 24) = W at *
  have hs8 : (Try.prog.info? 24).map (·.size) = some 256 := (zero_of_info info_256).2
  have hu8 := Try.underlying24
  have hq0 := hb2.lt
  have hS0 : JoinS f g w W.drew := ⟨hb0.drew, hb1.drew, ⟨_, hb2.drew⟩, hB.drew⟩
  clear hb0 hb1 hb2
  refine wp_region_held_drew (S := JoinS f g w) (by kernel_rfl) hS0 (fun hH => ?_)
  refine wpAnyH_take (i := 0) (v := .agg (l8 f).toArray) rfl (by kernel_rfl) (by kernel_rfl) (by kernel_rfl) (fun _ _ _ h => h) (yieldsIf_load_mid (by rfl) _ _ rfl _ _ rfl _ _ (fun w' hS' => hS'.1.range) hu8 rfl (by rw [l8_len]; exact hs8)) hH ?_
  simp only [List.getElem_toArray, List.getElem_cons_zero, Act.put, List.setIfInBounds_toArray, List.set_cons_zero, List.set_cons_succ]
  refine wpAnyH_take (i := 2) (v := .agg (l8 g).toArray) rfl (by kernel_rfl) (by kernel_rfl) (by kernel_rfl) (fun _ _ _ h => h) (yieldsIf_load_mid (by rfl) _ _ rfl _ _ rfl _ _ (fun w' hS' => hS'.2.1.range) hu8 rfl (by rw [l8_len]; exact hs8)) hH ?_
  simp only [List.getElem_toArray, List.getElem_cons_zero, List.getElem_cons_succ, Act.put, List.setIfInBounds_toArray, List.set_cons_zero, List.set_cons_succ]
  refine wpAnyH_ready (rs := [1]) (by kernel_rfl) (by simp) (AllReadyH.cons rfl (fun K hK => ?_) AllReadyH.nil)
  go_simp
  refine (HF.out _).mono ?_
  rintro e w1 ⟨a1, cap1, rfl, ho1, hb⟩
  refine hK.out _ _ (hH.kept hb) (fun hH1 => ?_)
  clear hK K
  refine wpAnyH_ready (rs := [3]) (by kernel_rfl) (by simp) (AllReadyH.cons rfl (fun K hK => ?_) AllReadyH.nil)
  go_simp
  refine (HG.out _).mono ?_
  rintro e w2 ⟨a2, cap2, rfl, ho2, hb2⟩
  obtain ⟨g2, rfl, hg2a, hg2b⟩ := ho2.addr pM1
  have ho1' := ho1.kept hb2
  refine hK.out _ _ (hH1.kept hb2) (fun hH2 => ?_)
  clear hK K
  have hw1 : w.heap.size + 1 + 1 < w1.heap.size := by obtain ⟨_, _, ⟨_, k⟩, _⟩ := hH1; exact k.lt
  have hWd : W.drew.heap.size ≤ w1.heap.size := hb.size
  have hsz2 : w1.heap.size ≤ w2.heap.size := hb2.size
  refine wpAnyH_ready (rs := [4]) (by kernel_rfl) (by simp) (AllReadyH.cons rfl (fun K hK => ?_) AllReadyH.nil)
  refine step_appendN rfl _ _ 22 rfl elem_set encS_ok rfl ho1' ⟨g2, 0, none⟩ _ M rfl ((ho2.toRow encS_ok).cells rfl) (by simp [maxLen]; omega) (by omega) (by omega) ?_
  intro a3 cap3 w3 ho3 hgr
  refine hK.out _ _ (hH2.grown ho1' hq0 (by omega) hgr) (fun hH3 => ?_)
  clear hK K
  refine wpAnyH_ready (rs := [5]) (by kernel_rfl) (by simp) (AllReadyH.cons rfl (fun K hK => ?_) AllReadyH.nil)
  go_simp
  refine (HO.out _ _ _ (ho3.slice encS_ok)).mono ?_
  rintro e w4 ⟨rfl, hb4⟩
  refine hK.out _ _ (hH3.kept hb4) (fun hH4 => ?_)
  clear hK K
  refine wpAnyH_take (i := 6) rfl (by kernel_rfl) (by kernel_rfl) (by kernel_rfl) (fun _ _ _ h => h) (.inl ⟨by rfl, fun w' _ => by rfl⟩) hH4 ?_
  simp only [List.getElem_toArray, List.getElem_cons_zero, List.getElem_cons_succ, Act.put, List.setIfInBounds_toArray, List.set_cons_zero, List.set_cons_succ]
  refine wpAnyH_take (i := 7) rfl (by kernel_rfl) (by kernel_rfl) (by kernel_rfl) (fun _ _ _ h => h) (.inl ⟨by rfl, fun w' _ => by rfl⟩) hH4 ?_
  simp only [List.getElem_toArray, List.getElem_cons_zero, List.getElem_cons_succ, Act.put, List.setIfInBounds_toArray, List.set_cons_zero, List.set_cons_succ]
  obtain ⟨h4, hx4⟩ := hH4.2.2.1
  refine wpAnyH_ready (rs := [8]) (by kernel_rfl) (by simp) (AllReadyH.cons rfl (fun K hK => ?_) AllReadyH.nil)
  rw [if_pos (by rfl)]
  refine wp_store_row 24 _ _ rfl (w.heap.size + 1 + 1) (l8 (numR (Kern (keyJ f g)))).toArray rfl rfl _ _ hx4 (by rw [l8_arr]; exact size_256 _) (by rw [l8_arr]; exact arr8_sizes _ _) (by rw [l8_arr]; exact arr8_all _) ?_
  rw [l8_arr (numR (Kern (keyJ f g)))]
  refine hK.out _ _ hH4.store (fun hH5 => ?_)
  clear hK K
  refine wpAnyH_take (i := 9) rfl (by kernel_rfl) (by kernel_rfl) (by kernel_rfl) (fun _ _ _ h => h) (.inl ⟨by rfl, fun w' _ => by rfl⟩) hH5 ?_
  simp only [List.getElem_toArray, List.getElem_cons_zero, List.getElem_cons_succ, Act.put, List.setIfInBounds_toArray, List.set_cons_zero, List.set_cons_succ]
  refine wpAnyH_done (by kernel_rfl) ?_ _
  go_wp2
  exact ret_box_tmp Try.results13 rfl rfl (hx4.setRow _) Try.underlying24 rfl (size_256 _) rfl ⟨rfl, hH5.2.2.2⟩
end Go.Proofs.Ytinlfbacfmmfpaa
