/- The law SetsLaws returns true for every two sets, and leaves them as they were. No condition. -/
import Derived.Test.YtinlfbacfmmfpaaDoorSetsListed
import Derived.Test.YtinlfbacfmmfpaaDoorOrdM
namespace Go.Proofs.YtinlfbacfmmfpaaDoor
open Go.ChangeShapes Go.WideShapes Go.ChangeAt Go.RowKit

/-! ### The plain laws -/
theorem countP_both (p q : Nat → Bool) : ∀ l : List Nat, (l.filter fun c => p c || q c).length + (l.filter fun c => p c && q c).length = (l.filter p).length + (l.filter q).length
  | [] => rfl
  | c :: l => by
    have h := countP_both p q l
    cases hp : p c <;> cases hq : q c <;> simp [hp, hq] <;> omega
theorem elems_both (a b : BSet) : (elems (a ||| b)).length + (elems (a &&& b)).length = (elems a).length + (elems b).length := by
  have h1 : elems (a ||| b) = (List.range 256).filter fun c => mem a c || mem b c := List.filter_congr fun c _ => mem_or a b c
  have h2 : elems (a &&& b) = (List.range 256).filter fun c => mem a c && mem b c := List.filter_congr fun c _ => mem_and a b c
  rw [h1, h2]; exact countP_both _ _ _
/-- The set of a piece; of some pieces. -/
def pieceS (p : Nat × Nat) : BSet := ofP fun b => decide (p.1 ≤ b) && decide (b ≤ p.2)
def uniS (l : List (Nat × Nat)) : BSet := l.foldl (fun s p => s ||| pieceS p) 0
theorem uniS_snoc (l : List (Nat × Nat)) (p : Nat × Nat) : uniS (l ++ [p]) = uniS l ||| pieceS p := by unfold uniS; rw [List.foldl_append]; rfl
theorem uniS_addSpan (l : List (Nat × Nat)) (b : Nat) (hb : b < 256) (h : ∀ p ∈ l, p.1 ≤ p.2) : uniS (addSpan l b) = withB (uniS l) b ∧ ∀ p ∈ addSpan l b, p.1 ≤ p.2 := by
  have one_piece : pieceS (b, b) = one b := set_ext fun c hc => by
    rw [pieceS, mem_ofP, mem_one _ _ hb, Bool.eq_iff_iff]; simp; omega
  rcases List.eq_nil_or_concat l with rfl | ⟨l0, ⟨lo, hi⟩, rfl⟩
  · rw [addSpan_nil, show [(b, b)] = [] ++ [(b, b)] from rfl, uniS_snoc, one_piece]
    exact ⟨rfl, fun p hp => by simp at hp; subst hp; exact Nat.le_refl _⟩
  · rw [List.concat_eq_append] at h ⊢
    have hp := h (lo, hi) (by simp)
    by_cases hc : hi + 1 = b
    · rw [addSpan_on _ _ _ _ hc, uniS_snoc, uniS_snoc]
      refine ⟨set_ext fun c hc2 => ?_, fun p hp2 => ?_⟩
      · rw [mem_withB _ _ _ hb, mem_or, mem_or, pieceS, pieceS, mem_ofP, mem_ofP, Bool.or_assoc]
        congr 1
        rw [Bool.eq_iff_iff]; simp at hp ⊢; omega
      · rcases List.mem_append.1 hp2 with h1 | h1
        · exact h p (by simp [h1])
        · simp at h1; subst h1; simp at hp ⊢; omega
    · rw [addSpan_new _ _ _ _ hc, uniS_snoc, one_piece]
      exact ⟨rfl, fun p hp2 => by
        rcases List.mem_append.1 hp2 with h1 | h1
        · exact h p h1
        · simp at h1; subst h1; exact Nat.le_refl _⟩
theorem uniS_spansL (xs : List Nat) : (∀ x ∈ xs, x < 256) → uniS (spansL xs) = ofL xs := by
  suffices h : ∀ (xs : List Nat) (l : List (Nat × Nat)) (s : BSet), (∀ x ∈ xs, x < 256) → (∀ p ∈ l, p.1 ≤ p.2) → uniS l = s → uniS (xs.foldl addSpan l) = xs.foldl withB s from fun hx => h xs [] 0 hx (fun p hp => by simp at hp) rfl
  intro xs
  induction xs with
  | nil => intro l s _ _ h; exact h
  | cons a xs ih =>
    intro l s hx hl h
    obtain ⟨h1, h2⟩ := uniS_addSpan l a (hx a (by simp)) hl
    exact ih _ _ (fun x hx2 => hx x (by simp [hx2])) h2 (by rw [h1, h])
theorem uniS_elems (a : BSet) : uniS (spansL (elems a)) = a := by rw [uniS_spansL _ fun x hx => elems_lt hx, ofL_elems]
theorem not_both (a b : BSet) : ~~~a &&& ~~~b = ~~~(a ||| b) := set_ext fun c hc => by rw [mem_and, mem_not _ _ hc, mem_not _ _ hc, mem_not _ _ hc, mem_or]; simp
theorem not_not (a : BSet) : ~~~(~~~a) = a := set_ext fun c hc => by rw [mem_not _ _ hc, mem_not _ _ hc]; simp
theorem neq_sum {x y u v : Nat} (h : x + y = u + v) : (IntKind.i64.wrap ((x : Int) + (y : Int)) != IntKind.i64.wrap ((u : Int) + (v : Int))) = false := by
  rw [show (x : Int) + (y : Int) = (u : Int) + (v : Int) by omega, bne_self_eq_false]
/-- What lies while the pieces are put together. -/
def LawsS (a b : BSet) (w0 : Nat) (w : World) (g : Nat) (v : Value) (L : List (Nat × Nat)) (w' : World) : Prop :=
  TwoAt a b w0 w' ∧ Own w' (g + 1) 45 2 encQ v L ∧ Below w0 w w' ∧ (∃ u, Box w' g (setC u) 34) ∧ w0 + 1 < g
theorem LawsS.kept {a b : BSet} {w0 g : Nat} {w w1 w2 : World} {v : Value} {L : List (Nat × Nat)} (h : LawsS a b w0 w g v L w1) (hb : Below w1.heap.size w1 w2) : LawsS a b w0 w g v L w2 := by
  obtain ⟨h1, h2, h3, ⟨u, h4⟩, h5⟩ := h
  exact ⟨h1.kept hb, h2.kept hb, h3.trans (hb.mono (Nat.le_of_lt h1.1.lt)), ⟨u, h4.kept hb⟩, h5⟩
theorem LawsS.store {a b t : BSet} {w0 g : Nat} {w w1 : World} {v : Value} {L : List (Nat × Nat)} (h : LawsS a b w0 w g v L w1) :
    LawsS a b w0 w g v L ((((w1.setCell ⟨g, 0, none⟩ (.int .u64 (word t 0 : Nat))).setCell ⟨g, 1, none⟩ (.int .u64 (word t 1 : Nat))).setCell ⟨g, 2, none⟩ (.int .u64 (word t 2 : Nat))).setCell ⟨g, 3, none⟩ (.int .u64 (word t 3 : Nat))) ∧
    Box ((((w1.setCell ⟨g, 0, none⟩ (.int .u64 (word t 0 : Nat))).setCell ⟨g, 1, none⟩ (.int .u64 (word t 1 : Nat))).setCell ⟨g, 2, none⟩ (.int .u64 (word t 2 : Nat))).setCell ⟨g, 3, none⟩ (.int .u64 (word t 3 : Nat))) g (setC t) 34 := by
  obtain ⟨⟨h1, h1'⟩, h2, h3, ⟨u, h4⟩, h5⟩ := h
  have hb := h4.store4 rfl (.int .u64 (word t 0 : Nat)) (.int .u64 (word t 1 : Nat)) (.int .u64 (word t 2 : Nat)) (.int .u64 (word t 3 : Nat))
  refine ⟨⟨⟨h1.other4 (by omega) _ _ _ _, h1'.other4 (by omega) _ _ _ _⟩, ?_, ?_, ⟨t, hb⟩, h5⟩, hb⟩
  · exact (((h2.other _ _ (by simp)).other _ _ (by simp)).other _ _ (by simp)).other _ _ (by simp)
  · exact (((h3.setCell (by simp; omega) _).setCell (by simp; omega) _).setCell (by simp; omega) _).setCell (by simp; omega) _
set_option maxRecDepth 20000 in
set_option maxHeartbeats 6400000 in
theorem law_SetsLaws (a b : BSet) (w : World) (hT : Tab w) :
    Calls Tryd.prog 8 #[setV a, setV b] w (Ret w (.bool true)) := by
  have hq := eqS_self
  have u2 : ∀ ad cap w, SliceR w (.slice ad 2 cap) 4 encS [a, b] → Calls Tryd.prog 35 #[.slice ad 2 cap] w (Ret w (setV (a ||| b))) := fun ad cap w h => by have := sets_Union ad cap [a, b] w h; rwa [fold2] at this
  have m1 := fun w => sets_Meet a b w
  have l1 := fun w => sets_Less a b w
  have na := fun w => sets_Not a w
  have nb := fun w => sets_Not b w
  have nu := fun w => sets_Not (a ||| b) w
  have ma := fun w => sets_Meet (~~~a) (~~~b) w
  rw [not_both] at ma
  have mn := fun w => sets_Meet a (~~~b) w
  have nn := fun w => sets_Not (~~~a) w
  rw [not_not] at nn
  have cu := fun w => sets_Count (a ||| b) w
  have cm := fun w => sets_Count (a &&& b) w
  have ca := fun w => sets_Count a w
  have cb := fun w => sets_Count b w
  have hcnt := elems_both a b
  have e1 := elems_length (a ||| b)
  have e2 := elems_length (a &&& b)
  have e3 := elems_length a
  have e4 := elems_length b
  have hsp := fun w h => sets_Spans a w h
  have hby := fun w h => sets_Bytes a w h
  have hof : ∀ (ad : Option Addr) (cap : Nat) (w : World), SliceR w (.slice ad (elems a).length cap) 1 encB (elems a) → Calls Tryd.prog 19 #[.slice ad (elems a).length cap] w (Ret w (setV a)) := fun ad cap w h => by
    have := sets_Of ad cap (elems a) w h (fun x hx => elems_lt hx)
    rwa [ofL_elems] at this
  have hls := spansL_lt (elems a) (fun x hx => elems_lt hx)
  have hll := spansL_length (elems a)
  have hun := uniS_elems a
  generalize spansL (elems a) = L at *
  generalize elems a = Ea at *
  generalize elems b = Eb at *
  generalize elems (a ||| b) = Eu at *
  generalize elems (a &&& b) = Em at *
  generalize ~~~(a ||| b) = NU at *
  generalize a ||| b = U at *
  generalize a &&& b = M at *
  generalize a &&& ~~~b = LS at *
  generalize ~~~a = NA at *
  generalize ~~~b = NB at *
  obtain ⟨nu', hnu⟩ : ∃ n, Eu.length = n := ⟨_, rfl⟩
  obtain ⟨nm', hnm⟩ : ∃ n, Em.length = n := ⟨_, rfl⟩
  obtain ⟨na', hna⟩ : ∃ n, Ea.length = n := ⟨_, rfl⟩
  obtain ⟨nb', hnb⟩ : ∃ n, Eb.length = n := ⟨_, rfl⟩
  rw [hnu] at cu e1 hcnt
  rw [hnm] at cm e2 hcnt
  rw [hnb] at cb e4 hcnt
  rw [hna] at ca e3 hcnt hof hll
  have HNA := Lib.hid hna
  have hsum := neq_sum hcnt
  clear hnu hnm hnb hna hcnt
  have U2 := Lib.hid u2
  have M1 := Lib.hid m1
  have L1 := Lib.hid l1
  have XNA := Lib.hid na
  have XNB := Lib.hid nb
  have XNU := Lib.hid nu
  have MA := Lib.hid ma
  have MN := Lib.hid mn
  have NN := Lib.hid nn
  have CU := Lib.hid cu
  have CM := Lib.hid cm
  have CA := Lib.hid ca
  have CB := Lib.hid cb
  have HSP := Lib.hid hsp
  have HBY := Lib.hid hby
  have HOF := Lib.hid hof
  have HLS := Lib.hid hls
  have HUN := Lib.hid hun
  have HT := Lib.hid hT
  clear u2 m1 l1 na nb nu ma mn nn cu cm ca cb hsp hby hof hls hun hT
  have HK : Hid (∀ w1 w2, ((w1.cell? ⟨w.heap.size, 0, none⟩ = some (.int .u64 (word a 0 : Nat)) ∧ w1.cell? ⟨w.heap.size, 1, none⟩ = some (.int .u64 (word a 1 : Nat)) ∧ w1.cell? ⟨w.heap.size, 2, none⟩ = some (.int .u64 (word a 2 : Nat)) ∧ w1.cell? ⟨w.heap.size, 3, none⟩ = some (.int .u64 (word a 3 : Nat))) ∧ (w1.cell? ⟨w.heap.size + 1, 0, none⟩ = some (.int .u64 (word b 0 : Nat)) ∧ w1.cell? ⟨w.heap.size + 1, 1, none⟩ = some (.int .u64 (word b 1 : Nat)) ∧ w1.cell? ⟨w.heap.size + 1, 2, none⟩ = some (.int .u64 (word b 2 : Nat)) ∧ w1.cell? ⟨w.heap.size + 1, 3, none⟩ = some (.int .u64 (word b 3 : Nat))) ∧ TwoAt a b w.heap.size w1 ∧ Below w.heap.size w w1) → Below w1.heap.size w1 w2 → ((w2.cell? ⟨w.heap.size, 0, none⟩ = some (.int .u64 (word a 0 : Nat)) ∧ w2.cell? ⟨w.heap.size, 1, none⟩ = some (.int .u64 (word a 1 : Nat)) ∧ w2.cell? ⟨w.heap.size, 2, none⟩ = some (.int .u64 (word a 2 : Nat)) ∧ w2.cell? ⟨w.heap.size, 3, none⟩ = some (.int .u64 (word a 3 : Nat))) ∧ (w2.cell? ⟨w.heap.size + 1, 0, none⟩ = some (.int .u64 (word b 0 : Nat)) ∧ w2.cell? ⟨w.heap.size + 1, 1, none⟩ = some (.int .u64 (word b 1 : Nat)) ∧ w2.cell? ⟨w.heap.size + 1, 2, none⟩ = some (.int .u64 (word b 2 : Nat)) ∧ w2.cell? ⟨w.heap.size + 1, 3, none⟩ = some (.int .u64 (word b 3 : Nat))) ∧ TwoAt a b w.heap.size w2 ∧ Below w.heap.size w w2)) := Lib.hid fun w1 w2 ⟨_, _, h3, h4⟩ hb => ⟨(h3.kept hb).cells.1, (h3.kept hb).cells.2, h3.kept hb, h4.trans (hb.mono h4.size)⟩
  go_enter Tryd.func8, Tryd.ntmps8
  go_upto_region 1 with fail
  have hbx : TwoAt a b w.heap.size ((w.alloc (.cells (setC a) 34)).alloc (.cells (setC b) 34)) := ⟨(Box.new' rfl _ _).alloc _, Box.new' (by simp) _ _⟩
  have hB : Below w.heap.size w ((w.alloc (.cells (setC a) 34)).alloc (.cells (setC b) 34)) := by go_grown
  generalize (w.alloc (.cells (setC a) 34)).alloc (.cells (setC b) 34) = W at *
  have H1 : Hid ((W.drew.cell? ⟨w.heap.size, 0, none⟩ = some (.int .u64 (word a 0 : Nat)) ∧ W.drew.cell? ⟨w.heap.size, 1, none⟩ = some (.int .u64 (word a 1 : Nat)) ∧ W.drew.cell? ⟨w.heap.size, 2, none⟩ = some (.int .u64 (word a 2 : Nat)) ∧ W.drew.cell? ⟨w.heap.size, 3, none⟩ = some (.int .u64 (word a 3 : Nat))) ∧ (W.drew.cell? ⟨w.heap.size + 1, 0, none⟩ = some (.int .u64 (word b 0 : Nat)) ∧ W.drew.cell? ⟨w.heap.size + 1, 1, none⟩ = some (.int .u64 (word b 1 : Nat)) ∧ W.drew.cell? ⟨w.heap.size + 1, 2, none⟩ = some (.int .u64 (word b 2 : Nat)) ∧ W.drew.cell? ⟨w.heap.size + 1, 3, none⟩ = some (.int .u64 (word b 3 : Nat))) ∧ TwoAt a b w.heap.size W.drew ∧ Below w.heap.size w W.drew) := Lib.hid ⟨hbx.cells.1, hbx.cells.2, hbx, hB.drew⟩
  clear hbx hB
  go_cut [35] (fun s wx => s = .bool false ∧ (wx.cell? ⟨w.heap.size, 0, none⟩ = some (.int .u64 (word a 0 : Nat)) ∧ wx.cell? ⟨w.heap.size, 1, none⟩ = some (.int .u64 (word a 1 : Nat)) ∧ wx.cell? ⟨w.heap.size, 2, none⟩ = some (.int .u64 (word a 2 : Nat)) ∧ wx.cell? ⟨w.heap.size, 3, none⟩ = some (.int .u64 (word a 3 : Nat))) ∧ (wx.cell? ⟨w.heap.size + 1, 0, none⟩ = some (.int .u64 (word b 0 : Nat)) ∧ wx.cell? ⟨w.heap.size + 1, 1, none⟩ = some (.int .u64 (word b 1 : Nat)) ∧ wx.cell? ⟨w.heap.size + 1, 2, none⟩ = some (.int .u64 (word b 2 : Nat)) ∧ wx.cell? ⟨w.heap.size + 1, 3, none⟩ = some (.int .u64 (word b 3 : Nat))) ∧ TwoAt a b w.heap.size wx ∧ Below w.heap.size w wx)
  case first =>
    go_region_held3 (fun w' => (w'.cell? ⟨w.heap.size, 0, none⟩ = some (.int .u64 (word a 0 : Nat)) ∧ w'.cell? ⟨w.heap.size, 1, none⟩ = some (.int .u64 (word a 1 : Nat)) ∧ w'.cell? ⟨w.heap.size, 2, none⟩ = some (.int .u64 (word a 2 : Nat)) ∧ w'.cell? ⟨w.heap.size, 3, none⟩ = some (.int .u64 (word a 3 : Nat))) ∧ (w'.cell? ⟨w.heap.size + 1, 0, none⟩ = some (.int .u64 (word b 0 : Nat)) ∧ w'.cell? ⟨w.heap.size + 1, 1, none⟩ = some (.int .u64 (word b 1 : Nat)) ∧ w'.cell? ⟨w.heap.size + 1, 2, none⟩ = some (.int .u64 (word b 2 : Nat)) ∧ w'.cell? ⟨w.heap.size + 1, 3, none⟩ = some (.int .u64 (word b 3 : Nat))) ∧ TwoAt a b w.heap.size w' ∧ Below w.heap.size w w') (first | exact H1.out | exact HK.out _ _ (by assumption) hb | exact HK.out _ _ (by assumption) ((Below.refl _ _).alloc (Nat.le_refl _) _)) (first | (go_at_call 35; (with_reducible refine (U2.out _ _ _ (by repeat (first | (refine slice_new2' ?_ _ _ _; simp; done) | refine SliceR.drewd ?_ | refine SliceR.allocd ?_ | refine SliceR.step ?_ (by assumption)))).mono ?_); rintro e w1 ⟨rfl, hb⟩; have hs : StepB _ w1 := hb) | (go_at_call 38; (with_reducible refine (XNU.out _).mono ?_); rintro e w1 ⟨rfl, hb⟩; have hs : StepB _ w1 := hb) | (go_at_call 38; (with_reducible refine (XNA.out _).mono ?_); rintro e w1 ⟨rfl, hb⟩; have hs : StepB _ w1 := hb) | (go_at_call 38; (with_reducible refine (XNB.out _).mono ?_); rintro e w1 ⟨rfl, hb⟩; have hs : StepB _ w1 := hb) | (go_at_call 38; (with_reducible refine (NN.out _).mono ?_); rintro e w1 ⟨rfl, hb⟩; have hs : StepB _ w1 := hb) | (go_at_call 33; (with_reducible refine (MA.out _).mono ?_); rintro e w1 ⟨rfl, hb⟩; have hs : StepB _ w1 := hb) | (go_at_call 33; (with_reducible refine (MN.out _).mono ?_); rintro e w1 ⟨rfl, hb⟩; have hs : StepB _ w1 := hb) | (go_at_call 37; (with_reducible refine (L1.out _).mono ?_); rintro e w1 ⟨rfl, hb⟩; have hs : StepB _ w1 := hb))
    all_goals
      go_wp2_with fail
      go_meet
      exact ⟨rfl, by assumption⟩
  case rest =>
    obtain ⟨rfl, hS⟩ := hcut
    have H2 : Hid ((wc.drew.cell? ⟨w.heap.size, 0, none⟩ = some (.int .u64 (word a 0 : Nat)) ∧ wc.drew.cell? ⟨w.heap.size, 1, none⟩ = some (.int .u64 (word a 1 : Nat)) ∧ wc.drew.cell? ⟨w.heap.size, 2, none⟩ = some (.int .u64 (word a 2 : Nat)) ∧ wc.drew.cell? ⟨w.heap.size, 3, none⟩ = some (.int .u64 (word a 3 : Nat))) ∧ (wc.drew.cell? ⟨w.heap.size + 1, 0, none⟩ = some (.int .u64 (word b 0 : Nat)) ∧ wc.drew.cell? ⟨w.heap.size + 1, 1, none⟩ = some (.int .u64 (word b 1 : Nat)) ∧ wc.drew.cell? ⟨w.heap.size + 1, 2, none⟩ = some (.int .u64 (word b 2 : Nat)) ∧ wc.drew.cell? ⟨w.heap.size + 1, 3, none⟩ = some (.int .u64 (word b 3 : Nat))) ∧ TwoAt a b w.heap.size wc.drew ∧ Below w.heap.size w wc.drew) := Lib.hid ⟨hS.2.2.1.cells.1, hS.2.2.1.cells.2, hS.2.2.1, hS.2.2.2.drew⟩
    clear hS H1
    go_upto_region 3 with fail
    go_cut [51] (fun s wx => s = .bool false ∧ (wx.cell? ⟨w.heap.size, 0, none⟩ = some (.int .u64 (word a 0 : Nat)) ∧ wx.cell? ⟨w.heap.size, 1, none⟩ = some (.int .u64 (word a 1 : Nat)) ∧ wx.cell? ⟨w.heap.size, 2, none⟩ = some (.int .u64 (word a 2 : Nat)) ∧ wx.cell? ⟨w.heap.size, 3, none⟩ = some (.int .u64 (word a 3 : Nat))) ∧ (wx.cell? ⟨w.heap.size + 1, 0, none⟩ = some (.int .u64 (word b 0 : Nat)) ∧ wx.cell? ⟨w.heap.size + 1, 1, none⟩ = some (.int .u64 (word b 1 : Nat)) ∧ wx.cell? ⟨w.heap.size + 1, 2, none⟩ = some (.int .u64 (word b 2 : Nat)) ∧ wx.cell? ⟨w.heap.size + 1, 3, none⟩ = some (.int .u64 (word b 3 : Nat))) ∧ TwoAt a b w.heap.size wx ∧ Below w.heap.size w wx)
    case first =>
      go_region_held3 (fun w' => (w'.cell? ⟨w.heap.size, 0, none⟩ = some (.int .u64 (word a 0 : Nat)) ∧ w'.cell? ⟨w.heap.size, 1, none⟩ = some (.int .u64 (word a 1 : Nat)) ∧ w'.cell? ⟨w.heap.size, 2, none⟩ = some (.int .u64 (word a 2 : Nat)) ∧ w'.cell? ⟨w.heap.size, 3, none⟩ = some (.int .u64 (word a 3 : Nat))) ∧ (w'.cell? ⟨w.heap.size + 1, 0, none⟩ = some (.int .u64 (word b 0 : Nat)) ∧ w'.cell? ⟨w.heap.size + 1, 1, none⟩ = some (.int .u64 (word b 1 : Nat)) ∧ w'.cell? ⟨w.heap.size + 1, 2, none⟩ = some (.int .u64 (word b 2 : Nat)) ∧ w'.cell? ⟨w.heap.size + 1, 3, none⟩ = some (.int .u64 (word b 3 : Nat))) ∧ TwoAt a b w.heap.size w' ∧ Below w.heap.size w w') (first | exact H2.out | exact HK.out _ _ (by assumption) hb | exact HK.out _ _ (by assumption) ((Below.refl _ _).alloc (Nat.le_refl _) _)) (first | (go_at_call 35; (with_reducible refine (U2.out _ _ _ (by repeat (first | (refine slice_new2' ?_ _ _ _; simp; done) | refine SliceR.drewd ?_ | refine SliceR.allocd ?_ | refine SliceR.step ?_ (by assumption)))).mono ?_); rintro e w1 ⟨rfl, hb⟩; have hs : StepB _ w1 := hb) | (go_at_call 33; (with_reducible refine (M1.out _).mono ?_); rintro e w1 ⟨rfl, hb⟩; have hs : StepB _ w1 := hb) | (go_at_call 29; (with_reducible refine (CU.out _).mono ?_); rintro e w1 ⟨rfl, hb⟩; have hs : StepB _ w1 := hb) | (go_at_call 29; (with_reducible refine (CM.out _).mono ?_); rintro e w1 ⟨rfl, hb⟩; have hs : StepB _ w1 := hb) | (go_at_call 29; (with_reducible refine (CA.out _).mono ?_); rintro e w1 ⟨rfl, hb⟩; have hs : StepB _ w1 := hb) | (go_at_call 29; (with_reducible refine (CB.out _).mono ?_); rintro e w1 ⟨rfl, hb⟩; have hs : StepB _ w1 := hb))
      all_goals
        go_wp2_with fail
        go_meet
        exact ⟨rfl, by assumption⟩
    case rest =>
      obtain ⟨rfl, hS⟩ := hcut
      obtain ⟨_, _, h2, hB⟩ := hS
      clear H2 HK hsum
      go_upto_region 6 with fail
      have hB1 := hB.alloc hB.size (.cells #[.int .u64 0, .int .u64 0, .int .u64 0, .int .u64 0] 34)
      have hx1 := Box.new wc #[.int .u64 0, .int .u64 0, .int .u64 0, .int .u64 0] 34
      have h21 := h2.kept ((Below.refl _ wc).alloc (Nat.le_refl _) (.cells #[.int .u64 0, .int .u64 0, .int .u64 0, .int .u64 0] 34))
      have hg : w.heap.size + 1 < wc.heap.size := h2.2.lt
      obtain ⟨g, hgg⟩ : ∃ g, wc.heap.size = g := ⟨_, rfl⟩
      have hWs : (wc.alloc (.cells #[.int .u64 0, .int .u64 0, .int .u64 0, .int .u64 0] 34)).heap.size = g + 1 := by rw [World.size_alloc, hgg]
      rw [hgg] at hx1 hg ⊢
      generalize wc.alloc (.cells #[.int .u64 0, .int .u64 0, .int .u64 0, .int .u64 0] 34) = W1 at *
      clear hB h2 hgg
      obtain ⟨p0, p1, p2, p3⟩ := h21.1.set4.1
      go_wp2_with fail
      refine (HSP.out _ (HT.out.kept hB1)).mono ?_
      intro e w5 h5
      obtain ⟨a5, cap5, rfl, o5, hb5⟩ := h5
      have hB5 := hB1.trans (hb5.mono hB1.size)
      have hx5 := hx1.kept hb5
      have h25 := h21.kept hb5
      have hg5 : g + 1 ≤ w5.heap.size := hx5.lt
      clear hx1 h21 p0 p1 p2 p3 hB1
      obtain ⟨m, hm⟩ : ∃ m, L.length = m := ⟨_, rfl⟩
      have HM := Lib.hid hm
      rw [hm] at o5 hll ⊢
      rw [hWs] at o5
      clear hm hWs hb5
      go_wp2
      go_loopw [7] (fun i wr => ∃ k : Nat, k ≤ m ∧ i = .int .i64 k ∧ LawsS a b w.heap.size w g (.slice a5 m cap5) L wr ∧ Box wr g (setC (uniS (L.take k))) 34) (fun i _ => m - (intOf i).toNat)
      case atStart =>
        refine ⟨0, Nat.zero_le _, rfl, ⟨h25, o5, hB5, ⟨0, ?_⟩, hg⟩, ?_⟩
        · rw [setC_zero]; exact hx5
        · rw [List.take_zero, show uniS [] = 0 from rfl, setC_zero]; exact hx5
      case round =>
        clear h25 o5 hx5 hB5 hg5
        obtain ⟨k, hk, rfl, hL, hx⟩ := hrel
        by_cases hlt : k < m
        · obtain ⟨g5, rfl, hg5, _⟩ := hL.2.1.addr (by omega)
          have hk2 : k < L.length := by rw [HM.out]; exact hlt
          have hkeep : ∀ w', LawsS a b w.heap.size w g (.slice (some ⟨g5, 0, none⟩) m cap5) L w' → w'.cell? ⟨g5, k * 2, none⟩ = some (.int .u8 (L[k].1 : Nat)) ∧ w'.cell? ⟨g5, k * 2 + 1, none⟩ = some (.int .u8 (L[k].2 : Nat)) := fun w' h => by
            obtain ⟨q0, _⟩ := h.2.1.cellAt (i := k) (j := 0) hk2 (by decide)
            obtain ⟨q1, _⟩ := h.2.1.cellAt (i := k) (j := 1) hk2 (by decide)
            exact ⟨q0, q1⟩
          have hb2 := HLS.out L[k] (List.getElem_mem hk2)
          have e2 : uniS (L.take (k + 1)) = uniS (L.take k) ||| pieceS L[k] := by rw [List.take_succ_eq_append_getElem hk2, uniS_snoc]
          have HE := Lib.hid e2
          have hsp := fun w => sets_Span L[k].1 L[k].2 w hb2.1 hb2.2
          clear e2 HNA
          generalize L[k] = p at *
          obtain ⟨lo, hi⟩ := p
          have hsp2 : ∀ w, Calls Tryd.prog 21 #[.int .u8 lo, .int .u8 hi] w (Ret w (setV (pieceS (lo, hi)))) := hsp
          generalize uniS (L.take k) = s0 at *
          generalize pieceS (lo, hi) = s1 at *
          have u2 : ∀ ad cap w, SliceR w (.slice ad 2 cap) 4 encS [s0, s1] → Calls Tryd.prog 35 #[.slice ad 2 cap] w (Ret w (setV (s0 ||| s1))) := fun ad cap w h => by have := sets_Union ad cap [s0, s1] w h; rwa [fold2] at this
          generalize s0 ||| s1 = t at *
          have SP := Lib.hid hsp2
          have UU := Lib.hid u2
          have hx := hx.drew
          have hL0 := hL.kept (Below.refl _ _).drew
          have HF : Hid (∀ w1, Later wr.drew w1 → LawsS a b w.heap.size w g (.slice (some ⟨g5, 0, none⟩) m cap5) L w1 ∧ Box w1 g (setC s0) 34 ∧ w1.cell? ⟨g5, k * 2, none⟩ = some (.int .u8 (lo : Nat)) ∧ w1.cell? ⟨g5, k * 2 + 1, none⟩ = some (.int .u8 (hi : Nat))) := Lib.hid fun w1 hl => ⟨hL0.kept hl, hx.kept hl, hkeep _ (hL0.kept hl)⟩
          have hk0 : (0 : Int) ≤ (k : Int) := by omega
          have hkm : (k : Int) < (m : Int) := by omega
          clear hsp hsp2 u2 hkeep hL hb2 hk2 hL0 hx
          go_wp2_with fail
          refine wp_region_M 14 (by kernel_rfl) ?_
          refine wpM_take (t := 14) (i := 0) (v := ?_) rfl (by kernel_rfl) (by kernel_rfl) (by kernel_rfl) (by kernel_rfl) (fun _ _ _ h => h) (by rfl) (fun w1 hl => ?_) ?_
          rotate_left
          · obtain ⟨_, hx, q0, q1⟩ := HF.out w1 hl; obtain ⟨⟨x0, x1, x2, x3⟩, _⟩ := hx.set4; go_simp; try with_reducible rfl
          simp only [List.getElem_toArray, List.getElem_cons_zero, List.getElem_cons_succ, Act.put, List.setIfInBounds_toArray, List.set_cons_zero, List.set_cons_succ]
          refine wpM_take (t := 14) (i := 1) (v := ?_) rfl (by kernel_rfl) (by kernel_rfl) (by kernel_rfl) (by kernel_rfl) (fun _ _ _ h => h) (by rfl) (fun w1 hl => ?_) ?_
          rotate_left
          · obtain ⟨_, hx, q0, q1⟩ := HF.out w1 hl; obtain ⟨⟨x0, x1, x2, x3⟩, _⟩ := hx.set4; go_simp; try with_reducible rfl
          simp only [List.getElem_toArray, List.getElem_cons_zero, List.getElem_cons_succ, Act.put, List.setIfInBounds_toArray, List.set_cons_zero, List.set_cons_succ]
          refine wpM_take (t := 14) (i := 2) (v := ?_) rfl (by kernel_rfl) (by kernel_rfl) (by kernel_rfl) (by kernel_rfl) (fun _ _ _ h => h) (by rfl) (fun w1 hl => ?_) ?_
          rotate_left
          · obtain ⟨_, hx, q0, q1⟩ := HF.out w1 hl; obtain ⟨⟨x0, x1, x2, x3⟩, _⟩ := hx.set4; go_simp; try with_reducible rfl
          simp only [List.getElem_toArray, List.getElem_cons_zero, List.getElem_cons_succ, Act.put, List.setIfInBounds_toArray, List.set_cons_zero, List.set_cons_succ]
          refine wpM_take (t := 14) (i := 3) (v := ?_) rfl (by kernel_rfl) (by kernel_rfl) (by kernel_rfl) (by kernel_rfl) (fun _ _ _ h => h) (by rfl) (fun w1 hl => ?_) ?_
          rotate_left
          · obtain ⟨_, hx, q0, q1⟩ := HF.out w1 hl; obtain ⟨⟨x0, x1, x2, x3⟩, _⟩ := hx.set4; go_simp; try with_reducible rfl
          simp only [List.getElem_toArray, List.getElem_cons_zero, List.getElem_cons_succ, Act.put, List.setIfInBounds_toArray, List.set_cons_zero, List.set_cons_succ]
          refine wpM_take (t := 14) (i := 4) (v := ?_) rfl (by kernel_rfl) (by kernel_rfl) (by kernel_rfl) (by kernel_rfl) (fun _ _ _ h => h) (by rfl) (fun w1 hl => ?_) ?_
          rotate_left
          · obtain ⟨_, hx, q0, q1⟩ := HF.out w1 hl; obtain ⟨⟨x0, x1, x2, x3⟩, _⟩ := hx.set4; go_simp; try with_reducible rfl
          simp only [List.getElem_toArray, List.getElem_cons_zero, List.getElem_cons_succ, Act.put, List.setIfInBounds_toArray, List.set_cons_zero, List.set_cons_succ]
          refine wpM_take (t := 14) (i := 5) (v := ?_) rfl (by kernel_rfl) (by kernel_rfl) (by kernel_rfl) (by kernel_rfl) (fun _ _ _ h => h) (by rfl) (fun w1 hl => ?_) ?_
          rotate_left
          · obtain ⟨_, hx, q0, q1⟩ := HF.out w1 hl; obtain ⟨⟨x0, x1, x2, x3⟩, _⟩ := hx.set4; go_simp; try with_reducible rfl
          simp only [List.getElem_toArray, List.getElem_cons_zero, List.getElem_cons_succ, Act.put, List.setIfInBounds_toArray, List.set_cons_zero, List.set_cons_succ]
          refine wpM_take (t := 14) (i := 6) (v := ?_) rfl (by kernel_rfl) (by kernel_rfl) (by kernel_rfl) (by kernel_rfl) (fun _ _ _ h => h) (by rfl) (fun w1 hl => ?_) ?_
          rotate_left
          · obtain ⟨_, hx, q0, q1⟩ := HF.out w1 hl; obtain ⟨⟨x0, x1, x2, x3⟩, _⟩ := hx.set4; go_simp; try with_reducible rfl
          simp only [List.getElem_toArray, List.getElem_cons_zero, List.getElem_cons_succ, Act.put, List.setIfInBounds_toArray, List.set_cons_zero, List.set_cons_succ]
          refine wpM_take (t := 14) (i := 7) (v := ?_) rfl (by kernel_rfl) (by kernel_rfl) (by kernel_rfl) (by kernel_rfl) (fun _ _ _ h => h) (by rfl) (fun w1 hl => ?_) ?_
          rotate_left
          · obtain ⟨_, hx, q0, q1⟩ := HF.out w1 hl; obtain ⟨⟨x0, x1, x2, x3⟩, _⟩ := hx.set4; go_simp; try with_reducible rfl
          simp only [List.getElem_toArray, List.getElem_cons_zero, List.getElem_cons_succ, Act.put, List.setIfInBounds_toArray, List.set_cons_zero, List.set_cons_succ]
          refine wpM_take (t := 14) (i := 8) (v := ?_) rfl (by kernel_rfl) (by kernel_rfl) (by kernel_rfl) (by kernel_rfl) (fun _ _ _ h => h) (by rfl) (fun w1 hl => ?_) ?_
          rotate_left
          · obtain ⟨_, hx, q0, q1⟩ := HF.out w1 hl; obtain ⟨⟨x0, x1, x2, x3⟩, _⟩ := hx.set4; go_simp; try with_reducible rfl
          simp only [List.getElem_toArray, List.getElem_cons_zero, List.getElem_cons_succ, Act.put, List.setIfInBounds_toArray, List.set_cons_zero, List.set_cons_succ]
          refine wpM_take (t := 14) (i := 9) (v := ?_) rfl (by kernel_rfl) (by kernel_rfl) (by kernel_rfl) (by kernel_rfl) (fun _ _ _ h => h) (by rfl) (fun w1 hl => ?_) ?_
          rotate_left
          · obtain ⟨_, hx, q0, q1⟩ := HF.out w1 hl; obtain ⟨⟨x0, x1, x2, x3⟩, _⟩ := hx.set4; go_simp; try with_reducible rfl
          simp only [List.getElem_toArray, List.getElem_cons_zero, List.getElem_cons_succ, Act.put, List.setIfInBounds_toArray, List.set_cons_zero, List.set_cons_succ]
          refine wpM_take (t := 14) (i := 10) (v := ?_) rfl (by kernel_rfl) (by kernel_rfl) (by kernel_rfl) (by kernel_rfl) (fun _ _ _ h => h) (by rfl) (fun w1 hl => ?_) ?_
          rotate_left
          · obtain ⟨_, hx, q0, q1⟩ := HF.out w1 hl; obtain ⟨⟨x0, x1, x2, x3⟩, _⟩ := hx.set4; go_simp; try with_reducible rfl
          simp only [List.getElem_toArray, List.getElem_cons_zero, List.getElem_cons_succ, Act.put, List.setIfInBounds_toArray, List.set_cons_zero, List.set_cons_succ]
          refine wpM_call (t := 14) (i := 11) (f := ?_) (args := ?_) (v := ?_) rfl (by kernel_rfl) (by kernel_rfl) (by kernel_rfl) (by kernel_rfl) (fun _ _ _ h => h) (by rfl) (fun w1 => ?_) (fun w1 hl => ?_) ?_
          rotate_left 4
          · exact SP.out w1
          rotate_left
          · go_simp
          simp only [List.getElem_toArray, List.getElem_cons_zero, List.getElem_cons_succ, Act.put, List.setIfInBounds_toArray, List.set_cons_zero, List.set_cons_succ]
          refine wpM_one (t := 14) (i := 12) (by kernel_rfl) rfl (fun w1 hl K hK => ?_)
          go_simp
          refine hK.out _ _ (fun _ => (Below.refl _ _).alloc (Nat.le_refl _) _) ?_
          have hsl := slice_new2 w1 s0 s1 34
          have HF2 := Lib.hid (fun w2 (h2 : Later (w1.alloc (.cells #[.int .u64 (word s0 0 : Nat), .int .u64 (word s0 1 : Nat), .int .u64 (word s0 2 : Nat), .int .u64 (word s0 3 : Nat), .int .u64 (word s1 0 : Nat), .int .u64 (word s1 1 : Nat), .int .u64 (word s1 2 : Nat), .int .u64 (word s1 3 : Nat)] 34)) w2) => HF.out w2 (Later.trans _ _ _ hl (Later.trans _ _ _ ((Below.refl _ _).alloc (Nat.le_refl _) _) h2)))
          clear hK K
          refine wpM_call (t := 14) (i := 13) (f := ?_) (args := ?_) (v := ?_) rfl (by kernel_rfl) (by kernel_rfl) (by kernel_rfl) (by kernel_rfl) (fun _ _ _ h => h) (by rfl) (fun w1 => ?_) (fun w1 hl => ?_) ?_
          rotate_left 4
          · exact UU.out _ _ _ (hsl.kept hl)
          rotate_left
          · go_simp
          simp only [List.getElem_toArray, List.getElem_cons_zero, List.getElem_cons_succ, Act.put, List.setIfInBounds_toArray, List.set_cons_zero, List.set_cons_succ]
          refine wpM_one (t := 14) (i := 14) (by kernel_rfl) rfl (fun w1 hl K hK => ?_)
          obtain ⟨hL3, hx3, q0, q1⟩ := HF2.out w1 hl
          obtain ⟨⟨x0, x1, x2, x3⟩, ⟨f0, f1, f2, f3⟩⟩ := hx3.set4
          go_simp
          refine hK.out _ _ (fun h => absurd rfl h) ?_
          clear hK K
          obtain ⟨hL4, hx4⟩ := hL3.store (t := t)
          refine wpM_done (by kernel_rfl) (fun w1 hl => ?_) _
          have hL5 := hL4.kept hl
          have hx5 := hx4.kept hl
          clear q0 q1 x0 x1 x2 x3 f0 f1 f2 f3
          go_wp2
          go_roundw
          case rel => exact ⟨k + 1, hlt, by go_num, hL5, by rw [HE.out]; exact hx5⟩
          case measure => simp [intOf]; omega
        · have hk2 : L.take k = L := List.take_of_length_le (by rw [HM.out]; omega)
          rw [hk2, HUN.out] at hx
          clear hk2
          have hx := hx.drew
          have hL0 := hL.kept (Below.refl _ _).drew
          have HF : Hid (∀ w1, Later wr.drew w1 → LawsS a b w.heap.size w g (.slice a5 m cap5) L w1 ∧ Box w1 g (setC a) 34) := Lib.hid fun w1 hl => ⟨hL0.kept hl, hx.kept hl⟩
          have HT2 : Hid (∀ w1, Later wr.drew w1 → Tab w1) := Lib.hid fun w1 hl => HT.out.kept ((hL0.kept hl).2.2.1)
          clear hL hx hL0
          go_wp2_with fail
          refine wp_region_M 14 (by kernel_rfl) ?_
          refine wpM_take (t := 14) (i := 0) (v := ?_) rfl (by kernel_rfl) (by kernel_rfl) (by kernel_rfl) (by kernel_rfl) (fun _ _ _ h => h) (by rfl) (fun w1 hl => ?_) ?_
          rotate_left
          · obtain ⟨hL, hx⟩ := HF.out w1 hl; obtain ⟨⟨x0, x1, x2, x3⟩, _⟩ := hx.set4; obtain ⟨⟨y0, y1, y2, y3⟩, _⟩ := hL.1.1.set4; go_simp; try with_reducible rfl
          simp only [List.getElem_toArray, List.getElem_cons_zero, List.getElem_cons_succ, Act.put, List.setIfInBounds_toArray, List.set_cons_zero, List.set_cons_succ]
          refine wpM_take (t := 14) (i := 1) (v := ?_) rfl (by kernel_rfl) (by kernel_rfl) (by kernel_rfl) (by kernel_rfl) (fun _ _ _ h => h) (by rfl) (fun w1 hl => ?_) ?_
          rotate_left
          · obtain ⟨hL, hx⟩ := HF.out w1 hl; obtain ⟨⟨x0, x1, x2, x3⟩, _⟩ := hx.set4; obtain ⟨⟨y0, y1, y2, y3⟩, _⟩ := hL.1.1.set4; go_simp; try with_reducible rfl
          simp only [List.getElem_toArray, List.getElem_cons_zero, List.getElem_cons_succ, Act.put, List.setIfInBounds_toArray, List.set_cons_zero, List.set_cons_succ]
          refine wpM_take (t := 14) (i := 2) (v := ?_) rfl (by kernel_rfl) (by kernel_rfl) (by kernel_rfl) (by kernel_rfl) (fun _ _ _ h => h) (by rfl) (fun w1 hl => ?_) ?_
          rotate_left
          · obtain ⟨hL, hx⟩ := HF.out w1 hl; obtain ⟨⟨x0, x1, x2, x3⟩, _⟩ := hx.set4; obtain ⟨⟨y0, y1, y2, y3⟩, _⟩ := hL.1.1.set4; go_simp; try with_reducible rfl
          simp only [List.getElem_toArray, List.getElem_cons_zero, List.getElem_cons_succ, Act.put, List.setIfInBounds_toArray, List.set_cons_zero, List.set_cons_succ]
          refine wpM_take (t := 14) (i := 3) (v := ?_) rfl (by kernel_rfl) (by kernel_rfl) (by kernel_rfl) (by kernel_rfl) (fun _ _ _ h => h) (by rfl) (fun w1 hl => ?_) ?_
          rotate_left
          · obtain ⟨hL, hx⟩ := HF.out w1 hl; obtain ⟨⟨x0, x1, x2, x3⟩, _⟩ := hx.set4; obtain ⟨⟨y0, y1, y2, y3⟩, _⟩ := hL.1.1.set4; go_simp; try with_reducible rfl
          simp only [List.getElem_toArray, List.getElem_cons_zero, List.getElem_cons_succ, Act.put, List.setIfInBounds_toArray, List.set_cons_zero, List.set_cons_succ]
          refine wpM_take (t := 14) (i := 4) (v := ?_) rfl (by kernel_rfl) (by kernel_rfl) (by kernel_rfl) (by kernel_rfl) (fun _ _ _ h => h) (by rfl) (fun w1 hl => ?_) ?_
          rotate_left
          · obtain ⟨hL, hx⟩ := HF.out w1 hl; obtain ⟨⟨y0, y1, y2, y3⟩, _⟩ := hL.1.1.set4; go_simp; try with_reducible rfl
          simp only [List.getElem_toArray, List.getElem_cons_zero, List.getElem_cons_succ, Act.put, List.setIfInBounds_toArray, List.set_cons_zero, List.set_cons_succ]
          refine wpM_take (t := 14) (i := 7) (v := ?_) rfl (by kernel_rfl) (by kernel_rfl) (by kernel_rfl) (by kernel_rfl) (fun _ _ _ h => h) (by rfl) (fun w1 hl => ?_) ?_
          rotate_left
          · obtain ⟨hL, hx⟩ := HF.out w1 hl; obtain ⟨⟨y0, y1, y2, y3⟩, _⟩ := hL.1.1.set4; go_simp; try with_reducible rfl
          simp only [List.getElem_toArray, List.getElem_cons_zero, List.getElem_cons_succ, Act.put, List.setIfInBounds_toArray, List.set_cons_zero, List.set_cons_succ]
          refine wpM_one (t := 14) (i := 5) (by kernel_rfl) rfl (fun w1 hl K hK => ?_)
          go_simp
          refine (HBY.out _ (HT2.out _ hl)).mono ?_
          intro e w6 h6
          obtain ⟨a6, cap6, rfl, o6, hb6⟩ := h6
          rw [HNA.out] at o6 ⊢
          refine hK.out _ _ (fun _ => hb6) ?_
          have o7 := o6.slice encB_ok
          have HF2 : Hid (∀ w1, Later w6 w1 → LawsS a b w.heap.size w g (.slice a5 m cap5) L w1 ∧ Tab w1) := Lib.hid fun w7 h7 => ⟨(HF.out w7 (Later.trans _ _ _ hl (Later.trans _ _ _ hb6 h7))).1, HT2.out w7 (Later.trans _ _ _ hl (Later.trans _ _ _ hb6 h7))⟩
          clear hK K
          refine wpM_call (t := 14) (i := 6) (f := ?_) (args := ?_) (v := ?_) rfl (by kernel_rfl) (by kernel_rfl) (by kernel_rfl) (by kernel_rfl) (fun _ _ _ h => h) (by rfl) (fun w1 => ?_) (fun w1 hl => ?_) ?_
          rotate_left 4
          · exact HOF.out _ _ _ (o7.kept hl)
          rotate_left
          · go_simp
          simp only [List.getElem_toArray, List.getElem_cons_zero, List.getElem_cons_succ, Act.put, List.setIfInBounds_toArray, List.set_cons_zero, List.set_cons_succ]
          refine wpM_take (t := 14) (i := 8) (v := ?_) rfl (by kernel_rfl) (by kernel_rfl) (by kernel_rfl) (by kernel_rfl) (fun _ _ _ h => h) (by rfl) (fun w1 hl => ?_) ?_
          rotate_left
          · obtain ⟨hL, _⟩ := HF2.out w1 hl; obtain ⟨⟨y0, y1, y2, y3⟩, _⟩ := hL.1.1.set4; go_simp; try with_reducible rfl
          simp only [List.getElem_toArray, List.getElem_cons_zero, List.getElem_cons_succ, Act.put, List.setIfInBounds_toArray, List.set_cons_zero, List.set_cons_succ]
          refine wpM_take (t := 14) (i := 9) (v := ?_) rfl (by kernel_rfl) (by kernel_rfl) (by kernel_rfl) (by kernel_rfl) (fun _ _ _ h => h) (by rfl) (fun w1 hl => ?_) ?_
          rotate_left
          · obtain ⟨hL, _⟩ := HF2.out w1 hl; obtain ⟨⟨y0, y1, y2, y3⟩, _⟩ := hL.1.1.set4; go_simp; try with_reducible rfl
          simp only [List.getElem_toArray, List.getElem_cons_zero, List.getElem_cons_succ, Act.put, List.setIfInBounds_toArray, List.set_cons_zero, List.set_cons_succ]
          refine wpM_take (t := 14) (i := 10) (v := ?_) rfl (by kernel_rfl) (by kernel_rfl) (by kernel_rfl) (by kernel_rfl) (fun _ _ _ h => h) (by rfl) (fun w1 hl => ?_) ?_
          rotate_left
          · obtain ⟨hL, _⟩ := HF2.out w1 hl; obtain ⟨⟨y0, y1, y2, y3⟩, _⟩ := hL.1.1.set4; go_simp; try with_reducible rfl
          simp only [List.getElem_toArray, List.getElem_cons_zero, List.getElem_cons_succ, Act.put, List.setIfInBounds_toArray, List.set_cons_zero, List.set_cons_succ]
          refine wpM_call (t := 14) (i := 11) (f := ?_) (args := ?_) (v := ?_) rfl (by kernel_rfl) (by kernel_rfl) (by kernel_rfl) (by kernel_rfl) (fun _ _ _ h => h) (by rfl) (fun w1 => ?_) (fun w1 hl => ?_) ?_
          rotate_left 4
          · exact knows02 w1 (HF2.out w1 hl).2
          rotate_left
          · go_simp
          simp only [List.getElem_toArray, List.getElem_cons_zero, List.getElem_cons_succ, Act.put, List.setIfInBounds_toArray, List.set_cons_zero, List.set_cons_succ]
          refine wpM_take (t := 14) (i := 12) (v := ?_) rfl (by kernel_rfl) (by kernel_rfl) (by kernel_rfl) (by kernel_rfl) (fun _ _ _ h => h) (by rfl) (fun w1 hl => ?_) ?_
          rotate_left
          · skip; go_simp; try with_reducible rfl
          simp only [List.getElem_toArray, List.getElem_cons_zero, List.getElem_cons_succ, Act.put, List.setIfInBounds_toArray, List.set_cons_zero, List.set_cons_succ]
          refine wpM_take (t := 14) (i := 13) (v := ?_) rfl (by kernel_rfl) (by kernel_rfl) (by kernel_rfl) (by kernel_rfl) (fun _ _ _ h => h) (by rfl) (fun w1 hl => ?_) ?_
          rotate_left
          · skip; go_simp; try with_reducible rfl
          simp only [List.getElem_toArray, List.getElem_cons_zero, List.getElem_cons_succ, Act.put, List.setIfInBounds_toArray, List.set_cons_zero, List.set_cons_succ]
          refine wpM_done (by kernel_rfl) (fun w1 hl => ?_) _
          go_wp2
          go_ret
          exact ⟨rfl, (HF2.out w1 hl).1.2.2.1⟩
theorem table_SetsLaws {W : World} (h : laidMetH Tryd.prog Rows.setsLawsRow.laid W) : Tab W := tab_of_tabIs (Lib.tabIs_of_head (zs := Lib.deBruijn64tab.map fun (x : Nat) => (x : Int)) (rest := []) gTab gTabType Tryd.underlying77 Tryd.underlying5 (by kernel_rfl) (by kernel_rfl) h)
set_option maxRecDepth 100000 in
theorem contract_SetsLaws (H : Type) (enc : TypeId × Value → H) (W : World) (base : Nat) (args : Array Value) (ds gs : List (DataW H)) (before : List MemPlace)
    (hval0 : ∀ (j : Nat) t v, Tryd.f8.params[j]? = some t → args[j]? = some v → Value.okWide Tryd.prog W .any base t v)
    (hW : DataW.Whole enc Tryd.prog Tryd.f8.params.toList Rows.setsLawsSpec.vars false W args.toList ds gs before) (hL : laidMetH Tryd.prog Rows.setsLawsRow.laid W) :
    Calls Tryd.prog 8 args W fun e W' => ∃ v, e = .returned v ∧ Rows.setsLawsSpec.post enc Tryd.prog Tryd.f8 false true false false W args v W' := by
  have hval : ∀ (j : Nat) t v, Tryd.f8.params[j]? = some t → args[j]? = some v → Value.okWide Tryd.prog W .any base t v := hval0
  have hW' := hW
  have hT := table_SetsLaws hL
  obtain ⟨p, q, hA0, hV, rfl, hfz, hnd⟩ := hW
  have hA : DataW.TrodAll enc Tryd.prog W 0 (fun _ => true) true Tryd.f8.params.toList args.toList ds p := hA0
  rw [Tryd.params8] at hA hval
  obtain ⟨v0, vs0, d0, ds0, p0, q0, hargs, rfl, rfl, h00, r0⟩ := trodAll_cons hA
  obtain ⟨v1, vs1, d1, ds1, p1, q1, rfl, rfl, rfl, h01, r1⟩ := trodAll_cons r0
  obtain ⟨rfl, rfl, rfl⟩ := trodAll_nil r1
  obtain rfl : args = #[v0, v1] := by cases args; simp_all
  obtain ⟨rfl, rfl⟩ := trodVars_none hV
  have k00 := h00
  have lt0 : ∀ x ∈ p0, x.block < W.heap.size := by obtain ⟨m, hm⟩ := k00; exact DataW.trod_lt m _ _ _ hm
  have k01 := h01
  have lt1 : ∀ x ∈ p1, x.block < W.heap.size := by obtain ⟨m, hm⟩ := k01; exact DataW.trod_lt m _ _ _ hm
  obtain ⟨a, rfl⟩ : ∃ s : BSet, v0 = setV s := by
    obtain ⟨fuel, hfu⟩ := h00
    obtain ⟨cs, hcs, _⟩ := okWide_arr Tryd.underlying34 (hval 0 34 v0 rfl rfl)
    subst hcs
    obtain ⟨s, h2⟩ := trod_set Tryd.underlying34 Tryd.underlying32 (by kernel_rfl) (by kernel_rfl) hfu
    exact ⟨s, by rw [show cs = setC s from Array.ext' h2]⟩
  obtain ⟨b, rfl⟩ : ∃ s : BSet, v1 = setV s := by
    obtain ⟨fuel, hfu⟩ := h01
    obtain ⟨cs, hcs, _⟩ := okWide_arr Tryd.underlying34 (hval 1 34 v1 rfl rfl)
    subst hcs
    obtain ⟨s, h2⟩ := trod_set Tryd.underlying34 Tryd.underlying32 (by kernel_rfl) (by kernel_rfl) hfu
    exact ⟨s, by rw [show cs = setC s from Array.ext' h2]⟩
  clear hA0 hval0
  refine (law_SetsLaws a b W hT).mono fun e W' ⟨he, bel⟩ => ?_
  subst he
  exact ⟨_, rfl, _, _, _, [], _, [], hW', trodAll_mk1 (shut_bool Tryd.underlying4 _), (trodAll_cons_mk (Below.trod laidOut (by kernel_rfl) (of_decide_eq_true (by kernel_rfl)) k00 bel lt0) (trodAll_cons_mk (Below.trod laidOut (by kernel_rfl) (of_decide_eq_true (by kernel_rfl)) k01 bel lt1) trodAll_mk0)), rfl, bel.frame _, fun h => by cases h⟩
theorem laid_met_SetsLaws (os : Os) : laidMet Tryd.prog Rows.setsLawsRow.laid ((laidWorld os).forCall (fun _ _ => 0) ⟨#[], #[.agg (Array.replicate 4 (.int .u64 0)), .agg (Array.replicate 4 (.int .u64 0))], []⟩).memory :=
  laidMet_of_run' 8 (by kernel_rfl) (by kernel_rfl)
theorem reads_SetsLaws (os : Os) {H : Type} (enc : TypeId × Value → H) : ∃ places, DataW.whole enc Tryd.prog ((laidWorld os).forCall (fun _ _ => 0) ⟨#[], #[.agg (Array.replicate 4 (.int .u64 0)), .agg (Array.replicate 4 (.int .u64 0))], []⟩).memory Tryd.f8.params.toList Rows.setsLawsSpec.vars false (#[.agg (Array.replicate 4 (.int .u64 0)), .agg (Array.replicate 4 (.int .u64 0))] : Array Value).toList 8 = some ([.agg [.lit (.int .u64 0), .lit (.int .u64 0), .lit (.int .u64 0), .lit (.int .u64 0)], .agg [.lit (.int .u64 0), .lit (.int .u64 0), .lit (.int .u64 0), .lit (.int .u64 0)]], [], places) :=
  ⟨[], by kernel_rfl⟩
set_option maxRecDepth 100000 in
theorem lifted_SetsLaws (os : Os) (started : os.Started) (H : Type) (enc : TypeId × Value → H) (F : Stop.Interp) :
    ReturnsInHanded {} Tryd.checked os 8 .any ((OpenSpec.ofChange Rows.setsLawsSpec).preRow enc Tryd.prog Tryd.f8 Rows.setsLawsRow.domain false Rows.setsLawsRow.laid) (((OpenSpec.ofChange Rows.setsLawsSpec).at F).post enc Tryd.prog Tryd.f8 false true false false) := by
  obtain ⟨places, hx⟩ := reads_SetsLaws os enc
  refine returnsInHanded_of_row (C := Tryd.checked) (s := OpenSpec.ofChange Rows.setsLawsSpec) own started (by kernel_rfl) Tryd.func8
    (witness_row_at (enc := enc) (C := Tryd.checked) false (laidWorld os) #[.agg (Array.replicate 4 (.int .u64 0)), .agg (Array.replicate 4 (.int .u64 0))] rfl (by kernel_rfl) (by kernel_rfl) (by kernel_rfl)
      (OpenSpec.preRow_of_cond 8 hx (by kernel_rfl) (fun k hk => by cases hk) (by kernel_rfl) (laid_met_SetsLaws os))) ?_
  intro W base args ds gs before hval hW _ _ _ hL _ _
  exact contract_SetsLaws H enc W base args ds gs before hval hW hL
theorem said_SetsLaws : Rows.SetsLawsSaid :=
  OpenClaim.holds_of_cond 8 Tryd.f8 rfl rfl rfl rfl rfl rfl rfl ⟨rfl, rfl, rfl, rfl, rfl⟩ rfl rfl rfl rfl rfl (by kernel_rfl) Tryd.func8 (by kernel_rfl)
    (of_decide_eq_true (by kernel_rfl)) (by unfold Func.isWrapper; first | (rw [if_pos (by decide +kernel)]; kernel_rfl) | (rw [if_neg (by decide +kernel)]; exact ⟨rfl, rfl⟩))
    (fun os started H enc _ F => by rw [OpenClaim.pre_eq_preRow]; exact lifted_SetsLaws os started H enc F)
theorem plain_SetsLaws (f : FuncId) (fn : Func) (hf : Tryd.pinned.checked.prog.funcNamed "doublet/doubletlaw02.SetsLaws" = some f) (hfn : Tryd.pinned.checked.prog.funcs[f]? = some fn) :
    false = Tryd.pinned.checked.prog.looks [] ∧ ∀ (j : Nat) t, fn.params[j]? = some t → Tryd.pinned.checked.prog.wantsStandIn t = false := by
  obtain rfl : f = 8 := Option.some.inj ((show Tryd.prog.funcNamed "doublet/doubletlaw02.SetsLaws" = some 8 by kernel_rfl).symm.trans hf) |>.symm
  obtain rfl : fn = Tryd.f8 := (Option.some.inj (Tryd.func8.symm.trans hfn)).symm
  refine ⟨by kernel_rfl, fun j t ht => ?_⟩
  rw [Tryd.params8] at ht
  have hm := Array.mem_of_getElem? ht
  simp only [List.mem_toArray, List.mem_cons, List.not_mem_nil, or_false] at hm
  rcases hm with rfl | rfl
  · exact (show Tryd.prog.wantsStandIn 34 = false by kernel_rfl)
  · exact (show Tryd.prog.wantsStandIn 34 = false by kernel_rfl)
theorem SetsLaws_holds : Rows.SetsLawsCardSaid :=
  Claim7.holds_tied_plain_at .later [] _ _ _ _ said_SetsLaws (fun _ h => by cases h) (by kernel_rfl) (fun _ h => by cases h) setsLaws_row_tie rfl ⟨rfl, rfl⟩ (by kernel_rfl) rfl plain_SetsLaws (by kernel_rfl)
#print axioms SetsLaws_holds
end Go.Proofs.YtinlfbacfmmfpaaDoor
