/- The law SetsJoined returns true for every two sets and every byte, and leaves what it was given as it was. No condition. -/
import Derived.Test.YtinlfbacfmmfpaaDoorSetsMade
import Derived.Deep.DeepCutAuto
namespace Go.Proofs.YtinlfbacfmmfpaaDoor
open Go.ChangeShapes Go.WideShapes Go.ChangeAt Go.RowKit

/-- One step from a world to a later one. -/
def StepB (w w' : World) : Prop := Below w.heap.size w w'
theorem SliceR.step {α : Type} {w w' : World} {v : Value} {size : Nat} {enc : α → List Value} {xs : List α} (h : SliceR w v size enc xs) (hs : StepB w w') : SliceR w' v size enc xs := h.kept hs
theorem SliceR.allocd {α : Type} {w : World} {o : Obj} {v : Value} {size : Nat} {enc : α → List Value} {xs : List α} (h : SliceR w v size enc xs) : SliceR (w.alloc o) v size enc xs := h.kept ((Below.refl _ _).alloc (Nat.le_refl _) _)
theorem SliceR.drewd {α : Type} {w : World} {v : Value} {size : Nat} {enc : α → List Value} {xs : List α} (h : SliceR w v size enc xs) : SliceR w.drew v size enc xs := h.kept (Below.refl _ _).drew
theorem slice_new {α : Type} {enc : α → List Value} {size : Nat} (he : EncOK enc size) (w : World) (E : Nat) (xs : List α) (hm : xs.length ≤ maxLen) : SliceR (w.alloc (.cells (xs.flatMap enc).toArray E)) (.slice (some ⟨w.heap.size, 0, none⟩) xs.length xs.length) size enc xs := by
  refine ⟨_, w.heap.size, 0, _, rfl, Nat.le_refl _, hm, .inl rfl, fun i hi j u hu => ?_⟩
  have hj : j < size := by have := (List.getElem?_eq_some_iff.1 hu).1; rwa [he.len] at this
  rw [(Box.new w _ E).cell, Nat.zero_add]
  simpa [flatMap_get he.len xs i j hi hj] using hu
theorem slice_new2 (w : World) (a b : BSet) (E : Nat) : SliceR (w.alloc (.cells #[.int .u64 (word a 0 : Nat), .int .u64 (word a 1 : Nat), .int .u64 (word a 2 : Nat), .int .u64 (word a 3 : Nat), .int .u64 (word b 0 : Nat), .int .u64 (word b 1 : Nat), .int .u64 (word b 2 : Nat), .int .u64 (word b 3 : Nat)] E)) (.slice (some ⟨w.heap.size, 0, none⟩) 2 2) 4 encS [a, b] :=
  slice_new encS_ok w E [a, b] (by simp [maxLen])
theorem slice_new3 (w : World) (a b c : BSet) (E : Nat) : SliceR (w.alloc (.cells #[.int .u64 (word a 0 : Nat), .int .u64 (word a 1 : Nat), .int .u64 (word a 2 : Nat), .int .u64 (word a 3 : Nat), .int .u64 (word b 0 : Nat), .int .u64 (word b 1 : Nat), .int .u64 (word b 2 : Nat), .int .u64 (word b 3 : Nat), .int .u64 (word c 0 : Nat), .int .u64 (word c 1 : Nat), .int .u64 (word c 2 : Nat), .int .u64 (word c 3 : Nat)] E)) (.slice (some ⟨w.heap.size, 0, none⟩) 3 3) 4 encS [a, b, c] :=
  slice_new encS_ok w E [a, b, c] (by simp [maxLen])
theorem slice_new2' {w : World} {g : Nat} (h : g = w.heap.size) (a b : BSet) (E : Nat) : SliceR (w.alloc (.cells #[.int .u64 (word a 0 : Nat), .int .u64 (word a 1 : Nat), .int .u64 (word a 2 : Nat), .int .u64 (word a 3 : Nat), .int .u64 (word b 0 : Nat), .int .u64 (word b 1 : Nat), .int .u64 (word b 2 : Nat), .int .u64 (word b 3 : Nat)] E)) (.slice (some ⟨g, 0, none⟩) 2 2) 4 encS [a, b] :=
  h ▸ slice_new2 w a b E
theorem slice_new3' {w : World} {g : Nat} (h : g = w.heap.size) (a b c : BSet) (E : Nat) : SliceR (w.alloc (.cells #[.int .u64 (word a 0 : Nat), .int .u64 (word a 1 : Nat), .int .u64 (word a 2 : Nat), .int .u64 (word a 3 : Nat), .int .u64 (word b 0 : Nat), .int .u64 (word b 1 : Nat), .int .u64 (word b 2 : Nat), .int .u64 (word b 3 : Nat), .int .u64 (word c 0 : Nat), .int .u64 (word c 1 : Nat), .int .u64 (word c 2 : Nat), .int .u64 (word c 3 : Nat)] E)) (.slice (some ⟨g, 0, none⟩) 3 3) 4 encS [a, b, c] :=
  h ▸ slice_new3 w a b c E
theorem fold2 (a b : BSet) : [a, b].foldl (· ||| ·) 0 = a ||| b := set_ext fun c _ => by simp [mem_or]
theorem fold3 (a b : BSet) : [a, b, a].foldl (· ||| ·) 0 = a ||| b := set_ext fun c _ => by
  simp only [List.foldl_cons, List.foldl_nil, mem_or, mem_zero]
  cases mem a c <;> simp
/-- The cells of two sets, each in its block. -/
def TwoAt (a b : BSet) (g : Nat) (w : World) : Prop := Box w g (setC a) 34 ∧ Box w (g + 1) (setC b) 34
theorem TwoAt.cells {a b : BSet} {g : Nat} {w : World} (h : TwoAt a b g w) : (w.cell? ⟨g, 0, none⟩ = some (.int .u64 (word a 0 : Nat)) ∧ w.cell? ⟨g, 1, none⟩ = some (.int .u64 (word a 1 : Nat)) ∧ w.cell? ⟨g, 2, none⟩ = some (.int .u64 (word a 2 : Nat)) ∧ w.cell? ⟨g, 3, none⟩ = some (.int .u64 (word a 3 : Nat))) ∧
    (w.cell? ⟨g + 1, 0, none⟩ = some (.int .u64 (word b 0 : Nat)) ∧ w.cell? ⟨g + 1, 1, none⟩ = some (.int .u64 (word b 1 : Nat)) ∧ w.cell? ⟨g + 1, 2, none⟩ = some (.int .u64 (word b 2 : Nat)) ∧ w.cell? ⟨g + 1, 3, none⟩ = some (.int .u64 (word b 3 : Nat))) := ⟨h.1.set4.1, h.2.set4.1⟩
theorem TwoAt.kept {a b : BSet} {g : Nat} {w w' : World} (h : TwoAt a b g w) (hb : Below w.heap.size w w') : TwoAt a b g w' := ⟨h.1.kept hb, h.2.kept hb⟩
set_option maxRecDepth 20000 in
set_option maxHeartbeats 3200000 in
theorem law_SetsJoined (a b : BSet) (c : Nat) (w : World) (hc : c < 256) (hT : Tab w) :
    Calls Tryd.prog 7 #[setV a, setV b, .int .u8 c] w (Ret w (.bool true)) := by
  have hq := eqS_self
  have hq0 := eqS_self 0
  rw [setC_zero] at hq0
  have hq0' := Lib.hid hq0
  have u2 : ∀ ad cap w, SliceR w (.slice ad 2 cap) 4 encS [a, b] → Calls Tryd.prog 35 #[.slice ad 2 cap] w (Ret w (setV (a ||| b))) := fun ad cap w h => by have := sets_Union ad cap [a, b] w h; rwa [fold2] at this
  have u3 : ∀ ad cap w, SliceR w (.slice ad 3 cap) 4 encS [a, b, a] → Calls Tryd.prog 35 #[.slice ad 3 cap] w (Ret w (setV (a ||| b))) := fun ad cap w h => by have := sets_Union ad cap [a, b, a] w h; rwa [fold3] at this
  have u0 : ∀ w, Calls Tryd.prog 35 #[.slice none 0 0] w (Ret w (.agg #[.int .u64 0, .int .u64 0, .int .u64 0, .int .u64 0])) := fun w => by
    have := sets_Union none 0 [] w ⟨none, 0, 0, 0, rfl, Nat.le_refl _, by simp [maxLen], .inr ⟨rfl, fun _ => rfl⟩, fun i hi => by simp at hi⟩
    rw [List.foldl_nil, setV, setC_zero] at this; exact this
  have t0 := fun w => ref_Two0 a b w
  have t1 := fun w => ref_Two1 a b w
  have t2 := fun w => ref_Two2 a b w
  rw [twoS_or] at t0
  rw [twoS_and] at t1
  rw [twoS_less] at t2
  have m1 := fun w => sets_Meet a b w
  have m2 := fun w => sets_Less a b w
  have n1 := fun w => sets_Not a w
  have n2 := fun w => ref_Not a w
  have p1 := fun w => sets_Has a c w hc
  have p2 := fun w => ref_Has a c w hc
  generalize a ||| b = s1 at *
  generalize a &&& b = s2 at *
  generalize a &&& ~~~b = s3 at *
  generalize ~~~a = s4 at *
  generalize mem a c = x at *
  have U2 := Lib.hid u2
  have U3 := Lib.hid u3
  have U0 := Lib.hid u0
  have T0 := Lib.hid t0
  have T1 := Lib.hid t1
  have T2 := Lib.hid t2
  have M1 := Lib.hid m1
  have M2 := Lib.hid m2
  have N1 := Lib.hid n1
  have N2 := Lib.hid n2
  have P1 := Lib.hid p1
  have P2 := Lib.hid p2
  have HT := Lib.hid hT
  clear u2 u3 u0 t0 t1 t2 m1 m2 n1 n2 p1 p2 hT hq0
  have HK : Hid (∀ w1 w2, ((w1.cell? ⟨w.heap.size, 0, none⟩ = some (.int .u64 (word a 0 : Nat)) ∧ w1.cell? ⟨w.heap.size, 1, none⟩ = some (.int .u64 (word a 1 : Nat)) ∧ w1.cell? ⟨w.heap.size, 2, none⟩ = some (.int .u64 (word a 2 : Nat)) ∧ w1.cell? ⟨w.heap.size, 3, none⟩ = some (.int .u64 (word a 3 : Nat))) ∧ (w1.cell? ⟨w.heap.size + 1, 0, none⟩ = some (.int .u64 (word b 0 : Nat)) ∧ w1.cell? ⟨w.heap.size + 1, 1, none⟩ = some (.int .u64 (word b 1 : Nat)) ∧ w1.cell? ⟨w.heap.size + 1, 2, none⟩ = some (.int .u64 (word b 2 : Nat)) ∧ w1.cell? ⟨w.heap.size + 1, 3, none⟩ = some (.int .u64 (word b 3 : Nat))) ∧ TwoAt a b w.heap.size w1 ∧ Below w.heap.size w w1) → Below w1.heap.size w1 w2 → ((w2.cell? ⟨w.heap.size, 0, none⟩ = some (.int .u64 (word a 0 : Nat)) ∧ w2.cell? ⟨w.heap.size, 1, none⟩ = some (.int .u64 (word a 1 : Nat)) ∧ w2.cell? ⟨w.heap.size, 2, none⟩ = some (.int .u64 (word a 2 : Nat)) ∧ w2.cell? ⟨w.heap.size, 3, none⟩ = some (.int .u64 (word a 3 : Nat))) ∧ (w2.cell? ⟨w.heap.size + 1, 0, none⟩ = some (.int .u64 (word b 0 : Nat)) ∧ w2.cell? ⟨w.heap.size + 1, 1, none⟩ = some (.int .u64 (word b 1 : Nat)) ∧ w2.cell? ⟨w.heap.size + 1, 2, none⟩ = some (.int .u64 (word b 2 : Nat)) ∧ w2.cell? ⟨w.heap.size + 1, 3, none⟩ = some (.int .u64 (word b 3 : Nat))) ∧ TwoAt a b w.heap.size w2 ∧ Below w.heap.size w w2)) := Lib.hid fun w1 w2 ⟨_, _, h3, h4⟩ hb => ⟨(h3.kept hb).cells.1, (h3.kept hb).cells.2, h3.kept hb, h4.trans (hb.mono h4.size)⟩
  go_enter Tryd.func7, Tryd.ntmps7
  go_upto_region 1 with fail
  have hbx : TwoAt a b w.heap.size ((w.alloc (.cells (setC a) 34)).alloc (.cells (setC b) 34)) := ⟨(Box.new' rfl _ _).alloc _, Box.new' (by simp) _ _⟩
  have hB : Below w.heap.size w ((w.alloc (.cells (setC a) 34)).alloc (.cells (setC b) 34)) := by go_grown
  generalize (w.alloc (.cells (setC a) 34)).alloc (.cells (setC b) 34) = W at *
  have H0 : Hid ((W.cell? ⟨w.heap.size, 0, none⟩ = some (.int .u64 (word a 0 : Nat)) ∧ W.cell? ⟨w.heap.size, 1, none⟩ = some (.int .u64 (word a 1 : Nat)) ∧ W.cell? ⟨w.heap.size, 2, none⟩ = some (.int .u64 (word a 2 : Nat)) ∧ W.cell? ⟨w.heap.size, 3, none⟩ = some (.int .u64 (word a 3 : Nat))) ∧ (W.cell? ⟨w.heap.size + 1, 0, none⟩ = some (.int .u64 (word b 0 : Nat)) ∧ W.cell? ⟨w.heap.size + 1, 1, none⟩ = some (.int .u64 (word b 1 : Nat)) ∧ W.cell? ⟨w.heap.size + 1, 2, none⟩ = some (.int .u64 (word b 2 : Nat)) ∧ W.cell? ⟨w.heap.size + 1, 3, none⟩ = some (.int .u64 (word b 3 : Nat))) ∧ TwoAt a b w.heap.size W ∧ Below w.heap.size w W) := Lib.hid ⟨hbx.cells.1, hbx.cells.2, hbx, hB⟩
  have H1 : Hid ((W.drew.cell? ⟨w.heap.size, 0, none⟩ = some (.int .u64 (word a 0 : Nat)) ∧ W.drew.cell? ⟨w.heap.size, 1, none⟩ = some (.int .u64 (word a 1 : Nat)) ∧ W.drew.cell? ⟨w.heap.size, 2, none⟩ = some (.int .u64 (word a 2 : Nat)) ∧ W.drew.cell? ⟨w.heap.size, 3, none⟩ = some (.int .u64 (word a 3 : Nat))) ∧ (W.drew.cell? ⟨w.heap.size + 1, 0, none⟩ = some (.int .u64 (word b 0 : Nat)) ∧ W.drew.cell? ⟨w.heap.size + 1, 1, none⟩ = some (.int .u64 (word b 1 : Nat)) ∧ W.drew.cell? ⟨w.heap.size + 1, 2, none⟩ = some (.int .u64 (word b 2 : Nat)) ∧ W.drew.cell? ⟨w.heap.size + 1, 3, none⟩ = some (.int .u64 (word b 3 : Nat))) ∧ TwoAt a b w.heap.size W.drew ∧ Below w.heap.size w W.drew) := Lib.hid ⟨hbx.cells.1, hbx.cells.2, hbx, hB.drew⟩
  clear hbx hB
  go_cut [39] (fun s39 wx => s39 = .bool false ∧ (wx.cell? ⟨w.heap.size, 0, none⟩ = some (.int .u64 (word a 0 : Nat)) ∧ wx.cell? ⟨w.heap.size, 1, none⟩ = some (.int .u64 (word a 1 : Nat)) ∧ wx.cell? ⟨w.heap.size, 2, none⟩ = some (.int .u64 (word a 2 : Nat)) ∧ wx.cell? ⟨w.heap.size, 3, none⟩ = some (.int .u64 (word a 3 : Nat))) ∧ (wx.cell? ⟨w.heap.size + 1, 0, none⟩ = some (.int .u64 (word b 0 : Nat)) ∧ wx.cell? ⟨w.heap.size + 1, 1, none⟩ = some (.int .u64 (word b 1 : Nat)) ∧ wx.cell? ⟨w.heap.size + 1, 2, none⟩ = some (.int .u64 (word b 2 : Nat)) ∧ wx.cell? ⟨w.heap.size + 1, 3, none⟩ = some (.int .u64 (word b 3 : Nat))) ∧ TwoAt a b w.heap.size wx ∧ Below w.heap.size w wx)
  case first =>
    go_region_held3 (fun w' => (w'.cell? ⟨w.heap.size, 0, none⟩ = some (.int .u64 (word a 0 : Nat)) ∧ w'.cell? ⟨w.heap.size, 1, none⟩ = some (.int .u64 (word a 1 : Nat)) ∧ w'.cell? ⟨w.heap.size, 2, none⟩ = some (.int .u64 (word a 2 : Nat)) ∧ w'.cell? ⟨w.heap.size, 3, none⟩ = some (.int .u64 (word a 3 : Nat))) ∧ (w'.cell? ⟨w.heap.size + 1, 0, none⟩ = some (.int .u64 (word b 0 : Nat)) ∧ w'.cell? ⟨w.heap.size + 1, 1, none⟩ = some (.int .u64 (word b 1 : Nat)) ∧ w'.cell? ⟨w.heap.size + 1, 2, none⟩ = some (.int .u64 (word b 2 : Nat)) ∧ w'.cell? ⟨w.heap.size + 1, 3, none⟩ = some (.int .u64 (word b 3 : Nat))) ∧ TwoAt a b w.heap.size w' ∧ Below w.heap.size w w') (first | exact H1.out | exact HK.out _ _ (by assumption) hb | exact HK.out _ _ (by assumption) ((Below.refl _ _).alloc (Nat.le_refl _) _)) (first | (go_at_call 35; (with_reducible refine (U2.out _ _ _ (by repeat (first | (refine slice_new2' ?_ _ _ _; simp; done) | (refine slice_new3' ?_ _ _ _ _; simp; done) | refine SliceR.drewd ?_ | refine SliceR.allocd ?_ | refine SliceR.step ?_ (by assumption)))).mono ?_); rintro e w1 ⟨rfl, hb⟩; have hs : StepB _ w1 := hb) | (go_at_call 36; (with_reducible refine (T0.out _).mono ?_); rintro e w1 ⟨rfl, hb⟩; have hs : StepB _ w1 := hb) | (go_at_call 36; (with_reducible refine (T1.out _).mono ?_); rintro e w1 ⟨rfl, hb⟩; have hs : StepB _ w1 := hb) | (go_at_call 36; (with_reducible refine (T2.out _).mono ?_); rintro e w1 ⟨rfl, hb⟩; have hs : StepB _ w1 := hb) | (go_at_call 33; (with_reducible refine (M1.out _).mono ?_); rintro e w1 ⟨rfl, hb⟩; have hs : StepB _ w1 := hb) | (go_at_call 37; (with_reducible refine (M2.out _).mono ?_); rintro e w1 ⟨rfl, hb⟩; have hs : StepB _ w1 := hb) | (go_at_call 38; (with_reducible refine (N1.out _).mono ?_); rintro e w1 ⟨rfl, hb⟩; have hs : StepB _ w1 := hb) | (go_at_call 39; (with_reducible refine (N2.out _).mono ?_); rintro e w1 ⟨rfl, hb⟩; have hs : StepB _ w1 := hb))
    all_goals
      go_wp2_with fail
      go_meet
      exact ⟨rfl, by assumption⟩
  case rest =>
    obtain ⟨rfl, hS⟩ := hcut
    have H2 : Hid ((wc.drew.cell? ⟨w.heap.size, 0, none⟩ = some (.int .u64 (word a 0 : Nat)) ∧ wc.drew.cell? ⟨w.heap.size, 1, none⟩ = some (.int .u64 (word a 1 : Nat)) ∧ wc.drew.cell? ⟨w.heap.size, 2, none⟩ = some (.int .u64 (word a 2 : Nat)) ∧ wc.drew.cell? ⟨w.heap.size, 3, none⟩ = some (.int .u64 (word a 3 : Nat))) ∧ (wc.drew.cell? ⟨w.heap.size + 1, 0, none⟩ = some (.int .u64 (word b 0 : Nat)) ∧ wc.drew.cell? ⟨w.heap.size + 1, 1, none⟩ = some (.int .u64 (word b 1 : Nat)) ∧ wc.drew.cell? ⟨w.heap.size + 1, 2, none⟩ = some (.int .u64 (word b 2 : Nat)) ∧ wc.drew.cell? ⟨w.heap.size + 1, 3, none⟩ = some (.int .u64 (word b 3 : Nat))) ∧ TwoAt a b w.heap.size wc.drew ∧ Below w.heap.size w wc.drew) := Lib.hid ⟨hS.2.2.1.cells.1, hS.2.2.1.cells.2, hS.2.2.1, hS.2.2.2.drew⟩
    have KN : Hid (∀ w1, ((w1.cell? ⟨w.heap.size, 0, none⟩ = some (.int .u64 (word a 0 : Nat)) ∧ w1.cell? ⟨w.heap.size, 1, none⟩ = some (.int .u64 (word a 1 : Nat)) ∧ w1.cell? ⟨w.heap.size, 2, none⟩ = some (.int .u64 (word a 2 : Nat)) ∧ w1.cell? ⟨w.heap.size, 3, none⟩ = some (.int .u64 (word a 3 : Nat))) ∧ (w1.cell? ⟨w.heap.size + 1, 0, none⟩ = some (.int .u64 (word b 0 : Nat)) ∧ w1.cell? ⟨w.heap.size + 1, 1, none⟩ = some (.int .u64 (word b 1 : Nat)) ∧ w1.cell? ⟨w.heap.size + 1, 2, none⟩ = some (.int .u64 (word b 2 : Nat)) ∧ w1.cell? ⟨w.heap.size + 1, 3, none⟩ = some (.int .u64 (word b 3 : Nat))) ∧ TwoAt a b w.heap.size w1 ∧ Below w.heap.size w w1) → Calls Tryd.prog 24 #[] w1 (Ret w1 (.bool true))) := Lib.hid fun w1 h => knows02 w1 (HT.out.kept h.2.2.2)
    have hxx : (x == x) = true := by simp
    have hw1 : wrap64 (c : Int) = (c : Int) := w64 c (by omega)
    have hw2 : IntKind.i64.wrap (c : Int) = (c : Int) := IntWalk.i64_in _ (by omega)
    have hq1 := hq0'.out
    clear hS
    go_wp2_with fail
    go_region_held3 (fun w' => (w'.cell? ⟨w.heap.size, 0, none⟩ = some (.int .u64 (word a 0 : Nat)) ∧ w'.cell? ⟨w.heap.size, 1, none⟩ = some (.int .u64 (word a 1 : Nat)) ∧ w'.cell? ⟨w.heap.size, 2, none⟩ = some (.int .u64 (word a 2 : Nat)) ∧ w'.cell? ⟨w.heap.size, 3, none⟩ = some (.int .u64 (word a 3 : Nat))) ∧ (w'.cell? ⟨w.heap.size + 1, 0, none⟩ = some (.int .u64 (word b 0 : Nat)) ∧ w'.cell? ⟨w.heap.size + 1, 1, none⟩ = some (.int .u64 (word b 1 : Nat)) ∧ w'.cell? ⟨w.heap.size + 1, 2, none⟩ = some (.int .u64 (word b 2 : Nat)) ∧ w'.cell? ⟨w.heap.size + 1, 3, none⟩ = some (.int .u64 (word b 3 : Nat))) ∧ TwoAt a b w.heap.size w' ∧ Below w.heap.size w w') (first | exact H2.out | exact HK.out _ _ (by assumption) hb | exact HK.out _ _ (by assumption) ((Below.refl _ _).alloc (Nat.le_refl _) _)) (first | (go_at_call 34; (with_reducible refine (P1.out _).mono ?_); rintro e w1 ⟨rfl, hb⟩; have hs : StepB _ w1 := hb) | (go_at_call 40; (try simp only [hw1, hw2]); (with_reducible refine (P2.out _).mono ?_); rintro e w1 ⟨rfl, hb⟩; have hs : StepB _ w1 := hb) | (go_at_call 35; (with_reducible refine (U2.out _ _ _ (by repeat (first | (refine slice_new2' ?_ _ _ _; simp; done) | (refine slice_new3' ?_ _ _ _ _; simp; done) | refine SliceR.drewd ?_ | refine SliceR.allocd ?_ | refine SliceR.step ?_ (by assumption)))).mono ?_); rintro e w1 ⟨rfl, hb⟩; have hs : StepB _ w1 := hb) | (go_at_call 35; (with_reducible refine (U3.out _ _ _ (by repeat (first | (refine slice_new2' ?_ _ _ _; simp; done) | (refine slice_new3' ?_ _ _ _ _; simp; done) | refine SliceR.drewd ?_ | refine SliceR.allocd ?_ | refine SliceR.step ?_ (by assumption)))).mono ?_); rintro e w1 ⟨rfl, hb⟩; have hs : StepB _ w1 := hb) | (go_at_call 35; (with_reducible refine (U0.out _).mono ?_); rintro e w1 ⟨rfl, hb⟩; have hs : StepB _ w1 := hb) | (go_at_call 24; (with_reducible refine (KN.out _ (by assumption)).mono ?_); rintro e w1 ⟨rfl, hb⟩; have hs : StepB _ w1 := hb))
    all_goals
      rename_i hS
      obtain ⟨_, _, _, hB⟩ := hS
      go_wp2
      go_ret
      exact ⟨rfl, hB⟩
theorem table_SetsJoined {W : World} (h : laidMetH Tryd.prog Rows.setsJoinedRow.laid W) : Tab W := tab_of_tabIs (Lib.tabIs_of_head (zs := Lib.deBruijn64tab.map fun (x : Nat) => (x : Int)) (rest := []) gTab gTabType Tryd.underlying77 Tryd.underlying5 (by kernel_rfl) (by kernel_rfl) h)
set_option maxRecDepth 100000 in
theorem contract_SetsJoined (H : Type) (enc : TypeId × Value → H) (W : World) (base : Nat) (args : Array Value) (ds gs : List (DataW H)) (before : List MemPlace)
    (hval0 : ∀ (j : Nat) t v, Tryd.f7.params[j]? = some t → args[j]? = some v → Value.okWide Tryd.prog W .any base t v)
    (hW : DataW.Whole enc Tryd.prog Tryd.f7.params.toList Rows.setsJoinedSpec.vars false W args.toList ds gs before) (hL : laidMetH Tryd.prog Rows.setsJoinedRow.laid W) :
    Calls Tryd.prog 7 args W fun e W' => ∃ v, e = .returned v ∧ Rows.setsJoinedSpec.post enc Tryd.prog Tryd.f7 false true false false W args v W' := by
  have hval : ∀ (j : Nat) t v, Tryd.f7.params[j]? = some t → args[j]? = some v → Value.okWide Tryd.prog W .any base t v := hval0
  have hW' := hW
  have hT := table_SetsJoined hL
  obtain ⟨p, q, hA0, hV, rfl, hfz, hnd⟩ := hW
  have hA : DataW.TrodAll enc Tryd.prog W 0 (fun _ => true) true Tryd.f7.params.toList args.toList ds p := hA0
  rw [Tryd.params7] at hA hval
  obtain ⟨v0, vs0, d0, ds0, p0, q0, hargs, rfl, rfl, h00, r0⟩ := trodAll_cons hA
  obtain ⟨v1, vs1, d1, ds1, p1, q1, rfl, rfl, rfl, h01, r1⟩ := trodAll_cons r0
  obtain ⟨v2, vs2, d2, ds2, p2, q2, rfl, rfl, rfl, h02, r2⟩ := trodAll_cons r1
  obtain ⟨rfl, rfl, rfl⟩ := trodAll_nil r2
  obtain rfl : args = #[v0, v1, v2] := by cases args; simp_all
  obtain ⟨rfl, rfl⟩ := trodVars_none hV
  have k00 := h00
  have lt0 : ∀ x ∈ p0, x.block < W.heap.size := by obtain ⟨m, hm⟩ := k00; exact DataW.trod_lt m _ _ _ hm
  have k01 := h01
  have lt1 : ∀ x ∈ p1, x.block < W.heap.size := by obtain ⟨m, hm⟩ := k01; exact DataW.trod_lt m _ _ _ hm
  have k02 := h02
  have lt2 : ∀ x ∈ p2, x.block < W.heap.size := by obtain ⟨m, hm⟩ := k02; exact DataW.trod_lt m _ _ _ hm
  obtain ⟨a, rfl⟩ : ∃ s : BSet, v0 = setV s := by
    obtain ⟨fuel, hfu⟩ := h00
    obtain ⟨cs, hcs, _⟩ := okWide_arr Tryd.underlying34 (hval 0 34 v0 rfl rfl)
    subst hcs
    obtain ⟨s, h2⟩ := trod_set Tryd.underlying34 Tryd.underlying32 (by kernel_rfl) (by kernel_rfl) hfu
    exact ⟨s, by rw [show cs = setC s from Array.ext' h2]⟩
  obtain ⟨b, rfl⟩ : ∃ s : BSet, v1 = setV s := by
    obtain ⟨fuel, hfu⟩ := h01
    obtain ⟨cs, hcs, _⟩ := okWide_arr Tryd.underlying34 (hval 1 34 v1 rfl rfl)
    subst hcs
    obtain ⟨s, h2⟩ := trod_set Tryd.underlying34 Tryd.underlying32 (by kernel_rfl) (by kernel_rfl) hfu
    exact ⟨s, by rw [show cs = setC s from Array.ext' h2]⟩
  obtain ⟨c, rfl, hc⟩ : ∃ n : Nat, v2 = .int .u8 n ∧ n < 256 := by
    obtain ⟨fuel, hfu⟩ := h02
    obtain ⟨z0, rfl⟩ := okWide_int Tryd.underlying5 (hval 2 5 v2 rfl rfl)
    obtain ⟨z, hz1, _, hz2⟩ := DataW.trod_int Tryd.underlying5 hfu
    simp [Value.cells] at hz1
    subst hz1
    obtain ⟨n, rfl, hn⟩ := wf_u8 hz2
    exact ⟨n, rfl, hn⟩
  clear hA0 hval0
  refine (law_SetsJoined a b c W hc hT).mono fun e W' ⟨he, bel⟩ => ?_
  subst he
  exact ⟨_, rfl, _, _, _, [], _, [], hW', trodAll_mk1 (shut_bool Tryd.underlying4 _), (trodAll_cons_mk (Below.trod laidOut (by kernel_rfl) (of_decide_eq_true (by kernel_rfl)) k00 bel lt0) (trodAll_cons_mk (Below.trod laidOut (by kernel_rfl) (of_decide_eq_true (by kernel_rfl)) k01 bel lt1) (trodAll_cons_mk (Below.trod laidOut (by kernel_rfl) (of_decide_eq_true (by kernel_rfl)) k02 bel lt2) trodAll_mk0))), rfl, bel.frame _, fun h => by cases h⟩
theorem laid_met_SetsJoined (os : Os) : laidMet Tryd.prog Rows.setsJoinedRow.laid ((laidWorld os).forCall (fun _ _ => 0) ⟨#[], #[.agg (Array.replicate 4 (.int .u64 0)), .agg (Array.replicate 4 (.int .u64 0)), .int .u8 0], []⟩).memory :=
  laidMet_of_run' 8 (by kernel_rfl) (by kernel_rfl)
theorem reads_SetsJoined (os : Os) {H : Type} (enc : TypeId × Value → H) : ∃ places, DataW.whole enc Tryd.prog ((laidWorld os).forCall (fun _ _ => 0) ⟨#[], #[.agg (Array.replicate 4 (.int .u64 0)), .agg (Array.replicate 4 (.int .u64 0)), .int .u8 0], []⟩).memory Tryd.f7.params.toList Rows.setsJoinedSpec.vars false (#[.agg (Array.replicate 4 (.int .u64 0)), .agg (Array.replicate 4 (.int .u64 0)), .int .u8 0] : Array Value).toList 8 = some ([.agg [.lit (.int .u64 0), .lit (.int .u64 0), .lit (.int .u64 0), .lit (.int .u64 0)], .agg [.lit (.int .u64 0), .lit (.int .u64 0), .lit (.int .u64 0), .lit (.int .u64 0)], .lit (.int .u8 0)], [], places) :=
  ⟨[], by kernel_rfl⟩
set_option maxRecDepth 100000 in
theorem lifted_SetsJoined (os : Os) (started : os.Started) (H : Type) (enc : TypeId × Value → H) (F : Stop.Interp) :
    ReturnsInHanded {} Tryd.checked os 7 .any ((OpenSpec.ofChange Rows.setsJoinedSpec).preRow enc Tryd.prog Tryd.f7 Rows.setsJoinedRow.domain false Rows.setsJoinedRow.laid) (((OpenSpec.ofChange Rows.setsJoinedSpec).at F).post enc Tryd.prog Tryd.f7 false true false false) := by
  obtain ⟨places, hx⟩ := reads_SetsJoined os enc
  refine returnsInHanded_of_row (C := Tryd.checked) (s := OpenSpec.ofChange Rows.setsJoinedSpec) own started (by kernel_rfl) Tryd.func7
    (witness_row_at (enc := enc) (C := Tryd.checked) false (laidWorld os) #[.agg (Array.replicate 4 (.int .u64 0)), .agg (Array.replicate 4 (.int .u64 0)), .int .u8 0] rfl (by kernel_rfl) (by kernel_rfl) (by kernel_rfl)
      (OpenSpec.preRow_of_cond 8 hx (by kernel_rfl) (fun k hk => by cases hk) (by kernel_rfl) (laid_met_SetsJoined os))) ?_
  intro W base args ds gs before hval hW _ _ _ hL _ _
  exact contract_SetsJoined H enc W base args ds gs before hval hW hL
theorem said_SetsJoined : Rows.SetsJoinedSaid :=
  OpenClaim.holds_of_cond 7 Tryd.f7 rfl rfl rfl rfl rfl rfl rfl ⟨rfl, rfl, rfl, rfl, rfl⟩ rfl rfl rfl rfl rfl (by kernel_rfl) Tryd.func7 (by kernel_rfl)
    (of_decide_eq_true (by kernel_rfl)) (by unfold Func.isWrapper; first | (rw [if_pos (by decide +kernel)]; kernel_rfl) | (rw [if_neg (by decide +kernel)]; exact ⟨rfl, rfl⟩))
    (fun os started H enc _ F => by rw [OpenClaim.pre_eq_preRow]; exact lifted_SetsJoined os started H enc F)
theorem plain_SetsJoined (f : FuncId) (fn : Func) (hf : Tryd.pinned.checked.prog.funcNamed "doublet/doubletlaw02.SetsJoined" = some f) (hfn : Tryd.pinned.checked.prog.funcs[f]? = some fn) :
    false = Tryd.pinned.checked.prog.looks [] ∧ ∀ (j : Nat) t, fn.params[j]? = some t → Tryd.pinned.checked.prog.wantsStandIn t = false := by
  obtain rfl : f = 7 := Option.some.inj ((show Tryd.prog.funcNamed "doublet/doubletlaw02.SetsJoined" = some 7 by kernel_rfl).symm.trans hf) |>.symm
  obtain rfl : fn = Tryd.f7 := (Option.some.inj (Tryd.func7.symm.trans hfn)).symm
  refine ⟨by kernel_rfl, fun j t ht => ?_⟩
  rw [Tryd.params7] at ht
  have hm := Array.mem_of_getElem? ht
  simp only [List.mem_toArray, List.mem_cons, List.not_mem_nil, or_false] at hm
  rcases hm with rfl | rfl | rfl
  · exact (show Tryd.prog.wantsStandIn 34 = false by kernel_rfl)
  · exact (show Tryd.prog.wantsStandIn 34 = false by kernel_rfl)
  · exact (show Tryd.prog.wantsStandIn 5 = false by kernel_rfl)
theorem SetsJoined_holds : Rows.SetsJoinedCardSaid :=
  Claim7.holds_tied_plain_at .later [] _ _ _ _ said_SetsJoined (fun _ h => by cases h) (by kernel_rfl) (fun _ h => by cases h) setsJoined_row_tie rfl ⟨rfl, rfl⟩ (by kernel_rfl) rfl plain_SetsJoined (by kernel_rfl)
#print axioms SetsJoined_holds
end Go.Proofs.YtinlfbacfmmfpaaDoor
