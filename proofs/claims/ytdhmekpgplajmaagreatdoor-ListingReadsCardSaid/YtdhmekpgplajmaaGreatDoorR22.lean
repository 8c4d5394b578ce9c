/- Joined by tools/merge.py: RLineB, RLineC, RLineD, RLineE, RLineF. -/
import Derived.Test.YtdhmekpgplajmaaGreatDoorR21
import Derived.Test.YtdhmekpgplajmaaGreatDoorR3
import Derived.Test.YtdhmekpgplajmaaGreatDoorR19x
section
namespace Go.Proofs.YtdhmekpgplajmaaGreatDoor
open Go.RowKit
theorem sl_one {α : Type} {enc : α → List Value} {w : World} {b c size : Nat} {y : α} (h : SliceR w (.slice (some ⟨b, 0, none⟩) 1 c) size enc [y]) : ∀ j u, (enc y)[j]? = some u → w.cell? ((⟨b, 0, none⟩ : Addr).add j) = some u := fun j u hu => by
  obtain ⟨a, b', o, cap, hv, _, _, ha, hx⟩ := h
  obtain ⟨rfl, _, _⟩ := Value.slice.inj hv
  have e : (⟨b, 0, none⟩ : Addr).add j = ⟨b, j, none⟩ := by rw [Addr.add_lit]; simp
  rcases ha with ha | ⟨ha, _⟩
  · simp only [Option.some.injEq, Addr.mk.injEq] at ha
    obtain ⟨rfl, rfl, _⟩ := ha
    have := hx 0 (by simp) j u hu
    rw [e]
    simpa using this
  · cases ha
/-- A name more. -/
theorem RdR.names_append {w w' w2 : World} {r base : Nat} {V : VDfa} {t : BSet} {D : PDfa} {a' : Option Addr} {n' cap' : Nat} {x : List UInt8} (h : RdR w r base V t D) (hr : r < base) (hg : w.grownBy w' (Value.slice V.ma V.mn V.mc).ownBlock)
    (ho : Own w' base 9 1 encT (.slice a' n' cap') (D.names ++ [x])) (hl : Below w'.heap.size w' w2) : RdR (w2.setCell ⟨r, 259, none⟩ (.slice a' n' cap')) r base { V with ma := a', mn := n', mc := cap' } t { D with names := D.names ++ [x] } := by
  obtain ⟨rows, h1, h2, h3⟩ := h.nxt
  refine ⟨?_, h.of, h.width, ((h.lab.grownT h.nam hg (by decide)).kept hl).other _ _ hr, (ho.kept hl).other _ _ hr, rows, ((h1.grownT h.nam hg (by decide)).kept hl).other _ _ hr, h2, fun i p q => ⟨(((h3 i p q).1.grownT h.nam hg (by decide)).kept hl).other _ _ hr, (h3 i p q).2⟩⟩
  rw [← rcells_names V t a' n' cap']
  exact ((h.box.grownT h.nam hg (by decide)).kept hl).set 259 _
theorem KeptR.grown {α : Type} {r base E size : Nat} {w w' : World} {enc : α → List Value} {v : Value} {xs : List α} (h : Own w base E size enc v xs) (hg : w.grownBy w' v.ownBlock) (hr : r ≤ base) (hw : r ≤ w.heap.size) : KeptR r base w w' :=
  ⟨below_grown (Below.refl _ _) h hg hr hw, KeepC.grown h hg (fun _ hb => .inr hb), KeepsOthers.grownOwn h hg⟩
theorem if_pos_wanted {b : Bool} {A B : Prop} (hb : b = true) (h : A) : if b = true then A else B := by rw [if_pos hb]; exact h
/-- The post of a line's rest, where a panic says nothing of the temporaries. -/
def CalmQ (Dd r base : Nat) (w : World) (A : Option (PDfa × BSet)) : Exit → Act → World → Prop
  | .panic c, a, W => a.defers = [{ target := .collected Dd, args := #[] }] ∧ A = none ∧ c = oddC ∧ KeptR r base w W ∧ W.heap[Dd]? = some (.deferred (some []))
  | e, a, W => bodyPostM Fence.wide 0 Tryz.prog Tryz.f20 (RetLine r base w A) e a W
theorem line_calm {Dd r base : Nat} {w W : World} {A : Option (PDfa × BSet)} {z : Code} {a : Act} (hD : w.heap.size ≤ Dd) (hr : r ≤ w.heap.size) (h : z.wp Tryz.prog (CalmQ Dd r base w A) a W) : z.wp Tryz.prog (bodyPostM Fence.wide 0 Tryz.prog Tryz.f20 (RetLine r base w A)) a W :=
  Code.wp_mono (fun e a W => by
    cases e with
    | panic c =>
      rintro ⟨hd, rfl, rfl, hk, hdd⟩
      obtain ⟨tmps, ds⟩ := a
      obtain rfl : ds = _ := hd
      exact line_panic hD hr hk hdd
    | _ => exact id) h
set_option maxRecDepth 20000 in
set_option maxHeartbeats 3200000 in
theorem line_name (r base : Nat) (V : VDfa) (t : BSet) (D : PDfa) (s : List UInt8) (w : World) (h : RdR w r base V t D) (hT : Tab w) (hM : MaxL w) (hrb : r < base) (hbw : base ≤ w.heap.size) (hs : s.length < 4294967281) (hcn : D.names.length ≤ 4294967296) (w1 w2 : List UInt8) (rest : List (List UInt8)) (hn : splitL 32 s = [110, 97, 109, 101] :: w1 :: w2 :: rest) :
    Calls Tryz.prog 20 #[.pointer (some ⟨r, 0, none⟩), sv s] w (RetLine r base w (stepL D t s)) := by
  have hr : r ≤ w.heap.size := by omega
  have hst : stepL D t s = some ({ D with names := D.names ++ [w2] }, t) := by
    unfold stepL
    rw [hn, lineW_cons, if_neg (by decide), if_pos rfl]
  rw [hst]
  clear hst
  refine line_words r s w hM (by omega) hs _ ?_
  intro Dd W g hD hdd hw z hz
  obtain ⟨x, y, hz⟩ := hz
  cases hz
  obtain ⟨a, cap, hS⟩ := LSt.start (base := base) h hT hr hw hdd
  rw [hn] at hS
  obtain ⟨hc1, hc2⟩ := hS.caps
  obtain ⟨g, rfl, hcell⟩ := hS.word (by simp)
  have hw0 := fun W' h' => hcell W' h' 0 (by simp)
  have hw2 := fun W' h' => hcell W' h' 2 (by simp)
  simp only [List.getElem_cons_zero, List.getElem_cons_succ] at hw0 hw2
  have hlen3 : 3 ≤ ([110, 97, 109, 101] :: w1 :: w2 :: rest).length := by simp
  generalize ([110, 97, 109, 101] :: w1 :: w2 :: rest) = ws at *
  have e1 : decide (3 ≤ (ws.length : Int)) = true := by simp; omega
  have e3 : (2 : Int) < (ws.length : Int) := by omega
  have c0 := hS.box.cell 0
  have HS := Lib.hid hS
  have H0 := Lib.hid hw0
  have H2 := Lib.hid hw2
  clear hS hw hdd h hT hM hs hcell hw0 hw2 hn
  refine line_calm hD hr ?_
  simp only [Array.replicate_succ, Array.replicate_zero, List.push_toArray, List.append_toArray, List.nil_append, List.cons_append]
  go_wp2_with (go_at_call_of 17 ((Value.bool true)); refine (must_yes _).mono ?_; rintro e w3 ⟨rfl, hB3⟩; have hS3 := HS.out.kept hr hB3; have c3 := hS3.box.cell 0; have d0 := H0.out _ hS3)
  have HF : Hid (∀ v, Later w3.drew v → LSt w r base Dd (some ⟨g, 0, none⟩) cap ws V t D v) := Lib.hid fun v hl => (hS3.kept hr (Below.refl _ _).drew).kept hr hl
  clear hS3 c3 d0 c0 HS
  refine wp_region_T (R := Later) [10, 14] (by kernel_rfl) ?_
  refine tpT 0 ?_ rfl (fun w1 => ?_) ?_
  rotate_left
  · go_simp; try with_reducible rfl
  simp only [eA, eB, Act.put, eD, eE, eF]
  refine tpT 1 ?_ rfl (fun w1 => ?_) ?_
  rotate_left
  · go_simp; try with_reducible rfl
  simp only [eA, eB, eC, Act.put, eD, eE, eF]
  refine tpT 2 ?_ rfl (fun w1 => ?_) ?_
  rotate_left
  · go_simp; try with_reducible rfl
  simp only [eA, eB, eC, Act.put, eD, eE, eF]
  refine tpT 3 ?_ rfl (fun w1 => ?_) ?_
  rotate_left
  · go_simp; try with_reducible rfl
  simp only [eA, eB, eC, Act.put, eD, eE, eF]
  refine tpT 4 ?_ rfl (fun w1 => ?_) ?_
  rotate_left
  · go_simp; try with_reducible rfl
  simp only [eA, eB, eC, Act.put, eD, eE, eF]
  refine tkT 5 ?_ rfl (fun w1 hl => ?_) ?_
  rotate_left
  · have hS := HF.out w1 hl; have x0 := hS.rd.box.reader.2.2.2; have c0 := hS.box.cell 0; have d2 := H2.out w1 hS; go_simp; try with_reducible rfl
  simp only [eA, eB, eC, Act.put, eD, eE, eF]
  refine tkT 6 ?_ rfl (fun w1 hl => ?_) ?_
  rotate_left
  · have hS := HF.out w1 hl; have x0 := hS.rd.box.reader.2.2.2; have c0 := hS.box.cell 0; have d2 := H2.out w1 hS; go_simp; try with_reducible rfl
  simp only [eA, eB, eC, Act.put, eD, eE, eF]
  refine tpT 7 ?_ rfl (fun w1 => ?_) ?_
  rotate_left
  · go_simp; try with_reducible rfl
  simp only [eA, eB, eC, Act.put, eD, eE, eF]
  refine tkT 8 ?_ rfl (fun w1 hl => ?_) ?_
  rotate_left
  · have hS := HF.out w1 hl; have x0 := hS.rd.box.reader.2.2.2; have c0 := hS.box.cell 0; have d2 := H2.out w1 hS; go_simp; try with_reducible rfl
  simp only [eA, eB, eC, Act.put, eD, eE, eF]
  refine wpT_one (T := [10, 14]) (i := 9) (by kernel_rfl) rfl (fun w1 hl K hK => ?_)
  go_simp
  refine hK.out _ _ (fun _ => later_alloc _ _) ?_
  have hsl := sl_new encT_ok w1 9 [w2] (by simp [maxLen])
  have hlA : Later _ (w1.alloc (.cells #[sv w2] 9)) := Later.trans _ _ _ hl (later_alloc _ _)
  clear hK K hl
  refine wpT_one (T := [10, 14]) (i := 10) (by kernel_rfl) rfl (fun w1 hl K hK => ?_)
  have hS := HF.out w1 (Later.trans _ _ _ hlA hl)
  have hnw := sl_one (hsl.kept hl)
  have hsw := hS.kp.others.size
  clear hsl hl hlA
  refine if_pos_wanted (by rfl) ?_
  refine wp_append1F _ _ 26 rfl elem_str encT_ok rfl hS.rd.nam _ 1 w2 rfl hnw (by simp [maxLen]; omega) (by omega) (by omega) ?_
  intro a' cap' w' hown' hg _
  refine hK.out _ _ (fun h => absurd h (by decide)) ?_
  clear hK K hnw
  simp only [List.getElem_toArray, List.getElem_cons_zero, List.getElem_cons_succ, Act.put, List.setIfInBounds_toArray, List.set_cons_zero, List.set_cons_succ]
  have hX0 := hS.rd.box.grownT hS.rd.nam hg (by decide)
  have hK0 := hS.kp.trans (KeptR.grown hS.rd.nam hg (Nat.le_of_lt hrb) (by omega))
  have hd0 := (KeepsOthers.grownOwn hS.rd.nam hg).same _ _ hS.dd rfl
  refine tpT 11 ?_ rfl (fun w1 => ?_) ?_
  rotate_left
  · go_simp; try with_reducible rfl
  simp only [eA, eB, eC, Act.put, eD, eE, eF]
  refine tpT 12 ?_ rfl (fun w1 => ?_) ?_
  rotate_left
  · go_simp; try with_reducible rfl
  simp only [eA, eB, eC, Act.put, eD, eE, eF]
  refine tpT 13 ?_ rfl (fun w1 => ?_) ?_
  rotate_left
  · go_simp; try with_reducible rfl
  simp only [eA, eB, eC, Act.put, eD, eE, eF]
  refine wpT_one (T := [10, 14]) (i := 14) (by kernel_rfl) rfl (fun w1 hl K hK => ?_)
  have hx := hX0.kept hl
  have x0 := hx.reader.2.2.2
  have f0 := hx.free 259
  go_simp
  refine hK.out _ _ (fun h => absurd h (by decide)) ?_
  clear hK K x0 f0
  have hRN := hS.rd.names_append hrb hg hown' hl
  have hKN := (hK0.trans (KeptR.below (Nat.le_of_lt hX0.lt) hl)).trans (KeptR.set (base := base) w1 259 (.slice a' (D.names.length + 1) cap'))
  have hdN := (KeepsOthers.setCell w1 ⟨r, 259, none⟩ (.slice a' (D.names.length + 1) cap')).same _ _ ((hl.block Dd (Array.getElem?_eq_some_iff.1 hd0).1).trans hd0) rfl
  clear hl hx hX0 hK0 hd0 hS hg hown'
  refine wpT_done (by kernel_rfl) (fun w1 hl => ?_) _
  have hRN := hRN.kept hl
  have hKN := hKN.trans (KeptR.below (by have := hRN.box.lt; have := hl.size; have := hKN.others.size; omega) hl)
  have hdN := (hl.block Dd (Array.getElem?_eq_some_iff.1 hdN).1).trans hdN
  go_wp2
  exact line_done (.inl rfl) hD hr hRN hKN hdN
end Go.Proofs.YtdhmekpgplajmaaGreatDoor
end
section
namespace Go.Proofs.YtdhmekpgplajmaaGreatDoor
open Go.RowKit
theorem numT_le {s : List UInt8} {k : Nat} (h : numT s = some k) : k ≤ 65536 := by
  unfold numT at h
  split at h
  · rename_i hf
    exact valD_le 65536 s 0 k (formD_digits hf) (by decide) (by decide) h
  · cases h
set_option maxRecDepth 20000 in
set_option maxHeartbeats 3200000 in
theorem line_class (r base : Nat) (V : VDfa) (t : BSet) (D : PDfa) (s : List UInt8) (w : World) (h : RdR w r base V t D) (hT : Tab w) (hM : MaxL w) (hrb : r < base) (hbw : base ≤ w.heap.size) (hs : s.length < 4294967281) (hrT : 1 ≠ r) (x1 x2 : List UInt8) (rest : List (List UInt8)) (hn : splitL 32 s = [99, 108, 97, 115, 115] :: x1 :: x2 :: rest) :
    Calls Tryz.prog 20 #[.pointer (some ⟨r, 0, none⟩), sv s] w (RetLine r base w (stepL D t s)) := by
  have hr : r ≤ w.heap.size := by omega
  obtain ⟨A, hA⟩ : ∃ A, stepL D t s = A := ⟨_, rfl⟩
  rw [hA]
  unfold stepL at hA
  rw [hn, lineW_cons, if_neg (by decide), if_neg (by decide), if_pos rfl] at hA
  have HA := Lib.hid hA
  clear hA
  refine line_words r s w hM (by omega) hs _ ?_
  intro Dd W g hD hdd hw z hz
  obtain ⟨x, y, hz⟩ := hz
  cases hz
  obtain ⟨a, cap, hS⟩ := LSt.start (base := base) h hT hr hw hdd
  have hl1 : x1.length ≤ 9223372036854775807 := by have := (splitL_length 32 s).2 x1 (by rw [hn]; simp); omega
  have hl2 : x2.length ≤ 9223372036854775807 := by have := (splitL_length 32 s).2 x2 (by rw [hn]; simp); omega
  rw [hn] at hS
  obtain ⟨hc1, hc2⟩ := hS.caps
  obtain ⟨g, rfl, hcell⟩ := hS.word (by simp)
  have hw0 := fun W' h' => hcell W' h' 0 (by simp)
  have hw1 := fun W' h' => hcell W' h' 1 (by simp)
  have hw2 := fun W' h' => hcell W' h' 2 (by simp)
  simp only [List.getElem_cons_zero, List.getElem_cons_succ] at hw0 hw1 hw2
  have hlen3 : 3 ≤ ([99, 108, 97, 115, 115] :: x1 :: x2 :: rest).length := by simp
  generalize ([99, 108, 97, 115, 115] :: x1 :: x2 :: rest) = ws at *
  have e1 : decide (3 ≤ (ws.length : Int)) = true := by simp; omega
  have e3 : (2 : Int) < (ws.length : Int) := by omega
  have e4 : (1 : Int) < (ws.length : Int) := by omega
  have c0 := hS.box.cell 0
  have HS := Lib.hid hS
  have H0 := Lib.hid hw0
  have H1 := Lib.hid hw1
  have H2 := Lib.hid hw2
  have hN1 := fun w => list_number x1 w hl1
  have HN1 := Lib.hid hN1
  have HL2 := Lib.hid hl2
  clear hS hw hdd h hT hM hs hcell hw0 hw1 hw2 hn hN1 hl1 hl2
  refine line_calm hD hr ?_
  simp only [Array.replicate_succ, Array.replicate_zero, List.push_toArray, List.append_toArray, List.nil_append, List.cons_append]
  go_wp2_with (go_at_call_of 17 ((Value.bool true)); refine (must_yes _).mono ?_; rintro e w3 ⟨rfl, hB3⟩; have hS3 := HS.out.kept hr hB3; have c3 := hS3.box.cell 0; have d0 := H0.out _ hS3)
  have HF : Hid (∀ v, Later w3.drew v → LSt w r base Dd (some ⟨g, 0, none⟩) cap ws V t D v) := Lib.hid fun v hl => (hS3.kept hr (Below.refl _ _).drew).kept hr hl
  clear hS3 c3 d0 c0 HS
  refine wp_region_M (R := Later) 8 (by kernel_rfl) ?_
  refine tkM 0 ?_ rfl (fun w1 hl => ?_) ?_
  rotate_left
  · have hS := HF.out w1 hl; have c0 := hS.box.cell 0; have d1 := H1.out w1 hS; have d2 := H2.out w1 hS; go_simp; try with_reducible rfl
  simp only [eA, eB, Act.put, eD, eE, eF]
  refine tkM 1 ?_ rfl (fun w1 hl => ?_) ?_
  rotate_left
  · have hS := HF.out w1 hl; have c0 := hS.box.cell 0; have d1 := H1.out w1 hS; have d2 := H2.out w1 hS; go_simp; try with_reducible rfl
  simp only [eA, eB, eC, Act.put, eD, eE, eF]
  refine tkM 2 ?_ rfl (fun w1 hl => ?_) ?_
  rotate_left
  · have hS := HF.out w1 hl; have c0 := hS.box.cell 0; have d1 := H1.out w1 hS; have d2 := H2.out w1 hS; go_simp; try with_reducible rfl
  simp only [eA, eB, eC, Act.put, eD, eE, eF]
  refine tkM 3 ?_ rfl (fun w1 hl => ?_) ?_
  rotate_left
  · have hS := HF.out w1 hl; have c0 := hS.box.cell 0; have d1 := H1.out w1 hS; have d2 := H2.out w1 hS; go_simp; try with_reducible rfl
  simp only [eA, eB, eC, Act.put, eD, eE, eF]
  refine tkM 5 ?_ rfl (fun w1 hl => ?_) ?_
  rotate_left
  · have hS := HF.out w1 hl; have c0 := hS.box.cell 0; have d1 := H1.out w1 hS; have d2 := H2.out w1 hS; go_simp; try with_reducible rfl
  simp only [eA, eB, eC, Act.put, eD, eE, eF]
  refine tkM 6 ?_ rfl (fun w1 hl => ?_) ?_
  rotate_left
  · have hS := HF.out w1 hl; have c0 := hS.box.cell 0; have d1 := H1.out w1 hS; have d2 := H2.out w1 hS; go_simp; try with_reducible rfl
  simp only [eA, eB, eC, Act.put, eD, eE, eF]
  refine tkM 7 ?_ rfl (fun w1 hl => ?_) ?_
  rotate_left
  · have hS := HF.out w1 hl; have c0 := hS.box.cell 0; have d1 := H1.out w1 hS; have d2 := H2.out w1 hS; go_simp; try with_reducible rfl
  simp only [eA, eB, eC, Act.put, eD, eE, eF]
  refine wpM_one (t := 8) (i := 4) (by kernel_rfl) rfl (fun w1 hl K hK => ?_)
  have hS4 := HF.out w1 hl
  cases ho1 : numT x1 with
  | none =>
    obtain rfl : A = none := by rw [← HA.out, ho1]
    rw [ho1] at HN1
    go_simp
    refine (HN1.out _).mono ?_
    rintro e w4 ⟨rfl, hB4⟩
    have hS5 := hS4.kept hr hB4
    exact ⟨rfl, rfl, rfl, hS5.kp, hS5.dd⟩
  | some k =>
    have hk := numT_le ho1
    rw [ho1] at HN1
    have hA2 : classL D t k x2 = A := by rw [← HA.out, ho1]
    go_simp
    refine (HN1.out _).mono ?_
    rintro e w4 ⟨rfl, hB4⟩
    have hS5 := hS4.kept hr hB4
    refine hK.out _ _ (fun _ => hB4) ?_
    clear hK K hS4 hl hB4
    refine wpM_one (t := 8) (i := 8) (by kernel_rfl) rfl (fun w1 hl K hK => ?_)
    have hS6 := hS5.kept hr hl
    cases A with
    | none =>
      go_simp
      refine (reader_class_no r base k V t D x2 w1 hS6.rd hS6.tab hA2 HL2.out (by omega)).mono ?_
      rintro e w6 ⟨rfl, hB6⟩
      have hS7 := hS6.kept hr hB6
      exact ⟨rfl, rfl, rfl, hS7.kp, hS7.dd⟩
    | some A =>
      obtain ⟨D', t'⟩ := A
      have hsw := hS6.kp.others.size
      go_simp
      refine (reader_class_yes r base k V t D x2 w1 hS6.rd hS6.tab hrT hrb (by omega) D' t' hA2 HL2.out (by omega)).mono ?_
      rintro e w6 ⟨rfl, ⟨V', hR6⟩, hk6⟩
      refine hK.out _ _ (fun h => absurd rfl h) ?_
      clear hK K
      have hK6 := hS6.kp.trans hk6
      have hd6 := hk6.others.same _ _ hS6.dd rfl
      clear hl
      refine wpM_done (by kernel_rfl) (fun w1 hl => ?_) _
      go_wp2
      exact line_done (.inl rfl) hD hr (hR6.kept hl) (hK6.trans (KeptR.below (Nat.le_of_lt hR6.box.lt) hl)) ((hl.block Dd (Array.getElem?_eq_some_iff.1 hd6).1).trans hd6)
set_option maxRecDepth 20000 in
set_option maxHeartbeats 3200000 in
theorem line_other (r base : Nat) (V : VDfa) (t : BSet) (D : PDfa) (s : List UInt8) (w : World) (h : RdR w r base V t D) (hT : Tab w) (hM : MaxL w) (hrb : r < base) (hbw : base ≤ w.heap.size) (hs : s.length < 4294967281) (w0 : List UInt8) (x1 x2 : List UInt8) (rest : List (List UInt8)) (h1 : w0 ≠ [109, 97, 99, 104, 105, 110, 101]) (h2 : w0 ≠ [110, 97, 109, 101]) (h3 : w0 ≠ [99, 108, 97, 115, 115]) (h4 : w0 ≠ [115, 116, 97, 116, 101]) (hn : splitL 32 s = w0 :: x1 :: x2 :: rest) :
    Calls Tryz.prog 20 #[.pointer (some ⟨r, 0, none⟩), sv s] w (RetLine r base w none) := by
  have hr : r ≤ w.heap.size := by omega
  refine line_words r s w hM (by omega) hs _ ?_
  intro Dd W g hD hdd hw z hz
  obtain ⟨x, y, hz⟩ := hz
  cases hz
  obtain ⟨a, cap, hS⟩ := LSt.start (base := base) h hT hr hw hdd
  have hl1 : x1.length ≤ 9223372036854775807 := by have := (splitL_length 32 s).2 x1 (by rw [hn]; simp); omega
  have hl2 : x2.length ≤ 9223372036854775807 := by have := (splitL_length 32 s).2 x2 (by rw [hn]; simp); omega
  rw [hn] at hS
  obtain ⟨hc1, hc2⟩ := hS.caps
  obtain ⟨g, rfl, hcell⟩ := hS.word (by simp)
  have hw0 := fun W' h' => hcell W' h' 0 (by simp)
  simp only [List.getElem_cons_zero] at hw0
  have hlen3 : 3 ≤ (w0 :: x1 :: x2 :: rest).length := by simp
  generalize (w0 :: x1 :: x2 :: rest) = ws at *
  have e1 : decide (3 ≤ (ws.length : Int)) = true := by simp; omega
  have e3 : (2 : Int) < (ws.length : Int) := by omega
  have e4 : (1 : Int) < (ws.length : Int) := by omega
  have c0 := hS.box.cell 0
  have HS := Lib.hid hS
  have H0 := Lib.hid hw0
  have q1 : (w0 == [109, 97, 99, 104, 105, 110, 101]) = false := beq_eq_false_iff_ne.2 h1
  have q2 : (w0 == [110, 97, 109, 101]) = false := beq_eq_false_iff_ne.2 h2
  have q3 : (w0 == [99, 108, 97, 115, 115]) = false := beq_eq_false_iff_ne.2 h3
  have q4 : (w0 == [115, 116, 97, 116, 101]) = false := beq_eq_false_iff_ne.2 h4
  clear h1 h2 h3 h4
  clear hS hw hdd h hT hM hs hcell hw0 hn hl1 hl2
  refine line_calm hD hr ?_
  simp only [Array.replicate_succ, Array.replicate_zero, List.push_toArray, List.append_toArray, List.nil_append, List.cons_append]
  go_wp2_with (go_at_call_of 17 ((Value.bool true)); refine (must_yes _).mono ?_; rintro e w3 ⟨rfl, hB3⟩; have hS3 := HS.out.kept hr hB3; have c3 := hS3.box.cell 0; have d0 := H0.out _ hS3)
  go_wp2_with (go_at_call_of 17 ((Value.bool false)); refine (must_no _).mono ?_; rintro e w4 ⟨rfl, hB4⟩; have hS4 := hS3.kept hr hB4)
  exact ⟨rfl, rfl, rfl, hS4.kp, hS4.dd⟩
end Go.Proofs.YtdhmekpgplajmaaGreatDoor
end
section
namespace Go.Proofs.YtdhmekpgplajmaaGreatDoor
open Go.RowKit
/-- A label more. -/
theorem RdR.label_append {w w' w2 : World} {r base : Nat} {V : VDfa} {t : BSet} {D : PDfa} {a' : Option Addr} {n' cap' : Nat} {x : Int} (h : RdR w r base V t D) (hr : r < base) (hg : w.grownBy w' V.lv.ownBlock)
    (ho : Own w' base 3 1 encI (.slice a' n' cap') (D.label ++ [x])) (hfr : (Value.slice a' n' cap').ownBlock = V.lv.ownBlock ∨ (Value.slice a' n' cap').ownBlock = some w.heap.size) (hl : Below w'.heap.size w' w2) :
    RdR (w2.setCell ⟨r, 258, none⟩ (.slice a' n' cap')) r base { V with la := a', ln := n', lc := cap' } t { D with label := D.label ++ [x] } := by
  obtain ⟨rows, h1, h2, h3⟩ := h.nxt
  refine ⟨?_, h.of, h.width, (ho.kept hl).other _ _ hr, ((h.nam.grownT h.lab hg (by decide)).kept hl).other _ _ hr, rows, ((h1.grownT h.lab hg (by decide)).kept hl).other _ _ hr, h2, fun i p q => ⟨(((h3 i p q).1.grownNe hg (fun k hk e => (h3 i p q).2 k hk e)).kept hl).other _ _ hr, fun k hk e => ?_⟩⟩
  · rw [← rcells_label V t a' n' cap']
    exact ((h.box.grownT h.lab hg (by decide)).kept hl).set 258 _
  · rcases hfr with h4 | h4
    · exact (h3 i p q).2 k hk (h4.symm.trans e)
    · obtain ⟨_, cur, hb⟩ := (h3 i p q).1.block k hk
      have h5 : some k = some w.heap.size := e.symm.trans h4
      have := hb.lt
      cases h5
      omega
/-- A row more. -/
theorem RdR.next_append {w w' w2 : World} {r base : Nat} {V : VDfa} {t : BSet} {D : PDfa} {a' : Option Addr} {n' cap' : Nat} {rows : List (Option Addr × Nat × Nat)} {x : Option Addr × Nat × Nat} {l : List Int} (h : RdR w r base V t D) (hr : r < base)
    (h1 : Own w base 25 1 encR (.slice V.na V.nn V.nc) rows) (h2 : rows.length = D.next.length)
    (h3 : ∀ i (h1 : i < rows.length) (h2 : i < D.next.length), Own w base 3 1 encI (rowV rows[i]) D.next[i] ∧ ∀ k, (rowV rows[i]).ownBlock = some k → V.lv.ownBlock ≠ some k)
    (hg : w.grownBy w' (Value.slice V.na V.nn V.nc).ownBlock) (ho : Own w' base 25 1 encR (.slice a' n' cap') (rows ++ [x])) (hx : Own w base 3 1 encI (rowV x) l) (hxl : ∀ k, (rowV x).ownBlock = some k → V.lv.ownBlock ≠ some k) (hl : Below w'.heap.size w' w2) :
    RdR (w2.setCell ⟨r, 257, none⟩ (.slice a' n' cap')) r base { V with na := a', nn := n', nc := cap' } t { D with next := D.next ++ [l] } := by
  refine ⟨?_, h.of, h.width, ((h.lab.grownT h1 hg (by decide)).kept hl).other _ _ hr, ((h.nam.grownT h1 hg (by decide)).kept hl).other _ _ hr, rows ++ [x], (ho.kept hl).other _ _ hr, by simp [h2], fun i p q => ?_⟩
  · rw [← rcells_next V t a' n' cap']
    exact ((h.box.grownT h1 hg (by decide)).kept hl).set 257 _
  · by_cases hi : i < rows.length
    · have e1 : (rows ++ [x])[i] = rows[i] := List.getElem_append_left hi
      have e2 : (D.next ++ [l])[i] = D.next[i]'(by omega) := List.getElem_append_left (by omega)
      rw [e1, e2]
      exact ⟨(((h3 i hi (by omega)).1.grownT h1 hg (by decide)).kept hl).other _ _ hr, (h3 i hi (by omega)).2⟩
    · obtain rfl : i = rows.length := by simp at p; omega
      have e1 : (rows ++ [x])[rows.length] = x := by simp
      have e2 : (D.next ++ [l])[rows.length]'(by simp; omega) = l := by simp [h2]
      rw [e1, e2]
      exact ⟨((hx.grownT h1 hg (by decide)).kept hl).other _ _ hr, hxl⟩
theorem rowN_take {rest : List (List UInt8)} {j : Nat} (hj : j < rest.length) {l : List Int} (h : rowN (rest.take j) = some l) (v : Nat) (hv : numT rest[j] = some v) : rowN (rest.take (j + 1)) = some (l ++ [(v : Int)]) := by
  induction rest generalizing j l with
  | nil => simp at hj
  | cons x r ih =>
    cases j with
    | zero =>
      simp only [List.take_zero, rowN, Option.some.injEq] at h
      subst h
      simp only [List.getElem_cons_zero] at hv
      simp [rowN, hv]
    | succ j =>
      simp only [List.getElem_cons_succ] at hv
      simp only [List.take_succ_cons, rowN] at h ⊢
      cases hx : numT x with
      | none => rw [hx] at h; cases h
      | some u =>
        rw [hx] at h
        dsimp only at h ⊢
        cases hr : rowN (r.take j) with
        | none => rw [hr] at h; cases h
        | some l2 =>
          rw [hr] at h
          simp only [Option.map_some, Option.some.injEq] at h
          subst h
          rw [ih (by simpa using hj) hr hv]
          rfl
theorem rowN_none {rest : List (List UInt8)} : ∀ {j : Nat} (hj : j < rest.length), numT rest[j] = none → rowN rest = none := by
  induction rest with
  | nil => intro j hj; simp at hj
  | cons x r ih =>
    intro j hj hv
    cases j with
    | zero => simp only [List.getElem_cons_zero] at hv; simp [rowN, hv]
    | succ j =>
      simp only [List.getElem_cons_succ] at hv
      have := ih (by simpa using hj) hv
      unfold rowN
      rw [this]
      cases numT x <;> rfl
theorem rowN_length {rest : List (List UInt8)} : ∀ {l : List Int}, rowN rest = some l → l.length = rest.length := by
  induction rest with
  | nil => intro l h; cases h; rfl
  | cons x r ih =>
    intro l h
    unfold rowN at h
    cases hx : numT x with
    | none => rw [hx] at h; cases h
    | some u =>
      rw [hx] at h
      dsimp only at h
      cases hr : rowN r with
      | none => rw [hr] at h; cases h
      | some l2 => rw [hr] at h; cases h; simp [ih hr]
end Go.Proofs.YtdhmekpgplajmaaGreatDoor
end
section
namespace Go.Proofs.YtdhmekpgplajmaaGreatDoor
open Go.RowKit
/-- The row so far. -/
def RowI (w1 : World) (rest : List (List UInt8)) (i row : Value) (wr : World) : Prop :=
  ∃ (j : Nat) (l : List Int) (a' : Option Addr) (c' : Nat), j ≤ rest.length ∧ i = .int .i64 j ∧ row = .slice a' l.length c' ∧ Own wr w1.heap.size 3 1 encI (.slice a' l.length c') l ∧ rowN (rest.take j) = some l ∧ Below w1.heap.size w1 wr
set_option maxRecDepth 20000 in
set_option maxHeartbeats 3200000 in
theorem line_state (r base : Nat) (V : VDfa) (t : BSet) (D : PDfa) (s : List UInt8) (w : World) (h : RdR w r base V t D) (hT : Tab w) (hM : MaxL w) (hrb : r < base) (hbw : base ≤ w.heap.size) (hs : s.length < 4294967281) (hrT : 1 < r) (hcl : D.label.length ≤ 4294967296) (hcx : D.next.length ≤ 4294967296) (x1 x2 : List UInt8) (rest : List (List UInt8)) (hn : splitL 32 s = [115, 116, 97, 116, 101] :: x1 :: x2 :: rest) :
    Calls Tryz.prog 20 #[.pointer (some ⟨r, 0, none⟩), sv s] w (RetLine r base w (stepL D t s)) := by
  have hr : r ≤ w.heap.size := by omega
  obtain ⟨A, hA⟩ : ∃ A, stepL D t s = A := ⟨_, rfl⟩
  rw [hA]
  unfold stepL at hA
  rw [hn, lineW_cons, if_neg (by decide), if_neg (by decide), if_neg (by decide), if_pos rfl] at hA
  have HA := Lib.hid hA
  clear hA
  have hwl := (splitL_length 32 s).1
  rw [hn] at hwl
  refine line_words r s w hM (by omega) hs _ ?_
  intro Dd W g hD hdd hw z hz
  obtain ⟨x, y, hz⟩ := hz
  cases hz
  obtain ⟨a, cap, hS⟩ := LSt.start (base := base) h hT hr hw hdd
  have hl1 : x1.length ≤ 9223372036854775807 := by have := (splitL_length 32 s).2 x1 (by rw [hn]; simp); omega
  have hl2 : x2.length ≤ 9223372036854775807 := by have := (splitL_length 32 s).2 x2 (by rw [hn]; simp); omega
  rw [hn] at hS
  obtain ⟨hc1, hc2⟩ := hS.caps
  obtain ⟨g, rfl, hcell⟩ := hS.word (by simp)
  have hw0 := fun W' h' => hcell W' h' 0 (by simp)
  have hw2 := fun W' h' => hcell W' h' 2 (by simp)
  simp only [List.getElem_cons_zero, List.getElem_cons_succ] at hw0 hw2
  have hlen3 : 3 ≤ ([115, 116, 97, 116, 101] :: x1 :: x2 :: rest).length := by simp
  have hwe : ∀ i (hi : i < rest.length) (h3 : 3 + i < ([115, 116, 97, 116, 101] :: x1 :: x2 :: rest).length), ([115, 116, 97, 116, 101] :: x1 :: x2 :: rest)[3 + i] = rest[i] := fun i hi h3 => by rw [List.getElem_cons, dif_neg (by omega)]; rw [List.getElem_cons, dif_neg (by omega)]; rw [List.getElem_cons, dif_neg (by omega)]; congr 1; omega
  have hwn : ([115, 116, 97, 116, 101] :: x1 :: x2 :: rest).length = 3 + rest.length := by simp; omega
  have hl3 : ∀ i (hi : i < rest.length), rest[i].length ≤ 9223372036854775807 := fun i hi => by have := (splitL_length 32 s).2 rest[i] (by rw [hn]; simp); omega
  generalize ([115, 116, 97, 116, 101] :: x1 :: x2 :: rest) = ws at *
  have e1 : decide (3 ≤ (ws.length : Int)) = true := by simp; omega
  have e3 : (2 : Int) < (ws.length : Int) := by omega
  have e4 : (1 : Int) < (ws.length : Int) := by omega
  have c0 := hS.box.cell 0
  have HS := Lib.hid hS
  have H0 := Lib.hid hw0
  have H2 := Lib.hid hw2
  have hN2 := fun w => list_number x2 w hl2
  have hN3 := fun i hi w => list_number rest[i] w (hl3 i hi)
  have HN2 := Lib.hid hN2
  have HN3 := Lib.hid hN3
  have HWE := Lib.hid hwe
  have HWN := Lib.hid hwn
  have HWL := Lib.hid hwl
  clear hS hw hdd h hT hM hcell hw0 hw2 hn hN2 hN3 hl1 hl2 hl3 hwe hwn hwl
  refine line_calm hD hr ?_
  simp only [Array.replicate_succ, Array.replicate_zero, List.push_toArray, List.append_toArray, List.nil_append, List.cons_append]
  go_wp2_with (go_at_call_of 17 ((Value.bool true)); refine (must_yes _).mono ?_; rintro e w3 ⟨rfl, hB3⟩; have hS3 := HS.out.kept hr hB3; have c3 := hS3.box.cell 0; have d0 := H0.out _ hS3)
  have HF : Hid (∀ v, Later w3.drew v → LSt w r base Dd (some ⟨g, 0, none⟩) cap ws V t D v) := Lib.hid fun v hl => (hS3.kept hr (Below.refl _ _).drew).kept hr hl
  clear hS3 c3 d0 c0 HS
  refine wp_region_T (R := Later) [11, 15] (by kernel_rfl) ?_
  refine tpT 0 ?_ rfl (fun w1 => ?_) ?_
  rotate_left
  · go_simp; try with_reducible rfl
  simp only [eA, eB, Act.put, eD, eE, eF]
  refine tpT 1 ?_ rfl (fun w1 => ?_) ?_
  rotate_left
  · go_simp; try with_reducible rfl
  simp only [eA, eB, eC, Act.put, eD, eE, eF]
  refine tpT 2 ?_ rfl (fun w1 => ?_) ?_
  rotate_left
  · go_simp; try with_reducible rfl
  simp only [eA, eB, eC, Act.put, eD, eE, eF]
  refine tpT 3 ?_ rfl (fun w1 => ?_) ?_
  rotate_left
  · go_simp; try with_reducible rfl
  simp only [eA, eB, eC, Act.put, eD, eE, eF]
  refine tpT 4 ?_ rfl (fun w1 => ?_) ?_
  rotate_left
  · go_simp; try with_reducible rfl
  simp only [eA, eB, eC, Act.put, eD, eE, eF]
  refine tkT 5 ?_ rfl (fun w1 hl => ?_) ?_
  rotate_left
  · have hS := HF.out w1 hl; have x0 := hS.rd.box.reader.2.2.1; have c0 := hS.box.cell 0; have d2 := H2.out w1 hS; go_simp; try with_reducible rfl
  simp only [eA, eB, eC, Act.put, eD, eE, eF]
  refine tkT 6 ?_ rfl (fun w1 hl => ?_) ?_
  rotate_left
  · have hS := HF.out w1 hl; have x0 := hS.rd.box.reader.2.2.1; have c0 := hS.box.cell 0; have d2 := H2.out w1 hS; go_simp; try with_reducible rfl
  simp only [eA, eB, eC, Act.put, eD, eE, eF]
  refine tpT 7 ?_ rfl (fun w1 => ?_) ?_
  rotate_left
  · go_simp; try with_reducible rfl
  simp only [eA, eB, eC, Act.put, eD, eE, eF]
  refine tkT 8 ?_ rfl (fun w1 hl => ?_) ?_
  rotate_left
  · have hS := HF.out w1 hl; have x0 := hS.rd.box.reader.2.2.1; have c0 := hS.box.cell 0; have d2 := H2.out w1 hS; go_simp; try with_reducible rfl
  simp only [eA, eB, eC, Act.put, eD, eE, eF]
  refine wpT_one (T := [11, 15]) (i := 9) (by kernel_rfl) rfl (fun w1 hl K hK => ?_)
  have hS4 := HF.out w1 hl
  clear hl HF H0 H2
  cases ho1 : numT x2 with
  | none =>
    obtain rfl : A = none := by rw [← HA.out, ho1]
    rw [ho1] at HN2
    go_simp
    refine (HN2.out _).mono ?_
    rintro e w4 ⟨rfl, hB4⟩
    have hS5 := hS4.kept hr hB4
    exact ⟨rfl, rfl, rfl, hS5.kp, hS5.dd⟩
  | some v =>
    rw [ho1] at HN2
    have hA2 : (match rowN rest with | some l => some ({ D with label := D.label ++ [(v : Int)], next := D.next ++ [l] }, t) | none => none) = A := by rw [← HA.out, ho1]; rfl
    have HA2 := Lib.hid hA2
    clear HA hA2 ho1
    go_simp
    refine (HN2.out _).mono ?_
    rintro e w4 ⟨rfl, hB4⟩
    have hS5 := hS4.kept hr hB4
    refine hK.out _ _ (fun _ => hB4) ?_
    clear hK K hS4 hB4 HN2
    refine wpT_one (T := [11, 15]) (i := 10) (by kernel_rfl) rfl (fun w1 hl K hK => ?_)
    have hS6 := hS5.kept hr hl
    go_simp
    refine hK.out _ _ (fun _ => later_alloc _ _) ?_
    have hsl := sl_new encI_ok w1 3 [(v : Int)] (by simp [maxLen])
    have hS7 := hS6.kept hr (later_alloc w1 (.cells #[.int .i64 v] 3))
    clear hK K hl hS5 hS6
    refine wpT_one (T := [11, 15]) (i := 11) (by kernel_rfl) rfl (fun w1 hl K hK => ?_)
    have hS := hS7.kept hr hl
    have hnw := sl_one (hsl.kept hl)
    have hsw := hS.kp.others.size
    clear hsl hl hS7
    refine if_pos_wanted (by rfl) ?_
    refine wp_append1F _ _ 25 rfl elem_int encI_ok rfl hS.rd.lab _ 1 (v : Int) rfl hnw (by simp [maxLen]; omega) (by omega) (by omega) ?_
    intro a' cap' w' hown' hg hfr
    refine hK.out _ _ (fun h => absurd h (by decide)) ?_
    clear hK K hnw
    simp only [List.getElem_toArray, List.getElem_cons_zero, List.getElem_cons_succ, Act.put, List.setIfInBounds_toArray, List.set_cons_zero, List.set_cons_succ]
    have hX0 := hS.rd.box.grownT hS.rd.lab hg (by decide)
    have hK0 := hS.kp.trans (KeptR.grown hS.rd.lab hg (Nat.le_of_lt hrb) (by omega))
    have hd0 := (KeepsOthers.grownOwn hS.rd.lab hg).same _ _ hS.dd rfl
    have ho0 := hS.own.grownT hS.rd.lab hg (by decide)
    have hb0 := hS.box.grownT hS.rd.lab hg (by decide)
    have hT0 := hS.tab
    refine tpT 12 ?_ rfl (fun w1 => ?_) ?_
    rotate_left
    · go_simp; try with_reducible rfl
    simp only [eA, eB, eC, Act.put, eD, eE, eF]
    refine tpT 13 ?_ rfl (fun w1 => ?_) ?_
    rotate_left
    · go_simp; try with_reducible rfl
    simp only [eA, eB, eC, Act.put, eD, eE, eF]
    refine tpT 14 ?_ rfl (fun w1 => ?_) ?_
    rotate_left
    · go_simp; try with_reducible rfl
    simp only [eA, eB, eC, Act.put, eD, eE, eF]
    refine wpT_one (T := [11, 15]) (i := 15) (by kernel_rfl) rfl (fun w1 hl K hK => ?_)
    have hx := hX0.kept hl
    have x0 := hx.reader.2.2.1
    have f0 := hx.free 258
    go_simp
    refine hK.out _ _ (fun h => absurd h (by decide)) ?_
    clear hK K x0 f0
    have hRN := hS.rd.label_append hrb hg hown' hfr hl
    have hKN := (hK0.trans (KeptR.below (Nat.le_of_lt hX0.lt) hl)).trans (KeptR.set (base := base) w1 258 (.slice a' (D.label.length + 1) cap'))
    have hdN := (KeepsOthers.setCell w1 ⟨r, 258, none⟩ (.slice a' (D.label.length + 1) cap')).same _ _ ((hl.block Dd (Array.getElem?_eq_some_iff.1 hd0).1).trans hd0) rfl
    have hTN := ((hT0.keptC (X := fun k => base ≤ k) (by omega) (KeepC.grown hS.rd.lab hg (fun _ h => h))).kept hl).keptC (X := (· = r)) (by show ¬ _; omega) (keepB_set r 258 w1 (.slice a' (D.label.length + 1) cap'))
    have hSN : LSt w r base Dd (some ⟨g, 0, none⟩) cap ws { V with la := a', ln := D.label.length + 1, lc := cap' } t { D with label := D.label ++ [(v : Int)] } (w1.setCell ⟨r, 258, none⟩ (.slice a' (D.label.length + 1) cap')) :=
      ⟨(hb0.kept hl).other _ _ (by show w.heap.size ≠ r; omega), (ho0.kept hl).other _ _ (by show r < _; omega), hRN, hKN, hTN, hdN⟩
    clear hRN hKN hdN hTN hl hx hX0 hK0 hd0 ho0 hb0 hT0 hS hg hown' hfr
    refine wpT_done (by kernel_rfl) (fun w1 hl => ?_) _
    have hS2 := hSN.kept hr hl
    clear hSN hl
    generalize ({ V with la := a', ln := D.label.length + 1, lc := cap' } : VDfa) = V2 at *
    have hcx2 : ({ D with label := D.label ++ [(v : Int)] } : PDfa).next.length ≤ 4294967296 := hcx
    have HWR2 : Hid (∀ W', LSt w r base Dd (some ⟨g, 0, none⟩) cap ws V2 t { D with label := D.label ++ [(v : Int)] } W' → ∀ i (hi : i < rest.length), W'.cell? ⟨g, 3 + i, none⟩ = some (sv rest[i])) := Lib.hid fun W' h' i hi => by
      have := (h'.own.slice encT_ok).cellsA.2.2.2 (3 + i) (by have := HWN.out; omega) W' (Below.refl _ _)
      rw [Nat.zero_add] at this
      rw [this, HWE.out i hi]
    have c4 := hS2.box.cell 0
    go_wp2_with (refine wpList_makeO0 rfl 25 _ _ rfl elem_int encI_ok ws.length rfl rfl (by have := HWL.out; omega) (by have := HWL.out; simp [maxLen]; omega) w1.heap.size (Nat.le_refl _) ?_; intro w5 ho5 hg5; have hS5 := hS2.kept hr ((Below.refl _ _).grown hg5 (Nat.le_refl _) (fun k e => by cases e)); have c5 := hS5.box.cell 0)
    case inl =>
      have hm3 : ws.length - 3 = rest.length := by have := HWN.out; omega
      have hrl : rest.length ≤ 4294967296 := by have := HWN.out; have := HWL.out; omega
      have hlvB : ∀ k, V2.lv.ownBlock = some k → k < w1.heap.size := fun k hk => by obtain ⟨_, c, hb⟩ := hS2.rd.lab.block k hk; exact hb.lt
      have hrb5 : base ≤ w1.heap.size := by have := hS2.kp.others.size; omega
      have hw15 : Below w1.heap.size w1 w5 := (Below.refl _ _).grown hg5 (Nat.le_refl _) (fun k e => by cases e)
      have HRL := Lib.hid hrl
      have hrl63 : rest.length ≤ 9223372036854775807 := by omega
      have HCN : Hid (rest.length + 3 ≤ cap) := Lib.hid (by have := HWN.out; omega)
      generalize ws.length - 3 = m at *
      have HM := Lib.hid hm3
      have HS2 := Lib.hid hS2
      have HLV := Lib.hid hlvB
      clear hg5 hS2 c4 c5 hrl hm3 hlvB
      go_loopw [6, 90] (fun row i wr => RowI w1 rest i row wr) (fun _ i _ => rest.length - (intOf i).toNat)
      case atStart => exact ⟨0, [], _, _, Nat.zero_le _, rfl, rfl, ho5, rfl, hw15⟩
      case round =>
        obtain ⟨j, l, a2, c2, hj, rfl, rfl, ho, hrow, hbl⟩ := hrel
        have hS := HS2.out.kept hr hbl
        clear ho5 hS5 hw15
        have hlt : ¬ j < rest.length := by have := HCN.out; omega
        obtain rfl : j = rest.length := by omega
        rw [List.take_length] at hrow
        have hdj : decide ((rest.length : Int) < (m : Int)) = false := decide_eq_false (by have := HM.out; omega)
        have hgN : ¬ rest.length < m := by have := HM.out; omega
        have hgI : ¬ (rest.length : Int) < (m : Int) := by omega
        obtain ⟨rows, h1, h2, h3⟩ := hS.rd.nxt
        have x0 := hS.rd.box.reader.2.1
        have hsw := hbl.size
        have hcx3 : rows.length ≤ 4294967296 := by rw [h2]; exact hcx2
        have hd0 := hS.dd
        have HX2 := Lib.hid h2
        clear h2
        obtain rfl : A = some ({ D with label := D.label ++ [(v : Int)], next := D.next ++ [l] }, t) := by rw [← HA2.out, hrow]
        go_wp2_with (at_builtin; go_must (refine wpList_append1 (xs := rows) (enc := encR) (base := base) (v := .slice V2.na V2.nn V2.nc) rfl _ _ 24 rfl elem_ints encR_ok rfl (h1.alloc _) ⟨wr.heap.size, 0, none⟩ 1 (a2, l.length, c2) rfl (new_cells wr [.slice a2 l.length c2] _) (by simp [maxLen]; omega) (by omega) (by simp; omega) ?_; intro a9 c9 w9 ho9 hg9; change (wr.alloc _).grownBy w9 (Value.slice V2.na V2.nn V2.nc).ownBlock at hg9; have hX9 := (hS.rd.box.alloc (.cells #[.slice a2 l.length c2] 25)).grownT (h1.alloc _) hg9 (by decide); have x9 := hX9.reader.2.1; have f9 := hX9.free 257))
        have hrw : r ≤ wr.heap.size := by omega
        have hRf := RdR.next_append (w2 := w9) (hS.rd.kept (later_alloc wr (.cells #[.slice a2 l.length c2] 25))) hrb (h1.alloc _) HX2.out (fun i p q => ⟨(h3 i p q).1.alloc _, (h3 i p q).2⟩) hg9 ho9 ((ho.mono hrb5).alloc _) (fun k hk e => by have h4 := HLV.out k e; obtain ⟨h5, _⟩ := ho.block k hk; omega) (Below.refl _ _)
        have hKf := ((hS.kp.trans (KeptR.below hrw (later_alloc wr (.cells #[.slice a2 l.length c2] 25)))).trans (KeptR.grown (h1.alloc _) hg9 (Nat.le_of_lt hrb) (by simp; omega))).trans (KeptR.set (base := base) w9 257 (.slice a9 (rows.length + 1) c9))
        have hdf := (KeepsOthers.setCell w9 ⟨r, 257, none⟩ (.slice a9 (rows.length + 1) c9)).same _ _ ((KeepsOthers.grownOwn (h1.alloc _) hg9).same _ _ ((KeepsOthers.alloc wr _).same _ _ hd0 rfl) rfl) rfl
        exact line_done (.inl rfl) hD hr hRf hKf hdf
    case inr =>
      have hm3 : ws.length - 3 = rest.length := by have := HWN.out; omega
      have hrl : rest.length ≤ 4294967296 := by have := HWN.out; have := HWL.out; omega
      have hlvB : ∀ k, V2.lv.ownBlock = some k → k < w1.heap.size := fun k hk => by obtain ⟨_, c, hb⟩ := hS2.rd.lab.block k hk; exact hb.lt
      have hrb5 : base ≤ w1.heap.size := by have := hS2.kp.others.size; omega
      have hw15 : Below w1.heap.size w1 w5 := (Below.refl _ _).grown hg5 (Nat.le_refl _) (fun k e => by cases e)
      have HRL := Lib.hid hrl
      have hrl63 : rest.length ≤ 9223372036854775807 := by omega
      have HCN : Hid (rest.length + 3 ≤ cap) := Lib.hid (by have := HWN.out; omega)
      generalize ws.length - 3 = m at *
      have HM := Lib.hid hm3
      have HS2 := Lib.hid hS2
      have HLV := Lib.hid hlvB
      clear hg5 hS2 c4 c5 hrl hm3 hlvB
      go_loopw [6, 90] (fun row i wr => RowI w1 rest i row wr) (fun _ i _ => rest.length - (intOf i).toNat)
      case atStart => exact ⟨0, [], _, _, Nat.zero_le _, rfl, rfl, ho5, rfl, hw15⟩
      case round =>
        obtain ⟨j, l, a2, c2, hj, rfl, rfl, ho, hrow, hbl⟩ := hrel
        have hS := HS2.out.kept hr hbl
        clear ho5 hS5 hw15
        by_cases hlt : j < rest.length
        · have hjm : j < m := by have := HM.out; omega
          have hji : (j : Int) < (m : Int) := by omega
          have hdj : decide ((j : Int) < (m : Int)) = true := decide_eq_true hji
          have hcx := HWR2.out wr hS j hlt
          have hll : l.length ≤ 4294967296 := by have := rowN_length hrow; have := HRL.out; rw [List.length_take] at *; omega
          have hnx := HN3.out j hlt
          have HNX := Lib.hid hnx
          cases ho1 : numT rest[j] with
          | none =>
            rw [ho1] at HNX
            obtain rfl : A = none := by rw [← HA2.out, rowN_none hlt ho1]
            generalize rest[j] = x at *
            clear hnx
            go_wp2_with (go_at_call 47; refine (HNX.out _).mono ?_; rintro e w7 ⟨rfl, hB7⟩; have hS7 := hS.kept hr hB7)
            exact ⟨rfl, rfl, rfl, hS7.kp, hS7.dd⟩
          | some u =>
            rw [ho1] at HNX
            have hrow2 := rowN_take hlt hrow u ho1
            generalize rest[j] = x at *
            clear hnx
            have hws := hbl.size
            go_wp2_with (first | (go_at_call 47; refine (HNX.out _).mono ?_; rintro e w7 ⟨rfl, hB7⟩; have ho7 := ho.kept hB7; have hbl7 := hbl.trans (hB7.mono hws); have hws7 := hbl7.size) | (at_builtin; go_must (refine wpList_append1 rfl _ _ 25 rfl elem_int encI_ok rfl (ho7.alloc _) ⟨w7.heap.size, 0, none⟩ 1 (u : Int) rfl (new_cells w7 [.int .i64 u] _) (by simp [maxLen]; omega) (by omega) (by simp; omega) ?_; intro a3 c3 w8 ho8 hg8; change (w7.alloc _).grownBy w8 (Value.slice a2 l.length c2).ownBlock at hg8)))
            have hlen2 : (l ++ [(u : Int)]).length = l.length + 1 := by simp
            go_roundw
            case rel =>
              refine ⟨j + 1, l ++ [(u : Int)], a3, c3, hlt, by go_num, by rw [hlen2], by rw [hlen2]; exact ho8, hrow2, ?_⟩
              exact below_grown (hbl7.alloc hws7 _) (ho7.alloc _) hg8 (Nat.le_refl _) (by simp; omega)
            case measure => simp [intOf]; omega
        · obtain rfl : j = rest.length := by omega
          rw [List.take_length] at hrow
          have hdj : decide ((rest.length : Int) < (m : Int)) = false := decide_eq_false (by have := HM.out; omega)
          have hgN : ¬ rest.length < m := by have := HM.out; omega
          have hgI : ¬ (rest.length : Int) < (m : Int) := by omega
          obtain ⟨rows, h1, h2, h3⟩ := hS.rd.nxt
          have x0 := hS.rd.box.reader.2.1
          have hsw := hbl.size
          have hcx3 : rows.length ≤ 4294967296 := by rw [h2]; exact hcx2
          have hd0 := hS.dd
          have HX2 := Lib.hid h2
          clear h2
          obtain rfl : A = some ({ D with label := D.label ++ [(v : Int)], next := D.next ++ [l] }, t) := by rw [← HA2.out, hrow]
          go_wp2_with (at_builtin; go_must (refine wpList_append1 (xs := rows) (enc := encR) (base := base) (v := .slice V2.na V2.nn V2.nc) rfl _ _ 24 rfl elem_ints encR_ok rfl (h1.alloc _) ⟨wr.heap.size, 0, none⟩ 1 (a2, l.length, c2) rfl (new_cells wr [.slice a2 l.length c2] _) (by simp [maxLen]; omega) (by omega) (by simp; omega) ?_; intro a9 c9 w9 ho9 hg9; change (wr.alloc _).grownBy w9 (Value.slice V2.na V2.nn V2.nc).ownBlock at hg9; have hX9 := (hS.rd.box.alloc (.cells #[.slice a2 l.length c2] 25)).grownT (h1.alloc _) hg9 (by decide); have x9 := hX9.reader.2.1; have f9 := hX9.free 257))
          have hrw : r ≤ wr.heap.size := by omega
          have hRf := RdR.next_append (w2 := w9) (hS.rd.kept (later_alloc wr (.cells #[.slice a2 l.length c2] 25))) hrb (h1.alloc _) HX2.out (fun i p q => ⟨(h3 i p q).1.alloc _, (h3 i p q).2⟩) hg9 ho9 ((ho.mono hrb5).alloc _) (fun k hk e => by have h4 := HLV.out k e; obtain ⟨h5, _⟩ := ho.block k hk; omega) (Below.refl _ _)
          have hKf := ((hS.kp.trans (KeptR.below hrw (later_alloc wr (.cells #[.slice a2 l.length c2] 25)))).trans (KeptR.grown (h1.alloc _) hg9 (Nat.le_of_lt hrb) (by simp; omega))).trans (KeptR.set (base := base) w9 257 (.slice a9 (rows.length + 1) c9))
          have hdf := (KeepsOthers.setCell w9 ⟨r, 257, none⟩ (.slice a9 (rows.length + 1) c9)).same _ _ ((KeepsOthers.grownOwn (h1.alloc _) hg9).same _ _ ((KeepsOthers.alloc wr _).same _ _ hd0 rfl) rfl) rfl
          exact line_done (.inl rfl) hD hr hRf hKf hdf
end Go.Proofs.YtdhmekpgplajmaaGreatDoor
end
section
namespace Go.Proofs.YtdhmekpgplajmaaGreatDoor
open Go.RowKit
theorem reader_line (r base : Nat) (V : VDfa) (t : BSet) (D : PDfa) (s : List UInt8) (w : World) (h : RdR w r base V t D) (hT : Tab w) (hM : MaxL w) (hrT : 1 < r) (hrb : r < base) (hbw : base ≤ w.heap.size) (hs : s.length < 4294967281)
    (hcn : D.names.length ≤ 4294967296) (hcl : D.label.length ≤ 4294967296) (hcx : D.next.length ≤ 4294967296) :
    Calls Tryz.prog 20 #[.pointer (some ⟨r, 0, none⟩), sv s] w (RetLine r base w (stepL D t s)) := by
  by_cases h3 : (splitL 32 s).length < 3
  · have : stepL D t s = none := by
      unfold stepL
      match hw : splitL 32 s with
      | [] => rfl
      | [_] => rfl
      | [_, _] => rfl
      | _ :: _ :: _ :: _ => rw [hw] at h3; simp at h3; omega
    rw [this]
    exact line_short r base V t D s w h hT hM hrb hbw hs h3
  · match hw : splitL 32 s with
    | [] => rw [hw] at h3; simp at h3
    | [_] => rw [hw] at h3; simp at h3
    | [_, _] => rw [hw] at h3; simp at h3
    | w0 :: w1 :: w2 :: rest =>
      by_cases h0 : w0 = [109, 97, 99, 104, 105, 110, 101]
      · subst h0; exact line_machine r base V t D s w h hT hM hrb hbw hs w1 w2 rest hw
      · by_cases h1 : w0 = [110, 97, 109, 101]
        · subst h1; exact line_name r base V t D s w h hT hM hrb hbw hs hcn w1 w2 rest hw
        · by_cases h2 : w0 = [99, 108, 97, 115, 115]
          · subst h2; exact line_class r base V t D s w h hT hM hrb hbw hs (by omega) w1 w2 rest hw
          · by_cases h4 : w0 = [115, 116, 97, 116, 101]
            · subst h4; exact line_state r base V t D s w h hT hM hrb hbw hs hrT hcl hcx w1 w2 rest hw
            · have : stepL D t s = none := by
                unfold stepL
                rw [hw, lineW_cons, if_neg h0, if_neg h1, if_neg h2, if_neg h4]
              rw [this]
              exact line_other r base V t D s w h hT hM hrb hbw hs w0 w1 w2 rest h0 h1 h2 h4 hw
end Go.Proofs.YtdhmekpgplajmaaGreatDoor
end
