/- Joined by tools/merge.py: PutA, PutB, PutC, Ref36Read. -/
import Derived.Test.YtdhmekpgplajmaaGreatDoorR25
import Derived.Test.YtdhmekpgplajmaaGreatDoorR3
import Derived.Test.YtdhmekpgplajmaaGreatDoorR22
import Derived.Test.YtdhmekpgplajmaaGreatDoorR16
import Derived.Test.YtdhmekpgplajmaaGreatDoorR20
import Derived.Test.YtdhmekpgplajmaaGreatDoorR23
import Derived.Test.YtdhmekpgplajmaaGreatDoorR19x
section
namespace Go.Proofs.YtdhmekpgplajmaaGreatDoor
open Go.RowKit
theorem Own.word {w : World} {base E n cap : Nat} {a : Option Addr} {ws : List (List UInt8)} (h : Own w base E 1 encT (.slice a n cap) ws) (hn : 0 < ws.length) : ∃ g, a = some ⟨g, 0, none⟩ ∧ ∀ w', Own w' base E 1 encT (.slice a n cap) ws → ∀ i (hi : i < ws.length), w'.cell? ⟨g, i, none⟩ = some (sv ws[i]) := by
  obtain ⟨e, _, _, _⟩ := h.open
  obtain ⟨g, ha, _⟩ := h.addr (by omega)
  refine ⟨g, ha, fun w' h' i hi => ?_⟩
  subst ha
  have := (h'.slice encT_ok).cellsA.2.2.2 i hi w' (Below.refl _ _)
  rw [Nat.zero_add] at this
  exact this
theorem put_done {w W : World} {base : Nat} {ws : List (List UInt8)} {a : Option Addr} {cap : Nat} {V : VDfa} {D : PDfa} {t : Act} {fn : Func} {p : Tmp} (h : InPut w base ws a cap V D W) (hb : base ≤ w.heap.size) (hr : fn.results = #[.cell p 28])
    (hp : t.tmps.getD p undef = .pointer (some ⟨w.heap.size + 1, 0, none⟩)) (hdf : t.defers = []) : bodyPost Tryz.prog fn (RetPut w base D) .ret t (W.setRow (w.heap.size + 1) V.cells) := by
  have hx := h.res.setRow V.cells
  refine ret_box hr hp hx Tryz.underlying28 rfl (size_dfa V) hdf ⟨below_setRow h.below (by omega) _, V, rfl, ?_⟩
  exact h.put.setRow h.res (by decide) (by decide) (by decide) V.cells
set_option maxRecDepth 20000 in
set_option maxHeartbeats 1600000 in
theorem put_short (base : Nat) (V : VDfa) (D : PDfa) (ws : List (List UInt8)) (a : Option Addr) (cap : Nat) (w : World) (hp : PutD w base V D) (ho : Own w base 9 1 encT (.slice a ws.length cap) ws) (hb : base ≤ w.heap.size)
    (hne : ∀ k, (Value.slice a ws.length cap).ownBlock = some k → (Value.slice V.ma V.mn V.mc).ownBlock ≠ some k) (hs : ws.length < 3) : Calls Tryz.prog 22 #[.agg V.cells, .slice a ws.length cap] w (RetPut w base (putP D ws)) := by
  have hz := zeroV_dfa
  have hS := InPut.start hp ho hb hne
  have hD : putP D ws = D := by
    match ws, hs with
    | [], _ => rfl
    | [_], _ => rfl
    | [_, _], _ => rfl
  rw [hD]
  have hx := hS.box
  have hr := hS.res
  have HS := Lib.hid hS
  have e1 : decide ((ws.length : Int) < 3) = true := by simp; omega
  generalize ws.length = n at *
  clear hp ho hne hs hD hS
  go_enter Tryz.func22, Tryz.ntmps22
  go_wp2_with (first | (refine wpList_load_row rfl 28 (.tmp 2) rfl w.heap.size rfl _ _ _ _ hx Tryz.underlying28 rfl (size_dfa V) ?_) | (refine wpList_store_row rfl 28 (.tmp 4) (.tmp 16) rfl (w.heap.size + 1) _ rfl rfl _ _ hr (size_dfa V) (VDfa.sizes _ _) V.all ?_))
  exact put_done HS.out hb Tryz.results22 rfl rfl
set_option maxRecDepth 20000 in
set_option maxHeartbeats 3200000 in
theorem put_name (base : Nat) (V : VDfa) (D : PDfa) (ws : List (List UInt8)) (a : Option Addr) (cap : Nat) (w : World) (hp : PutD w base V D) (ho : Own w base 9 1 encT (.slice a ws.length cap) ws) (hb : base ≤ w.heap.size)
    (hne : ∀ k, (Value.slice a ws.length cap).ownBlock = some k → (Value.slice V.ma V.mn V.mc).ownBlock ≠ some k) (hcn : D.names.length ≤ 4294967296) (w1 w2 : List UInt8) (rest : List (List UInt8)) (hn : ws = [110, 97, 109, 101] :: w1 :: w2 :: rest) : Calls Tryz.prog 22 #[.agg V.cells, .slice a ws.length cap] w (RetPut w base (putP D ws)) := by
  have hz := zeroV_dfa
  have hS := InPut.start hp ho hb hne
  have hD : putP D ws = { D with names := D.names ++ [w2] } := by subst hn; simp only [putP]; rw [if_pos trivial]
  rw [hD]
  have hlen3 : 3 ≤ ws.length := by rw [hn]; simp
  have hlcap : ws.length ≤ 9223372036854775807 := by obtain ⟨_, h1, h2, _⟩ := ho.open; omega
  obtain ⟨g, rfl, hcell⟩ := ho.word (by omega)
  have hw0 : ∀ W', InPut w base ws (some ⟨g, 0, none⟩) cap V D W' → W'.cell? ⟨g, 0, none⟩ = some (sv [110, 97, 109, 101]) := fun W' h' => by
    have := hcell W' h'.words 0 (by omega)
    simpa [hn] using this
  have hw2 : ∀ W', InPut w base ws (some ⟨g, 0, none⟩) cap V D W' → W'.cell? ⟨g, 2, none⟩ = some (sv w2) := fun W' h' => by
    have := hcell W' h'.words 2 (by omega)
    simpa [hn] using this
  have hw0' : ∀ W' V2 D2, InPut w base ws (some ⟨g, 0, none⟩) cap V2 D2 W' → W'.cell? ⟨g, 0, none⟩ = some (sv [110, 97, 109, 101]) := fun W' V2 D2 h' => by
    have := hcell W' h'.words 0 (by omega)
    simpa [hn] using this
  have e1 : decide ((ws.length : Int) < 3) = false := by simp; omega
  have e3 : (2 : Int) < (ws.length : Int) := by omega
  have e4 : (0 : Int) < (ws.length : Int) := by omega
  have c0 := hw0 _ hS
  have HS := Lib.hid hS
  have H0 := Lib.hid hw0'
  have H2 := Lib.hid hw2
  have HF : Hid (∀ v, Later ((w.alloc (.cells V.cells 28)).alloc (.cells V0.cells 28)).drew v → InPut w base ws (some ⟨g, 0, none⟩) cap V D v) := Lib.hid fun v hl => (HS.out.kept hb (Below.refl _ _).drew).kept hb hl
  clear hp ho hne hS hD hn hcell hw0 hw0' hw2 hlen3 HS
  obtain ⟨n, hn⟩ : ∃ n, ws.length = n := ⟨_, rfl⟩
  have HLN := Lib.hid hn
  rw [hn] at e1 e3 e4 hlcap ⊢
  clear hn
  go_enter Tryz.func22, Tryz.ntmps22
  go_wp2_with fail
  clear c0
  refine wp_region_T (R := Later) [6, 8] (by kernel_rfl) ?_
  refine tpT 0 ?_ rfl (fun w1 => ?_) ?_
  rotate_left
  · go_simp; try with_reducible rfl
  simp only [eA, eB, Act.put, eD, eE, eF]
  refine tkT 1 ?_ rfl (fun w1 hl => ?_) ?_
  rotate_left
  · have hS := HF.out w1 hl; have x0 := hS.box.dfa.2.2.2; have d2 := H2.out w1 hS; go_simp; try with_reducible rfl
  simp only [eA, eB, eC, Act.put, eD, eE, eF]
  refine tpT 2 ?_ rfl (fun w1 => ?_) ?_
  rotate_left
  · go_simp; try with_reducible rfl
  simp only [eA, eB, eC, Act.put, eD, eE, eF]
  refine tpT 3 ?_ rfl (fun w1 => ?_) ?_
  rotate_left
  · go_simp; try with_reducible rfl
  simp only [eA, eB, eC, Act.put, eD, eE, eF]
  refine tkT 4 ?_ rfl (fun w1 hl => ?_) ?_
  rotate_left
  · have hS := HF.out w1 hl; have x0 := hS.box.dfa.2.2.2; have d2 := H2.out w1 hS; go_simp; try with_reducible rfl
  simp only [eA, eB, eC, Act.put, eD, eE, eF]
  refine wpT_one (T := [6, 8]) (i := 5) (by kernel_rfl) rfl (fun w1 hl K hK => ?_)
  go_simp
  refine hK.out _ _ (fun _ => later_alloc _ _) ?_
  have hsl := sl_new encT_ok w1 9 [w2] (by simp [maxLen])
  have hlA : Later _ (w1.alloc (.cells #[sv w2] 9)) := Later.trans _ _ _ hl (later_alloc _ _)
  clear hK K hl
  refine wpT_one (T := [6, 8]) (i := 6) (by kernel_rfl) rfl (fun w1 hl K hK => ?_)
  have hS := HF.out w1 (Later.trans _ _ _ hlA hl)
  have hnw := sl_one (hsl.kept hl)
  have hsw : base ≤ w1.heap.size := by have := hS.box.lt; omega
  clear hsl hl hlA
  refine if_pos_wanted (by rfl) ?_
  refine wp_append1F _ _ 26 rfl elem_str encT_ok rfl hS.put.nam _ 1 w2 rfl hnw (by simp [maxLen]; omega) (by omega) (by omega) ?_
  intro a' cap' w' hown' hg hfr
  refine hK.out _ _ (fun h => absurd h (by decide)) ?_
  clear hK K hnw
  simp only [List.getElem_toArray, List.getElem_cons_zero, List.getElem_cons_succ, Act.put, List.setIfInBounds_toArray, List.set_cons_zero, List.set_cons_succ]
  have hX0 := hS.box.grownT hS.put.nam hg (by decide)
  refine tpT 7 ?_ rfl (fun w1 => ?_) ?_
  rotate_left
  · go_simp; try with_reducible rfl
  simp only [eA, eB, eC, Act.put, eD, eE, eF]
  refine wpT_one (T := [6, 8]) (i := 8) (by kernel_rfl) rfl (fun w1 hl K hK => ?_)
  have hx := hX0.kept hl
  have x0 := hx.dfa.2.2.2
  have f0 := hx.free 259
  go_simp
  refine hK.out _ _ (fun h => absurd h (by decide)) ?_
  clear hK K x0 f0
  have hSN := hS.names_append hb hg hown' hfr hl
  clear hl hx hX0 hS hg hown' hfr
  refine wpT_done (by kernel_rfl) (fun w1 hl => ?_) _
  have hS2 := hSN.kept hb hl
  clear hSN hl HF H2
  have c0 := H0.out _ _ _ hS2
  have hx := hS2.box
  have hr := hS2.res
  generalize ({ V with ma := a', mn := D.names.length + 1, mc := cap' } : VDfa) = V2 at *
  go_wp2_with (first | (refine wpList_load_row rfl 28 (.tmp 2) rfl w.heap.size rfl _ _ _ _ hx Tryz.underlying28 rfl (size_dfa V2) ?_) | (refine wpList_store_row rfl 28 (.tmp 4) (.tmp 102) rfl (w.heap.size + 1) _ rfl rfl _ _ hr (size_dfa V2) (VDfa.sizes _ _) V2.all ?_))
  exact put_done hS2 hb Tryz.results22 rfl rfl
set_option maxRecDepth 20000 in
set_option maxHeartbeats 3200000 in
theorem put_other (base : Nat) (V : VDfa) (D : PDfa) (ws : List (List UInt8)) (a : Option Addr) (cap : Nat) (w : World) (hp : PutD w base V D) (ho : Own w base 9 1 encT (.slice a ws.length cap) ws) (hb : base ≤ w.heap.size)
    (hne : ∀ k, (Value.slice a ws.length cap).ownBlock = some k → (Value.slice V.ma V.mn V.mc).ownBlock ≠ some k) (w0 : List UInt8) (q1 : w0 ≠ [110, 97, 109, 101]) (q2 : w0 ≠ [99, 108, 97, 115, 115]) (q3 : w0 ≠ [115, 116, 97, 116, 101]) (w1 w2 : List UInt8) (rest : List (List UInt8)) (hn : ws = w0 :: w1 :: w2 :: rest) : Calls Tryz.prog 22 #[.agg V.cells, .slice a ws.length cap] w (RetPut w base (putP D ws)) := by
  have hz := zeroV_dfa
  have hS := InPut.start hp ho hb hne
  have hD : putP D ws = D := by subst hn; simp only [putP]; rw [if_neg q1, if_neg q2, if_neg q3]
  rw [hD]
  have hlen3 : 3 ≤ ws.length := by rw [hn]; simp
  have hlcap : ws.length ≤ 9223372036854775807 := by obtain ⟨_, h1, h2, _⟩ := ho.open; omega
  obtain ⟨g, rfl, hcell⟩ := ho.word (by omega)
  have c0 : ((w.alloc (.cells V.cells 28)).alloc (.cells V0.cells 28)).cell? ⟨g, 0, none⟩ = some (sv w0) := by
    have := hcell _ hS.words 0 (by omega)
    simpa [hn] using this
  have e1 : decide ((ws.length : Int) < 3) = false := by simp; omega
  have e4 : (0 : Int) < (ws.length : Int) := by omega
  have r1 : (w0 == [110, 97, 109, 101]) = false := beq_eq_false_iff_ne.2 q1
  have r2 : (w0 == [99, 108, 97, 115, 115]) = false := beq_eq_false_iff_ne.2 q2
  have r3 : (w0 == [115, 116, 97, 116, 101]) = false := beq_eq_false_iff_ne.2 q3
  have HS := Lib.hid hS
  have hx := hS.box
  have hr := hS.res
  clear hp ho hne hS hD hn hcell hlen3 q1 q2 q3
  generalize ws.length = n at *
  go_enter Tryz.func22, Tryz.ntmps22
  go_wp2_with (first | (refine wpList_load_row rfl 28 (.tmp 2) rfl w.heap.size rfl _ _ _ _ hx Tryz.underlying28 rfl (size_dfa V) ?_) | (refine wpList_store_row rfl 28 (.tmp 4) (.tmp 102) rfl (w.heap.size + 1) _ rfl rfl _ _ hr (size_dfa V) (VDfa.sizes _ _) V.all ?_))
  exact put_done HS.out hb Tryz.results22 rfl rfl
end Go.Proofs.YtdhmekpgplajmaaGreatDoor
end
section
namespace Go.Proofs.YtdhmekpgplajmaaGreatDoor
open Go.RowKit
def numsTo (ws : List (List UInt8)) (j : Nat) : List Int := ((ws.take j).drop 2).map fun x => ((read01 x : Nat) : Int)
theorem numsTo_length (ws : List (List UInt8)) (j : Nat) (hj : j ≤ ws.length) : (numsTo ws j).length = j - 2 := by unfold numsTo; rw [List.length_map, List.length_drop, List.length_take, Nat.min_eq_left hj]
theorem numsTo_succ (ws : List (List UInt8)) (j : Nat) (hj : j < ws.length) (h2 : 2 ≤ j) : numsTo ws (j + 1) = numsTo ws j ++ [((read01 ws[j] : Nat) : Int)] := by
  unfold numsTo
  rw [List.take_succ_eq_append_getElem hj, List.drop_append_of_le_length (by rw [List.length_take]; omega), List.map_append]
  rfl
theorem numsTo_all (w0 w1 w2 : List UInt8) (rest : List (List UInt8)) : numsTo (w0 :: w1 :: w2 :: rest) (w0 :: w1 :: w2 :: rest).length = ((read01 w2 : Nat) : Int) :: rest.map fun x => ((read01 x : Nat) : Int) := by
  unfold numsTo
  rw [List.take_length]
  rfl
set_option maxRecDepth 20000 in
set_option maxHeartbeats 3200000 in
theorem put_state (base : Nat) (V : VDfa) (D : PDfa) (ws : List (List UInt8)) (a : Option Addr) (cap : Nat) (w : World) (hp : PutD w base V D) (ho : Own w base 9 1 encT (.slice a ws.length cap) ws) (hb : base ≤ w.heap.size)
    (hne : ∀ k, (Value.slice a ws.length cap).ownBlock = some k → (Value.slice V.ma V.mn V.mc).ownBlock ≠ some k) (hcl : D.label.length ≤ 4294967296) (hcx : D.next.length ≤ 4294967296) (hlw : ∀ x ∈ ws, x.length ≤ 9223372036854775807) (hnw : ws.length ≤ 4294967296) (w1 w2 : List UInt8) (rest : List (List UInt8)) (hn : ws = [115, 116, 97, 116, 101] :: w1 :: w2 :: rest) : Calls Tryz.prog 22 #[.agg V.cells, .slice a ws.length cap] w (RetPut w base (putP D ws)) := by
  have hz := zeroV_dfa
  have hS := InPut.start hp ho hb hne
  have hD : putP D ws = { { D with label := D.label ++ [((read01 w2 : Nat) : Int)] } with next := D.next ++ [rest.map fun x => ((read01 x : Nat) : Int)] } := by subst hn; simp only [putP]; rw [if_neg (by decide), if_neg (by decide), if_pos trivial]
  rw [hD]
  have hlen3 : 3 ≤ ws.length := by rw [hn]; simp
  obtain ⟨g, rfl, hcell⟩ := ho.word (by omega)
  have hw0 : ∀ W', InPut w base ws (some ⟨g, 0, none⟩) cap V D W' → W'.cell? ⟨g, 0, none⟩ = some (sv [115, 116, 97, 116, 101]) := fun W' h' => by
    have := hcell W' h'.words 0 (by omega)
    simpa [hn] using this
  have hwi : ∀ W', InPut w base ws (some ⟨g, 0, none⟩) cap V D W' → ∀ i (hi : i < ws.length), W'.cell? ⟨g, i, none⟩ = some (sv ws[i]) := fun W' h' i hi => hcell W' h'.words i hi
  have hall := numsTo_all [115, 116, 97, 116, 101] w1 w2 rest
  rw [← hn] at hall
  generalize (rest.map fun x => ((read01 x : Nat) : Int)) = L at *
  generalize ((read01 w2 : Nat) : Int) = v0 at *
  have e1 : decide ((ws.length : Int) < 3) = false := by simp; omega
  have e3 : (2 : Int) < (ws.length : Int) := by omega
  have e4 : (0 : Int) < (ws.length : Int) := by omega
  have c0 := hw0 _ hS
  have HS := Lib.hid hS
  have HI := Lib.hid hwi
  have HA := Lib.hid hall
  have HL := Lib.hid hlw
  have HSC := Lib.hid (numsTo_succ ws)
  have HLE := Lib.hid (numsTo_length ws)
  clear hp ho hne hS hD hn hcell hw0 hwi hall hlw
  obtain ⟨n, hn⟩ : ∃ n, ws.length = n := ⟨_, rfl⟩
  have HLN := Lib.hid hn
  rw [hn] at e1 e3 e4 hlen3 hnw ⊢
  have hn0 : n ≤ 9223372036854775807 := by omega
  clear hn
  go_enter Tryz.func22, Tryz.ntmps22
  go_wp2
  have ho1 := Own.empty ((w.alloc (.cells V.cells 28)).alloc (.cells V0.cells 28)) ((w.alloc (.cells V.cells 28)).alloc (.cells V0.cells 28)).heap.size 3 1 encI (Nat.le_refl _)
  have hB1 := later_alloc ((w.alloc (.cells V.cells 28)).alloc (.cells V0.cells 28)) (.cells #[] 3)
  have hWb : base ≤ ((w.alloc (.cells V.cells 28)).alloc (.cells V0.cells 28)).heap.size := by simp; omega
  have hn2 : numsTo ws 2 = [] := by
    have := HLE.out 2 (by have := HLN.out; omega)
    exact List.eq_nil_of_length_eq_zero this
  rw [← hn2] at ho1
  clear hn2
  have hsz0 : ((w.alloc (.cells V.cells 28)).alloc (.cells V0.cells 28)).heap.size = w.heap.size + 1 + 1 := by simp
  generalize ((w.alloc (.cells V.cells 28)).alloc (.cells V0.cells 28)) = W0 at *
  go_loopw [9, 10] (fun v i wr => ∃ (j : Nat) (a' : Option Addr) (c' : Nat), 2 ≤ j ∧ j ≤ n ∧ i = .int .i64 j ∧ v = .slice a' (j - 2) c' ∧ Own wr W0.heap.size 3 1 encI (.slice a' (j - 2) c') (numsTo ws j) ∧ Below W0.heap.size W0 wr) (fun _ i _ => n - (intOf i).toNat)
  case atStart => exact ⟨2, _, _, Nat.le_refl _, by omega, rfl, by rw [← hsz0], ho1, hB1⟩
  case round =>
    clear ho1 hB1
    obtain ⟨j, a', c', hj2, hj, rfl, rfl, hown, hB⟩ := hrel
    have hsw := hB.size
    by_cases hlt : j < n
    · have hjw : j < ws.length := by rw [HLN.out]; exact hlt
      have hdj : decide ((j : Int) < (n : Int)) = true := decide_eq_true (by omega)
      have hji : (j : Int) < (n : Int) := by omega
      have hj0 : (0 : Int) ≤ (j : Int) := by omega
      have cj := HI.out wr (HS.out.kept hb hB) j hjw
      have hsc := HSC.out j hjw hj2
      have hrd := fun w => ref01_Read ws[j] w (HL.out _ (List.getElem_mem hjw))
      have hle := HLE.out j (by omega)
      generalize ws[j] = x at *
      have HRD := Lib.hid hrd
      have HSC1 := Lib.hid hsc
      clear hrd hsc
      go_wp2_with (first | (go_at_call 51; go_must (refine (HRD.out _).mono ?_; rintro e w5 ⟨hB5, c5, rfl⟩; have ho5 := hown.kept hB5; have hb5 := hB.trans (hB5.mono hsw); have hs5 := hb5.size)) | (at_builtin; go_must (refine wpList_append1 rfl _ _ 25 rfl elem_int encI_ok rfl (ho5.alloc _) ⟨w5.heap.size, 0, none⟩ 1 ((read01 x : Nat) : Int) rfl (new_cells w5 [.int .i64 (read01 x : Nat)] _) (by rw [hle]; simp [maxLen]; omega) (by rw [hle]; omega) (by simp; omega) ?_; intro a3 c3 w8 ho8 hg8; change (w5.alloc _).grownBy w8 (Value.slice a' (j - 2) c').ownBlock at hg8)))
      go_roundw
      case rel =>
        refine ⟨j + 1, a3, c3, by omega, hlt, by go_num, by rw [show j + 1 - 2 = j - 2 + 1 by omega], ?_, below_grown (hb5.alloc hs5 _) (ho5.alloc _) hg8 (Nat.le_refl _) (by simp; omega)⟩
        rw [HSC1.out, show j + 1 - 2 = j - 2 + 1 by omega, ← hle]; exact ho8
      case measure => simp [intOf]; omega
    · obtain rfl : j = n := by omega
      have hdj : decide ((j : Int) < (j : Int)) = false := decide_eq_false (by omega)
      have hS := HS.out.kept hb hB
      have hal := HA.out
      rw [HLN.out] at hal
      rw [hal] at hown
      clear HA hal HI HL HSC HLE
      have hj3 : 0 < j - 2 := by omega
      have hj3' : (0 : Int) < ((j - 2 : Nat) : Int) := by omega
      have hcc := hown.open
      obtain ⟨gl, rfl, hgl, hgl2⟩ := hown.addr hj3
      have hlne : ∀ k, V.lv.ownBlock = some k → k ≠ gl := fun k hk => by
        obtain ⟨_, c, hb⟩ := (HS.out).put.lab.block k hk; have := hb.lt; omega
      have HLN2 := Lib.hid hlne
      have HF : Hid (∀ v, Later wr.drew v → InPut w base ws (some ⟨g, 0, none⟩) cap V D v ∧ Own v W0.heap.size 3 1 encI (.slice (some ⟨gl, 0, none⟩) (j - 2) c') (v0 :: L)) := Lib.hid fun v hl => ⟨(hS.kept hb (Below.refl _ _).drew).kept hb hl, hown.drew'.kept hl⟩
      have HC : Hid (∀ v, Own v W0.heap.size 3 1 encI (.slice (some ⟨gl, 0, none⟩) (j - 2) c') (v0 :: L) → v.cell? ⟨gl, 0, none⟩ = some (.int .i64 v0)) := Lib.hid fun v h => by
        have := (h.slice encI_ok).cellsA.2.2.2 0 (by simp) v (Below.refl _ _)
        simpa using this
      clear hlne hS hown hcc HS
      go_wp2_with fail
      refine wp_region_T (R := Later) [6, 8] (by kernel_rfl) ?_
      refine tpT 0 ?_ rfl (fun w1 => ?_) ?_
      rotate_left
      · go_simp; try with_reducible rfl
      simp only [eA, eB, Act.put, eD, eE, eF]
      refine tkT 1 ?_ rfl (fun w1 hl => ?_) ?_
      rotate_left
      · obtain ⟨hS, ho⟩ := HF.out w1 hl; have x0 := hS.box.dfa.2.2.1; have d2 := HC.out w1 ho; go_simp; try with_reducible rfl
      simp only [eA, eB, eC, Act.put, eD, eE, eF]
      refine tpT 2 ?_ rfl (fun w1 => ?_) ?_
      rotate_left
      · go_simp; try with_reducible rfl
      simp only [eA, eB, eC, Act.put, eD, eE, eF]
      refine tpT 3 ?_ rfl (fun w1 => ?_) ?_
      rotate_left
      · go_simp; try with_reducible rfl
      simp only [eA, eB, eC, Act.put, eD, eE, eF]
      refine tkT 4 ?_ rfl (fun w1 hl => ?_) ?_
      rotate_left
      · obtain ⟨hS, ho⟩ := HF.out w1 hl; have x0 := hS.box.dfa.2.2.1; have d2 := HC.out w1 ho; go_simp; try with_reducible rfl
      simp only [eA, eB, eC, Act.put, eD, eE, eF]
      refine wpT_one (T := [6, 8]) (i := 5) (by kernel_rfl) rfl (fun w1 hl K hK => ?_)
      go_simp
      refine hK.out _ _ (fun _ => later_alloc _ _) ?_
      have hsl := sl_new encI_ok w1 3 [v0] (by simp [maxLen])
      have hlA : Later _ (w1.alloc (.cells #[.int .i64 v0] 3)) := Later.trans _ _ _ hl (later_alloc _ _)
      clear hK K hl
      refine wpT_one (T := [6, 8]) (i := 6) (by kernel_rfl) rfl (fun w1 hl K hK => ?_)
      obtain ⟨hS, ho⟩ := HF.out w1 (Later.trans _ _ _ hlA hl)
      have hnw := sl_one (hsl.kept hl)
      have hsw : base ≤ w1.heap.size := by have := hS.box.lt; omega
      clear hsl hl hlA
      refine if_pos_wanted (by rfl) ?_
      refine wp_append1F _ _ 25 rfl elem_int encI_ok rfl hS.put.lab _ 1 v0 rfl hnw (by simp [maxLen]; omega) (by omega) (by omega) ?_
      intro a2 cap2 w' hown' hg hfr
      refine hK.out _ _ (fun h => absurd h (by decide)) ?_
      clear hK K hnw
      simp only [List.getElem_toArray, List.getElem_cons_zero, List.getElem_cons_succ, Act.put, List.setIfInBounds_toArray, List.set_cons_zero, List.set_cons_succ]
      have hfrN : ∀ k, (Value.slice a2 (D.label.length + 1) cap2).ownBlock = some k → k ≠ gl := fun k hk => by
        rcases hfr with h4 | h4
        · exact HLN2.out k (h4.symm.trans hk)
        · have e2 : some w1.heap.size = some k := h4.symm.trans hk
          cases e2
          obtain ⟨_, c, hb⟩ := ho.block gl rfl
          have := hb.lt
          omega
      have hX0 := hS.box.grownT hS.put.lab hg (by decide)
      have ho' := ho.grownNe hg (fun k hk e => HLN2.out k e (by have e2 : some gl = some k := hk; cases e2; rfl))
      refine tpT 7 ?_ rfl (fun w1 => ?_) ?_
      rotate_left
      · go_simp; try with_reducible rfl
      simp only [eA, eB, eC, Act.put, eD, eE, eF]
      refine wpT_one (T := [6, 8]) (i := 8) (by kernel_rfl) rfl (fun w1 hl K hK => ?_)
      have hx := hX0.kept hl
      have x0 := hx.dfa.2.2.1
      have f0 := hx.free 258
      go_simp
      refine hK.out _ _ (fun h => absurd h (by decide)) ?_
      clear hK K x0 f0
      have hSN := hS.label_append hb hg hown' hfr hl
      have hoN := (ho'.kept hl).otherT hx (by decide) 258 (.slice a2 (D.label.length + 1) cap2)
      clear hl hx hX0 hS ho ho' hg hown' hfr
      refine wpT_done (by kernel_rfl) (fun w1 hl => ?_) _
      have hS2 := hSN.kept hb hl
      have ho2 := hoN.kept hl
      clear hSN hoN hl HF HC
      have hfrN : ∀ k, ({ V with la := a2, ln := D.label.length + 1, lc := cap2 } : VDfa).lv.ownBlock = some k → k ≠ gl := hfrN
      generalize ({ V with la := a2, ln := D.label.length + 1, lc := cap2 } : VDfa) = V2 at *
      obtain ⟨W3, hW3⟩ : ∃ W3, w1 = W3 := ⟨_, rfl⟩
      rw [hW3] at hS2 ho2 ⊢
      clear hW3
      obtain ⟨D2, hD2⟩ : ∃ D2 : PDfa, { D with label := D.label ++ [v0] } = D2 := ⟨_, rfl⟩
      have hcx2 : D2.next.length ≤ 4294967296 := by rw [← hD2]; exact hcx
      have hDE : ({ of := D.of, width := D.width, next := D.next ++ [L], label := D.label ++ [v0], names := D.names } : PDfa) = { D2 with next := D2.next ++ [L] } := by rw [← hD2]
      rw [hD2] at hS2
      have HDE := Lib.hid hDE
      clear hD2 hDE
      have HF : Hid (∀ v, Later W3.drew v → InPut w base ws (some ⟨g, 0, none⟩) cap V2 D2 v ∧ Own v W0.heap.size 3 1 encI (.slice (some ⟨gl, 0, none⟩) (j - 2) c') (v0 :: L)) := Lib.hid fun v hl => ⟨(hS2.kept hb (Below.refl _ _).drew).kept hb hl, ho2.drew'.kept hl⟩
      have hcap := ho2.open
      have hlenL : j - 2 = L.length + 1 := hcap.1
      have hcap1 : L.length + 1 ≤ c' := by have := hcap.2.1; simpa using this
      have hcap2 : c' ≤ 9223372036854775807 := hcap.2.2.1
      obtain ⟨o, hif, hof⟩ : ∃ o : Nat, (if c' = 1 then some (⟨gl, 0, none⟩ : Addr) else some ⟨gl, 1, none⟩) = some ⟨gl, o, none⟩ ∧ (o = 1 ∨ L.length = 0) := by
        by_cases h1 : c' = 1
        · exact ⟨0, by rw [if_pos h1], .inr (by omega)⟩
        · exact ⟨1, by rw [if_neg h1], .inl rfl⟩
      have hj1 : (1 : Int) ≤ (L.length : Int) + 1 := by omega
      have hrow : ∀ v, Own v W0.heap.size 3 1 encI (.slice (some ⟨gl, 0, none⟩) (j - 2) c') (v0 :: L) → RowP v base V2.lv.ownBlock (some ⟨gl, o, none⟩, L.length, c' - 1) L := fun v hv => by
        obtain ⟨_, cur, hbx⟩ := hv.block gl rfl
        refine ⟨gl, o, c' - 1, cur, rfl, by omega, by omega, by simp [maxLen]; omega, hbx, fun i hi => ?_, fun e => hfrN gl e rfl⟩
        rcases hof with rfl | h0
        · have := (hv.slice encI_ok).cellsA.2.2.2 (1 + i) (by simp; omega) v (Below.refl _ _)
          rw [hbx.cell] at this
          rw [show (0 : Nat) + (1 + i) = 1 + i by omega] at this
          rw [this]
          simp [Nat.add_comm 1 i]
        · omega
      have HROW := Lib.hid hrow
      clear hS2 ho2 hcap hrow hof hfrN
      rw [hlenL] at HF HROW ⊢
      go_wp2_with fail
      refine wp_region_T (R := Later) [5, 7] (by kernel_rfl) ?_
      refine tpT 0 ?_ rfl (fun w1 => ?_) ?_
      rotate_left
      · go_simp; try with_reducible rfl
      simp only [eA, eB, Act.put, eD, eE, eF]
      refine tkT 1 ?_ rfl (fun w1 hl => ?_) ?_
      rotate_left
      · obtain ⟨hS, ho⟩ := HF.out w1 hl; have x0 := hS.box.dfa.2.1; go_simp; try with_reducible rfl
      simp only [eA, eB, eC, Act.put, eD, eE, eF]
      refine tpT 2 ?_ rfl (fun w1 => ?_) ?_
      rotate_left
      · go_simp; try with_reducible rfl
      simp only [eA, eB, eC, Act.put, eD, eE, eF]
      refine tpT 3 ?_ rfl (fun w1 => ?_) ?_
      rotate_left
      · go_simp; try with_reducible rfl
      simp only [eA, eB, eC, Act.put, eD, eE, eF]
      refine wpT_one (T := [5, 7]) (i := 4) (by kernel_rfl) rfl (fun w1 hl K hK => ?_)
      go_simp
      refine hK.out _ _ (fun _ => later_alloc _ _) ?_
      have hsl := sl_new encR_ok w1 25 [((some ⟨gl, o, none⟩, L.length, c' - 1) : Option Addr × Nat × Nat)] (by simp [maxLen])
      have hlA : Later _ (w1.alloc (.cells #[.slice (some ⟨gl, o, none⟩) L.length (c' - 1)] 25)) := Later.trans _ _ _ hl (later_alloc _ _)
      clear hK K hl
      refine wpT_one (T := [5, 7]) (i := 5) (by kernel_rfl) rfl (fun w1 hl K hK => ?_)
      obtain ⟨hS, ho⟩ := HF.out w1 (Later.trans _ _ _ hlA hl)
      have hnw := sl_one (hsl.kept hl)
      have hsw : base ≤ w1.heap.size := by have := hS.box.lt; omega
      clear hsl hl hlA
      obtain ⟨rows, h1, h2, h3⟩ := hS.put.nxt
      have hr3 : rows.length ≤ 4294967296 := by rw [h2]; exact hcx2
      have HX2 := Lib.hid h2
      clear h2
      refine if_pos_wanted (by rfl) ?_
      refine wp_append1F _ _ 24 rfl elem_ints encR_ok rfl h1 _ 1 ((some ⟨gl, o, none⟩, L.length, c' - 1) : Option Addr × Nat × Nat) rfl hnw (by simp [maxLen]; omega) (by omega) (by omega) ?_
      intro a3 cap3 w' hown' hg hfr
      refine hK.out _ _ (fun h => absurd h (by decide)) ?_
      clear hK K hnw
      simp only [List.getElem_toArray, List.getElem_cons_zero, List.getElem_cons_succ, Act.put, List.setIfInBounds_toArray, List.set_cons_zero, List.set_cons_succ]
      have hX0 := hS.box.grownT h1 hg (by decide)
      refine tpT 6 ?_ rfl (fun w1 => ?_) ?_
      rotate_left
      · go_simp; try with_reducible rfl
      simp only [eA, eB, eC, Act.put, eD, eE, eF]
      refine wpT_one (T := [5, 7]) (i := 7) (by kernel_rfl) rfl (fun w1 hl K hK => ?_)
      have hx := hX0.kept hl
      have x0 := hx.dfa.2.1
      have f0 := hx.free 257
      go_simp
      refine hK.out _ _ (fun h => absurd h (by decide)) ?_
      clear hK K x0 f0
      have hSN := hS.next_append hb h1 HX2.out h3 hg hown' (HROW.out _ ho) hl
      clear hl hx hX0 hS ho hg hown' h1 h3
      refine wpT_done (by kernel_rfl) (fun w1 hl => ?_) _
      have hS2 := hSN.kept hb hl
      clear hSN hl HF HROW
      have hx := hS2.box
      have hr := hS2.res
      generalize ({ V2 with na := a3, nn := rows.length + 1, nc := cap3 } : VDfa) = V3 at *
      go_wp2_with (first | (refine wpList_load_row rfl 28 (.tmp 2) rfl w.heap.size rfl _ _ _ _ hx Tryz.underlying28 rfl (size_dfa V3) ?_) | (refine wpList_store_row rfl 28 (.tmp 4) (.tmp 102) rfl (w.heap.size + 1) _ rfl rfl _ _ hr (size_dfa V3) (VDfa.sizes _ _) V3.all ?_))
      rw [HDE.out]
      exact put_done hS2 hb Tryz.results22 rfl rfl
end Go.Proofs.YtdhmekpgplajmaaGreatDoor
end
section
namespace Go.Proofs.YtdhmekpgplajmaaGreatDoor
open Go.RowKit
/-- The classes, where all bytes below c have been asked. -/
def ofC (p : Nat → Bool) (k : Nat) (of : Nat → Nat) (c : Nat) : Nat → Nat := fun b => if b < c ∧ p b = true then k else of b
theorem ofC_zero (p : Nat → Bool) (k : Nat) (of : Nat → Nat) : ofC p k of 0 = of := by funext b; simp [ofC]
theorem ofC_yes (p : Nat → Bool) (k : Nat) (of : Nat → Nat) (c : Nat) (h : p c = true) : (fun x => if x = c then k else ofC p k of c x) = ofC p k of (c + 1) := by
  funext b
  unfold ofC
  by_cases h1 : b = c
  · subst h1; rw [if_pos rfl, if_pos ⟨by omega, h⟩]
  · rw [if_neg h1]
    by_cases h2 : b < c ∧ p b = true
    · rw [if_pos h2, if_pos ⟨by omega, h2.2⟩]
    · rw [if_neg h2, if_neg (fun h3 => h2 ⟨by omega, h3.2⟩)]
theorem ofC_no (p : Nat → Bool) (k : Nat) (of : Nat → Nat) (c : Nat) (h : p c = false) : ofC p k of c = ofC p k of (c + 1) := by
  funext b
  unfold ofC
  by_cases h2 : b < c ∧ p b = true
  · rw [if_pos h2, if_pos ⟨by omega, h2.2⟩]
  · rw [if_neg h2, if_neg]
    rintro ⟨h3, h5⟩
    refine h2 ⟨?_, h5⟩
    have : b ≠ c := by rintro rfl; rw [h] at h5; cases h5
    omega
theorem ofC_all (f : BSet) (k : Nat) (of : Nat → Nat) : ofC (fun b => mem f b) k of 256 = setOf (elems f) k of := by
  funext b
  unfold ofC setOf
  by_cases h : b ∈ elems f
  · rw [if_pos h, if_pos ⟨elems_lt h, by rw [mem_elems] at h; exact h⟩]
  · rw [if_neg h, if_neg (fun h3 => h (by rw [mem_elems]; exact h3.2))]
theorem ofC_none (k : Nat) (of : Nat → Nat) (c : Nat) : ofC (fun _ => false) k of c = of := by funext b; simp [ofC]
theorem InPut.of_set {w W : World} {base : Nat} {ws : List (List UInt8)} {a : Option Addr} {cap : Nat} {V : VDfa} {D : PDfa} (h : InPut w base ws a cap V D W) (hb : base ≤ w.heap.size) {b : Nat} (hlt : b < 256) (k : Nat) :
    InPut w base ws a cap { V with of := fun x => if x = b then k else V.of x } { D with of := fun x => if x = b then k else D.of x } (W.setCell ⟨w.heap.size, b, none⟩ (.int .u8 (k : Nat))) := by
  have hp := h.put.other (i := b) h.box (by decide) (by decide) (by decide) (.int .u8 (k : Nat))
  refine ⟨?_, h.res.other _ _ (by show w.heap.size + 1 ≠ w.heap.size; omega), ⟨by simp only [hp.of], hp.width, hp.lab, hp.nam, hp.nxt⟩, h.words.otherT h.box (by decide) _ _, h.below.setCell (by show base ≤ w.heap.size; omega) _, h.apart⟩
  rw [← vcells_of V hlt k]
  exact h.box.set b _
theorem InPut.width_set {w W : World} {base : Nat} {ws : List (List UInt8)} {a : Option Addr} {cap : Nat} {V : VDfa} {D : PDfa} (h : InPut w base ws a cap V D W) (hb : base ≤ w.heap.size) (x : Int) :
    InPut w base ws a cap { V with width := x } { D with width := x } (W.setCell ⟨w.heap.size, 256, none⟩ (.int .i64 x)) := by
  have hp := h.put.other (i := 256) h.box (by decide) (by decide) (by decide) (.int .i64 x)
  refine ⟨?_, h.res.other _ _ (by show w.heap.size + 1 ≠ w.heap.size; omega), ⟨hp.of, rfl, hp.lab, hp.nam, hp.nxt⟩, h.words.otherT h.box (by decide) _ _, h.below.setCell (by show base ≤ w.heap.size; omega) _, h.apart⟩
  rw [← vcells_width V x]
  exact h.box.set 256 _
/-- A class's line, under way: the machine, and the set that was read. -/
structure InCls (w : World) (base : Nat) (ws : List (List UInt8)) (a : Option Addr) (cap : Nat) (V : VDfa) (D : PDfa) (b : Nat) (f : BSet) (kd ps : Nat) (W : World) : Prop where
  inp : InPut w base ws a cap V D W
  set : Box W b (setC f) 43
  bad : Box W (b + 1) #[.int .i64 kd, .int .i64 ps] 80
theorem InCls.kept {w W W2 : World} {base : Nat} {ws : List (List UInt8)} {a : Option Addr} {cap : Nat} {V : VDfa} {D : PDfa} {b : Nat} {f : BSet} {kd ps : Nat} (h : InCls w base ws a cap V D b f kd ps W) (hb : base ≤ w.heap.size) (hl : Below W.heap.size W W2) : InCls w base ws a cap V D b f kd ps W2 :=
  ⟨h.inp.kept hb hl, h.set.kept hl, h.bad.kept hl⟩
set_option maxRecDepth 20000 in
set_option maxHeartbeats 3200000 in
theorem put_class (base : Nat) (V : VDfa) (D : PDfa) (ws : List (List UInt8)) (a : Option Addr) (cap : Nat) (w : World) (hp : PutD w base V D) (ho : Own w base 9 1 encT (.slice a ws.length cap) ws) (hb : base ≤ w.heap.size)
    (hne : ∀ k, (Value.slice a ws.length cap).ownBlock = some k → (Value.slice V.ma V.mn V.mc).ownBlock ≠ some k) (hcw : 0 ≤ D.width ∧ D.width ≤ 4294967296) (hlw : ∀ x ∈ ws, x.length ≤ 4611686018427387904) (w1 w2 : List UInt8) (rest : List (List UInt8)) (hn : ws = [99, 108, 97, 115, 115] :: w1 :: w2 :: rest) : Calls Tryz.prog 22 #[.agg V.cells, .slice a ws.length cap] w (RetPut w base (putP D ws)) := by
  have hz := zeroV_dfa
  have hS := InPut.start hp ho hb hne
  obtain ⟨f, jj, kd, ps, hret, hor⟩ := retR_form w2
  obtain ⟨p, hpd⟩ : ∃ p : Nat → Bool, p = fun b => (kd : Int) == 0 && mem f b := ⟨_, rfl⟩
  have hD : putP D ws = { { D with of := ofC p (D.width % 256).toNat D.of 256 } with width := D.width + 1 } := by
    subst hn
    simp only [putP]
    rw [if_neg (by decide), if_pos trivial]
    rcases hor with ⟨rfl, hr⟩ | ⟨hk, q, hr⟩
    · rw [hr]
      dsimp only
      have : p = fun b => mem f b := by rw [hpd]; funext b; simp
      rw [this, ofC_all]
    · rw [hr]
      dsimp only
      have : p = fun _ => false := by rw [hpd]; funext b; simp; omega
      rw [this, ofC_none]
  rw [hD]
  have hw2l : w2.length ≤ 4611686018427387904 := hlw w2 (by rw [hn]; simp)
  have hbytes := fun w => bytes_of (P := Tryz.prog) (src := 9) (dst := 56) w Tryz.underlying9 Tryz.underlying56 Tryz.underlying5 w2 (by omega)
  have hcr := fun g n cap w h => ref04_Read g n cap w2 w h hw2l
  rw [hret, setC_four] at hcr
  have hlen3 : 3 ≤ ws.length := by rw [hn]; simp
  have hlcap : ws.length ≤ 9223372036854775807 := by obtain ⟨_, h1, h2, _⟩ := ho.open; omega
  obtain ⟨g, rfl, hcell⟩ := ho.word (by omega)
  have hw0 : ∀ W' V2 D2, InPut w base ws (some ⟨g, 0, none⟩) cap V2 D2 W' → W'.cell? ⟨g, 0, none⟩ = some (sv [99, 108, 97, 115, 115]) ∧ W'.cell? ⟨g, 2, none⟩ = some (sv w2) := fun W' V2 D2 h' => by
    have h0 := hcell W' h'.words 0 (by omega)
    have h2 := hcell W' h'.words 2 (by omega)
    exact ⟨by simpa [hn] using h0, by simpa [hn] using h2⟩
  have e1 : decide ((ws.length : Int) < 3) = false := by simp; omega
  have e3 : (2 : Int) < (ws.length : Int) := by omega
  have e4 : (0 : Int) < (ws.length : Int) := by omega
  obtain ⟨c0, c2⟩ := hw0 _ _ _ hS
  have HS := Lib.hid hS
  have H0 := Lib.hid hw0
  have HBY := Lib.hid (hbytes ((w.alloc (.cells V.cells 28)).alloc (.cells V0.cells 28)))
  have HCR := Lib.hid hcr
  have hwd := hp.width
  have hV0 : 0 ≤ V.width := by rw [hwd]; exact hcw.1
  have hV1 : V.width ≤ 4294967296 := by rw [hwd]; exact hcw.2
  obtain ⟨kk, hkk⟩ : ∃ kk, (D.width % 256).toNat = kk := ⟨_, rfl⟩
  have hwr : IntKind.u8.wrap V.width = (kk : Int) := by rw [IntKind.wrap_u8', ← hkk, hwd]; omega
  have hwi : IntKind.i64.wrap (V.width + 1) = V.width + 1 := IntWalk.i64_in _ (by omega)
  have HPD := Lib.hid hpd
  have HWD := Lib.hid hwd
  rw [hkk, ← hwd]
  clear hp ho hne hS hD hn hcell hw0 hlen3 hbytes hcr hret hor hpd hcw hlw hwd hkk
  obtain ⟨n, hn⟩ : ∃ n, ws.length = n := ⟨_, rfl⟩
  rw [hn] at e1 e3 e4 hlcap ⊢
  clear hn
  go_enter Tryz.func22, Tryz.ntmps22
  obtain ⟨cap3, w3, hcv, hB3, hsl⟩ := HBY.out
  simp only [World.size_alloc] at hcv hsl
  clear HBY
  go_wp2_with fail
  refine (HCR.out _ _ _ _ hsl).mono ?_
  rintro e w4 ⟨rfl, hB4⟩
  go_wp2_with fail
  generalize ((w.alloc (.cells V.cells 28)).alloc (.cells V0.cells 28)) = W0 at *
  have hS4 := (HS.out.kept hb hB3).kept hb hB4
  have hC : InCls w base ws (some ⟨g, 0, none⟩) cap V D w4.heap.size f kd ps ((w4.alloc (.cells (setC f) 43)).alloc (.cells #[.int .i64 kd, .int .i64 ps] 80)) :=
    ⟨(hS4.kept hb (later_alloc _ _)).kept hb (later_alloc _ _), (Box.new' rfl _ _).alloc _, Box.new' (by simp) _ _⟩
  unfold setC at hC
  have hbw : w.heap.size < w4.heap.size := hS4.box.lt
  clear hS4 hB3 hB4 hcv hsl HCR HS c0 c2
  generalize ((w4.alloc (.cells #[.int .u64 (word f 0 : Nat), .int .u64 (word f 1 : Nat), .int .u64 (word f 2 : Nat), .int .u64 (word f 3 : Nat)] 43)).alloc (.cells #[.int .i64 kd, .int .i64 ps] 80)) = W at *
  generalize w4.heap.size = b at *
  have HC := Lib.hid hC
  clear hC
  go_loopw [8] (fun i wr => ∃ c : Nat, c ≤ 256 ∧ i = .int .i64 c ∧ InCls w base ws (some ⟨g, 0, none⟩) cap { V with of := ofC p kk V.of c } { D with of := ofC p kk D.of c } b f kd ps wr) (fun i _ => 256 - (intOf i).toNat)
  case atStart => exact ⟨0, by omega, rfl, by rw [ofC_zero, ofC_zero]; exact HC.out⟩
  case round =>
    clear HC
    obtain ⟨c, hc, rfl, hC⟩ := hrel
    by_cases hlt : c < 256
    · have hci : (c : Int) < 256 := by omega
      have hc0 : (0 : Int) ≤ (c : Int) := by omega
      have hdc : decide ((c : Int) < 256) = true := decide_eq_true hci
      have x0 := hC.bad.cell 0
      cases hk : ((kd : Int) == 0) with
      | false =>
        have hno := HPD.out
        have hpc : p c = false := by rw [hno, hk]; rfl
        have HNO := Lib.hid (And.intro (ofC_no p kk V.of c hpc) (ofC_no p kk D.of c hpc))
        clear hno hpc
        go_wp2
        go_roundw
        case rel => exact ⟨c + 1, hlt, by go_num, by rw [← HNO.out.1, ← HNO.out.2]; exact hC⟩
        case measure => simp [intOf]; omega
      | true =>
        have hpm : p c = mem f c := by rw [HPD.out, hk]; rfl
        obtain ⟨⟨c0, c1, c2, c3⟩, _⟩ := hC.set.set4
        have hHas := fun w1 => ref_Has f c w1 hlt
        cases hm : mem f c with
        | false =>
          rw [hm] at hpm hHas
          have HNO := Lib.hid (And.intro (ofC_no p kk V.of c hpm) (ofC_no p kk D.of c hpm))
          have HH := Lib.hid hHas
          clear hpm hHas hm
          go_wp2_with (go_at_call 50; go_must (refine (HH.out _).mono ?_; rintro e w5 ⟨rfl, hB5⟩; have hC5 := hC.kept hb hB5))
          go_roundw
          case rel => exact ⟨c + 1, hlt, by go_num, by rw [← HNO.out.1, ← HNO.out.2]; exact hC5⟩
          case measure => simp [intOf]; omega
        | true =>
          rw [hm] at hpm hHas
          have HYES := Lib.hid (And.intro (ofC_yes p kk V.of c hpm) (ofC_yes p kk D.of c hpm))
          have HH := Lib.hid hHas
          clear hpm hHas hm
          go_wp2_with (go_at_call 50; go_must (refine (HH.out _).mono ?_; rintro e w5 ⟨rfl, hB5⟩; have hC5 := hC.kept hb hB5; have y0 := hC5.inp.box.dfa.1; have yf := hC5.inp.box.free c; have yc := (hC5.inp.box.cell c).trans (VDfa.get_of _ c hlt)))
          go_roundw
          case rel =>
            refine ⟨c + 1, hlt, by go_num, ?_⟩
            rw [← HYES.out.1, ← HYES.out.2]
            exact ⟨hC5.inp.of_set hb hlt kk, hC5.set.other _ _ (by show b ≠ w.heap.size; omega), hC5.bad.other _ _ (by show b + 1 ≠ w.heap.size; omega)⟩
          case measure => simp [intOf]; omega
    · obtain rfl : c = 256 := by omega
      have hdc : decide ((256 : Int) < 256) = false := by decide
      have hS := hC.inp
      have hx := hS.box.dfa.1
      have hf := hS.box.free 256
      have hS2 := hS.width_set hb (V.width + 1)
      have c0 := (H0.out _ _ _ hS2).1
      have hx2 := hS2.box
      have hr2 := hS2.res
      have HS2 := Lib.hid hS2
      clear hS hS2 hC
      go_wp2_with (first | (refine wpList_load_row rfl 28 (.tmp 2) rfl w.heap.size rfl _ _ _ _ hx2 Tryz.underlying28 rfl (size_dfa _) ?_) | (refine wpList_store_row rfl 28 (.tmp 4) (.tmp 102) rfl (w.heap.size + 1) _ rfl rfl _ _ hr2 (size_dfa _) (VDfa.sizes _ _) (VDfa.all _) ?_))
      exact put_done HS2.out hb Tryz.results22 rfl rfl
end Go.Proofs.YtdhmekpgplajmaaGreatDoor
end
section
namespace Go.Proofs.YtdhmekpgplajmaaGreatDoor
open Go.RowKit
theorem ref36_put (base : Nat) (V : VDfa) (D : PDfa) (ws : List (List UInt8)) (a : Option Addr) (cap : Nat) (w : World) (hp : PutD w base V D) (ho : Own w base 9 1 encT (.slice a ws.length cap) ws) (hb : base ≤ w.heap.size)
    (hne : ∀ k, (Value.slice a ws.length cap).ownBlock = some k → (Value.slice V.ma V.mn V.mc).ownBlock ≠ some k) (hcn : D.names.length ≤ 4294967296) (hcl : D.label.length ≤ 4294967296) (hcx : D.next.length ≤ 4294967296) (hcw : 0 ≤ D.width ∧ D.width ≤ 4294967296)
    (hlw : ∀ x ∈ ws, x.length ≤ 4611686018427387904) (hnw : ws.length ≤ 4294967296) : Calls Tryz.prog 22 #[.agg V.cells, .slice a ws.length cap] w (RetPut w base (putP D ws)) := by
  by_cases h3 : ws.length < 3
  · exact put_short base V D ws a cap w hp ho hb hne h3
  · match hn : ws with
    | [] => simp at h3
    | [_] => simp at h3
    | [_, _] => simp at h3
    | w0 :: w1 :: w2 :: rest =>
      rw [← hn] at ho hne hlw hnw ⊢
      by_cases q1 : w0 = [110, 97, 109, 101]
      · subst q1; exact put_name base V D ws a cap w hp ho hb hne hcn w1 w2 rest hn
      · by_cases q2 : w0 = [99, 108, 97, 115, 115]
        · subst q2; exact put_class base V D ws a cap w hp ho hb hne hcw hlw w1 w2 rest hn
        · by_cases q3 : w0 = [115, 116, 97, 116, 101]
          · subst q3; exact put_state base V D ws a cap w hp ho hb hne hcl hcx (fun x hx => by have := hlw x hx; omega) hnw w1 w2 rest hn
          · exact put_other base V D ws a cap w hp ho hb hne w0 q1 q2 q3 w1 w2 rest hn
/-- How much has been put at most. -/
structure Bd (m k : Nat) (D : PDfa) : Prop where
  names : D.names.length ≤ k
  label : D.label.length ≤ k
  next : D.next.length ≤ k
  width : 0 ≤ D.width ∧ D.width ≤ k
  of : ∀ b, D.of b < 256
  lens : ∀ x ∈ D.names, x.length ≤ m
theorem Bd.start (m : Nat) : Bd m 0 D0 := ⟨Nat.le_refl _, Nat.le_refl _, Nat.le_refl _, ⟨by decide, by decide⟩, fun _ => by show 0 < 256; decide, fun x hx => by cases hx⟩
theorem Bd.more {m k : Nat} {D : PDfa} (h : Bd m k D) : Bd m (k + 1) D := ⟨Nat.le_succ_of_le h.names, Nat.le_succ_of_le h.label, Nat.le_succ_of_le h.next, ⟨h.width.1, by have := h.width.2; omega⟩, h.of, h.lens⟩
theorem Bd.put {m k : Nat} {D : PDfa} (h : Bd m k D) (ws : List (List UInt8)) (hw : ∀ x ∈ ws, x.length ≤ m) : Bd m (k + 1) (putP D ws) := by
  unfold putP
  split
  · rename_i w0 w1 w2 rest
    have hw2 := hw w2 (by simp)
    split
    · refine ⟨by simp [h.names], Nat.le_succ_of_le h.label, Nat.le_succ_of_le h.next, ⟨h.width.1, by have := h.width.2; dsimp only; omega⟩, h.of, fun x hx => ?_⟩
      rcases List.mem_append.1 hx with hx | hx
      · exact h.lens x hx
      · rw [List.mem_singleton] at hx; subst hx; exact hw2
    · split
      · refine ⟨Nat.le_succ_of_le h.names, Nat.le_succ_of_le h.label, Nat.le_succ_of_le h.next, ⟨by have := h.width.1; dsimp only; omega, by have := h.width.2; dsimp only; omega⟩, fun b => ?_, h.lens⟩
        dsimp only
        generalize readR w2 = q
        cases q with
        | inl _ => exact h.of b
        | inr p =>
          show setOf _ _ _ b < 256
          unfold setOf
          split
          · omega
          · exact h.of b
      · split
        · exact ⟨Nat.le_succ_of_le h.names, by simp [h.label], by simp [h.next], ⟨h.width.1, by have := h.width.2; dsimp only; omega⟩, h.of, h.lens⟩
        · exact h.more
  · exact h.more
theorem Own.belowB {α : Type} {w w' : World} {base E size B : Nat} {enc : α → List Value} {v : Value} {xs : List α} (h : Own w base E size enc v xs) (hk : ∀ k, v.ownBlock = some k → k < B) (hb : Below B w w') : Own w' base E size enc v xs := by
  obtain ⟨a, cap, rfl, hle, hm, hh⟩ := h
  refine ⟨a, cap, rfl, hle, hm, ?_⟩
  rcases hh with hh | ⟨g, cur, rfl, hbg, hg, hr⟩
  · exact .inl hh
  · exact .inr ⟨g, cur, rfl, hbg, hg.below hb (hk g rfl), hr⟩
theorem putAll_take {L : List (List (List UInt8))} {k : Nat} (h : k < L.length) (D : PDfa) : putAll D (L.take (k + 1)) = putP (putAll D (L.take k)) L[k] := by
  rw [List.take_succ_eq_append_getElem h, putAll_append]
  rfl
theorem Bd.all {m : Nat} (L : List (List (List UInt8))) (hL : ∀ ws ∈ L, ∀ x ∈ ws, x.length ≤ m) : ∀ k, k ≤ L.length → Bd m k (putAll D0 (L.take k))
  | 0, _ => Bd.start m
  | k + 1, h => by rw [putAll_take (show k < L.length by omega)]; exact (Bd.all L hL k (by omega)).put _ (hL _ (List.getElem_mem _))
def RetRef36 (w : World) (s : List UInt8) (e : Ending) (w' : World) : Prop :=
  Below w.heap.size w w' ∧ match refP s with
    | some D => ∃ V, e = .returned (.tuple #[.agg V.cells, .int .i64 0]) ∧ ReadsD w' V D
    | none => e = .returned (.tuple #[.agg V0.cells, .int .i64 3])
/-- Between two lines. -/
structure Rd36 (w : World) (base n cap : Nat) (a : Option Addr) (L : List (List UInt8)) (V : VDfa) (D : PDfa) (W : World) : Prop where
  res : Box W w.heap.size V0.cells 28
  box : Box W (w.heap.size + 1) V.cells 28
  put : PutD W base V D
  own : Own W (w.heap.size + 1) 9 1 encT (.slice a n cap) L
  below : Below w.heap.size w W
  size : base ≤ W.heap.size
theorem Rd36.kept {w W W2 : World} {base n cap : Nat} {a : Option Addr} {L : List (List UInt8)} {V : VDfa} {D : PDfa} (h : Rd36 w base n cap a L V D W) (hl : Below W.heap.size W W2) : Rd36 w base n cap a L V D W2 :=
  ⟨h.res.kept hl, h.box.kept hl, h.put.kept hl, h.own.kept hl, h.below.trans (hl.mono h.below.size), Nat.le_trans h.size hl.size⟩
set_option maxRecDepth 20000 in
set_option maxHeartbeats 3200000 in
theorem ref36_Read (s : List UInt8) (w : World) (hs : s.length ≤ 4194304) : Calls Tryz.prog 7 #[sv s] w (RetRef36 w s) := by
  have hz := zeroV_dfa
  have hx0 : Box ((w.alloc (.cells V0.cells 28)).alloc (.cells V0.cells 28)) w.heap.size V0.cells 28 := (Box.new _ _ _).alloc _
  have hx1 : Box ((w.alloc (.cells V0.cells 28)).alloc (.cells V0.cells 28)) (w.heap.size + 1) V0.cells 28 := Box.new' (by simp) _ _
  have hB0 : Below w.heap.size w ((w.alloc (.cells V0.cells 28)).alloc (.cells V0.cells 28)) := ((Below.refl _ w).alloc (Nat.le_refl _) _).alloc (by simp) _
  have hli := fun w => ref36_lines s w hs
  have e1 : decide (4194304 < (s.length : Int)) = false := by simp; omega
  have HLI := Lib.hid hli
  clear hli
  go_enter Tryz.func7, Tryz.ntmps7
  go_wp2_with (first | (refine wpList_store_new rfl 28 (.tmp 4) (.tmp 13) rfl _ _ rfl rfl (by simp) (size_dfa V0) (VDfa.sizes _ _) (VDfa.all _) ?_))
  refine (HLI.out _).mono ?_
  intro e w5 h5
  obtain ⟨a, cap, rfl, ho5, hB5⟩ := h5.open
  clear h5
  have hS5 : Rd36 w w5.heap.size (linesR s).length cap a (linesR s) V0 D0 w5 := ⟨hx0.kept hB5, hx1.kept hB5, PutD.start _ _, ho5.mono (by simp), hB0.trans (hB5.mono hB0.size), Nat.le_refl _⟩
  have hlb : ∀ k, (Value.slice a (linesR s).length cap).ownBlock = some k → k < w5.heap.size := fun k hk => by obtain ⟨_, c, hb⟩ := ho5.block k hk; exact hb.lt
  obtain ⟨L, hL⟩ : ∃ L, linesR s = L := ⟨_, rfl⟩
  have hln := (splitL_length 10 s).1
  have hln1 : L.length ≤ 4194304 := by rw [← hL]; unfold linesR; rw [List.length_dropLast]; omega
  have hlx : ∀ x ∈ L, x.length ≤ 4194304 := fun x hx => by
    rw [← hL] at hx
    have := (splitL_length 10 s).2 x (List.dropLast_subset _ hx)
    omega
  have href : refD s = putAll D0 (L.map (splitL 32)) := by unfold refD; rw [hL]
  have hbd := Bd.all (m := 4194304) (L.map (splitL 32)) (fun ws hws x hx => by
    obtain ⟨l, hl, rfl⟩ := List.mem_map.1 hws
    have h1 := hlx l hl
    have h2 := (splitL_length 32 l).2 x hx
    omega)
  have hpt : ∀ k (h : k < L.length), putAll D0 ((L.map (splitL 32)).take (k + 1)) = putP (putAll D0 ((L.map (splitL 32)).take k)) (splitL 32 L[k]) := fun k h => by
    rw [putAll_take (show k < (L.map (splitL 32)).length by simpa using h)]; simp
  have hall : (L.map (splitL 32)).take L.length = L.map (splitL 32) := List.take_of_length_le (by simp)
  rw [hL] at hS5 hlb ⊢
  rw [List.length_map] at hbd
  obtain ⟨n, hn⟩ : ∃ n, L.length = n := ⟨_, rfl⟩
  rw [hn] at hS5 hlb hln1 hall hbd ⊢
  have HN := Lib.hid hn
  have HLB := Lib.hid hlb
  have HLX := Lib.hid hlx
  have HRF := Lib.hid href
  have HBD := Lib.hid hbd
  have HPT := Lib.hid hpt
  have HAL := Lib.hid hall
  have hbs : w.heap.size + 1 < w5.heap.size := (hx1.kept hB5).lt
  obtain ⟨base, hbase⟩ : ∃ base, w5.heap.size = base := ⟨_, rfl⟩
  rw [hbase] at hbs
  rw [hbase] at hS5 HLB
  clear hn hlb hlx href hbd hpt hall hL hln HLI ho5 hB5 hx0 hx1 hB0 hbase
  go_wp2
  go_loopw [6] (fun i wr => ∃ (k : Nat) (V : VDfa), k ≤ n ∧ i = .int .i64 k ∧ Rd36 w base n cap a L V (putAll D0 ((L.map (splitL 32)).take k)) wr) (fun i _ => n - (intOf i).toNat)
  case atStart => exact ⟨0, V0, Nat.zero_le _, rfl, hS5⟩
  case round =>
    clear hS5
    obtain ⟨k, V, hk, rfl, hS⟩ := hrel
    by_cases hlt : k < n
    · have hkL : k < L.length := by rw [HN.out]; exact hlt
      have hdk : decide ((k : Int) < (n : Int)) = true := decide_eq_true (by omega)
      have hki : (k : Int) < (n : Int) := by omega
      have hk0 : (0 : Int) ≤ (k : Int) := by omega
      obtain ⟨g, rfl, hcell⟩ := hS.own.word (by rw [HN.out]; omega)
      have hck : ∀ W, Rd36 w base n cap (some ⟨g, 0, none⟩) L V (putAll D0 ((L.map (splitL 32)).take k)) W → W.cell? ⟨g, k, none⟩ = some (sv L[k]) := fun W h => hcell W h.own k hkL
      have hxl := HLX.out _ (List.getElem_mem hkL)
      have hsp := splitL_length 32 L[k]
      have hwd := fun w1 => ref36_words L[k] w1 hxl
      have hpk := HPT.out k hkL
      have hbk := HBD.out k hk
      obtain ⟨D2, hD2⟩ : ∃ D2, putAll D0 ((L.map (splitL 32)).take (k + 1)) = D2 := ⟨_, rfl⟩
      rw [hD2] at hpk
      have HD2 := Lib.hid hD2
      clear hD2
      generalize putAll D0 ((L.map (splitL 32)).take k) = D at *
      generalize L[k] = x at *
      have HCK := Lib.hid hck
      have HWD := Lib.hid hwd
      have HPK := Lib.hid hpk
      have HF : Hid (∀ v, Later wr.drew v → Rd36 w base n cap (some ⟨g, 0, none⟩) L V D v) := Lib.hid fun v hl => (hS.kept (Below.refl _ _).drew).kept hl
      clear hck hwd hpk hcell hS
      go_wp2_with fail
      refine wp_region_T (R := Later) [6, 7] (by kernel_rfl) ?_
      refine wpT_take (T := [6, 7]) (i := 0) rfl (by kernel_rfl) (by kernel_rfl) (by kernel_rfl) (by kernel_rfl) (fun _ _ _ h => h) (by rfl) (fun w1 hl => run_load_box 28 _ rfl _ rfl ((HF.out w1 hl).box) Tryz.underlying28 rfl (size_dfa V)) ?_
      simp only [eA, eB, Act.put, eD, eE, eF]
      refine tpT 1 ?_ rfl (fun w1 => ?_) ?_
      rotate_left
      · go_simp; try with_reducible rfl
      simp only [eA, eB, eC, Act.put, eD, eE, eF]
      refine tpT 2 ?_ rfl (fun w1 => ?_) ?_
      rotate_left
      · go_simp; try with_reducible rfl
      simp only [eA, eB, eC, Act.put, eD, eE, eF]
      refine tpT 3 ?_ rfl (fun w1 => ?_) ?_
      rotate_left
      · go_simp; try with_reducible rfl
      simp only [eA, eB, eC, Act.put, eD, eE, eF]
      refine tkT 4 ?_ rfl (fun w1 hl => ?_) ?_
      rotate_left
      · have hS := HF.out w1 hl; have c0 := HCK.out w1 hS; go_simp; try with_reducible rfl
      simp only [eA, eB, eC, Act.put, eD, eE, eF]
      refine wpT_one (T := [6, 7]) (i := 5) (by kernel_rfl) rfl (fun w1 hl K hK => ?_)
      have hS1 := HF.out w1 hl
      clear HF hl
      go_simp
      refine (HWD.out _).mono ?_
      intro e w6 h6
      obtain ⟨a6, cap6, rfl, ho6, hB6⟩ := h6.open
      refine hK.out _ _ (fun _ => hB6) ?_
      clear hK K h6
      have hS6 := hS1.kept hB6
      have hap : ∀ q, (Value.slice a6 (splitL 32 x).length cap6).ownBlock = some q → (Value.slice V.ma V.mn V.mc).ownBlock ≠ some q := fun q hq he => by
        have h1 := (ho6.block q hq).1
        obtain ⟨_, c, hb⟩ := hS1.put.nam.block q he
        have := hb.lt
        omega
      have hsz1 := hS1.size
      clear hS1 hB6
      refine wpT_one (T := [6, 7]) (i := 6) (by kernel_rfl) rfl (fun w1 hl K hK => ?_)
      have hS7 := hS6.kept hl
      have ho7 := (ho6.kept hl).mono hsz1
      clear hl ho6 hS6
      go_simp
      refine (ref36_put base V D (splitL 32 x) a6 cap6 w1 hS7.put ho7 hS7.size hap (by have := hbk.names; omega) (by have := hbk.label; omega) (by have := hbk.next; omega) ⟨hbk.width.1, by have := hbk.width.2; omega⟩ (fun y hy => by have := hsp.2 y hy; omega) (by have := hsp.1; omega)).mono ?_
      rintro e w7 ⟨hB7, V2, rfl, hp7⟩
      refine hK.out _ _ (fun h => absurd h (by decide)) ?_
      clear hK K
      rw [← HPK.out] at hp7
      have hS8 : Rd36 w base n cap (some ⟨g, 0, none⟩) L V D w1 := hS7
      have hx8 : Box w7 (w.heap.size + 1) V.cells 28 := hS7.box.below hB7 hbs
      have hr8 : Box w7 w.heap.size V0.cells 28 := hS7.res.below hB7 (by omega)
      have ho8 := hS7.own.belowB HLB.out hB7
      have hb8 := hS7.below.trans (hB7.mono (by omega))
      have hs8 : base ≤ w7.heap.size := Nat.le_trans hS7.size hB7.size
      clear hS7 hS8 ho7 hap hB7
      refine wpT_one (T := [6, 7]) (i := 7) (by kernel_rfl) rfl (fun w1 hl K hK => ?_)
      refine if_pos_wanted (by rfl) ?_
      refine wp_store_row 28 (.tmp 4) (.tmp 28) rfl (w.heap.size + 1) _ rfl rfl _ _ (hx8.kept hl) (size_dfa V2) (VDfa.sizes _ _) V2.all ?_
      refine hK.out _ _ (fun h => absurd h (by decide)) ?_
      clear hK K
      have hx9 := hx8.kept hl
      have hS9 : Rd36 w base n cap (some ⟨g, 0, none⟩) L V2 D2 (w1.setRow (w.heap.size + 1) V2.cells) :=
        ⟨(hr8.kept hl).setRow_other _ (by omega), hx9.setRow _, (hp7.kept hl).setRow hx9 (by decide) (by decide) (by decide) _, (ho8.kept hl).setRowT hx9 (by decide) _, below_setRow (hb8.trans (hl.mono hb8.size)) (by omega) _, by rw [setRow_size]; exact Nat.le_trans hs8 hl.size⟩
      clear hl hx9 hx8 hr8 ho8 hb8 hs8 hp7
      refine wpT_done (by kernel_rfl) (fun w1 hl => ?_) _
      have hS9 := hS9.kept hl
      clear hl
      go_wp2
      go_roundw
      case rel => exact ⟨k + 1, V2, hlt, by go_num, by rw [HD2.out]; exact hS9⟩
      case measure => simp [intOf]; omega
    · obtain rfl : k = n := by omega
      have hdk : decide ((k : Int) < (k : Int)) = false := decide_eq_false (by omega)
      have hbd := HBD.out k (Nat.le_refl _)
      rw [HAL.out, ← HRF.out] at hS hbd
      have hrf : refP s = if rightD (refD s) = true ∧ textD (refD s) = s then some (refD s) else none := rfl
      have htx := fun w1 hb => ref36_Text V (refD s) w1 (hS.put.reads.kept (w' := w1) hb) (by rw [hS.put.of]; exact hbd.of) (fun x hx => by have := hbd.lens x hx; omega)
      generalize refD s = D at *
      clear HPT HLX HBD HAL HRF
      have hb0 := hS.below
      have hx := hS.box
      have hr := hS.res
      cases hrD : rightD D with
      | false =>
        rw [hrD] at htx
        have HT := Lib.hid htx
        have HR := Lib.hid (show refP s = none by rw [hrf, hrD]; simp)
        clear htx hrf hrD
        go_wp2_with (first | (refine wpList_load_row rfl 28 (.tmp 4) rfl (w.heap.size + 1) rfl _ _ _ _ hx Tryz.underlying28 rfl (size_dfa V) ?_) | (go_at_call 12; go_must (refine (HT.out _ (Below.refl _ _)).mono ?_; rintro e w6 ⟨rfl, hB6⟩; have hS6 := hS.kept hB6; have hr6 := hS6.res)) | (refine wpList_store_row rfl 28 (.tmp 2) (.tmp 41) rfl w.heap.size _ rfl rfl _ _ hr6 (size_dfa V0) (VDfa.sizes _ _) V0.all ?_))
        exact ret_box_tmp Tryz.results7 rfl rfl (hr6.setRow _) Tryz.underlying28 rfl (size_dfa V0) rfl ⟨below_setRow hS6.below (Nat.le_refl _) _, by rw [HR.out]; rfl⟩
      | true =>
        rw [hrD] at htx
        cases hq : (textD D == s) with
        | false =>
          have HR := Lib.hid (show refP s = none by rw [hrf, if_neg]; rintro ⟨_, h⟩; rw [beq_eq_false_iff_ne] at hq; exact hq h)
          generalize textD D = td at *
          have HT := Lib.hid htx
          clear htx hrf hrD
          go_wp2_with (first | (refine wpList_load_row rfl 28 (.tmp 4) rfl (w.heap.size + 1) rfl _ _ _ _ hx Tryz.underlying28 rfl (size_dfa V) ?_) | (go_at_call 12; go_must (refine (HT.out _ (Below.refl _ _)).mono ?_; rintro e w6 ⟨rfl, hB6⟩; have hS6 := hS.kept hB6; have hr6 := hS6.res)) | (refine wpList_store_row rfl 28 (.tmp 2) (.tmp 41) rfl w.heap.size _ rfl rfl _ _ hr6 (size_dfa V0) (VDfa.sizes _ _) V0.all ?_))
          exact ret_box_tmp Tryz.results7 rfl rfl (hr6.setRow _) Tryz.underlying28 rfl (size_dfa V0) rfl ⟨below_setRow hS6.below (Nat.le_refl _) _, by rw [HR.out]; rfl⟩
        | true =>
          have htd : textD D = s := by simpa using hq
          have HR := Lib.hid (show refP s = some D by rw [hrf, if_pos ⟨hrD, htd⟩])
          rw [htd] at htx
          have HT := Lib.hid htx
          have e2 : (s == s) = true := by simp
          clear htx hrf hrD hq htd
          go_wp2_with (first | (refine wpList_load_row rfl 28 (.tmp 4) rfl (w.heap.size + 1) rfl _ _ _ _ hx Tryz.underlying28 rfl (size_dfa V) ?_) | (go_at_call 12; go_must (refine (HT.out _ (Below.refl _ _)).mono ?_; rintro e w6 ⟨rfl, hB6⟩; have hS6 := hS.kept hB6; have hr6 := hS6.res; have hx6 := hS6.box)) | (refine wpList_load_row rfl 28 (.tmp 4) rfl (w.heap.size + 1) rfl _ _ _ _ hx6 Tryz.underlying28 rfl (size_dfa V) ?_) | (refine wpList_store_row rfl 28 (.tmp 2) (.tmp 42) rfl w.heap.size _ rfl rfl _ _ hr6 (size_dfa V) (VDfa.sizes _ _) V.all ?_))
          exact ret_box_tmp Tryz.results7 rfl rfl (hr6.setRow _) Tryz.underlying28 rfl (size_dfa V) rfl ⟨below_setRow hS6.below (Nat.le_refl _) _, by rw [HR.out]; exact ⟨V, rfl, (hS6.put.setRow hr6 (by decide) (by decide) (by decide) _).reads⟩⟩
end Go.Proofs.YtdhmekpgplajmaaGreatDoor
end
