/- The walk through a tree's nodes: a range over a function; how many nodes there are. -/
import Derived.Test.YtinlfbacfmmfpaaProg
import Derived.Test.YtinlfbacfmmfpaaTreeOwn
import Derived.Test.YtinlfbacfmmfpaaRange
namespace Go.Proofs.Ytinlfbacfmmfpaa
open Go.RowKit Go.Shelf
attribute [local go_sem] Oper.semAt_some

mutual
def preV : Vt → List Vt
  | .mk k s a cap kids lo hi => .mk k s a cap kids lo hi :: preVs kids
def preVs : List Vt → List Vt
  | [] => []
  | a :: l => preV a ++ preVs l
end
theorem preVs_append (l m : List Vt) : preVs (l ++ m) = preVs l ++ preVs m := by
  induction l with
  | nil => simp [preVs]
  | cons a l ih => simp [preVs, ih]
theorem preVs_take (l : List Vt) (j : Nat) (h : j < l.length) : preVs (l.take (j + 1)) = preVs (l.take j) ++ preV l[j] := by
  rw [List.take_succ_eq_append_getElem h, preVs_append]; simp [preVs]
theorem preVs_split (l : List Vt) (j : Nat) (h : j < l.length) : preVs l = preVs (l.take j) ++ (preV l[j] ++ preVs (l.drop (j + 1))) := by
  have : l = l.take j ++ (l[j] :: l.drop (j + 1)) := by simp
  have e := congrArg preVs this
  rw [preVs_append] at e
  simpa [preVs] using e
theorem preV_len : ∀ V : Vt, (preV V).length = sizeT V.tr := by
  refine Vt.ind fun k s a cap kids lo hi ih => ?_
  rw [Vt.tr_mk]
  have key : ∀ l : List Vt, (∀ i (h : i < l.length), (preV l[i]).length = sizeT (Vt.tr l[i])) → (preVs l).length = sizeTs (l.map Vt.tr) := by
    intro l
    induction l with
    | nil => intro _; rfl
    | cons a l ihl =>
      intro h
      have h0 := h 0 (by simp)
      have h1 := ihl fun i hi => h (i + 1) (Nat.succ_lt_succ hi)
      simp only [List.getElem_cons_zero] at h0
      simp [preVs, sizeTs, h0, h1]
  simp [preV, sizeT, key kids ih]; omega
/-- Trees lie on, where the blocks of cells do. -/
theorem Lies.keptC {X : Nat → Prop} {w w' : World} {V : Vt} (h : Lies w V) (ho : On (fun b => ¬ X b) V) (hk : KeepC X w w') : Lies w' V := by
  induction h with
  | mk k s a cap kids lo hi h1 h2 h3 hs _ ih =>
    cases ho with
    | mk _ _ _ _ _ _ _ g1 g2 => exact .mk k s a cap kids lo hi h1 h2 h3 (hk.slice hs g1) fun i hi => ih i hi (g2 i hi)
theorem On.open {S : Nat → Prop} {k : Int} {s : BSet} {a : Option Addr} {cap : Nat} {kids : List Vt} {lo hi : Int} (h : On S (.mk k s a cap kids lo hi)) : (0 < kids.length → ∀ ad, a = some ad → S ad.block) ∧ ∀ i (h : i < kids.length), On S kids[i] := by
  cases h with
  | mk _ _ _ _ _ _ _ g1 g2 => exact ⟨g1, g2⟩
abbrev encV (x : Vt) : Array Value := #[.agg x.cells.toArray]
/-- What a round of the loop over a tree's nodes does. -/
def WalkPost (X : Nat → Prop) (J Jx : List Vt → World → Prop) (pre q : List Vt) (W : World) (e : Ending) (W' : World) : Prop :=
  (e = .returned (.bool true) ∧ J (pre ++ q) W' ∧ KeepC X W W') ∨ (e = .returned (.bool false) ∧ ∃ r, r <+: q ∧ Jx (pre ++ r) W')
def WalkRel (X : Nat → Prop) (J : List Vt → World → Prop) (kids : List Vt) (pre : List Vt) (W wr : World) (i : Value) : Prop :=
  ∃ j : Nat, j ≤ kids.length ∧ i = .int .i64 j ∧ J (pre ++ preVs (kids.take j)) wr ∧ KeepC X W wr
set_option maxRecDepth 100000 in
set_option maxHeartbeats 2000000 in
theorem treeWalk_fence (F : Fence) (hd : F.depth = none) (hF : F.fn 71) (hro : F.round = none) (l N Bx : Nat) (X : Nat → Prop) (hX : ∀ b, X b → b < Bx) (J Jx : List Vt → World → Prop) (hJ : AbidesFrom Bx J)
    (hY : ∀ m pre x W, J pre W → pre.length < N → YieldAt F m Try.prog l (encV x) W fun e W' => (e = .returned (.bool true) ∧ J (pre ++ [x]) W' ∧ KeepC X W W') ∨ (e = .returned (.bool false) ∧ Jx (pre ++ [x]) W')) :
    ∀ (V : Vt) (n : Nat) (pre : List Vt) (W : World), Lies W V → On (fun b => ¬ X b) V → Bx ≤ W.heap.size → J pre W → pre.length + (preV V).length ≤ N →
      CallsIn F n Try.prog 71 #[.agg V.cells.toArray, .func (.yield l) #[] #[]] W (WalkPost X J Jx pre (preV V) W) := by
  refine Vt.ind fun k s a cap kids lo hi ih n pre W hL hO hB hJ0 hN => ?_
  have hdd : ∀ k : Nat, (F.depth.isSome = true → 1 ≤ k) := fun k h => by rw [hd] at h; cases h
  have hb1 := (Below.refl W.heap.size W).alloc (Nat.le_refl _) (.cells (nodeC k s a kids.length cap lo hi).toArray 37)
  have hJ1 := abides_below hJ hJ0 hb1
  have hbx := Box.new W (nodeC k s a kids.length cap lo hi).toArray 37
  have hk1 : KeepC X W (W.alloc (.cells (nodeC k s a kids.length cap lo hi).toArray 37)) := KeepC.below hb1
  have hNX : ¬ X W.heap.size := fun h => by have := hX _ h; omega
  simp only [preV, List.length_cons] at hN
  have hYY := hY (n - 1) pre (.mk k s a cap kids lo hi) _ hJ1 (by omega)
  change YieldAt F (n - 1) Try.prog l #[.agg (nodeC k s a kids.length cap lo hi).toArray] _ _ at hYY
  obtain ⟨fn, tmps, assign, body, hy, hR⟩ := hYY
  obtain ⟨_, _, _, sA, lA⟩ := hL.open
  obtain ⟨oA, okids⟩ := hO.open
  have HY := Lib.hid hy
  change CallsIn _ _ _ _ #[.agg (nodeC k s a kids.length cap lo hi).toArray, _] _ _
  refine callsIn_of_wp Try.func71 rfl hF ?_ hro
  simp only [Try.ntmps71, List.size_toArray, List.length_cons, List.length_nil, Nat.reduceAdd, Nat.reduceSub, Array.replicate_succ, Array.replicate_zero, List.push_toArray, List.append_toArray, List.nil_append, List.cons_append]
  gi_wp2_with ((try refine ⟨hdd _, ?_⟩); refine hR.mono ?_; clear hR)
  rintro e W2 (⟨rfl, hJ2, hk2⟩ | ⟨rfl, hx2⟩)
  · have hk3 := hk1.trans hk2
    have hb2 := hk2.box hNX hbx
    obtain ⟨p0, p1, p2, p3, p4, p5, p6, p7⟩ := hb2.node
    have hB2 : Bx ≤ W2.heap.size := Nat.le_trans hB hk3.size
    have s2 := hk3.slice sA oA
    have HL := Lib.hid fun i (h : i < kids.length) => (lA i h).keptC (okids i h) hk3
    have HI := Lib.hid ih
    have HO := Lib.hid okids
    have HA := Lib.hid oA
    have hfin : ∀ e W', ((e = .returned (.bool true) ∧ J (pre ++ [Vt.mk k s a cap kids lo hi] ++ preVs kids) W' ∧ KeepC X W2 W') ∨ (e = .returned (.bool false) ∧ ∃ r, r <+: preVs kids ∧ Jx (pre ++ [Vt.mk k s a cap kids lo hi] ++ r) W')) → WalkPost X J Jx pre (preV (.mk k s a cap kids lo hi)) W e W' := fun e W' h => by
      rcases h with ⟨h1, h2, h3⟩ | ⟨h1, r, h2, h3⟩
      · exact .inl ⟨h1, by simpa [preV] using h2, hk3.trans h3⟩
      · exact .inr ⟨h1, Vt.mk k s a cap kids lo hi :: r, by simpa [preV] using h2, by simpa using h3⟩
    have HF := Lib.hid hfin
    have hlen : (pre ++ [Vt.mk k s a cap kids lo hi]).length + (preVs kids).length ≤ N := by simp only [List.length_append, List.length_singleton]; omega
    clear hbx hb2 sA lA ih okids hy HY hk1 hk2 hb1 hJ1 hO hL oA hfin
    generalize hp1 : pre ++ [Vt.mk k s a cap kids lo hi] = pre1 at *
    generalize hq1 : preV (Vt.mk k s a cap kids lo hi) = q1 at *
    have HP := Lib.hid hp1
    have HQ := Lib.hid hq1
    clear hp1 hq1
    gi_wp2
    gi_loopw [14] (fun i wr => WalkRel X J kids pre1 W2 wr i) (fun i _ => kids.length - (intOf i).toNat)
    case atStart => exact ⟨0, Nat.zero_le _, rfl, by simpa [preVs] using hJ2, KeepC.refl _ _⟩
    case round =>
      obtain ⟨j, hj, rfl, hJr, hkr⟩ := hrel
      by_cases hlt : j < kids.length
      · obtain ⟨b, o, c1, c2, c3, _, c5⟩ := (hkr.slice s2 HA.out).kids
        clear s2
        obtain rfl := c3 j hlt
        have e1 := c5 j hlt wr (Below.refl _ _)
        have hb3 := (Below.refl wr.heap.size wr).alloc (Nat.le_refl _) (.cells kids[j].cells.toArray 37)
        have hJ3 := abides_below hJ hJr hb3
        have hk4 : KeepC X W2 (wr.alloc (.cells kids[j].cells.toArray 37)) := hkr.trans (KeepC.below hb3)
        have hps := preVs_split kids j hlt
        have hpt := preVs_take kids j hlt
        have hNj : (pre1 ++ preVs (kids.take j)).length + (preV kids[j]).length ≤ N := by
          have := congrArg List.length hps
          simp only [List.length_append] at this ⊢
          omega
        have i1 := HI.out j hlt (n - 1) (pre1 ++ preVs (kids.take j)) _ ((HL.out j hlt).keptC (HO.out j hlt) hk4) (HO.out j hlt) (by have := hk4.size; omega) hJ3 hNj
        have HS := Lib.hid hps
        have HT := Lib.hid hpt
        clear hps hpt c5 c3
        generalize kids[j] = V at *
        obtain ⟨k1, s1, a1, cp1, ks1, lo1, hi1⟩ := V
        obtain ⟨x0, x1, x2, x3, x4, x5, x6, x7⟩ := cells8 e1
        change CallsIn _ _ _ _ #[.agg (nodeC k1 s1 a1 ks1.length cp1 lo1 hi1).toArray, _] (wr.alloc (.cells (nodeC k1 s1 a1 ks1.length cp1 lo1 hi1).toArray 37)) _ at i1
        have I1 := Lib.hid i1
        clear e1 i1 hJ3 hb3
        gi_wp2_with ((try refine ⟨hdd _, ?_⟩); gi_at_call 71; refine I1.out.mono ?_; clear I1; rintro e W3 (⟨rfl, hJ4, hk5⟩ | ⟨rfl, r, hr, hx3⟩))
        · go_roundw
          case rel => exact ⟨j + 1, hlt, by go_num, by rw [HT.out, ← List.append_assoc]; exact hJ4, hk4.trans hk5⟩
          case measure => simp [intOf]; omega
        · go_ret
          refine HF.out _ _ (.inr ⟨rfl, preVs (kids.take j) ++ r, ?_, by rw [← List.append_assoc]; exact hx3⟩)
          rw [HS.out]
          exact List.prefix_append_right_inj _ |>.2 (hr.trans (List.prefix_append _ _))
      · obtain rfl : j = kids.length := by omega
        rw [List.take_length] at hJr
        gi_wp2
        go_ret
        exact HF.out _ _ (.inl ⟨rfl, hJr, hkr⟩)
  · gi_wp2
    go_ret
    exact .inr ⟨rfl, [Vt.mk k s a cap kids lo hi], ⟨preVs kids, by simp [preV]⟩, hx2⟩
set_option maxHeartbeats 1000000 in
theorem nodes1_in (F : Fence) (hd : F.depth = none) (n : Nat) (hF : F.fn 70) (hF2 : F.fn 71) (hro : F.round = none) (l Bt Bx : Nat) (X : Nat → Prop) (hX : ∀ b, X b → b < Bx) (J Jx : List Vt → World → Prop) (hJ : AbidesFrom Bx J) (V : Vt)
    (hY : ∀ pre x W, J pre W → pre.length < (preV V).length → YieldAt F (n - 1) Try.prog l (encV x) W fun e W' => (e = .returned (.bool true) ∧ J (pre ++ [x]) W' ∧ KeepC X W W') ∨ (e = .returned (.bool false) ∧ Jx (pre ++ [x]) W'))
    (W : World) (hB : Bx ≤ W.heap.size) (hBt : Box W Bt V.cells.toArray 37) (hL : Lies W V) (hO : On (fun b => ¬ X b) V) (h0 : J [] W) :
    CallsIn F n Try.prog 70 #[.func (.yield l) #[] #[], .pointer (some ⟨Bt, 0, none⟩)] W fun e W' => (∃ v, e = .returned v) ∧ ((∃ ys, ys = preV V ∧ J ys W') ∨ (∃ pre, pre <+: preV V ∧ Jx pre W')) := by
  have hdd : ∀ k : Nat, (F.depth.isSome = true → 1 ≤ k) := fun k h => by rw [hd] at h; cases h
  have hp := treeWalk_fence F hd hF2 hro l (preV V).length Bx X hX J Jx hJ (fun m pre x W hj hl => yield_any hd m (hY pre x W hj hl)) V (n - 1) [] W hL hO hB h0 (by simp)
  have hq : ∀ e W', WalkPost X J Jx [] (preV V) W e W' → (e = .returned (.bool true) ∧ J (preV V) W') ∨ (e = .returned (.bool false) ∧ ∃ r, r <+: preV V ∧ Jx r W') := fun e W' h => by
    rcases h with ⟨h1, h2, _⟩ | ⟨h1, r, h2, h3⟩
    · exact .inl ⟨h1, by simpa using h2⟩
    · exact .inr ⟨h1, r, h2, by simpa using h3⟩
  have hp2 := hp.mono hq
  clear hp hq hY hL hO h0
  generalize preV V = q at *
  obtain ⟨k, s, a, cap, kids, lo, hi⟩ := V
  obtain ⟨p0, p1, p2, p3, p4, p5, p6, p7⟩ := Box.node hBt
  change CallsIn _ _ _ _ #[.agg (nodeC k s a kids.length cap lo hi).toArray, _] _ _ at hp2
  refine callsIn_of_wp Try.func70 rfl hF ?_ hro
  simp only [Try.ntmps70, List.size_toArray, List.length_cons, List.length_nil, Nat.reduceAdd, Nat.reduceSub, Array.replicate_succ, Array.replicate_zero, List.push_toArray, List.append_toArray, List.nil_append, List.cons_append]
  gi_wp2_with ((try refine ⟨hdd _, ?_⟩); gi_at_call 71; refine hp2.mono ?_; clear hp2; rintro e W1 (⟨rfl, hJ1⟩ | ⟨rfl, r, hr, hx⟩))
  · go_end0
    exact ⟨⟨_, rfl⟩, .inl ⟨_, rfl, hJ1⟩⟩
  · go_end0
    exact ⟨⟨_, rfl⟩, .inr ⟨r, hr, hx⟩⟩
theorem nodes_stops (F : Fence) (hd : F.depth = none) (n : Nat) (hF : F.fn 70) (hF2 : F.fn 71) (hro : F.round = none) (Bt : Nat) (X : Nat → Prop) (V : Vt) (w : World) (hX : ∀ b, X b → b < w.heap.size)
    (hBt : Box w Bt V.cells.toArray 37) (hL : Lies w V) (hO : On (fun b => ¬ X b) V) :
    SeqStopsK F n Try.prog 70 #[.pointer (some ⟨Bt, 0, none⟩)] encV (KeepC X) (fun ys => ys = preV V) (fun pre => pre <+: preV V) (preV V).length w := fun l J Jx W hW hJ _ hY h0 =>
  nodes1_in F hd n hF hF2 hro l Bt W.heap.size X (fun b hb => Nat.lt_of_lt_of_le (hX b hb) hW.size) J Jx hJ V hY W (Nat.le_refl _) (hBt.kept hW) (hL.kept hW) hO h0
theorem nodes_at (V : Vt) (w : World) : Calls Try.prog 60 #[.agg V.cells.toArray] w fun e w' => e = .returned (.func (.func 70) #[] #[.pointer (some ⟨w.heap.size, 0, none⟩)]) ∧ w' = w.alloc (.cells V.cells.toArray 37) := by
  obtain ⟨k, s, a, cap, kids, lo, hi⟩ := V
  change Calls _ _ #[.agg (nodeC k s a kids.length cap lo hi).toArray] _ _
  go_enter Try.func60, Try.ntmps60
  go_wp2
  go_ret
  exact ⟨rfl, rfl⟩
set_option maxRecDepth 100000 in
set_option maxHeartbeats 2000000 in
theorem tree_Size (V : Vt) (w : World) (hL : Lies w V) (hsz : sizeT V.tr ≤ 1099511627776) : Calls Try.prog 27 #[.agg V.cells.toArray] w (Ret w (.int .i64 (sizeT V.tr : Nat))) := by
  have hlen := preV_len V
  obtain ⟨q, hq⟩ : ∃ q, preV V = q := ⟨_, rfl⟩
  have hN := nodes_at V
  refine (callsIn_wide (n := 6)).1 ?_
  refine callsIn_of_wp_marks Try.func27 rfl trivial ?_ rfl
  obtain ⟨k, s, a, cap, kids, lo, hi⟩ := V
  change Code.wpIn _ _ _ _ _ { tmps := #[.agg (nodeC k s a kids.length cap lo hi).toArray] ++ _, defers := [] } _
  change ∀ w, Calls _ _ #[.agg (nodeC k s a kids.length cap lo hi).toArray] _ _ at hN
  simp only [Try.ntmps27, List.size_toArray, List.length_cons, List.length_nil, Nat.reduceAdd, Nat.reduceSub, Array.replicate_succ, Array.replicate_zero, List.push_toArray, List.append_toArray, List.nil_append, List.cons_append]
  gi_wp2_with (refine ⟨trivial, ?_⟩; gi_at_call 60; refine (callsIn_wide.2 (hN _)).mono ?_; rintro e w' ⟨rfl, rfl⟩)
  obtain ⟨W0, hW0⟩ : ∃ W0, (((w.alloc (.cells (nodeC k s a kids.length cap lo hi).toArray 37)).alloc (.cells #[.int .i64 0] 3)).alloc (.cells (Vt.mk k s a cap kids lo hi).cells.toArray 37)) = W0 := ⟨_, rfl⟩
  have hB0 : Below w.heap.size w W0 := by rw [← hW0]; go_grown
  have hsz0 : W0.heap.size = w.heap.size + 1 + 1 + 1 := by rw [← hW0]; simp
  have hbt : Box W0 (w.heap.size + 1 + 1) (Vt.mk k s a cap kids lo hi).cells.toArray 37 := by rw [← hW0]; exact Box.new' (by simp) _ _
  have hn0 : Box W0 (w.heap.size + 1) #[.int .i64 0] 3 := by rw [← hW0]; exact (Box.new' (by simp) _ _).alloc _
  rw [hW0]
  have hO : On (fun b => ¬ b = w.heap.size + 1) (Vt.mk k s a cap kids lo hi) := hL.on.mono fun b hb => by omega
  rw [hq] at hlen
  have hst := nodes_stops Fence.wide rfl 5 trivial trivial rfl (w.heap.size + 1 + 1) (fun b => b = w.heap.size + 1) (.mk k s a cap kids lo hi) W0 (fun b hb => by omega) hbt (hL.kept hB0) hO
  rw [hq] at hst
  have HLen := Lib.hid hlen
  refine wpIn_rangeFunc_ownF rfl (by decide) (gf := 70) (lb := #[.pointer (some ⟨w.heap.size + 1 + 1, 0, none⟩)]) rfl trivial (enters_of Try.func70 (by kernel_rfl) rfl)
    hst (fun h k => h.trans k) keepC_b (Below.refl _ _) (fun _ => rfl)
    (fun pre W => Box W (w.heap.size + 1) #[.int .i64 (pre.length : Nat)] 3 ∧ Below w.heap.size w W)
    (fun _ _ _ => False)
    (OwnFrom.and (ownFrom_box _ _ _ _) (ownFrom_below (Nat.le_refl _) (by omega)))
    (fun _ => ownFrom_false _) ⟨hn0, hB0⟩
    (fun x => { tmps := #[.agg (nodeC k s a kids.length cap lo hi).toArray, .pointer (some ⟨w.heap.size, 0, none⟩), .int .i64 0, .pointer (some ⟨w.heap.size + 1, 0, none⟩), .agg (nodeC k s a kids.length cap lo hi).toArray, .func (.func 70) #[] #[.pointer (some ⟨w.heap.size + 1 + 1, 0, none⟩)], .agg x.cells.toArray, undef, undef, undef], defers := [] }) ?assign ?body ?done ?stop
  case assign =>
    intro l x W K hK
    dsimp only [encV]
    go_simp
    gi_wp2
    exact hK
  case body =>
    rintro l pre x W ⟨hb, hB⟩ hlt
    have c0 := hb.cell 0
    have f0 := hb.free 0
    have hpl : pre.length ≤ 1099511627776 := by have := HLen.out; omega
    gi_wp2
    refine ⟨KeepsOthers.setCell _ _ _, KeepC.set _ _ _ rfl, ?_, hB.setCell (by simp) _⟩
    have := hb.set 0 (.int .i64 ((pre.length : Int) + 1))
    simpa using this
  case done =>
    rintro D ys W hD rfl ⟨hb, hB⟩ hK
    have c0 := hb.cell 0
    gi_wp2
    refine ⟨by simp, .inl ⟨_, _, rfl, run_takeDeferred hK, ?_⟩⟩
    exact ⟨_, results_tmp rfl _ _ _, by rw [← HLen.out]; rfl, hB.trans (belowK_b (w := w) (Nat.le_refl _) W D _ _ (by omega) hK rfl rfl)⟩
  case stop =>
    rintro D c pre W _ _ h _
    exact h.elim
end Go.Proofs.Ytinlfbacfmmfpaa
