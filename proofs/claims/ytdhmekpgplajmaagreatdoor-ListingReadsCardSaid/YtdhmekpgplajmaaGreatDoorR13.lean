/- Joined by tools/merge.py: ClassRead. -/
import Derived.Test.YtdhmekpgplajmaaGreatDoorR12
import Derived.Test.YtdhmekpgplajmaaGreatDoorR3
import Derived.Test.YtdhmekpgplajmaaGreatDoorR2
section
namespace Go.Proofs.YtdhmekpgplajmaaGreatDoor
open Go.RowKit
/-- The items of a class, from a place on, joined to a set (n rounds at most). -/
def loopR (l : List UInt8) (fr : Nat) : Nat → BSet → Nat → Sum (Nat × Nat) (BSet × Nat)
  | 0, _, _ => .inl (13, fr)
  | n + 1, s, i => if hereB l i 93 = true then .inr (s, i + 1) else match itemR l fr i with
    | .inl q => .inl q
    | .inr (q, k) => loopR l fr n (s ||| spanS q.1 q.2) k
/-- The first item, and those behind it. -/
def firstR (l : List UInt8) (fr i : Nat) : Sum (Nat × Nat) (BSet × Nat) :=
  match itemR l fr i with
  | .inl q => .inl q
  | .inr (q, k) => loopR l fr (l.length + 1) (spanS q.1 q.2) k
def readR (l : List UInt8) : Sum (Nat × Nat) (BSet × Nat) :=
  if hereB l 0 91 = true then
    (match firstR l 0 (if hereB l 1 94 = true then 2 else 1) with
     | .inl q => .inl q
     | .inr (s, j) => .inr (if hereB l 1 94 = true then ~~~s else s, j))
  else .inl (1, 0)
instance relKeepC (X : Nat → Prop) : RelOK (KeepC X) := ⟨KeepC.refl X, fun _ _ _ h k => h.trans k, fun _ _ h => KeepC.below h⟩
/-- What a class reader's call leaves: the set, the place behind, and what is wrong. -/
def badV (k p : Nat) : Value := .agg #[.int .i64 k, .int .i64 p]
def retR : Sum (Nat × Nat) (BSet × Nat) → Value
  | .inl (kd, ps) => .tuple #[setV 0, .int .i64 (0 : Nat), badV kd ps]
  | .inr (s, j) => .tuple #[setV s, .int .i64 j, badV 0 0]
/-- The call's own blocks: two results and the reader. -/
structure CR (w W : World) (g n cap i k p : Nat) (l : List UInt8) : Prop where
  x0 : Box W w.heap.size (setC 0) 43
  x1 : Box W (w.heap.size + 1) #[.int .i64 0, .int .i64 0] 80
  rd : RdAt W (w.heap.size + 1 + 1) g n cap i 0 k p l
  below : Below w.heap.size w W
theorem CR.step {w W W' : World} {g n cap i k p i' k' p' : Nat} {l : List UInt8} (h : CR w W g n cap i k p l) (hr : RdAt W' (w.heap.size + 1 + 1) g n cap i' 0 k' p' l) (ho : Only (w.heap.size + 1 + 1) W W') : CR w W' g n cap i' k' p' l :=
  ⟨ho.box h.x0 (by omega), ho.box h.x1 (by omega), hr, h.below.trans (ho.1.mono (by omega))⟩
theorem CR.kept {w W W' : World} {g n cap i k p : Nat} {l : List UInt8} (h : CR w W g n cap i k p l) (hb : Below W.heap.size W W') : CR w W' g n cap i k p l :=
  ⟨h.x0.kept hb, h.x1.kept hb, h.rd.kept hb, h.below.trans (hb.mono h.below.size)⟩
theorem CR.only {w W W' : World} {g n cap i k p : Nat} {l : List UInt8} (h : CR w W g n cap i k p l) (ho : Below W.heap.size W W') : Only (w.heap.size + 1 + 1) W W' := Only.below ho (Nat.le_of_lt h.rd.box.lt)
theorem CR.start {g n cap : Nat} {l : List UInt8} {w : World} (h : SliceR w (.slice (some ⟨g, 0, none⟩) n cap) 1 encU l) (hg : g < w.heap.size) :
    CR w (((w.alloc (.cells #[.int .u64 0, .int .u64 0, .int .u64 0, .int .u64 0] 43)).alloc (.cells #[.int .i64 0, .int .i64 0] 80)).alloc (.cells #[.slice (some ⟨g, 0, none⟩) n cap, .int .i64 0, .int .i64 0, .int .i64 0, .int .i64 0] 131)) g n cap 0 0 0 l := by
  have hb : Below w.heap.size w (((w.alloc (.cells #[.int .u64 0, .int .u64 0, .int .u64 0, .int .u64 0] 43)).alloc (.cells #[.int .i64 0, .int .i64 0] 80)).alloc (.cells #[.slice (some ⟨g, 0, none⟩) n cap, .int .i64 0, .int .i64 0, .int .i64 0, .int .i64 0] 131)) :=
    (((Below.refl _ w).alloc (Nat.le_refl _) _).alloc (by simp) _).alloc (by simp; omega) _
  refine ⟨?_, ?_, ⟨?_, h.kept hb, by omega⟩, hb⟩
  · rw [setC_zero]; exact ((Box.new' rfl _ _).alloc _).alloc _
  · exact (Box.new' (by simp) _ _).alloc _
  · exact Box.new' (by simp) _ _
theorem escR_up {l : List UInt8} {i x j : Nat} (h : escR l i = .inr (x, j)) : i < j := by
  unfold escR at h
  repeat' split at h
  all_goals first | (cases h; omega) | cases h
theorem charR_up {l : List UInt8} {fr i x j : Nat} (h : charR l fr i = .inr (x, j)) : i < j := by
  unfold charR at h
  repeat' split at h
  all_goals first | exact escR_up h | (cases h; omega) | cases h
theorem itemR_up {l : List UInt8} {fr i k : Nat} {q : Nat × Nat} (h : itemR l fr i = .inr (q, k)) : i < k := by
  cases hc : charR l fr i with
  | inl q => rw [itemR_e1 hc] at h; cases h
  | inr p =>
    obtain ⟨lo, j⟩ := p
    have h1 := charR_up hc
    cases hh : hereB l j 45 with
    | false => rw [itemR_one hc hh] at h; cases h; exact h1
    | true =>
      cases hc2 : charR l fr (j + 1) with
      | inl q => rw [itemR_e2 hc hh hc2] at h; cases h
      | inr p2 =>
        obtain ⟨hi, k2⟩ := p2
        have h2 := charR_up hc2
        by_cases hlt : hi < lo
        · rw [itemR_e3 hc hh hc2 hlt] at h; cases h
        · rw [itemR_two hc hh hc2 hlt] at h; cases h; omega
/-- Three results: in a block, in a slot, in a block. -/
theorem ret_box_tmp_box {P : Program} {fn : Func} {R : Ending → World → Prop} {a : Act} {w : World} {p u q : Tmp} {ty b E ty2 b2 E2 : Nat} {cs cs2 : Array Value} {d d2 : TypeDesc} {v : Value}
    (hr : fn.results = #[.cell p ty, .tmp u, .cell q ty2]) (hp : a.tmps.getD p undef = .pointer (some ⟨b, 0, none⟩)) (hv : a.tmps.getD u undef = v) (hq : a.tmps.getD q undef = .pointer (some ⟨b2, 0, none⟩)) (hb : Box w b cs E) (hb2 : Box w b2 cs2 E2)
    (hu : P.underlying ty = some d) (hd : (match d with | .struct _ | .array _ _ => true | _ => false) = true) (hi : (P.info? ty).map (·.size) = some cs.size)
    (hu2 : P.underlying ty2 = some d2) (hd2 : (match d2 with | .struct _ | .array _ _ => true | _ => false) = true) (hi2 : (P.info? ty2).map (·.size) = some cs2.size)
    (hdf : a.defers = []) (hR : R (.returned (.tuple #[.agg cs, v, .agg cs2])) w) : bodyPost P fn R .ret a w :=
  ⟨hdf, _, by
    have hp' : a.tmps[p]?.getD undef = .pointer (some ⟨b, 0, none⟩) := by simpa using hp
    have hv' : a.tmps[u]?.getD undef = v := by simpa using hv
    have hq' : a.tmps[q]?.getD undef = .pointer (some ⟨b2, 0, none⟩) := by simpa using hq
    simp [results, hr, hp', hv', hq', asAddr, run_loadVar_row w b E ty cs (0, 0) d hb hu hd hi, run_loadVar_row w b2 E2 ty2 cs2 (0, 0) d2 hb2 hu2 hd2 hi2], hR⟩
/-- Between two rounds: so far so good, or a fault has come up. -/
def LoopC (w : World) (g n cap sB : Nat) (l : List UInt8) (ANS : Sum (Nat × Nat) (BSet × Nat)) (W : World) : Prop :=
  (∃ f j, ∃ s : BSet, j ≤ n ∧ n < f + j ∧ loopR l 0 f s j = ANS ∧ CR w W g n cap j 0 0 l ∧ Box W sB (setC s) 43) ∨
  (∃ kd ps j, ∃ s : BSet, kd ≠ 0 ∧ j ≤ n ∧ ANS = .inl (kd, ps) ∧ CR w W g n cap j kd ps l ∧ Box W sB (setC s) 43)
def measC (b n : Nat) (W : World) : Nat := match W.cell? ⟨b, 3, none⟩, W.cell? ⟨b, 1, none⟩ with
  | some (.int _ k), some (.int _ i) => if k = 0 then n + 1 - i.toNat else 0
  | _, _ => 0
theorem measC_eq {w W : World} {g n cap i k p : Nat} {l : List UInt8} (h : CR w W g n cap i k p l) : measC (w.heap.size + 1 + 1) n W = if k = 0 then n + 1 - i else 0 := by
  obtain ⟨c0, c1, c2, c3, c4⟩ := h.rd.cells
  unfold measC
  rw [c3, c1]
  simp
/-- An item's call, both ways at once. -/
theorem RetI.gives {b g n cap fr p : Nat} {l : List UInt8} {w w' : World} {r : Sum (Nat × Nat) ((Nat × Nat) × Nat)} {e : Ending} (h : RetI b g n cap fr p l w r e w') :
    ∃ (s : BSet) (j kd ps : Nat), j ≤ n ∧ RetRd b g n cap fr l w (setV s) j kd ps e w' ∧ ((kd = 0 ∧ ps = p ∧ ∃ q, r = .inr (q, j) ∧ s = spanS q.1 q.2) ∨ (kd ≠ 0 ∧ r = .inl (kd, ps))) := by
  cases r with
  | inl q => obtain ⟨h0, s, j, hj, hr⟩ := h; exact ⟨s, j, q.1, q.2, hj, hr, .inr ⟨h0, rfl⟩⟩
  | inr q => obtain ⟨hj, hr⟩ := h; exact ⟨_, q.2, 0, p, hj, hr, .inl ⟨rfl, rfl, q.1, rfl, rfl⟩⟩
theorem CR.ends {w W : World} {g n cap i k p : Nat} {l : List UInt8} (h : CR w W g n cap i k p l) (v0 v1 v2 v3 u0 u1 : Value) :
    Box ((((((W.setCell ⟨w.heap.size, 0, none⟩ v0).setCell ⟨w.heap.size, 1, none⟩ v1).setCell ⟨w.heap.size, 2, none⟩ v2).setCell ⟨w.heap.size, 3, none⟩ v3).setCell ⟨w.heap.size + 1, 0, none⟩ u0).setCell ⟨w.heap.size + 1, 1, none⟩ u1) w.heap.size #[v0, v1, v2, v3] 43 ∧
    Box ((((((W.setCell ⟨w.heap.size, 0, none⟩ v0).setCell ⟨w.heap.size, 1, none⟩ v1).setCell ⟨w.heap.size, 2, none⟩ v2).setCell ⟨w.heap.size, 3, none⟩ v3).setCell ⟨w.heap.size + 1, 0, none⟩ u0).setCell ⟨w.heap.size + 1, 1, none⟩ u1) (w.heap.size + 1) #[u0, u1] 80 ∧
    Below w.heap.size w ((((((W.setCell ⟨w.heap.size, 0, none⟩ v0).setCell ⟨w.heap.size, 1, none⟩ v1).setCell ⟨w.heap.size, 2, none⟩ v2).setCell ⟨w.heap.size, 3, none⟩ v3).setCell ⟨w.heap.size + 1, 0, none⟩ u0).setCell ⟨w.heap.size + 1, 1, none⟩ u1) :=
  ⟨((h.x0.store4 rfl v0 v1 v2 v3).other _ _ (by simp)).other _ _ (by simp), (((h.x1.other4 (by omega) v0 v1 v2 v3).set 0 u0).set 1 u1),
    (((((h.below.setCell (by simp) _).setCell (by simp) _).setCell (by simp) _).setCell (by simp) _).setCell (by simp) _).setCell (by simp) _⟩
section
variable {P : Program} {ops : Array Oper} {Q : Exit → Act → World → Prop} {md : Region.Mode}
/-- One operation alone may come up. -/
theorem wpAny_one {i : Nat} {oi : Oper} {fuel : Nat} {listed : Array Bool} {a : Act} {w : World} (hr : Region.ready md ops listed = [i]) (hi : ops[i]? = some oi)
    (h : ∀ K : Act → World → Prop, Shut (∀ a' w', wpAny P md ops Q fuel (listed.setIfInBounds i true) a' w' → K a' w') → if Region.wanted oi (yielded ops a.tmps) = true then Oper.wp P oi a w K Q else K (a.put oi.dst undef) w) :
    wpAny P md ops Q (fuel + 1) listed a w := ⟨fun h0 => (by rw [hr] at h0; cases h0), fun j hj => by
  rw [hr, List.mem_singleton] at hj
  subst hj
  exact wpOp_step hi (fun K' hK => h K' hK)⟩
/-- One of two. -/
theorem wpAny_two {i j : Nat} {oi oj : Oper} {fuel : Nat} {listed : Array Bool} {a : Act} {w : World} (hr : Region.ready md ops listed = [i, j]) (hi : ops[i]? = some oi) (hj : ops[j]? = some oj)
    (h1 : ∀ K : Act → World → Prop, Shut (∀ a' w', wpAny P md ops Q fuel (listed.setIfInBounds i true) a' w' → K a' w') → if Region.wanted oi (yielded ops a.tmps) = true then Oper.wp P oi a w K Q else K (a.put oi.dst undef) w)
    (h2 : ∀ K : Act → World → Prop, Shut (∀ a' w', wpAny P md ops Q fuel (listed.setIfInBounds j true) a' w' → K a' w') → if Region.wanted oj (yielded ops a.tmps) = true then Oper.wp P oj a w K Q else K (a.put oj.dst undef) w) :
    wpAny P md ops Q (fuel + 1) listed a w := ⟨fun h0 => (by rw [hr] at h0; cases h0), fun k hk => by
  rw [hr, List.mem_cons, List.mem_singleton] at hk
  rcases hk with rfl | rfl
  · exact wpOp_step hi (fun K' hK => h1 K' hK)
  · exact wpOp_step hj (fun K' hK => h2 K' hK)⟩
theorem wpAny_done {listed : Array Bool} {a : Act} {w : World} (hr : Region.ready md ops listed = []) (h : Q .normal a w) : ∀ fuel, wpAny P md ops Q fuel listed a w
  | 0 => ⟨hr, h⟩
  | _ + 1 => ⟨fun _ => h, by rw [hr]; simp⟩
end
theorem wp_region_A {P : Program} {ops : Array Oper} {Q : Exit → Act → World → Prop} {id : Nat} {a : Act} {w : World} (hm : P.follows .mixedOrders = true) (h : wpAny P .any ops Q ops.size (Array.replicate ops.size false) a w.drew) : (Code.region id ops true).wp P Q a w := wp_region_any hm h
/-- The block B has its old cells, or the ones that are meant; all other blocks lie as they lay. -/
structure Turns (B E : Nat) (fin : Array Value) (w w' : World) : Prop where
  keep : KeepC (· = B) w w'
  low : B ≤ w.heap.size → Below B w w'
  box : ∀ c, Box w B c E → Box w' B c E ∨ Box w' B fin E
instance relTurns (B E : Nat) (fin : Array Value) : RelOK (Turns B E fin) where
  refl := fun _ => ⟨KeepC.refl _ _, fun _ => Below.refl _ _, fun _ h => .inl h⟩
  trans := fun _ _ _ h k => ⟨h.keep.trans k.keep, fun hb => (h.low hb).trans (k.low (Nat.le_trans hb h.keep.size)), fun c hc => (h.box c hc).elim (k.box c) (fun h2 => (k.box _ h2).elim .inr .inr)⟩
  later := fun _ _ h => ⟨KeepC.below h, fun hb => Below.mono h hb, fun _ hc => .inl (hc.kept h)⟩
theorem Turns.fin {B E : Nat} {fin : Array Value} {w w' : World} (h : Turns B E fin w w') (hb : Box w B fin E) : Box w' B fin E := (h.box _ hb).elim id id
theorem keepB_set (B i : Nat) (w : World) (v : Value) : KeepC (· = B) w (w.setCell ⟨B, i, none⟩ v) := KeepC.set w _ v rfl
theorem turns_store4 {B E : Nat} {v0 v1 v2 v3 : Value} {w : World} {c : Array Value} (hc : Box w B c E) (h4 : c.size = 4) :
    Turns B E #[v0, v1, v2, v3] w ((((w.setCell ⟨B, 0, none⟩ v0).setCell ⟨B, 1, none⟩ v1).setCell ⟨B, 2, none⟩ v2).setCell ⟨B, 3, none⟩ v3) :=
  ⟨((keepB_set B 0 _ _).trans (keepB_set B 1 _ _)).trans ((keepB_set B 2 _ _).trans (keepB_set B 3 _ _)),
    fun _ => ((((Below.refl B w).setCell (by simp) _).setCell (by simp) _).setCell (by simp) _).setCell (by simp) _, fun _ _ => .inr (hc.store4 h4 _ _ _ _)⟩
/-- The call's own blocks, where the first result may have been stored already. -/
structure CT (w W : World) (g n cap i k p : Nat) (l : List UInt8) (fin : BSet) : Prop where
  x0 : Box W w.heap.size (setC 0) 43 ∨ Box W w.heap.size (setC fin) 43
  x1 : Box W (w.heap.size + 1) #[.int .i64 0, .int .i64 0] 80
  rd : RdAt W (w.heap.size + 1 + 1) g n cap i 0 k p l
  below : Below w.heap.size w W
theorem CT.of {w W : World} {g n cap i k p : Nat} {l : List UInt8} (fin : BSet) (h : CR w W g n cap i k p l) : CT w W g n cap i k p l fin := ⟨.inl h.x0, h.x1, h.rd, h.below⟩
theorem CT.turn {w W W' : World} {g n cap i k p : Nat} {l : List UInt8} {fin : BSet} (h : CT w W g n cap i k p l fin) (hg : g ≠ w.heap.size) (ht : Turns w.heap.size 43 (setC fin) W W') : CT w W' g n cap i k p l fin :=
  ⟨h.x0.elim (ht.box _) (fun h2 => .inr (ht.fin h2)), ht.keep.box (by simp) h.x1, ⟨ht.keep.box (by show ¬ _; omega) h.rd.box, ht.keep.slice h.rd.sl (fun _ ad e => by cases e; exact hg), h.rd.ne⟩, h.below.trans (ht.low h.below.size)⟩
theorem CT.four {w W : World} {g n cap i k p : Nat} {l : List UInt8} {fin : BSet} (h : CT w W g n cap i k p l fin) : ∃ s : BSet, Box W w.heap.size (setC s) 43 := h.x0.elim (⟨_, ·⟩) (⟨_, ·⟩)
theorem CR.store4 {w W : World} {g n cap i k p sB : Nat} {l : List UInt8} (h : CR w W g n cap i k p l) (hs : w.heap.size + 1 + 1 < sB) (hg : g < w.heap.size) (v0 v1 v2 v3 : Value) :
    CR w ((((W.setCell ⟨sB, 0, none⟩ v0).setCell ⟨sB, 1, none⟩ v1).setCell ⟨sB, 2, none⟩ v2).setCell ⟨sB, 3, none⟩ v3) g n cap i k p l :=
  have hk : KeepC (· = sB) W ((((W.setCell ⟨sB, 0, none⟩ v0).setCell ⟨sB, 1, none⟩ v1).setCell ⟨sB, 2, none⟩ v2).setCell ⟨sB, 3, none⟩ v3) := ((keepB_set sB 0 _ _).trans (keepB_set sB 1 _ _)).trans ((keepB_set sB 2 _ _).trans (keepB_set sB 3 _ _))
  ⟨hk.box (by show ¬ _; omega) h.x0, hk.box (by show ¬ _; omega) h.x1, ⟨hk.box (by show ¬ _; omega) h.rd.box, hk.slice h.rd.sl (fun _ ad e => by cases e; show ¬ _; simp; omega), h.rd.ne⟩,
    (((h.below.setCell (by simp; omega) _).setCell (by simp; omega) _).setCell (by simp; omega) _).setCell (by simp; omega) _⟩
theorem loopR_succ (l : List UInt8) (fr f : Nat) (s : BSet) (i : Nat) : loopR l fr (f + 1) s i = if hereB l i 93 = true then .inr (s, i + 1) else match itemR l fr i with
    | .inl q => .inl q
    | .inr (q, k) => loopR l fr f (s ||| spanS q.1 q.2) k := rfl
set_option maxRecDepth 20000 in
set_option maxHeartbeats 3200000 in
theorem class_Read (g n cap : Nat) (l : List UInt8) (w : World) (h : SliceR w (.slice (some ⟨g, 0, none⟩) n cap) 1 encU l) (hg : g < w.heap.size) :
    Calls Tryz.prog 73 #[.slice (some ⟨g, 0, none⟩) n cap, .int .i64 0] w (Ret w (retR (readR l))) := by
  have hlen : n = l.length := h.cellsA.1
  have hS := CR.start h hg
  have hC91 : ∀ W, CR w W g n cap 0 0 0 l → Calls Tryz.prog 99 #[.pointer (some ⟨w.heap.size + 1 + 1, 0, none⟩), .int .u8 91] W (RetRd (w.heap.size + 1 + 1) g n cap 0 l W (.bool (hereB l 0 91)) (if hereB l 0 91 then 0 + 1 else 0) 0 0) := fun W hc => place_take (w.heap.size + 1 + 1) g n cap 0 0 0 0 l 91 W hc.rd
  have hC94 : ∀ W, CR w W g n cap 1 0 0 l → Calls Tryz.prog 99 #[.pointer (some ⟨w.heap.size + 1 + 1, 0, none⟩), .int .u8 94] W (RetRd (w.heap.size + 1 + 1) g n cap 0 l W (.bool (hereB l 1 94)) (if hereB l 1 94 then 1 + 1 else 1) 0 0) := fun W hc => place_take (w.heap.size + 1 + 1) g n cap 1 0 0 0 l 94 W hc.rd
  have hC93 : ∀ W j, CR w W g n cap j 0 0 l → Calls Tryz.prog 99 #[.pointer (some ⟨w.heap.size + 1 + 1, 0, none⟩), .int .u8 93] W (RetRd (w.heap.size + 1 + 1) g n cap 0 l W (.bool (hereB l j 93)) (if hereB l j 93 then j + 1 else j) 0 0) := fun W j hc => place_take (w.heap.size + 1 + 1) g n cap j 0 0 0 l 93 W hc.rd
  have hI := fun W i (hc : CR w W g n cap i 0 0 l) (hi : i ≤ n) => (reader_item (w.heap.size + 1 + 1) g n cap i 0 0 l W hc.rd hi).mono fun _ _ => RetI.gives
  have HI := Lib.hid hI
  have HC93 := Lib.hid hC93
  unfold readR
  cases h0 : hereB l 0 91 with
  | false =>
    rw [h0] at hC91
    simp only [Bool.false_eq_true, if_false] at hC91 ⊢
    have HC := Lib.hid hC91
    have HS := Lib.hid hS
    clear hC91 hC94 hC93 hI hS h hlen h0
    go_enter Tryz.func73, Tryz.ntmps73
    go_wp2_with (go_at_call 99; go_must (refine (HC.out _ HS.out).mono ?_; rintro e w1 ⟨rfl, hR1, hO1⟩; have hc1 := HS.out.step hR1 hO1; obtain ⟨⟨p0, p1, p2, p3⟩, ⟨q0, q1, q2, q3⟩⟩ := hc1.x0.set4; have r0 := hc1.x1.cell 0; have r1 := hc1.x1.cell 1; have s0 := hc1.x1.free 0; have s1 := hc1.x1.free 1))
    obtain ⟨hE0, hE1, hE2⟩ := hc1.ends (.int .u64 0) (.int .u64 0) (.int .u64 0) (.int .u64 0) (.int .i64 1) (.int .i64 0)
    have hz := setC_zero
    exact ret_box_tmp_box Tryz.results73 rfl rfl rfl hE0 hE1 Tryz.underlying43 rfl (by kernel_rfl) Tryz.underlying80 rfl (by kernel_rfl) rfl ⟨by unfold retR setV badV; rw [hz]; rfl, hE2⟩
  | true =>
    rw [h0] at hC91
    simp only [if_true] at hC91 ⊢
    have hn1 := hereB_lt h0
    obtain ⟨t, ht⟩ : ∃ t, hereB l 1 94 = t := ⟨_, rfl⟩
    obtain ⟨i2, hi2⟩ : ∃ i2 : Nat, (if t = true then 2 else 1) = i2 := ⟨_, rfl⟩
    have hi2n : i2 ≤ n := by
      rw [← hi2]
      cases t with
      | true => have := hereB_lt ht; simp; omega
      | false => simp; omega
    rw [ht] at hC94 ⊢
    have hC94' : ∀ W, CR w W g n cap 1 0 0 l → Calls Tryz.prog 99 #[.pointer (some ⟨w.heap.size + 1 + 1, 0, none⟩), .int .u8 94] W (RetRd (w.heap.size + 1 + 1) g n cap 0 l W (.bool t) i2 0 0) := by rw [← hi2]; exact hC94
    rw [hi2]
    obtain ⟨ANS, hA⟩ : ∃ ANS, firstR l 0 i2 = ANS := ⟨_, rfl⟩
    rw [hA]
    have hstart : ∀ (s : BSet) (j kd ps : Nat) (W : World) (sB : Nat), j ≤ n → ((kd = 0 ∧ ps = 0 ∧ ∃ q, itemR l 0 i2 = .inr (q, j) ∧ s = spanS q.1 q.2) ∨ (kd ≠ 0 ∧ itemR l 0 i2 = .inl (kd, ps))) → CR w W g n cap j kd ps l → Box W sB (setC s) 43 → LoopC w g n cap sB l ANS W := by
      intro s j kd ps W sB hj hor hc hb
      unfold firstR at hA
      rcases hor with ⟨rfl, rfl, q, hq, rfl⟩ | ⟨h1, hq⟩
      · rw [hq] at hA
        exact .inl ⟨_, j, _, hj, by omega, hA, hc, hb⟩
      · rw [hq] at hA
        exact .inr ⟨kd, ps, j, s, h1, hj, hA.symm, hc, hb⟩
    have HST := Lib.hid hstart
    have HC1 := Lib.hid hC91
    have HC4 := Lib.hid hC94'
    have HS := Lib.hid hS
    have HL := Lib.hid hlen
    clear hC91 hC94 hC94' hC93 hI hS h hlen h0 hi2 ht hA hn1 hstart
    have hgne : g ≠ w.heap.size := by omega
    go_enter Tryz.func73, Tryz.ntmps73
    go_wp2_with (first | (go_at_call_of 99 ((Value.int IntKind.u8 91)); refine (HC1.out _ HS.out).mono ?_; rintro e w1 ⟨rfl, hR1, hO1⟩; have hc1 := HS.out.step hR1 hO1) | (go_at_call_of 99 ((Value.int IntKind.u8 94)); refine (HC4.out _ hc1).mono ?_; rintro e w2 ⟨rfl, hR2, hO2⟩; have hc2 := hc1.step hR2 hO2) | (go_at_call 100; go_must (refine (HI.out _ _ hc2 hi2n).mono ?_; rintro e w3 ⟨s0, j0, kd0, ps0, hj0, ⟨rfl, hR3, hO3⟩, hor⟩; have hc3 := hc2.step hR3 hO3)))
    have hcA := hc3.kept (later_alloc w3 (.cells (setC s0) 43))
    have hbA := Box.new' (w := w3) rfl (setC s0) 43
    have hL0 := HST.out s0 j0 kd0 ps0 _ w3.heap.size hj0 hor hcA hbA
    have hsB : w.heap.size + 1 + 1 < w3.heap.size := hc3.rd.box.lt
    clear hcA hbA hor hc3 hR3 hO3 hc2 hR2 hO2 hc1 hR1 hO1 hj0
    unfold setC at hL0
    generalize w3.alloc (.cells #[.int .u64 (word s0 0 : Nat), .int .u64 (word s0 1 : Nat), .int .u64 (word s0 2 : Nat), .int .u64 (word s0 3 : Nat)] 43) = WL at *
    generalize w3.heap.size = sB at *
    go_loopw [] (fun wr => LoopC w g n cap sB l ANS wr) (fun wr => measC (w.heap.size + 1 + 1) n wr)
    case atStart => exact hL0
    case round =>
      clear hL0
      rcases hrel with ⟨f, j, s, hj, hf, hlp, hc, hb⟩ | ⟨kd, ps, j, s, hkd, hj, hans, hc, hb⟩
      · obtain ⟨y0, y1, y2, y3, y4⟩ := hc.rd.cells
        obtain ⟨f, rfl⟩ : ∃ f', f = f' + 1 := ⟨f - 1, by omega⟩
        rw [loopR_succ] at hlp
        have hC := fun W hc => HC93.out W j hc
        cases h93 : hereB l j 93 with
        | true =>
          rw [h93] at hC hlp
          simp only [if_true] at hC hlp
          subst hlp
          have HC := Lib.hid hC
          clear hC
          cases t with
          | false =>
            go_wp2_with (go_at_call 99; go_must (refine (HC.out _ hc).mono ?_; rintro e w4 ⟨rfl, hR4, hO4⟩; have hc4 := hc.step hR4 hO4; have hb4 := hO4.box hb (by omega); obtain ⟨z0, z1, z2, z3, z4⟩ := hc4.rd.cells; obtain ⟨⟨b0, b1, b2, b3⟩, ⟨k0, k1, k2, k3⟩⟩ := hb4.set4))
            have HF : Hid (∀ v, Turns w.heap.size 43 (setC (s)) w4.drew v → CT w v g n cap (j + 1) 0 0 l (s) ∧ Box v sB (setC (s)) 43) := Lib.hid fun v hl => ⟨((CT.of (s) hc4).turn hgne (relTurns _ _ _ |>.later _ _ (Below.refl _ _).drew |> fun h0 => (relTurns _ _ _).trans _ _ _ h0 hl)), hl.keep.box (by show ¬ _; omega) hb4⟩
            refine wp_region_M (R := Turns w.heap.size 43 (setC (s))) 7 (by kernel_rfl) ?_
            refine tkM 0 ?_ rfl (fun w1 hl => ?_) ?_
            rotate_left
            · obtain ⟨x0, x1, x2, x3, x4⟩ := (HF.out w1 hl).1.rd.cells; obtain ⟨⟨c0, c1, c2, c3⟩, _⟩ := (HF.out w1 hl).2.set4; go_simp; try with_reducible rfl
            simp only [eA, eB, Act.put, eD, eE, eF]
            refine tkM 1 ?_ rfl (fun w1 hl => ?_) ?_
            rotate_left
            · obtain ⟨x0, x1, x2, x3, x4⟩ := (HF.out w1 hl).1.rd.cells; obtain ⟨⟨c0, c1, c2, c3⟩, _⟩ := (HF.out w1 hl).2.set4; go_simp; try with_reducible rfl
            simp only [eA, eB, eC, Act.put, eD, eE, eF]
            refine tkM 2 ?_ rfl (fun w1 hl => ?_) ?_
            rotate_left
            · obtain ⟨x0, x1, x2, x3, x4⟩ := (HF.out w1 hl).1.rd.cells; obtain ⟨⟨c0, c1, c2, c3⟩, _⟩ := (HF.out w1 hl).2.set4; go_simp; try with_reducible rfl
            simp only [eA, eB, eC, Act.put, eD, eE, eF]
            refine tkM 3 ?_ rfl (fun w1 hl => ?_) ?_
            rotate_left
            · obtain ⟨x0, x1, x2, x3, x4⟩ := (HF.out w1 hl).1.rd.cells; obtain ⟨⟨c0, c1, c2, c3⟩, _⟩ := (HF.out w1 hl).2.set4; go_simp; try with_reducible rfl
            simp only [eA, eB, eC, Act.put, eD, eE, eF]
            refine tkM 4 ?_ rfl (fun w1 hl => ?_) ?_
            rotate_left
            · obtain ⟨x0, x1, x2, x3, x4⟩ := (HF.out w1 hl).1.rd.cells; obtain ⟨⟨c0, c1, c2, c3⟩, _⟩ := (HF.out w1 hl).2.set4; go_simp; try with_reducible rfl
            simp only [eA, eB, eC, Act.put, eD, eE, eF]
            refine wpM_one (t := 7) (i := 5) (by kernel_rfl) rfl (fun w1 hl K hK => ?_)
            obtain ⟨u, hu⟩ := (HF.out w1 hl).1.four
            obtain ⟨⟨c0, c1, c2, c3⟩, ⟨f0, f1, f2, f3⟩⟩ := hu.set4
            go_simp
            have hT5 : Turns w.heap.size 43 (setC (s)) w1 _ := turns_store4 (v0 := .int .u64 (word (s) 0 : Nat)) (v1 := .int .u64 (word (s) 1 : Nat)) (v2 := .int .u64 (word (s) 2 : Nat)) (v3 := .int .u64 (word (s) 3 : Nat)) hu rfl
            have hX5 := hu.store4 rfl (.int .u64 (word (s) 0 : Nat)) (.int .u64 (word (s) 1 : Nat)) (.int .u64 (word (s) 2 : Nat)) (.int .u64 (word (s) 3 : Nat))
            have hl5 := (relTurns _ _ _).trans _ _ _ hl hT5
            refine hK.out _ _ (fun _ => hT5) ?_
            clear hK K c0 c1 c2 c3 f0 f1 f2 f3 hu hl hT5
            refine tkM 6 ?_ rfl (fun w1 hl => ?_) ?_
            rotate_left
            · skip; go_simp; try with_reducible rfl
            simp only [eA, eB, eC, Act.put, eD, eE, eF]
            refine wpM_one (t := 7) (i := 7) (by kernel_rfl) rfl (fun w1 hl K hK => ?_)
            have hT7 := (HF.out w1 ((relTurns _ _ _).trans _ _ _ hl5 hl)).1
            have hX7 := hl.fin hX5
            have r0 := hT7.x1.cell 0
            have r1 := hT7.x1.cell 1
            have s0 := hT7.x1.free 0
            have s1 := hT7.x1.free 1
            go_simp
            refine hK.out _ _ (fun h => absurd rfl h) ?_
            clear hK K
            refine wpM_done (by kernel_rfl) (fun w1 hl => ?_) _
            have hE0 := hl.fin ((hX7.other ⟨w.heap.size + 1, 0, none⟩ (.int .i64 0) (by simp)).other ⟨w.heap.size + 1, 1, none⟩ (.int .i64 0) (by simp))
            have hE1 := hl.keep.box (by show ¬ _; omega) ((hT7.x1.set 0 (.int .i64 0)).set 1 (.int .i64 0))
            have hE2 := ((hT7.below.setCell (p := ⟨w.heap.size + 1, 0, none⟩) (by simp) (.int .i64 0)).setCell (p := ⟨w.heap.size + 1, 1, none⟩) (by simp) (.int .i64 0)).trans (hl.low (by simpa [World.setCell] using hT7.below.size))
            go_wp2
            exact ret_box_tmp_box Tryz.results73 rfl rfl rfl hE0 hE1 Tryz.underlying43 rfl (by kernel_rfl) Tryz.underlying80 rfl (by kernel_rfl) rfl ⟨rfl, hE2⟩
          | true =>
            go_wp2_with (first | (go_at_call 99; go_must (refine (HC.out _ hc).mono ?_; rintro e w4 ⟨rfl, hR4, hO4⟩; have hc4 := hc.step hR4 hO4; have hb4 := hO4.box hb (by omega); obtain ⟨z0, z1, z2, z3, z4⟩ := hc4.rd.cells; obtain ⟨⟨b0, b1, b2, b3⟩, ⟨k0, k1, k2, k3⟩⟩ := hb4.set4)) | (go_at_call 63; go_must (refine (sets_Not s _).mono ?_; rintro e w5 ⟨rfl, hB5⟩; have hc5 := hc4.kept hB5; have hb5 := hb4.kept hB5; obtain ⟨⟨d0, d1, d2, d3⟩, ⟨m0, m1, m2, m3⟩⟩ := hb5.set4)))
            have hc6 := hc5.store4 hsB hg (.int .u64 (word (~~~s) 0 : Nat)) (.int .u64 (word (~~~s) 1 : Nat)) (.int .u64 (word (~~~s) 2 : Nat)) (.int .u64 (word (~~~s) 3 : Nat))
            have hb6 := hb5.store4 rfl (.int .u64 (word (~~~s) 0 : Nat)) (.int .u64 (word (~~~s) 1 : Nat)) (.int .u64 (word (~~~s) 2 : Nat)) (.int .u64 (word (~~~s) 3 : Nat))
            clear d0 d1 d2 d3 m0 m1 m2 m3 hc5 hb5 hB5 hc4 hb4 hR4 hO4 z0 z1 z2 z3 z4 b0 b1 b2 b3 k0 k1 k2 k3
            generalize ((((w5.setCell ⟨sB, 0, none⟩ (.int .u64 (word (~~~s) 0 : Nat))).setCell ⟨sB, 1, none⟩ (.int .u64 (word (~~~s) 1 : Nat))).setCell ⟨sB, 2, none⟩ (.int .u64 (word (~~~s) 2 : Nat))).setCell ⟨sB, 3, none⟩ (.int .u64 (word (~~~s) 3 : Nat))) = w6 at *
            have HF : Hid (∀ v, Turns w.heap.size 43 (setC (~~~s)) w6.drew v → CT w v g n cap (j + 1) 0 0 l (~~~s) ∧ Box v sB (setC (~~~s)) 43) := Lib.hid fun v hl => ⟨((CT.of (~~~s) hc6).turn hgne (relTurns _ _ _ |>.later _ _ (Below.refl _ _).drew |> fun h0 => (relTurns _ _ _).trans _ _ _ h0 hl)), hl.keep.box (by show ¬ _; omega) hb6⟩
            refine wp_region_M (R := Turns w.heap.size 43 (setC (~~~s))) 7 (by kernel_rfl) ?_
            refine tkM 0 ?_ rfl (fun w1 hl => ?_) ?_
            rotate_left
            · obtain ⟨x0, x1, x2, x3, x4⟩ := (HF.out w1 hl).1.rd.cells; obtain ⟨⟨c0, c1, c2, c3⟩, _⟩ := (HF.out w1 hl).2.set4; go_simp; try with_reducible rfl
            simp only [eA, eB, Act.put, eD, eE, eF]
            refine tkM 1 ?_ rfl (fun w1 hl => ?_) ?_
            rotate_left
            · obtain ⟨x0, x1, x2, x3, x4⟩ := (HF.out w1 hl).1.rd.cells; obtain ⟨⟨c0, c1, c2, c3⟩, _⟩ := (HF.out w1 hl).2.set4; go_simp; try with_reducible rfl
            simp only [eA, eB, eC, Act.put, eD, eE, eF]
            refine tkM 2 ?_ rfl (fun w1 hl => ?_) ?_
            rotate_left
            · obtain ⟨x0, x1, x2, x3, x4⟩ := (HF.out w1 hl).1.rd.cells; obtain ⟨⟨c0, c1, c2, c3⟩, _⟩ := (HF.out w1 hl).2.set4; go_simp; try with_reducible rfl
            simp only [eA, eB, eC, Act.put, eD, eE, eF]
            refine tkM 3 ?_ rfl (fun w1 hl => ?_) ?_
            rotate_left
            · obtain ⟨x0, x1, x2, x3, x4⟩ := (HF.out w1 hl).1.rd.cells; obtain ⟨⟨c0, c1, c2, c3⟩, _⟩ := (HF.out w1 hl).2.set4; go_simp; try with_reducible rfl
            simp only [eA, eB, eC, Act.put, eD, eE, eF]
            refine tkM 4 ?_ rfl (fun w1 hl => ?_) ?_
            rotate_left
            · obtain ⟨x0, x1, x2, x3, x4⟩ := (HF.out w1 hl).1.rd.cells; obtain ⟨⟨c0, c1, c2, c3⟩, _⟩ := (HF.out w1 hl).2.set4; go_simp; try with_reducible rfl
            simp only [eA, eB, eC, Act.put, eD, eE, eF]
            refine wpM_one (t := 7) (i := 5) (by kernel_rfl) rfl (fun w1 hl K hK => ?_)
            obtain ⟨u, hu⟩ := (HF.out w1 hl).1.four
            obtain ⟨⟨c0, c1, c2, c3⟩, ⟨f0, f1, f2, f3⟩⟩ := hu.set4
            go_simp
            have hT5 : Turns w.heap.size 43 (setC (~~~s)) w1 _ := turns_store4 (v0 := .int .u64 (word (~~~s) 0 : Nat)) (v1 := .int .u64 (word (~~~s) 1 : Nat)) (v2 := .int .u64 (word (~~~s) 2 : Nat)) (v3 := .int .u64 (word (~~~s) 3 : Nat)) hu rfl
            have hX5 := hu.store4 rfl (.int .u64 (word (~~~s) 0 : Nat)) (.int .u64 (word (~~~s) 1 : Nat)) (.int .u64 (word (~~~s) 2 : Nat)) (.int .u64 (word (~~~s) 3 : Nat))
            have hl5 := (relTurns _ _ _).trans _ _ _ hl hT5
            refine hK.out _ _ (fun _ => hT5) ?_
            clear hK K c0 c1 c2 c3 f0 f1 f2 f3 hu hl hT5
            refine tkM 6 ?_ rfl (fun w1 hl => ?_) ?_
            rotate_left
            · skip; go_simp; try with_reducible rfl
            simp only [eA, eB, eC, Act.put, eD, eE, eF]
            refine wpM_one (t := 7) (i := 7) (by kernel_rfl) rfl (fun w1 hl K hK => ?_)
            have hT7 := (HF.out w1 ((relTurns _ _ _).trans _ _ _ hl5 hl)).1
            have hX7 := hl.fin hX5
            have r0 := hT7.x1.cell 0
            have r1 := hT7.x1.cell 1
            have s0 := hT7.x1.free 0
            have s1 := hT7.x1.free 1
            go_simp
            refine hK.out _ _ (fun h => absurd rfl h) ?_
            clear hK K
            refine wpM_done (by kernel_rfl) (fun w1 hl => ?_) _
            have hE0 := hl.fin ((hX7.other ⟨w.heap.size + 1, 0, none⟩ (.int .i64 0) (by simp)).other ⟨w.heap.size + 1, 1, none⟩ (.int .i64 0) (by simp))
            have hE1 := hl.keep.box (by show ¬ _; omega) ((hT7.x1.set 0 (.int .i64 0)).set 1 (.int .i64 0))
            have hE2 := ((hT7.below.setCell (p := ⟨w.heap.size + 1, 0, none⟩) (by simp) (.int .i64 0)).setCell (p := ⟨w.heap.size + 1, 1, none⟩) (by simp) (.int .i64 0)).trans (hl.low (by simpa [World.setCell] using hT7.below.size))
            go_wp2
            exact ret_box_tmp_box Tryz.results73 rfl rfl rfl hE0 hE1 Tryz.underlying43 rfl (by kernel_rfl) Tryz.underlying80 rfl (by kernel_rfl) rfl ⟨rfl, hE2⟩
        | false =>
          rw [h93] at hC hlp
          simp only [Bool.false_eq_true, if_false] at hC hlp
          have HC := Lib.hid hC
          have hnext : ∀ (s1 : BSet) (j1 kd1 ps1 : Nat) (W : World), j1 ≤ n → ((kd1 = 0 ∧ ps1 = 0 ∧ ∃ q, itemR l 0 j = .inr (q, j1) ∧ s1 = spanS q.1 q.2) ∨ (kd1 ≠ 0 ∧ itemR l 0 j = .inl (kd1, ps1))) → CR w W g n cap j1 kd1 ps1 l → Box W sB (setC (s ||| s1)) 43 → LoopC w g n cap sB l ANS W := by
            intro s1 j1 kd1 ps1 W hj1 hor hc1 hb1
            rcases hor with ⟨rfl, rfl, q, hq, rfl⟩ | ⟨h1, hq⟩
            · have hup := itemR_up hq
              rw [hq] at hlp
              exact .inl ⟨f, j1, _, hj1, by omega, hlp, hc1, hb1⟩
            · rw [hq] at hlp
              exact .inr ⟨kd1, ps1, j1, _, h1, hj1, hlp.symm, hc1, hb1⟩
          have hmeas : ∀ (s1 : BSet) (j1 kd1 ps1 : Nat) (W : World), j1 ≤ n → ((kd1 = 0 ∧ ps1 = 0 ∧ ∃ q, itemR l 0 j = .inr (q, j1) ∧ s1 = spanS q.1 q.2) ∨ (kd1 ≠ 0 ∧ itemR l 0 j = .inl (kd1, ps1))) → CR w W g n cap j1 kd1 ps1 l → measC (w.heap.size + 1 + 1) n W < measC (w.heap.size + 1 + 1) n wr := by
            intro s1 j1 kd1 ps1 W hj1 hor hc1
            rw [measC_eq hc1, measC_eq hc, if_pos rfl]
            rcases hor with ⟨rfl, rfl, q, hq, rfl⟩ | ⟨h1, hq⟩
            · have hup := itemR_up hq
              rw [if_pos rfl]
              omega
            · rw [if_neg h1]
              omega
          have HN := Lib.hid hnext
          have HM := Lib.hid hmeas
          clear hC hnext hmeas hlp h93
          go_wp2_with (go_at_call 99; go_must (refine (HC.out _ hc).mono ?_; rintro e w4 ⟨rfl, hR4, hO4⟩; have hc4 := hc.step hR4 hO4; have hb4 := hO4.box hb (by omega)))
          have hc4 := hc4.kept (Below.refl _ _).drew
          have hb4 := hb4.kept (Below.refl _ _).drew
          obtain ⟨⟨b0, b1, b2, b3⟩, _⟩ := hb4.set4
          refine wp_region_A (by kernel_rfl) ?_
          refine wpAny_two (i := 0) (j := 1) (by kernel_rfl) rfl rfl (fun K hK => ?_) (fun K hK => ?_)
          · go_simp
            refine hK.out _ _ ?_
            clear hK K
            refine wpAny_one (i := 1) (by kernel_rfl) rfl (fun K hK => ?_)
            go_simp
            refine (HI.out _ _ hc4 hj).mono ?_
            rintro e w5 ⟨s1, j1, kd1, ps1, hj1, ⟨rfl, hR5, hO5⟩, hor⟩
            have hc5 := hc4.step hR5 hO5
            have hb5 := hO5.box hb4 (by omega)
            refine hK.out _ _ ?_
            clear hK K b0 b1 b2 b3
            refine wpAny_one (i := 2) (by kernel_rfl) rfl (fun K hK => ?_)
            go_simp
            refine hK.out _ _ ?_
            clear hK K
            have hsl := sl_new2 w5 s s1 43
            have hU := fun w1 h => sets_Union (some ⟨w5.heap.size, 0, none⟩) 2 [s, s1] w1 h
            rw [two_or] at hU
            have HU := Lib.hid hU
            clear hU
            have hc6 := hc5.kept (later_alloc w5 (.cells #[.int .u64 (word s 0 : Nat), .int .u64 (word s 1 : Nat), .int .u64 (word s 2 : Nat), .int .u64 (word s 3 : Nat), .int .u64 (word s1 0 : Nat), .int .u64 (word s1 1 : Nat), .int .u64 (word s1 2 : Nat), .int .u64 (word s1 3 : Nat)] 43))
            have hb6 := hb5.kept (later_alloc w5 (.cells #[.int .u64 (word s 0 : Nat), .int .u64 (word s 1 : Nat), .int .u64 (word s 2 : Nat), .int .u64 (word s 3 : Nat), .int .u64 (word s1 0 : Nat), .int .u64 (word s1 1 : Nat), .int .u64 (word s1 2 : Nat), .int .u64 (word s1 3 : Nat)] 43))
            refine wpAny_one (i := 3) (by kernel_rfl) rfl (fun K hK => ?_)
            go_simp
            refine (HU.out _ hsl).mono ?_
            rintro e w7 ⟨rfl, hB7⟩
            refine hK.out _ _ ?_
            clear hK K
            have hc7 := hc6.kept hB7
            have hb7 := hb6.kept hB7
            obtain ⟨⟨c0, c1, c2, c3⟩, ⟨f0, f1, f2, f3⟩⟩ := hb7.set4
            refine wpAny_one (i := 4) (by kernel_rfl) rfl (fun K hK => ?_)
            go_simp
            refine hK.out _ _ ?_
            clear hK K
            refine wpAny_done (by kernel_rfl) ?_ _
            have hc8 := hc7.store4 hsB hg (.int .u64 (word (s ||| s1) 0 : Nat)) (.int .u64 (word (s ||| s1) 1 : Nat)) (.int .u64 (word (s ||| s1) 2 : Nat)) (.int .u64 (word (s ||| s1) 3 : Nat))
            have hb8 := hb7.store4 rfl (.int .u64 (word (s ||| s1) 0 : Nat)) (.int .u64 (word (s ||| s1) 1 : Nat)) (.int .u64 (word (s ||| s1) 2 : Nat)) (.int .u64 (word (s ||| s1) 3 : Nat))
            go_wp2
            go_roundw
            case rel => exact HN.out s1 j1 kd1 ps1 _ hj1 hor hc8 hb8
            case measure => exact HM.out s1 j1 kd1 ps1 _ hj1 hor hc8
          · go_simp
            refine (HI.out _ _ hc4 hj).mono ?_
            rintro e w5 ⟨s1, j1, kd1, ps1, hj1, ⟨rfl, hR5, hO5⟩, hor⟩
            have hc5 := hc4.step hR5 hO5
            have hb5 := hO5.box hb4 (by omega)
            refine hK.out _ _ ?_
            clear hK K b0 b1 b2 b3
            obtain ⟨⟨b0, b1, b2, b3⟩, _⟩ := hb5.set4
            refine wpAny_one (i := 0) (by kernel_rfl) rfl (fun K hK => ?_)
            go_simp
            refine hK.out _ _ ?_
            clear hK K b0 b1 b2 b3
            refine wpAny_one (i := 2) (by kernel_rfl) rfl (fun K hK => ?_)
            go_simp
            refine hK.out _ _ ?_
            clear hK K
            have hsl := sl_new2 w5 s s1 43
            have hU := fun w1 h => sets_Union (some ⟨w5.heap.size, 0, none⟩) 2 [s, s1] w1 h
            rw [two_or] at hU
            have HU := Lib.hid hU
            clear hU
            have hc6 := hc5.kept (later_alloc w5 (.cells #[.int .u64 (word s 0 : Nat), .int .u64 (word s 1 : Nat), .int .u64 (word s 2 : Nat), .int .u64 (word s 3 : Nat), .int .u64 (word s1 0 : Nat), .int .u64 (word s1 1 : Nat), .int .u64 (word s1 2 : Nat), .int .u64 (word s1 3 : Nat)] 43))
            have hb6 := hb5.kept (later_alloc w5 (.cells #[.int .u64 (word s 0 : Nat), .int .u64 (word s 1 : Nat), .int .u64 (word s 2 : Nat), .int .u64 (word s 3 : Nat), .int .u64 (word s1 0 : Nat), .int .u64 (word s1 1 : Nat), .int .u64 (word s1 2 : Nat), .int .u64 (word s1 3 : Nat)] 43))
            refine wpAny_one (i := 3) (by kernel_rfl) rfl (fun K hK => ?_)
            go_simp
            refine (HU.out _ hsl).mono ?_
            rintro e w7 ⟨rfl, hB7⟩
            refine hK.out _ _ ?_
            clear hK K
            have hc7 := hc6.kept hB7
            have hb7 := hb6.kept hB7
            obtain ⟨⟨c0, c1, c2, c3⟩, ⟨f0, f1, f2, f3⟩⟩ := hb7.set4
            refine wpAny_one (i := 4) (by kernel_rfl) rfl (fun K hK => ?_)
            go_simp
            refine hK.out _ _ ?_
            clear hK K
            refine wpAny_done (by kernel_rfl) ?_ _
            have hc8 := hc7.store4 hsB hg (.int .u64 (word (s ||| s1) 0 : Nat)) (.int .u64 (word (s ||| s1) 1 : Nat)) (.int .u64 (word (s ||| s1) 2 : Nat)) (.int .u64 (word (s ||| s1) 3 : Nat))
            have hb8 := hb7.store4 rfl (.int .u64 (word (s ||| s1) 0 : Nat)) (.int .u64 (word (s ||| s1) 1 : Nat)) (.int .u64 (word (s ||| s1) 2 : Nat)) (.int .u64 (word (s ||| s1) 3 : Nat))
            go_wp2
            go_roundw
            case rel => exact HN.out s1 j1 kd1 ps1 _ hj1 hor hc8 hb8
            case measure => exact HM.out s1 j1 kd1 ps1 _ hj1 hor hc8
      · obtain ⟨y0, y1, y2, y3, y4⟩ := hc.rd.cells
        have e1 : ((kd : Int) == 0) = false := by simp; omega
        have e2 : ((kd : Int) != 0) = true := by simp; omega
        subst hans
        go_wp2_with fail
        clear y0 y1 y2 y3 y4
        have HF : Hid (∀ v, Turns w.heap.size 43 (setC 0) wr.drew v → CT w v g n cap j kd ps l 0) := Lib.hid fun v hl => ((CT.of 0 hc).turn hgne (relTurns _ _ _ |>.later _ _ (Below.refl _ _).drew |> fun h0 => (relTurns _ _ _).trans _ _ _ h0 hl))
        refine wp_region_M (R := Turns w.heap.size 43 (setC 0)) 5 (by kernel_rfl) ?_
        refine tkM 0 ?_ rfl (fun w1 hl => ?_) ?_
        rotate_left
        · obtain ⟨x0, x1, x2, x3, x4⟩ := (HF.out w1 hl).rd.cells; go_simp; try with_reducible rfl
        simp only [eA, eB, Act.put, eD, eE, eF]
        refine tkM 1 ?_ rfl (fun w1 hl => ?_) ?_
        rotate_left
        · obtain ⟨x0, x1, x2, x3, x4⟩ := (HF.out w1 hl).rd.cells; go_simp; try with_reducible rfl
        simp only [eA, eB, eC, Act.put, eD, eE, eF]
        refine tkM 2 ?_ rfl (fun w1 hl => ?_) ?_
        rotate_left
        · obtain ⟨x0, x1, x2, x3, x4⟩ := (HF.out w1 hl).rd.cells; go_simp; try with_reducible rfl
        simp only [eA, eB, eC, Act.put, eD, eE, eF]
        refine wpM_one (t := 5) (i := 3) (by kernel_rfl) rfl (fun w1 hl K hK => ?_)
        obtain ⟨u, hu⟩ := (HF.out w1 hl).four
        obtain ⟨⟨c0, c1, c2, c3⟩, ⟨f0, f1, f2, f3⟩⟩ := hu.set4
        go_simp
        have hT5 := turns_store4 (v0 := .int .u64 0) (v1 := .int .u64 0) (v2 := .int .u64 0) (v3 := .int .u64 0) hu rfl
        have hX5 := hu.store4 rfl (.int .u64 0) (.int .u64 0) (.int .u64 0) (.int .u64 0)
        rw [← setC_zero] at hT5 hX5
        have hl5 := (relTurns _ _ _).trans _ _ _ hl hT5
        refine hK.out _ _ (fun _ => hT5) ?_
        clear hK K c0 c1 c2 c3 f0 f1 f2 f3 hu hl hT5
        refine tkM 4 ?_ rfl (fun w1 hl => ?_) ?_
        rotate_left
        · skip; go_simp; try with_reducible rfl
        simp only [eA, eB, eC, Act.put, eD, eE, eF]
        refine wpM_one (t := 5) (i := 5) (by kernel_rfl) rfl (fun w1 hl K hK => ?_)
        have hT7 := HF.out w1 ((relTurns _ _ _).trans _ _ _ hl5 hl)
        have hX7 := hl.fin hX5
        have r0 := hT7.x1.cell 0
        have r1 := hT7.x1.cell 1
        have s0 := hT7.x1.free 0
        have s1 := hT7.x1.free 1
        go_simp
        refine hK.out _ _ (fun h => absurd rfl h) ?_
        clear hK K
        refine wpM_done (by kernel_rfl) (fun w1 hl => ?_) _
        have hE0 := hl.fin ((hX7.other ⟨w.heap.size + 1, 0, none⟩ (.int .i64 kd) (by simp)).other ⟨w.heap.size + 1, 1, none⟩ (.int .i64 ps) (by simp))
        have hE1 := hl.keep.box (by show ¬ _; omega) ((hT7.x1.set 0 (.int .i64 kd)).set 1 (.int .i64 ps))
        have hE2 := ((hT7.below.setCell (p := ⟨w.heap.size + 1, 0, none⟩) (by simp) (.int .i64 kd)).setCell (p := ⟨w.heap.size + 1, 1, none⟩) (by simp) (.int .i64 ps)).trans (hl.low (by simpa [World.setCell] using hT7.below.size))
        go_wp2
        exact ret_box_tmp_box Tryz.results73 rfl rfl rfl hE0 hE1 Tryz.underlying43 rfl (by kernel_rfl) Tryz.underlying80 rfl (by kernel_rfl) rfl ⟨rfl, hE2⟩
end Go.Proofs.YtdhmekpgplajmaaGreatDoor
end
