/- Joined by tools/merge.py: Ref19, Count, Range, OwnIn, RoundP, EachP, AppendF. -/
import Derived.Test.YtdhmekpgplajmaaGreatDoorJ5
import Derived.Test.YtdhmekpgplajmaaGreatDoorJ4
import Derived.Laws.Bits128
import Derived.RangeFuncNested
import Derived.RangeFuncBound
import Derived.RangeFuncCalls
import Derived.RangeFuncLeaves
import Derived.Shelf.Abstract
import Derived.Shelf.RegionOpen
import Derived.WalkKit
import Derived.OwnWalkIn
import Derived.TacticsInMore
import Derived.LoopNIn
import Derived.LoopIn
import Derived.Test.YtdhmekpgplajmaaGreatDoorJ1
section
namespace Go.Proofs.YtdhmekpgplajmaaGreatDoor
open Go.RowKit
set_option maxRecDepth 20000 in
theorem ref_Norm19 (f : Nat → Nat) (hf : ∀ b, f b < 256) (w : World) :
    Calls Tryz.prog 52 #[.agg (arr8 f)] w (Ret w (.tuple #[.agg (arr8 (numR (Kern (keyN f)))), .int .i64 (widR (Kern (keyN f)) : Nat)])) := by
  have hz := zeroV_256
  have E := kern_equi (keyN f)
  obtain ⟨L, hP, e1, e2⟩ : ∃ L : List BSet, (∀ wx, Calls Tryz.prog 39 #[.agg (arr8 f)] wx (RetOwn wx 43 4 encS L)) ∧ arr8 (numF L) = arr8 (numR (Kern (keyN f))) ∧ L.length = widR (Kern (keyN f)) := by
    refine ⟨_, fun wx => ref_Sets19 f hf wx, arr8_congr fun c hc => ?_, by rw [List.length_map, widR_def]⟩
    have := numF_cls E hc _ (Nat.le_refl _)
    rw [List.take_length] at this
    rw [this, if_pos]; have := numR_lt E.refl hc; rwa [widR_def] at this
  have H1 := Lib.hid e1
  have H2 := Lib.hid e2
  have HP := Lib.hid hP
  have hle := widR_le (Kern (keyN f))
  clear e1 e2 hP
  go_enter Tryz.func52, Tryz.ntmps52
  go_wp2_with (first | (refine wpList_load_row rfl 23 (.tmp 1) rfl _ rfl _ _ _ _ ((Box.new _ _ _).alloc _) Tryz.underlying23 rfl (size_256 _) ?_) | (refine wpList_store_row rfl 23 (.tmp 2) (.tmp 7) rfl (w.heap.size + 1) _ rfl rfl _ _ hx0 (size_256 _) (arr8_sizes _ _) (arr8_all _) ?_) | (go_at_call 39; go_must (refine (HP.out _).mono ?_; rintro e w1 ⟨a1, cap1, rfl, hown, hB⟩)) | (go_at_call 82; go_must (refine (ref_numbers a1 cap1 _ _ (hown.slice encS_ok) (by rw [H2.out]; exact hle)).mono ?_; rintro e w2 ⟨rfl, hB2⟩; rw [H1.out, H2.out]; have hx0 := ((Box.new' (w := w.alloc (.cells (arr8 f) 23)) (b := w.heap.size + 1) (by simp) (arr8 fun _ => 0) 23).kept hB).kept hB2)))
  have hB3 := ((((Below.refl w.heap.size w).alloc (Nat.le_refl _) (.cells (arr8 f) 23)).alloc (by simp) (.cells (arr8 fun _ => 0) 23)).trans (hB.mono (by simp; omega))).trans (hB2.mono (by have := hB.size; simp at this; omega))
  exact ret_box_tmp Tryz.results52 rfl rfl (hx0.setRow _) Tryz.underlying23 rfl (size_256 _) rfl ⟨rfl, below_setRow hB3 (by omega) _⟩
set_option maxRecDepth 20000 in
set_option maxHeartbeats 400000 in
theorem ref_Right19 (f : Nat → Nat) (hf : ∀ b, f b < 256) (n : Int) (w : World) :
    Calls Tryz.prog 26 #[.agg (arr8 f), .int .i64 n] w (Ret w (.bool (sameArr (numR (Kern (keyN f))) f && ((widR (Kern (keyN f)) : Nat) == n)))) := by
  have hz := zeroV_256
  have hq := run_eq256 (P := Tryz.prog) (t := 23) (e := 5) Tryz.underlying23 Tryz.underlying5 (by kernel_rfl) (numR (Kern (keyN f))) f
  have hsz : ∀ w1 : World, Below (w.alloc (.cells (arr8 f) 23)).heap.size (w.alloc (.cells (arr8 f) 23)) w1 → Below w.heap.size w (w1.alloc (.cells (arr8 (numR (Kern (keyN f)))) 23)) := fun w1 hB => (((Below.refl w.heap.size w).alloc (Nat.le_refl _) _).trans (hB.mono (by go_size))).alloc (by have := hB.size; simp at this; omega) _
  have HS := Lib.hid hsz
  have HF := Lib.hid hf
  clear hsz hf
  cases hs : sameArr (numR (Kern (keyN f))) f with
  | true =>
    rw [hs] at hq
    clear hs
    go_enter Tryz.func26, Tryz.ntmps26
    go_wp2_with (first | (refine wpList_load_row rfl 23 (.tmp 2) rfl _ rfl _ _ _ _ (Box.new _ _ _) Tryz.underlying23 rfl (size_256 _) ?_) | (refine wpList_store_new rfl 23 (.tmp 5) (.tmp 10) rfl _ _ rfl rfl rfl (size_256 _) (arr8_sizes _ _) (arr8_all _) ?_) | (go_at_call 52; go_must (refine (ref_Norm19 f HF.out _).mono ?_; rintro e w1 ⟨rfl, hB⟩; have hx0 := (Box.new w (arr8 f) 23).kept hB)) | (refine wpList_load_row rfl 23 (.tmp 5) rfl _ rfl _ _ _ _ (Box.new _ _ _) Tryz.underlying23 rfl (size_256 _) ?_) | (refine wpList_load_row rfl 23 (.tmp 2) rfl _ rfl _ _ _ _ (hx0.alloc _) Tryz.underlying23 rfl (size_256 _) ?_))
    go_ret
    exact ⟨rfl, HS.out _ hB⟩
  | false =>
    rw [hs] at hq
    clear hs
    go_enter Tryz.func26, Tryz.ntmps26
    go_wp2_with (first | (refine wpList_load_row rfl 23 (.tmp 2) rfl _ rfl _ _ _ _ (Box.new _ _ _) Tryz.underlying23 rfl (size_256 _) ?_) | (refine wpList_store_new rfl 23 (.tmp 5) (.tmp 10) rfl _ _ rfl rfl rfl (size_256 _) (arr8_sizes _ _) (arr8_all _) ?_) | (go_at_call 52; go_must (refine (ref_Norm19 f HF.out _).mono ?_; rintro e w1 ⟨rfl, hB⟩; have hx0 := (Box.new w (arr8 f) 23).kept hB)) | (refine wpList_load_row rfl 23 (.tmp 5) rfl _ rfl _ _ _ _ (Box.new _ _ _) Tryz.underlying23 rfl (size_256 _) ?_) | (refine wpList_load_row rfl 23 (.tmp 2) rfl _ rfl _ _ _ _ (hx0.alloc _) Tryz.underlying23 rfl (size_256 _) ?_))
    go_ret
    exact ⟨rfl, HS.out _ hB⟩
end Go.Proofs.YtdhmekpgplajmaaGreatDoor
end
section
namespace Go.Proofs.YtdhmekpgplajmaaGreatDoor
open Go.RowKit

set_option maxHeartbeats 1000000 in
theorem ones_core (x a1 b1 a2 b2 c r : Nat) (w : World)
    (ha1 : bits BinOp.and IntKind.u64 ((x : Int) / 2) 6148914691236517205 = (a1 : Int)) (hb1 : bits BinOp.and IntKind.u64 (x : Int) 6148914691236517205 = (b1 : Int)) (h1 : a1 + b1 < 18446744073709551616)
    (ha2 : bits BinOp.and IntKind.u64 (((a1 : Int) + (b1 : Int)) / 4) 3689348814741910323 = (a2 : Int)) (hb2 : bits BinOp.and IntKind.u64 ((a1 : Int) + (b1 : Int)) 3689348814741910323 = (b2 : Int)) (h2 : (a2 + b2) / 16 + (a2 + b2) < 18446744073709551616)
    (hc : bits BinOp.and IntKind.u64 (((a2 : Int) + (b2 : Int)) / 16 + ((a2 : Int) + (b2 : Int))) 1085102592571150095 = (c : Int)) (h3 : c ≤ 578721382704613384)
    (hr : bits BinOp.and IntKind.i64 ((c : Int) + (c : Int) / 256 + ((c : Int) + (c : Int) / 256) / 65536 + ((c : Int) + (c : Int) / 256 + ((c : Int) + (c : Int) / 256) / 65536) / 4294967296) 127 = (r : Int)) :
    Calls Tryz.prog 89 #[.int .u64 x] w fun e w' => e = .returned (.int .i64 r) ∧ w' = w := by
  go_enter Tryz.func89, Tryz.ntmps89
  go_wp2
  go_ret
  exact ⟨rfl, rfl⟩
theorem and_div (x d M : Nat) (hx : x < 18446744073709551616) (hM : M < 18446744073709551616) : bits BinOp.and IntKind.u64 ((x : Int) / (d : Int)) (M : Int) = ((x / d &&& M : Nat) : Int) := by
  rw [← Int.natCast_ediv]; exact bits_and_u64_nat _ _ (Nat.lt_of_le_of_lt (Nat.div_le_self _ _) hx) hM
theorem ones64 (x : Nat) (hx : x < 18446744073709551616) (w : World) :
    Calls Tryz.prog 89 #[.int .u64 x] w fun e w' => e = .returned (.int .i64 ((elemsW x).length : Nat)) ∧ w' = w := by
  obtain ⟨h3, hs⟩ := pop3_sum x
  have hp1 : x / 2 &&& 6148914691236517205 ≤ 6148914691236517205 := Nat.and_le_right
  have hp2 : x &&& 6148914691236517205 ≤ 6148914691236517205 := Nat.and_le_right
  have hq1 : pop1 x / 4 &&& 3689348814741910323 ≤ 3689348814741910323 := Nat.and_le_right
  have hq2 : pop1 x &&& 3689348814741910323 ≤ 3689348814741910323 := Nat.and_le_right
  have hb1 : pop1 x < 18446744073709551616 := by unfold pop1; omega
  have hb2 : pop2 (pop1 x) / 16 + pop2 (pop1 x) < 18446744073709551616 := by unfold pop2; omega
  have c1 : (((x / 2 &&& 6148914691236517205 : Nat) : Int) + ((x &&& 6148914691236517205 : Nat) : Int)) = ((pop1 x : Nat) : Int) := by unfold pop1; omega
  have c2 : (((pop1 x / 4 &&& 3689348814741910323 : Nat) : Int) + ((pop1 x &&& 3689348814741910323 : Nat) : Int)) = ((pop2 (pop1 x) : Nat) : Int) := by unfold pop2; omega
  refine ones_core x (x / 2 &&& 6148914691236517205) (x &&& 6148914691236517205) (pop1 x / 4 &&& 3689348814741910323) (pop1 x &&& 3689348814741910323) (pop3 (pop2 (pop1 x))) _ w
    (and_div x 2 6148914691236517205 hx (by decide)) (bits_and_u64_nat x 6148914691236517205 hx (by decide)) hb1 ?_ ?_ hb2 ?_ h3 ?_
  · rw [c1]; exact and_div _ 4 3689348814741910323 hb1 (by decide)
  · rw [c1]; exact bits_and_u64_nat _ 3689348814741910323 hb1 (by decide)
  · rw [c2, show ((pop2 (pop1 x) : Nat) : Int) / 16 + ((pop2 (pop1 x) : Nat) : Int) = ((pop2 (pop1 x) / 16 + pop2 (pop1 x) : Nat) : Int) by omega]
    exact bits_and_u64_nat _ 1085102592571150095 hb2 (by decide)
  · rw [i64_and127, ← hs]
    generalize pop3 (pop2 (pop1 x)) = c
    omega
def cntS (s : BSet) : Nat → Nat
  | 0 => 0
  | j + 1 => cntS s j + (elemsW (word s j)).length
theorem cntS_le (s : BSet) : ∀ j, cntS s j ≤ 64 * j
  | 0 => Nat.le_refl _
  | j + 1 => by
    have h := cntS_le s j
    have h2 : (elemsW (word s j)).length ≤ 64 := by have := List.length_filter_le (fun i => (word s j).testBit i) (List.range 64); simpa [elemsW] using this
    simp only [cntS]; omega
theorem cntS_elems (s : BSet) : cntS s 4 = (elems s).length := by
  rw [elems_words]; simp [cntS, tailS, listW]; omega
set_option maxHeartbeats 800000 in
theorem sets_Count (s : BSet) (w : World) : Calls Tryz.prog 62 #[.agg (setC s)] w (Ret w (.int .i64 ((elems s).length : Nat))) := by
  rw [← cntS_elems]
  go_enter Tryz.func62, Tryz.ntmps62
  go_wp2
  go_loopw [3, 7] (fun n i wr => ∃ j : Nat, j ≤ 4 ∧ i = .int .i64 j ∧ n = .int .i64 (cntS s j : Nat) ∧ Below w.heap.size w wr) (fun _ i _ => 4 - (intOf i).toNat)
  case atStart => exact ⟨0, Nat.zero_le _, rfl, rfl, by go_grown⟩
  case round =>
    obtain ⟨j, hj, rfl, rfl, hB⟩ := hrel
    by_cases hlt : j < 4
    · have gw := index_set s j hlt
      have hle := cntS_le s j
      have hO := ones64 (word s j) (word_lt s j)
      have hst : cntS s (j + 1) = cntS s j + (elemsW (word s j)).length := rfl
      have hle2 : (elemsW (word s j)).length ≤ 64 := by have := List.length_filter_le (fun i => (word s j).testBit i) (List.range 64); simpa [elemsW] using this
      have HO := Lib.hid hO
      clear hO
      generalize (elemsW (word s j)).length = m at *
      go_wp2_with (go_at_call 89; go_must (refine (HO.out _).mono ?_; rintro e w1 ⟨rfl, rfl⟩))
      go_roundw
      case rel => exact ⟨j + 1, hlt, by go_num, by rw [hst]; go_num, hB⟩
      case measure => simp [intOf]; omega
    · obtain rfl : j = 4 := by omega
      go_wp2
      go_ret
      exact ⟨rfl, hB⟩
end Go.Proofs.YtdhmekpgplajmaaGreatDoor
end
section
namespace Go.Proofs.YtdhmekpgplajmaaGreatDoor
open Go.RowKit

theorem room_of_none {F : Fence} (hd : F.depth = none) (k : Nat) : F.room k := fun d h => by rw [hd] at h; cases h
theorem round_any {F : Fence} (hd : F.depth = none) {m m' : Nat} {P : Program} {l : Nat} {f : FuncId} {tmps : Array Value} {assign body : Code} {w : World} {R : Ending → World → Prop}
    (h : RoundIn F m P l f tmps assign body w R) : RoundIn F m' P l f tmps assign body w R := ⟨h.1, fun c cs _ => h.2 c cs (room_of_none hd _)⟩
theorem yield_any {F : Fence} (hd : F.depth = none) {m : Nat} (m' : Nat) {P : Program} {l : Nat} {args : Array Value} {W : World} {R : Ending → World → Prop} (h : YieldAt F m P l args W R) : YieldAt F m' P l args W R := by
  obtain ⟨fn, tmps, assign, body, hy, hR⟩ := h
  exact ⟨fn, tmps, assign, body, hy, round_any hd hR⟩

/-- All blocks of cells lie as they lay, but those of which X holds. -/
structure KeepC (X : Nat → Prop) (W W' : World) : Prop where
  size : W.heap.size ≤ W'.heap.size
  same : ∀ b, ¬ X b → ∀ (c : Array Value) (E : Nat) (fr : Nat × Nat), W.heap[b]? = some (.cells c E fr) → W'.heap[b]? = some (.cells c E fr)
section
variable {X : Nat → Prop} {A B C W W' : World}
theorem KeepC.refl (X : Nat → Prop) (W : World) : KeepC X W W := ⟨Nat.le_refl _, fun _ _ _ _ _ h => h⟩
theorem KeepC.trans (h : KeepC X A B) (k : KeepC X B C) : KeepC X A C := ⟨Nat.le_trans h.size k.size, fun b hb c E fr e => k.same b hb c E fr (h.same b hb c E fr e)⟩
theorem KeepC.below (h : Below W.heap.size W W') : KeepC X W W' := ⟨h.size, fun b _ _ _ _ e => (h.block b (Array.getElem?_eq_some_iff.1 e).1).trans e⟩
theorem KeepC.set (W : World) (a : Addr) (v : Value) (h : X a.block) : KeepC X W (W.setCell a v) :=
  ⟨by simp [World.setCell], fun b hb _ _ _ e => (heap_setCell_other W a b v (fun e => hb (e ▸ h))).trans e⟩
theorem KeepC.put {l : Nat} {o o' : Obj} (h : W.heap[l]? = some o) (hc : o.isCells = false) : KeepC X W (W.putObj l o') :=
  ⟨by simp, fun b _ _ _ _ e => (World.putObj_heap_other (fun e2 => by subst e2; rw [h] at e; cases e; cases hc)).trans e⟩
theorem KeepC.cell (h : KeepC X W W') {a : Addr} {v : Value} (ha : ¬ X a.block) (hv : W.cell? a = some v) : W'.cell? a = some v := by
  obtain ⟨o, ho, hc⟩ := cells_of_cell hv
  cases o with
  | cells _ _ _ => rw [← hv]; exact World.cell?_of_block ((h.same _ ha _ _ _ ho).trans ho.symm)
  | _ => cases hc
theorem KeepC.box (h : KeepC X W W') {b E : Nat} {c : Array Value} (hb : ¬ X b) (hx : Box W b c E) : Box W' b c E := h.same b hb c E (0, 0) hx
theorem KeepC.slice (h : KeepC X W W') {α : Type} {a : Option Addr} {n cap size : Nat} {enc : α → List Value} {xs : List α} (hs : SliceR W (.slice a n cap) size enc xs) (ha : 0 < xs.length → ∀ ad, a = some ad → ¬ X ad.block) : SliceR W' (.slice a n cap) size enc xs := by
  obtain ⟨a', b, o, cap', hv, hl, hc, ha', hx⟩ := hs
  obtain ⟨rfl, rfl, rfl⟩ := Value.slice.inj hv
  refine ⟨a, b, o, cap, rfl, hl, hc, ha', fun i hi j u hu => ?_⟩
  rcases ha' with rfl | ⟨rfl, _⟩
  · exact h.cell (a := ⟨b, o + i * size + j, none⟩) (ha (by omega) ⟨b, o, none⟩ rfl) (hx i hi j u hu)
  · simp at hi
end
theorem keepC_b {X : Nat → Prop} {w : World} (W : World) (l : Nat) (o o' : Obj) (_ : w.heap.size ≤ l) (h : W.heap[l]? = some o) (hc : o.isCells = false) (_ : o.isWalk = false) : KeepC X W (W.putObj l o') := KeepC.put h hc
theorem abides_below {β : Type} {B : Nat} {J : β → World → Prop} (h : AbidesFrom B J) {s : β} {W W' : World} (hs : J s W) (hb : Below W.heap.size W W') : J s W' :=
  h s W W' none hs ⟨hb.os, hb.tape, hb.output, hb.size, fun k hk _ => hb.block k hk⟩ (fun r e => by cases e)
theorem ownFrom_box {β : Type} (B b E : Nat) (f : β → Array Value) : OwnFrom B (fun (s : β) W => Box W b (f s) E) := fun s W W' row hs hg hr => by
  refine (hg.block b hs.lt fun e => ?_).trans hs
  obtain ⟨_, o, ho, hc⟩ := hr b e.symm
  rw [show W.heap[b]? = _ from hs] at ho
  cases ho; cases hc
theorem ownFrom_false {β : Type} (B : Nat) : OwnFrom B (fun (_ : β) (_ : World) => False) := fun _ _ _ _ h _ _ => h
end Go.Proofs.YtdhmekpgplajmaaGreatDoor
end
section
namespace Go.Proofs.YtdhmekpgplajmaaGreatDoor
open Go.RowKit

theorem wpListIn_append1 {α : Type} {w : World} {base E size : Nat} {enc : α → List Value} {v : Value} {xs : List α} {F : Fence} {n : Nat} {P : Program} {ops : Array Oper} {rest : List Oper} {o : Oper} {a : Act} {Q : Exit → Act → World → Prop} (hgd : o.guard = none) (s x : Operand) (t : TypeId)
    (ho : o.op = .call { callee := .builtin .append, args := #[s, x], argTypes := #[t, t] }) {z : Value} {bytes : Nat} (hE : ElemOK P t E z size bytes) (he : EncOK enc size)
    (hs : a.eval s = v) (hown : Own w base E size enc v xs) (ad : Addr) (c : Nat) (y : α) (hx : a.eval x = .slice (some ad) 1 c) (hnews : ∀ j u, (enc y)[j]? = some u → w.cell? (ad.add j) = some u)
    (h63 : xs.length + 1 ≤ maxLen) (hbytes : (xs.length + 1) * bytes ≤ 140737488355328) (hbase : base ≤ w.heap.size)
    (h : ∀ a' cap' w', Own w' base E size enc (.slice a' (xs.length + 1) cap') (xs ++ [y]) → w.grownBy w' v.ownBlock → wpListIn F n P ops Q rest (a.put o.dst (.slice a' (xs.length + 1) cap')) w') : wpListIn F n P ops Q (o :: rest) a w := by
  obtain ⟨i, hi, hz, hsz, hby⟩ := hE.info
  refine wpListIn_append_own w hgd s x t ho base E i z size bytes hE.slice hi hz hsz hby hE.zsize hE.pos v xs.length (xs.flatMap enc) hs (hown.toRow he) ad 1 c (enc y) hx (by rw [he.len, Nat.one_mul]) hnews (he.one y) h63 hbytes hbase ?_
  intro v' w' hr hg _
  have hr' : Own w' base E size enc v' (xs ++ [y]) := by
    refine Own.ofRow ?_ he
    rw [List.length_append, List.flatMap_append]
    simpa using hr
  obtain ⟨a', cap', rfl⟩ := hr'.form
  have e : (xs ++ [y]).length = xs.length + 1 := by simp
  rw [e] at hr' ⊢
  exact h a' cap' w' hr' hg
theorem Own.block {α : Type} {w : World} {base E size : Nat} {enc : α → List Value} {v : Value} {xs : List α} (h : Own w base E size enc v xs) (g : Nat) (hg : v.ownBlock = some g) : base ≤ g ∧ ∃ cur, Box w g cur E := by
  obtain ⟨a, cap, rfl, _, _, hh⟩ := h
  rcases hh with ⟨rfl, _⟩ | ⟨g', cur, rfl, hb, hg', _⟩
  · simp [Value.ownBlock] at hg
  · simp [Value.ownBlock] at hg; subst hg; exact ⟨hb, cur, hg'⟩
theorem ownFrom_own {α β : Type} (B base E size : Nat) (enc : α → List Value) (v : β → Value) (xs : β → List α) : OwnFrom B (fun (s : β) W => Own W base E size enc (v s) (xs s)) := fun s W W' row hs hg hr => by
  obtain ⟨a, cap, hv, hle, hm, hh⟩ := hs
  refine ⟨a, cap, hv, hle, hm, ?_⟩
  rcases hh with hh | ⟨g, cur, ha, hb, hg', hc⟩
  · exact .inl hh
  · exact .inr ⟨g, cur, ha, hb, ownFrom_box B g E (fun _ : Unit => cur) () W W' row hg' hg hr, hc⟩
/-- What an append keeps. -/
theorem KeepC.grown {α : Type} {X : Nat → Prop} {w w' : World} {base E size : Nat} {enc : α → List Value} {v : Value} {xs : List α} (h : Own w base E size enc v xs) (hg : w.grownBy w' v.ownBlock) (hX : ∀ b, base ≤ b → X b) : KeepC X w w' :=
  ⟨hg.size, fun b hb _ _ _ e => (hg.block b (Array.getElem?_eq_some_iff.1 e).1 fun e2 => hb (hX b (h.block b e2.symm).1)).trans e⟩
theorem KeepsOthers.grownOwn {α : Type} {w w' : World} {base E size : Nat} {enc : α → List Value} {v : Value} {xs : List α} (h : Own w base E size enc v xs) (hg : w.grownBy w' v.ownBlock) : KeepsOthers w w' :=
  KeepsOthers.of_grownBy hg fun j o e ho => by
    obtain ⟨_, cur, hb⟩ := h.block j e
    rw [show w.heap[j]? = _ from hb] at ho
    cases ho; rfl
end Go.Proofs.YtdhmekpgplajmaaGreatDoor
end
section
namespace Go.Proofs.YtdhmekpgplajmaaGreatDoor
open Go.RowKit
/-- A code's walk in the frames of one function. -/
def WpAt (f : FuncId) (P : Program) (c : Code) (Q : Exit → Act → World → Prop) (a : Act) (w : World) : Prop :=
  ∀ (b : Frame) (k : List Item) (cs : List Frame), b.roundOf = none → b.fn = f →
    ∃ e a' w', Q e a' w' ∧ ArrivesIn (Machine.fenced P Fence.wide) P (lone (b.atR a (.code c :: k)) cs w) b k cs e a' w'
section
variable {f : FuncId} {P : Program} {Q : Exit → Act → World → Prop} {a : Act} {w : World}
theorem wpAt_of_wp {c : Code} (h : c.wp P Q a w) : WpAt f P c Q a w := fun b k cs hb _ => (wpIn_wide (n := 0)).2 h b k cs hb trivial (room_wide _)
theorem wpAt_of_in {n : Nat} {c : Code} (h : c.wpIn Fence.wide n P Q a w) : WpAt f P c Q a w := fun b k cs hb _ => h b k cs hb trivial (room_wide _)
theorem wpAt_seq {x y : Code} (h : WpAt f P x (Exit.then (WpAt f P y Q) Q) a w) : WpAt f P (.seq x y) Q a w := fun b k cs hb hf => by
  have s0 : StepsIn (Machine.fenced P Fence.wide) P (lone (b.atR a (.code (.seq x y) :: k)) cs w) _ := .one (fenced_wide _ _) stepR_seq
  obtain ⟨e, a1, w1, hq, hs⟩ := h b (.code y :: k) cs hb hf
  match e, hq, hs with
  | .normal, hq, hs =>
    obtain ⟨e2, a2, w2, hq2, hs2⟩ := hq b k cs hb hf
    exact ⟨e2, a2, w2, hq2, .of_steps (s0.trans hs) hs2⟩
  | .exit i, hq, hs => exact ⟨.exit i, a1, w1, hq, .of_steps s0 (.pass (x := .code y) rfl (fun _ _ => .inl (by simp)) hs)⟩
  | .goto i, hq, hs => exact ⟨.goto i, a1, w1, hq, .of_steps s0 (.pass (x := .code y) rfl (fun _ _ => .inl (by simp)) hs)⟩
  | .ret, hq, hs => exact ⟨.ret, a1, w1, hq, .of_steps s0 (.pass (x := .code y) rfl (fun _ _ => .inl (by simp)) hs)⟩
  | .panic c, hq, hs => exact ⟨.panic c, a1, w1, hq, .of_steps s0 (.pass (x := .code y) rfl (fun _ _ => .inl (by simp)) hs)⟩
  | .outgrown, hq, hs => exact ⟨.outgrown, a1, w1, hq, .of_steps s0 (.pass (x := .code y) rfl (fun _ _ => .inl (by simp)) hs)⟩
/-- The statement, in the frames of the function f. -/
theorem wpAt_rangeFunc {g : Operand} {ps : Array Tmp} {assign body : Code} {l : Nat} {mark : List Deferred} {w1 w1' w2 : World} {d : Deferred} {gf : FuncId} {args : Array Value}
    (he : (Instr.enterLoop f a.tmps ps assign body none).run P w = .ok (l, mark) w1) (hres : (resolve a.eval (rangeCall g l) 0).run P w1 = .ok d w1')
    (hinv : (invoke d.target d.args).run P w1' = .ok (.enter gf args) w2)
    (hcall : CallsIn Fence.wide 0 P gf args w2 (rangePost Fence.wide 0 P l Q { a with defers := mark ++ a.defers })) :
    WpAt f P (.rangeFunc g ps assign body) Q a w := fun b k cs hb hf => by
  subst hf
  rw [← hb] at he
  have s0 : StepsIn (Machine.fenced P Fence.wide) P (lone (b.atR a (.code (.rangeFunc g ps assign body) :: k)) cs w) _ := .one (fenced_wide _ _) (stepR_rangeFunc (a := a) (k := k) (cs := cs) he hres hinv)
  obtain ⟨e, w3, fr, hR, hs, hfn, hl⟩ := hcall.2 (b.atR { a with defers := mark ++ a.defers } (.inRangeFunc l :: k) :: cs) (room_wide _)
  match e, hR, hs, hl with
  | .outgrown, hR, hs, _ =>
    obtain ⟨a0, w0, hq⟩ := hR
    exact ⟨.outgrown, a0, w0, hq, .inr (Outgrown.of_steps s0.steps hs)⟩
  | .returned v, hR, hs, hl =>
    obtain ⟨jump, w4, hend, hj⟩ := hR
    have s1 : StepsIn (Machine.fenced P Fence.wide) P (lone fr (b.atR { a with defers := mark ++ a.defers } (.inRangeFunc l :: k) :: cs) w3) (lone (b.atR { a with defers := mark ++ a.defers } (.endRangeFunc l :: k)) cs w3) :=
      .one (fenced_wide _ _) (by rw [← finish_atR_inRangeFunc l v]; exact step_leave_returned hl)
    have s2 := (s0.trans hs).trans (s1.trans (.one (fenced_wide _ _) (stepR_endRangeFunc hend)))
    match jump, hj, s2 with
    | none, hj, s2 => exact ⟨.normal, _, w4, hj, s2⟩
    | some c, hj, s2 =>
      obtain ⟨e', a', w5, hq, hs5⟩ := hj b k cs hb trivial (room_wide _)
      exact ⟨e', a', w5, hq, .of_steps s2 hs5⟩
  | .panicked ch, hR, hs, hl =>
    exact ⟨.panic ch, _, w3, hR, .inRangeFunc l :: k, (s0.trans hs).trans (.one (fenced_wide _ _) (by rw [← Frame.raise_atR]; exact step_leave_panicked hl))⟩
/-- A function's contract out of its body's walk, marks and all. -/
theorem calls_of_wpAt {fn : Func} {c : Code} {args : Array Value} {R : Ending → World → Prop} (hf : P.funcs[f]? = some fn) (hb : fn.body = some c)
    (h : WpAt f P c (bodyPostM Fence.wide 0 P fn R) { tmps := args ++ Array.replicate (fn.ntmps - args.size) undef, defers := [] } w) : Calls P f args w R := by
  refine (callsIn_wide (n := 0)).1 ⟨trivial, fun cs hr => ?_⟩
  obtain ⟨b, hb0⟩ : ∃ b : Frame, b = { (default : Frame) with fn := f, kind := .normal, roundOf := none } := ⟨_, rfl⟩
  have hen : Frame.enter P f args .normal = b.atR { tmps := args ++ Array.replicate (fn.ntmps - args.size) undef, defers := [] } [.code c] := by
    rw [hb0]; simp [Frame.enter, Frame.atR, hf, hb]
  obtain ⟨e, a1, w1, hq, hs⟩ := h b [] cs (by rw [hb0]) (by rw [hb0])
  rw [← hen] at hs
  have hfn : b.fn = f := by rw [hb0]
  have hk : b.kind = .normal := by rw [hb0]
  match e, hq, hs with
  | .normal, hq, hs =>
    obtain ⟨e2, w2, fr2, hR, hs2, hfn2, hl2⟩ := leaves_stepsInM a1.defers .returning w1 { b.atR a1 [] with mode := .returning } cs rfl rfl rfl (by rw [← hfn] at hf; exact hf) hk trivial (room_wide _) hq
    exact ⟨e2, w2, fr2, hR, .of_steps (StepsIn.trans hs (.one (fenced_wide _ _) (stepR_end (by rw [hb0])))) hs2, hfn2.trans hfn, hl2⟩
  | .ret, hq, hs =>
    obtain ⟨todo, hs0⟩ := hs.1 (by rw [hb0])
    obtain ⟨e2, w2, fr2, hR, hs2, hfn2, hl2⟩ := leaves_stepsInM a1.defers .returning w1 { b.atR a1 todo with mode := .returning } cs rfl rfl rfl (by rw [← hfn] at hf; exact hf) hk trivial (room_wide _) hq
    exact ⟨e2, w2, fr2, hR, .of_steps hs0 hs2, hfn2.trans hfn, hl2⟩
  | .panic ch, hq, hs =>
    obtain ⟨todo, hs0⟩ := hs
    obtain ⟨e2, w2, fr2, hR, hs2, hfn2, hl2⟩ := leaves_stepsInM a1.defers (.panicking ch) w1 { b.atR a1 todo with mode := .panicking ch } cs rfl rfl rfl (by rw [← hfn] at hf; exact hf) hk trivial (room_wide _) hq
    exact ⟨e2, w2, fr2, hR, .of_steps hs0 hs2, hfn2.trans hfn, hl2⟩
  | .outgrown, hq, hs => exact ⟨.outgrown, w1, b, hq, hs.resolve_left (by rw [hb0]; simp), hfn, trivial⟩
  | .exit _, hq, _ => exact hq.elim
  | .goto _, hq, _ => exact hq.elim
/-- How a round may end: off its end, or by a panic. -/
def roundPostP (P : Program) (l : Nat) (R : Ending → World → Prop) : Exit → Act → World → Prop
  | .normal, _, w => ∃ v w', (Instr.endRound l none).run P w = .ok v w' ∧ R (.returned v) w'
  | .panic ch, a, w => a.defers = [] ∧ R (.panicked ch) w
  | _, _, _ => False
theorem roundIn_panics {l n : Nat} {fn : Func} {tmps : Array Value} {assign body : Code} {R : Ending → World → Prop} (hf : P.funcs[f]? = some fn)
    (h : assign.wpIn (Fence.wide.inRound l) n P (Exit.then (fun a1 w1 => ∃ w2, (Instr.beginRound l).run P w1 = .ok () w2 ∧ body.wpIn (Fence.wide.inRound l) n P (roundPostP P l R) a1 w2) (fun _ _ _ => False))
      { tmps := tmps, defers := [] } w) : RoundIn Fence.wide n P l f tmps assign body w R := by
  refine ⟨trivial, fun c cs hr => ?_⟩
  obtain ⟨b, hb0⟩ : ∃ b : Frame, b = { (default : Frame) with fn := f, kind := .normal, roundOf := some l } := ⟨_, rfl⟩
  have hen : Frame.round l f tmps assign body .normal = b.atR { tmps := tmps, defers := [] } [.code assign, .beginRound, .code body] := by
    rw [hb0]; simp [Frame.round, Frame.atR]
  have hbr : b.roundOf = some l := by rw [hb0]
  have hbf : b.fn = f := by rw [hb0]
  have hbk : b.kind = .normal := by rw [hb0]
  obtain ⟨e, a1, w1, hq, hs⟩ := h b [.beginRound, .code body] (c :: cs) hbr trivial (room_wide _)
  rw [← hen] at hs
  match e, hq, hs with
  | .normal, ⟨w2, hbg, hbody⟩, hs =>
    have s1 : StepsIn (Machine.fenced P Fence.wide) P (lone (b.atR a1 [.beginRound, .code body]) (c :: cs) w1) (lone (b.atR a1 [.code body]) (c :: cs) w2) := .one (fenced_wide _ _) (stepR_beginRound hbr hbg)
    obtain ⟨e2, a2, w3, hq2, hs2⟩ := hbody b [] (c :: cs) hbr trivial (room_wide _)
    match e2, hq2, hs2 with
    | .normal, ⟨v, w4, hend, hR⟩, hs2 =>
      exact ⟨.returned v, w4, hR, (StepsIn.trans hs s1).trans (StepsIn.trans hs2 (.one (fenced_wide _ _) (stepR_round_end hbr hbk hend)))⟩
    | .panic ch, ⟨hd, hR⟩, ⟨todo, hs2⟩ =>
      refine ⟨.panicked ch, w3, hR, (StepsIn.trans hs s1).trans (StepsIn.trans hs2 (.one (fenced_wide _ _) (step_leave_panicked ⟨rfl, hd, fn, ?_⟩)))⟩
      rw [← hbf] at hf; exact hf
end
end Go.Proofs.YtdhmekpgplajmaaGreatDoor
end
section
namespace Go.Proofs.YtdhmekpgplajmaaGreatDoor
open Go.RowKit
/-- What abides new blocks, a turn of the block sB, and of blocks behind B0 that are no cells. -/
def Stands (B0 sB : Nat) (J : World → Prop) : Prop := ∀ A B row, J A → A.grownBy B row → (∀ r, row = some r → r = sB ∨ (B0 ≤ r ∧ ∃ o : Obj, A.heap[r]? = some o ∧ o.isCells = false)) → J B
theorem Stands.alloc {B0 sB : Nat} {J : World → Prop} (h : Stands B0 sB J) {A : World} (o : Obj) (hA : J A) : J (A.alloc o) := h A _ none hA (World.grownBy_alloc A o none) (fun _ e => by cases e)
theorem Stands.put {B0 sB : Nat} {J : World → Prop} (h : Stands B0 sB J) {A : World} {l : Nat} {o : Obj} (o' : Obj) (hA : J A) (hl : A.heap[l]? = some o) (ho : o.isCells = false) (hB : B0 ≤ l) : J (A.putObj l o') :=
  h A _ (some l) hA (grownBy_putObj' A l o') (fun r e => by cases e; exact .inr ⟨hB, o, hl, ho⟩)
theorem Stands.own {B0 sB : Nat} {J : World → Prop} (h : Stands B0 sB J) {A B : World} (hA : J A) (hg : A.grownBy B (some sB)) : J B := h A B _ hA hg (fun r e => by cases e; exact .inl rfl)
/-- A turn of one block, seen from a block of cells: it lies as it lay, if it is not sB. -/
theorem turn_box {A B : World} {row : Option Nat} {B0 sB b E : Nat} {c : Array Value} (hg : A.grownBy B row) (hr : ∀ r, row = some r → r = sB ∨ (B0 ≤ r ∧ ∃ o : Obj, A.heap[r]? = some o ∧ o.isCells = false)) (hb : Box A b c E) (hne : b ≠ sB) : Box B b c E := by
  refine (hg.block b hb.lt fun e => ?_).trans hb
  rcases hr b e.symm with h | ⟨_, o, ho, hc⟩
  · exact hne h
  · rw [show A.heap[b]? = _ from hb] at ho; cases ho; cases hc
/-- .. of the blocks below a height. -/
theorem turn_below {w A B : World} {row : Option Nat} {B0 sB n : Nat} (hg : A.grownBy B row) (hr : ∀ r, row = some r → r = sB ∨ (B0 ≤ r ∧ ∃ o : Obj, A.heap[r]? = some o ∧ o.isCells = false)) (h : Below n w A) (hs : n ≤ sB) (h0 : n ≤ B0) (hn : n ≤ A.heap.size) : Below n w B :=
  h.grown hg hn fun k e => by rcases hr k e with h1 | ⟨h1, _⟩ <;> omega
/-- The contract of such a function: it gives the elements of xs; where a round panics, it passes that on. -/
def SeqP {α : Type} (P : Program) (gf : Nat) (lb : Array Value) (encs : α → Array Value) (xs : List α) (sB : Nat) (ks : List Nat) (w : World) : Prop :=
  ∀ (l : Nat) (J : List α → World → Prop) (Jp : List PanicEntry → World → Prop) (W : World), Below w.heap.size w W →
    (∀ s A B, J s A → A.grownBy B (some sB) → J s B) → (∀ c A B, Jp c A → A.grownBy B (some sB) → Jp c B) →
    (∀ pre x post W1, xs = pre ++ x :: post → J pre W1 → YieldAt Fence.wide 0 P l (encs x) W1 fun e W' => (e = .returned (.bool true) ∧ J (pre ++ [x]) W' ∧ W1.heap.size ≤ W'.heap.size ∧ ∀ k ∈ ks, W'.heap[k]? = W1.heap[k]?) ∨ (∃ c, e = .panicked c ∧ Jp c W')) →
    J [] W →
    CallsIn Fence.wide 0 P gf (#[.func (.yield l) #[] #[]] ++ lb) W fun e W' => (∃ v, e = .returned v ∧ J xs W') ∨ (∃ c, e = .panicked c ∧ Jp c W')
theorem wpAt_block {f : FuncId} {P : Program} {id : Nat} {c : Code} {Q : Exit → Act → World → Prop} {a : Act} {w : World}
    (h : WpAt f P c (fun e a w => match e with | .normal => Q .normal a w | .panic ch => Q (.panic ch) a w | _ => False) a w) : WpAt f P (.block id c) Q a w := fun b k cs hb hf => by
  obtain ⟨e, a1, w1, hq, hs⟩ := h b (.inBlock id :: k) cs hb hf
  have s0 : StepsIn (Machine.fenced P Fence.wide) P (lone (b.atR a (.code (.block id c) :: k)) cs w) _ := .one (fenced_wide _ _) stepR_block
  match e, hq, hs with
  | .normal, hq, hs => exact ⟨.normal, a1, w1, hq, (s0.trans hs).trans (.one (fenced_wide _ _) stepR_inBlock)⟩
  | .panic ch, hq, hs => exact ⟨.panic ch, a1, w1, hq, .of_steps s0 hs⟩
/-- How the body of a round may be left. -/
def eachPost {α : Type} (I : List α → World → Prop) (Ip : List PanicEntry → World → Prop) (ks : List Nat) (xs : List α) (W : World) : Exit → Act → World → Prop
  | .normal, _, W' => KeepsOthers W W' ∧ (∀ k ∈ ks, W'.heap[k]? = W.heap[k]?) ∧ I xs W'
  | .panic ch, a, W' => a.defers = [] ∧ KeepsOthers W W' ∧ Ip ch W'
  | _, _, _ => False
theorem wpAt_each {α : Type} {f : FuncId} {P : Program} {fn : Func} {g : Operand} {ps : Array Tmp} {assign body : Code} {Q : Exit → Act → World → Prop} {a : Act} {w : World} {gf : Nat} {lb : Array Value}
    (hf : P.funcs[f]? = some fn) (hg : a.eval g = .func (.func gf) #[] lb) (eg : ∀ args w, (callFunc gf args).run P w = .ok (.enter gf args) w)
    {encs : α → Array Value} {xs : List α} {sB : Nat} {ks : List Nat} (hseq : SeqP P gf lb encs xs sB ks w) (hsB : sB < w.heap.size) (hks : ∀ k ∈ ks, k < w.heap.size) (hps : ∀ x, (encs x).size = ps.size)
    (I : List α → World → Prop) (Ip : List PanicEntry → World → Prop) (hI : ∀ s, Stands w.heap.size sB (I s)) (hIp : ∀ c, Stands w.heap.size sB (Ip c)) (h0 : I [] w) (a1 : α → Act)
    (hassign : ∀ (l : Nat) (x : α) (W : World) (K : Act → World → Prop), K (a1 x) W →
      assign.wpIn (Fence.wide.inRound l) 0 P (Exit.then K (fun _ _ _ => False)) { tmps := (ps.zip (encs x)).foldl (fun t (p, v) => t.setIfInBounds p v) a.tmps, defers := [] } W)
    (hbody : ∀ (l : Nat) (pre : List α) (x : α) (post : List α) (W : World), xs = pre ++ x :: post → I pre W → body.wpIn (Fence.wide.inRound l) 0 P (eachPost I Ip ks (pre ++ [x]) W) (a1 x) W)
    (hdone : ∀ (D : Nat) (W : World), w.heap.size ≤ D → I xs W → W.heap[D]? = some (.deferred (some [])) → Q .normal { a with defers := { target := .collected D, args := #[] } :: a.defers } W)
    (hpan : ∀ (D : Nat) (c : List PanicEntry) (W : World), w.heap.size ≤ D → Ip c W → W.heap[D]? = some (.deferred (some [])) → Q (.panic c) { a with defers := { target := .collected D, args := #[] } :: a.defers } W) :
    WpAt f P (.rangeFunc g ps assign body) Q a w := by
  obtain ⟨rec, hrec⟩ : ∃ rec : LoopState → Loop, rec = fun st => { state := st, pending := none, fn := f, tmps := a.tmps, params := ps, assign, body, defers := w.heap.size } := ⟨_, rfl⟩
  obtain ⟨W1, hW1⟩ : ∃ W1, (w.alloc (.deferred (some []))).alloc (.loop (rec .ready)) = W1 := ⟨_, rfl⟩
  have hL1 : W1.heap[w.heap.size + 1]? = some (.loop (rec .ready)) := by
    rw [← hW1]; have := World.alloc_heap_new (w.alloc (.deferred (some []))) (.loop (rec .ready)); rwa [World.size_alloc] at this
  have hD1 : W1.heap[w.heap.size]? = some (.deferred (some [])) := by
    rw [← hW1]; exact (Below.heap_alloc _ _ _ (by simp)).trans (World.alloc_heap_new w _)
  have hI1 : I [] W1 := by rw [← hW1]; exact (hI []).alloc _ ((hI []).alloc _ h0)
  have hb1 : Below w.heap.size w W1 := by rw [← hW1]; exact ((Below.refl _ w).alloc (Nat.le_refl _) _).alloc (by simp) _
  have hkeep : ∀ {A B : World} {k : Nat} {o : Obj}, A.grownBy B (some sB) → k ≠ sB → A.heap[k]? = some o → B.heap[k]? = some o := fun hg hne hk =>
    (hg.block _ (Array.getElem?_eq_some_iff.1 hk).1 (fun e => hne (by cases e; rfl))).trans hk
  refine wpAt_rangeFunc (l := w.heap.size + 1) (mark := [{ target := .collected w.heap.size, args := #[] }]) (w1 := W1) (w1' := W1) (w2 := W1) (gf := gf)
    (d := { target := .fn (.func gf) lb, args := #[.func (.yield (w.heap.size + 1)) #[] #[]] }) (args := #[.func (.yield (w.heap.size + 1)) #[] #[]] ++ lb) ?_ ?_ ?_ ?_
  · rw [← hW1, hrec]; exact run_enterLoop_outer _ _ _ _ _
  · simp only [resolve, hg]
    simp [go_sem]
  · simp [invoke, go_sem, eg]
  · refine (hseq (w.heap.size + 1)
      (fun pre W => I pre W ∧ W.heap[w.heap.size + 1]? = some (.loop (rec .ready)) ∧ W.heap[w.heap.size]? = some (.deferred (some [])))
      (fun c W => Ip c W ∧ W.heap[w.heap.size]? = some (.deferred (some []))) W1 hb1
      (fun s A B hs hg' => ⟨(hI s).own hs.1 hg', hkeep hg' (by omega) hs.2.1, hkeep hg' (by omega) hs.2.2⟩)
      (fun c A B hs hg' => ⟨(hIp c).own hs.1 hg', hkeep hg' (by omega) hs.2⟩) ?_ ⟨hI1, hL1, hD1⟩).mono ?_
    · rintro pre x post W hxs ⟨hi, hl, hk⟩
      have hlt : w.heap.size + 1 < W.heap.size := (Array.getElem?_eq_some_iff.1 hl).1
      have hy := run_yield (P := P) (args := encs x) hl (by rw [hrec]; exact hps x)
      rw [hrec] at hy
      obtain ⟨W2, hW2⟩ : ∃ W2, W.putObj (w.heap.size + 1) (.loop (rec .busy)) = W2 := ⟨_, rfl⟩
      have hbg : (Instr.beginRound (w.heap.size + 1)).run P W = .ok () W2 := by
        have := run_beginRound (P := P) hl (by rw [hrec]); rw [hrec] at this; rw [← hW2, hrec]; exact this
      refine ⟨f, _, assign, body, hy, roundIn_panics hf (hassign _ x W _ ⟨W2, hbg, ?_⟩)⟩
      have hl2 : W2.heap[w.heap.size + 1]? = some (.loop (rec .busy)) := by rw [← hW2]; exact World.putObj_heap_same hlt
      have hk2 : W2.heap[w.heap.size]? = some (.deferred (some [])) := by rw [← hW2]; exact (World.putObj_heap_other (by omega)).trans hk
      have hs2 : ∀ k ∈ ks, W2.heap[k]? = W.heap[k]? := fun k hk => by have := hks k hk; rw [← hW2]; exact World.putObj_heap_other (by omega)
      have hz2 : W2.heap.size = W.heap.size := by rw [← hW2]; simp
      have hi2 : I pre W2 := by rw [← hW2]; exact (hI pre).put _ hi hl rfl (Nat.le_succ _)
      refine wpIn_mono (hbody _ pre x post W2 hxs hi2) ?_
      intro e a3 W3 hp
      match e, hp with
      | .normal, ⟨hk3, hs3, hi3⟩ =>
        have hl3 := hk3.same _ _ hl2 rfl
        have hend := run_endRound (P := P) none hl3
        refine ⟨_, _, hend, .inl ⟨rfl, ⟨(hI _).put _ hi3 hl3 rfl (Nat.le_succ _), ?_, (World.putObj_heap_other (by omega)).trans (hk3.same _ _ hk2 rfl)⟩, ?_, ?_⟩⟩
        · rw [World.putObj_heap_same (Array.getElem?_eq_some_iff.1 hl3).1, hrec]; rfl
        · rw [World.putObj_size, ← hz2]; exact hk3.size
        · exact fun k hk => (World.putObj_heap_other (by have := hks k hk; omega)).trans ((hs3 k hk).trans (hs2 k hk))
      | .panic c, ⟨hd3, hk3, hi3⟩ => exact ⟨hd3, .inr ⟨c, rfl, hi3, hk3.same _ _ hk2 rfl⟩⟩
    · rintro e W2 (⟨v, rfl, hi, hl, hk⟩ | ⟨c, rfl, hi, hk⟩)
      · have hend := run_endLoop (P := P) hl (by rw [hrec]; simp)
        rw [hrec] at hend
        exact ⟨none, _, hend, hdone _ _ (Nat.le_refl _) ((hI _).put _ hi hl rfl (Nat.le_succ _)) ((World.putObj_heap_other (by omega)).trans hk)⟩
      · exact hpan _ c _ (Nat.le_refl _) hi hk
end Go.Proofs.YtdhmekpgplajmaaGreatDoor
end
section
namespace Go.Proofs.YtdhmekpgplajmaaGreatDoor
open Go.RowKit
theorem append_block {P : Program} {w : World} {base t ty e size bytes n m c : Nat} {i : TypeInfo} {z v : Value} {xs news : List Value} {a : Addr} (ht : P.underlying t = some (.slice e)) (hi : P.info? e = some i) (hz : i.zero = some z)
    (hsize : i.size = size) (hby : i.bytes = bytes) (hown : w.ownsRow base e size v n xs) (hl : news.length = m * size) (hnews : ∀ j u, news[j]? = some u → w.cell? (a.add j) = some u) (h1 : ∀ u ∈ news, u.oneCell' = true) (hm : 0 < m)
    (h63 : n + m ≤ maxLen) (hbytes : (n + m) * bytes ≤ 140737488355328) {v' : Value} {w' : World} (hr : (Builtin.append_ #[t, t] ty #[v, .slice (some a) m c]).run P w = .ok v' w') :
    v'.ownBlock = v.ownBlock ∨ v'.ownBlock = some w.heap.size := by
  subst hsize
  subst hby
  have hsm : n + m ≤ 9223372036854775807 := h63
  rcases hown.2 with ⟨rfl, rfl⟩ | ⟨g, cap, cur, rfl, hbg, hg, hnc, hcm, hcs, htake⟩
  · rw [run_append_nil (P := P) w t ty e i z ht hi hz a m c news hl hnews hm (by omega) (by rw [Nat.zero_add] at hbytes; omega)] at hr
    cases hr
    exact .inr rfl
  · by_cases hroom : n + m ≤ cap
    · rw [run_append_room (P := P) w t ty e i ht hi g n cap cur hg a m c news hl hnews h1 hroom (by rw [hl, hcs, ← Nat.add_mul]; exact Nat.mul_le_mul_right _ hroom)] at hr
      cases hr
      exact .inl rfl
    · have hx : xs.length = n * i.size := hown.1
      rw [run_append_grow (P := P) w t ty e i z ht hi hz ⟨g, 0, none⟩ n cap xs hx (hown.cells (g := g) rfl) a m c news hl hnews (by omega) (by omega) (growslice_fits (by omega) hbytes)] at hr
      cases hr
      exact .inr rfl
/-- One element more, as one step. -/
theorem wp_append1F {α : Type} {w : World} {base E size : Nat} {enc : α → List Value} {v : Value} {xs : List α} {P : Program} {o : Oper} {a : Act} {K : Act → World → Prop} {Q : Exit → Act → World → Prop} (s x : Operand) (t : TypeId)
    (ho : o.op = .call { callee := .builtin .append, args := #[s, x], argTypes := #[t, t] }) {z : Value} {bytes : Nat} (hE : ElemOK P t E z size bytes) (he : EncOK enc size)
    (hs : a.eval s = v) (hown : Own w base E size enc v xs) (ad : Addr) (c : Nat) (y : α) (hx : a.eval x = .slice (some ad) 1 c) (hnews : ∀ j u, (enc y)[j]? = some u → w.cell? (ad.add j) = some u)
    (h63 : xs.length + 1 ≤ maxLen) (hbytes : (xs.length + 1) * bytes ≤ 140737488355328) (hbase : base ≤ w.heap.size)
    (h : ∀ a' cap' w', Own w' base E size enc (.slice a' (xs.length + 1) cap') (xs ++ [y]) → w.grownBy w' v.ownBlock → ((Value.slice a' (xs.length + 1) cap').ownBlock = v.ownBlock ∨ (Value.slice a' (xs.length + 1) cap').ownBlock = some w.heap.size) → K (a.put o.dst (.slice a' (xs.length + 1) cap')) w') : Oper.wp P o a w K Q := by
  obtain ⟨i, hi, hz, hsz, hby⟩ := hE.info
  obtain ⟨v', w', hr, h2, h3, _⟩ := run_append_own (P := P) w base t o.type E i z size bytes hE.slice hi hz hsz hby hE.zsize hE.pos v xs.length (xs.flatMap enc) (hown.toRow he) ad 1 c (enc y) (by rw [he.len, Nat.one_mul]) hnews (he.one y) h63 hbytes hbase
  have hb := append_block (c := c) hE.slice hi hz hsz hby (hown.toRow he) (by rw [he.len, Nat.one_mul]) hnews (he.one y) (Nat.succ_pos 0) h63 hbytes hr
  have hr' : Own w' base E size enc v' (xs ++ [y]) := by
    refine Own.ofRow ?_ he
    rw [List.length_append, List.flatMap_append]
    simpa using h2
  obtain ⟨a', cap', rfl⟩ := hr'.form
  have e : (xs ++ [y]).length = xs.length + 1 := by simp
  rw [e] at hr' hb hr
  have hk := h a' cap' w' hr' h3 hb
  unfold Oper.wp execOp
  simp only [ho, resolve, invoke, builtin, Sem.run_bind, Sem.run_pure, Result.andThen_ok, List.map_toArray, List.map_cons, List.map_nil, hs, hx, hr]
  exact hk
/-- .. in a list of operations. -/
theorem wpList_append1F {α : Type} {w : World} {base E size : Nat} {enc : α → List Value} {v : Value} {xs : List α} {P : Program} {ops : Array Oper} {rest : List Oper} {o : Oper} {a : Act} {Q : Exit → Act → World → Prop} (hgd : o.guard = none) (s x : Operand) (t : TypeId)
    (ho : o.op = .call { callee := .builtin .append, args := #[s, x], argTypes := #[t, t] }) {z : Value} {bytes : Nat} (hE : ElemOK P t E z size bytes) (he : EncOK enc size)
    (hs : a.eval s = v) (hown : Own w base E size enc v xs) (ad : Addr) (c : Nat) (y : α) (hx : a.eval x = .slice (some ad) 1 c) (hnews : ∀ j u, (enc y)[j]? = some u → w.cell? (ad.add j) = some u)
    (h63 : xs.length + 1 ≤ maxLen) (hbytes : (xs.length + 1) * bytes ≤ 140737488355328) (hbase : base ≤ w.heap.size)
    (h : ∀ a' cap' w', Own w' base E size enc (.slice a' (xs.length + 1) cap') (xs ++ [y]) → w.grownBy w' v.ownBlock → ((Value.slice a' (xs.length + 1) cap').ownBlock = v.ownBlock ∨ (Value.slice a' (xs.length + 1) cap').ownBlock = some w.heap.size) → wpList P ops Q rest (a.put o.dst (.slice a' (xs.length + 1) cap')) w') : wpList P ops Q (o :: rest) a w :=
  wpList_plain hgd fun _ hK => wp_append1F s x t ho hE he hs hown ad c y hx hnews h63 hbytes hbase fun a' cap' w' h2 h3 h4 => hK _ _ (h a' cap' w' h2 h3 h4)
/-- A slice of the call's own, behind a turn of a block that is not its own. -/
theorem Own.grownNe {α : Type} {w w' : World} {base E size : Nat} {enc : α → List Value} {v : Value} {xs : List α} {row : Option Nat} (h : Own w base E size enc v xs) (hg : w.grownBy w' row) (hne : ∀ k, v.ownBlock = some k → row ≠ some k) : Own w' base E size enc v xs := by
  obtain ⟨a, cap, rfl, hle, hm, hh⟩ := h
  refine ⟨a, cap, rfl, hle, hm, ?_⟩
  rcases hh with hh | ⟨g, cur, rfl, hbg, hb, hr⟩
  · exact .inl hh
  · exact .inr ⟨g, cur, rfl, hbg, (hg.block g hb.lt (fun e => hne g rfl e.symm)).trans hb, hr⟩
/-- .. of other elements. -/
theorem Own.grownT {α β : Type} {w w' : World} {base base2 E E2 size size2 : Nat} {enc : α → List Value} {enc2 : β → List Value} {v v2 : Value} {xs : List α} {ys : List β} (h : Own w base E size enc v xs) (h2 : Own w base2 E2 size2 enc2 v2 ys) (hg : w.grownBy w' v2.ownBlock) (hE : E ≠ E2) : Own w' base E size enc v xs :=
  h.grownNe hg fun k h1 h3 => by
    obtain ⟨_, c1, b1⟩ := h.block k h1
    obtain ⟨_, c2, b2⟩ := h2.block k h3
    exact hE (b1.type_eq b2)
end Go.Proofs.YtdhmekpgplajmaaGreatDoor
end
