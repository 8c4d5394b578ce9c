/- Joined by tools/merge.py: Read, Same, Same2, Knows36, BackN. -/
import Derived.Test.YtdhmekpgplajmaaGreatDoorR23
import Derived.Test.YtdhmekpgplajmaaGreatDoorR14
import Derived.Test.YtdhmekpgplajmaaGreatDoorR19x
section
namespace Go.Proofs.YtdhmekpgplajmaaGreatDoor
open Go.RowKit
attribute [local go_sem] Oper.semAt_some
def RetRead (w : World) (s : List UInt8) (e : Ending) (w' : World) : Prop :=
  Below w.heap.size w w' ∧ (if 4194304 < s.length then e = .returned (.tuple #[.agg V0.cells, .int .i64 4]) else match readP s with
    | some D => ∃ V, e = .returned (.tuple #[.agg V.cells, .int .i64 0]) ∧ ReadsD w' V D
    | none => e = .returned (.tuple #[.agg V0.cells, .int .i64 3]))
theorem retRead_none {w w' : World} {s : List UInt8} (h1 : ¬ 4194304 < s.length) (h2 : readP s = none) (hb : Below w.heap.size w w') : RetRead w s (.returned (.tuple #[.agg V0.cells, .int .i64 3])) w' := ⟨hb, by rw [if_neg h1, h2]⟩
theorem sv_take (s : List UInt8) (n : Nat) : (Value.string (({ data := s.toArray } : ByteArray).extract 0 n)) = sv (s.take n) := by
  have : ({ data := s.toArray } : ByteArray).extract 0 n = ⟨(s.take n).toArray⟩ := by
    apply ByteArray.ext
    simp
  rw [this]
theorem classL_counts {D D' : PDfa} {t t' : BSet} {k : Nat} {s : List UInt8} (h : classL D t k s = some (D', t')) : D'.names = D.names ∧ D'.label = D.label ∧ D'.next = D.next := by
  unfold classL at h
  split at h
  · cases h
  · split at h
    · cases h; exact ⟨rfl, rfl, rfl⟩
    · cases h
theorem stepL_counts {D D' : PDfa} {t t' : BSet} {s : List UInt8} (h : stepL D t s = some (D', t')) : D'.names.length ≤ D.names.length + 1 ∧ D'.label.length ≤ D.label.length + 1 ∧ D'.next.length ≤ D.next.length + 1 := by
  unfold stepL at h
  match hw : splitL 32 s with
  | [] => rw [hw] at h; cases h
  | [_] => rw [hw] at h; cases h
  | [_, _] => rw [hw] at h; cases h
  | w0 :: w1 :: w2 :: rest =>
    rw [hw, lineW_cons] at h
    split at h
    · split at h
      · split at h
        · split at h
          · cases h; simp
          · cases h
        · cases h
      · cases h
    · split at h
      · cases h; simp
      · split at h
        · split at h
          · obtain ⟨e1, e2, e3⟩ := classL_counts h
            rw [e1, e2, e3]; omega
          · cases h
        · split at h
          · split at h
            · split at h
              · cases h; simp
              · cases h
            · cases h
          · cases h
theorem stepL_names {D D' : PDfa} {t t' : BSet} {s : List UInt8} (h : stepL D t s = some (D', t')) : ∀ x ∈ D'.names, x ∈ D.names ∨ x.length ≤ s.length := by
  unfold stepL at h
  have hl := (splitL_length 32 s).2
  match hw : splitL 32 s with
  | [] => rw [hw] at h; cases h
  | [_] => rw [hw] at h; cases h
  | [_, _] => rw [hw] at h; cases h
  | w0 :: w1 :: w2 :: rest =>
    rw [hw] at hl
    rw [hw, lineW_cons] at h
    split at h
    · split at h
      · split at h
        · split at h
          · cases h; exact fun x hx => .inl hx
          · cases h
        · cases h
      · cases h
    · split at h
      · cases h
        intro x hx
        rcases List.mem_append.1 hx with hx | hx
        · exact .inl hx
        · rw [List.mem_singleton] at hx; subst hx; exact .inr (hl _ (by simp))
      · split at h
        · split at h
          · obtain ⟨e1, _, _⟩ := classL_counts h
            rw [e1]; exact fun x hx => .inl hx
          · cases h
        · split at h
          · split at h
            · split at h
              · cases h; exact fun x hx => .inl hx
              · cases h
            · cases h
          · cases h
theorem RdR.turn {A B : World} {row : Option Nat} {B0 sB r base : Nat} {V : VDfa} {t : BSet} {D : PDfa} (h : RdR A r base V t D) (hg : A.grownBy B row) (hr : ∀ r, row = some r → r = sB ∨ (B0 ≤ r ∧ ∃ o : Obj, A.heap[r]? = some o ∧ o.isCells = false)) (h1 : r ≠ sB) (h2 : sB < base) : RdR B r base V t D := by
  obtain ⟨rows, e1, e2, e3⟩ := h.nxt
  exact ⟨turn_box hg hr h.box h1, h.of, h.width, turn_own hg hr h.lab h2, turn_own hg hr h.nam h2, rows, turn_own hg hr e1 h2, e2, fun i p q => ⟨turn_own hg hr (e3 i p q).1 h2, (e3 i p q).2⟩⟩
/-- Between two lines. -/
def ReadI (W4 : World) (r base : Nat) (pre : List (List UInt8)) (W : World) : Prop :=
  Below r W4 W ∧ base ≤ W.heap.size ∧ ∃ D t V, foldP (D0, 0) pre = some (D, t) ∧ RdR W r base V t D ∧ (∀ x ∈ D.names, x.length ≤ 9223372036854775807) ∧ D.names.length ≤ pre.length ∧ D.label.length ≤ pre.length ∧ D.next.length ≤ pre.length
def ReadX (W4 : World) (r : Nat) (all : List (List UInt8)) (c : List PanicEntry) (W : World) : Prop := c = oddC ∧ Below r W4 W ∧ r ≤ W.heap.size ∧ foldP (D0, 0) all = none
theorem ReadI.stands {W4 : World} {r base B0 sB : Nat} {pre : List (List UInt8)} (h1 : r < sB) (h2 : sB < base) (h3 : r ≤ B0) : Stands B0 sB (ReadI W4 r base pre) := fun _ _ _ ⟨hb, hs, D, t, V, hf, hR, hc⟩ hg hr =>
  ⟨turn_below hg hr hb (by omega) h3 (by omega), Nat.le_trans hs hg.size, D, t, V, hf, hR.turn hg hr (by omega) h2, hc⟩
theorem ReadX.stands {W4 : World} {r B0 sB : Nat} {all : List (List UInt8)} {c : List PanicEntry} (h1 : r < sB) (h3 : r ≤ B0) : Stands B0 sB (ReadX W4 r all c) := fun _ _ _ ⟨hc, hb, hs, hf⟩ hg hr =>
  ⟨hc, turn_below hg hr hb (by omega) h3 hs, Nat.le_trans hs hg.size, hf⟩
theorem KeptR.at {r base k : Nat} {w w' : World} (h : KeptR r base w w') (h1 : k ≠ r) (h2 : k < base) (h3 : k < w.heap.size) : w'.heap[k]? = w.heap[k]? := by
  cases ho : w.heap[k]? with
  | none => rw [Array.getElem?_eq_none_iff] at ho; omega
  | some o =>
    cases hc : o.isCells with
    | false => exact h.others.same k o ho hc
    | true =>
      cases o with
      | cells c E fr => exact h.cells.same k (by show ¬ _; omega) c E fr ho
      | _ => cases hc
theorem KeepC.low {r : Nat} {w w' : World} (h : Below r w w') (hs : w.heap.size ≤ w'.heap.size) : KeepC (fun k => r ≤ k) w w' := ⟨hs, fun k hk _ _ _ e => (h.block k (by omega)).trans e⟩
theorem RdR.same {w w' : World} {r base : Nat} {V : VDfa} {t : BSet} {D : PDfa} (h : RdR w r base V t D) (hr : r < base) (hk : ∀ b, r ≤ b → ∀ (c : Array Value) (E : Nat), Box w b c E → Box w' b c E) : RdR w' r base V t D := by
  have hO : ∀ {α : Type} {E size : Nat} {enc : α → List Value} {v : Value} {xs : List α}, Own w base E size enc v xs → Own w' base E size enc v xs := fun {α E size enc v xs} ⟨a, cap, hv, hle, hm, hh⟩ =>
    ⟨a, cap, hv, hle, hm, hh.imp id fun ⟨g, cur, ha, hbg, hb, hx⟩ => ⟨g, cur, ha, hbg, hk g (by omega) _ _ hb, hx⟩⟩
  obtain ⟨rows, h1, h2, h3⟩ := h.nxt
  exact ⟨hk r (Nat.le_refl _) _ _ h.box, h.of, h.width, hO h.lab, hO h.nam, rows, hO h1, h2, fun i x y => ⟨hO (h3 i x y).1, (h3 i x y).2⟩⟩
theorem RdR.range {w : World} {r base : Nat} {V : VDfa} {t : BSet} {D : PDfa} (h : RdR w r base V t D) : w.rangeAt r 0 V.cells.toList := fun j v hv => by
  have hj : j < 260 := by have := (List.getElem?_eq_some_iff.1 hv).1; rwa [Array.length_toList, VDfa.size] at this
  rw [h.box.cell, Nat.zero_add, rcells_low _ _ hj]
  rwa [Array.getElem?_toList] at hv
theorem box_put {W : World} {b E Dd : Nat} {c : Array Value} {o : Obj} (h : Box W b c E) (hd : W.heap[Dd]? = some o) (ho : o.isCells = false) (o' : Obj) : Box (W.putObj Dd o') b c E :=
  (World.putObj_heap_other (by rintro rfl; rw [show W.heap[b]? = _ from h] at hd; cases hd; cases ho)).trans h
theorem below_put {n Dd : Nat} {w W : World} {o : Obj} (h : Below n w W) (hd : W.heap[Dd]? = some o) (hn : n ≤ Dd) (o' : Obj) : Below n w (W.putObj Dd o') :=
  h.grown (grownBy_putObj' W Dd o') (Nat.le_of_lt (Nat.lt_of_le_of_lt hn (Array.getElem?_eq_some_iff.1 hd).1)) (fun k e => by cases e; exact hn)
theorem hmf (fn : Fn) (first cap : Array Value) (w : World) : (Instr.makeFunc fn first cap).run Tryz.prog w = .ok (.func fn first cap) w := rfl
set_option maxRecDepth 20000 in
set_option maxHeartbeats 3200000 in
theorem list_Read (s : List UInt8) (w : World) (hs : s.length ≤ 9223372036854775807) (hT : Tab w) (hM : MaxL w) : Calls Tryz.prog 6 #[sv s] w (RetRead w s) := by
  have hz := zeroV_dfa
  have hzr := zeroV_reader
  have hmf := hmf
  have hx0 : Box ((w.alloc (.cells V0.cells 28)).alloc (.cells #[.int .i64 0] 29)) w.heap.size V0.cells 28 := (Box.new' rfl _ _).alloc _
  have hx1 : Box ((w.alloc (.cells V0.cells 28)).alloc (.cells #[.int .i64 0] 29)) (w.heap.size + 1) #[.int .i64 0] 29 := Box.new' (by simp) _ _
  have hb0 : Below w.heap.size w ((w.alloc (.cells V0.cells 28)).alloc (.cells #[.int .i64 0] 29)) := ((Below.refl _ w).alloc (Nat.le_refl _) _).alloc (by simp) _
  by_cases hlen : 4194304 < s.length
  · have e1 : decide (4194304 < (s.length : Int)) = true := by simp; omega
    have hx1' := hx1.setRow_other V0.cells (by omega : w.heap.size + 1 ≠ w.heap.size)
    have c1 := hx1'.cell 0
    have f1 := hx1'.free 0
    refine calls_of_wpAt Tryz.func6 rfl ?_
    simp only [Tryz.ntmps6, List.size_toArray, List.length_cons, List.length_nil, Nat.reduceAdd, Nat.reduceSub, Array.replicate_succ, Array.replicate_zero, List.push_toArray, List.append_toArray, List.nil_append, List.cons_append]
    refine wpAt_seq (wpAt_of_wp ?_)
    go_wp2
    refine wpAt_seq (wpAt_of_wp ?_)
    go_wp2_with (refine wpList_store_row rfl 28 (.tmp 2) (.tmp 11) rfl w.heap.size _ rfl rfl _ _ hx0 (size_dfa V0) (VDfa.sizes _ _) V0.all ?_)
    exact ⟨_, read_results (V := V0) ((hx0.setRow V0.cells).other _ _ (by simp)) (hx1'.set 0 _) rfl rfl, (below_setRow hb0 (Nat.le_refl _) _).setCell (by simp) _, by rw [if_pos hlen]⟩
  · have e1 : decide (4194304 < (s.length : Int)) = false := by simp; omega
    have hsuf := fun w => Tryz.strings_HasSuffix ⟨s.toArray⟩ ⟨#[10]⟩ w (by simpa [ByteArray.size] using hs)
    simp only at hsuf
    cases hp : Lib.hasSuffix s [10] with
    | false =>
      have hr0 : readP s = none := by unfold readP; rw [hp]; rfl
      rw [hp] at hsuf
      have HS := Lib.hid hsuf
      have HR := Lib.hid hr0
      clear hsuf hp hr0 hs hT hM
      refine calls_of_wpAt Tryz.func6 rfl ?_
      simp only [Tryz.ntmps6, List.size_toArray, List.length_cons, List.length_nil, Nat.reduceAdd, Nat.reduceSub, Array.replicate_succ, Array.replicate_zero, List.push_toArray, List.append_toArray, List.nil_append, List.cons_append]
      refine wpAt_seq (wpAt_of_wp ?_)
      go_wp2
      refine wpAt_seq (wpAt_of_wp ?_)
      go_wp2
      refine wpAt_seq (wpAt_of_wp ?_)
      go_wp2
      refine wpAt_seq (wpAt_of_wp ?_)
      go_wp2_with (first | (go_at_call 18; refine (HS.out _).mono ?_; rintro e w1 ⟨rfl, rfl⟩) | (go_at_call 17; refine (must_no _).mono ?_; rintro e w2 ⟨rfl, hB2⟩))
      have hx0' := hx0.kept hB2
      have hx1' := hx1.kept hB2
      exact leaves_panic (V := V0) hx0' hx1' (by omega) rfl rfl (retRead_none hlen HR.out ((below_setRow (hb0.trans (hB2.mono hb0.size)) (Nat.le_refl _) _).setCell (by simp) _))
    | true =>
      have hs0 : 0 < s.length := by
        cases s with
        | nil => cases hp
        | cons _ _ => simp
      have hrd : readP s = (match foldP (D0, 0) (linesP s) with | some (D, _) => if rightD D = true ∧ textD D = s then some D else none | none => none) := by unfold readP; rw [hp, if_pos rfl]; rfl
      rw [hp] at hsuf
      have HS := Lib.hid hsuf
      have HR := Lib.hid hrd
      have hx : (Value.string (({ data := s.toArray } : ByteArray).extract 0 (s.length - 1))) = sv (s.take (s.length - 1)) := sv_take s _
      have hpc := list_pieces (s.take (s.length - 1)) [10]
      have hll : (s.take (s.length - 1)).length < 4294967281 := by rw [List.length_take]; omega
      clear hsuf hp hrd hs
      refine calls_of_wpAt Tryz.func6 rfl ?_
      simp only [Tryz.ntmps6, List.size_toArray, List.length_cons, List.length_nil, Nat.reduceAdd, Nat.reduceSub, Array.replicate_succ, Array.replicate_zero, List.push_toArray, List.append_toArray, List.nil_append, List.cons_append]
      refine wpAt_seq (wpAt_of_wp ?_)
      go_wp2
      refine wpAt_seq (wpAt_of_wp ?_)
      go_wp2
      refine wpAt_seq (wpAt_of_wp ?_)
      go_wp2
      refine wpAt_seq (wpAt_of_wp ?_)
      go_wp2_with (first | (go_at_call 18; refine (HS.out _).mono ?_; rintro e w1 ⟨rfl, rfl⟩) | (go_at_call 17; refine (must_yes _).mono ?_; rintro e w2 ⟨rfl, hB2⟩))
      refine wpAt_seq (wpAt_of_wp ?_)
      go_wp2
      refine wpAt_seq (wpAt_seq (wpAt_of_wp ?_))
      go_wp2_with (go_at_call 19; go_must (refine (hpc _).mono ?_; rintro e w4 ⟨rfl, rfl⟩))
      refine wpAt_block ?_
      have hb2 : Below w.heap.size w w2 := hb0.trans (hB2.mono hb0.size)
      have hsz2 : w.heap.size + 1 < w2.heap.size := (hx1.kept hB2).lt
      have hX0 := hx0.kept hB2
      have hX1 := hx1.kept hB2
      clear hx0 hx1 hb0 hB2 HS hpc
      obtain ⟨W4, hW4⟩ : ∃ W4, ((w2.alloc (.cells (rcells V0 0#256) 45)).alloc (.cells #[sv (s.take (s.length - 1))] 9)).alloc (.cells #[sv [10]] 9) = W4 := ⟨_, rfl⟩
      have hB4 : Below w2.heap.size w2 W4 := by rw [← hW4]; exact (((Below.refl _ w2).alloc (Nat.le_refl _) _).alloc (by simp) _).alloc (by simp; omega) _
      have hsz4 : W4.heap.size = w2.heap.size + 1 + 1 + 1 := by rw [← hW4]; simp
      have hr4 : Box W4 w2.heap.size (rcells V0 0) 45 := by rw [← hW4]; exact ((Box.new' rfl _ _).alloc _).alloc _
      have hs4 : Box W4 (w2.heap.size + 1) #[sv (s.take (s.length - 1))] 9 := by rw [← hW4]; exact (Box.new' (by simp) _ _).alloc _
      have hn4 : Box W4 (w2.heap.size + 1 + 1) #[sv [10]] 9 := by rw [← hW4]; exact Box.new' (by simp) _ _
      rw [hW4]
      clear hW4
      have hpos := hT.pos
      have hT2 := (hT.kept hb2)
      have hT4 := hT2.kept hB4
      have hM4 := (hM.kept hb2).kept hB4
      obtain ⟨r, hr⟩ : ∃ r, w2.heap.size = r := ⟨_, rfl⟩
      rw [hr] at hB4 hsz4 hr4 hs4 hn4 hsz2 ⊢
      have hst := pieces_seq (r + 1) (r + 1 + 1) 10 (s.take (s.length - 1)) hll (by omega) (by omega) W4 hM4 hs4 hn4
      have hI0 : ReadI W4 r (r + 1 + 1 + 1) [] W4 := ⟨Below.refl _ _, by omega, D0, 0, V0, rfl, ⟨hr4, rfl, rfl, Own.nil _ _ _ _ _, Own.nil _ _ _ _ _, [], Own.nil _ _ _ _ _, rfl, fun i h => by simp at h⟩, by simp [D0], by simp [D0], by simp [D0], by simp [D0]⟩
      refine wpAt_each Tryz.func6 (gf := 45) (lb := #[.pointer (some ⟨r + 1, 0, none⟩), .pointer (some ⟨r + 1 + 1, 0, none⟩)]) rfl (enters_of Tryz.func45 (by kernel_rfl) rfl)
        hst (by omega) (fun k hk => by simp at hk; omega) (fun _ => rfl) (ReadI W4 r (r + 1 + 1 + 1)) (ReadX W4 r (linesP s))
        (fun _ => ReadI.stands (by omega) (by omega) (by omega)) (fun _ => ReadX.stands (by omega) (by omega)) hI0
        (fun x => { tmps := #[sv s, undef, .pointer (some ⟨w.heap.size, 0, none⟩), .pointer (some ⟨w.heap.size + 1, 0, none⟩), .pointer (some ⟨r, 0, none⟩), sv x, undef, undef, sv s, .int .i64 s.length, .bool false, undef, .func (.func 16) #[] #[.pointer (some ⟨w.heap.size, 0, none⟩), .pointer (some ⟨w.heap.size + 1, 0, none⟩)], sv s, .bool true, .tuple #[], sv s, sv s, .int .i64 s.length, .int .i64 ((s.length : Int) - 1), sv (s.take (s.length - 1)), .func (.func 45) #[] #[.pointer (some ⟨r + 1, 0, none⟩), .pointer (some ⟨r + 1 + 1, 0, none⟩)], sv x] ++ Array.replicate 18 undef, defers := [] }) ?assign ?body ?done ?pan
      case assign =>
        intro l x W K hK
        simp only [Array.replicate_succ, Array.replicate_zero, List.push_toArray, List.append_toArray, List.nil_append, List.cons_append] at hK
        go_simp
        gi_wp2
        exact hK
      case body =>
        rintro l pre x post W hxs ⟨hb, hs, D, t, V, hf, hR, hnm, hc1, hc2, hc3⟩
        have hlen2 := (splitL_length 10 (s.take (s.length - 1))).1
        have hxl := (splitL_length 10 (s.take (s.length - 1))).2 x (by rw [hxs]; simp)
        have hprl : pre.length ≤ 4194305 := by rw [hxs] at hlen2; simp at hlen2; omega
        have hTW : Tab W := hT4.keptC (X := fun k => r ≤ k) (by omega) (KeepC.low hb hb.size)
        have hMW : MaxL W := hM4.same (hb.block 0 (by omega))
        have hline := reader_line r (r + 1 + 1 + 1) V t D x W hR hTW hMW (by omega) (by omega) hs (by omega) (by omega) (by omega) (by omega)
        have HL := Lib.hid (callsIn_wide (n := 0).2 hline)
        simp only [Array.replicate_succ, Array.replicate_zero, List.push_toArray, List.append_toArray, List.nil_append, List.cons_append]
        clear hline hTW hMW hlen2
        cases hst : stepL D t x with
        | none =>
          rw [hst] at HL
          have hfn : foldP (D0, 0) (linesP s) = none := by
            unfold linesP
            rw [hxs, foldP_append, hf, Option.bind_some, foldP, hst]
          gi_wp2_with (refine ⟨trivial, rfl, ?_⟩; gi_at_call 20; refine HL.out.mono ?_; rintro e w6 ⟨rfl, hk6⟩)
          exact ⟨rfl, hk6.others, rfl, hb.trans hk6.low, by have := hk6.others.size; omega, hfn⟩
        | some y =>
          obtain ⟨D', t'⟩ := y
          rw [hst] at HL
          have hcs := stepL_counts hst
          gi_wp2_with (refine ⟨trivial, rfl, ?_⟩; gi_at_call 20; refine HL.out.mono ?_; rintro e w6 ⟨rfl, ⟨V', hR6⟩, hk6⟩)
          refine ⟨hk6.others, fun k hk => ?_, hb.trans hk6.low, by have := hk6.others.size; omega, D', t', V', ?_, hR6, ?_, ?_⟩
          · have hk3 : k ≠ r ∧ k < r + 1 + 1 + 1 := by simp at hk; omega
            exact hk6.at hk3.1 hk3.2 (by omega)
          · rw [foldP_append, hf, Option.bind_some, foldP, hst]; rfl
          · exact fun x' hx' => (stepL_names hst x' hx').elim (hnm x') (fun h => by omega)
          · rw [List.length_append]; simp; omega
      case done =>
        intro Dd W hD ⟨hb, hs, D, t, V, hf, hR, hnm, _⟩ hK
        have hlinesP : foldP (D0, 0) (linesP s) = some (D, t) := hf
        have hrs := HR.out
        rw [hlinesP] at hrs
        dsimp only at hrs
        have hbW : Below w.heap.size w W := (hb2.trans (hB4.mono (by omega))).trans (hb.mono (by omega))
        have hY0 : Box W w.heap.size V0.cells 28 := (hb.block _ (by omega)).trans (hX0.below hB4 (by omega))
        have hY1 : Box W (w.heap.size + 1) #[.int .i64 0] 29 := (hb.block _ (by omega)).trans (hX1.below hB4 (by omega))
        have hTW : Tab W := hT4.keptC (X := fun k => r ≤ k) (by omega) (KeepC.low hb hb.size)
        have htx := list_Text V D W hR.reads hnm hTW
        refine wpAt_of_wp ?_
        cases hrD : rightD D with
        | false =>
          rw [hrD, if_neg (by simp)] at htx
          rw [hrD, if_neg (by simp)] at hrs
          go_wp2_with (refine wpList_load_mid rfl 28 (.tmp 26) rfl r 0 rfl V.cells.toList _ hR.range Tryz.underlying28 rfl (by rw [Array.length_toList]; exact size_dfa V) ?_; rw [Array.toArray_toList])
          go_wp2_with (go_at_call 11; go_must (refine htx.mono ?_; rintro e w7 ⟨rfl, hB7⟩))
          go_wp2_with (go_at_call 17; refine (must_no _).mono ?_; rintro e w9 ⟨rfl, hB9⟩)
          have hB8 := hB7.trans (hB9.mono hB7.size)
          have hK8 := (hB8.block Dd (Array.getElem?_eq_some_iff.1 hK).1).trans hK
          exact ⟨by simp, .inl ⟨_, _, rfl, run_takeDeferred hK8, leaves_panic (V := V0) (box_put (hY0.kept hB8) hK8 rfl _) (box_put (hY1.kept hB8) hK8 rfl _) (by omega) rfl rfl (retRead_none hlen hrs ((below_setRow (below_put (hbW.trans (hB8.mono hbW.size)) hK8 (by omega) _) (Nat.le_refl _) _).setCell (by simp) _))⟩⟩
        | true =>
          rw [hrD, if_pos rfl] at htx
          rw [hrD] at hrs
          by_cases heq : textD D = s
          · rw [if_pos ⟨rfl, heq⟩] at hrs
            rw [heq] at htx
            go_wp2_with (refine wpList_load_mid rfl 28 (.tmp 26) rfl r 0 rfl V.cells.toList _ hR.range Tryz.underlying28 rfl (by rw [Array.length_toList]; exact size_dfa V) ?_; rw [Array.toArray_toList])
            go_wp2_with (go_at_call 11; go_must (refine htx.mono ?_; rintro e w7 ⟨rfl, hB7⟩))
            go_wp2_with (first | (go_at_call 17; refine (must_yes _).mono ?_; rintro e w9 ⟨rfl, hB9⟩; have hB8 := hB7.trans (hB9.mono hB7.size); have hR9 := hR.kept hB8; have hZ0 := hY0.kept hB8; have hZ1 := (hY1.kept hB8).setRow_other V.cells (by omega : w.heap.size + 1 ≠ w.heap.size); have hK8 := (hB8.block Dd (Array.getElem?_eq_some_iff.1 hK).1).trans hK; have c1 := hZ1.cell 0; have f1 := hZ1.free 0) | (refine wpList_load_mid rfl 28 (.tmp 39) rfl r 0 rfl V.cells.toList _ hR9.range Tryz.underlying28 rfl (by rw [Array.length_toList]; exact size_dfa V) ?_; rw [Array.toArray_toList]) | (refine wpList_store_row rfl 28 (.tmp 2) (.tmp 40) rfl w.heap.size _ rfl rfl _ _ hZ0 (size_dfa V) (VDfa.sizes _ _) V.all ?_))
            have hKz : ((w9.setRow w.heap.size V.cells).setCell ⟨w.heap.size + 1, 0, none⟩ (.int .i64 0)).heap[Dd]? = some (.deferred (some [])) :=
              (Below.heap_setCell _ _ _ _ (by show Dd ≠ w.heap.size + 1; omega)).trans ((setRow_other w9 w.heap.size Dd V.cells (by omega)).trans hK8)
            have hQ0 := (hZ0.setRow V.cells).other ⟨w.heap.size + 1, 0, none⟩ (.int .i64 0) (by simp)
            have hQ1 := hZ1.set 0 (.int .i64 0)
            have hRz := hR9.same (w' := ((w9.setRow w.heap.size V.cells).setCell ⟨w.heap.size + 1, 0, none⟩ (.int .i64 0)).putObj Dd (.deferred none)) (by omega) (fun b hb c E hbx => box_put ((hbx.setRow_other V.cells (by omega)).other ⟨w.heap.size + 1, 0, none⟩ (.int .i64 0) (by show b ≠ w.heap.size + 1; omega)) hKz rfl _)
            have hbz := below_put ((below_setRow (hbW.trans (hB8.mono hbW.size)) (Nat.le_refl _) V.cells).setCell (p := ⟨w.heap.size + 1, 0, none⟩) (by simp) (.int .i64 0)) hKz (by omega) (.deferred none)
            exact ⟨by simp, .inl ⟨_, _, rfl, run_takeDeferred hKz, leaves_return (box_put hQ0 hKz rfl _) (box_put hQ1 hKz rfl _) rfl rfl ⟨hbz, by rw [if_neg hlen, hrs]; exact ⟨V, rfl, hRz.reads⟩⟩⟩⟩
          · rw [if_neg (fun h => heq h.2)] at hrs
            have e2 : (textD D == s) = false := beq_eq_false_iff_ne.2 heq
            generalize textD D = td at *
            go_wp2_with (refine wpList_load_mid rfl 28 (.tmp 26) rfl r 0 rfl V.cells.toList _ hR.range Tryz.underlying28 rfl (by rw [Array.length_toList]; exact size_dfa V) ?_; rw [Array.toArray_toList])
            go_wp2_with (go_at_call 11; go_must (refine htx.mono ?_; rintro e w7 ⟨rfl, hB7⟩))
            go_wp2_with (go_at_call 17; refine (must_no _).mono ?_; rintro e w9 ⟨rfl, hB9⟩)
            have hB8 := hB7.trans (hB9.mono hB7.size)
            have hK8 := (hB8.block Dd (Array.getElem?_eq_some_iff.1 hK).1).trans hK
            exact ⟨by simp, .inl ⟨_, _, rfl, run_takeDeferred hK8, leaves_panic (V := V0) (box_put (hY0.kept hB8) hK8 rfl _) (box_put (hY1.kept hB8) hK8 rfl _) (by omega) rfl rfl (retRead_none hlen hrs ((below_setRow (below_put (hbW.trans (hB8.mono hbW.size)) hK8 (by omega) _) (Nat.le_refl _) _).setCell (by simp) _))⟩⟩
      case pan =>
        intro Dd c W hD ⟨hc, hb, hs, hf⟩ hK
        subst hc
        have hrs := HR.out
        rw [hf] at hrs
        have hbW : Below w.heap.size w W := (hb2.trans (hB4.mono (by omega))).trans (hb.mono (by omega))
        have hY0 : Box W w.heap.size V0.cells 28 := (hb.block _ (by omega)).trans (hX0.below hB4 (by omega))
        have hY1 : Box W (w.heap.size + 1) #[.int .i64 0] 29 := (hb.block _ (by omega)).trans (hX1.below hB4 (by omega))
        exact ⟨by simp [oddC], .inl ⟨_, _, rfl, run_takeDeferred hK, leaves_panic (V := V0) (box_put hY0 hK rfl _) (box_put hY1 hK rfl _) (by omega) rfl rfl (retRead_none hlen hrs ((below_setRow (below_put hbW hK (by omega) _) (Nat.le_refl _) _).setCell (by simp) _))⟩⟩
end Go.Proofs.YtdhmekpgplajmaaGreatDoor
end
section
namespace Go.Proofs.YtdhmekpgplajmaaGreatDoor
open Go.RowKit
theorem below_drewN (w : World) (q : Nat) : Below w.heap.size w (w.drewN q) := ⟨rfl, rfl, rfl, Nat.le_refl _, fun _ _ => rfl⟩
theorem bs_map_inj : ∀ {l l2 : List (List UInt8)}, l.map bs = l2.map bs → l = l2
  | [], [], _ => rfl
  | [], _ :: _, h => by simp at h
  | _ :: _, [], h => by simp at h
  | a :: l, b :: l2, h => by
    simp only [List.map_cons, List.cons.injEq] at h
    rw [bs_inj h.1, bs_map_inj h.2]
/-- The rows of a machine, as ReadsD has them. -/
def RowsD (w : World) (rows : List Value) (L : List (List Int)) : Prop := rows.length = L.length ∧ ∀ i (h1 : i < rows.length) (h2 : i < L.length), ∃ a c, rows[i] = .slice a (L[i]).length c ∧ SliceR w (.slice a (L[i]).length c) 1 encI L[i]
theorem take_eq_step {L M : List (List Int)} {j : Nat} (h : L.take j = M.take j) (h1 : j < L.length) (h2 : j < M.length) (he : L[j] = M[j]) : L.take (j + 1) = M.take (j + 1) := by
  rw [List.take_succ_eq_append_getElem h1, List.take_succ_eq_append_getElem h2, h, he]
theorem equal_ints (a a2 : Option Addr) (c c2 n m : Nat) (l l2 : List Int) (w : World) (h : SliceR w (.slice a n c) 1 encI l) (h2 : SliceR w (.slice a2 m c2) 1 encI l2) :
    Calls Tryz.prog 41 #[.slice a n c, .slice a2 m c2] w (Ret w (.bool (l == l2))) := by
  obtain ⟨b1, o1, e1, k1, k1', a1, d1⟩ := h.cells1
  obtain ⟨b2, o2, e2, k2, k2', a2', d2⟩ := h2.cells1
  by_cases hl : n = m
  · by_cases h0 : n = 0
    · subst hl
      subst h0
      obtain rfl : l = [] := List.eq_nil_of_length_eq_zero (by omega)
      obtain rfl : l2 = [] := List.eq_nil_of_length_eq_zero (by omega)
      refine (Tryz.slices_Equal_int_empty a a2 c 0 c2 w (by omega)).mono ?_
      rintro e w' ⟨rfl, rfl⟩
      exact ⟨rfl, Below.refl _ _⟩
    · obtain rfl := a1 0 (by omega)
      obtain rfl := a2' 0 (by omega)
      refine (Tryz.slices_Equal_int b1 o1 n c b2 o2 m c2 l l2 w (by omega) (by omega) (by omega) (by omega) (fun j hj => ?_) (fun j hj => ?_)).mono ?_
      · rw [List.getD_eq_getElem?_getD, List.getElem?_eq_getElem hj]; exact d1 j hj w (Below.refl _ _)
      · rw [List.getD_eq_getElem?_getD, List.getElem?_eq_getElem hj]; exact d2 j hj w (Below.refl _ _)
      · rintro e w' ⟨rfl, q, rfl⟩
        rw [e1, e2, List.take_length, List.take_length]
        exact ⟨rfl, below_drewN _ _⟩
  · refine (Tryz.slices_Equal_int_lens a a2 n c m c2 w hl).mono ?_
    rintro e w' ⟨rfl, rfl⟩
    have : (l == l2) = false := beq_eq_false_iff_ne.2 (by rintro rfl; omega)
    rw [this]
    exact ⟨rfl, Below.refl _ _⟩
theorem equal_texts (a a2 : Option Addr) (c c2 n m : Nat) (l l2 : List (List UInt8)) (w : World) (h : SliceR w (.slice a n c) 1 encT l) (h2 : SliceR w (.slice a2 m c2) 1 encT l2) :
    Calls Tryz.prog 42 #[.slice a n c, .slice a2 m c2] w (Ret w (.bool (l == l2))) := by
  obtain ⟨b1, o1, e1, k1, k1', a1, d1⟩ := h.cells1
  obtain ⟨b2, o2, e2, k2, k2', a2', d2⟩ := h2.cells1
  by_cases hl : n = m
  · by_cases h0 : n = 0
    · subst hl
      subst h0
      obtain rfl : l = [] := List.eq_nil_of_length_eq_zero (by omega)
      obtain rfl : l2 = [] := List.eq_nil_of_length_eq_zero (by omega)
      refine (Tryz.slices_Equal_string_empty a a2 c 0 c2 w (by omega)).mono ?_
      rintro e w' ⟨rfl, rfl⟩
      exact ⟨rfl, Below.refl _ _⟩
    · obtain rfl := a1 0 (by omega)
      obtain rfl := a2' 0 (by omega)
      refine (Tryz.slices_Equal_string b1 o1 n c b2 o2 m c2 (l.map bs) (l2.map bs) w (by simp; omega) (by simp; omega) (by omega) (by omega) (fun j hj => ?_) (fun j hj => ?_)).mono ?_
      · have hj' : j < l.length := by simpa using hj
        rw [List.getD_eq_getElem?_getD, List.getElem?_eq_getElem hj, Option.getD_some, List.getElem_map]; exact d1 j hj' w (Below.refl _ _)
      · have hj' : j < l2.length := by simpa using hj
        rw [List.getD_eq_getElem?_getD, List.getElem?_eq_getElem hj, Option.getD_some, List.getElem_map]; exact d2 j hj' w (Below.refl _ _)
      · rintro e w' ⟨rfl, q, rfl⟩
        have : (decide ((l.map bs).take n = (l2.map bs).take m)) = (l == l2) := by
          rw [List.take_of_length_le (by simp; omega), List.take_of_length_le (by simp; omega)]
          rw [Bool.eq_iff_iff, decide_eq_true_iff, beq_iff_eq]
          exact ⟨fun h => bs_map_inj h, fun h => by rw [h]⟩
        rw [this]
        exact ⟨rfl, below_drewN _ _⟩
  · refine (Tryz.slices_Equal_string_lens a a2 n c m c2 w hl).mono ?_
    rintro e w' ⟨rfl, rfl⟩
    have : (l == l2) = false := beq_eq_false_iff_ne.2 (by rintro rfl; omega)
    rw [this]
    exact ⟨rfl, Below.refl _ _⟩
set_option maxRecDepth 20000 in
set_option maxHeartbeats 1600000 in
theorem equal_rows (a a2 : Option Addr) (c c2 n m : Nat) (rows rows2 : List Value) (L M : List (List Int)) (w : World) (h : SliceR w (.slice a n c) 1 encV rows) (h2 : SliceR w (.slice a2 m c2) 1 encV rows2) (hr : RowsD w rows L) (hr2 : RowsD w rows2 M) :
    Calls Tryz.prog 43 #[.slice a n c, .slice a2 m c2, .func (.func 41) #[] #[]] w (Ret w (.bool (L == M))) := by
  obtain ⟨b1, o1, e1, k1, k1', a1, d1⟩ := h.cells1
  obtain ⟨b2, o2, e2, k2, k2', a2', d2⟩ := h2.cells1
  obtain ⟨f1, g1⟩ := hr
  obtain ⟨f2, g2⟩ := hr2
  have hn63 : n ≤ 9223372036854775807 := by omega
  have hm63 : m ≤ 9223372036854775807 := by omega
  by_cases hl : n = m
  · subst hl
    have q0 : ((n : Int) != (n : Int)) = false := by simp
    have D1 := Lib.hid d1
    have D2 := Lib.hid d2
    have G1 := Lib.hid g1
    have G2 := Lib.hid g2
    have A1 := Lib.hid a1
    have A2 := Lib.hid a2'
    have E1 := Lib.hid (And.intro e1 (And.intro e2 (And.intro f1 f2)))
    clear d1 d2 g1 g2 a1 a2' h h2 k1 k1' k2 k2' e1 e2 f1 f2 hm63
    go_enter Tryz.func43, Tryz.ntmps43
    go_wp2
    go_loopw [17] (fun i wr => ∃ j : Nat, j ≤ n ∧ i = .int .i64 j ∧ L.take j = M.take j ∧ Below w.heap.size w wr) (fun i _ => n - (intOf i).toNat)
    case atStart => exact ⟨0, Nat.zero_le _, rfl, rfl, by first | exact Below.refl _ _ | go_grown⟩
    case round =>
      obtain ⟨j, hj, rfl, htk, hB⟩ := hrel
      by_cases hlt : j < n
      · have hdj : decide ((j : Int) < (n : Int)) = true := decide_eq_true (by omega)
        obtain ⟨e1, e2, f1, f2⟩ := E1.out
        obtain rfl := A1.out j (by omega)
        obtain rfl := A2.out j (by omega)
        have c1 := D1.out j (by omega) wr hB
        have c2 := D2.out j (by omega) wr hB
        obtain ⟨p1, q1, hv1, s1⟩ := G1.out j (by omega) (by omega)
        obtain ⟨p2, q2, hv2, s2⟩ := G2.out j (by omega) (by omega)
        rw [hv1] at c1
        rw [hv2] at c2
        have hji : (j : Int) < (n : Int) := by omega
        have hEQ := fun w1 hb => equal_ints p1 p2 q1 q2 _ _ L[j] M[j] w1 (s1.kept (w' := w1) hb) (s2.kept hb)
        have hst : L[j] = M[j] → L.take (j + 1) = M.take (j + 1) := fun he => take_eq_step htk (by omega) (by omega) he
        have hne : L[j] ≠ M[j] → (L == M) = false := fun he => beq_eq_false_iff_ne.2 (by rintro rfl; exact he rfl)
        have HE := Lib.hid hEQ
        have HST := Lib.hid hst
        have HNE := Lib.hid hne
        clear hEQ hst hne hv1 hv2 s1 s2
        generalize L[j] = x at *
        generalize M[j] = y at *
        clear e1 e2 f1 f2
        have hws := hB.size
        cases hxy : (x == y) with
        | true =>
          rw [hxy] at HE
          have hx := beq_iff_eq.1 hxy
          clear hxy
          have HX := Lib.hid hx
          clear hx
          go_wp2_with (go_at_call 41; go_must (refine (HE.out _ hB).mono ?_; rintro e w1 ⟨rfl, hB1⟩; have hB2 := hB.trans (hB1.mono hws)))
          go_roundw
          case rel => exact ⟨j + 1, hlt, by go_num, HST.out HX.out, hB2⟩
          case measure => simp [intOf]; omega
        | false =>
          rw [hxy] at HE
          have HN2 := Lib.hid (HNE.out (beq_eq_false_iff_ne.1 hxy))
          clear hxy
          go_wp2_with (go_at_call 41; go_must (refine (HE.out _ hB).mono ?_; rintro e w1 ⟨rfl, hB1⟩; have hB2 := hB.trans (hB1.mono hws)))
          go_ret
          exact ⟨by rw [HN2.out]; rfl, hB2⟩
      · have hdj : decide ((j : Int) < (n : Int)) = false := decide_eq_false (by omega)
        obtain ⟨e1, e2, f1, f2⟩ := E1.out
        have : L = M := by
          rw [List.take_of_length_le (by omega), List.take_of_length_le (by omega)] at htk; exact htk
        have HT := Lib.hid this
        clear e1 e2 f1 f2 this htk
        go_wp2
        go_ret
        exact ⟨by rw [HT.out, beq_self_eq_true]; rfl, hB⟩
  · have q0 : ((n : Int) != (m : Int)) = true := by simp; omega
    have hb : (L == M) = false := beq_eq_false_iff_ne.2 (by rintro rfl; omega)
    rw [hb]
    clear e1 e2 f1 f2 d1 d2 g1 g2 a1 a2' h h2 k1 k1' k2 k2' hb
    go_enter Tryz.func43, Tryz.ntmps43
    go_wp2
    go_ret
    exact ⟨rfl, by first | exact Below.refl _ _ | go_grown⟩
end Go.Proofs.YtdhmekpgplajmaaGreatDoor
end
section
namespace Go.Proofs.YtdhmekpgplajmaaGreatDoor
open Go.RowKit
def sameD (D E : PDfa) : Bool := sameArr D.of E.of && ((D.width == E.width) && (D.label == E.label && (D.names == E.names && D.next == E.next)))
set_option maxRecDepth 20000 in
set_option maxHeartbeats 3200000 in
theorem dfa_Same (V U : VDfa) (D E : PDfa) (w : World) (h : ReadsD w V D) (h2 : ReadsD w U E) : Calls Tryz.prog 15 #[.agg V.cells, .agg U.cells] w (Ret w (.bool (sameD D E))) := by
  have hx1 : Box ((w.alloc (.cells V.cells 28)).alloc (.cells U.cells 28)) w.heap.size V.cells 28 := (Box.new' rfl _ _).alloc _
  have hx2 : Box ((w.alloc (.cells V.cells 28)).alloc (.cells U.cells 28)) (w.heap.size + 1) U.cells 28 := Box.new' (by simp) _ _
  have hb0 : Below w.heap.size w ((w.alloc (.cells V.cells 28)).alloc (.cells U.cells 28)) := ((Below.refl _ w).alloc (Nat.le_refl _) _).alloc (by simp) _
  have hq := fun w => run_eq256 (P := Tryz.prog) (t := 23) (e := 5) Tryz.underlying23 Tryz.underlying5 (by kernel_rfl) V.of U.of w
  obtain ⟨x0, x1, x2, x3⟩ := hx1.dfa
  obtain ⟨y0, y1, y2, y3⟩ := hx2.dfa
  obtain ⟨g0, g1, g3, g4, rows, g5, g6, g7⟩ := h
  obtain ⟨k0, k1, k3, k4, rows2, k5, k6, k7⟩ := h2
  have hL := fun w1 hb => equal_ints _ _ _ _ _ _ _ _ w1 (g3.kept (w' := w1) hb) (k3.kept hb)
  have hN := fun w1 hb => equal_texts _ _ _ _ _ _ _ _ w1 (g4.kept (w' := w1) hb) (k4.kept hb)
  have hX := fun w1 hb => equal_rows _ _ _ _ _ _ rows rows2 D.next E.next w1 (g5.kept (w' := w1) hb) (k5.kept hb) ⟨g6, fun i a b => by obtain ⟨p, c, e, s⟩ := g7 i a b; exact ⟨p, c, e, s.kept hb⟩⟩ ⟨k6, fun i a b => by obtain ⟨p, c, e, s⟩ := k7 i a b; exact ⟨p, c, e, s.kept hb⟩⟩
  unfold sameD
  rw [← g0, ← k0, ← g1, ← k1]
  have HL := Lib.hid hL
  have HN := Lib.hid hN
  have HX := Lib.hid hX
  clear hL hN hX g0 g1 g3 g4 g5 g6 g7 k0 k1 k3 k4 k5 k6 k7
  generalize sameArr V.of U.of = p0 at *
  generalize (D.label == E.label) = p2 at *
  generalize (D.names == E.names) = p3 at *
  generalize (D.next == E.next) = p4 at *
  cases p0 with
  | false =>
    go_enter Tryz.func15, Tryz.ntmps15
    go_wp2_with (first | (refine wpList_load_of (by rfl) 23 (.tmp 5) rfl w.heap.size rfl hx1 Tryz.underlying23 rfl (size_256 _) ?_) | (refine wpList_load_of (by rfl) 23 (.tmp 7) rfl (w.heap.size + 1) rfl hx2 Tryz.underlying23 rfl (size_256 _) ?_))
    go_ret
    exact ⟨rfl, hb0⟩
  | true =>
    cases hp1 : (V.width == U.width) with
    | false =>
      go_enter Tryz.func15, Tryz.ntmps15
      go_wp2_with (first | (refine wpList_load_of (by rfl) 23 (.tmp 5) rfl w.heap.size rfl hx1 Tryz.underlying23 rfl (size_256 _) ?_) | (refine wpList_load_of (by rfl) 23 (.tmp 7) rfl (w.heap.size + 1) rfl hx2 Tryz.underlying23 rfl (size_256 _) ?_))
      go_ret
      exact ⟨rfl, hb0⟩
    | true =>
      cases p2 with
      | false =>
        go_enter Tryz.func15, Tryz.ntmps15
        go_wp2_with (first | (refine wpList_load_of (by rfl) 23 (.tmp 5) rfl w.heap.size rfl hx1 Tryz.underlying23 rfl (size_256 _) ?_) | (refine wpList_load_of (by rfl) 23 (.tmp 7) rfl (w.heap.size + 1) rfl hx2 Tryz.underlying23 rfl (size_256 _) ?_) | (go_at_call 41; go_must (refine (HL.out _ hb0).mono ?_; rintro e w3 ⟨rfl, hB3⟩; have hb3 := hb0.trans (hB3.mono hb0.size); have z4 := (hx1.kept hB3).dfa.2.2.2; have u4 := (hx2.kept hB3).dfa.2.2.2; have hx13 := hx1.kept hB3; have hx23 := hx2.kept hB3)))
        go_ret
        exact ⟨rfl, hb3⟩
      | true =>
        cases p3 with
        | false =>
          go_enter Tryz.func15, Tryz.ntmps15
          go_wp2_with (first | (refine wpList_load_of (by rfl) 23 (.tmp 5) rfl w.heap.size rfl hx1 Tryz.underlying23 rfl (size_256 _) ?_) | (refine wpList_load_of (by rfl) 23 (.tmp 7) rfl (w.heap.size + 1) rfl hx2 Tryz.underlying23 rfl (size_256 _) ?_) | (go_at_call 41; go_must (refine (HL.out _ hb0).mono ?_; rintro e w3 ⟨rfl, hB3⟩; have hb3 := hb0.trans (hB3.mono hb0.size); have z4 := (hx1.kept hB3).dfa.2.2.2; have u4 := (hx2.kept hB3).dfa.2.2.2; have hx13 := hx1.kept hB3; have hx23 := hx2.kept hB3)) | (go_at_call 42; go_must (refine (HN.out _ hb3).mono ?_; rintro e w4 ⟨rfl, hB4⟩; have hb4 := hb3.trans (hB4.mono hb3.size); have z5 := (hx13.kept hB4).dfa.2.1; have u5 := (hx23.kept hB4).dfa.2.1)))
          go_ret
          exact ⟨rfl, hb4⟩
        | true =>
          go_enter Tryz.func15, Tryz.ntmps15
          go_wp2_with (first | (refine wpList_load_of (by rfl) 23 (.tmp 5) rfl w.heap.size rfl hx1 Tryz.underlying23 rfl (size_256 _) ?_) | (refine wpList_load_of (by rfl) 23 (.tmp 7) rfl (w.heap.size + 1) rfl hx2 Tryz.underlying23 rfl (size_256 _) ?_) | (go_at_call 41; go_must (refine (HL.out _ hb0).mono ?_; rintro e w3 ⟨rfl, hB3⟩; have hb3 := hb0.trans (hB3.mono hb0.size); have z4 := (hx1.kept hB3).dfa.2.2.2; have u4 := (hx2.kept hB3).dfa.2.2.2; have hx13 := hx1.kept hB3; have hx23 := hx2.kept hB3)) | (go_at_call 42; go_must (refine (HN.out _ hb3).mono ?_; rintro e w4 ⟨rfl, hB4⟩; have hb4 := hb3.trans (hB4.mono hb3.size); have z5 := (hx13.kept hB4).dfa.2.1; have u5 := (hx23.kept hB4).dfa.2.1)) | (go_at_call 43; go_must (refine (HX.out _ hb4).mono ?_; rintro e w5 ⟨rfl, hB5⟩; have hb5 := hb4.trans (hB5.mono hb4.size))))
          go_ret
          exact ⟨rfl, hb5⟩
end Go.Proofs.YtdhmekpgplajmaaGreatDoor
end
section
namespace Go.Proofs.YtdhmekpgplajmaaGreatDoor
open Go.RowKit
set_option maxRecDepth 20000
def D1 : PDfa := ⟨fun _ => 0, 1, [[0]], [1], [[120]]⟩
def lit1 : List UInt8 := [109, 97, 99, 104, 105, 110, 101, 32, 49, 32, 49, 10, 110, 97, 109, 101, 32, 49, 32, 120, 10, 99, 108, 97, 115, 115, 32, 48, 32, 91, 92, 120, 48, 48, 45, 92, 120, 102, 102, 93, 10, 115, 116, 97, 116, 101, 32, 48, 32, 49, 32, 48, 10]
theorem right_D1 : rightD D1 = true := by kernel_rfl
theorem text_D1 : textD D1 = lit1 := by kernel_rfl
def D1r : PDfa := ⟨setOf (elems (spanS 0 255)) 0 (fun _ => 0), 1, [[0]], [1], [[120]]⟩
theorem fold_lit : foldP (D0, 0) (linesP lit1) = some (D1r, 0 ||| spanS 0 255) := by kernel_rfl
theorem right_D1r : rightD D1r = true := by kernel_rfl
theorem text_D1r : textD D1r = lit1 := by kernel_rfl
theorem read_lit : readP lit1 = some D1r := by
  unfold readP
  rw [if_pos (by kernel_rfl), fold_lit]
  dsimp only
  rw [if_pos ⟨right_D1r, text_D1r⟩]
theorem same_lit : sameD D1r D1 = true := by
  have h : sameArr D1r.of D1.of = true := (sameArr_iff _ _).2 fun b _ => by simp [D1r, D1, setOf]
  unfold sameD
  rw [h]
  rfl
def V1 (B : Nat) : VDfa := ⟨fun _ => 0, 1, some ⟨B + 1, 0, none⟩, 1, 1, some ⟨B + 1 + 1, 0, none⟩, 1, 1, some ⟨B + 1 + 1 + 1, 0, none⟩, 1, 1⟩
theorem build_V1 (B : Nat) : ((((V0.cells.setIfInBounds 256 (.int .i64 1)).setIfInBounds 257 (.slice (some ⟨B + 1, 0, none⟩) 1 1)).setIfInBounds 258 (.slice (some ⟨B + 1 + 1, 0, none⟩) 1 1)).setIfInBounds 259 (.slice (some ⟨B + 1 + 1 + 1, 0, none⟩) 1 1)) = (V1 B).cells := by kernel_rfl
/-- The machine, as it lies. -/
def laid1 (w : World) : World := (((w.alloc (.cells #[.int .i64 0] 3)).alloc (.cells #[.slice (some ⟨w.heap.size, 0, none⟩) 1 1] 25)).alloc (.cells #[.int .i64 1] 3)).alloc (.cells #[.string ⟨#[120]⟩] 9)
theorem laid1_reads (w : World) : ReadsD (laid1 w) (V1 w.heap.size) D1 := by
  have s0 := (sl_new encI_ok w 3 [0] (by simp [maxLen])).kept (w' := laid1 w) (((later_alloc _ _).trans ((later_alloc _ _).mono (by simp))).trans ((later_alloc _ _).mono (by simp)))
  have s1 := (sl_new encR_ok (w.alloc (.cells #[.int .i64 0] 3)) 25 [((some ⟨w.heap.size, 0, none⟩, 1, 1) : Option Addr × Nat × Nat)] (by simp [maxLen])).kept (w' := laid1 w) ((later_alloc _ _).trans ((later_alloc _ _).mono (by simp)))
  have s2 := (sl_new encI_ok ((w.alloc (.cells #[.int .i64 0] 3)).alloc (.cells #[.slice (some ⟨w.heap.size, 0, none⟩) 1 1] 25)) 3 [1] (by simp [maxLen])).kept (w' := laid1 w) (later_alloc _ _)
  have s3 := sl_new encT_ok (((w.alloc (.cells #[.int .i64 0] 3)).alloc (.cells #[.slice (some ⟨w.heap.size, 0, none⟩) 1 1] 25)).alloc (.cells #[.int .i64 1] 3)) 9 [[120]] (by simp [maxLen])
  simp only [World.size_alloc] at s1 s2 s3
  refine ⟨rfl, rfl, s2, s3, [rowV (some ⟨w.heap.size, 0, none⟩, 1, 1)], ?_, rfl, fun i h1 h2 => ?_⟩
  · exact slice_map (m := rowV) (f := rowV) (g := fun v => v) s1 (fun _ => rfl)
  · obtain rfl : i = 0 := by simp at h1; omega
    exact ⟨_, 1, rfl, s0⟩
theorem lit1_eq : (lit1 == [109, 97, 99, 104, 105, 110, 101, 32, 49, 32, 49, 10, 110, 97, 109, 101, 32, 49, 32, 120, 10, 99, 108, 97, 115, 115, 32, 48, 32, 91, 92, 120, 48, 48, 45, 92, 120, 102, 102, 93, 10, 115, 116, 97, 116, 101, 32, 48, 32, 49, 32, 48, 10]) = true := by rfl
theorem text_lit (V : VDfa) (w : World) (h : ReadsD w V D1) (hT : Tab w) : Calls Tryz.prog 11 #[.agg V.cells] w (Ret w (.tuple #[sv lit1, .int .i64 0])) := by
  have := list_Text V D1 w h (fun x hx => by simp [D1] at hx; subst hx; simp) hT
  rwa [if_pos right_D1, text_D1] at this
theorem read_at_lit (w : World) (hT : Tab w) (hM : MaxL w) : Calls Tryz.prog 6 #[sv lit1] w (fun e w' => Below w.heap.size w w' ∧ ∃ V, e = .returned (.tuple #[.agg V.cells, .int .i64 0]) ∧ ReadsD w' V D1r) := by
  refine (list_Read lit1 w (by decide) hT hM).mono ?_
  rintro e w' ⟨hb, h⟩
  rw [if_neg (by decide), read_lit] at h
  exact ⟨hb, h⟩
theorem same_at_lit (V U : VDfa) (w : World) (h : ReadsD w V D1r) (h2 : ReadsD w U D1) : Calls Tryz.prog 15 #[.agg V.cells, .agg U.cells] w (Ret w (.bool true)) := by
  have := dfa_Same V U D1r D1 w h h2
  rwa [same_lit] at this
set_option maxHeartbeats 1600000 in
theorem knows36 (w : World) (hT : Tab w) (hM : MaxL w) : Calls Tryz.prog 5 #[] w (Ret w (.bool true)) := by
  have hz := zeroV_dfa
  have hsz := V0.size
  have hbv := build_V1 w.heap.size
  have hbl : Below w.heap.size w (laid1 w) := ((((Below.refl _ w).alloc (Nat.le_refl _) _).alloc (by simp) _).alloc (by simp; omega) _).alloc (by simp; omega) _
  have hsl : (laid1 w).heap.size = w.heap.size + 1 + 1 + 1 + 1 := by unfold laid1; simp
  have hb5 : Below w.heap.size w ((laid1 w).alloc (.cells (V1 w.heap.size).cells 28)) := hbl.alloc hbl.size _
  have hd5 : Box ((laid1 w).alloc (.cells (V1 w.heap.size).cells 28)) (w.heap.size + 1 + 1 + 1 + 1) (V1 w.heap.size).cells 28 := Box.new' hsl.symm _ _
  have hr5 := (laid1_reads w).kept (later_alloc _ (.cells (V1 w.heap.size).cells 28))
  have hT5 := hT.kept hb5
  have hM5 := hM.kept hb5
  have hcmp := lit1_eq
  unfold laid1 at hd5 hr5 hT5 hM5 hb5
  generalize hVV : V1 w.heap.size = VV at *
  clear hsl hbl hVV
  have HB5 := Lib.hid hb5
  have HR5 := Lib.hid hr5
  have HT5 := Lib.hid hT5
  have HM5 := Lib.hid hM5
  clear hb5 hr5 hT5 hM5
  go_enter Tryz.func5, Tryz.ntmps5
  go_wp2_with (first | (refine wpList_store_new rfl 28 (.tmp 1) (.tmp 10) rfl _ _ rfl rfl (by simp) (size_dfa VV) (VDfa.sizes _ _) (VDfa.all _) ?_) | (refine wpList_load_row rfl 28 (.tmp 1) rfl (w.heap.size + 1 + 1 + 1 + 1) rfl _ _ _ _ hd5 Tryz.underlying28 rfl (size_dfa _) ?_) | (go_at_call 11; go_must (refine (text_lit _ _ HR5.out HT5.out).mono ?_; rintro e w6 ⟨rfl, hB6⟩; have hd6 := hd5.kept hB6; have hr6 := HR5.out.kept hB6; have hT6 := HT5.out.kept hB6; have hM6 := HM5.out.kept hB6; have hb6 := HB5.out.trans (hB6.mono HB5.out.size))) | (go_at_call 6; go_must (refine (read_at_lit _ hT6 hM6).mono ?_; rintro e w7 ⟨hB7, V, rfl, hRV⟩; have hd7 := (hd6.kept hB7).alloc (.cells V.cells 28); have hr7 := (hr6.kept hB7).kept (later_alloc _ (.cells V.cells 28)); have hRV7 := hRV.kept (later_alloc _ (.cells V.cells 28)); have hb7 := (hb6.trans (hB7.mono hb6.size)).alloc (hb6.trans (hB7.mono hb6.size)).size (.cells V.cells 28); have hx7 := Box.new w7 V.cells 28)) | (refine wpList_store_new rfl 28 (.tmp 4) (.tmp 19) rfl _ _ rfl rfl (by simp) (size_dfa V) (VDfa.sizes _ _) (VDfa.all _) ?_) | (refine wpList_load_row_g (by rfl) 28 (.tmp 4) rfl w7.heap.size rfl _ _ _ _ hx7 Tryz.underlying28 rfl (size_dfa _) ?_) | (refine wpList_load_row_g (by rfl) 28 (.tmp 1) rfl (w.heap.size + 1 + 1 + 1 + 1) rfl _ _ _ _ hd7 Tryz.underlying28 rfl (size_dfa _) ?_) | (go_at_call 15; go_must (refine (same_at_lit _ _ _ hRV7 hr7).mono ?_; rintro e w8 ⟨rfl, hB8⟩)))
  go_ret
  exact ⟨rfl, hb7.trans (hB8.mono hb7.size)⟩
end Go.Proofs.YtdhmekpgplajmaaGreatDoor
end
section
namespace Go.Proofs.YtdhmekpgplajmaaGreatDoor
open Go.RowKit
set_option maxRecDepth 20000
theorem digitN_dig (d : Nat) (h : d < 10) : digitN (dig d).toNat = true := by rw [dig_toNat d h]; unfold digitN; simp; omega
theorem showN_digits (n : Nat) : ∀ c ∈ showN n, digitN c.toNat = true := by
  induction n using Nat.strongRecOn with
  | _ n ih =>
    intro c hc
    by_cases h : n < 10
    · rw [showN_small h] at hc; simp at hc; subst hc; exact digitN_dig n h
    · rw [showN_big h] at hc
      rcases List.mem_append.1 hc with hc | hc
      · exact ih _ (by omega) c hc
      · simp at hc; subst hc; exact digitN_dig _ (by omega)
theorem runD_all : ∀ l : List UInt8, (∀ c ∈ l, digitN c.toNat = true) → runD l = l.length
  | [], _ => rfl
  | a :: r, h => by rw [runD, if_pos (h a (by simp)), runD_all r fun c hc => h c (by simp [hc])]; rfl
theorem showN_first (n : Nat) (h : 10 ≤ n) : (showN n).getD 0 0 ≠ 48 := by
  induction n using Nat.strongRecOn with
  | _ n ih =>
    rw [showN_big (by omega)]
    have hne := showN_ne (n / 10)
    have e : (showN (n / 10) ++ [dig (n % 10)]).getD 0 0 = (showN (n / 10)).getD 0 0 := by
      simp only [List.getD]; rw [List.getElem?_append_left (List.length_pos_iff.2 hne)]
    rw [e]
    by_cases h1 : n / 10 < 10
    · rw [showN_small h1]
      intro e2
      have := congrArg UInt8.toNat e2
      rw [List.getD_cons_zero, dig_toNat _ h1] at this
      have h3 : (48 : UInt8).toNat = 48 := rfl
      rw [h3] at this
      omega
    · exact ih _ (by omega) (by omega)
theorem valD_snoc (most : Nat) (c : UInt8) : ∀ (l : List UInt8) (v : Nat), valD most v (l ++ [c]) = (valD most v l).bind fun x => if (most - (c.toNat - 48)) / 10 < x then none else some (x * 10 + (c.toNat - 48))
  | [], v => by simp only [List.nil_append, valD, Option.bind_some]
  | d :: r, v => by
    rw [List.cons_append, valD, valD]
    split
    · rfl
    · exact valD_snoc most c r _
theorem valD_show (most n : Nat) (h : n ≤ most) : valD most 0 (showN n) = some n := by
  induction n using Nat.strongRecOn with
  | _ n ih =>
    by_cases h1 : n < 10
    · rw [showN_small h1]; simp only [valD, dig_toNat _ h1]
      rw [if_neg (by omega)]
      congr 1; omega
    · rw [showN_big h1, valD_snoc, ih (n / 10) (by omega) (by omega), Option.bind_some, dig_toNat _ (by omega)]
      rw [if_neg (by omega)]
      congr 1; omega
theorem numT_show (n : Nat) (h : n ≤ 65536) : numT (showN n) = some n := by
  have hr := runD_all _ (showN_digits n)
  have hp := List.length_pos_iff.2 (showN_ne n)
  have hf : formD (showN n) = true := by
    unfold formD
    rw [hr]
    by_cases h1 : n < 10
    · rw [showN_small h1]; simp
    · have := showN_first n (by omega)
      simp only [Bool.and_eq_true, Bool.not_eq_true', beq_eq_false_iff_ne, decide_eq_false_iff_not, Bool.and_eq_false_iff]
      exact ⟨by omega, by omega, .inl this⟩
  unfold numT
  rw [if_pos hf, valD_show _ _ h]
theorem numT_int {z : Int} (h0 : 0 ≤ z) (h1 : z ≤ 65536) : ∃ n : Nat, z = (n : Int) ∧ n ≤ 65536 ∧ numT (showI z) = some n :=
  ⟨z.toNat, by omega, by omega, by rw [showI, if_neg (by omega)]; exact numT_show _ (by omega)⟩
theorem showI_bytes (z : Int) : ∀ c ∈ showI z, 33 ≤ c.toNat := by
  intro c hc
  unfold showI at hc
  split at hc
  · simp at hc
  · have := showN_digits _ c hc
    unfold digitN at this
    simp at this; omega
/-- Words without the byte between them. -/
theorem splitL_app (c : UInt8) (r : List UInt8) : ∀ w : List UInt8, c ∉ w → splitL c (w ++ c :: r) = w :: splitL c r
  | [], _ => by rw [List.nil_append, splitL, if_pos rfl]
  | x :: w, h => by
    rw [List.cons_append, splitL, if_neg (fun e => h (by simp [e])), splitL_app c r w (fun e => h (by simp [e]))]
theorem splitL_one (c : UInt8) : ∀ w : List UInt8, c ∉ w → splitL c w = [w]
  | [], _ => rfl
  | x :: w, h => by rw [splitL, if_neg (fun e => h (by simp [e])), splitL_one c w (fun e => h (by simp [e]))]
theorem splitL_join (c : UInt8) : ∀ (ws : List (List UInt8)), ws ≠ [] → (∀ w ∈ ws, c ∉ w) → splitL c (Lib.join ws [c]) = ws
  | [], h, _ => absurd rfl h
  | [x], _, h => by rw [Lib.join_one]; exact splitL_one c x (h x (by simp))
  | x :: y :: r, _, h => by
    have e : Lib.join (x :: y :: r) [c] = x ++ c :: Lib.join (y :: r) [c] := by
      rw [Lib.join_cons, Lib.join_cons]; simp [Lib.joinTail]
    rw [e, splitL_app c _ x (h x (by simp)), splitL_join c (y :: r) (by simp) fun w hw => h w (by simp [hw])]
theorem join_mem {c d : UInt8} : ∀ (ws : List (List UInt8)), c ∈ Lib.join ws [d] → c = d ∨ ∃ w ∈ ws, c ∈ w
  | [], h => by rw [Lib.join_nil] at h; simp at h
  | [x], h => by rw [Lib.join_one] at h; exact .inr ⟨x, by simp, h⟩
  | x :: y :: r, h => by
    have e : Lib.join (x :: y :: r) [d] = x ++ d :: Lib.join (y :: r) [d] := by
      rw [Lib.join_cons, Lib.join_cons]; simp [Lib.joinTail]
    rw [e] at h
    rcases List.mem_append.1 h with h | h
    · exact .inr ⟨x, by simp, h⟩
    · rcases List.mem_cons.1 h with h | h
      · exact .inl h
      · rcases join_mem (y :: r) h with h | ⟨w, hw, h⟩
        · exact .inl h
        · exact .inr ⟨w, by simp [hw], h⟩
/-- Words that may stand in a line. -/
def wordsOK (ws : List (List UInt8)) : Prop := ws ≠ [] ∧ ∀ w ∈ ws, ∀ c ∈ w, 33 ≤ c.toNat
theorem wordsOK.split {ws : List (List UInt8)} (h : wordsOK ws) : splitL 32 (Lib.join ws [32]) = ws :=
  splitL_join 32 ws h.1 fun w hw hc => by have := h.2 w hw _ hc; exact absurd this (by decide)
theorem wordsOK.noEnd {ws : List (List UInt8)} (h : wordsOK ws) : (10 : UInt8) ∉ Lib.join ws [32] := fun hc => by
  rcases join_mem ws hc with e | ⟨w, hw, hc⟩
  · exact absurd e (by decide)
  · have := h.2 w hw _ hc; exact absurd this (by decide)
theorem flat_lines : ∀ (L : List (List (List UInt8))), L ≠ [] → L.flatMap lineT = Lib.join (L.map fun ws => Lib.join ws [32]) [10] ++ [10]
  | [], h => absurd rfl h
  | [x], _ => by simp [lineT, Lib.join_one]
  | x :: y :: r, _ => by
    rw [List.flatMap_cons, flat_lines (y :: r) (by simp), List.map_cons, List.map_cons, List.map_cons, Lib.join_cons, Lib.join_cons]
    simp [lineT, Lib.joinTail]
/-- The lines of words, one behind the other. -/
def foldW : PDfa × BSet → List (List (List UInt8)) → Option (PDfa × BSet)
  | x, [] => some x
  | x, ws :: l => match lineW x.1 x.2 ws with
    | some y => foldW y l
    | none => none
theorem foldW_append (l m : List (List (List UInt8))) : ∀ x : PDfa × BSet, foldW x (l ++ m) = (foldW x l).bind fun y => foldW y m := by
  induction l with
  | nil => intro x; rfl
  | cons s l ih =>
    intro x
    rw [List.cons_append, foldW, foldW]
    cases lineW x.1 x.2 s with
    | none => rfl
    | some y => exact ih y
theorem foldP_W : ∀ (L : List (List (List UInt8))) (x : PDfa × BSet), (∀ ws ∈ L, wordsOK ws) → foldP x (L.map fun ws => Lib.join ws [32]) = foldW x L
  | [], _, _ => rfl
  | ws :: L, x, h => by
    rw [List.map_cons, foldP, foldW, stepL, (h ws (by simp)).split]
    cases lineW x.1 x.2 ws with
    | none => rfl
    | some y => exact foldP_W L y fun v hv => h v (by simp [hv])
theorem linesP_flat (L : List (List (List UInt8))) (hne : L ≠ []) (h : ∀ ws ∈ L, wordsOK ws) : Lib.hasSuffix (L.flatMap lineT) [10] = true ∧ linesP (L.flatMap lineT) = L.map fun ws => Lib.join ws [32] := by
  rw [flat_lines L hne]
  refine ⟨?_, ?_⟩
  · unfold Lib.hasSuffix; exact List.isSuffixOf_iff_suffix.2 (List.suffix_append _ _)
  · unfold linesP
    rw [List.length_append, List.length_singleton, Nat.add_sub_cancel, List.take_left]
    refine splitL_join 10 _ (by simpa using hne) fun w hw => ?_
    obtain ⟨ws, h1, rfl⟩ := List.mem_map.1 hw
    exact (h ws h1).noEnd
end Go.Proofs.YtdhmekpgplajmaaGreatDoor
end
