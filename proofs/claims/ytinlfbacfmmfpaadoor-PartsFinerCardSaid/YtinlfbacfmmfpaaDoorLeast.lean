/- The least byte of a set. -/
import Derived.Test.YtinlfbacfmmfpaaDoorEach
namespace Go.Proofs.YtinlfbacfmmfpaaDoor
open Go.RowKit Go.Shelf
attribute [local go_sem] Oper.semAt_some

def LeastI (b : Nat) (w : World) (pre : List Nat) (W : World) : Prop := Box W (b + 1) #[.int .i64 0] 3 ∧ pre = [] ∧ Below b w W
def LeastX (b : Nat) (w : World) (c : Code) (pre : List Nat) (W : World) : Prop := c = .ret ∧ ∃ x : Nat, pre = [x] ∧ Box W (b + 1) #[.int .i64 (wrap64 x)] 3 ∧ Below b w W
set_option maxRecDepth 100000 in
set_option maxHeartbeats 2000000 in
theorem sets_Least (s : BSet) (w : World) (hT : Tab w) : Calls Tryd.prog 30 #[.agg (setC s)] w (Ret w (.int .i64 (leastOf s))) := by
  have hle := leastOf_elems s
  have hlt := fun x => @elems_lt s x
  have hN := each_at s
  refine (callsIn_wide (n := 6)).1 ?_
  refine callsIn_of_wp_marks Tryd.func30 rfl trivial ?_ rfl
  simp only [Tryd.ntmps30, List.size_toArray, List.length_cons, List.length_nil, Nat.reduceAdd, Nat.reduceSub, Array.replicate_succ, Array.replicate_zero, List.push_toArray, List.append_toArray, List.nil_append, List.cons_append]
  gi_wp2_with (refine ⟨trivial, ?_⟩; gi_at_call 46; refine (callsIn_wide.2 (hN _)).mono ?_; rintro e w' ⟨rfl, rfl⟩)
  obtain ⟨W0, hW0⟩ : ∃ W0, (((w.alloc (.cells (setC s) 34)).alloc (.cells #[.int .i64 0] 3)).alloc (.cells (setC s) 34)) = W0 := ⟨_, rfl⟩
  have hB0 : Below w.heap.size w W0 := by rw [← hW0]; go_grown
  have hsz0 : W0.heap.size = w.heap.size + 1 + 1 + 1 := by rw [← hW0]; simp
  have hbt : Box W0 (w.heap.size + 1 + 1) (setC s) 34 := by rw [← hW0]; exact Box.new' (by simp) _ _
  have hn0 : Box W0 (w.heap.size + 1) #[.int .i64 0] 3 := by rw [← hW0]; exact (Box.new' (by simp) _ _).alloc _
  rw [hW0]
  clear hW0
  have hpos := hT.pos
  have hst := each_stops 5 (w.heap.size + 1 + 1) (fun b => b = w.heap.size + 1) s W0 (by omega) (hT.kept hB0) hbt
  refine wpIn_rangeFunc_ownF rfl (by decide) (gf := 52) (lb := #[.pointer (some ⟨w.heap.size + 1 + 1, 0, none⟩)]) rfl trivial (enters_of Tryd.func52 (by kernel_rfl) rfl)
    hst (fun h k => h.trans k) keepC_b (Below.refl _ _) (fun _ => rfl)
    (LeastI w.heap.size w) (LeastX w.heap.size w)
    (OwnFrom.and (ownFrom_box _ _ _ _) (OwnFrom.and (fun _ _ _ _ h _ _ => h) (ownFrom_below (Nat.le_refl _) (by omega))))
    (fun _ => fun pre W W' row ⟨h1, x, h2, h3, h4⟩ hg hr => ⟨h1, x, h2, ownFrom_box _ _ _ (fun _ : Unit => #[.int .i64 (wrap64 x)]) () W W' row h3 hg hr, ownFrom_below (β := Unit) (Nat.le_refl _) (by omega) () W W' row h4 hg hr⟩) ⟨hn0, rfl, hB0⟩
    (fun x => { tmps := #[.agg (setC s), .pointer (some ⟨w.heap.size, 0, none⟩), .pointer (some ⟨w.heap.size + 1, 0, none⟩), .int .u8 (x : Nat), .agg (setC s), .func (.func 52) #[] #[.pointer (some ⟨w.heap.size + 1 + 1, 0, none⟩)], .int .u8 (x : Nat), undef, undef], defers := [] }) ?assign ?body ?done ?stop
  case assign =>
    intro l x W K hK
    dsimp only [enc8]
    go_simp
    gi_wp2
    exact hK
  case body =>
    rintro l pre x W ⟨hb, rfl, hB⟩ hlt
    have c0 := hb.cell 0
    have f0 := hb.free 0
    gi_wp2
    exact ⟨KeepsOthers.setCell _ _ _, rfl, x, rfl, hb.set 0 _, hB.setCell (by simp) _⟩
  case done =>
    rintro D ys W hD rfl ⟨hb, hys, hB⟩ hK
    have c0 := hb.cell 0
    have f0 := hb.free 0
    rw [hys] at hle
    gi_wp2
    have hK' := (KeepsOthers.setCell W ⟨w.heap.size + 1, 0, none⟩ (.int .i64 (-1))).same D _ hK rfl
    refine ⟨by simp, .inl ⟨_, _, rfl, run_takeDeferred hK', ?_⟩⟩
    have hc5 := (ownFrom_box W0.heap.size (w.heap.size + 1) 3 (fun _ : Unit => #[.int .i64 (-1)]) () _ _ (some D) (hb.set 0 (.int .i64 (-1))) (grownBy_putObj' _ D (.deferred none)) (fun r e => by cases e; exact ⟨by omega, _, hK', rfl⟩)).cell 0
    refine ⟨.int .i64 (-1), ?_, rfl, (hB.setCell (p := ⟨w.heap.size + 1, 0, none⟩) (by simp) _).trans (belowK_b (w := w) (Nat.le_refl _) _ D _ _ (by omega) hK' rfl rfl)⟩
    simp [results, Tryd.f30, go_sem, hc5]
  case stop =>
    rintro D c pre W hD hpre ⟨rfl, x, rfl, hb, hB⟩ hK
    obtain ⟨r, hr⟩ := hpre
    have hx := hlt x (by rw [← hr]; simp)
    have hw : wrap64 (x : Int) = (x : Nat) := by unfold wrap64; omega
    rw [hw] at hb
    rw [← hr] at hle
    gi_wp2
    refine ⟨by simp, .inl ⟨_, _, rfl, run_takeDeferred hK, ?_⟩⟩
    have hc5 := (ownFrom_box W0.heap.size (w.heap.size + 1) 3 (fun _ : Unit => #[.int .i64 (x : Nat)]) () _ _ (some D) hb (grownBy_putObj' _ D (.deferred none)) (fun r e => by cases e; exact ⟨by omega, _, hK, rfl⟩)).cell 0
    refine ⟨.int .i64 (x : Nat), ?_, by rw [hle]; rfl, hB.trans (belowK_b (w := w) (Nat.le_refl _) W D _ _ (by omega) hK rfl rfl)⟩
    simp [results, Tryd.f30, go_sem, hc5]
end Go.Proofs.YtinlfbacfmmfpaaDoor
