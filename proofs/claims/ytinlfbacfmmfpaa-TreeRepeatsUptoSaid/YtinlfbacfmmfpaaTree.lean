/- Trees as they lie in memory, and what they are. No program in sight. -/
import Derived.Test.YtinlfbacfmmfpaaOpen
namespace Go.Proofs.Ytinlfbacfmmfpaa
open Go.ChangeShapes Go.WideShapes Go.ChangeAt Go.RowKit Go.Deep

/-- A tree. -/
inductive Tr where
  | mk (k : Int) (s : BSet) (kids : List Tr) (lo hi : Int)
/-- A tree as it lies in memory: with the address and the capacity of each slice of kids. -/
inductive Vt where
  | mk (k : Int) (s : BSet) (a : Option Addr) (cap : Nat) (kids : List Vt) (lo hi : Int)
def Vt.tr : Vt → Tr
  | .mk k s _ _ kids lo hi => .mk k s (kids.map Vt.tr) lo hi
abbrev nodeC (k : Int) (s : BSet) (a : Option Addr) (n cap : Nat) (lo hi : Int) : List Value :=
  [.int .i64 k, .int .u64 (word s 0 : Nat), .int .u64 (word s 1 : Nat), .int .u64 (word s 2 : Nat), .int .u64 (word s 3 : Nat), .slice a n cap, .int .i64 lo, .int .i64 hi]
def Vt.cells : Vt → List Value
  | .mk k s a cap kids lo hi => nodeC k s a kids.length cap lo hi
def Tr.kids : Tr → List Tr
  | .mk _ _ kids _ _ => kids
theorem Vt.cells_len (V : Vt) : V.cells.length = 8 := by cases V; rfl
theorem Vt.cells_one (V : Vt) : ∀ u ∈ V.cells, u.oneCell' = true := by
  obtain ⟨k, s, a, cap, kids, lo, hi⟩ := V
  intro u hu
  simp [Vt.cells] at hu
  rcases hu with rfl | rfl | rfl | rfl | rfl | rfl | rfl | rfl <;> rfl
abbrev I64 (z : Int) : Prop := -9223372036854775808 ≤ z ∧ z ≤ 9223372036854775807
/-- The tree V lies in memory. -/
inductive Lies (w : World) : Vt → Prop
  | mk (k : Int) (s : BSet) (a : Option Addr) (cap : Nat) (kids : List Vt) (lo hi : Int) (hk : I64 k) (hlo : I64 lo) (hhi : I64 hi)
      (hs : SliceR w (.slice a kids.length cap) 8 Vt.cells kids) (hkids : ∀ i (h : i < kids.length), Lies w kids[i]) : Lies w (.mk k s a cap kids lo hi)
theorem Lies.kept {w w' : World} {V : Vt} (h : Lies w V) (hb : Below w.heap.size w w') : Lies w' V := by
  induction h with
  | mk k s a cap kids lo hi hk hlo hhi hs _ ih => exact .mk k s a cap kids lo hi hk hlo hhi (hs.kept hb) ih
theorem Lies.open {w : World} {k : Int} {s : BSet} {a : Option Addr} {cap : Nat} {kids : List Vt} {lo hi : Int} (h : Lies w (.mk k s a cap kids lo hi)) :
    I64 k ∧ I64 lo ∧ I64 hi ∧ SliceR w (.slice a kids.length cap) 8 Vt.cells kids ∧ ∀ i (h : i < kids.length), Lies w kids[i] := by
  cases h with
  | mk _ _ _ _ _ _ _ hk hlo hhi hs hkids => exact ⟨hk, hlo, hhi, hs, hkids⟩
theorem Lies.drew {w : World} {V : Vt} (h : Lies w V) : Lies w.drew V := by
  induction h with
  | mk k s a cap kids lo hi hk hlo hhi hs _ ih => exact .mk k s a cap kids lo hi hk hlo hhi hs ih
/-- Induction on trees as they lie. -/
theorem Vt.ind {M : Vt → Prop} (h : ∀ k s a cap kids lo hi, (∀ i (h : i < kids.length), M kids[i]) → M (.mk k s a cap kids lo hi)) : ∀ V, M V
  | .mk k s a cap kids lo hi => h k s a cap kids lo hi (fun i hi => Vt.ind h kids[i])
termination_by V => SizeOf.sizeOf V
decreasing_by
  have := List.sizeOf_lt_of_mem (List.getElem_mem hi)
  simp only [Vt.mk.sizeOf_spec]
  omega
theorem Tr.ind {M : Tr → Prop} (h : ∀ k s kids lo hi, (∀ i (h : i < kids.length), M kids[i]) → M (.mk k s kids lo hi)) : ∀ V, M V
  | .mk k s kids lo hi => h k s kids lo hi (fun i hi => Tr.ind h kids[i])
termination_by V => SizeOf.sizeOf V
decreasing_by
  have := List.sizeOf_lt_of_mem (List.getElem_mem hi)
  simp only [Tr.mk.sizeOf_spec]
  omega
theorem Vt.tr_mk (k : Int) (s : BSet) (a : Option Addr) (cap : Nat) (kids : List Vt) (lo hi : Int) : (Vt.mk k s a cap kids lo hi).tr = .mk k s (kids.map Vt.tr) lo hi := by rw [Vt.tr]

/-! ### Are two trees the same? -/
mutual
def eqT : Tr → Tr → Bool
  | .mk k s l lo hi, .mk k' s' l' lo' hi' => decide (k = k') && decide (s = s') && decide (lo = lo') && decide (hi = hi') && eqTs l l'
def eqTs : List Tr → List Tr → Bool
  | [], [] => true
  | a :: l, b :: m => eqT a b && eqTs l m
  | [], _ :: _ => false
  | _ :: _, [] => false
end
theorem eqT_iff : ∀ A B : Tr, eqT A B = true ↔ A = B := by
  refine Tr.ind fun k s l lo hi ih => ?_
  rintro ⟨k', s', l', lo', hi'⟩
  have key : ∀ m : List Tr, eqTs l m = true ↔ l = m := by
    clear k s lo hi
    induction l with
    | nil => intro m; cases m <;> simp [eqTs]
    | cons a l ihl =>
      intro m
      cases m with
      | nil => simp [eqTs]
      | cons b m =>
        have h0 := ih 0 (by simp) b
        have h1 := ihl (fun i hi => ih (i + 1) (Nat.succ_lt_succ hi)) m
        simp only [List.getElem_cons_zero] at h0
        simp [eqTs, h0, h1]
  simp only [eqT, key, Bool.and_eq_true, decide_eq_true_eq, Tr.mk.injEq]
  constructor
  · rintro ⟨⟨⟨⟨h1, h2⟩, h3⟩, h4⟩, h5⟩; exact ⟨h1, h2, h5, h3, h4⟩
  · rintro ⟨h1, h2, h5, h3, h4⟩; exact ⟨⟨⟨⟨h1, h2⟩, h3⟩, h4⟩, h5⟩
theorem eqT_refl (A : Tr) : eqT A A = true := (eqT_iff A A).2 rfl
theorem eqT_comm (A B : Tr) : eqT A B = eqT B A := by
  rw [Bool.eq_iff_iff, eqT_iff, eqT_iff]; exact eq_comm
theorem eqT_head {k k' : Int} {s s' : BSet} {l l' : List Tr} {lo lo' hi hi' : Int} (h : ¬ (k = k' ∧ s = s' ∧ lo = lo' ∧ hi = hi' ∧ l.length = l'.length)) : eqT (.mk k s l lo hi) (.mk k' s' l' lo' hi') = false := by
  rw [← Bool.not_eq_true, eqT_iff]
  rintro ⟨⟩
  exact h ⟨rfl, rfl, rfl, rfl, rfl⟩
theorem eqT_kid {k k' : Int} {s s' : BSet} {l l' : List Tr} {lo lo' hi hi' : Int} (i : Nat) (h1 : i < l.length) (h2 : i < l'.length) (h : eqT l[i] l'[i] = false) : eqT (.mk k s l lo hi) (.mk k' s' l' lo' hi') = false := by
  rw [← Bool.not_eq_true, eqT_iff]
  rintro ⟨⟩
  rw [eqT_refl] at h; cases h
theorem eqT_all {k : Int} {s : BSet} {l l' : List Tr} {lo hi : Int} (hl : l.length = l'.length) (h : ∀ i (h1 : i < l.length) (h2 : i < l'.length), eqT l[i] l'[i] = true) : eqT (.mk k s l lo hi) (.mk k s l' lo hi) = true := by
  rw [eqT_iff]
  have : l = l' := List.ext_getElem hl fun i h1 h2 => (eqT_iff _ _).1 (h i h1 h2)
  rw [this]
/-- A node's eight cells. -/
theorem cells8 {w : World} {b o : Nat} {k : Int} {s : BSet} {a : Option Addr} {n cap : Nat} {lo hi : Int} (h : ∀ j u, (nodeC k s a n cap lo hi)[j]? = some u → w.cell? ⟨b, o + j, none⟩ = some u) :
    w.cell? ⟨b, o, none⟩ = some (.int .i64 k) ∧ w.cell? ⟨b, o + 1, none⟩ = some (.int .u64 (word s 0 : Nat)) ∧ w.cell? ⟨b, o + 2, none⟩ = some (.int .u64 (word s 1 : Nat)) ∧
    w.cell? ⟨b, o + 3, none⟩ = some (.int .u64 (word s 2 : Nat)) ∧ w.cell? ⟨b, o + 4, none⟩ = some (.int .u64 (word s 3 : Nat)) ∧ w.cell? ⟨b, o + 5, none⟩ = some (.slice a n cap) ∧
    w.cell? ⟨b, o + 6, none⟩ = some (.int .i64 lo) ∧ w.cell? ⟨b, o + 7, none⟩ = some (.int .i64 hi) :=
  ⟨h 0 _ rfl, h 1 _ rfl, h 2 _ rfl, h 3 _ rfl, h 4 _ rfl, h 5 _ rfl, h 6 _ rfl, h 7 _ rfl⟩
theorem Box.node {w : World} {b E : Nat} {k : Int} {s : BSet} {a : Option Addr} {n cap : Nat} {lo hi : Int} (h : Box w b (nodeC k s a n cap lo hi).toArray E) :
    w.cell? ⟨b, 0, none⟩ = some (.int .i64 k) ∧ w.cell? ⟨b, 1, none⟩ = some (.int .u64 (word s 0 : Nat)) ∧ w.cell? ⟨b, 2, none⟩ = some (.int .u64 (word s 1 : Nat)) ∧
    w.cell? ⟨b, 3, none⟩ = some (.int .u64 (word s 2 : Nat)) ∧ w.cell? ⟨b, 4, none⟩ = some (.int .u64 (word s 3 : Nat)) ∧ w.cell? ⟨b, 5, none⟩ = some (.slice a n cap) ∧
    w.cell? ⟨b, 6, none⟩ = some (.int .i64 lo) ∧ w.cell? ⟨b, 7, none⟩ = some (.int .i64 hi) :=
  ⟨h.cell 0, h.cell 1, h.cell 2, h.cell 3, h.cell 4, h.cell 5, h.cell 6, h.cell 7⟩
/-- A kid, opened: its cells lie there, in whatever world has kept what lay. -/
theorem SliceR.kids {w : World} {a : Option Addr} {cap : Nat} {kids : List Vt} (h : SliceR w (.slice a kids.length cap) 8 Vt.cells kids) :
    ∃ b o, kids.length ≤ cap ∧ cap ≤ 9223372036854775807 ∧ (∀ i, i < kids.length → a = some ⟨b, o, none⟩) ∧ (0 < kids.length → b < w.heap.size) ∧
      ∀ i (h : i < kids.length) (w' : World), Below w.heap.size w w' → ∀ j u, (kids[i].cells)[j]? = some u → w'.cell? ⟨b, o + i * 8 + j, none⟩ = some u := by
  obtain ⟨b, o, _, h2, h3, h4, h5⟩ := h.open
  refine ⟨b, o, h2, h3, h4, fun h0 => ?_, fun i hi w' hB j u hu => ?_⟩
  · have : 0 < (kids[0].cells).length := by rw [Vt.cells_len]; omega
    exact World.block_lt_of_cell? w _ (h5 0 h0 0 _ (List.getElem?_eq_getElem this))
  · have := h5 i hi j u hu
    rw [hB.cell (World.block_lt_of_cell? w _ this)]; exact this

/-! ### What comes in -/
structure NodeTys (P : Program) (tN tK tS tU tL tI : TypeId) (fs : Array Field) : Prop where
  node : P.underlying tN = some (.struct fs)
  flds : fs.map (fun f => (f.type, f.offset)) = #[(tK, 0), (tS, 1), (tL, 5), (tI, 6), (tI, 7)]
  kind : P.underlying tK = some (.int .i64)
  set : P.underlying tS = some (.array 4 tU)
  word : P.underlying tU = some (.int .u64)
  list : P.underlying tL = some (.slice tN)
  int : P.underlying tI = some (.int .i64)
  cN : P.cellsOf tN = 8
  cK : P.cellsOf tK = 1
  cS : P.cellsOf tS = 4
  cU : P.cellsOf tU = 1
  cL : P.cellsOf tL = 1
  cI : P.cellsOf tI = 1
theorem five_of {α : Type} {l : Array α} (h : l.size = 5) : ∃ a b c d e, l = #[a, b, c, d, e] := by
  obtain ⟨l⟩ := l
  match l, h with
  | [a, b, c, d, e], _ => exact ⟨a, b, c, d, e, rfl⟩
theorem wf_i64 {z : Int} (h : (Lit.int .i64 z).wf = true) : I64 z := by
  simpa [Lit.wf, IntKind.min, IntKind.max, IntKind.bits, IntKind.signed] using h
section
variable {H : Type} {enc : TypeId × Value → H} {P : Program} {w : World} {base : Nat} {spare : Nat → Bool} {held : Bool} {tN tK tS tU tL tI : TypeId} {fs : Array Field}
theorem trod_kids (N : NodeTys P tN tK tS tU tL tI fs) (fuel : Nat) (ih : ∀ m, m < fuel → ∀ cs x, DataW.trod enc P w base spare held m tN cs = some x → ∃ V : Vt, cs = V.cells ∧ Lies w V)
    {c : Value} {x : DataW H × List MemPlace} (h : DataW.trod enc P w base spare held fuel tL [c] = some x) :
    ∃ (a : Option Addr) (cap : Nat) (kids : List Vt), c = .slice a kids.length cap ∧ SliceR w (.slice a kids.length cap) 8 Vt.cells kids ∧ ∀ i (h : i < kids.length), Lies w kids[i] := by
  rcases DataW.trod_slice N.list h with ⟨h0, _⟩ | ⟨a', len, cap, elems, rest, n, hf, h0, _, _, hle, hm, _, hel, _⟩
  · simp at h0
    exact ⟨none, 0, [], h0, ⟨none, 0, 0, 0, rfl, Nat.le_refl _, by simp [maxLen], .inr ⟨rfl, fun _ => rfl⟩, fun i hi => by simp at hi⟩, fun i hi => by simp at hi⟩
  · simp at h0
    subst h0
    have key : ∀ i, i < len → ∃ V : Vt, (∀ j u, V.cells[j]? = some u → w.cell? ((a'.add (i * 8)).add j) = some u) ∧ Lies w V := fun i hi => by
      have h1 := hel i hi
      rw [N.cN, List.getElem?_eq_getElem (show i < elems.length by omega)] at h1
      obtain ⟨cs', h2, h3⟩ := Option.bind_eq_some_iff.1 h1
      obtain ⟨V, rfl, hV⟩ := ih n (by omega) _ _ h3
      obtain ⟨_, _, h4⟩ := World.cells?_some h2
      exact ⟨V, fun j u hu => by rw [h4 j (by have := (List.getElem?_eq_some_iff.1 hu).1; rwa [Vt.cells_len] at this)]; exact hu, hV⟩
    have key2 : ∃ f : Nat → Vt, ∀ i, i < len → (∀ j u, (f i).cells[j]? = some u → w.cell? ((a'.add (i * 8)).add j) = some u) ∧ Lies w (f i) :=
      ⟨fun i => if h : i < len then (key i h).choose else .mk 0 0 none 0 [] 0 0, fun i hi => by simp only [hi, dif_pos]; exact (key i hi).choose_spec⟩
    obtain ⟨f, hf2⟩ := key2
    have hspot : 0 < len → a'.spot = none := fun h0 => by
      have : 0 < ((f 0).cells).length := by rw [Vt.cells_len]; omega
      have := World.cell?_spot ((hf2 0 h0).1 0 _ (List.getElem?_eq_getElem this))
      simpa [Addr.add] using this
    obtain ⟨b, o, spot⟩ := a'
    refine ⟨some ⟨b, o, spot⟩, cap, (List.range len).map f, by simp, ⟨some ⟨b, o, spot⟩, b, o, cap, by simp, by simpa using hle, hm, ?_, fun i hi j u hu => ?_⟩, fun i hi => ?_⟩
    · by_cases h0 : len = 0
      · exact .inr ⟨by simp [h0], fun h => by cases h⟩
      · have h1 := hspot (by omega)
        simp only at h1
        exact .inl (by rw [h1])
    · have hi' : i < len := by simpa using hi
      have := (hf2 i hi').1 j u (by simpa using hu)
      rw [add_add] at this
      have hs2 : spot = none := hspot (by omega)
      subst hs2
      rw [Addr.add_mid] at this
      rw [Nat.add_assoc]; exact this
    · have hi' : i < len := by simpa using hi
      simpa using (hf2 i hi').2
theorem trod_node (N : NodeTys P tN tK tS tU tL tI fs) : ∀ (fuel : Nat) (cs : List Value) (x : DataW H × List MemPlace), DataW.trod enc P w base spare held fuel tN cs = some x → ∃ V : Vt, cs = V.cells ∧ Lies w V := by
  intro fuel
  induction fuel using Nat.strongRecOn with
  | _ fuel ih =>
    intro cs x h
    obtain ⟨xs, n, hfu, _, hl, hxl, hf⟩ := DataW.trod_struct N.node h
    rw [N.cN] at hl
    obtain ⟨f0, f1, f2, f3, f4, rfl⟩ := five_of (by have := congrArg Array.size N.flds; simpa using this)
    have fl := N.flds
    simp only [List.map_toArray, List.map_cons, List.map_nil, Array.mk.injEq, List.cons.injEq, Prod.mk.injEq, and_true] at fl
    obtain ⟨⟨t0, o0⟩, ⟨t1, o1⟩, ⟨t2, o2⟩, ⟨t3, o3⟩, ⟨t4, o4⟩⟩ := fl
    match cs, hl with
    | [c0, c1, c2, c3, c4, c5, c6, c7], _ =>
    have e0 := hf 0 f0 rfl; have e1 := hf 1 f1 rfl; have e2 := hf 2 f2 rfl; have e3 := hf 3 f3 rfl; have e4 := hf 4 f4 rfl
    rw [t0, o0, N.cK] at e0; rw [t1, o1, N.cS] at e1; rw [t2, o2, N.cL] at e2; rw [t3, o3, N.cI] at e3; rw [t4, o4, N.cI] at e4
    simp only [List.size_toArray, List.length_cons, List.length_nil] at hxl
    rw [List.getElem?_eq_getElem (by omega)] at e0 e1 e2 e3 e4
    simp only [List.drop_zero, List.take_succ_cons, List.take_zero, List.drop_succ_cons] at e0 e1 e2 e3 e4
    obtain ⟨k, k1, _, k2⟩ := DataW.trod_int N.kind e0
    obtain ⟨s, hs⟩ := trod_set N.set N.word N.cU N.cS e1
    obtain ⟨a, cap, kids, k3, k4, k5⟩ := trod_kids N n (fun m hm => ih m (by omega)) e2
    obtain ⟨lo, l1, _, l2⟩ := DataW.trod_int N.int e3
    obtain ⟨hi, h1, _, h2⟩ := DataW.trod_int N.int e4
    simp only [List.cons.injEq, and_true] at k1 l1 h1
    simp only [List.cons.injEq, and_true] at hs
    obtain ⟨s0, s1, s2, s3⟩ := hs
    subst k1 l1 h1 s0 s1 s2 s3 k3
    exact ⟨.mk k s a cap kids lo hi, rfl, .mk k s a cap kids lo hi (wf_i64 k2) (wf_i64 l2) (wf_i64 h2) k4 k5⟩
theorem trod_nodes (N : NodeTys P tN tK tS tU tL tI fs) (fuel : Nat) {a : Option Addr} {len cap : Nat} {x : DataW H × List MemPlace} (h : DataW.trod enc P w base spare held fuel tL [.slice a len cap] = some x) :
    ∃ l : List Vt, len = l.length ∧ SliceR w (.slice a l.length cap) 8 Vt.cells l ∧ ∀ i (h : i < l.length), Lies w l[i] := by
  obtain ⟨a', cap', kids, h1, h2, h3⟩ := trod_kids N fuel (fun m _ => trod_node N m) h
  obtain ⟨rfl, rfl, rfl⟩ := Value.slice.inj h1
  exact ⟨kids, rfl, h2, h3⟩
end
end Go.Proofs.Ytinlfbacfmmfpaa
