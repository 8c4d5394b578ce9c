/- What the bound on the bulk of what comes in gives: trees have few nodes, lists are short. -/
import Derived.Test.YtinlfbacfmmfpaaRows
import Derived.Test.YtinlfbacfmmfpaaTreeOwn
import Derived.Test.YtinlfbacfmmfpaaOpen
import Derived.JoinedCond
namespace Go.Proofs.Ytinlfbacfmmfpaa
open Go.ChangeShapes Go.WideShapes Go.ChangeAt Go.RowKit Go.Deep

section
variable {H : Type} {enc : TypeId × Value → H} {P : Program} {w : World} {base : Nat} {spare : Nat → Bool} {held : Bool} {tN tK tS tU tL tI : TypeId} {fs : Array Field}
theorem bulk_pos (d : DataW H) : 1 ≤ Rows.uptoBulk d := by
  cases d with
  | lit l => cases l <;> simp [Rows.uptoBulk]
  | nil => simp [Rows.uptoBulk]
  | ptr d => simp [Rows.uptoBulk]
  | slice elems spare => simp [Rows.uptoBulk]
  | agg parts => simp [Rows.uptoBulk]
  | iface t d => simp [Rows.uptoBulk]
  | map entries => simp [Rows.uptoBulk]
  | held h => simp [Rows.uptoBulk]
theorem bulk_len (l : List (DataW H)) : l.length ≤ Rows.uptoBulkAll l := by
  induction l with
  | nil => simp [Rows.uptoBulkAll]
  | cons x r ih => have := bulk_pos x; simp only [Rows.uptoBulkAll, List.length_cons]; omega
theorem bulk_get (l : List (DataW H)) (i : Nat) (h : i < l.length) : Rows.uptoBulk l[i] ≤ Rows.uptoBulkAll l := by
  induction l generalizing i with
  | nil => simp at h
  | cons x r ih =>
    cases i with
    | zero => simp only [List.getElem_cons_zero, Rows.uptoBulkAll]; omega
    | succ i => have := ih i (by simpa using h); simp only [List.getElem_cons_succ, Rows.uptoBulkAll]; omega
theorem bulk_trees : ∀ (l : List Vt) (ds : List (DataW H)), l.length = ds.length → (∀ i (h : i < l.length) (h' : i < ds.length), sizeT l[i].tr ≤ Rows.uptoBulk ds[i]) → sizeTs (l.map Vt.tr) ≤ Rows.uptoBulkAll ds
  | [], [], _, _ => by simp [sizeTs]
  | [], _ :: _, h, _ => by simp at h
  | _ :: _, [], h, _ => by simp at h
  | a :: l, d :: ds, h, hh => by
    have h0 := hh 0 (by simp) (by simp)
    have h1 := bulk_trees l ds (by simpa using h) fun i hi hi' => hh (i + 1) (Nat.succ_lt_succ hi) (Nat.succ_lt_succ hi')
    simp only [List.getElem_cons_zero] at h0
    simp only [List.map_cons, sizeTs, Rows.uptoBulkAll]
    omega
theorem trod_kidsB (N : NodeTys P tN tK tS tU tL tI fs) (fuel : Nat) (ih : ∀ m, m < fuel → ∀ cs x, DataW.trod enc P w base spare held m tN cs = some x → ∃ V : Vt, cs = V.cells ∧ Lies w V ∧ sizeT V.tr ≤ Rows.uptoBulk x.1)
    {c : Value} {x : DataW H × List MemPlace} (h : DataW.trod enc P w base spare held fuel tL [c] = some x) :
    ∃ (a : Option Addr) (cap : Nat) (kids : List Vt), c = .slice a kids.length cap ∧ SliceR w (.slice a kids.length cap) 8 Vt.cells kids ∧ (∀ i (h : i < kids.length), Lies w kids[i]) ∧ sizeTs (kids.map Vt.tr) ≤ Rows.uptoBulk x.1 := by
  rcases DataW.trod_slice N.list h with ⟨h0, hx⟩ | ⟨a', len, cap, elems, rest, n, hf, h0, hx, _, hle, hm, hel0, hel, _⟩
  · simp at h0
    exact ⟨none, 0, [], h0, ⟨none, 0, 0, 0, rfl, Nat.le_refl _, by simp [maxLen], .inr ⟨rfl, fun _ => rfl⟩, fun i hi => by simp at hi⟩, fun i hi => by simp at hi, by simp [sizeTs]⟩
  · simp at h0
    subst h0
    have key : ∀ i (hi : i < len), ∃ V : Vt, (∀ j u, V.cells[j]? = some u → w.cell? ((a'.add (i * 8)).add j) = some u) ∧ Lies w V ∧ sizeT V.tr ≤ Rows.uptoBulk (elems[i]'(by omega)).1 := fun i hi => by
      have h1 := hel i hi
      rw [N.cN, List.getElem?_eq_getElem (show i < elems.length by omega)] at h1
      obtain ⟨cs', h2, h3⟩ := Option.bind_eq_some_iff.1 h1
      obtain ⟨V, rfl, hV, hb⟩ := ih n (by omega) _ _ h3
      obtain ⟨_, _, h4⟩ := World.cells?_some h2
      exact ⟨V, fun j u hu => by rw [h4 j (by have := (List.getElem?_eq_some_iff.1 hu).1; rwa [Vt.cells_len] at this)]; exact hu, hV, hb⟩
    have key2 : ∃ f : Nat → Vt, ∀ i (hi : i < len), (∀ j u, (f i).cells[j]? = some u → w.cell? ((a'.add (i * 8)).add j) = some u) ∧ Lies w (f i) ∧ sizeT (f i).tr ≤ Rows.uptoBulk (elems[i]'(by omega)).1 :=
      ⟨fun i => if h : i < len then (key i h).choose else .mk 0 0 none 0 [] 0 0, fun i hi => by simp only [hi, dif_pos]; exact (key i hi).choose_spec⟩
    obtain ⟨f, hf2⟩ := key2
    have hspot : 0 < len → a'.spot = none := fun h0 => by
      have : 0 < ((f 0).cells).length := by rw [Vt.cells_len]; omega
      have := World.cell?_spot ((hf2 0 h0).1 0 _ (List.getElem?_eq_getElem this))
      simpa [Addr.add] using this
    obtain ⟨b, o, spot⟩ := a'
    refine ⟨some ⟨b, o, spot⟩, cap, (List.range len).map f, by simp, ⟨some ⟨b, o, spot⟩, b, o, cap, by simp, by simpa using hle, hm, ?_, fun i hi j u hu => ?_⟩, fun i hi => ?_, ?_⟩
    · by_cases h0 : len = 0
      · exact .inr ⟨by simp [h0], fun h => by cases h⟩
      · have h1 := hspot (by omega)
        simp only at h1
        exact .inl (by rw [h1])
    · have hi' : i < len := by simpa using hi
      have := (hf2 i hi').1 j u (by simpa using hu)
      rw [add_add] at this
      have hs2 : spot = none := hspot (by omega)
      subst hs2
      rw [Addr.add_mid] at this
      rw [Nat.add_assoc]; exact this
    · have hi' : i < len := by simpa using hi
      simpa using (hf2 i hi').2.1
    · have := bulk_trees ((List.range len).map f) (elems.map (·.1)) (by simpa using hel0.symm) fun i hi hi' => by
        have hi2 : i < len := by simpa using hi
        simpa using (hf2 i hi2).2.2
      rw [hx]
      simp only [Rows.uptoBulk]
      omega
theorem trod_nodeB (N : NodeTys P tN tK tS tU tL tI fs) : ∀ (fuel : Nat) (cs : List Value) (x : DataW H × List MemPlace), DataW.trod enc P w base spare held fuel tN cs = some x → ∃ V : Vt, cs = V.cells ∧ Lies w V ∧ sizeT V.tr ≤ Rows.uptoBulk x.1 := by
  intro fuel
  induction fuel using Nat.strongRecOn with
  | _ fuel ih =>
    intro cs x h
    obtain ⟨xs, n, hfu, hx, hl, hxl, hf⟩ := DataW.trod_struct N.node h
    rw [N.cN] at hl
    obtain ⟨f0, f1, f2, f3, f4, rfl⟩ := five_of (by have := congrArg Array.size N.flds; simpa using this)
    have fl := N.flds
    simp only [List.map_toArray, List.map_cons, List.map_nil, Array.mk.injEq, List.cons.injEq, Prod.mk.injEq, and_true] at fl
    obtain ⟨⟨t0, o0⟩, ⟨t1, o1⟩, ⟨t2, o2⟩, ⟨t3, o3⟩, ⟨t4, o4⟩⟩ := fl
    match cs, hl with
    | [c0, c1, c2, c3, c4, c5, c6, c7], _ =>
    have e0 := hf 0 f0 rfl; have e1 := hf 1 f1 rfl; have e2 := hf 2 f2 rfl; have e3 := hf 3 f3 rfl; have e4 := hf 4 f4 rfl
    rw [t0, o0, N.cK] at e0; rw [t1, o1, N.cS] at e1; rw [t2, o2, N.cL] at e2; rw [t3, o3, N.cI] at e3; rw [t4, o4, N.cI] at e4
    simp only [List.size_toArray, List.length_cons, List.length_nil] at hxl
    rw [List.getElem?_eq_getElem (by omega)] at e0 e1 e2 e3 e4
    simp only [List.drop_zero, List.take_succ_cons, List.take_zero, List.drop_succ_cons] at e0 e1 e2 e3 e4
    obtain ⟨k, k1, _, k2⟩ := DataW.trod_int N.kind e0
    obtain ⟨s, hs⟩ := trod_set N.set N.word N.cU N.cS e1
    obtain ⟨a, cap, kids, k3, k4, k5, k6⟩ := trod_kidsB N n (fun m hm => ih m (by omega)) e2
    obtain ⟨lo, l1, _, l2⟩ := DataW.trod_int N.int e3
    obtain ⟨hi, h1, _, h2⟩ := DataW.trod_int N.int e4
    simp only [List.cons.injEq, and_true] at k1 l1 h1
    simp only [List.cons.injEq, and_true] at hs
    obtain ⟨s0, s1, s2, s3⟩ := hs
    subst k1 l1 h1 s0 s1 s2 s3 k3
    refine ⟨.mk k s a cap kids lo hi, rfl, .mk k s a cap kids lo hi (wf_i64 k2) (wf_i64 l2) (wf_i64 h2) k4 k5, ?_⟩
    have hb := bulk_get (xs.map (·.1)) 2 (by simp; omega)
    simp only [List.getElem_map] at hb
    rw [Vt.tr_mk, hx]
    simp only [sizeT, Rows.uptoBulk]
    omega
theorem trod_nodesB (N : NodeTys P tN tK tS tU tL tI fs) (fuel : Nat) {a : Option Addr} {len cap : Nat} {x : DataW H × List MemPlace} (h : DataW.trod enc P w base spare held fuel tL [.slice a len cap] = some x) :
    ∃ l : List Vt, len = l.length ∧ SliceR w (.slice a l.length cap) 8 Vt.cells l ∧ (∀ i (h : i < l.length), Lies w l[i]) ∧ sizeTs (l.map Vt.tr) ≤ Rows.uptoBulk x.1 := by
  obtain ⟨a', cap', kids, h1, h2, h3, h4⟩ := trod_kidsB N fuel (fun m _ => trod_nodeB N m) h
  obtain ⟨rfl, rfl, rfl⟩ := Value.slice.inj h1
  exact ⟨kids, rfl, h2, h3, h4⟩
theorem trod_bytesB {ts e : TypeId} {fuel : Nat} {x : DataW H × List MemPlace} (hs : P.underlying ts = some (.slice e)) (he : P.underlying e = some (.int .u8)) (hc : P.cellsOf e = 1)
    {a : Option Addr} {len cap : Nat} (h : DataW.trod enc P w base spare held fuel ts [.slice a len cap] = some x) : ∃ l : List Nat, len = l.length ∧ SliceR w (.slice a l.length cap) 1 encB l ∧ (∀ x ∈ l, x < 256) ∧ l.length ≤ Rows.uptoBulk x.1 := by
  obtain ⟨l, h1, h2, h3⟩ := trod_bytes hs he hc h
  refine ⟨l, h1, h2, h3, ?_⟩
  rw [← h1]
  rcases open_slice1 hs hc h with ⟨h0, _⟩ | ⟨a', len', cap', m, n, V, D, Pl, h0, _, _, _, _, hx, _⟩
  · simp at h0; omega
  · simp at h0
    obtain ⟨rfl, rfl, rfl⟩ := h0
    rw [hx]
    have := bulk_len ((List.range len).map D)
    simp only [List.length_map, List.length_range] at this
    simp only [Rows.uptoBulk]
    omega
end
end Go.Proofs.Ytinlfbacfmmfpaa
