/- Slices of trees that a call itself has made. No program in sight. -/
import Derived.Test.YtinlfbacfmmfpaaTree
import Derived.Test.YtinlfbacfmmfpaaOwn
namespace Go.Proofs.Ytinlfbacfmmfpaa
open Go.RowKit

/-- Every slice of kids of V that is not empty lies in a block of which S holds. -/
inductive On (S : Nat → Prop) : Vt → Prop
  | mk (k : Int) (s : BSet) (a : Option Addr) (cap : Nat) (kids : List Vt) (lo hi : Int) (h : 0 < kids.length → ∀ ad, a = some ad → S ad.block) (hk : ∀ i (h : i < kids.length), On S kids[i]) : On S (.mk k s a cap kids lo hi)
theorem On.mono {S S' : Nat → Prop} {V : Vt} (h : On S V) (hs : ∀ b, S b → S' b) : On S' V := by
  induction h with
  | mk k s a cap kids lo hi h _ ih => exact .mk k s a cap kids lo hi (fun h0 ad ha => hs _ (h h0 ad ha)) ih
theorem On.and {S S' : Nat → Prop} {V : Vt} (h : On S V) (h' : On S' V) : On (fun b => S b ∧ S' b) V := by
  induction h with
  | mk k s a cap kids lo hi h _ ih =>
    cases h' with
    | mk _ _ _ _ _ _ _ h2 k2 => exact .mk k s a cap kids lo hi (fun h0 ad ha => ⟨h h0 ad ha, h2 h0 ad ha⟩) fun i hi => ih i hi (k2 i hi)
theorem SliceR.blk {α : Type} {w : World} {ad : Addr} {n cap size : Nat} {enc : α → List Value} {xs : List α} (h : SliceR w (.slice (some ad) n cap) size enc xs) (h0 : 0 < xs.length) (he : 0 < (enc xs[0]).length) : ad.block < w.heap.size := by
  obtain ⟨b, o, _, _, _, ha, hx⟩ := h.open
  obtain rfl := Option.some.inj (ha 0 h0)
  have := World.block_lt_of_cell? w _ (hx 0 h0 0 _ (List.getElem?_eq_getElem he))
  exact this
theorem Lies.on {w : World} {V : Vt} (h : Lies w V) : On (fun b => b < w.heap.size) V := by
  induction h with
  | mk k s a cap kids lo hi _ _ _ hs _ ih => exact .mk k s a cap kids lo hi (fun h0 ad ha => by subst ha; exact hs.blk h0 (by rw [Vt.cells_len]; decide)) ih
/-- Trees lie on, where their blocks are left alone. -/
theorem SliceR.keptOn {α : Type} {w w' : World} {a : Option Addr} {n cap size : Nat} {enc : α → List Value} {xs : List α} (h : SliceR w (.slice a n cap) size enc xs) (hb : 0 < xs.length → ∀ ad, a = some ad → w'.heap[ad.block]? = w.heap[ad.block]?) : SliceR w' (.slice a n cap) size enc xs := by
  obtain ⟨a', b, o, cap', hv, hl, hc, ha, hx⟩ := h
  obtain ⟨rfl, rfl, rfl⟩ := Value.slice.inj hv
  refine ⟨a, b, o, cap, rfl, hl, hc, ha, fun i hi j u hu => ?_⟩
  rcases ha with rfl | ⟨rfl, _⟩
  · rw [← hx i hi j u hu]
    exact World.cell?_of_block (a := ⟨b, o + i * size + j, none⟩) (hb (by omega) ⟨b, o, none⟩ rfl)
  · simp at hi
theorem Lies.keptOn {w w' : World} {S : Nat → Prop} {V : Vt} (h : Lies w V) (ho : On S V) (hb : ∀ b, S b → w'.heap[b]? = w.heap[b]?) : Lies w' V := by
  induction h with
  | mk k s a cap kids lo hi h1 h2 h3 hs _ ih =>
    cases ho with
    | mk _ _ _ _ _ _ _ g1 g2 => exact .mk k s a cap kids lo hi h1 h2 h3 (hs.keptOn fun h0 ad ha => hb _ (g1 h0 ad ha)) fun i hi => ih i hi (g2 i hi)
theorem enc8 : EncOK Vt.cells 8 := ⟨Vt.cells_len, Vt.cells_one⟩

/-- An append of one element: the block of what comes out is the old one, or a new one. -/
theorem append_blk {α : Type} {P : Program} {w : World} {base E size : Nat} {enc : α → List Value} {v : Value} {xs : List α} {t ty : TypeId} {z : Value} {bytes : Nat} (hE : ElemOK P t E z size bytes) (he : EncOK enc size)
    (hown : Own w base E size enc v xs) (ad : Addr) (c : Nat) (y : α) (hnews : ∀ j u, (enc y)[j]? = some u → w.cell? (ad.add j) = some u)
    (h63 : xs.length + 1 ≤ maxLen) (hbytes : (xs.length + 1) * bytes ≤ 140737488355328) {v' : Value} {w' : World} (hr : (Builtin.append_ #[t, t] ty #[v, .slice (some ad) 1 c]).run P w = .ok v' w') :
    v'.ownBlock = v.ownBlock ∨ v'.ownBlock = some w.heap.size := by
  obtain ⟨i, hi, hz, hsz, hby⟩ := hE.info
  have hl : (enc y).length = 1 * i.size := by rw [he.len, hsz, Nat.one_mul]
  have hsmall : xs.length + 1 ≤ 9223372036854775807 := by simp only [maxLen] at h63; omega
  obtain ⟨hxl, hh⟩ := hown.toRow he
  rcases hh with ⟨rfl, hn⟩ | ⟨g, cap, cur, rfl, hbg, hg, hnc, hcm, hcs, htake⟩
  · have := run_append_nil (P := P) w t ty E i z hE.slice hi hz ad 1 c (enc y) hl hnews (by omega) (by omega) (by rw [hby]; rw [hn] at hbytes; omega)
    rw [this] at hr
    obtain ⟨rfl, rfl⟩ := Result.ok.inj hr
    exact .inr rfl
  · by_cases hroom : xs.length + 1 ≤ cap
    · have hfit : xs.length * i.size + (enc y).length ≤ cur.size := by rw [hl, hcs, hsz, ← Nat.add_mul]; exact Nat.mul_le_mul_right _ hroom
      have := run_append_room (P := P) w t ty E i hE.slice hi g xs.length cap cur hg ad 1 c (enc y) hl hnews (he.one y) hroom hfit
      rw [this] at hr
      obtain ⟨rfl, rfl⟩ := Result.ok.inj hr
      exact .inl rfl
    · have holds : ∀ j u, (xs.flatMap enc)[j]? = some u → w.cell? ((⟨g, 0, none⟩ : Addr).add j) = some u := (hown.toRow he).cells (g := g) rfl
      have := run_append_grow (P := P) w t ty E i z hE.slice hi hz ⟨g, 0, none⟩ xs.length cap (xs.flatMap enc) (by rw [flatMap_length he.len, hsz]) holds ad 1 c (enc y) hl hnews (by omega) (by omega) (growslice_fits (by omega) (by rw [hby]; exact hbytes))
      rw [this] at hr
      obtain ⟨rfl, rfl⟩ := Result.ok.inj hr
      exact .inr rfl
theorem wpList_append1b {α : Type} {w : World} {base E size : Nat} {enc : α → List Value} {v : Value} {xs : List α} {P : Program} {ops : Array Oper} {rest : List Oper} {o : Oper} {a : Act} {Q : Exit → Act → World → Prop} (hgd : o.guard = none) (s x : Operand) (t : TypeId)
    (ho : o.op = .call { callee := .builtin .append, args := #[s, x], argTypes := #[t, t] }) {z : Value} {bytes : Nat} (hE : ElemOK P t E z size bytes) (he : EncOK enc size)
    (hs : a.eval s = v) (hown : Own w base E size enc v xs) (ad : Addr) (c : Nat) (y : α) (hx : a.eval x = .slice (some ad) 1 c) (hnews : ∀ j u, (enc y)[j]? = some u → w.cell? (ad.add j) = some u)
    (h63 : xs.length + 1 ≤ maxLen) (hbytes : (xs.length + 1) * bytes ≤ 140737488355328) (hbase : base ≤ w.heap.size)
    (h : ∀ a' cap' w', Own w' base E size enc (.slice a' (xs.length + 1) cap') (xs ++ [y]) → w.grownBy w' v.ownBlock → ((Value.slice a' (xs.length + 1) cap').ownBlock = v.ownBlock ∨ (Value.slice a' (xs.length + 1) cap').ownBlock = some w.heap.size) → wpList P ops Q rest (a.put o.dst (.slice a' (xs.length + 1) cap')) w') : wpList P ops Q (o :: rest) a w := by
  refine wpList_plain hgd fun _ hK => ?_
  obtain ⟨i, hi, hz, hsz, hby⟩ := hE.info
  obtain ⟨v', w', hr, h2, h3, _⟩ := run_append_own (P := P) w base t o.type E i z size bytes hE.slice hi hz hsz hby hE.zsize hE.pos v xs.length (xs.flatMap enc) (hown.toRow he) ad 1 c (enc y) (by rw [he.len, Nat.one_mul]) hnews (he.one y) h63 hbytes hbase
  have hb := append_blk hE he hown ad c y hnews h63 hbytes hr
  have hr' : Own w' base E size enc v' (xs ++ [y]) := by
    refine Own.ofRow ?_ he
    rw [List.length_append, List.flatMap_append]
    simpa using h2
  obtain ⟨a', cap', rfl⟩ := hr'.form
  have e : (xs ++ [y]).length = xs.length + 1 := by simp
  rw [e] at hr' hb hr
  unfold Oper.wp execOp
  simp only [ho, resolve, invoke, builtin, Sem.run_bind, Sem.run_pure, Result.andThen_ok, List.map_toArray, List.map_cons, List.map_nil, hs, hx, hr]
  exact hK _ _ (h a' cap' w' hr' h3 hb)

/-- A slice of trees of the call's own. -/
def OwnT (w : World) (base E : Nat) (v : Value) (vs : List Vt) : Prop :=
  Own w base E 8 Vt.cells v vs ∧ (∀ i (h : i < vs.length), Lies w vs[i]) ∧ ∀ i (h : i < vs.length), On (fun b => v.ownBlock ≠ some b) vs[i]
theorem OwnT.kept {w w' : World} {base E : Nat} {v : Value} {vs : List Vt} (h : OwnT w base E v vs) (hb : Below w.heap.size w w') : OwnT w' base E v vs :=
  ⟨h.1.kept hb, fun i hi => (h.2.1 i hi).kept hb, h.2.2⟩
theorem OwnT.nil (w : World) (base E : Nat) : OwnT w base E (.slice none 0 0) [] := ⟨Own.nil _ _ _ _ _, fun i h => by simp at h, fun i h => by simp at h⟩
/-- Behind an append of one tree that lies elsewhere. -/
theorem OwnT.appended {w w' : World} {base E : Nat} {v v' : Value} {vs : List Vt} {y : Vt} (h : OwnT w base E v vs) (hy : Lies w y) (hoy : On (fun b => v.ownBlock ≠ some b) y)
    (ho : Own w' base E 8 Vt.cells v' (vs ++ [y])) (hg : w.grownBy w' v.ownBlock) (hb : v'.ownBlock = v.ownBlock ∨ v'.ownBlock = some w.heap.size) : OwnT w' base E v' (vs ++ [y]) := by
  have key : ∀ V : Vt, Lies w V → On (fun b => v.ownBlock ≠ some b) V → Lies w' V ∧ On (fun b => v'.ownBlock ≠ some b) V := fun V h1 h2 => by
    have h3 := h2.and h1.on
    refine ⟨h1.keptOn h3 fun b ⟨hb1, hb2⟩ => hg.block b hb2 (fun e => hb1 e.symm), h3.mono fun b ⟨hb1, hb2⟩ => ?_⟩
    rcases hb with hb | hb
    · rw [hb]; exact hb1
    · rw [hb]; intro e; have := Option.some.inj e; omega
  refine ⟨ho, fun i hi => ?_, fun i hi => ?_⟩
  · by_cases hlt : i < vs.length
    · rw [List.getElem_append_left hlt]; exact (key _ (h.2.1 i hlt) (h.2.2 i hlt)).1
    · have : i = vs.length := by simp at hi; omega
      subst this; simpa using (key y hy hoy).1
  · by_cases hlt : i < vs.length
    · rw [List.getElem_append_left hlt]; exact (key _ (h.2.1 i hlt) (h.2.2 i hlt)).2
    · have : i = vs.length := by simp at hi; omega
      subst this; simpa using (key y hy hoy).2
/-- A block of other elements, or a store into one, leaves a tree of the call's own alone. -/
theorem OwnT.slice {w : World} {base E : Nat} {a : Option Addr} {n cap : Nat} {vs : List Vt} (h : OwnT w base E (.slice a n cap) vs) : SliceR w (.slice a n cap) 8 Vt.cells vs := h.1.slice enc8
/-- A call that returns a tree and keeps what was there; the tree's own slices are new. -/
def RetT (w : World) (A : Tr) (e : Ending) (w' : World) : Prop :=
  ∃ V : Vt, e = .returned (.agg V.cells.toArray) ∧ V.tr = A ∧ Lies w' V ∧ On (fun b => w.heap.size ≤ b) V ∧ Below w.heap.size w w'
/-- .. without the last. -/
def RetL (w : World) (A : Tr) (e : Ending) (w' : World) : Prop :=
  ∃ V : Vt, e = .returned (.agg V.cells.toArray) ∧ V.tr = A ∧ Lies w' V ∧ Below w.heap.size w w'
/-- A call that returns a slice of trees. -/
def RetTs (w : World) (E : Nat) (L : List Tr) (e : Ending) (w' : World) : Prop :=
  ∃ (a : Option Addr) (cap : Nat) (vs : List Vt), e = .returned (.slice a vs.length cap) ∧ vs.map Vt.tr = L ∧ OwnT w' w.heap.size E (.slice a vs.length cap) vs ∧ (∀ i (h : i < vs.length), On (fun b => w.heap.size ≤ b) vs[i]) ∧ Below w.heap.size w w'
theorem RetT.open {w w' : World} {A : Tr} {e : Ending} (h : RetT w A e w') : ∃ (k : Int) (s : BSet) (a : Option Addr) (cap : Nat) (kids : List Vt) (lo hi : Int), e = .returned (.agg (nodeC k s a kids.length cap lo hi).toArray) ∧
    (Vt.mk k s a cap kids lo hi).tr = A ∧ Lies w' (.mk k s a cap kids lo hi) ∧ On (fun b => w.heap.size ≤ b) (.mk k s a cap kids lo hi) ∧ Below w.heap.size w w' := by
  obtain ⟨⟨k, s, a, cap, kids, lo, hi⟩, h1, h2, h3, h4, h5⟩ := h
  exact ⟨k, s, a, cap, kids, lo, hi, h1, h2, h3, h4, h5⟩
theorem RetL.open {w w' : World} {A : Tr} {e : Ending} (h : RetL w A e w') : ∃ (k : Int) (s : BSet) (a : Option Addr) (cap : Nat) (kids : List Vt) (lo hi : Int), e = .returned (.agg (nodeC k s a kids.length cap lo hi).toArray) ∧
    (Vt.mk k s a cap kids lo hi).tr = A ∧ Lies w' (.mk k s a cap kids lo hi) ∧ Below w.heap.size w w' := by
  obtain ⟨⟨k, s, a, cap, kids, lo, hi⟩, h1, h2, h3, h5⟩ := h
  exact ⟨k, s, a, cap, kids, lo, hi, h1, h2, h3, h5⟩
theorem RetT.toL {w w' : World} {A : Tr} {e : Ending} (h : RetT w A e w') : RetL w A e w' := by
  obtain ⟨V, h1, h2, h3, _, h5⟩ := h
  exact ⟨V, h1, h2, h3, h5⟩
/-- What lies at or beyond B lies as it lay. -/
def Above (B : Nat) (w w' : World) : Prop := ∀ b, B ≤ b → w'.heap[b]? = w.heap[b]?
theorem Above.refl (B : Nat) (w : World) : Above B w w := fun _ _ => rfl
theorem Above.set {B : Nat} {w w' : World} (h : Above B w w') {a : Addr} (ha : a.block < B) (v : Value) : Above B w (w'.setCell a v) := fun b hb => (heap_setCell_other w' a b v (by omega)).trans (h b hb)
theorem Above.set8 {B : Nat} {w w' : World} (h : Above B w w') {g : Nat} (hg : g < B) (v0 v1 v2 v3 v4 v5 v6 v7 : Value) :
    Above B w ((((((((w'.setCell ⟨g, 0, none⟩ v0).setCell ⟨g, 1, none⟩ v1).setCell ⟨g, 2, none⟩ v2).setCell ⟨g, 3, none⟩ v3).setCell ⟨g, 4, none⟩ v4).setCell ⟨g, 5, none⟩ v5).setCell ⟨g, 6, none⟩ v6).setCell ⟨g, 7, none⟩ v7) :=
  (((((((h.set hg v0).set hg v1).set hg v2).set hg v3).set hg v4).set hg v5).set hg v6).set hg v7
theorem Lies.above {w w' : World} {B : Nat} {V : Vt} (h : Lies w V) (ho : On (fun b => B ≤ b) V) (hb : Above B w w') : Lies w' V := h.keptOn ho hb
theorem Own.above {α : Type} {w w' : World} {base B E size : Nat} {enc : α → List Value} {v : Value} {xs : List α} (h : Own w base E size enc v xs) (hB : B ≤ base) (hb : Above B w w') : Own w' base E size enc v xs := by
  obtain ⟨a, cap, hv, hle, hm, hh⟩ := h
  refine ⟨a, cap, hv, hle, hm, ?_⟩
  rcases hh with hh | ⟨g, cur, ha, hbg, hg, hr⟩
  · exact .inl hh
  · exact .inr ⟨g, cur, ha, hbg, (hb g (by omega)).trans hg, hr⟩
/-- A node over a slice of trees of the call's own. -/
theorem OwnT.node {w w' : World} {base B E : Nat} {a : Option Addr} {cap : Nat} {vs : List Vt} (h : OwnT w base E (.slice a vs.length cap) vs) (hon : ∀ i (h : i < vs.length), On (fun b => B ≤ b) vs[i]) (hB : B ≤ base) (hb : Above B w w')
    (k : Int) (s : BSet) (lo hi : Int) (hk : I64 k) (hlo : I64 lo) (hhi : I64 hi) : Lies w' (.mk k s a cap vs lo hi) ∧ On (fun b => B ≤ b) (.mk k s a cap vs lo hi) := by
  refine ⟨.mk k s a cap vs lo hi hk hlo hhi ((h.1.above hB hb).slice enc8) fun i hi => (h.2.1 i hi).above (hon i hi) hb, .mk k s a cap vs lo hi (fun h0 ad ha => ?_) hon⟩
  obtain ⟨g, hg, hbg, _⟩ := h.1.addr h0
  rw [hg] at ha
  obtain rfl := Option.some.inj ha
  exact Nat.le_trans hB hbg
theorem Box.node8f {w : World} {b E : Nat} {c : Array Value} (h : Box w b c E) : w.frozen? ⟨b, 0, none⟩ = false ∧ w.frozen? ⟨b, 1, none⟩ = false ∧ w.frozen? ⟨b, 2, none⟩ = false ∧ w.frozen? ⟨b, 3, none⟩ = false ∧ w.frozen? ⟨b, 4, none⟩ = false ∧ w.frozen? ⟨b, 5, none⟩ = false ∧ w.frozen? ⟨b, 6, none⟩ = false ∧ w.frozen? ⟨b, 7, none⟩ = false :=
  ⟨h.free 0, h.free 1, h.free 2, h.free 3, h.free 4, h.free 5, h.free 6, h.free 7⟩
theorem eight_of {α : Type} {l : List α} (h : l.length = 8) : ∃ a b c d e f g i, l = [a, b, c, d, e, f, g, i] := by
  rcases l with _ | ⟨a, l⟩
  · simp at h
  rcases l with _ | ⟨b, l⟩
  · simp at h
  rcases l with _ | ⟨c, l⟩
  · simp at h
  rcases l with _ | ⟨d, l⟩
  · simp at h
  rcases l with _ | ⟨e, l⟩
  · simp at h
  rcases l with _ | ⟨f, l⟩
  · simp at h
  rcases l with _ | ⟨g, l⟩
  · simp at h
  rcases l with _ | ⟨i, l⟩
  · simp at h
  rcases l with _ | ⟨x, l⟩
  · exact ⟨a, b, c, d, e, f, g, i, rfl⟩
  · simp at h
/-- Eight cells stored, one by one. -/
theorem Box.store8 {w : World} {b E : Nat} {c : Array Value} (h : Box w b c E) (hc : c.size = 8) (v0 v1 v2 v3 v4 v5 v6 v7 : Value) :
    Box ((((((((w.setCell ⟨b, 0, none⟩ v0).setCell ⟨b, 1, none⟩ v1).setCell ⟨b, 2, none⟩ v2).setCell ⟨b, 3, none⟩ v3).setCell ⟨b, 4, none⟩ v4).setCell ⟨b, 5, none⟩ v5).setCell ⟨b, 6, none⟩ v6).setCell ⟨b, 7, none⟩ v7) b #[v0, v1, v2, v3, v4, v5, v6, v7] E := by
  have := (((((((h.set 0 v0).set 1 v1).set 2 v2).set 3 v3).set 4 v4).set 5 v5).set 6 v6).set 7 v7
  have e : (((((((c.setIfInBounds 0 v0).setIfInBounds 1 v1).setIfInBounds 2 v2).setIfInBounds 3 v3).setIfInBounds 4 v4).setIfInBounds 5 v5).setIfInBounds 6 v6).setIfInBounds 7 v7 = #[v0, v1, v2, v3, v4, v5, v6, v7] := by
    obtain ⟨l⟩ := c
    obtain ⟨_, _, _, _, _, _, _, _, rfl⟩ := eight_of (l := l) hc
    simp only [List.setIfInBounds_toArray, List.set_cons_zero, List.set_cons_succ]
  rw [e] at this; exact this
theorem below_set8 {B : Nat} {w0 w : World} (h : Below B w0 w) {g : Nat} (hg : B ≤ g) (v0 v1 v2 v3 v4 v5 v6 v7 : Value) :
    Below B w0 ((((((((w.setCell ⟨g, 0, none⟩ v0).setCell ⟨g, 1, none⟩ v1).setCell ⟨g, 2, none⟩ v2).setCell ⟨g, 3, none⟩ v3).setCell ⟨g, 4, none⟩ v4).setCell ⟨g, 5, none⟩ v5).setCell ⟨g, 6, none⟩ v6).setCell ⟨g, 7, none⟩ v7) :=
  (((((((h.setCell hg v0).setCell hg v1).setCell hg v2).setCell hg v3).setCell hg v4).setCell hg v5).setCell hg v6).setCell hg v7
/-! ### How many nodes a tree has -/
mutual
def sizeT : Tr → Nat
  | .mk _ _ l _ _ => 1 + sizeTs l
def sizeTs : List Tr → Nat
  | [] => 0
  | a :: l => sizeT a + sizeTs l
end
theorem sizeT_pos (A : Tr) : 1 ≤ sizeT A := by cases A; simp [sizeT]
theorem sizeTs_append (l m : List Tr) : sizeTs (l ++ m) = sizeTs l + sizeTs m := by
  induction l with
  | nil => simp [sizeTs]
  | cons a l ih => simp [sizeTs, ih]; omega
theorem sizeTs_len (l : List Tr) : l.length ≤ sizeTs l := by
  induction l with
  | nil => simp [sizeTs]
  | cons a l ih => have := sizeT_pos a; simp [sizeTs]; omega
theorem sizeTs_get (l : List Tr) (i : Nat) (h : i < l.length) : sizeT l[i] ≤ sizeTs l := by
  induction l generalizing i with
  | nil => simp at h
  | cons a l ih =>
    cases i with
    | zero => simp [sizeTs]
    | succ i => have := ih i (by simpa using h); simp [sizeTs]; omega
end Go.Proofs.Ytinlfbacfmmfpaa
