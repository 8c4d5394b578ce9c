/- A slice that the call itself has made: what it reads as, a store into it, an append to it. No program in sight. -/
import Derived.Test.YtinlfbacfmmfpaaDoorBase
namespace Go.Proofs.YtinlfbacfmmfpaaDoor
open Go.RowKit

/-- What is known of a slice type's elements. -/
structure ElemOK (P : Program) (t E : TypeId) (z : Value) (size bytes : Nat) : Prop where
  slice : P.underlying t = some (.slice E)
  info : ∃ i, P.info? E = some i ∧ i.zero = some z ∧ i.size = size ∧ i.bytes = bytes
  zsize : z.cells.size = size
  pos : 0 < size
/-- How an element is laid: 'size' cells, each of one cell. -/
structure EncOK {α : Type} (enc : α → List Value) (size : Nat) : Prop where
  len : ∀ x, (enc x).length = size
  one : ∀ x, ∀ u ∈ enc x, u.oneCell' = true

theorem flatMap_get {α : Type} {enc : α → List Value} {size : Nat} (he : ∀ x, (enc x).length = size) : ∀ (xs : List α) (i j : Nat) (h : i < xs.length), j < size → (xs.flatMap enc)[i * size + j]? = (enc xs[i])[j]?
  | [], i, j, h, _ => by simp at h
  | x :: xs, 0, j, _, hj => by
    rw [List.flatMap_cons, Nat.zero_mul, Nat.zero_add, List.getElem?_append_left (by rw [he]; exact hj)]; rfl
  | x :: xs, i + 1, j, h, hj => by
    rw [List.flatMap_cons, Nat.succ_mul, List.getElem?_append_right (by rw [he]; omega), he, show i * size + size + j - size = i * size + j by omega]
    exact flatMap_get he xs i j (by simpa using h) hj
theorem flatMap_length {α : Type} {enc : α → List Value} {size : Nat} (he : ∀ x, (enc x).length = size) (xs : List α) : (xs.flatMap enc).length = xs.length * size := by
  induction xs with
  | nil => simp
  | cons x xs ih => rw [List.flatMap_cons, List.length_append, he, ih, List.length_cons, Nat.succ_mul]; omega

def Own {α : Type} (w : World) (base E size : Nat) (enc : α → List Value) (v : Value) (xs : List α) : Prop :=
  ∃ (a : Option Addr) (cap : Nat), v = .slice a xs.length cap ∧ xs.length ≤ cap ∧ cap ≤ maxLen ∧ ((a = none ∧ cap = 0) ∨
    ∃ g cur, a = some ⟨g, 0, none⟩ ∧ base ≤ g ∧ Box w g cur E ∧ cur.size = cap * size ∧ ∀ i (h : i < xs.length) j, j < size → cur[i * size + j]? = (enc xs[i])[j]?)
section
variable {α : Type} {w : World} {base E size : Nat} {enc : α → List Value} {v : Value} {xs : List α}
theorem Own.form (h : Own w base E size enc v xs) : ∃ a cap, v = .slice a xs.length cap := by obtain ⟨a, cap, hv, _⟩ := h; exact ⟨a, cap, hv⟩
theorem Own.toRow (h : Own w base E size enc v xs) (he : EncOK enc size) : w.ownsRow base E size v xs.length (xs.flatMap enc) := by
  obtain ⟨a, cap, rfl, hle, hm, hh⟩ := h
  refine ⟨flatMap_length he.len xs, ?_⟩
  rcases hh with ⟨rfl, rfl⟩ | ⟨g, cur, rfl, hb, hg, hs, hx⟩
  · have : xs.length = 0 := by omega
    exact .inl ⟨by rw [this], this⟩
  · refine .inr ⟨g, cap, cur, rfl, hb, hg, hle, hm, hs, ?_⟩
    have hsz : xs.length * size ≤ cur.size := by rw [hs]; exact Nat.mul_le_mul_right _ hle
    apply List.ext_getElem?
    intro k
    by_cases hk : k < xs.length * size
    · have hpos : 0 < size := by rcases Nat.eq_zero_or_pos size with h | h; simp [h] at hk; exact h
      have h1 : k / size < xs.length := Nat.div_lt_of_lt_mul (by rw [Nat.mul_comm]; exact hk)
      have h2 : k % size < size := Nat.mod_lt _ hpos
      have h3 : k / size * size + k % size = k := by rw [Nat.mul_comm]; exact Nat.div_add_mod k size
      rw [List.getElem?_take, if_pos hk]
      have := hx (k / size) h1 (k % size) h2
      rw [h3] at this
      have h4 := flatMap_get he.len xs (k / size) (k % size) h1 h2
      rw [h3] at h4
      rw [h4, ← this]; simp
    · rw [List.getElem?_take, if_neg hk, List.getElem?_eq_none]
      rw [flatMap_length he.len]; omega
theorem Own.ofRow (h : w.ownsRow base E size v xs.length (xs.flatMap enc)) (he : EncOK enc size) : Own w base E size enc v xs := by
  obtain ⟨hl, h⟩ := h
  rcases h with ⟨rfl, hn⟩ | ⟨g, cap, cur, rfl, hb, hg, hle, hm, hs, ht⟩
  · exact ⟨none, 0, by rw [hn], by omega, by simp [maxLen], .inl ⟨rfl, rfl⟩⟩
  · refine ⟨_, cap, rfl, hle, hm, .inr ⟨g, cur, rfl, hb, hg, hs, fun i hi j hj => ?_⟩⟩
    rw [← flatMap_get he.len xs i j hi hj, ← ht, List.getElem?_take, if_pos]
    · simp
    · have : (i + 1) * size ≤ xs.length * size := Nat.mul_le_mul_right _ hi
      rw [Nat.succ_mul] at this; omega
theorem Own.nil (w : World) (base E size : Nat) (enc : α → List Value) : Own w base E size enc (.slice none 0 0) [] := ⟨none, 0, rfl, Nat.le_refl _, by simp [maxLen], .inl ⟨rfl, rfl⟩⟩
/-- The empty slice, not nil, over the block that was made last. -/
theorem Own.empty (w : World) (base E size : Nat) (enc : α → List Value) (hb : base ≤ w.heap.size) : Own (w.alloc (.cells #[] E)) base E size enc (.slice (some ⟨w.heap.size, 0, none⟩) 0 0) [] :=
  ⟨_, 0, rfl, Nat.le_refl _, by simp [maxLen], .inr ⟨w.heap.size, #[], rfl, hb, Box.new _ _ _, by simp, fun i h => by simp at h⟩⟩
theorem Own.kept {w' : World} (h : Own w base E size enc v xs) (hb : Below w.heap.size w w') : Own w' base E size enc v xs := by
  obtain ⟨a, cap, hv, hle, hm, hh⟩ := h
  refine ⟨a, cap, hv, hle, hm, ?_⟩
  rcases hh with hh | ⟨g, cur, ha, hbg, hg, hr⟩
  · exact .inl hh
  · exact .inr ⟨g, cur, ha, hbg, hg.kept hb, hr⟩
theorem Own.alloc (h : Own w base E size enc v xs) (o : Obj) : Own (w.alloc o) base E size enc v xs := h.kept ((Below.refl _ w).alloc (Nat.le_refl _) o)
theorem Own.mono {base' : Nat} (h : Own w base E size enc v xs) (hb : base' ≤ base) : Own w base' E size enc v xs := by
  obtain ⟨a, cap, hv, hle, hm, hh⟩ := h
  refine ⟨a, cap, hv, hle, hm, ?_⟩
  rcases hh with hh | ⟨g, cur, ha, hbg, hg, hr⟩
  · exact .inl hh
  · exact .inr ⟨g, cur, ha, Nat.le_trans hb hbg, hg, hr⟩
/-- A store into another block. -/
theorem Own.other (h : Own w base E size enc v xs) (a : Addr) (u : Value) (hne : a.block < base) : Own (w.setCell a u) base E size enc v xs := by
  obtain ⟨a', cap, hv, hle, hm, hh⟩ := h
  refine ⟨a', cap, hv, hle, hm, ?_⟩
  rcases hh with hh | ⟨g, cur, ha, hbg, hg, hr⟩
  · exact .inl hh
  · exact .inr ⟨g, cur, ha, hbg, hg.other a u (by omega), hr⟩
/-- As an argument. -/
theorem Own.slice (h : Own w base E size enc v xs) (he : EncOK enc size) : SliceR w v size enc xs := by
  obtain ⟨a, cap, rfl, hle, hm, hh⟩ := h
  rcases hh with ⟨rfl, rfl⟩ | ⟨g, cur, rfl, hb, hg, hs, hx⟩
  · have : xs.length = 0 := by omega
    exact ⟨none, 0, 0, 0, rfl, hle, hm, .inr ⟨List.eq_nil_of_length_eq_zero this, fun _ => rfl⟩, fun i hi => by omega⟩
  · refine ⟨_, g, 0, cap, rfl, hle, hm, .inl rfl, fun i hi j u hu => ?_⟩
    have hj : j < size := by have := (List.getElem?_eq_some_iff.1 hu).1; rwa [he.len] at this
    rw [hg.cell, Nat.zero_add, hx i hi j hj, hu]
/-- Opened. -/
theorem Own.open {a : Option Addr} {n cap : Nat} (h : Own w base E size enc (.slice a n cap) xs) :
    n = xs.length ∧ xs.length ≤ cap ∧ cap ≤ 9223372036854775807 ∧ ∃ g cur, (∀ i, i < xs.length → a = some ⟨g, 0, none⟩) ∧ (0 < xs.length → base ≤ g ∧ Box w g cur E ∧ cur.size = cap * size ∧ ∀ i (h : i < xs.length) j, j < size → cur[i * size + j]? = (enc xs[i])[j]?) := by
  obtain ⟨a', cap', hv, hle, hm, hh⟩ := h
  obtain ⟨rfl, rfl, rfl⟩ := Value.slice.inj hv
  refine ⟨rfl, hle, hm, ?_⟩
  rcases hh with ⟨_, rfl⟩ | ⟨g, cur, ha, hb, hg, hs, hx⟩
  · exact ⟨0, #[], fun i hi => by omega, fun h => by omega⟩
  · exact ⟨g, cur, fun _ _ => ha, fun _ => ⟨hb, hg, hs, hx⟩⟩
/-- One element more, where its cells lie in some other block. -/
theorem wpList_append1 {P : Program} {ops : Array Oper} {rest : List Oper} {o : Oper} {a : Act} {Q : Exit → Act → World → Prop} (hgd : o.guard = none) (s x : Operand) (t : TypeId)
    (ho : o.op = .call { callee := .builtin .append, args := #[s, x], argTypes := #[t, t] }) {z : Value} {bytes : Nat} (hE : ElemOK P t E z size bytes) (he : EncOK enc size)
    (hs : a.eval s = v) (hown : Own w base E size enc v xs) (ad : Addr) (c : Nat) (y : α) (hx : a.eval x = .slice (some ad) 1 c) (hnews : ∀ j u, (enc y)[j]? = some u → w.cell? (ad.add j) = some u)
    (h63 : xs.length + 1 ≤ maxLen) (hbytes : (xs.length + 1) * bytes ≤ 140737488355328) (hbase : base ≤ w.heap.size)
    (h : ∀ a' cap' w', Own w' base E size enc (.slice a' (xs.length + 1) cap') (xs ++ [y]) → w.grownBy w' v.ownBlock → wpList P ops Q rest (a.put o.dst (.slice a' (xs.length + 1) cap')) w') : wpList P ops Q (o :: rest) a w := by
  obtain ⟨i, hi, hz, hsz, hby⟩ := hE.info
  refine wpList_append_own w hgd s x t ho base E i z size bytes hE.slice hi hz hsz hby hE.zsize hE.pos v xs.length (xs.flatMap enc) hs (hown.toRow he) ad 1 c (enc y) hx (by rw [he.len, Nat.one_mul]) hnews (he.one y) h63 hbytes hbase ?_
  intro v' w' hr hg _
  have hr' : Own w' base E size enc v' (xs ++ [y]) := by
    refine Own.ofRow ?_ he
    rw [List.length_append, List.flatMap_append]
    simpa using hr
  obtain ⟨a', cap', rfl⟩ := hr'.form
  have e : (xs ++ [y]).length = xs.length + 1 := by simp
  rw [e] at hr' ⊢
  exact h a' cap' w' hr' hg
/-- Some elements more. -/
theorem wpList_appendN {P : Program} {ops : Array Oper} {rest : List Oper} {o : Oper} {a : Act} {Q : Exit → Act → World → Prop} (hgd : o.guard = none) (s x : Operand) (t : TypeId)
    (ho : o.op = .call { callee := .builtin .append, args := #[s, x], argTypes := #[t, t] }) {z : Value} {bytes : Nat} (hE : ElemOK P t E z size bytes) (he : EncOK enc size)
    (hs : a.eval s = v) (hown : Own w base E size enc v xs) (ad : Addr) (c : Nat) (ys : List α) (hx : a.eval x = .slice (some ad) ys.length c) (hnews : ∀ j u, (ys.flatMap enc)[j]? = some u → w.cell? (ad.add j) = some u)
    (h63 : xs.length + ys.length ≤ maxLen) (hbytes : (xs.length + ys.length) * bytes ≤ 140737488355328) (hbase : base ≤ w.heap.size)
    (h : ∀ a' cap' w', Own w' base E size enc (.slice a' (xs.length + ys.length) cap') (xs ++ ys) → w.grownBy w' v.ownBlock → wpList P ops Q rest (a.put o.dst (.slice a' (xs.length + ys.length) cap')) w') : wpList P ops Q (o :: rest) a w := by
  obtain ⟨i, hi, hz, hsz, hby⟩ := hE.info
  refine wpList_append_own w hgd s x t ho base E i z size bytes hE.slice hi hz hsz hby hE.zsize hE.pos v xs.length (xs.flatMap enc) hs (hown.toRow he) ad ys.length c (ys.flatMap enc) hx (flatMap_length he.len ys) hnews (fun u hu => by
    obtain ⟨y, _, hy⟩ := List.mem_flatMap.1 hu; exact he.one y u hy) h63 hbytes hbase ?_
  intro v' w' hr hg _
  have hr' : Own w' base E size enc v' (xs ++ ys) := by
    refine Own.ofRow ?_ he
    rw [List.length_append, List.flatMap_append]
    exact hr
  obtain ⟨a', cap', rfl⟩ := hr'.form
  have e : (xs ++ ys).length = xs.length + ys.length := by simp
  rw [e] at hr' ⊢
  exact h a' cap' w' hr' hg
end
/-- Some elements more, as one step of a region that draws its order. -/
theorem step_appendN {α : Type} {w : World} {base E size : Nat} {enc : α → List Value} {v : Value} {xs : List α} {P : Program} {ops : Array Oper} {o : Oper} {a : Act} {K : Act → World → Prop} {Q : Exit → Act → World → Prop} {X : Prop} (hgd : o.guard = none) (s x : Operand) (t : TypeId)
    (ho : o.op = .call { callee := .builtin .append, args := #[s, x], argTypes := #[t, t] }) {z : Value} {bytes : Nat} (hE : ElemOK P t E z size bytes) (he : EncOK enc size)
    (hs : a.eval s = v) (hown : Own w base E size enc v xs) (ad : Addr) (c : Nat) (ys : List α) (hx : a.eval x = .slice (some ad) ys.length c) (hnews : ∀ j u, (ys.flatMap enc)[j]? = some u → w.cell? (ad.add j) = some u)
    (h63 : xs.length + ys.length ≤ maxLen) (hbytes : (xs.length + ys.length) * bytes ≤ 140737488355328) (hbase : base ≤ w.heap.size)
    (h : ∀ a' cap' w', Own w' base E size enc (.slice a' (xs.length + ys.length) cap') (xs ++ ys) → w.grownBy w' v.ownBlock → K (a.put o.dst (.slice a' (xs.length + ys.length) cap')) w') :
    if Region.wanted o (yielded ops a.tmps) = true then Oper.wp P o a w K Q else X := by
  have hw : Region.wanted o (yielded ops a.tmps) = true := by simp [Region.wanted, hgd]
  rw [if_pos hw]
  obtain ⟨i, hi, hz, hsz, hby⟩ := hE.info
  refine wp_append_own (w := w) s x t ho base E i z size bytes hE.slice hi hz hsz hby hE.zsize hE.pos v xs.length (xs.flatMap enc) hs (hown.toRow he) ad ys.length c (ys.flatMap enc) hx (flatMap_length he.len ys) hnews (fun u hu => by
    obtain ⟨y, _, hy⟩ := List.mem_flatMap.1 hu; exact he.one y u hy) h63 hbytes hbase ?_
  intro v' w' hr hg _
  have hr' : Own w' base E size enc v' (xs ++ ys) := by
    refine Own.ofRow ?_ he
    rw [List.length_append, List.flatMap_append]
    exact hr
  obtain ⟨a', cap', rfl⟩ := hr'.form
  have e : (xs ++ ys).length = xs.length + ys.length := by simp
  rw [e] at hr' ⊢
  exact h a' cap' w' hr' hg
/-- What an append leaves: below 'base' nothing has turned. -/
theorem below_grown {α : Type} {w0 w w' : World} {base B E size : Nat} {enc : α → List Value} {v : Value} {xs : List α} (hB : Below B w0 w) (hown : Own w base E size enc v xs) (hg : w.grownBy w' v.ownBlock) (hb : B ≤ base) (hs : B ≤ w.heap.size) : Below B w0 w' := by
  refine hB.grown hg hs fun k hk => ?_
  obtain ⟨a, cap, rfl, _, _, hh⟩ := hown
  rcases hh with ⟨rfl, _⟩ | ⟨g, cur, rfl, hbg, _⟩
  · simp [Value.ownBlock] at hk
  · simp [Value.ownBlock] at hk; omega
/-- Another block, behind an append. -/
theorem Box.grown {α : Type} {w w' : World} {b base E E' size : Nat} {enc : α → List Value} {v : Value} {xs : List α} {c : Array Value} (h : Box w b c E') (hown : Own w base E size enc v xs) (hg : w.grownBy w' v.ownBlock) (hb : b < base) : Box w' b c E' := by
  refine (hg.block b h.lt ?_).trans h
  obtain ⟨a, cap, rfl, _, _, hh⟩ := hown
  rcases hh with ⟨rfl, _⟩ | ⟨g, cur, rfl, hbg, _⟩
  · simp [Value.ownBlock]
  · simp [Value.ownBlock]; omega
theorem Box.type_eq {w : World} {b E E' : Nat} {c c' : Array Value} (h : Box w b c E) (h' : Box w b c' E') : E = E' := by
  unfold Box at h h'; rw [h] at h'; simp at h'; exact h'.2
/-- A block of other elements, behind an append. -/
theorem Box.grownT {α : Type} {w w' : World} {b base E E' size : Nat} {enc : α → List Value} {v : Value} {xs : List α} {c : Array Value} (h : Box w b c E') (hown : Own w base E size enc v xs) (hg : w.grownBy w' v.ownBlock) (hne : E ≠ E') : Box w' b c E' := by
  refine (hg.block b h.lt ?_).trans h
  obtain ⟨a, cap, rfl, _, _, hh⟩ := hown
  rcases hh with ⟨rfl, _⟩ | ⟨g, cur, rfl, hbg, hbx, _⟩
  · simp [Value.ownBlock]
  · simp [Value.ownBlock]
    rintro rfl; exact hne (hbx.type_eq h)
/-- A store into a block of other elements. -/
theorem Own.otherT {α : Type} {w : World} {base E E' size b : Nat} {enc : α → List Value} {v : Value} {xs : List α} {c : Array Value} (h : Own w base E size enc v xs) (hb : Box w b c E') (hne : E ≠ E') (i : Nat) (u : Value) : Own (w.setCell ⟨b, i, none⟩ u) base E size enc v xs := by
  obtain ⟨a', cap, hv, hle, hm, hh⟩ := h
  refine ⟨a', cap, hv, hle, hm, ?_⟩
  rcases hh with hh | ⟨g, cur, ha, hbg, hg, hr⟩
  · exact .inl hh
  · exact .inr ⟨g, cur, ha, hbg, hg.other _ u (by rintro rfl; exact hne (hg.type_eq hb)), hr⟩
/-- A call that returns a slice of its own, which reads as L, and keeps what was there. -/
def RetOwn {α : Type} (w : World) (E size : Nat) (enc : α → List Value) (L : List α) (e : Ending) (w' : World) : Prop :=
  ∃ (a : Option Addr) (cap : Nat), e = .returned (.slice a L.length cap) ∧ Own w' w.heap.size E size enc (.slice a L.length cap) L ∧ Below w.heap.size w w'
/-! ### Sets, bytes, integers as elements -/
theorem encS_ok : EncOK encS 4 := ⟨fun _ => rfl, fun x u hu => by simp [encS] at hu; rcases hu with rfl | rfl | rfl | rfl <;> rfl⟩
theorem encB_ok : EncOK encB 1 := ⟨fun _ => rfl, fun x u hu => by simp [encB] at hu; subst hu; rfl⟩
/-- A set stored into a slice of sets. -/
theorem Own.store4 {w : World} {base E : Nat} {a : Option Addr} {n cap : Nat} {xs : List BSet} (h : Own w base E 4 encS (.slice a n cap) xs) {i g : Nat} (hi : i < xs.length) (ha : a = some ⟨g, 0, none⟩) (y : BSet) :
    Own ((((w.setCell ⟨g, i * 4, none⟩ (.int .u64 (word y 0 : Nat))).setCell ⟨g, i * 4 + 1, none⟩ (.int .u64 (word y 1 : Nat))).setCell ⟨g, i * 4 + 2, none⟩ (.int .u64 (word y 2 : Nat))).setCell ⟨g, i * 4 + 3, none⟩ (.int .u64 (word y 3 : Nat)))
      base E 4 encS (.slice a n cap) (xs.set i y) := by
  obtain ⟨a', cap', hv, hle, hm, hh⟩ := h
  obtain ⟨rfl, rfl, rfl⟩ := Value.slice.inj hv
  rcases hh with ⟨rfl, _⟩ | ⟨g', cur, ha', hb, hg, hs, hx⟩
  · cases ha
  · obtain rfl : g' = g := by rw [ha] at ha'; simpa using ha'.symm
    refine ⟨a, cap, by rw [List.length_set], by rw [List.length_set]; exact hle, hm, .inr ⟨g', _, ha, hb, (((hg.set _ _).set _ _).set _ _).set _ _, by simpa using hs, fun k hk j hj => ?_⟩⟩
    have hk' := hk
    rw [List.length_set] at hk
    have hcs : i * 4 + 3 < cur.size := by have : (i + 1) * 4 ≤ cap * 4 := Nat.mul_le_mul_right _ (by omega); rw [hs]; omega
    simp only [Array.getElem?_setIfInBounds, Array.size_setIfInBounds]
    by_cases hki : k = i
    · subst hki
      have e : (xs.set k y)[k]'hk' = y := by simp
      rw [e]
      match j, hj with
      | 0, _ => simp; omega
      | 1, _ => simp; omega
      | 2, _ => simp; omega
      | 3, _ => simp; omega
    · have e : (xs.set i y)[k]'hk' = xs[k] := by rw [List.getElem_set_ne (fun e => hki e.symm)]
      rw [e, ← hx k hk j hj]
      rw [if_neg (by omega), if_neg (by omega), if_neg (by omega), if_neg (by omega)]
theorem Own.cells4 {w : World} {base E g n cap : Nat} {xs : List BSet} (h : Own w base E 4 encS (.slice (some ⟨g, 0, none⟩) n cap) xs) {i : Nat} (hi : i < xs.length) :
    (w.cell? ⟨g, i * 4, none⟩ = some (.int .u64 (word xs[i] 0 : Nat)) ∧ w.cell? ⟨g, i * 4 + 1, none⟩ = some (.int .u64 (word xs[i] 1 : Nat)) ∧ w.cell? ⟨g, i * 4 + 2, none⟩ = some (.int .u64 (word xs[i] 2 : Nat)) ∧ w.cell? ⟨g, i * 4 + 3, none⟩ = some (.int .u64 (word xs[i] 3 : Nat))) ∧
    (w.frozen? ⟨g, i * 4, none⟩ = false ∧ w.frozen? ⟨g, i * 4 + 1, none⟩ = false ∧ w.frozen? ⟨g, i * 4 + 2, none⟩ = false ∧ w.frozen? ⟨g, i * 4 + 3, none⟩ = false) := by
  obtain ⟨_, _, _, g', cur, ha, hx⟩ := h.open
  obtain rfl : g = g' := by simpa using ha i hi
  obtain ⟨_, hb, _, hc⟩ := hx (by omega)
  have k := hc i hi
  exact ⟨⟨(hb.cell _).trans (k 0 (by decide)), (hb.cell _).trans (k 1 (by decide)), (hb.cell _).trans (k 2 (by decide)), (hb.cell _).trans (k 3 (by decide))⟩, hb.free _, hb.free _, hb.free _, hb.free _⟩
theorem Own.addr {α : Type} {w : World} {base E size n cap : Nat} {enc : α → List Value} {a : Option Addr} {xs : List α} (h : Own w base E size enc (.slice a n cap) xs) (hn : 0 < n) : ∃ g, a = some ⟨g, 0, none⟩ ∧ base ≤ g ∧ g < w.heap.size := by
  obtain ⟨rfl, _, _, g, cur, ha, hx⟩ := h.open
  obtain ⟨hb, hg, _⟩ := hx hn
  exact ⟨g, ha 0 hn, hb, hg.lt⟩
end Go.Proofs.YtinlfbacfmmfpaaDoor
