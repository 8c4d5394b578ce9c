/- Joined by tools/merge.py: EachP, AppendF, Each, Bytes. -/
import Derived.Test.YtdhmekpgplajmaaDoorJ5
import Derived.Test.YtdhmekpgplajmaaDoorProg
import Derived.Test.YtdhmekpgplajmaaDoorJ3
import Derived.Test.YtdhmekpgplajmaaDoorJ4
import Derived.Laws.Bits64b
import Derived.Test.YtdhmekpgplajmaaDoorJ2
section
namespace Go.Proofs.YtdhmekpgplajmaaDoor
open Go.RowKit
/-- What abides new blocks, a turn of the block sB, and of blocks behind B0 that are no cells. -/
def Stands (B0 sB : Nat) (J : World → Prop) : Prop := ∀ A B row, J A → A.grownBy B row → (∀ r, row = some r → r = sB ∨ (B0 ≤ r ∧ ∃ o : Obj, A.heap[r]? = some o ∧ o.isCells = false)) → J B
theorem Stands.alloc {B0 sB : Nat} {J : World → Prop} (h : Stands B0 sB J) {A : World} (o : Obj) (hA : J A) : J (A.alloc o) := h A _ none hA (World.grownBy_alloc A o none) (fun _ e => by cases e)
theorem Stands.put {B0 sB : Nat} {J : World → Prop} (h : Stands B0 sB J) {A : World} {l : Nat} {o : Obj} (o' : Obj) (hA : J A) (hl : A.heap[l]? = some o) (ho : o.isCells = false) (hB : B0 ≤ l) : J (A.putObj l o') :=
  h A _ (some l) hA (grownBy_putObj' A l o') (fun r e => by cases e; exact .inr ⟨hB, o, hl, ho⟩)
theorem Stands.own {B0 sB : Nat} {J : World → Prop} (h : Stands B0 sB J) {A B : World} (hA : J A) (hg : A.grownBy B (some sB)) : J B := h A B _ hA hg (fun r e => by cases e; exact .inl rfl)
/-- A turn of one block, seen from a block of cells: it lies as it lay, if it is not sB. -/
theorem turn_box {A B : World} {row : Option Nat} {B0 sB b E : Nat} {c : Array Value} (hg : A.grownBy B row) (hr : ∀ r, row = some r → r = sB ∨ (B0 ≤ r ∧ ∃ o : Obj, A.heap[r]? = some o ∧ o.isCells = false)) (hb : Box A b c E) (hne : b ≠ sB) : Box B b c E := by
  refine (hg.block b hb.lt fun e => ?_).trans hb
  rcases hr b e.symm with h | ⟨_, o, ho, hc⟩
  · exact hne h
  · rw [show A.heap[b]? = _ from hb] at ho; cases ho; cases hc
/-- .. of the blocks below a height. -/
theorem turn_below {w A B : World} {row : Option Nat} {B0 sB n : Nat} (hg : A.grownBy B row) (hr : ∀ r, row = some r → r = sB ∨ (B0 ≤ r ∧ ∃ o : Obj, A.heap[r]? = some o ∧ o.isCells = false)) (h : Below n w A) (hs : n ≤ sB) (h0 : n ≤ B0) (hn : n ≤ A.heap.size) : Below n w B :=
  h.grown hg hn fun k e => by rcases hr k e with h1 | ⟨h1, _⟩ <;> omega
/-- The contract of such a function: it gives the elements of xs; where a round panics, it passes that on. -/
def SeqP {α : Type} (P : Program) (gf : Nat) (lb : Array Value) (encs : α → Array Value) (xs : List α) (sB : Nat) (ks : List Nat) (w : World) : Prop :=
  ∀ (l : Nat) (J : List α → World → Prop) (Jp : List PanicEntry → World → Prop) (W : World), Below w.heap.size w W →
    (∀ s A B, J s A → A.grownBy B (some sB) → J s B) → (∀ c A B, Jp c A → A.grownBy B (some sB) → Jp c B) →
    (∀ pre x post W1, xs = pre ++ x :: post → J pre W1 → YieldAt Fence.wide 0 P l (encs x) W1 fun e W' => (e = .returned (.bool true) ∧ J (pre ++ [x]) W' ∧ W1.heap.size ≤ W'.heap.size ∧ ∀ k ∈ ks, W'.heap[k]? = W1.heap[k]?) ∨ (∃ c, e = .panicked c ∧ Jp c W')) →
    J [] W →
    CallsIn Fence.wide 0 P gf (#[.func (.yield l) #[] #[]] ++ lb) W fun e W' => (∃ v, e = .returned v ∧ J xs W') ∨ (∃ c, e = .panicked c ∧ Jp c W')
theorem wpAt_block {f : FuncId} {P : Program} {id : Nat} {c : Code} {Q : Exit → Act → World → Prop} {a : Act} {w : World}
    (h : WpAt f P c (fun e a w => match e with | .normal => Q .normal a w | .panic ch => Q (.panic ch) a w | _ => False) a w) : WpAt f P (.block id c) Q a w := fun b k cs hb hf => by
  obtain ⟨e, a1, w1, hq, hs⟩ := h b (.inBlock id :: k) cs hb hf
  have s0 : StepsIn (Machine.fenced P Fence.wide) P (lone (b.atR a (.code (.block id c) :: k)) cs w) _ := .one (fenced_wide _ _) stepR_block
  match e, hq, hs with
  | .normal, hq, hs => exact ⟨.normal, a1, w1, hq, (s0.trans hs).trans (.one (fenced_wide _ _) stepR_inBlock)⟩
  | .panic ch, hq, hs => exact ⟨.panic ch, a1, w1, hq, .of_steps s0 hs⟩
/-- How the body of a round may be left. -/
def eachPost {α : Type} (I : List α → World → Prop) (Ip : List PanicEntry → World → Prop) (ks : List Nat) (xs : List α) (W : World) : Exit → Act → World → Prop
  | .normal, _, W' => KeepsOthers W W' ∧ (∀ k ∈ ks, W'.heap[k]? = W.heap[k]?) ∧ I xs W'
  | .panic ch, a, W' => a.defers = [] ∧ KeepsOthers W W' ∧ Ip ch W'
  | _, _, _ => False
theorem wpAt_each {α : Type} {f : FuncId} {P : Program} {fn : Func} {g : Operand} {ps : Array Tmp} {assign body : Code} {Q : Exit → Act → World → Prop} {a : Act} {w : World} {gf : Nat} {lb : Array Value}
    (hf : P.funcs[f]? = some fn) (hg : a.eval g = .func (.func gf) #[] lb) (eg : ∀ args w, (callFunc gf args).run P w = .ok (.enter gf args) w)
    {encs : α → Array Value} {xs : List α} {sB : Nat} {ks : List Nat} (hseq : SeqP P gf lb encs xs sB ks w) (hsB : sB < w.heap.size) (hks : ∀ k ∈ ks, k < w.heap.size) (hps : ∀ x, (encs x).size = ps.size)
    (I : List α → World → Prop) (Ip : List PanicEntry → World → Prop) (hI : ∀ s, Stands w.heap.size sB (I s)) (hIp : ∀ c, Stands w.heap.size sB (Ip c)) (h0 : I [] w) (a1 : α → Act)
    (hassign : ∀ (l : Nat) (x : α) (W : World) (K : Act → World → Prop), K (a1 x) W →
      assign.wpIn (Fence.wide.inRound l) 0 P (Exit.then K (fun _ _ _ => False)) { tmps := (ps.zip (encs x)).foldl (fun t (p, v) => t.setIfInBounds p v) a.tmps, defers := [] } W)
    (hbody : ∀ (l : Nat) (pre : List α) (x : α) (post : List α) (W : World), xs = pre ++ x :: post → I pre W → body.wpIn (Fence.wide.inRound l) 0 P (eachPost I Ip ks (pre ++ [x]) W) (a1 x) W)
    (hdone : ∀ (D : Nat) (W : World), w.heap.size ≤ D → I xs W → W.heap[D]? = some (.deferred (some [])) → Q .normal { a with defers := { target := .collected D, args := #[] } :: a.defers } W)
    (hpan : ∀ (D : Nat) (c : List PanicEntry) (W : World), w.heap.size ≤ D → Ip c W → W.heap[D]? = some (.deferred (some [])) → Q (.panic c) { a with defers := { target := .collected D, args := #[] } :: a.defers } W) :
    WpAt f P (.rangeFunc g ps assign body) Q a w := by
  obtain ⟨rec, hrec⟩ : ∃ rec : LoopState → Loop, rec = fun st => { state := st, pending := none, fn := f, tmps := a.tmps, params := ps, assign, body, defers := w.heap.size } := ⟨_, rfl⟩
  obtain ⟨W1, hW1⟩ : ∃ W1, (w.alloc (.deferred (some []))).alloc (.loop (rec .ready)) = W1 := ⟨_, rfl⟩
  have hL1 : W1.heap[w.heap.size + 1]? = some (.loop (rec .ready)) := by
    rw [← hW1]; have := World.alloc_heap_new (w.alloc (.deferred (some []))) (.loop (rec .ready)); rwa [World.size_alloc] at this
  have hD1 : W1.heap[w.heap.size]? = some (.deferred (some [])) := by
    rw [← hW1]; exact (Below.heap_alloc _ _ _ (by simp)).trans (World.alloc_heap_new w _)
  have hI1 : I [] W1 := by rw [← hW1]; exact (hI []).alloc _ ((hI []).alloc _ h0)
  have hb1 : Below w.heap.size w W1 := by rw [← hW1]; exact ((Below.refl _ w).alloc (Nat.le_refl _) _).alloc (by simp) _
  have hkeep : ∀ {A B : World} {k : Nat} {o : Obj}, A.grownBy B (some sB) → k ≠ sB → A.heap[k]? = some o → B.heap[k]? = some o := fun hg hne hk =>
    (hg.block _ (Array.getElem?_eq_some_iff.1 hk).1 (fun e => hne (by cases e; rfl))).trans hk
  refine wpAt_rangeFunc (l := w.heap.size + 1) (mark := [{ target := .collected w.heap.size, args := #[] }]) (w1 := W1) (w1' := W1) (w2 := W1) (gf := gf)
    (d := { target := .fn (.func gf) lb, args := #[.func (.yield (w.heap.size + 1)) #[] #[]] }) (args := #[.func (.yield (w.heap.size + 1)) #[] #[]] ++ lb) ?_ ?_ ?_ ?_
  · rw [← hW1, hrec]; exact run_enterLoop_outer _ _ _ _ _
  · simp only [resolve, hg]
    simp [go_sem]
  · simp [invoke, go_sem, eg]
  · refine (hseq (w.heap.size + 1)
      (fun pre W => I pre W ∧ W.heap[w.heap.size + 1]? = some (.loop (rec .ready)) ∧ W.heap[w.heap.size]? = some (.deferred (some [])))
      (fun c W => Ip c W ∧ W.heap[w.heap.size]? = some (.deferred (some []))) W1 hb1
      (fun s A B hs hg' => ⟨(hI s).own hs.1 hg', hkeep hg' (by omega) hs.2.1, hkeep hg' (by omega) hs.2.2⟩)
      (fun c A B hs hg' => ⟨(hIp c).own hs.1 hg', hkeep hg' (by omega) hs.2⟩) ?_ ⟨hI1, hL1, hD1⟩).mono ?_
    · rintro pre x post W hxs ⟨hi, hl, hk⟩
      have hlt : w.heap.size + 1 < W.heap.size := (Array.getElem?_eq_some_iff.1 hl).1
      have hy := run_yield (P := P) (args := encs x) hl (by rw [hrec]; exact hps x)
      rw [hrec] at hy
      obtain ⟨W2, hW2⟩ : ∃ W2, W.putObj (w.heap.size + 1) (.loop (rec .busy)) = W2 := ⟨_, rfl⟩
      have hbg : (Instr.beginRound (w.heap.size + 1)).run P W = .ok () W2 := by
        have := run_beginRound (P := P) hl (by rw [hrec]); rw [hrec] at this; rw [← hW2, hrec]; exact this
      refine ⟨f, _, assign, body, hy, roundIn_panics hf (hassign _ x W _ ⟨W2, hbg, ?_⟩)⟩
      have hl2 : W2.heap[w.heap.size + 1]? = some (.loop (rec .busy)) := by rw [← hW2]; exact World.putObj_heap_same hlt
      have hk2 : W2.heap[w.heap.size]? = some (.deferred (some [])) := by rw [← hW2]; exact (World.putObj_heap_other (by omega)).trans hk
      have hs2 : ∀ k ∈ ks, W2.heap[k]? = W.heap[k]? := fun k hk => by have := hks k hk; rw [← hW2]; exact World.putObj_heap_other (by omega)
      have hz2 : W2.heap.size = W.heap.size := by rw [← hW2]; simp
      have hi2 : I pre W2 := by rw [← hW2]; exact (hI pre).put _ hi hl rfl (Nat.le_succ _)
      refine wpIn_mono (hbody _ pre x post W2 hxs hi2) ?_
      intro e a3 W3 hp
      match e, hp with
      | .normal, ⟨hk3, hs3, hi3⟩ =>
        have hl3 := hk3.same _ _ hl2 rfl
        have hend := run_endRound (P := P) none hl3
        refine ⟨_, _, hend, .inl ⟨rfl, ⟨(hI _).put _ hi3 hl3 rfl (Nat.le_succ _), ?_, (World.putObj_heap_other (by omega)).trans (hk3.same _ _ hk2 rfl)⟩, ?_, ?_⟩⟩
        · rw [World.putObj_heap_same (Array.getElem?_eq_some_iff.1 hl3).1, hrec]; rfl
        · rw [World.putObj_size, ← hz2]; exact hk3.size
        · exact fun k hk => (World.putObj_heap_other (by have := hks k hk; omega)).trans ((hs3 k hk).trans (hs2 k hk))
      | .panic c, ⟨hd3, hk3, hi3⟩ => exact ⟨hd3, .inr ⟨c, rfl, hi3, hk3.same _ _ hk2 rfl⟩⟩
    · rintro e W2 (⟨v, rfl, hi, hl, hk⟩ | ⟨c, rfl, hi, hk⟩)
      · have hend := run_endLoop (P := P) hl (by rw [hrec]; simp)
        rw [hrec] at hend
        exact ⟨none, _, hend, hdone _ _ (Nat.le_refl _) ((hI _).put _ hi hl rfl (Nat.le_succ _)) ((World.putObj_heap_other (by omega)).trans hk)⟩
      · exact hpan _ c _ (Nat.le_refl _) hi hk
end Go.Proofs.YtdhmekpgplajmaaDoor
end
section
namespace Go.Proofs.YtdhmekpgplajmaaDoor
open Go.RowKit
theorem append_block {P : Program} {w : World} {base t ty e size bytes n m c : Nat} {i : TypeInfo} {z v : Value} {xs news : List Value} {a : Addr} (ht : P.underlying t = some (.slice e)) (hi : P.info? e = some i) (hz : i.zero = some z)
    (hsize : i.size = size) (hby : i.bytes = bytes) (hown : w.ownsRow base e size v n xs) (hl : news.length = m * size) (hnews : ∀ j u, news[j]? = some u → w.cell? (a.add j) = some u) (h1 : ∀ u ∈ news, u.oneCell' = true) (hm : 0 < m)
    (h63 : n + m ≤ maxLen) (hbytes : (n + m) * bytes ≤ 140737488355328) {v' : Value} {w' : World} (hr : (Builtin.append_ #[t, t] ty #[v, .slice (some a) m c]).run P w = .ok v' w') :
    v'.ownBlock = v.ownBlock ∨ v'.ownBlock = some w.heap.size := by
  subst hsize
  subst hby
  have hsm : n + m ≤ 9223372036854775807 := h63
  rcases hown.2 with ⟨rfl, rfl⟩ | ⟨g, cap, cur, rfl, hbg, hg, hnc, hcm, hcs, htake⟩
  · rw [run_append_nil (P := P) w t ty e i z ht hi hz a m c news hl hnews hm (by omega) (by rw [Nat.zero_add] at hbytes; omega)] at hr
    cases hr
    exact .inr rfl
  · by_cases hroom : n + m ≤ cap
    · rw [run_append_room (P := P) w t ty e i ht hi g n cap cur hg a m c news hl hnews h1 hroom (by rw [hl, hcs, ← Nat.add_mul]; exact Nat.mul_le_mul_right _ hroom)] at hr
      cases hr
      exact .inl rfl
    · have hx : xs.length = n * i.size := hown.1
      rw [run_append_grow (P := P) w t ty e i z ht hi hz ⟨g, 0, none⟩ n cap xs hx (hown.cells (g := g) rfl) a m c news hl hnews (by omega) (by omega) (growslice_fits (by omega) hbytes)] at hr
      cases hr
      exact .inr rfl
/-- One element more, as one step. -/
theorem wp_append1F {α : Type} {w : World} {base E size : Nat} {enc : α → List Value} {v : Value} {xs : List α} {P : Program} {o : Oper} {a : Act} {K : Act → World → Prop} {Q : Exit → Act → World → Prop} (s x : Operand) (t : TypeId)
    (ho : o.op = .call { callee := .builtin .append, args := #[s, x], argTypes := #[t, t] }) {z : Value} {bytes : Nat} (hE : ElemOK P t E z size bytes) (he : EncOK enc size)
    (hs : a.eval s = v) (hown : Own w base E size enc v xs) (ad : Addr) (c : Nat) (y : α) (hx : a.eval x = .slice (some ad) 1 c) (hnews : ∀ j u, (enc y)[j]? = some u → w.cell? (ad.add j) = some u)
    (h63 : xs.length + 1 ≤ maxLen) (hbytes : (xs.length + 1) * bytes ≤ 140737488355328) (hbase : base ≤ w.heap.size)
    (h : ∀ a' cap' w', Own w' base E size enc (.slice a' (xs.length + 1) cap') (xs ++ [y]) → w.grownBy w' v.ownBlock → ((Value.slice a' (xs.length + 1) cap').ownBlock = v.ownBlock ∨ (Value.slice a' (xs.length + 1) cap').ownBlock = some w.heap.size) → K (a.put o.dst (.slice a' (xs.length + 1) cap')) w') : Oper.wp P o a w K Q := by
  obtain ⟨i, hi, hz, hsz, hby⟩ := hE.info
  obtain ⟨v', w', hr, h2, h3, _⟩ := run_append_own (P := P) w base t o.type E i z size bytes hE.slice hi hz hsz hby hE.zsize hE.pos v xs.length (xs.flatMap enc) (hown.toRow he) ad 1 c (enc y) (by rw [he.len, Nat.one_mul]) hnews (he.one y) h63 hbytes hbase
  have hb := append_block (c := c) hE.slice hi hz hsz hby (hown.toRow he) (by rw [he.len, Nat.one_mul]) hnews (he.one y) (Nat.succ_pos 0) h63 hbytes hr
  have hr' : Own w' base E size enc v' (xs ++ [y]) := by
    refine Own.ofRow ?_ he
    rw [List.length_append, List.flatMap_append]
    simpa using h2
  obtain ⟨a', cap', rfl⟩ := hr'.form
  have e : (xs ++ [y]).length = xs.length + 1 := by simp
  rw [e] at hr' hb hr
  have hk := h a' cap' w' hr' h3 hb
  unfold Oper.wp execOp
  simp only [ho, resolve, invoke, builtin, Sem.run_bind, Sem.run_pure, Result.andThen_ok, List.map_toArray, List.map_cons, List.map_nil, hs, hx, hr]
  exact hk
/-- .. in a list of operations. -/
theorem wpList_append1F {α : Type} {w : World} {base E size : Nat} {enc : α → List Value} {v : Value} {xs : List α} {P : Program} {ops : Array Oper} {rest : List Oper} {o : Oper} {a : Act} {Q : Exit → Act → World → Prop} (hgd : o.guard = none) (s x : Operand) (t : TypeId)
    (ho : o.op = .call { callee := .builtin .append, args := #[s, x], argTypes := #[t, t] }) {z : Value} {bytes : Nat} (hE : ElemOK P t E z size bytes) (he : EncOK enc size)
    (hs : a.eval s = v) (hown : Own w base E size enc v xs) (ad : Addr) (c : Nat) (y : α) (hx : a.eval x = .slice (some ad) 1 c) (hnews : ∀ j u, (enc y)[j]? = some u → w.cell? (ad.add j) = some u)
    (h63 : xs.length + 1 ≤ maxLen) (hbytes : (xs.length + 1) * bytes ≤ 140737488355328) (hbase : base ≤ w.heap.size)
    (h : ∀ a' cap' w', Own w' base E size enc (.slice a' (xs.length + 1) cap') (xs ++ [y]) → w.grownBy w' v.ownBlock → ((Value.slice a' (xs.length + 1) cap').ownBlock = v.ownBlock ∨ (Value.slice a' (xs.length + 1) cap').ownBlock = some w.heap.size) → wpList P ops Q rest (a.put o.dst (.slice a' (xs.length + 1) cap')) w') : wpList P ops Q (o :: rest) a w :=
  wpList_plain hgd fun _ hK => wp_append1F s x t ho hE he hs hown ad c y hx hnews h63 hbytes hbase fun a' cap' w' h2 h3 h4 => hK _ _ (h a' cap' w' h2 h3 h4)
/-- A slice of the call's own, behind a turn of a block that is not its own. -/
theorem Own.grownNe {α : Type} {w w' : World} {base E size : Nat} {enc : α → List Value} {v : Value} {xs : List α} {row : Option Nat} (h : Own w base E size enc v xs) (hg : w.grownBy w' row) (hne : ∀ k, v.ownBlock = some k → row ≠ some k) : Own w' base E size enc v xs := by
  obtain ⟨a, cap, rfl, hle, hm, hh⟩ := h
  refine ⟨a, cap, rfl, hle, hm, ?_⟩
  rcases hh with hh | ⟨g, cur, rfl, hbg, hb, hr⟩
  · exact .inl hh
  · exact .inr ⟨g, cur, rfl, hbg, (hg.block g hb.lt (fun e => hne g rfl e.symm)).trans hb, hr⟩
/-- .. of other elements. -/
theorem Own.grownT {α β : Type} {w w' : World} {base base2 E E2 size size2 : Nat} {enc : α → List Value} {enc2 : β → List Value} {v v2 : Value} {xs : List α} {ys : List β} (h : Own w base E size enc v xs) (h2 : Own w base2 E2 size2 enc2 v2 ys) (hg : w.grownBy w' v2.ownBlock) (hE : E ≠ E2) : Own w' base E size enc v xs :=
  h.grownNe hg fun k h1 h3 => by
    obtain ⟨_, c1, b1⟩ := h.block k h1
    obtain ⟨_, c2, b2⟩ := h2.block k h3
    exact hE (b1.type_eq b2)
end Go.Proofs.YtdhmekpgplajmaaDoor
end
section
namespace Go.Proofs.YtdhmekpgplajmaaDoor
open Go.RowKit Go.Shelf
attribute [local go_sem] Oper.semAt_some

/-- The library's table lies where its variable is. -/
def Tab (w : World) : Prop := ∀ j, j < 64 → w.cell? ⟨1, j, none⟩ = some (.int .u8 (Lib.deBruijn64tab.getD j 0))
theorem Tab.block {w : World} (h : Tab w) : ∃ o, w.heap[1]? = some o ∧ o.isCells = true := cells_of_cell (h 0 (by decide))
theorem Tab.keptC {X : Nat → Prop} {w w' : World} (h : Tab w) (hx : ¬ X 1) (hk : KeepC X w w') : Tab w' := fun j hj => hk.cell hx (h j hj)
theorem Tab.kept {w w' : World} (h : Tab w) (hb : Below w.heap.size w w') : Tab w' := h.keptC (X := fun _ => False) id (KeepC.below hb)
theorem Tab.pos {w : World} (h : Tab w) : 1 < w.heap.size := by obtain ⟨o, ho, _⟩ := h.block; exact (Array.getElem?_eq_some_iff.1 ho).1
theorem tz_key (x a : Nat) (hx : x < 18446744073709551616) (hx0 : x ≠ 0) (hlow : x &&& (18446744073709551616 - x) = a) :
    IntKind.u64.wrap (bits BinOp.and IntKind.u64 (x : Int) (IntKind.u64.wrap (-(x : Int))) * 285870213051353865) / 288230376151711744 = ((a * 285870213051353865 % 18446744073709551616 / 288230376151711744 : Nat) : Int) := by
  have e1 : IntKind.u64.wrap (-(x : Int)) = ((18446744073709551616 - x : Nat) : Int) := by rw [IntKind.wrap_u64]; omega
  rw [e1, bits_and_u64_nat x _ hx (by omega), hlow, IntKind.wrap_u64]
  omega
set_option maxHeartbeats 1000000 in
theorem tz64_core (x k idx : Nat) (w : World) (hx0 : ((x : Int) == 0) = false)
    (key : IntKind.u64.wrap (bits BinOp.and IntKind.u64 (x : Int) (IntKind.u64.wrap (-(x : Int))) * 285870213051353865) / 288230376151711744 = (idx : Int))
    (hi : idx < 64) (hcell : w.cell? ⟨1, idx, none⟩ = some (.int .u8 k)) (hk : k < 64) :
    Calls Tryd.prog 63 #[.int .u64 x] w fun e w' => e = .returned (.int .i64 k) ∧ w' = w := by
  go_enter Tryd.func63, Tryd.ntmps63
  go_wp2_with (simp only [key])
  go_ret
  exact ⟨rfl, rfl⟩
theorem tz64 (x : Nat) (h0 : x ≠ 0) (hx : x < 18446744073709551616) (w : World) (hT : Tab w) :
    Calls Tryd.prog 63 #[.int .u64 x] w fun e w' => e = .returned (.int .i64 (Lib.ctz 64 x : Nat)) ∧ w' = w := by
  obtain ⟨hlow, hk⟩ := Lib.lowest_bit 64 x h0 hx
  obtain ⟨hi, htab⟩ := Lib.deBruijn64_at _ hk
  have hcell := hT _ hi
  rw [htab] at hcell
  exact tz64_core x _ _ w (by simp; omega) (tz_key x _ hx h0 hlow) hi hcell hk
abbrev enc8 (x : Nat) : Array Value := #[.int .u8 x]
def EachRel (X : Nat → Prop) (J : List Nat → World → Prop) (s : BSet) (W wr : World) (i : Value) : Prop :=
  ∃ j pre, j ≤ 4 ∧ i = .int .i64 (j : Nat) ∧ pre ++ tailS s j (4 - j) = elems s ∧ J pre wr ∧ KeepC X W wr
def EachRel2 (X : Nat → Prop) (J : List Nat → World → Prop) (s : BSet) (j : Nat) (W wr : World) (v : Value) : Prop :=
  ∃ u pre : _, u < 18446744073709551616 ∧ v = .int .u64 (u : Nat) ∧ pre ++ (listW j u ++ tailS s (j + 1) (3 - j)) = elems s ∧ J pre wr ∧ KeepC X W wr
theorem and_pred (u : Nat) (h0 : u ≠ 0) (h : u < 18446744073709551616) : bits BinOp.and IntKind.u64 (u : Int) ((u : Int) - 1) = ((u &&& (u - 1) : Nat) : Int) := by
  rw [show ((u : Int) - 1) = ((u - 1 : Nat) : Int) by omega, bits_and_u64_nat u _ h (by omega)]
set_option maxRecDepth 100000 in
set_option maxHeartbeats 2000000 in
theorem each1_in (n l Bs : Nat) (X : Nat → Prop) (h0X : ¬ X 1) (J Jx : List Nat → World → Prop) (s : BSet)
    (hY : ∀ pre x W, J pre W → pre.length < (elems s).length → x < 256 → YieldAt Fence.wide (n - 1) Tryd.prog l (enc8 x) W fun e W' => (e = .returned (.bool true) ∧ J (pre ++ [x]) W' ∧ KeepC X W W') ∨ (e = .returned (.bool false) ∧ Jx (pre ++ [x]) W'))
    (W : World) (hT : Tab W) (hBs : Box W Bs (setC s) 53) (h0 : J [] W) :
    CallsIn Fence.wide n Tryd.prog 62 #[.func (.yield l) #[] #[], .pointer (some ⟨Bs, 0, none⟩)] W fun e W' => (∃ v, e = .returned v) ∧ ((∃ ys, ys = elems s ∧ J ys W') ∨ (∃ pre, pre <+: elems s ∧ Jx pre W')) := by
  obtain ⟨c0, c1, c2, c3⟩ := hBs.set4
  refine callsIn_of_wp Tryd.func62 rfl trivial ?_ rfl
  simp only [Tryd.ntmps62, List.size_toArray, List.length_cons, List.length_nil, Nat.reduceAdd, Nat.reduceSub, Array.replicate_succ, Array.replicate_zero, List.push_toArray, List.append_toArray, List.nil_append, List.cons_append]
  gi_wp2
  gi_loopw [6] (fun i wr => EachRel X J s W wr i) (fun i _ => 4 - (intOf i).toNat)
  case atStart => exact ⟨0, [], by omega, rfl, by rw [List.nil_append]; exact (elems_words s).symm, h0, KeepC.refl _ _⟩
  case round =>
    obtain ⟨j, pre, hj, rfl, he, hJr, hkr⟩ := hrel
    by_cases hlt : j < 4
    · have gw := index_set s j hlt
      have hdj : decide ((j : Int) < 4) = true := decide_eq_true (by omega)
      rw [show 4 - j = (3 - j) + 1 by omega, tailS] at he
      have hu := word_lt s j
      generalize word s j = u0 at *
      gi_wp2
      gi_loopw [4] (fun v wr => EachRel2 X J s j W wr v) (fun v _ => (intOf v).toNat)
      case atStart => exact ⟨_, pre, hu, rfl, he, hJr, hkr⟩
      case round =>
        obtain ⟨u, pre, hu, rfl, he, hJr, hkr⟩ := hrel
        by_cases hz : u = 0
        · subst hz
          rw [listW, elemsW_zero, List.map_nil, List.nil_append] at he
          gi_wp2
          exact ⟨⟨j + 1, pre, hlt, by simp, by rw [show 4 - (j + 1) = 3 - j by omega]; exact he, hJr, hkr⟩, by simp [intOf]; omega⟩
        · have hne : ((u : Int) != 0) = true := by simp; omega
          obtain ⟨hls, hk, hdec⟩ := low_step u hz hu
          have hand := and_pred u hz hu
          have hlw : listW j u = (64 * j + Lib.ctz 64 u) :: listW j (u &&& (u - 1)) := by rw [listW, hls]; rfl
          have hl : pre.length < (elems s).length := by
            rw [← he, listW, hls]; simp
          have hYY := hY pre (64 * j + Lib.ctz 64 u) wr hJr hl (by omega)
          rw [show enc8 (64 * j + Lib.ctz 64 u) = #[.int .u8 ((j : Int) * 64 + (Lib.ctz 64 u : Nat))] by simp only [enc8]; rw [show ((64 * j + Lib.ctz 64 u : Nat) : Int) = (j : Int) * 64 + (Lib.ctz 64 u : Nat) by omega]] at hYY
          obtain ⟨fn, tmps, assign, body, hy, hR⟩ := hYY
          have HT := Lib.hid (hT.keptC h0X hkr)
          have TZ := fun w hT => tz64 u hz hu w hT
          generalize Lib.ctz 64 u = k at *
          have hdd : ∀ k : Nat, (Fence.wide.depth.isSome = true → 1 ≤ k) := fun k h => by cases h
          gi_wp2_with (first | (refine ⟨trivial, hdd _, ?_⟩; gi_at_call 63; go_must (refine (callsIn_wide.2 (TZ _ HT.out)).mono ?_; rintro e w1 ⟨rfl, rfl⟩)) | (refine ⟨hdd _, ?_⟩; refine hR.mono ?_; clear hR; rintro e W2 (⟨rfl, hJ2, hk2⟩ | ⟨rfl, hx2⟩)))
          · refine ⟨⟨u &&& (u - 1), pre ++ [64 * j + k], by omega, rfl, ?_, hJ2, hkr.trans hk2⟩, by simp [intOf]; omega⟩
            rw [← he, hlw]; simp
          · refine bodyPost_ret (results_none rfl _ _ _) rfl ?_
            refine ⟨⟨_, rfl⟩, .inr ⟨_, ?_, hx2⟩⟩
            rw [← he, hlw]
            exact ⟨listW j (u &&& (u - 1)) ++ tailS s (j + 1) (3 - j), by simp⟩
    · obtain rfl : j = 4 := by omega
      rw [show tailS s 4 (4 - 4) = [] from rfl, List.append_nil] at he
      subst he
      gi_wp2
      go_end0
      exact ⟨⟨_, rfl⟩, .inl ⟨_, rfl, hJr⟩⟩
theorem each_stops (n Bs : Nat) (X : Nat → Prop) (s : BSet) (w : World) (h0X : ¬ X 1) (hT : Tab w) (hBs : Box w Bs (setC s) 53) :
    SeqStopsK Fence.wide n Tryd.prog 62 #[.pointer (some ⟨Bs, 0, none⟩)] enc8 (KeepC X) (fun ys => ys = elems s) (fun pre => pre <+: elems s) (elems s).length w := fun l J Jx W hW _ _ hY h0 =>
  each1_in n l Bs X h0X J Jx s (fun pre x W hj hl _ => hY pre x W hj hl) W (hT.kept hW) (hBs.kept hW) h0
/-- The same, where each byte bears that it is one. -/
abbrev encF (x : Fin 256) : Array Value := #[.int .u8 (x.val : Nat)]
theorem each_stopsF (n Bs : Nat) (X : Nat → Prop) (s : BSet) (w : World) (h0X : ¬ X 1) (hT : Tab w) (hBs : Box w Bs (setC s) 53) :
    SeqStopsK Fence.wide n Tryd.prog 62 #[.pointer (some ⟨Bs, 0, none⟩)] encF (KeepC X) (fun ys => ys.map (·.val) = elems s) (fun pre => pre.map (·.val) <+: elems s) (elems s).length w := fun l J Jx W hW _ _ hY h0 => by
  refine (each1_in n l Bs X h0X (fun pre W => ∃ p : List (Fin 256), p.map (·.val) = pre ∧ J p W) (fun pre W => ∃ p : List (Fin 256), p.map (·.val) = pre ∧ Jx p W) s
    (fun pre x W ⟨p, hp, hJ⟩ hl hx => (hY p ⟨x, hx⟩ W hJ (by rw [← hp] at hl; simpa using hl)).mono (fun e W' h => ?_)) W (hT.kept hW) (hBs.kept hW) ⟨[], rfl, h0⟩).mono (fun e W' h => ?_)
  · rcases h with ⟨h1, h2, h3⟩ | ⟨h1, h2⟩
    · exact .inl ⟨h1, ⟨_, by simp [hp], h2⟩, h3⟩
    · exact .inr ⟨h1, _, by simp [hp], h2⟩
  · rcases h with ⟨h1, ⟨_, rfl, p, hp, h2⟩ | ⟨_, h3, p, rfl, h2⟩⟩
    · exact ⟨h1, .inl ⟨p, hp, h2⟩⟩
    · exact ⟨h1, .inr ⟨p, h3, h2⟩⟩
theorem each_at (s : BSet) (w : World) : Calls Tryd.prog 50 #[.agg (setC s)] w fun e w' => e = .returned (.func (.func 62) #[] #[.pointer (some ⟨w.heap.size, 0, none⟩)]) ∧ w' = w.alloc (.cells (setC s) 53) := by
  go_enter Tryd.func50, Tryd.ntmps50
  go_wp2
  go_ret
  exact ⟨rfl, rfl⟩
end Go.Proofs.YtdhmekpgplajmaaDoor
end
section
namespace Go.Proofs.YtdhmekpgplajmaaDoor
open Go.RowKit Go.Shelf
attribute [local go_sem] Oper.semAt_some

theorem elems_zero : elems 0 = [] := by
  unfold elems
  exact List.filter_eq_nil_iff.2 fun x _ => by rw [mem_zero]; simp
theorem elem_u8 : ElemOK Tryd.prog 38 5 (.int .u8 0) 1 1 := ⟨Tryd.underlying38, info_parts (by kernel_rfl), rfl, by decide⟩
def BytesI (b B0 : Nat) (w : World) (pre : List Nat) (W : World) : Prop := (∃ (a : Option Addr) (cap : Nat), Box W (b + 1) #[.slice a pre.length cap] 38 ∧ Own W B0 5 1 encB (.slice a pre.length cap) pre) ∧ B0 ≤ W.heap.size ∧ Below b w W
set_option maxRecDepth 100000 in
set_option maxHeartbeats 2000000 in
theorem sets_Bytes (s : BSet) (w : World) (hT : Tab w) : Calls Tryd.prog 58 #[.agg (setC s)] w (RetOwn w 5 1 encB (elems s)) := by
  have hq := run_eqS (P := Tryd.prog) (t := 53) (e := 51) Tryd.underlying53 Tryd.underlying51 (by kernel_rfl) s 0
  unfold setV at hq
  rw [setC_zero] at hq
  by_cases h0 : s = 0
  · rw [decide_eq_true h0] at hq
    have e : elems s = [] := by rw [h0]; exact elems_zero
    rw [e]
    clear h0 e
    go_enter Tryd.func58, Tryd.ntmps58
    go_wp2
    go_ret
    exact ⟨none, 0, rfl, Own.nil _ _ _ _ _, by go_grown⟩
  · rw [decide_eq_false h0] at hq
    clear h0
    have hlen := elems_length s
    have hN := each_at s
    refine (callsIn_wide (n := 6)).1 ?_
    refine callsIn_of_wp_marks Tryd.func58 rfl trivial ?_ rfl
    simp only [Tryd.ntmps58, List.size_toArray, List.length_cons, List.length_nil, Nat.reduceAdd, Nat.reduceSub, Array.replicate_succ, Array.replicate_zero, List.push_toArray, List.append_toArray, List.nil_append, List.cons_append]
    gi_wp2_with (refine ⟨trivial, ?_⟩; gi_at_call 50; refine (callsIn_wide.2 (hN _)).mono ?_; rintro e w' ⟨rfl, rfl⟩)
    obtain ⟨W0, hW0⟩ : ∃ W0, (((w.alloc (.cells (setC s) 53)).alloc (.cells #[.slice none 0 0] 38)).alloc (.cells (setC s) 53)) = W0 := ⟨_, rfl⟩
    have hB0 : Below w.heap.size w W0 := by rw [← hW0]; go_grown
    have hsz0 : W0.heap.size = w.heap.size + 1 + 1 + 1 := by rw [← hW0]; simp
    have hbt : Box W0 (w.heap.size + 1 + 1) (setC s) 53 := by rw [← hW0]; exact Box.new' (by simp) _ _
    have hn0 : Box W0 (w.heap.size + 1) #[.slice none 0 0] 38 := by rw [← hW0]; exact (Box.new' (by simp) _ _).alloc _
    rw [hW0]
    clear hW0 hq
    have hpos := hT.pos
    have hst := each_stops 5 (w.heap.size + 1 + 1) (fun b => b = w.heap.size + 1 ∨ W0.heap.size ≤ b) s W0 (by omega) (hT.kept hB0) hbt
    refine wpIn_rangeFunc_ownF rfl (by decide) (gf := 62) (lb := #[.pointer (some ⟨w.heap.size + 1 + 1, 0, none⟩)]) rfl trivial (enters_of Tryd.func62 (by kernel_rfl) rfl)
      hst (fun h k => h.trans k) keepC_b (Below.refl _ _) (fun _ => rfl)
      (BytesI w.heap.size W0.heap.size w) (fun _ _ _ => False)
      (OwnFrom.and (fun pre W W' row ⟨a, cap, h1, h2⟩ hg hr => ⟨a, cap, ownFrom_box _ _ _ (fun _ : Unit => #[.slice a pre.length cap]) () W W' row h1 hg hr, ownFrom_own _ _ _ _ _ (fun _ : Unit => .slice a pre.length cap) (fun _ => pre) () W W' row h2 hg hr⟩)
        (OwnFrom.and (fun _ _ _ _ h hg _ => Nat.le_trans h hg.size) (ownFrom_below (Nat.le_refl _) (by omega))))
      (fun _ => ownFrom_false _) ⟨⟨none, 0, hn0, Own.nil _ _ _ _ _⟩, Nat.le_refl _, hB0⟩
      (fun x => { tmps := #[.agg (setC s), .pointer (some ⟨w.heap.size, 0, none⟩), .slice none 0 0, .pointer (some ⟨w.heap.size + 1, 0, none⟩), .int .u8 (x : Nat), .agg (setC s), .agg #[.int .u64 0, .int .u64 0, .int .u64 0, .int .u64 0], .bool false, .agg (setC s), .func (.func 62) #[] #[.pointer (some ⟨w.heap.size + 1 + 1, 0, none⟩)], .int .u8 (x : Nat), undef, undef, undef, undef, undef], defers := [] }) ?assign ?body ?done ?stop
    case assign =>
      intro l x W K hK
      dsimp only [enc8]
      go_simp
      gi_wp2
      exact hK
    case body =>
      rintro l pre x W ⟨⟨a, cap, hb, hown⟩, hWs, hB⟩ hlt
      have c0 := hb.cell 0
      have f0 := hb.free 0
      have hle : pre.length + 1 ≤ 256 := by omega
      gi_wp2_with (gi_at_builtin; go_must (refine wpListIn_append1 rfl _ _ 38 rfl elem_u8 encB_ok rfl (hown.alloc _) ⟨W.heap.size, 0, none⟩ 1 x rfl (new_cells W [.int .u8 (x : Nat)] _) (by simp [maxLen]; omega) (by omega) (by simp; omega) ?_; intro a' cap' W' hown' hg; change (W.alloc _).grownBy W' (Value.slice a pre.length cap).ownBlock at hg; have hbs := (hb.alloc _).grown (hown.alloc _) hg (by omega); have hfs := hbs.free 0; have hcs := hbs.cell 0))
      have hlen' : (pre ++ [x]).length = pre.length + 1 := by simp
      refine ⟨((KeepsOthers.alloc _ _).trans (KeepsOthers.grownOwn (hown.alloc _) hg)).trans (KeepsOthers.setCell _ _ _), ((KeepC.below ((Below.refl _ W).alloc (Nat.le_refl _) _)).trans (KeepC.grown (hown.alloc _) hg (fun b hb => .inr hb))).trans (KeepC.set _ _ _ (.inl rfl)), ⟨a', cap', ?_, ?_⟩, ?_, ?_⟩
      · rw [hlen']; exact hbs.set 0 _
      · rw [hlen']; exact hown'.other _ _ (by simp; omega)
      · have := hg.size; simp at this ⊢; omega
      · exact (below_grown (hB.alloc hB.size _) (hown.alloc _) hg (by omega) (by simp; omega)).setCell (by simp) _
    case done =>
      rintro D ys W hD rfl ⟨⟨a, cap, hb, hown⟩, hWs, hB⟩ hK
      have c0 := hb.cell 0
      gi_wp2
      refine ⟨by simp, .inl ⟨_, _, rfl, run_takeDeferred hK, ?_⟩⟩
      refine ⟨_, results_tmp rfl _ _ _, a, cap, rfl, ?_, hB.trans (belowK_b (w := w) (Nat.le_refl _) W D _ _ (by omega) hK rfl rfl)⟩
      exact (ownFrom_own W0.heap.size W0.heap.size 5 1 encB (fun _ : Unit => .slice a (elems s).length cap) (fun _ => elems s) () _ _ (some D) hown (grownBy_putObj' _ D (.deferred none)) (fun r e => by cases e; exact ⟨by omega, _, hK, rfl⟩)).mono (by omega)
    case stop =>
      rintro D c pre W _ _ h _
      exact h.elim
end Go.Proofs.YtdhmekpgplajmaaDoor
end
