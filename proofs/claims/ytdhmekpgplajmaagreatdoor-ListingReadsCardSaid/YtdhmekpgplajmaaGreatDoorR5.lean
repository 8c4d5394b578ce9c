/- Joined by tools/merge.py: EachP, AppendF, Each, Bytes, Spans, RefTwo, RefNot. -/
import Derived.Test.YtdhmekpgplajmaaGreatDoorR4
import Derived.Test.YtdhmekpgplajmaaGreatDoorProg
import Derived.Test.YtdhmekpgplajmaaGreatDoorR3
import Derived.Laws.Bits64b
import Derived.Test.YtdhmekpgplajmaaGreatDoorR2
section
namespace Go.Proofs.YtdhmekpgplajmaaGreatDoor
open Go.RowKit
/-- What abides new blocks, a turn of the block sB, and of blocks behind B0 that are no cells. -/
def Stands (B0 sB : Nat) (J : World → Prop) : Prop := ∀ A B row, J A → A.grownBy B row → (∀ r, row = some r → r = sB ∨ (B0 ≤ r ∧ ∃ o : Obj, A.heap[r]? = some o ∧ o.isCells = false)) → J B
theorem Stands.alloc {B0 sB : Nat} {J : World → Prop} (h : Stands B0 sB J) {A : World} (o : Obj) (hA : J A) : J (A.alloc o) := h A _ none hA (World.grownBy_alloc A o none) (fun _ e => by cases e)
theorem Stands.put {B0 sB : Nat} {J : World → Prop} (h : Stands B0 sB J) {A : World} {l : Nat} {o : Obj} (o' : Obj) (hA : J A) (hl : A.heap[l]? = some o) (ho : o.isCells = false) (hB : B0 ≤ l) : J (A.putObj l o') :=
  h A _ (some l) hA (grownBy_putObj' A l o') (fun r e => by cases e; exact .inr ⟨hB, o, hl, ho⟩)
theorem Stands.own {B0 sB : Nat} {J : World → Prop} (h : Stands B0 sB J) {A B : World} (hA : J A) (hg : A.grownBy B (some sB)) : J B := h A B _ hA hg (fun r e => by cases e; exact .inl rfl)
/-- A turn of one block, seen from a block of cells: it lies as it lay, if it is not sB. -/
theorem turn_box {A B : World} {row : Option Nat} {B0 sB b E : Nat} {c : Array Value} (hg : A.grownBy B row) (hr : ∀ r, row = some r → r = sB ∨ (B0 ≤ r ∧ ∃ o : Obj, A.heap[r]? = some o ∧ o.isCells = false)) (hb : Box A b c E) (hne : b ≠ sB) : Box B b c E := by
  refine (hg.block b hb.lt fun e => ?_).trans hb
  rcases hr b e.symm with h | ⟨_, o, ho, hc⟩
  · exact hne h
  · rw [show A.heap[b]? = _ from hb] at ho; cases ho; cases hc
/-- .. of the blocks below a height. -/
theorem turn_below {w A B : World} {row : Option Nat} {B0 sB n : Nat} (hg : A.grownBy B row) (hr : ∀ r, row = some r → r = sB ∨ (B0 ≤ r ∧ ∃ o : Obj, A.heap[r]? = some o ∧ o.isCells = false)) (h : Below n w A) (hs : n ≤ sB) (h0 : n ≤ B0) (hn : n ≤ A.heap.size) : Below n w B :=
  h.grown hg hn fun k e => by rcases hr k e with h1 | ⟨h1, _⟩ <;> omega
/-- The contract of such a function: it gives the elements of xs; where a round panics, it passes that on. -/
def SeqP {α : Type} (P : Program) (gf : Nat) (lb : Array Value) (encs : α → Array Value) (xs : List α) (sB : Nat) (ks : List Nat) (w : World) : Prop :=
  ∀ (l : Nat) (J : List α → World → Prop) (Jp : List PanicEntry → World → Prop) (W : World), Below w.heap.size w W →
    (∀ s A B, J s A → A.grownBy B (some sB) → J s B) → (∀ c A B, Jp c A → A.grownBy B (some sB) → Jp c B) →
    (∀ pre x post W1, xs = pre ++ x :: post → J pre W1 → YieldAt Fence.wide 0 P l (encs x) W1 fun e W' => (e = .returned (.bool true) ∧ J (pre ++ [x]) W' ∧ W1.heap.size ≤ W'.heap.size ∧ ∀ k ∈ ks, W'.heap[k]? = W1.heap[k]?) ∨ (∃ c, e = .panicked c ∧ Jp c W')) →
    J [] W →
    CallsIn Fence.wide 0 P gf (#[.func (.yield l) #[] #[]] ++ lb) W fun e W' => (∃ v, e = .returned v ∧ J xs W') ∨ (∃ c, e = .panicked c ∧ Jp c W')
theorem wpAt_block {f : FuncId} {P : Program} {id : Nat} {c : Code} {Q : Exit → Act → World → Prop} {a : Act} {w : World}
    (h : WpAt f P c (fun e a w => match e with | .normal => Q .normal a w | .panic ch => Q (.panic ch) a w | _ => False) a w) : WpAt f P (.block id c) Q a w := fun b k cs hb hf => by
  obtain ⟨e, a1, w1, hq, hs⟩ := h b (.inBlock id :: k) cs hb hf
  have s0 : StepsIn (Machine.fenced P Fence.wide) P (lone (b.atR a (.code (.block id c) :: k)) cs w) _ := .one (fenced_wide _ _) stepR_block
  match e, hq, hs with
  | .normal, hq, hs => exact ⟨.normal, a1, w1, hq, (s0.trans hs).trans (.one (fenced_wide _ _) stepR_inBlock)⟩
  | .panic ch, hq, hs => exact ⟨.panic ch, a1, w1, hq, .of_steps s0 hs⟩
/-- How the body of a round may be left. -/
def eachPost {α : Type} (I : List α → World → Prop) (Ip : List PanicEntry → World → Prop) (ks : List Nat) (xs : List α) (W : World) : Exit → Act → World → Prop
  | .normal, _, W' => KeepsOthers W W' ∧ (∀ k ∈ ks, W'.heap[k]? = W.heap[k]?) ∧ I xs W'
  | .panic ch, a, W' => a.defers = [] ∧ KeepsOthers W W' ∧ Ip ch W'
  | _, _, _ => False
theorem wpAt_each {α : Type} {f : FuncId} {P : Program} {fn : Func} {g : Operand} {ps : Array Tmp} {assign body : Code} {Q : Exit → Act → World → Prop} {a : Act} {w : World} {gf : Nat} {lb : Array Value}
    (hf : P.funcs[f]? = some fn) (hg : a.eval g = .func (.func gf) #[] lb) (eg : ∀ args w, (callFunc gf args).run P w = .ok (.enter gf args) w)
    {encs : α → Array Value} {xs : List α} {sB : Nat} {ks : List Nat} (hseq : SeqP P gf lb encs xs sB ks w) (hsB : sB < w.heap.size) (hks : ∀ k ∈ ks, k < w.heap.size) (hps : ∀ x, (encs x).size = ps.size)
    (I : List α → World → Prop) (Ip : List PanicEntry → World → Prop) (hI : ∀ s, Stands w.heap.size sB (I s)) (hIp : ∀ c, Stands w.heap.size sB (Ip c)) (h0 : I [] w) (a1 : α → Act)
    (hassign : ∀ (l : Nat) (x : α) (W : World) (K : Act → World → Prop), K (a1 x) W →
      assign.wpIn (Fence.wide.inRound l) 0 P (Exit.then K (fun _ _ _ => False)) { tmps := (ps.zip (encs x)).foldl (fun t (p, v) => t.setIfInBounds p v) a.tmps, defers := [] } W)
    (hbody : ∀ (l : Nat) (pre : List α) (x : α) (post : List α) (W : World), xs = pre ++ x :: post → I pre W → body.wpIn (Fence.wide.inRound l) 0 P (eachPost I Ip ks (pre ++ [x]) W) (a1 x) W)
    (hdone : ∀ (D : Nat) (W : World), w.heap.size ≤ D → I xs W → W.heap[D]? = some (.deferred (some [])) → Q .normal { a with defers := { target := .collected D, args := #[] } :: a.defers } W)
    (hpan : ∀ (D : Nat) (c : List PanicEntry) (W : World), w.heap.size ≤ D → Ip c W → W.heap[D]? = some (.deferred (some [])) → Q (.panic c) { a with defers := { target := .collected D, args := #[] } :: a.defers } W) :
    WpAt f P (.rangeFunc g ps assign body) Q a w := by
  obtain ⟨rec, hrec⟩ : ∃ rec : LoopState → Loop, rec = fun st => { state := st, pending := none, fn := f, tmps := a.tmps, params := ps, assign, body, defers := w.heap.size } := ⟨_, rfl⟩
  obtain ⟨W1, hW1⟩ : ∃ W1, (w.alloc (.deferred (some []))).alloc (.loop (rec .ready)) = W1 := ⟨_, rfl⟩
  have hL1 : W1.heap[w.heap.size + 1]? = some (.loop (rec .ready)) := by
    rw [← hW1]; have := World.alloc_heap_new (w.alloc (.deferred (some []))) (.loop (rec .ready)); rwa [World.size_alloc] at this
  have hD1 : W1.heap[w.heap.size]? = some (.deferred (some [])) := by
    rw [← hW1]; exact (Below.heap_alloc _ _ _ (by simp)).trans (World.alloc_heap_new w _)
  have hI1 : I [] W1 := by rw [← hW1]; exact (hI []).alloc _ ((hI []).alloc _ h0)
  have hb1 : Below w.heap.size w W1 := by rw [← hW1]; exact ((Below.refl _ w).alloc (Nat.le_refl _) _).alloc (by simp) _
  have hkeep : ∀ {A B : World} {k : Nat} {o : Obj}, A.grownBy B (some sB) → k ≠ sB → A.heap[k]? = some o → B.heap[k]? = some o := fun hg hne hk =>
    (hg.block _ (Array.getElem?_eq_some_iff.1 hk).1 (fun e => hne (by cases e; rfl))).trans hk
  refine wpAt_rangeFunc (l := w.heap.size + 1) (mark := [{ target := .collected w.heap.size, args := #[] }]) (w1 := W1) (w1' := W1) (w2 := W1) (gf := gf)
    (d := { target := .fn (.func gf) lb, args := #[.func (.yield (w.heap.size + 1)) #[] #[]] }) (args := #[.func (.yield (w.heap.size + 1)) #[] #[]] ++ lb) ?_ ?_ ?_ ?_
  · rw [← hW1, hrec]; exact run_enterLoop_outer _ _ _ _ _
  · simp only [resolve, hg]
    simp [go_sem]
  · simp [invoke, go_sem, eg]
  · refine (hseq (w.heap.size + 1)
      (fun pre W => I pre W ∧ W.heap[w.heap.size + 1]? = some (.loop (rec .ready)) ∧ W.heap[w.heap.size]? = some (.deferred (some [])))
      (fun c W => Ip c W ∧ W.heap[w.heap.size]? = some (.deferred (some []))) W1 hb1
      (fun s A B hs hg' => ⟨(hI s).own hs.1 hg', hkeep hg' (by omega) hs.2.1, hkeep hg' (by omega) hs.2.2⟩)
      (fun c A B hs hg' => ⟨(hIp c).own hs.1 hg', hkeep hg' (by omega) hs.2⟩) ?_ ⟨hI1, hL1, hD1⟩).mono ?_
    · rintro pre x post W hxs ⟨hi, hl, hk⟩
      have hlt : w.heap.size + 1 < W.heap.size := (Array.getElem?_eq_some_iff.1 hl).1
      have hy := run_yield (P := P) (args := encs x) hl (by rw [hrec]; exact hps x)
      rw [hrec] at hy
      obtain ⟨W2, hW2⟩ : ∃ W2, W.putObj (w.heap.size + 1) (.loop (rec .busy)) = W2 := ⟨_, rfl⟩
      have hbg : (Instr.beginRound (w.heap.size + 1)).run P W = .ok () W2 := by
        have := run_beginRound (P := P) hl (by rw [hrec]); rw [hrec] at this; rw [← hW2, hrec]; exact this
      refine ⟨f, _, assign, body, hy, roundIn_panics hf (hassign _ x W _ ⟨W2, hbg, ?_⟩)⟩
      have hl2 : W2.heap[w.heap.size + 1]? = some (.loop (rec .busy)) := by rw [← hW2]; exact World.putObj_heap_same hlt
      have hk2 : W2.heap[w.heap.size]? = some (.deferred (some [])) := by rw [← hW2]; exact (World.putObj_heap_other (by omega)).trans hk
      have hs2 : ∀ k ∈ ks, W2.heap[k]? = W.heap[k]? := fun k hk => by have := hks k hk; rw [← hW2]; exact World.putObj_heap_other (by omega)
      have hz2 : W2.heap.size = W.heap.size := by rw [← hW2]; simp
      have hi2 : I pre W2 := by rw [← hW2]; exact (hI pre).put _ hi hl rfl (Nat.le_succ _)
      refine wpIn_mono (hbody _ pre x post W2 hxs hi2) ?_
      intro e a3 W3 hp
      match e, hp with
      | .normal, ⟨hk3, hs3, hi3⟩ =>
        have hl3 := hk3.same _ _ hl2 rfl
        have hend := run_endRound (P := P) none hl3
        refine ⟨_, _, hend, .inl ⟨rfl, ⟨(hI _).put _ hi3 hl3 rfl (Nat.le_succ _), ?_, (World.putObj_heap_other (by omega)).trans (hk3.same _ _ hk2 rfl)⟩, ?_, ?_⟩⟩
        · rw [World.putObj_heap_same (Array.getElem?_eq_some_iff.1 hl3).1, hrec]; rfl
        · rw [World.putObj_size, ← hz2]; exact hk3.size
        · exact fun k hk => (World.putObj_heap_other (by have := hks k hk; omega)).trans ((hs3 k hk).trans (hs2 k hk))
      | .panic c, ⟨hd3, hk3, hi3⟩ => exact ⟨hd3, .inr ⟨c, rfl, hi3, hk3.same _ _ hk2 rfl⟩⟩
    · rintro e W2 (⟨v, rfl, hi, hl, hk⟩ | ⟨c, rfl, hi, hk⟩)
      · have hend := run_endLoop (P := P) hl (by rw [hrec]; simp)
        rw [hrec] at hend
        exact ⟨none, _, hend, hdone _ _ (Nat.le_refl _) ((hI _).put _ hi hl rfl (Nat.le_succ _)) ((World.putObj_heap_other (by omega)).trans hk)⟩
      · exact hpan _ c _ (Nat.le_refl _) hi hk
end Go.Proofs.YtdhmekpgplajmaaGreatDoor
end
section
namespace Go.Proofs.YtdhmekpgplajmaaGreatDoor
open Go.RowKit
theorem append_block {P : Program} {w : World} {base t ty e size bytes n m c : Nat} {i : TypeInfo} {z v : Value} {xs news : List Value} {a : Addr} (ht : P.underlying t = some (.slice e)) (hi : P.info? e = some i) (hz : i.zero = some z)
    (hsize : i.size = size) (hby : i.bytes = bytes) (hown : w.ownsRow base e size v n xs) (hl : news.length = m * size) (hnews : ∀ j u, news[j]? = some u → w.cell? (a.add j) = some u) (h1 : ∀ u ∈ news, u.oneCell' = true) (hm : 0 < m)
    (h63 : n + m ≤ maxLen) (hbytes : (n + m) * bytes ≤ 140737488355328) {v' : Value} {w' : World} (hr : (Builtin.append_ #[t, t] ty #[v, .slice (some a) m c]).run P w = .ok v' w') :
    v'.ownBlock = v.ownBlock ∨ v'.ownBlock = some w.heap.size := by
  subst hsize
  subst hby
  have hsm : n + m ≤ 9223372036854775807 := h63
  rcases hown.2 with ⟨rfl, rfl⟩ | ⟨g, cap, cur, rfl, hbg, hg, hnc, hcm, hcs, htake⟩
  · rw [run_append_nil (P := P) w t ty e i z ht hi hz a m c news hl hnews hm (by omega) (by rw [Nat.zero_add] at hbytes; omega)] at hr
    cases hr
    exact .inr rfl
  · by_cases hroom : n + m ≤ cap
    · rw [run_append_room (P := P) w t ty e i ht hi g n cap cur hg a m c news hl hnews h1 hroom (by rw [hl, hcs, ← Nat.add_mul]; exact Nat.mul_le_mul_right _ hroom)] at hr
      cases hr
      exact .inl rfl
    · have hx : xs.length = n * i.size := hown.1
      rw [run_append_grow (P := P) w t ty e i z ht hi hz ⟨g, 0, none⟩ n cap xs hx (hown.cells (g := g) rfl) a m c news hl hnews (by omega) (by omega) (growslice_fits (by omega) hbytes)] at hr
      cases hr
      exact .inr rfl
/-- One element more, as one step. -/
theorem wp_append1F {α : Type} {w : World} {base E size : Nat} {enc : α → List Value} {v : Value} {xs : List α} {P : Program} {o : Oper} {a : Act} {K : Act → World → Prop} {Q : Exit → Act → World → Prop} (s x : Operand) (t : TypeId)
    (ho : o.op = .call { callee := .builtin .append, args := #[s, x], argTypes := #[t, t] }) {z : Value} {bytes : Nat} (hE : ElemOK P t E z size bytes) (he : EncOK enc size)
    (hs : a.eval s = v) (hown : Own w base E size enc v xs) (ad : Addr) (c : Nat) (y : α) (hx : a.eval x = .slice (some ad) 1 c) (hnews : ∀ j u, (enc y)[j]? = some u → w.cell? (ad.add j) = some u)
    (h63 : xs.length + 1 ≤ maxLen) (hbytes : (xs.length + 1) * bytes ≤ 140737488355328) (hbase : base ≤ w.heap.size)
    (h : ∀ a' cap' w', Own w' base E size enc (.slice a' (xs.length + 1) cap') (xs ++ [y]) → w.grownBy w' v.ownBlock → ((Value.slice a' (xs.length + 1) cap').ownBlock = v.ownBlock ∨ (Value.slice a' (xs.length + 1) cap').ownBlock = some w.heap.size) → K (a.put o.dst (.slice a' (xs.length + 1) cap')) w') : Oper.wp P o a w K Q := by
  obtain ⟨i, hi, hz, hsz, hby⟩ := hE.info
  obtain ⟨v', w', hr, h2, h3, _⟩ := run_append_own (P := P) w base t o.type E i z size bytes hE.slice hi hz hsz hby hE.zsize hE.pos v xs.length (xs.flatMap enc) (hown.toRow he) ad 1 c (enc y) (by rw [he.len, Nat.one_mul]) hnews (he.one y) h63 hbytes hbase
  have hb := append_block (c := c) hE.slice hi hz hsz hby (hown.toRow he) (by rw [he.len, Nat.one_mul]) hnews (he.one y) (Nat.succ_pos 0) h63 hbytes hr
  have hr' : Own w' base E size enc v' (xs ++ [y]) := by
    refine Own.ofRow ?_ he
    rw [List.length_append, List.flatMap_append]
    simpa using h2
  obtain ⟨a', cap', rfl⟩ := hr'.form
  have e : (xs ++ [y]).length = xs.length + 1 := by simp
  rw [e] at hr' hb hr
  have hk := h a' cap' w' hr' h3 hb
  unfold Oper.wp execOp
  simp only [ho, resolve, invoke, builtin, Sem.run_bind, Sem.run_pure, Result.andThen_ok, List.map_toArray, List.map_cons, List.map_nil, hs, hx, hr]
  exact hk
/-- A slice of the call's own, behind a turn of a block that is not its own. -/
theorem Own.grownNe {α : Type} {w w' : World} {base E size : Nat} {enc : α → List Value} {v : Value} {xs : List α} {row : Option Nat} (h : Own w base E size enc v xs) (hg : w.grownBy w' row) (hne : ∀ k, v.ownBlock = some k → row ≠ some k) : Own w' base E size enc v xs := by
  obtain ⟨a, cap, rfl, hle, hm, hh⟩ := h
  refine ⟨a, cap, rfl, hle, hm, ?_⟩
  rcases hh with hh | ⟨g, cur, rfl, hbg, hb, hr⟩
  · exact .inl hh
  · exact .inr ⟨g, cur, rfl, hbg, (hg.block g hb.lt (fun e => hne g rfl e.symm)).trans hb, hr⟩
/-- .. of other elements. -/
theorem Own.grownT {α β : Type} {w w' : World} {base base2 E E2 size size2 : Nat} {enc : α → List Value} {enc2 : β → List Value} {v v2 : Value} {xs : List α} {ys : List β} (h : Own w base E size enc v xs) (h2 : Own w base2 E2 size2 enc2 v2 ys) (hg : w.grownBy w' v2.ownBlock) (hE : E ≠ E2) : Own w' base E size enc v xs :=
  h.grownNe hg fun k h1 h3 => by
    obtain ⟨_, c1, b1⟩ := h.block k h1
    obtain ⟨_, c2, b2⟩ := h2.block k h3
    exact hE (b1.type_eq b2)
end Go.Proofs.YtdhmekpgplajmaaGreatDoor
end
section
namespace Go.Proofs.YtdhmekpgplajmaaGreatDoor
open Go.RowKit Go.Shelf
attribute [local go_sem] Oper.semAt_some

/-- The library's table lies where its variable is. -/
def Tab (w : World) : Prop := ∀ j, j < 64 → w.cell? ⟨1, j, none⟩ = some (.int .u8 (Lib.deBruijn64tab.getD j 0))
theorem Tab.block {w : World} (h : Tab w) : ∃ o, w.heap[1]? = some o ∧ o.isCells = true := cells_of_cell (h 0 (by decide))
theorem Tab.keptC {X : Nat → Prop} {w w' : World} (h : Tab w) (hx : ¬ X 1) (hk : KeepC X w w') : Tab w' := fun j hj => hk.cell hx (h j hj)
theorem Tab.kept {w w' : World} (h : Tab w) (hb : Below w.heap.size w w') : Tab w' := h.keptC (X := fun _ => False) id (KeepC.below hb)
theorem Tab.pos {w : World} (h : Tab w) : 1 < w.heap.size := by obtain ⟨o, ho, _⟩ := h.block; exact (Array.getElem?_eq_some_iff.1 ho).1
theorem tz_key (x a : Nat) (hx : x < 18446744073709551616) (hx0 : x ≠ 0) (hlow : x &&& (18446744073709551616 - x) = a) :
    IntKind.u64.wrap (bits BinOp.and IntKind.u64 (x : Int) (IntKind.u64.wrap (-(x : Int))) * 285870213051353865) / 288230376151711744 = ((a * 285870213051353865 % 18446744073709551616 / 288230376151711744 : Nat) : Int) := by
  have e1 : IntKind.u64.wrap (-(x : Int)) = ((18446744073709551616 - x : Nat) : Int) := by rw [IntKind.wrap_u64]; omega
  rw [e1, bits_and_u64_nat x _ hx (by omega), hlow, IntKind.wrap_u64]
  omega
set_option maxHeartbeats 1000000 in
theorem tz64_core (x k idx : Nat) (w : World) (hx0 : ((x : Int) == 0) = false)
    (key : IntKind.u64.wrap (bits BinOp.and IntKind.u64 (x : Int) (IntKind.u64.wrap (-(x : Int))) * 285870213051353865) / 288230376151711744 = (idx : Int))
    (hi : idx < 64) (hcell : w.cell? ⟨1, idx, none⟩ = some (.int .u8 k)) (hk : k < 64) :
    Calls Tryz.prog 107 #[.int .u64 x] w fun e w' => e = .returned (.int .i64 k) ∧ w' = w := by
  go_enter Tryz.func107, Tryz.ntmps107
  go_wp2_with (simp only [key])
  go_ret
  exact ⟨rfl, rfl⟩
theorem tz64 (x : Nat) (h0 : x ≠ 0) (hx : x < 18446744073709551616) (w : World) (hT : Tab w) :
    Calls Tryz.prog 107 #[.int .u64 x] w fun e w' => e = .returned (.int .i64 (Lib.ctz 64 x : Nat)) ∧ w' = w := by
  obtain ⟨hlow, hk⟩ := Lib.lowest_bit 64 x h0 hx
  obtain ⟨hi, htab⟩ := Lib.deBruijn64_at _ hk
  have hcell := hT _ hi
  rw [htab] at hcell
  exact tz64_core x _ _ w (by simp; omega) (tz_key x _ hx h0 hlow) hi hcell hk
abbrev enc8 (x : Nat) : Array Value := #[.int .u8 x]
def EachRel (X : Nat → Prop) (J : List Nat → World → Prop) (s : BSet) (W wr : World) (i : Value) : Prop :=
  ∃ j pre, j ≤ 4 ∧ i = .int .i64 (j : Nat) ∧ pre ++ tailS s j (4 - j) = elems s ∧ J pre wr ∧ KeepC X W wr
def EachRel2 (X : Nat → Prop) (J : List Nat → World → Prop) (s : BSet) (j : Nat) (W wr : World) (v : Value) : Prop :=
  ∃ u pre : _, u < 18446744073709551616 ∧ v = .int .u64 (u : Nat) ∧ pre ++ (listW j u ++ tailS s (j + 1) (3 - j)) = elems s ∧ J pre wr ∧ KeepC X W wr
theorem and_pred (u : Nat) (h0 : u ≠ 0) (h : u < 18446744073709551616) : bits BinOp.and IntKind.u64 (u : Int) ((u : Int) - 1) = ((u &&& (u - 1) : Nat) : Int) := by
  rw [show ((u : Int) - 1) = ((u - 1 : Nat) : Int) by omega, bits_and_u64_nat u _ h (by omega)]
set_option maxRecDepth 100000 in
set_option maxHeartbeats 2000000 in
theorem each1_in (n l Bs : Nat) (X : Nat → Prop) (h0X : ¬ X 1) (J Jx : List Nat → World → Prop) (s : BSet)
    (hY : ∀ pre x W, J pre W → pre.length < (elems s).length → x < 256 → YieldAt Fence.wide (n - 1) Tryz.prog l (enc8 x) W fun e W' => (e = .returned (.bool true) ∧ J (pre ++ [x]) W' ∧ KeepC X W W') ∨ (e = .returned (.bool false) ∧ Jx (pre ++ [x]) W'))
    (W : World) (hT : Tab W) (hBs : Box W Bs (setC s) 43) (h0 : J [] W) :
    CallsIn Fence.wide n Tryz.prog 106 #[.func (.yield l) #[] #[], .pointer (some ⟨Bs, 0, none⟩)] W fun e W' => (∃ v, e = .returned v) ∧ ((∃ ys, ys = elems s ∧ J ys W') ∨ (∃ pre, pre <+: elems s ∧ Jx pre W')) := by
  obtain ⟨c0, c1, c2, c3⟩ := hBs.set4
  refine callsIn_of_wp Tryz.func106 rfl trivial ?_ rfl
  simp only [Tryz.ntmps106, List.size_toArray, List.length_cons, List.length_nil, Nat.reduceAdd, Nat.reduceSub, Array.replicate_succ, Array.replicate_zero, List.push_toArray, List.append_toArray, List.nil_append, List.cons_append]
  gi_wp2
  gi_loopw [6] (fun i wr => EachRel X J s W wr i) (fun i _ => 4 - (intOf i).toNat)
  case atStart => exact ⟨0, [], by omega, rfl, by rw [List.nil_append]; exact (elems_words s).symm, h0, KeepC.refl _ _⟩
  case round =>
    obtain ⟨j, pre, hj, rfl, he, hJr, hkr⟩ := hrel
    by_cases hlt : j < 4
    · have gw := index_set s j hlt
      have hdj : decide ((j : Int) < 4) = true := decide_eq_true (by omega)
      rw [show 4 - j = (3 - j) + 1 by omega, tailS] at he
      have hu := word_lt s j
      generalize word s j = u0 at *
      gi_wp2
      gi_loopw [4] (fun v wr => EachRel2 X J s j W wr v) (fun v _ => (intOf v).toNat)
      case atStart => exact ⟨_, pre, hu, rfl, he, hJr, hkr⟩
      case round =>
        obtain ⟨u, pre, hu, rfl, he, hJr, hkr⟩ := hrel
        by_cases hz : u = 0
        · subst hz
          rw [listW, elemsW_zero, List.map_nil, List.nil_append] at he
          gi_wp2
          exact ⟨⟨j + 1, pre, hlt, by simp, by rw [show 4 - (j + 1) = 3 - j by omega]; exact he, hJr, hkr⟩, by simp [intOf]; omega⟩
        · have hne : ((u : Int) != 0) = true := by simp; omega
          obtain ⟨hls, hk, hdec⟩ := low_step u hz hu
          have hand := and_pred u hz hu
          have hlw : listW j u = (64 * j + Lib.ctz 64 u) :: listW j (u &&& (u - 1)) := by rw [listW, hls]; rfl
          have hl : pre.length < (elems s).length := by
            rw [← he, listW, hls]; simp
          have hYY := hY pre (64 * j + Lib.ctz 64 u) wr hJr hl (by omega)
          rw [show enc8 (64 * j + Lib.ctz 64 u) = #[.int .u8 ((j : Int) * 64 + (Lib.ctz 64 u : Nat))] by simp only [enc8]; rw [show ((64 * j + Lib.ctz 64 u : Nat) : Int) = (j : Int) * 64 + (Lib.ctz 64 u : Nat) by omega]] at hYY
          obtain ⟨fn, tmps, assign, body, hy, hR⟩ := hYY
          have HT := Lib.hid (hT.keptC h0X hkr)
          have TZ := fun w hT => tz64 u hz hu w hT
          generalize Lib.ctz 64 u = k at *
          have hdd : ∀ k : Nat, (Fence.wide.depth.isSome = true → 1 ≤ k) := fun k h => by cases h
          gi_wp2_with (first | (refine ⟨trivial, hdd _, ?_⟩; gi_at_call 107; go_must (refine (callsIn_wide.2 (TZ _ HT.out)).mono ?_; rintro e w1 ⟨rfl, rfl⟩)) | (refine ⟨hdd _, ?_⟩; refine hR.mono ?_; clear hR; rintro e W2 (⟨rfl, hJ2, hk2⟩ | ⟨rfl, hx2⟩)))
          · refine ⟨⟨u &&& (u - 1), pre ++ [64 * j + k], by omega, rfl, ?_, hJ2, hkr.trans hk2⟩, by simp [intOf]; omega⟩
            rw [← he, hlw]; simp
          · refine bodyPost_ret (results_none rfl _ _ _) rfl ?_
            refine ⟨⟨_, rfl⟩, .inr ⟨_, ?_, hx2⟩⟩
            rw [← he, hlw]
            exact ⟨listW j (u &&& (u - 1)) ++ tailS s (j + 1) (3 - j), by simp⟩
    · obtain rfl : j = 4 := by omega
      rw [show tailS s 4 (4 - 4) = [] from rfl, List.append_nil] at he
      subst he
      gi_wp2
      go_end0
      exact ⟨⟨_, rfl⟩, .inl ⟨_, rfl, hJr⟩⟩
theorem each_stops (n Bs : Nat) (X : Nat → Prop) (s : BSet) (w : World) (h0X : ¬ X 1) (hT : Tab w) (hBs : Box w Bs (setC s) 43) :
    SeqStopsK Fence.wide n Tryz.prog 106 #[.pointer (some ⟨Bs, 0, none⟩)] enc8 (KeepC X) (fun ys => ys = elems s) (fun pre => pre <+: elems s) (elems s).length w := fun l J Jx W hW _ _ hY h0 =>
  each1_in n l Bs X h0X J Jx s (fun pre x W hj hl _ => hY pre x W hj hl) W (hT.kept hW) (hBs.kept hW) h0
/-- The same, where each byte bears that it is one. -/
abbrev encF (x : Fin 256) : Array Value := #[.int .u8 (x.val : Nat)]
theorem each_stopsF (n Bs : Nat) (X : Nat → Prop) (s : BSet) (w : World) (h0X : ¬ X 1) (hT : Tab w) (hBs : Box w Bs (setC s) 43) :
    SeqStopsK Fence.wide n Tryz.prog 106 #[.pointer (some ⟨Bs, 0, none⟩)] encF (KeepC X) (fun ys => ys.map (·.val) = elems s) (fun pre => pre.map (·.val) <+: elems s) (elems s).length w := fun l J Jx W hW _ _ hY h0 => by
  refine (each1_in n l Bs X h0X (fun pre W => ∃ p : List (Fin 256), p.map (·.val) = pre ∧ J p W) (fun pre W => ∃ p : List (Fin 256), p.map (·.val) = pre ∧ Jx p W) s
    (fun pre x W ⟨p, hp, hJ⟩ hl hx => (hY p ⟨x, hx⟩ W hJ (by rw [← hp] at hl; simpa using hl)).mono (fun e W' h => ?_)) W (hT.kept hW) (hBs.kept hW) ⟨[], rfl, h0⟩).mono (fun e W' h => ?_)
  · rcases h with ⟨h1, h2, h3⟩ | ⟨h1, h2⟩
    · exact .inl ⟨h1, ⟨_, by simp [hp], h2⟩, h3⟩
    · exact .inr ⟨h1, _, by simp [hp], h2⟩
  · rcases h with ⟨h1, ⟨_, rfl, p, hp, h2⟩ | ⟨_, h3, p, rfl, h2⟩⟩
    · exact ⟨h1, .inl ⟨p, hp, h2⟩⟩
    · exact ⟨h1, .inr ⟨p, h3, h2⟩⟩
theorem each_at (s : BSet) (w : World) : Calls Tryz.prog 90 #[.agg (setC s)] w fun e w' => e = .returned (.func (.func 106) #[] #[.pointer (some ⟨w.heap.size, 0, none⟩)]) ∧ w' = w.alloc (.cells (setC s) 43) := by
  go_enter Tryz.func90, Tryz.ntmps90
  go_wp2
  go_ret
  exact ⟨rfl, rfl⟩
end Go.Proofs.YtdhmekpgplajmaaGreatDoor
end
section
namespace Go.Proofs.YtdhmekpgplajmaaGreatDoor
open Go.RowKit Go.Shelf
attribute [local go_sem] Oper.semAt_some

theorem elems_zero : elems 0 = [] := by
  unfold elems
  exact List.filter_eq_nil_iff.2 fun x _ => by rw [mem_zero]; simp
theorem elem_u8 : ElemOK Tryz.prog 56 5 (.int .u8 0) 1 1 := ⟨Tryz.underlying56, info_parts (by kernel_rfl), rfl, by decide⟩
def BytesI (b B0 : Nat) (w : World) (pre : List Nat) (W : World) : Prop := (∃ (a : Option Addr) (cap : Nat), Box W (b + 1) #[.slice a pre.length cap] 56 ∧ Own W B0 5 1 encB (.slice a pre.length cap) pre) ∧ B0 ≤ W.heap.size ∧ Below b w W
set_option maxRecDepth 100000 in
set_option maxHeartbeats 2000000 in
theorem sets_Bytes (s : BSet) (w : World) (hT : Tab w) : Calls Tryz.prog 75 #[.agg (setC s)] w (RetOwn w 5 1 encB (elems s)) := by
  have hq := run_eqS (P := Tryz.prog) (t := 43) (e := 41) Tryz.underlying43 Tryz.underlying41 (by kernel_rfl) s 0
  unfold setV at hq
  rw [setC_zero] at hq
  by_cases h0 : s = 0
  · rw [decide_eq_true h0] at hq
    have e : elems s = [] := by rw [h0]; exact elems_zero
    rw [e]
    clear h0 e
    go_enter Tryz.func75, Tryz.ntmps75
    go_wp2
    go_ret
    exact ⟨none, 0, rfl, Own.nil _ _ _ _ _, by go_grown⟩
  · rw [decide_eq_false h0] at hq
    clear h0
    have hlen := elems_length s
    have hN := each_at s
    refine (callsIn_wide (n := 6)).1 ?_
    refine callsIn_of_wp_marks Tryz.func75 rfl trivial ?_ rfl
    simp only [Tryz.ntmps75, List.size_toArray, List.length_cons, List.length_nil, Nat.reduceAdd, Nat.reduceSub, Array.replicate_succ, Array.replicate_zero, List.push_toArray, List.append_toArray, List.nil_append, List.cons_append]
    gi_wp2_with (refine ⟨trivial, ?_⟩; gi_at_call 90; refine (callsIn_wide.2 (hN _)).mono ?_; rintro e w' ⟨rfl, rfl⟩)
    obtain ⟨W0, hW0⟩ : ∃ W0, (((w.alloc (.cells (setC s) 43)).alloc (.cells #[.slice none 0 0] 56)).alloc (.cells (setC s) 43)) = W0 := ⟨_, rfl⟩
    have hB0 : Below w.heap.size w W0 := by rw [← hW0]; go_grown
    have hsz0 : W0.heap.size = w.heap.size + 1 + 1 + 1 := by rw [← hW0]; simp
    have hbt : Box W0 (w.heap.size + 1 + 1) (setC s) 43 := by rw [← hW0]; exact Box.new' (by simp) _ _
    have hn0 : Box W0 (w.heap.size + 1) #[.slice none 0 0] 56 := by rw [← hW0]; exact (Box.new' (by simp) _ _).alloc _
    rw [hW0]
    clear hW0 hq
    have hpos := hT.pos
    have hst := each_stops 5 (w.heap.size + 1 + 1) (fun b => b = w.heap.size + 1 ∨ W0.heap.size ≤ b) s W0 (by omega) (hT.kept hB0) hbt
    refine wpIn_rangeFunc_ownF rfl (by decide) (gf := 106) (lb := #[.pointer (some ⟨w.heap.size + 1 + 1, 0, none⟩)]) rfl trivial (enters_of Tryz.func106 (by kernel_rfl) rfl)
      hst (fun h k => h.trans k) keepC_b (Below.refl _ _) (fun _ => rfl)
      (BytesI w.heap.size W0.heap.size w) (fun _ _ _ => False)
      (OwnFrom.and (fun pre W W' row ⟨a, cap, h1, h2⟩ hg hr => ⟨a, cap, ownFrom_box _ _ _ (fun _ : Unit => #[.slice a pre.length cap]) () W W' row h1 hg hr, ownFrom_own _ _ _ _ _ (fun _ : Unit => .slice a pre.length cap) (fun _ => pre) () W W' row h2 hg hr⟩)
        (OwnFrom.and (fun _ _ _ _ h hg _ => Nat.le_trans h hg.size) (ownFrom_below (Nat.le_refl _) (by omega))))
      (fun _ => ownFrom_false _) ⟨⟨none, 0, hn0, Own.nil _ _ _ _ _⟩, Nat.le_refl _, hB0⟩
      (fun x => { tmps := #[.agg (setC s), .pointer (some ⟨w.heap.size, 0, none⟩), .slice none 0 0, .pointer (some ⟨w.heap.size + 1, 0, none⟩), .int .u8 (x : Nat), .agg (setC s), .agg #[.int .u64 0, .int .u64 0, .int .u64 0, .int .u64 0], .bool false, .agg (setC s), .func (.func 106) #[] #[.pointer (some ⟨w.heap.size + 1 + 1, 0, none⟩)], .int .u8 (x : Nat), undef, undef, undef, undef, undef], defers := [] }) ?assign ?body ?done ?stop
    case assign =>
      intro l x W K hK
      dsimp only [enc8]
      go_simp
      gi_wp2
      exact hK
    case body =>
      rintro l pre x W ⟨⟨a, cap, hb, hown⟩, hWs, hB⟩ hlt
      have c0 := hb.cell 0
      have f0 := hb.free 0
      have hle : pre.length + 1 ≤ 256 := by omega
      gi_wp2_with (gi_at_builtin; go_must (refine wpListIn_append1 rfl _ _ 56 rfl elem_u8 encB_ok rfl (hown.alloc _) ⟨W.heap.size, 0, none⟩ 1 x rfl (new_cells W [.int .u8 (x : Nat)] _) (by simp [maxLen]; omega) (by omega) (by simp; omega) ?_; intro a' cap' W' hown' hg; change (W.alloc _).grownBy W' (Value.slice a pre.length cap).ownBlock at hg; have hbs := (hb.alloc _).grown (hown.alloc _) hg (by omega); have hfs := hbs.free 0; have hcs := hbs.cell 0))
      have hlen' : (pre ++ [x]).length = pre.length + 1 := by simp
      refine ⟨((KeepsOthers.alloc _ _).trans (KeepsOthers.grownOwn (hown.alloc _) hg)).trans (KeepsOthers.setCell _ _ _), ((KeepC.below ((Below.refl _ W).alloc (Nat.le_refl _) _)).trans (KeepC.grown (hown.alloc _) hg (fun b hb => .inr hb))).trans (KeepC.set _ _ _ (.inl rfl)), ⟨a', cap', ?_, ?_⟩, ?_, ?_⟩
      · rw [hlen']; exact hbs.set 0 _
      · rw [hlen']; exact hown'.other _ _ (by simp; omega)
      · have := hg.size; simp at this ⊢; omega
      · exact (below_grown (hB.alloc hB.size _) (hown.alloc _) hg (by omega) (by simp; omega)).setCell (by simp) _
    case done =>
      rintro D ys W hD rfl ⟨⟨a, cap, hb, hown⟩, hWs, hB⟩ hK
      have c0 := hb.cell 0
      gi_wp2
      refine ⟨by simp, .inl ⟨_, _, rfl, run_takeDeferred hK, ?_⟩⟩
      refine ⟨_, results_tmp rfl _ _ _, a, cap, rfl, ?_, hB.trans (belowK_b (w := w) (Nat.le_refl _) W D _ _ (by omega) hK rfl rfl)⟩
      exact (ownFrom_own W0.heap.size W0.heap.size 5 1 encB (fun _ : Unit => .slice a (elems s).length cap) (fun _ => elems s) () _ _ (some D) hown (grownBy_putObj' _ D (.deferred none)) (fun r e => by cases e; exact ⟨by omega, _, hK, rfl⟩)).mono (by omega)
    case stop =>
      rintro D c pre W _ _ h _
      exact h.elim
end Go.Proofs.YtdhmekpgplajmaaGreatDoor
end
section
namespace Go.Proofs.YtdhmekpgplajmaaGreatDoor
open Go.RowKit Go.Shelf
attribute [local go_sem] Oper.semAt_some

/-- One byte more, behind the pieces so far. -/
def addSpan (l : List (Nat × Nat)) (b : Nat) : List (Nat × Nat) :=
  match l.getLast? with
  | none => [(b, b)]
  | some p => if p.2 + 1 = b then l.dropLast ++ [(p.1, b)] else l ++ [(b, b)]
def spansL (xs : List Nat) : List (Nat × Nat) := xs.foldl addSpan []
theorem spansL_snoc (xs : List Nat) (b : Nat) : spansL (xs ++ [b]) = addSpan (spansL xs) b := by unfold spansL; rw [List.foldl_append]; rfl
theorem addSpan_length (l : List (Nat × Nat)) (b : Nat) : (addSpan l b).length ≤ l.length + 1 := by
  unfold addSpan
  split
  · simp
  · split
    · simp
    · simp
theorem spansL_length : ∀ xs : List Nat, (spansL xs).length ≤ xs.length := by
  suffices h : ∀ (xs : List Nat) (l : List (Nat × Nat)), (xs.foldl addSpan l).length ≤ l.length + xs.length from fun xs => by simpa [spansL] using h xs []
  intro xs
  induction xs with
  | nil => intro l; simp
  | cons a xs ih => intro l; have := ih (addSpan l a); have := addSpan_length l a; simp; omega
abbrev encQ (p : Nat × Nat) : List Value := [.int .u8 (p.1 : Nat), .int .u8 (p.2 : Nat)]
theorem encQ_ok : EncOK encQ 2 := ⟨fun _ => rfl, fun x u hu => by simp [encQ] at hu; rcases hu with rfl | rfl <;> rfl⟩
theorem Own.cellAt {α : Type} {w : World} {base E size g n cap : Nat} {enc : α → List Value} {xs : List α} (h : Own w base E size enc (.slice (some ⟨g, 0, none⟩) n cap) xs) {i j : Nat} (hi : i < xs.length) (hj : j < size) :
    w.cell? ⟨g, i * size + j, none⟩ = (enc xs[i])[j]? ∧ w.frozen? ⟨g, i * size + j, none⟩ = false ∧ base ≤ g ∧ g < w.heap.size := by
  obtain ⟨a, cap', hv, hle, hm, hh⟩ := h
  obtain ⟨rfl, _, _⟩ := Value.slice.inj hv
  rcases hh with ⟨h0, _⟩ | ⟨g', cur, ha, hb, hg, hs, hx⟩
  · cases h0
  · obtain rfl : g = g' := by simpa using ha
    exact ⟨by rw [hg.cell, hx i hi j hj], hg.free _, hb, hg.lt⟩
theorem Own.store1 {α : Type} {w : World} {base E size g n cap : Nat} {enc : α → List Value} {xs : List α} (h : Own w base E size enc (.slice (some ⟨g, 0, none⟩) n cap) xs) {i j : Nat} (hi : i < xs.length) (hj : j < size) (y : α) (v : Value)
    (hy : ∀ k, k < size → (enc y)[k]? = if k = j then some v else (enc xs[i])[k]?) : Own (w.setCell ⟨g, i * size + j, none⟩ v) base E size enc (.slice (some ⟨g, 0, none⟩) n cap) (xs.set i y) := by
  obtain ⟨a, cap', hv, hle, hm, hh⟩ := h
  obtain ⟨rfl, hn, rfl⟩ := Value.slice.inj hv
  rcases hh with ⟨h0, _⟩ | ⟨g', cur, ha, hb, hg, hs, hx⟩
  · cases h0
  · obtain rfl : g = g' := by simpa using ha
    refine ⟨_, cap, by rw [List.length_set, hn], by rwa [List.length_set], hm, .inr ⟨g, _, rfl, hb, hg.set _ _, by simpa using hs, fun i' hi' k hk => ?_⟩⟩
    rw [List.length_set] at hi'
    have hlt : i * size + j < cur.size := by rw [hs]; exact Nat.lt_of_lt_of_le (Nat.add_lt_add_left hj _) (by rw [← Nat.succ_mul]; exact Nat.mul_le_mul_right _ (by omega))
    rw [Array.getElem?_setIfInBounds]
    by_cases e : i = i'
    · subst e
      rw [List.getElem_set_self, hy k hk]
      by_cases e2 : k = j
      · subst e2; rw [if_pos rfl, if_pos hlt, if_pos rfl]
      · rw [if_neg (by omega), if_neg e2, hx i hi k hk]
    · rw [List.getElem_set_ne e, if_neg, hx i' hi' k hk]
      intro e2
      rcases Nat.lt_or_gt_of_ne e with h1 | h1
      · have := Nat.mul_le_mul_right size (show i + 1 ≤ i' by omega); rw [Nat.succ_mul] at this; omega
      · have := Nat.mul_le_mul_right size (show i' + 1 ≤ i by omega); rw [Nat.succ_mul] at this; omega
theorem spansL_lt (xs : List Nat) (hx : ∀ x ∈ xs, x < 256) : ∀ p ∈ spansL xs, p.1 < 256 ∧ p.2 < 256 := by
  suffices h : ∀ (xs : List Nat) (l : List (Nat × Nat)), (∀ x ∈ xs, x < 256) → (∀ p ∈ l, p.1 < 256 ∧ p.2 < 256) → ∀ p ∈ xs.foldl addSpan l, p.1 < 256 ∧ p.2 < 256 from h xs [] hx (fun p hp => by simp at hp)
  intro xs
  induction xs with
  | nil => intro l _ h; simpa using h
  | cons a xs ih =>
    intro l hx hl
    have ha := hx a (by simp)
    refine ih (addSpan l a) (fun x h => hx x (by simp [h])) ?_
    unfold addSpan
    split
    · intro p hp; simp at hp; subst hp; exact ⟨ha, ha⟩
    · rename_i q hq
      have hq' := hl q (List.mem_of_getLast? hq)
      split
      · intro p hp
        rcases List.mem_append.1 hp with h | h
        · exact hl p (List.dropLast_subset _ h)
        · simp at h; subst h; exact ⟨hq'.1, ha⟩
      · intro p hp
        rcases List.mem_append.1 hp with h | h
        · exact hl p h
        · simp at h; subst h; exact ⟨ha, ha⟩
theorem beq_t {hi x : Nat} (h : hi + 1 = x) : ((hi : Int) + 1 == (x : Int)) = true := by rw [beq_iff_eq]; omega
theorem beq_f {hi x : Nat} (h : ¬ hi + 1 = x) : ((hi : Int) + 1 == (x : Int)) = false := by rw [beq_eq_false_iff_ne]; omega
theorem addSpan_on (L0 : List (Nat × Nat)) (lo hi x : Nat) (h : hi + 1 = x) : addSpan (L0 ++ [(lo, hi)]) x = L0 ++ [(lo, x)] := by simp [addSpan, h]
theorem addSpan_new (L0 : List (Nat × Nat)) (lo hi x : Nat) (h : ¬ hi + 1 = x) : addSpan (L0 ++ [(lo, hi)]) x = L0 ++ [(lo, hi)] ++ [(x, x)] := by
  unfold addSpan; rw [List.getLast?_append]; simp [h]
theorem elem_pp : ElemOK Tryz.prog 96 98 (.agg #[.int .u8 0, .int .u8 0]) 2 2 := ⟨Tryz.underlying96, info_parts (by kernel_rfl), rfl, by decide⟩
abbrev valsF (l : List (Fin 256)) : List Nat := l.map (·.val)
def SpansI (b B0 : Nat) (w : World) (pre : List (Fin 256)) (W : World) : Prop := (∃ (a : Option Addr) (cap : Nat), Box W (b + 1) #[.slice a (spansL (valsF pre)).length cap] 96 ∧ Own W B0 98 2 encQ (.slice a (spansL (valsF pre)).length cap) (spansL (valsF pre))) ∧ B0 ≤ W.heap.size ∧ Below b w W
set_option maxRecDepth 100000 in
set_option maxHeartbeats 2000000 in
theorem sets_Spans (s : BSet) (w : World) (hT : Tab w) : Calls Tryz.prog 64 #[.agg (setC s)] w (RetOwn w 98 2 encQ (spansL (elems s))) := by
  have hlen := elems_length s
  have hN := each_at s
  refine (callsIn_wide (n := 6)).1 ?_
  refine callsIn_of_wp_marks Tryz.func64 rfl trivial ?_ rfl
  simp only [Tryz.ntmps64, List.size_toArray, List.length_cons, List.length_nil, Nat.reduceAdd, Nat.reduceSub, Array.replicate_succ, Array.replicate_zero, List.push_toArray, List.append_toArray, List.nil_append, List.cons_append]
  gi_wp2_with (refine ⟨trivial, ?_⟩; gi_at_call 90; refine (callsIn_wide.2 (hN _)).mono ?_; rintro e w' ⟨rfl, rfl⟩)
  obtain ⟨W0, hW0⟩ : ∃ W0, (((w.alloc (.cells (setC s) 43)).alloc (.cells #[.slice none 0 0] 96)).alloc (.cells (setC s) 43)) = W0 := ⟨_, rfl⟩
  have hB0 : Below w.heap.size w W0 := by rw [← hW0]; go_grown
  have hsz0 : W0.heap.size = w.heap.size + 1 + 1 + 1 := by rw [← hW0]; simp
  have hbt : Box W0 (w.heap.size + 1 + 1) (setC s) 43 := by rw [← hW0]; exact Box.new' (by simp) _ _
  have hn0 : Box W0 (w.heap.size + 1) #[.slice none 0 0] 96 := by rw [← hW0]; exact (Box.new' (by simp) _ _).alloc _
  rw [hW0]
  clear hW0
  have hpos := hT.pos
  have hst := each_stopsF 5 (w.heap.size + 1 + 1) (fun b => b = w.heap.size + 1 ∨ W0.heap.size ≤ b) s W0 (by omega) (hT.kept hB0) hbt
  refine wpIn_rangeFunc_ownF rfl (by decide) (gf := 106) (lb := #[.pointer (some ⟨w.heap.size + 1 + 1, 0, none⟩)]) rfl trivial (enters_of Tryz.func106 (by kernel_rfl) rfl)
    hst (fun h k => h.trans k) keepC_b (Below.refl _ _) (fun _ => rfl)
    (SpansI w.heap.size W0.heap.size w) (fun _ _ _ => False)
    (OwnFrom.and (fun pre W W' row ⟨a, cap, h1, h2⟩ hg hr => ⟨a, cap, ownFrom_box _ _ _ (fun _ : Unit => #[.slice a (spansL (valsF pre)).length cap]) () W W' row h1 hg hr, ownFrom_own _ _ _ _ _ (fun _ : Unit => .slice a (spansL (valsF pre)).length cap) (fun _ => spansL (valsF pre)) () W W' row h2 hg hr⟩)
      (OwnFrom.and (fun _ _ _ _ h hg _ => Nat.le_trans h hg.size) (ownFrom_below (Nat.le_refl _) (by omega))))
    (fun _ => ownFrom_false _) ⟨⟨none, 0, hn0, Own.nil _ _ _ _ _⟩, Nat.le_refl _, hB0⟩
    (fun x => { tmps := #[.agg (setC s), .pointer (some ⟨w.heap.size, 0, none⟩), .slice none 0 0, .pointer (some ⟨w.heap.size + 1, 0, none⟩), .int .u8 (x.val : Nat), undef, .agg (setC s), .func (.func 106) #[] #[.pointer (some ⟨w.heap.size + 1 + 1, 0, none⟩)], .int .u8 (x.val : Nat), undef, undef, undef, undef, undef, undef, undef, undef, undef, undef, undef, undef, undef, undef, undef, undef, undef, undef, undef, undef, undef, undef, undef, undef, undef, undef, undef, undef, undef, undef], defers := [] }) ?assign ?body ?done ?stop
  case assign =>
    intro l x W K hK
    dsimp only [encF]
    go_simp
    gi_wp2
    exact hK
  case body =>
    rintro l pre ⟨x, hx⟩ W ⟨⟨a, cap, hb, hown⟩, hWs, hB⟩ hlt
    rw [hsz0] at hown hWs
    clear hst hbt hn0 hN hT
    have c0 := hb.cell 0
    have f0 := hb.free 0
    have hsn : spansL (valsF (pre ++ [⟨x, hx⟩])) = addSpan (spansL (valsF pre)) x := by simp [valsF, spansL_snoc]
    have hl1 : (spansL (valsF pre)).length ≤ pre.length := by have := spansL_length (valsF pre); simpa [valsF] using this
    have hle : (spansL (valsF pre)).length + 1 ≤ 256 := by omega
    have hsl : ∀ p ∈ spansL (valsF pre), p.1 < 256 ∧ p.2 < 256 := spansL_lt _ fun y hy => by
      obtain ⟨z, _, rfl⟩ := List.mem_map.1 hy; exact z.isLt
    have HS := Lib.hid hsn
    clear hsn hl1
    generalize spansL (valsF pre) = L at *
    rcases List.eq_nil_or_concat L with rfl | ⟨L0, ⟨lo, hi⟩, rfl⟩
    · rw [show addSpan [] x = [(x, x)] from rfl] at HS
      gi_wp2_with (gi_at_builtin; go_must (refine wpListIn_append1 rfl _ _ 96 rfl elem_pp encQ_ok rfl (hown.alloc _) ⟨W.heap.size, 0, none⟩ 1 (x, x) rfl (new_cells W [.int .u8 (x : Nat), .int .u8 (x : Nat)] _) (by simp [maxLen]) (by simp) (by simp; omega) ?_; intro a' cap' W' hown' hg; change (W.alloc _).grownBy W' (Value.slice a 0 cap).ownBlock at hg; have hbs := (hb.alloc _).grown (hown.alloc _) hg (by omega); have hfs := hbs.free 0; have hcs := hbs.cell 0))
      refine ⟨((KeepsOthers.alloc _ _).trans (KeepsOthers.grownOwn (hown.alloc _) hg)).trans (KeepsOthers.setCell _ _ _), ((KeepC.below ((Below.refl _ W).alloc (Nat.le_refl _) _)).trans (KeepC.grown (hown.alloc _) hg (fun b hb => .inr (by omega)))).trans (KeepC.set _ _ _ (.inl rfl)), ⟨a', cap', ?_, ?_⟩, ?_, ?_⟩
      · rw [HS.out]; exact hbs.set 0 _
      · rw [HS.out]
        rw [hsz0]
        exact hown'.other ⟨w.heap.size + 1, 0, none⟩ (.slice a' (0 + 1) cap') (by simp)
      · have := hg.size; simp at this ⊢; omega
      · exact (below_grown (hB.alloc hB.size _) (hown.alloc _) hg (by omega) (by simp; omega)).setCell (by simp) _
    · have hl0 : L0.length + 2 ≤ 256 := by simpa using hle
      rw [List.concat_eq_append] at HS hb hown hsl hle
      have hlh := hsl (lo, hi) (by simp)
      obtain ⟨hlo, hhi⟩ := hlh
      change lo < 256 at hlo
      change hi < 256 at hhi
      clear hsl
      have hlen2 : (L0 ++ [(lo, hi)]).length = L0.length + 1 := by simp
      rw [hlen2] at hb hown
      clear c0
      have c0 := hb.cell 0
      obtain ⟨g, rfl, hg1, hg2⟩ := hown.addr (by simp)
      obtain ⟨k1, k2, _, _⟩ := hown.cellAt (i := L0.length) (j := 1) (by simp) (by decide)
      rw [show (L0 ++ [(lo, hi)])[L0.length]'(by simp) = (lo, hi) by simp] at k1
      rw [show (encQ (lo, hi))[1]? = some (.int .u8 (hi : Nat)) from rfl] at k1
      by_cases hc : hi + 1 = x
      · have e := addSpan_on L0 lo hi x hc
        rw [e] at HS
        clear e
        have hcd := beq_t hc
        gi_wp2
        have o := hown.store1 (i := L0.length) (j := 1) (by simp) (by decide) (lo, x) (.int .u8 (x : Nat)) (fun k hk => by
          rw [show (L0 ++ [(lo, hi)])[L0.length]'(by simp) = (lo, hi) by simp]
          match k, hk with
          | 0, _ => rfl
          | 1, _ => rfl)
        rw [show (L0 ++ [(lo, hi)]).set L0.length (lo, x) = L0 ++ [(lo, x)] by simp] at o
        have hL2 : (L0 ++ [(lo, x)]).length = L0.length + 1 := by simp
        refine ⟨KeepsOthers.setCell _ _ _, KeepC.set _ _ _ (.inr (by rw [hsz0]; exact hg1)), ⟨some ⟨g, 0, none⟩, cap, ?_, ?_⟩, by rw [hsz0]; simpa using hWs, hB.setCell (show w.heap.size ≤ g by omega) _⟩
        · rw [HS.out, hL2]; exact hb.other _ _ (show w.heap.size + 1 ≠ g by omega)
        · rw [HS.out, hL2, hsz0]; exact o
      · have e := addSpan_new L0 lo hi x hc
        rw [e] at HS
        clear e
        have hcd := beq_f hc
        have hL3 : (L0 ++ [(lo, hi)] ++ [(x, x)]).length = L0.length + 1 + 1 := by simp
        clear hc
        gi_wp2_with (gi_at_builtin; go_must (refine wpListIn_append1 rfl _ _ 96 rfl elem_pp encQ_ok rfl (hown.alloc _) ⟨W.heap.size, 0, none⟩ 1 (x, x) rfl (new_cells W [.int .u8 (x : Nat), .int .u8 (x : Nat)] _) (by simp [maxLen]; omega) (by simp; omega) (by simp; omega) ?_; intro a' cap' W' hown' hg; rw [hlen2] at hown'; change (W.alloc _).grownBy W' (Value.slice (some ⟨g, 0, none⟩) (L0.length + 1) cap).ownBlock at hg; have hbs := (hb.alloc _).grown (hown.alloc _) hg (by omega); have hfs := hbs.free 0; have hcs := hbs.cell 0))
        refine ⟨((KeepsOthers.alloc _ _).trans (KeepsOthers.grownOwn (hown.alloc _) hg)).trans (KeepsOthers.setCell _ _ _), ((KeepC.below ((Below.refl _ W).alloc (Nat.le_refl _) _)).trans (KeepC.grown (hown.alloc _) hg (fun b hb => .inr (by omega)))).trans (KeepC.set _ _ _ (.inl rfl)), ⟨a', cap', ?_, ?_⟩, ?_, ?_⟩
        · rw [HS.out, hL3]; exact hbs.set 0 _
        · rw [HS.out, hL3, hsz0]
          exact hown'.other ⟨w.heap.size + 1, 0, none⟩ (.slice a' (L0.length + 1 + 1) cap') (by simp)
        · have := hg.size; simp at this ⊢; omega
        · exact (below_grown (hB.alloc hB.size _) (hown.alloc _) hg (by omega) (by simp; omega)).setCell (by simp) _
  case done =>
    rintro D ys W hD hys ⟨⟨a, cap, hb, hown⟩, hWs, hB⟩ hK
    rw [show valsF ys = elems s from hys] at hb hown
    have c0 := hb.cell 0
    gi_wp2
    refine ⟨by simp, .inl ⟨_, _, rfl, run_takeDeferred hK, ?_⟩⟩
    refine ⟨_, results_tmp rfl _ _ _, a, cap, rfl, ?_, hB.trans (belowK_b (w := w) (Nat.le_refl _) W D _ _ (by omega) hK rfl rfl)⟩
    exact (ownFrom_own W0.heap.size W0.heap.size 98 2 encQ (fun _ : Unit => .slice a (spansL (elems s)).length cap) (fun _ => spansL (elems s)) () _ _ (some D) hown (grownBy_putObj' _ D (.deferred none)) (fun r e => by cases e; exact ⟨by omega, _, hK, rfl⟩)).mono (by omega)
  case stop =>
    rintro D c pre W _ _ h _
    exact h.elim
end Go.Proofs.YtdhmekpgplajmaaGreatDoor
end
section
namespace Go.Proofs.YtdhmekpgplajmaaGreatDoor
open Go.RowKit

/-- What the document takes of two sets: 0 what is in one, 1 in both, 2 in the first one alone. -/
def twoB (k : Nat) (x y : Bool) : Bool := match k with | 0 => x || y | 1 => x && y | _ => x && !y
def twoS (k : Nat) (a b : BSet) : BSet := ofP fun c => twoB k (mem a c) (mem b c)
def twoU (k : Nat) (a b : BSet) (j : Nat) : BSet := ofP fun c => decide (c < j) && twoB k (mem a c) (mem b c)
theorem twoU_zero (k : Nat) (a b : BSet) : twoU k a b 0 = 0 := (eq_ofP 0 _ fun c _ => by rw [mem_zero]; simp).symm
theorem twoU_end (k : Nat) (a b : BSet) : twoU k a b 256 = twoS k a b := ofP_congr fun c hc => by simp [hc]
theorem twoU_yes {k : Nat} {a b : BSet} {j : Nat} {x y : Bool} (hj : j < 256) (hx : mem a j = x) (hy : mem b j = y) (h : twoB k x y = true) : twoU k a b (j + 1) = withB (twoU k a b j) j := by
  unfold twoU
  rw [ofP_withB _ _ hj]
  refine ofP_congr fun c _ => ?_
  by_cases hc : j = c
  · subst hc; simp [hx, hy, h]
  · have : decide (c < j + 1) = decide (c < j) := by rw [decide_eq_decide]; omega
    simp [hc, this]
theorem twoU_no {k : Nat} {a b : BSet} {j : Nat} {x y : Bool} (hx : mem a j = x) (hy : mem b j = y) (h : twoB k x y = false) : twoU k a b (j + 1) = twoU k a b j := by
  unfold twoU
  refine ofP_congr fun c _ => ?_
  by_cases hc : j = c
  · subst hc; simp [hx, hy, h]
  · have : decide (c < j + 1) = decide (c < j) := by rw [decide_eq_decide]; omega
    simp [this]
theorem twoS_or (a b : BSet) : twoS 0 a b = a ||| b := (eq_ofP _ _ fun c _ => mem_or a b c).symm
theorem twoS_less (a b : BSet) : twoS 2 a b = a &&& ~~~b := (eq_ofP _ _ fun c hc => by rw [mem_and, mem_not _ _ hc]; rfl).symm
set_option maxRecDepth 20000 in
set_option maxHeartbeats 1600000 in
theorem ref_Two0 (a b : BSet) (w : World) :
    Calls Tryz.prog 79 #[setV a, setV b, .int .i64 0] w (Ret w (setV (twoS 0 a b))) := by
  go_enter Tryz.func79, Tryz.ntmps79
  go_wp2
  go_loopw [8] (fun i wr => ∃ j : Nat, j ≤ 256 ∧ i = .int .i64 j ∧ Box wr w.heap.size (setC a) 43 ∧ Box wr (w.heap.size + 1) (setC b) 43 ∧ Box wr (w.heap.size + 1 + 1) (setC 0) 43 ∧ Box wr (w.heap.size + 1 + 1 + 1) (setC (twoU 0 a b j)) 43 ∧ Below w.heap.size w wr) (fun i _ => 256 - (intOf i).toNat)
  case atStart =>
    refine ⟨0, Nat.zero_le _, rfl, ?_, ?_, ?_, ?_, by go_grown⟩
    · exact (((Box.new' rfl _ _).alloc _).alloc _).alloc _
    · exact ((Box.new' (by simp) _ _).alloc _).alloc _
    · rw [setC_zero]; exact (Box.new' (by simp) _ _).alloc _
    · rw [twoU_zero, setC_zero]; exact Box.new' (by simp) _ _
  case round =>
    obtain ⟨j, hj, rfl, ha, hb, h0, hs, hB⟩ := hrel
    by_cases hlt : j < 256
    · obtain ⟨⟨p0, p1, p2, p3⟩, _⟩ := ha.set4
      have HA := Lib.hid (fun w => ref_Has a j w hlt)
      have HC := Lib.hid (fun w => ref_Has b j w hlt)
      have HY := Lib.hid (@twoU_yes 0 a b j (mem a j) (mem b j) hlt rfl rfl)
      have HN := Lib.hid (@twoU_no 0 a b j (mem a j) (mem b j) rfl rfl)
      have hW := fun s w => ref_With s j w hlt
      have HW := Lib.hid hW
      clear hW
      generalize mem a j = x at *
      generalize mem b j = y at *
      have hdj : decide ((j : Int) < 256) = true := decide_eq_true (by omega)
      go_wp2_with fail
      refine (HA.out _).mono ?_
      rintro e w1 ⟨rfl, hb1⟩
      have hB1 := hB.trans (hb1.mono hB.size)
      have ha1 := ha.kept hb1
      have hb1' := hb.kept hb1
      have h01 := h0.kept hb1
      have hs1 := hs.kept hb1
      obtain ⟨⟨q0, q1, q2, q3⟩, _⟩ := hb1'.set4
      go_wp2_with fail
      refine (HC.out _).mono ?_
      rintro e w2 ⟨rfl, hb2⟩
      have hB2 := hB1.trans (hb2.mono hB1.size)
      have ha2 := ha1.kept hb2
      have hb2' := hb1'.kept hb2
      have h02 := h01.kept hb2
      have hs2 := hs1.kept hb2
      obtain ⟨⟨r0, r1, r2, r3⟩, _⟩ := hs2.set4
      clear ha hb h0 hs hB hb1 ha1 hb1' h01 hs1 hB1 p0 p1 p2 p3 q0 q1 q2 q3 HA HC hb2
      cases x <;> cases y
      all_goals first
        | (have e := HY.out rfl
           have HE := Lib.hid e
           clear e HY HN
           go_wp2_with (go_at_call 66; go_must (refine (HW.out _ _).mono ?_; rintro e w3 ⟨rfl, hb3⟩; have hx0 := h02.kept hb3; have hxs := hs2.kept hb3; have hxa := ha2.kept hb3; have hxb := hb2'.kept hb3; have hB3 := hB2.trans (hb3.mono hB2.size); obtain ⟨⟨s0, s1, s2, s3⟩, ⟨t0, t1, t2, t3⟩⟩ := hxs.set4))
           go_roundw
           case rel => exact ⟨j + 1, hlt, by go_num, hxa.other4 (by omega) _ _ _ _, hxb.other4 (by omega) _ _ _ _, hx0.other4 (by omega) _ _ _ _, by rw [HE.out]; exact hxs.store4 rfl _ _ _ _, by go_grown⟩
           case measure => simp [intOf]; omega)
        | (have e := HN.out rfl
           have HE := Lib.hid e
           clear e HY HN
           go_wp2
           go_roundw
           case rel => exact ⟨j + 1, hlt, by go_num, ha2, hb2', h02, by rw [HE.out]; exact hs2, hB2⟩
           case measure => simp [intOf]; omega)
    · obtain rfl : j = 256 := by omega
      rw [twoU_end] at hs
      obtain ⟨⟨p0, p1, p2, p3⟩, ⟨q0, q1, q2, q3⟩⟩ := h0.set4
      obtain ⟨⟨r0, r1, r2, r3⟩, _⟩ := hs.set4
      go_wp2
      exact ret_box Tryz.results79 rfl (h0.store4 rfl _ _ _ _) Tryz.underlying43 rfl (by kernel_rfl) rfl ⟨rfl, by go_grown⟩
set_option maxRecDepth 20000 in
set_option maxHeartbeats 1600000 in
theorem ref_Two2 (a b : BSet) (w : World) :
    Calls Tryz.prog 79 #[setV a, setV b, .int .i64 2] w (Ret w (setV (twoS 2 a b))) := by
  go_enter Tryz.func79, Tryz.ntmps79
  go_wp2
  go_loopw [8] (fun i wr => ∃ j : Nat, j ≤ 256 ∧ i = .int .i64 j ∧ Box wr w.heap.size (setC a) 43 ∧ Box wr (w.heap.size + 1) (setC b) 43 ∧ Box wr (w.heap.size + 1 + 1) (setC 0) 43 ∧ Box wr (w.heap.size + 1 + 1 + 1) (setC (twoU 2 a b j)) 43 ∧ Below w.heap.size w wr) (fun i _ => 256 - (intOf i).toNat)
  case atStart =>
    refine ⟨0, Nat.zero_le _, rfl, ?_, ?_, ?_, ?_, by go_grown⟩
    · exact (((Box.new' rfl _ _).alloc _).alloc _).alloc _
    · exact ((Box.new' (by simp) _ _).alloc _).alloc _
    · rw [setC_zero]; exact (Box.new' (by simp) _ _).alloc _
    · rw [twoU_zero, setC_zero]; exact Box.new' (by simp) _ _
  case round =>
    obtain ⟨j, hj, rfl, ha, hb, h0, hs, hB⟩ := hrel
    by_cases hlt : j < 256
    · obtain ⟨⟨p0, p1, p2, p3⟩, _⟩ := ha.set4
      have HA := Lib.hid (fun w => ref_Has a j w hlt)
      have HC := Lib.hid (fun w => ref_Has b j w hlt)
      have HY := Lib.hid (@twoU_yes 2 a b j (mem a j) (mem b j) hlt rfl rfl)
      have HN := Lib.hid (@twoU_no 2 a b j (mem a j) (mem b j) rfl rfl)
      have hW := fun s w => ref_With s j w hlt
      have HW := Lib.hid hW
      clear hW
      generalize mem a j = x at *
      generalize mem b j = y at *
      have hdj : decide ((j : Int) < 256) = true := decide_eq_true (by omega)
      go_wp2_with fail
      refine (HA.out _).mono ?_
      rintro e w1 ⟨rfl, hb1⟩
      have hB1 := hB.trans (hb1.mono hB.size)
      have ha1 := ha.kept hb1
      have hb1' := hb.kept hb1
      have h01 := h0.kept hb1
      have hs1 := hs.kept hb1
      obtain ⟨⟨q0, q1, q2, q3⟩, _⟩ := hb1'.set4
      go_wp2_with fail
      refine (HC.out _).mono ?_
      rintro e w2 ⟨rfl, hb2⟩
      have hB2 := hB1.trans (hb2.mono hB1.size)
      have ha2 := ha1.kept hb2
      have hb2' := hb1'.kept hb2
      have h02 := h01.kept hb2
      have hs2 := hs1.kept hb2
      obtain ⟨⟨r0, r1, r2, r3⟩, _⟩ := hs2.set4
      clear ha hb h0 hs hB hb1 ha1 hb1' h01 hs1 hB1 p0 p1 p2 p3 q0 q1 q2 q3 HA HC hb2
      cases x <;> cases y
      all_goals first
        | (have e := HY.out rfl
           have HE := Lib.hid e
           clear e HY HN
           go_wp2_with (go_at_call 66; go_must (refine (HW.out _ _).mono ?_; rintro e w3 ⟨rfl, hb3⟩; have hx0 := h02.kept hb3; have hxs := hs2.kept hb3; have hxa := ha2.kept hb3; have hxb := hb2'.kept hb3; have hB3 := hB2.trans (hb3.mono hB2.size); obtain ⟨⟨s0, s1, s2, s3⟩, ⟨t0, t1, t2, t3⟩⟩ := hxs.set4))
           go_roundw
           case rel => exact ⟨j + 1, hlt, by go_num, hxa.other4 (by omega) _ _ _ _, hxb.other4 (by omega) _ _ _ _, hx0.other4 (by omega) _ _ _ _, by rw [HE.out]; exact hxs.store4 rfl _ _ _ _, by go_grown⟩
           case measure => simp [intOf]; omega)
        | (have e := HN.out rfl
           have HE := Lib.hid e
           clear e HY HN
           go_wp2
           go_roundw
           case rel => exact ⟨j + 1, hlt, by go_num, ha2, hb2', h02, by rw [HE.out]; exact hs2, hB2⟩
           case measure => simp [intOf]; omega)
    · obtain rfl : j = 256 := by omega
      rw [twoU_end] at hs
      obtain ⟨⟨p0, p1, p2, p3⟩, ⟨q0, q1, q2, q3⟩⟩ := h0.set4
      obtain ⟨⟨r0, r1, r2, r3⟩, _⟩ := hs.set4
      go_wp2
      exact ret_box Tryz.results79 rfl (h0.store4 rfl _ _ _ _) Tryz.underlying43 rfl (by kernel_rfl) rfl ⟨rfl, by go_grown⟩
end Go.Proofs.YtdhmekpgplajmaaGreatDoor
end
section
namespace Go.Proofs.YtdhmekpgplajmaaGreatDoor
open Go.RowKit

theorem Box.rangeS {w : World} {b E : Nat} {s : BSet} (h : Box w b (setC s) E) : w.rangeAt b 0 (encS s) := fun j v hv => by
  rw [Nat.zero_add, h.cell]; simpa using hv
theorem all_set : (ofP fun b => decide (0 ≤ b) && decide (b ≤ 255)) = ~~~(0 : BSet) := (eq_ofP _ _ fun b hb => by rw [mem_not _ _ hb, mem_zero]; simp; omega).symm
theorem all_less (s : BSet) : twoS 2 (~~~(0 : BSet)) s = ~~~s := by
  rw [twoS_less]; exact set_ext fun b hb => by rw [mem_and, mem_not _ _ hb, mem_not _ _ hb, mem_zero]; rfl
theorem setC_all (s : BSet) : (setC s).all (·.oneCell') = true := by simp [setC, Value.oneCell']
def NotS (s : BSet) (w w' : World) : Prop := Box w' w.heap.size (setC s) 43 ∧ (∃ u, Box w' (w.heap.size + 1) (setC u) 43) ∧ Below w.heap.size w w'
theorem NotS.kept {s : BSet} {w wi w1 : World} (h : NotS s w wi) (hb : Below wi.heap.size wi w1) : NotS s w w1 := by
  obtain ⟨k0, ⟨u, k1⟩, k3⟩ := h
  exact ⟨k0.kept hb, ⟨u, k1.kept hb⟩, k3.trans (hb.mono k3.size)⟩
set_option maxRecDepth 20000 in
set_option maxHeartbeats 800000 in
theorem ref_Not (s : BSet) (w : World) : Calls Tryz.prog 69 #[setV s] w (Ret w (setV (~~~s))) := by
  have h1 := fun w => ref_Span 0 255 w (by decide)
  rw [all_set] at h1
  have h2 := fun w => ref_Two2 (~~~(0 : BSet)) s w
  rw [all_less] at h2
  generalize ~~~(0 : BSet) = z at *
  generalize ~~~s = t at *
  have H1 := Lib.hid h1
  have H2 := Lib.hid h2
  clear h1 h2
  go_enter Tryz.func69, Tryz.ntmps69
  go_wp2
  have hb0 := (Box.new w (setC s) 43).alloc (.cells #[.int .u64 0, .int .u64 0, .int .u64 0, .int .u64 0] 43)
  have hb1 := Box.new' (w := w.alloc (.cells (setC s) 43)) (World.size_alloc _ _).symm (setC 0) 43
  rw [setC_zero] at hb1
  have hB : Below w.heap.size w ((w.alloc (.cells (setC s) 43)).alloc (.cells #[.int .u64 0, .int .u64 0, .int .u64 0, .int .u64 0] 43)) := by go_grown
  generalize (w.alloc (.cells (setC s) 43)).alloc (.cells #[.int .u64 0, .int .u64 0, .int .u64 0, .int .u64 0] 43) = W at *
  have hu := Tryz.underlying43
  have hi : (Tryz.prog.info? 43).map (·.size) = some 4 := by kernel_rfl
  have hS0 : NotS s w W.drew := ⟨hb0.drew, ⟨0, by rw [setC_zero]; exact hb1.drew⟩, hB.drew⟩
  clear hb0 hb1 hB
  refine wp_region_held_drew (S := NotS s w) (by kernel_rfl) hS0 (fun hH => ?_)
  refine wpAnyH_take (i := 1) (v := .agg (encS s).toArray) rfl (by kernel_rfl) (by kernel_rfl) (by kernel_rfl) (fun _ _ _ h => h) (yieldsIf_load_mid (by rfl) _ _ rfl _ _ rfl _ _ (fun w' hS' => hS'.1.rangeS) hu rfl hi) hH ?_
  simp only [List.getElem_toArray, Act.put, List.setIfInBounds_toArray]
  refine wpAnyH_ready (rs := [0]) (by kernel_rfl) (by simp) (AllReadyH.cons rfl (fun K hK => ?_) AllReadyH.nil)
  go_simp
  refine (H1.out _).mono ?_
  rintro e w1 ⟨rfl, hb⟩
  refine hK.out _ _ (hH.kept hb) (fun hH1 => ?_)
  clear hK K
  refine wpAnyH_ready (rs := [2]) (by kernel_rfl) (by simp) (AllReadyH.cons rfl (fun K hK => ?_) AllReadyH.nil)
  go_simp
  refine (H2.out _).mono ?_
  rintro e w2 ⟨rfl, hb2⟩
  refine hK.out _ _ (hH1.kept hb2) (fun hH2 => ?_)
  clear hK K
  obtain ⟨u, hx⟩ := hH2.2.1
  refine wpAnyH_ready (rs := [3]) (by kernel_rfl) (by simp) (AllReadyH.cons rfl (fun K hK => ?_) AllReadyH.nil)
  rw [if_pos (by rfl)]
  refine wp_store_row 43 _ _ rfl (w.heap.size + 1) (setC t) rfl rfl _ _ hx (by kernel_rfl) rfl (setC_all _) ?_
  have hy := hx.setRow (setC t)
  have hB2 := below_setRow (g := w.heap.size + 1) hH2.2.2 (by omega) (setC t)
  refine hK.out _ _ ⟨hH2.1.setRow_other _ (by omega), ⟨t, hy⟩, hB2⟩ (fun hH3 => ?_)
  clear hK K
  refine wpAnyH_done (by kernel_rfl) ?_ _
  go_wp2
  exact ret_box Tryz.results69 rfl hy Tryz.underlying43 rfl (by kernel_rfl) rfl ⟨rfl, hB2⟩
/-- The bytes of a set below a bound. -/
def elemsU (s : BSet) (j : Nat) : List Nat := (List.range j).filter (mem s)
theorem elemsU_succ (s : BSet) (j : Nat) : elemsU s (j + 1) = if mem s j then elemsU s j ++ [j] else elemsU s j := by
  unfold elemsU
  rw [List.range_succ, List.filter_append]
  cases h : mem s j <;> simp [h]
theorem elemsU_length (s : BSet) (j : Nat) : (elemsU s j).length ≤ j := by
  have := List.length_filter_le (mem s) (List.range j)
  simpa [elemsU] using this
theorem elemsU_end (s : BSet) : elemsU s 256 = elems s := rfl
set_option maxRecDepth 20000 in
set_option maxHeartbeats 800000 in
theorem ref_Bytes (s : BSet) (w : World) : Calls Tryz.prog 67 #[setV s] w (RetOwn w 5 1 encB (elems s)) := by
  go_enter Tryz.func67, Tryz.ntmps67
  go_wp2
  go_loopw [3, 4] (fun v i wr => ∃ (j : Nat) (a : Option Addr) (cap : Nat), j ≤ 256 ∧ i = .int .i64 j ∧ v = .slice a (elemsU s j).length cap ∧ Box wr w.heap.size (setC s) 43 ∧ Own wr (w.heap.size + 1) 5 1 encB (.slice a (elemsU s j).length cap) (elemsU s j) ∧ Below w.heap.size w wr) (fun _ i _ => 256 - (intOf i).toNat)
  case atStart =>
    refine ⟨0, some ⟨w.heap.size + 1, 0, none⟩, 0, Nat.zero_le _, rfl, rfl, (Box.new' rfl _ _).alloc _, ?_, by go_grown⟩
    have := Own.empty (α := Nat) (w.alloc (.cells (setC s) 43)) (w.heap.size + 1) 5 1 encB (by simp)
    rw [World.size_alloc] at this; exact this
  case round =>
    obtain ⟨j, a, cap, hj, rfl, rfl, hb, hown, hB⟩ := hrel
    by_cases hlt : j < 256
    · obtain ⟨⟨p0, p1, p2, p3⟩, _⟩ := hb.set4
      have HA := Lib.hid (fun w => ref_Has s j w hlt)
      have HE := Lib.hid (elemsU_succ s j)
      have hl := elemsU_length s j
      have hdj : decide ((j : Int) < 256) = true := decide_eq_true (by omega)
      generalize mem s j = x at *
      generalize elemsU s j = L at *
      go_wp2_with fail
      refine (HA.out _).mono ?_
      rintro e w1 ⟨rfl, hb1⟩
      have hB1 := hB.trans (hb1.mono hB.size)
      have hbx := hb.kept hb1
      have hown1 := hown.kept hb1
      have hsz := hbx.lt
      clear HA
      cases x with
      | false =>
        go_wp2
        go_roundw
        case rel => exact ⟨j + 1, a, cap, hlt, by go_num, by rw [HE.out]; rfl, hbx, by rw [HE.out]; exact hown1, hB1⟩
        case measure => simp [intOf]; omega
      | true =>
        go_wp2_with (at_builtin; go_must (refine wpList_append1 rfl _ _ 56 rfl elem_u8 encB_ok rfl (hown1.alloc _) ⟨w1.heap.size, 0, none⟩ 1 j rfl ?_ ?_ ?_ ?_ ?_))
        · exact new_cells w1 [.int .u8 (j : Nat)] _
        · simp [maxLen]; omega
        · simp; omega
        · simp; omega
        intro a2 cap2 w6 hown6 hgr6
        have hB5 := below_grown (hB1.alloc hB1.size _) (hown1.alloc _) hgr6 (by omega) (by have := hB1.size; simp; omega)
        have hy0 := (hbx.alloc (.cells #[.int .u8 (j : Nat)] 5)).grownT (hown1.alloc _) hgr6 (by decide)
        go_wp2
        go_roundw
        case rel => exact ⟨j + 1, a2, cap2, hlt, by go_num, by rw [HE.out]; simp, hy0, by rw [HE.out, if_pos trivial, List.length_append]; exact hown6, hB5⟩
        case measure => simp [intOf]; omega
    · obtain rfl : j = 256 := by omega
      rw [elemsU_end] at hown ⊢
      go_wp2
      go_ret
      exact ⟨a, cap, rfl, hown.mono (by omega), hB⟩
end Go.Proofs.YtdhmekpgplajmaaGreatDoor
end
