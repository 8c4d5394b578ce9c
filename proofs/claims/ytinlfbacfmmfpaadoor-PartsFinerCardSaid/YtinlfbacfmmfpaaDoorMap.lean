/- Maps as lists of pairs, in the order in which the keys came; arrays of integers held against each other. No program in sight. -/
import Derived.Test.YtinlfbacfmmfpaaDoorBase
import Derived.Maps.OwnSet
import Derived.ChangeKeysEq
namespace Go.Proofs.YtinlfbacfmmfpaaDoor
open Go.RowKit

/-! ### Arrays of integers: '==' -/
theorem eqItems_ints {P : Program} (d : Nat) (e : TypeId) (q : IntKind) (he : P.underlying e = some (.int q)) (xs ys : List Int) (w : World) : ∀ (l : List Nat), (∀ i ∈ l, i < xs.length ∧ i < ys.length) →
    (Op.eqItems (d + 1) e 1 (xs.map (Value.int q)).toArray (ys.map (Value.int q)).toArray l).run P w = .ok (l.all fun i => xs.getD i 0 == ys.getD i 0) w
  | [], _ => by simp [Op.eqItems]
  | i :: l, h => by
    obtain ⟨h1, h2⟩ := h i (by simp)
    have ih := eqItems_ints d e q he xs ys w l (fun j hj => h j (by simp [hj]))
    have px : (part e (xs.map (Value.int q)).toArray (i * 1)).run P w = .ok (.int q (xs.getD i 0)) w := by
      simp [part, isAgg, run_underlying he, List.getD, List.getElem?_eq_getElem h1]
    have py : (part e (ys.map (Value.int q)).toArray (i * 1)).run P w = .ok (.int q (ys.getD i 0)) w := by
      simp [part, isAgg, run_underlying he, List.getD, List.getElem?_eq_getElem h2]
    have pe := run_equalIn_int (P := P) w d e q q (xs.getD i 0) (ys.getD i 0) he
    simp only [Op.eqItems, Sem.run_bind, px, py, pe, Result.andThen_ok, List.all_cons]
    cases hb : (xs.getD i 0 == ys.getD i 0)
    · simp
    · simpa using ih
theorem all_getD_eq : ∀ (xs ys : List Int), xs.length = ys.length → ((List.range xs.length).all fun i => xs.getD i 0 == ys.getD i 0) = decide (xs = ys) := by
  intro xs ys h
  rw [Bool.eq_iff_iff]
  simp only [List.all_eq_true, List.mem_range, beq_iff_eq, decide_eq_true_eq]
  constructor
  · intro hh
    apply List.ext_getElem h
    intro i h1 h2
    have := hh i h1
    simpa [List.getD, List.getElem?_eq_getElem h1, List.getElem?_eq_getElem h2] using this
  · rintro rfl i _; rfl
theorem run_equalIn_ints {P : Program} (d : Nat) {t e : TypeId} {n : Nat} {i : TypeInfo} {q : IntKind} (hu : P.underlying t = some (.array n e)) (he : P.underlying e = some (.int q)) (hi : P.info? e = some i) (hc : P.cellsOf e = 1)
    (xs ys : List Int) (hx : xs.length = n) (hy : ys.length = n) (w : World) :
    (Op.equalIn (d + 2) t (.agg (xs.map (Value.int q)).toArray) (.agg (ys.map (Value.int q)).toArray)).run P w = .ok (decide (xs = ys)) w := by
  rw [run_equalIn_array (w := w) (d + 1) _ _ hu hi, hc, eqItems_ints d e q he xs ys w _ (fun i hi => by simp at hi; omega), ← hx, all_getD_eq xs ys (hx.trans hy.symm)]

/-! ### A map's block -/
def pos {κ : Type} [DecidableEq κ] (k : κ) : List κ → Option Nat
  | [] => none
  | a :: r => if k = a then some 0 else (pos k r).map (· + 1)
def look {κ : Type} [DecidableEq κ] (k : κ) : List (κ × Value) → Option Value
  | [] => none
  | p :: r => if k = p.1 then some p.2 else look k r
def putIn {κ : Type} [DecidableEq κ] (k : κ) (v : Value) : List (κ × Value) → List (κ × Value)
  | [] => [(k, v)]
  | p :: r => if k = p.1 then (k, v) :: r else p :: putIn k v r
structure KeyOK {κ : Type} [DecidableEq κ] (P : Program) (kt : TypeId) (enc : κ → Value) : Prop where
  check : ∀ (k : κ) (e : Bool) (w : World), (Instr.checkKey e 10000 kt (enc k)).run P w = .ok () w
  find : ∀ (k : κ) (ks : List κ) (es : List MapEntry) (w : World), es.map (·.key) = ks.map enc →
    (Instr.findKey kt (enc k) es).run P w = .ok ((pos k ks).bind fun i => (es[i]?).map fun e => (i, e.val)) w
  bits : ∀ k : κ, Instr.sameBits 10000 (enc k) (enc k) = true
def MapBox {κ : Type} (w : World) (b : Nat) (enc : κ → Value) (kvs : List (κ × Value)) : Prop :=
  ∃ es clock, w.heap[b]? = some (.map es clock) ∧ es.toList.map (fun e => (e.key, e.val)) = kvs.map (fun p => (enc p.1, p.2))
section
variable {κ : Type} {w : World} {b : Nat} {enc : κ → Value} {kvs : List (κ × Value)}
theorem MapBox.lt (h : MapBox w b enc kvs) : b < w.heap.size := by obtain ⟨es, c, hb, _⟩ := h; exact (Array.getElem?_eq_some_iff.1 hb).1
theorem MapBox.same {w' : World} (h : MapBox w b enc kvs) (e : w'.heap[b]? = w.heap[b]?) : MapBox w' b enc kvs := by
  obtain ⟨es, c, hb, hk⟩ := h; exact ⟨es, c, e.trans hb, hk⟩
theorem MapBox.other (h : MapBox w b enc kvs) (a : Addr) (v : Value) (hne : b ≠ a.block) : MapBox (w.setCell a v) b enc kvs := h.same (heap_setCell_other w a b v hne)
theorem MapBox.alloc (h : MapBox w b enc kvs) (o : Obj) : MapBox (w.alloc o) b enc kvs := h.same (Below.heap_alloc w o b h.lt)
theorem MapBox.below {w' : World} {B : Nat} (h : MapBox w b enc kvs) (hb : Below B w w') (hlt : b < B) : MapBox w' b enc kvs := h.same (hb.block b hlt)
theorem MapBox.kept {w' : World} (h : MapBox w b enc kvs) (hb : Below w.heap.size w w') : MapBox w' b enc kvs := h.below hb h.lt
theorem MapBox.setRow (h : MapBox w b enc kvs) (g : Nat) (c : Array Value) (hne : b ≠ g) : MapBox (w.setRow g c) b enc kvs := h.same (Go.setRow_other w g b c hne)
theorem MapBox.new (w : World) (enc : κ → Value) : MapBox (w.alloc (.map #[] 0)) w.heap.size enc [] := ⟨#[], 0, heap_alloc_new w _, rfl⟩
theorem MapBox.new' (h : b = w.heap.size) (enc : κ → Value) : MapBox (w.alloc (.map #[] 0)) b enc [] := h ▸ MapBox.new w enc
variable [DecidableEq κ]
theorem pos_look (k : κ) : ∀ (kvs : List (κ × Value)) (es : List MapEntry), es.map (fun e => (e.key, e.val)) = kvs.map (fun p => (enc p.1, p.2)) →
    ((pos k (kvs.map (·.1))).bind fun i => (es[i]?).map fun e => (i, e.val)).map (·.2) = look k kvs
  | [], es, h => by simp [pos, look]
  | p :: r, [], h => by simp at h
  | p :: r, e :: es, h => by
    simp only [List.map_cons, List.cons.injEq, Prod.mk.injEq] at h
    simp only [List.map_cons, pos, look]
    by_cases hk : k = p.1
    · simp [hk, h.1.2]
    · simp only [hk, if_false]
      rw [← pos_look k r es h.2]
      cases pos k (r.map (·.1)) <;> simp [Option.map_map, Function.comp_def]
omit [DecidableEq κ] in
theorem keys_of {es : List MapEntry} (h : es.map (fun e => (e.key, e.val)) = kvs.map (fun p => (enc p.1, p.2))) : es.map (·.key) = (kvs.map (·.1)).map enc := by
  have := congrArg (List.map Prod.fst) h
  simpa [List.map_map, Function.comp_def] using this
/-- 'v, ok := m[k]' -/
theorem MapBox.run_look {P : Program} {t kt e : TypeId} (h : MapBox w b enc kvs) (K : KeyOK P kt enc) (ht : P.underlying t = some (.map kt e)) {z : Value} (hz : (zeroValue e).run P w = .ok z w) (k : κ) :
    (Instr.lookup t (.map (some b)) (enc k) true).run P w = .ok (.tuple #[(look k kvs).getD z, .bool (look k kvs).isSome]) w := by
  obtain ⟨es, c, hb, hk⟩ := h
  have hf := K.find k (kvs.map (·.1)) es.toList w (keys_of hk)
  have hl := pos_look (enc := enc) k kvs es.toList hk
  generalize ((pos k (kvs.map (·.1))).bind fun i => (es.toList[i]?).map fun e => (i, e.val)) = o at hf hl
  rw [← hl]
  cases o with
  | none => simp [Instr.lookup, run_underlying ht, MapKept.run_getObj_map hb, K.check, hf, hz, Result.andThen]
  | some x => simp [Instr.lookup, run_underlying ht, MapKept.run_getObj_map hb, K.check, hf, Result.andThen]
theorem run_look1 {P : Program} {t kt e : TypeId} (h : MapBox w b enc kvs) (K : KeyOK P kt enc) (ht : P.underlying t = some (.map kt e)) {z : Value} (hz : (zeroValue e).run P w = .ok z w) (k : κ) :
    (Instr.lookup t (.map (some b)) (enc k) false).run P w = .ok ((look k kvs).getD z) w := by
  obtain ⟨es, c, hb, hk⟩ := h
  have hf := K.find k (kvs.map (·.1)) es.toList w (keys_of hk)
  have hl := pos_look (enc := enc) k kvs es.toList hk
  generalize ((pos k (kvs.map (·.1))).bind fun i => (es.toList[i]?).map fun e => (i, e.val)) = o at hf hl
  rw [← hl]
  cases o with
  | none => simp [Instr.lookup, run_underlying ht, MapKept.run_getObj_map hb, K.check, hf, hz, Result.andThen]
  | some x => simp [Instr.lookup, run_underlying ht, MapKept.run_getObj_map hb, K.check, hf, Result.andThen]
theorem pos_none (k : κ) : ∀ (kvs : List (κ × Value)), look k kvs = none → pos k (kvs.map (·.1)) = none
  | [], _ => rfl
  | p :: r, h => by
    simp only [look] at h
    by_cases hk : k = p.1
    · simp [hk] at h
    · simp only [hk, if_false] at h
      simp [pos, hk, pos_none k r h]
theorem putIn_none (k : κ) (v : Value) : ∀ (kvs : List (κ × Value)), look k kvs = none → putIn k v kvs = kvs ++ [(k, v)]
  | [], _ => rfl
  | p :: r, h => by
    simp only [look] at h
    by_cases hk : k = p.1
    · simp [hk] at h
    · simp only [hk, if_false] at h
      simp [putIn, hk, putIn_none k v r h]
theorem look_putIn (k a : κ) (v : Value) : ∀ (kvs : List (κ × Value)), look a (putIn k v kvs) = if a = k then some v else look a kvs
  | [] => by simp [putIn, look]
  | p :: r => by
    simp only [putIn]
    by_cases hk : k = p.1
    · simp only [hk, if_true, look]
      by_cases ha : a = p.1 <;> simp [ha]
    · simp only [hk, if_false, look]
      by_cases ha : a = p.1
      · have : ¬ a = k := fun e => hk (e ▸ ha)
        simp [ha]
        intro e; exact absurd e.symm hk
      · simp only [ha, if_false]; exact look_putIn k a v r
/-- 'm[k] = v': some world in which only the map's block has turned. -/
theorem MapBox.run_put {P : Program} {t kt e : TypeId} (h : MapBox w b enc kvs) (K : KeyOK P kt enc) (ht : P.underlying t = some (.map kt e)) (k : κ) (v : Value) :
    ∃ w', (Instr.mapUpdate t (.map (some b)) (enc k) v).run P w = .ok () w' ∧ MapBox w' b enc (putIn k v kvs) ∧ (∀ i, i ≠ b → w'.heap[i]? = w.heap[i]?) ∧ w'.heap.size = w.heap.size ∧ (∀ B, B ≤ b → Below B w w') := by
  obtain ⟨es, c, hb, hk⟩ := h
  have hf := K.find k (kvs.map (·.1)) es.toList w (keys_of hk)
  have fin : ∀ es' c', (Instr.mapUpdate t (.map (some b)) (enc k) v).run P w = .ok () (ChangeMaps.setBlock w b (.map es' c')) → es'.toList.map (fun e => (e.key, e.val)) = (putIn k v kvs).map (fun p => (enc p.1, p.2)) →
      ∃ w', (Instr.mapUpdate t (.map (some b)) (enc k) v).run P w = .ok () w' ∧ MapBox w' b enc (putIn k v kvs) ∧ (∀ i, i ≠ b → w'.heap[i]? = w.heap[i]?) ∧ w'.heap.size = w.heap.size ∧ (∀ B, B ≤ b → Below B w w') := fun es' c' hrun he =>
    ⟨_, hrun, ⟨es', c', ChangeMaps.heap_setBlock_same hb _, he⟩, fun i hi => ChangeMaps.heap_setBlock_other hb _ hi, by simp [ChangeMaps.setBlock],
      fun B hB => ⟨rfl, rfl, rfl, by simp [ChangeMaps.setBlock], fun i hi => ChangeMaps.heap_setBlock_other hb _ (by omega)⟩⟩
  cases ho : pos k (kvs.map (·.1)) with
  | none =>
    rw [ho] at hf
    refine fin (es.push { key := enc k, val := v, born := c }) (c + 1) ?_ ?_
    · simp only [Option.bind_none] at hf
      simp [Instr.mapUpdate, run_underlying ht, MapKept.run_getObj_map hb, K.check, hf, MapKept.run_setObj_map _ hb, Result.andThen, ChangeMaps.setBlock]
    · have hn : look k kvs = none := by rw [← pos_look (enc := enc) k kvs es.toList hk, ho]; rfl
      rw [putIn_none k v kvs hn]; simp [hk]
  | some i =>
    rw [ho] at hf
    have hpos : ∀ (kvs : List (κ × Value)) (es : List MapEntry) (i : Nat), es.map (fun e => (e.key, e.val)) = kvs.map (fun p => (enc p.1, p.2)) → pos k (kvs.map (·.1)) = some i →
        (∃ e0, es[i]? = some e0 ∧ e0.key = enc k) ∧ (es.modify i fun e => { e with key := enc k, val := v }).map (fun e => (e.key, e.val)) = (putIn k v kvs).map (fun p => (enc p.1, p.2)) := by
      intro kvs
      induction kvs with
      | nil => intro es i _ h; simp [pos] at h
      | cons p r ih =>
        intro es i he h
        cases es with
        | nil => simp at he
        | cons e0 es =>
          simp only [List.map_cons, List.cons.injEq, Prod.mk.injEq] at he
          simp only [List.map_cons, pos] at h
          by_cases hk : k = p.1
          · simp only [hk, if_true, Option.some.injEq] at h
            subst h
            exact ⟨⟨e0, by simp, by rw [he.1.1, hk]⟩, by simp [putIn, hk, he.2]⟩
          · simp only [hk, if_false, Option.map_eq_some_iff] at h
            obtain ⟨j, hj, rfl⟩ := h
            obtain ⟨⟨e1, h1, h2⟩, h3⟩ := ih es j he.2 hj
            exact ⟨⟨e1, by simpa using h1, h2⟩, by simp [putIn, hk, he.1, h3]⟩
    obtain ⟨⟨e0, h0, h1⟩, h2⟩ := hpos kvs es.toList i hk ho
    refine fin (es.modify i fun e => { e with key := enc k, val := v }) c ?_ ?_
    · have h0' : es[i]? = some e0 := by simpa using h0
      simp only [Option.bind_some, h0, Option.map_some] at hf
      simp [Instr.mapUpdate, run_underlying ht, MapKept.run_getObj_map hb, K.check, hf, h0', h1, Instr.keyThatStays, K.bits, MapKept.run_setObj_map _ hb, Result.andThen, ChangeMaps.setBlock]
    · rw [Array.toList_modify]; exact h2
omit [DecidableEq κ] in
/-- 'len(m)', as the walk asks it. -/
theorem MapBox.run_len {P : Program} {t kt e : TypeId} (h : MapBox w b enc kvs) (ht : P.underlying t = some (.map kt e)) (ty : TypeId) (n : Nat) (hn : kvs.length = n) :
    (Builtin.len_ #[t] ty #[.map (some b)]).run P w = .ok (.int .i64 (n : Nat)) w := by
  obtain ⟨es, c, hb, hk⟩ := h
  have hl : es.size = n := by rw [← hn]; simpa using congrArg List.length hk
  simp [Builtin.len_, run_underlying ht, MapKept.run_getObj_map hb, Result.andThen, goInt, hl]
omit [DecidableEq κ] in
/-- 'len(m)' -/
theorem MapBox.size (h : MapBox w b enc kvs) : ∃ es clock, w.heap[b]? = some (.map es clock) ∧ es.size = kvs.length := by
  obtain ⟨es, c, hb, hk⟩ := h
  exact ⟨es, c, hb, by simpa using congrArg List.length hk⟩
end
/-! ### Which keys -/
theorem findNow_of {κ : Type} [DecidableEq κ] (enc : κ → Value) (kd : TypeDesc) (hs : ∀ a b : κ, Instr.sameNow kd (enc a) (enc b) = some (decide (a = b))) (k : κ) : ∀ (ks : List κ) (es : List MapEntry) (i : Nat), es.map (·.key) = ks.map enc →
    Instr.findNow kd (enc k) es i = some ((pos k ks).bind fun j => (es[j]?).map fun e => (i + j, e.val))
  | [], es, i, h => by obtain rfl : es = [] := by simpa using h
                       simp [Instr.findNow, pos]
  | a :: ks, [], i, h => by simp at h
  | a :: ks, e :: es, i, h => by
    simp only [List.map_cons, List.cons.injEq] at h
    simp only [Instr.findNow, h.1, hs, pos]
    by_cases hk : k = a
    · simp [hk]
    · simp only [hk, decide_false, if_false]
      rw [findNow_of enc kd hs k ks es (i + 1) h.2]
      cases pos k ks <;> simp [Nat.add_assoc, Nat.add_comm 1]
theorem findAsking_of {κ : Type} [DecidableEq κ] {P : Program} {kt : TypeId} (enc : κ → Value) (hs : ∀ (a b : κ) (w : World), (Op.equal kt (enc a) (enc b)).run P w = .ok (decide (a = b)) w) (k : κ) (w : World) : ∀ (ks : List κ) (es : List MapEntry) (i : Nat), es.map (·.key) = ks.map enc →
    (Instr.findAsking kt (enc k) es i).run P w = .ok ((pos k ks).bind fun j => (es[j]?).map fun e => (i + j, e.val)) w
  | [], es, i, h => by obtain rfl : es = [] := by simpa using h
                       simp [Instr.findAsking, pos]
  | a :: ks, [], i, h => by simp at h
  | a :: ks, e :: es, i, h => by
    simp only [List.map_cons, List.cons.injEq] at h
    simp only [Instr.findAsking, Sem.run_bind, h.1, hs, Result.andThen_ok, pos]
    by_cases hk : k = a
    · simp [hk]
    · simp only [hk, decide_false, if_false]
      have := findAsking_of enc hs k w ks es (i + 1) h.2
      simp only [Bool.false_eq_true, if_false]
      rw [this]
      cases pos k ks <;> simp [Nat.add_assoc, Nat.add_comm 1]
theorem keyOK_now {κ : Type} [DecidableEq κ] {P : Program} {kt : TypeId} {kd : TypeDesc} (enc : κ → Value) (ht : P.underlying kt = some kd) (hs : ∀ a b : κ, Instr.sameNow kd (enc a) (enc b) = some (decide (a = b)))
    (hc : ∀ (k : κ) (e : Bool) (w : World), (Instr.checkKey e 10000 kt (enc k)).run P w = .ok () w) (hb : ∀ k : κ, Instr.sameBits 10000 (enc k) (enc k) = true) : KeyOK P kt enc :=
  ⟨hc, fun k ks es w he => by
    simp only [Instr.findKey, Sem.run_bind, run_underlying ht, Result.andThen_ok, findNow_of enc kd hs k ks es 0 he, Nat.zero_add]
    rfl, hb⟩
theorem keyOK_int {P : Program} {kt : TypeId} {q : IntKind} (ht : P.underlying kt = some (.int q)) : KeyOK P kt (fun n : Int => Value.int q n) :=
  keyOK_now _ ht (fun a b => by simp only [Instr.sameNow, if_true]; congr 1) (fun k e w => by rw [show (10000 : Nat) = 9999 + 1 from rfl, Instr.checkKey]; simp [run_underlying ht]) (fun k => by rw [show (10000 : Nat) = 9999 + 1 from rfl, Instr.sameBits]; simp)
theorem keyOK_bool {P : Program} {kt : TypeId} (ht : P.underlying kt = some .bool) : KeyOK P kt (fun n : Bool => Value.bool n) :=
  keyOK_now _ ht (fun a b => by simp only [Instr.sameNow]; congr 1) (fun k e w => by rw [show (10000 : Nat) = 9999 + 1 from rfl, Instr.checkKey]; simp [run_underlying ht]) (fun k => by rw [show (10000 : Nat) = 9999 + 1 from rfl, Instr.sameBits]; simp)
/-- Arrays of two integers. -/
abbrev encP (q : IntKind) (p : Int × Int) : Value := .agg #[.int q p.1, .int q p.2]
theorem keyOK_pair {P : Program} {kt e : TypeId} {q : IntKind} {i : TypeInfo} (ht : P.underlying kt = some (.array 2 e)) (he : P.underlying e = some (.int q)) (hi : P.info? e = some i) (hc : P.cellsOf e = 1) (hs : i.size = 1) : KeyOK P kt (encP q) := by
  have heq : ∀ (a b : Int × Int) (w : World), (Op.equal kt (encP q a) (encP q b)).run P w = .ok (decide (a = b)) w := fun a b w => by
    have := run_equalIn_ints (P := P) 9998 (q := q) ht he hi hc [a.1, a.2] [b.1, b.2] rfl rfl w
    unfold Op.equal
    refine this.trans ?_
    congr 1
    rw [decide_eq_decide]
    simp [Prod.ext_iff]
  refine ⟨fun k b w => ?_, fun k ks es w hes => ?_, fun k => ?_⟩
  · have hsz : ∀ w : World, (sizeOf e).run P w = .ok 1 w := fun w => by simp [sizeOf, typeInfo, hi, hs]
    have gen : ∀ n, (Instr.checkKey b (n + 2) kt (encP q k)).run P w = .ok () w := fun n => by
      rw [Instr.checkKey]
      simp only [Sem.run_bind, run_underlying ht, Result.andThen_ok]
      simp [Std.Legacy.Range.forIn_eq_forIn_range', Std.Legacy.Range.size, List.range', hsz, part, isAgg, run_underlying he, Instr.checkKey, Result.andThen]
    exact gen 9998
  · have hf := findAsking_of (encP q) heq k w ks es 0 hes
    simp only [Nat.zero_add] at hf
    simp only [Instr.findKey, Sem.run_bind, run_underlying ht, Result.andThen_ok]
    cases es with
    | nil =>
      obtain rfl : ks = [] := by simpa using hes.symm
      simp [Instr.findNow, pos]
    | cons e0 es =>
      cases ks with
      | nil => simp at hes
      | cons a ks =>
        have hn : Instr.findNow (TypeDesc.array 2 e) (encP q k) (e0 :: es) 0 = none := by
          simp [Instr.findNow, Instr.sameNow]
        rw [hn]; exact hf
  · rw [show (10000 : Nat) = 9998 + 1 + 1 from rfl, Instr.sameBits]; simp [Instr.sameBits]
end Go.Proofs.YtinlfbacfmmfpaaDoor
