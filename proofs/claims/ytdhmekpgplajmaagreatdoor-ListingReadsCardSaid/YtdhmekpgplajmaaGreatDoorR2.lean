/- Joined by tools/merge.py: OrdM, Make, Map, SetEq, PlainParts, Base2. -/
import Derived.OrdersHeld
import Derived.Deep.MidRow
import Derived.Test.YtdhmekpgplajmaaGreatDoorR1
import Derived.Laws.MakeOwn
import Derived.Maps.OwnSet
import Derived.ChangeKeysEq
section
namespace Go.Proofs.YtdhmekpgplajmaaGreatDoor
open Go.RowKit
section
variable {P : Program} {ops : Array Oper} {Q : Exit → Act → World → Prop} {md : Region.Mode} {R : World → World → Prop} {t : Nat}

/-- Whatever order is picked from here on, from this world or any later one (R says what is later). Number t alone, which waits for all others, may do what it likes to the world. -/
def wpM (P : Program) (md : Region.Mode) (ops : Array Oper) (Q : Exit → Act → World → Prop) (R : World → World → Prop) (t : Nat) : Nat → Array Bool → Act → World → Prop
  | 0, listed, a, w => ∀ w1, R w w1 → Region.ready md ops listed = [] ∧ Q .normal a w1
  | fuel + 1, listed, a, w => ∀ w1, R w w1 → (Region.ready md ops listed = [] → Q .normal a w1) ∧
      ∀ i ∈ Region.ready md ops listed, wpOp P ops Q i (fun a' w' => (i ≠ t → R w1 w') ∧ wpM P md ops Q R t fuel (listed.setIfInBounds i true) a' w') a w1

/-- Whatever has come up has come up behind all that it waits for. -/
def Cl (md : Region.Mode) (ops : Array Oper) (listed : Array Bool) : Prop := ∀ k o, ops[k]? = some o → listed.getD k false = true → ∀ e ∈ o.after, Region.binds md e = true → listed.getD e.on false = true
def clB (md : Region.Mode) (ops : Array Oper) (listed : Array Bool) : Bool := (List.range ops.size).all fun k => !listed.getD k false || ((ops[k]?).map fun o => o.after.all fun e => !Region.binds md e || listed.getD e.on false).getD true
theorem Cl.ofB {listed : Array Bool} (h : clB md ops listed = true) : Cl md ops listed := fun k o ho hk e he hb => by
  have hlt : k < ops.size := (Array.getElem?_eq_some_iff.1 ho).1
  have := List.all_eq_true.1 h k (List.mem_range.2 hlt)
  rw [hk, ho] at this
  simp only [Bool.not_true, Bool.false_or, Option.map_some, Option.getD_some] at this
  have := (Array.all_eq_true_iff_forall_mem.1 this) e he
  rw [hb] at this
  simpa using this
/-- Does number t wait for number i, directly or through others? -/
def needs (md : Region.Mode) (ops : Array Oper) (i : Nat) : Nat → Nat → Bool
  | 0, _ => false
  | f + 1, t => ((ops[t]?).map fun o => o.after.any fun e => Region.binds md e && (e.on == i || needs md ops i f e.on)).getD false
theorem needs_listed {listed : Array Bool} (hc : Cl md ops listed) {i : Nat} : ∀ (f t : Nat) (o : Oper), ops[t]? = some o → (∀ e ∈ o.after, Region.binds md e = true → listed.getD e.on false = true) → needs md ops i f t = true → listed.getD i false = true
  | 0, _, _, _, _, h => by cases h
  | f + 1, t, o, ho, hl, h => by
    unfold needs at h
    rw [ho] at h
    simp only [Option.map_some, Option.getD_some] at h
    obtain ⟨e, he, h2⟩ := Array.any_eq_true'.1 h
    simp only [Bool.and_eq_true, Bool.or_eq_true, beq_iff_eq] at h2
    obtain ⟨hb, h3⟩ := h2
    have hon := hl e he hb
    rcases h3 with rfl | h3
    · exact hon
    · cases hoe : ops[e.on]? with
      | none =>
        cases f with
        | zero => cases h3
        | succ f => unfold needs at h3; rw [hoe] at h3; cases h3
      | some o2 => exact needs_listed hc f e.on o2 hoe (fun e2 he2 hb2 => hc _ _ hoe hon e2 he2 hb2) h3
theorem Cl.step {listed : Array Bool} (hc : Cl md ops listed) {j : Nat} (hj : j ∈ Region.ready md ops listed) : Cl md ops (listed.setIfInBounds j true) := fun k o ho hk e he hb => by
  by_cases hkj : k = j
  · subst hkj
    obtain ⟨_, o', ho', hall⟩ := mem_ready.1 hj
    rw [ho] at ho'
    cases ho'
    exact getD_set_true (hall e he hb)
  · rw [getD_set_ne false (fun h => hkj h.symm)] at hk
    exact getD_set_true (hc k o ho hk e he hb)
theorem wpM.later (ht : ∀ a b c, R a b → R b c → R a c) : ∀ {fuel : Nat} {listed : Array Bool} {a : Act} {w w' : World}, wpM P md ops Q R t fuel listed a w → R w w' → wpM P md ops Q R t fuel listed a w'
  | 0, _, _, _, _, h, hr => fun w1 h1 => h w1 (ht _ _ _ hr h1)
  | _ + 1, _, _, _, _, h, hr => fun w1 h1 => h w1 (ht _ _ _ hr h1)
theorem wpAny_of_M (hr : ∀ a, R a a) : ∀ (fuel : Nat) (listed : Array Bool) (a : Act) (w : World), wpM P md ops Q R t fuel listed a w → wpAny P md ops Q fuel listed a w
  | 0, _, _, w, h => h w (hr w)
  | fuel + 1, _, _, w, h => ⟨(h w (hr w)).1, fun i hi => wpOp_mono (fun a' w' h' => wpAny_of_M hr fuel _ a' w' h'.2) ((h w (hr w)).2 i hi)⟩

/-- One run of an operation that gives v: by itself, or by a call. -/
def GivesAt (P : Program) (R : World → World → Prop) (o : Oper) (v : Value) (a : Act) (w1 : World) : Prop :=
  (execOp a.eval o).run P w1 = .ok (.value v) w1 ∨ ∃ f args, (execOp a.eval o).run P w1 = .ok (.enter f args) w1 ∧ Calls P f args w1 fun e w2 => e = .returned v ∧ R w1 w2
/-- In state a, in every later world, the operation leaves v in its temporary, and nothing that matters changes. -/
def Gives (P : Program) (ops : Array Oper) (R : World → World → Prop) (o : Oper) (v : Value) (a : Act) (w : World) : Prop :=
  (Region.wanted o (yielded ops a.tmps) = true ∧ ∀ w1, R w w1 → GivesAt P R o v a w1) ∨ (Region.wanted o (yielded ops a.tmps) = false ∧ v = undef)
theorem Gives.wpOp (hrefl : ∀ a, R a a) {i : Nat} {o : Oper} {v : Value} {a : Act} (hi : ops[i]? = some o) {w w1 : World} (hy : Gives P ops R o v a w) (hR : R w w1) {K : Act → World → Prop}
    (h : ∀ w2, R w1 w2 → K (a.put o.dst v) w2) : wpOp P ops Q i K a w1 := by
  unfold Go.wpOp
  simp only [hi]
  rcases hy with ⟨hw, hv⟩ | ⟨hw, rfl⟩
  · simp only [hw, if_true]
    refine .inl ?_
    unfold Oper.wp
    rcases hv w1 hR with he | ⟨f, args, he, hc⟩
    · simp only [he, Oper.upon]; exact h _ (hrefl _)
    · simp only [he, Oper.upon]
      refine Calls.mono hc fun e w2 ⟨h1, h2⟩ => ?_
      subst h1
      exact h _ h2
  · simp only [hw, Bool.false_eq_true, if_false]; exact h _ (hrefl _)
theorem Gives.of_same {o : Oper} {v : Value} {a a' : Act} {w : World} (hy : Gives P ops R o v a w) (he : execOp a'.eval o = execOp a.eval o)
    (hw : Region.wanted o (yielded ops a'.tmps) = Region.wanted o (yielded ops a.tmps)) : Gives P ops R o v a' w := by
  unfold Gives GivesAt at *
  rw [he, hw]
  exact hy
theorem Gives.later (ht : ∀ a b c, R a b → R b c → R a c) {o : Oper} {v : Value} {a : Act} {w w' : World} (hy : Gives P ops R o v a w) (hR : R w w') : Gives P ops R o v a w' :=
  hy.imp (fun ⟨h1, h2⟩ => ⟨h1, fun w1 h => h2 w1 (ht _ _ _ hR h)⟩) id
/-- One operation apart from another one: whether the other one's value lies there already makes no difference. -/
theorem wpOp_putM {j : Nat} {oi oj : Oper} {v : Value} (hj : ops[j]? = some oj) (hap : oi.apart ops oj = true) (hsi : ∀ cs b, oi.op ≠ .select cs b) (hsj : ∀ cs b, oj.op ≠ .select cs b)
    (hQ : ∀ c a w, Q (.panic c) (a.put oi.dst v) w → Q (.panic c) a w) {K : Act → World → Prop} {a : Act} {w : World} (h : wpOp P ops Q j K (a.put oi.dst v) w) :
    wpOp P ops Q j (fun a' w' => (∀ w0, Gives P ops R oi v a w0 → Gives P ops R oi v a' w0) ∧ K (a'.put oi.dst v) w') a w := by
  obtain ⟨h1, h2, h3⟩ := Oper.apart_spec hap
  have keep : ∀ u w0, Gives P ops R oi v a w0 → Gives P ops R oi v (a.put oj.dst u) w0 := fun u w0 hy => hy.of_same (execOp_put oi hsi a oj.dst u h3) (wanted_put oi a oj.dst u h3)
  have keepD : ∀ d u w0, Gives P ops R oi v a w0 → Gives P ops R oi v (({ a with defers := d :: a.defers } : Act).put oj.dst u) w0 := fun d u w0 hy =>
    (hy.of_same (a' := { a with defers := d :: a.defers }) rfl rfl).of_same (execOp_put oi hsi _ oj.dst u h3) (wanted_put oi _ oj.dst u h3)
  unfold wpOp at *
  simp only [hj] at *
  rw [wanted_put oj a oi.dst v h1] at h
  by_cases hw : Region.wanted oj (yielded ops a.tmps) = true
  · simp only [hw, if_true] at h ⊢
    rcases h with h | ⟨hasks, hlets⟩
    case inr => exact .inr ⟨by unfold Oper.asks at *; rw [execOp_put oj hsj a oi.dst v h1] at hasks; exact hasks, hlets⟩
    refine .inl ?_
    unfold Oper.wp at *
    rw [execOp_put oj hsj a oi.dst v h1] at h
    generalize (execOp a.eval oj).run P w = r at *
    cases r with
    | ok n w' =>
      cases n <;> simp only [Oper.upon] at h ⊢
      case value u => exact ⟨keep u, by rw [← Act.put_comm a v u h2]; exact h⟩
      case skip => exact ⟨keep _, by rw [← Act.put_comm a v undef h2]; exact h⟩
      case defer d => exact ⟨keepD d _, by rw [← Act.put_comm _ v undef h2, ← Act.put_defers]; exact h⟩
      case enter f args =>
        refine Calls.mono h fun e w'' he => ?_
        cases e with
        | returned u => exact ⟨keep u, by rw [← Act.put_comm a v u h2]; exact he⟩
        | panicked c => exact hQ _ _ _ he
        | outgrown => exact he
      case row row args => exact Rows.mono h fun u w'' he => ⟨keep u, by rw [← Act.put_comm a v u h2]; exact he⟩
    | halt x w' =>
      cases x <;> simp only [Oper.upon] at h ⊢
      case panic u => exact hQ _ _ _ h
  · simp only [hw, Bool.false_eq_true, if_false] at h ⊢
    exact ⟨keep _, by rw [← Act.put_comm a v undef h2]; exact h⟩
theorem wpM_first (hrefl : ∀ a, R a a) (ht : ∀ a b c, R a b → R b c → R a c) {i : Nat} {oi : Oper} {v : Value} (hi : ops[i]? = some oi) (hsel : ∀ (j : Nat) (o : Oper) cs b, ops[j]? = some o → o.op ≠ .select cs b)
    (hQ : ∀ c a w, Q (.panic c) (a.put oi.dst v) w → Q (.panic c) a w) (hit : i ≠ t) (hn : ops.size ≤ t ∨ needs md ops i ops.size t = true) : ∀ (fuel : Nat) (listed : Array Bool) (a : Act) (w : World), Cl md ops listed →
      (∀ j oj, ops[j]? = some oj → j ≠ i → listed.getD j true = false → (∀ e ∈ oj.after, Region.binds md e = true → e.on ≠ i) → oi.apart ops oj = true) →
      i ∈ Region.ready md ops listed → Gives P ops R oi v a w →
      wpM P md ops Q R t fuel (listed.setIfInBounds i true) (a.put oi.dst v) w → wpM P md ops Q R t (fuel + 1) listed a w := by
  intro fuel
  induction fuel with
  | zero =>
    intro listed a w _ _ hr hy H w1 hw1
    refine ⟨fun h => (by rw [h] at hr; cases hr), fun j hj => ?_⟩
    by_cases hji : j = i
    · subst hji
      exact hy.wpOp hrefl hi hw1 fun w2 h2 => ⟨fun _ => h2, fun w3 h3 => H w3 (ht _ _ _ hw1 (ht _ _ _ h2 h3))⟩
    · have := ready_mono hj hji
      rw [(H w (hrefl _)).1] at this
      cases this
  | succ fuel ih =>
    intro listed a w hcl hfree hr hy H w1 hw1
    refine ⟨fun h => (by rw [h] at hr; cases hr), fun j hj => ?_⟩
    by_cases hji : j = i
    · subst hji
      exact hy.wpOp hrefl hi hw1 fun w2 h2 => ⟨fun _ => h2, wpM.later ht H (ht _ _ _ hw1 h2)⟩
    · have h1 := (H w1 hw1).2 j (ready_mono hj hji)
      obtain ⟨hjun, oj, hoj, hall⟩ := mem_ready.1 hj
      have hjt : j ≠ t := fun h => by
        subst h
        rcases hn with hn | hn
        · have := (Array.getElem?_eq_some_iff.1 hoj).1; omega
        · have h5 := needs_listed hcl _ _ _ hoj hall hn
          have h6 := (mem_ready.1 hr).1
          rcases Nat.lt_or_ge i listed.size with h' | h'
          · simp [h'] at h5 h6; rw [h6] at h5; cases h5
          · simp [Array.getElem?_eq_none h'] at h5
      have hnot : ∀ e ∈ oj.after, Region.binds md e = true → e.on ≠ i := fun e he hb heq => by
        have h1 := hall e he hb
        have h0 := (mem_ready.1 hr).1
        rw [heq] at h1
        rcases Nat.lt_or_ge i listed.size with h' | h'
        · simp [h'] at h0 h1; rw [h0] at h1; cases h1
        · simp [Array.getElem?_eq_none h'] at h1
      have h2 := wpOp_putM (R := R) hoj (hfree j oj hoj hji hjun hnot) (fun cs b => hsel i oi cs b hi) (fun cs b => hsel j oj cs b hoj) hQ h1
      have hfree' : ∀ k ok, ops[k]? = some ok → k ≠ i → (listed.setIfInBounds j true).getD k true = false →
          (∀ e ∈ ok.after, Region.binds md e = true → e.on ≠ i) → oi.apart ops ok = true := fun k ok hk hki hun hno => by
        refine hfree k ok hk hki ?_ hno
        by_cases hjk : j = k
        · subst hjk; exact hjun
        · rw [getD_set_ne true hjk] at hun; exact hun
      refine wpOp_mono (fun a' w' h3 => ⟨h3.2.1, ih (listed.setIfInBounds j true) a' w' (hcl.step hj) hfree' (ready_mono hr (Ne.symm hji)) (h3.1 _ (hy.later ht (ht _ _ _ hw1 (h3.2.1 hjt)))) ?_⟩) h2
      rw [Array.setIfInBounds_comm _ _ hji]
      exact h3.2.2
end
/-- Later: all that lay lies as it lay. -/
def Later (w w' : World) : Prop := Below w.heap.size w w'
theorem Later.refl (w : World) : Later w w := Below.refl _ _
theorem Later.trans (a b c : World) (h : Later a b) (k : Later b c) : Later a c := Below.trans h (Below.mono k h.size)
/-- What is kept from one world to a later one: whatever is kept by all that keeps all that lay. -/
class RelOK (R : World → World → Prop) : Prop where
  refl : ∀ a, R a a
  trans : ∀ a b c, R a b → R b c → R a c
  later : ∀ a b, Later a b → R a b
instance relLater : RelOK Later := ⟨Later.refl, Later.trans, fun _ _ h => h⟩
section
variable {P : Program} {ops : Array Oper} {Q : Exit → Act → World → Prop} {md : Region.Mode} {t : Nat} {R : World → World → Prop}
theorem tail_ne {listed : Array Bool} {i : Nat} (hc : (clB md ops listed && (decide (ops.size ≤ t) || needs md ops i ops.size t) && decide (i ≠ t)) = true) : i ≠ t := by
  simp only [Bool.and_eq_true, decide_eq_true_eq] at hc; exact hc.2
theorem tail_needs {listed : Array Bool} {i : Nat} (hc : (clB md ops listed && (decide (ops.size ≤ t) || needs md ops i ops.size t) && decide (i ≠ t)) = true) : ops.size ≤ t ∨ needs md ops i ops.size t = true := by
  simp only [Bool.and_eq_true, Bool.or_eq_true, decide_eq_true_eq] at hc; exact hc.1.2
theorem tail_cl {listed : Array Bool} {i : Nat} (hc : (clB md ops listed && (decide (ops.size ≤ t) || needs md ops i ops.size t) && decide (i ≠ t)) = true) : Cl md ops listed := by
  simp only [Bool.and_eq_true] at hc; exact Cl.ofB hc.1.1
theorem wpM_take [hR : RelOK R] {i : Nat} {oi : Oper} {v : Value} {fuel : Nat} {listed : Array Bool} {a : Act} {w : World} (hi : ops[i]? = some oi)
    (hs : Region.noSelect ops = true) (hf : Region.free md ops listed i = true) (hr : (Region.ready md ops listed).contains i = true) (hc : (clB md ops listed && (decide (ops.size ≤ t) || needs md ops i ops.size t) && decide (i ≠ t)) = true)
    (hQ : ∀ c a w, Q (.panic c) (a.put oi.dst v) w → Q (.panic c) a w) (hw : Region.wanted oi (yielded ops a.tmps) = true) (hy : ∀ w1, R w w1 → (execOp a.eval oi).run P w1 = .ok (.value v) w1)
    (h : wpM P md ops Q R t fuel (listed.setIfInBounds i true) (a.put oi.dst v) w) : wpM P md ops Q R t (fuel + 1) listed a w :=
  wpM_first hR.refl hR.trans hi (Region.noSelect_spec hs) hQ (tail_ne hc) (tail_needs hc) fuel listed a w (tail_cl hc) (Region.free_spec hi hf) (by simpa using hr) (.inl ⟨hw, fun w1 h1 => .inl (hy w1 h1)⟩) h
theorem wpM_skip [hR : RelOK R] {i : Nat} {oi : Oper} {fuel : Nat} {listed : Array Bool} {a : Act} {w : World} (hi : ops[i]? = some oi)
    (hs : Region.noSelect ops = true) (hf : Region.free md ops listed i = true) (hr : (Region.ready md ops listed).contains i = true) (hc : (clB md ops listed && (decide (ops.size ≤ t) || needs md ops i ops.size t) && decide (i ≠ t)) = true)
    (hQ : ∀ c a w, Q (.panic c) (a.put oi.dst undef) w → Q (.panic c) a w) (hw : Region.wanted oi (yielded ops a.tmps) = false)
    (h : wpM P md ops Q R t fuel (listed.setIfInBounds i true) (a.put oi.dst undef) w) : wpM P md ops Q R t (fuel + 1) listed a w :=
  wpM_first hR.refl hR.trans hi (Region.noSelect_spec hs) hQ (tail_ne hc) (tail_needs hc) fuel listed a w (tail_cl hc) (Region.free_spec hi hf) (by simpa using hr) (.inr ⟨hw, rfl⟩) h
theorem wpM_call [hR : RelOK R] {i : Nat} {oi : Oper} {v : Value} {fuel : Nat} {listed : Array Bool} {a : Act} {w : World} {f : FuncId} {args : Array Value} (hi : ops[i]? = some oi)
    (hs : Region.noSelect ops = true) (hf : Region.free md ops listed i = true) (hr : (Region.ready md ops listed).contains i = true) (hc : (clB md ops listed && (decide (ops.size ≤ t) || needs md ops i ops.size t) && decide (i ≠ t)) = true)
    (hQ : ∀ c a w, Q (.panic c) (a.put oi.dst v) w → Q (.panic c) a w) (hw : Region.wanted oi (yielded ops a.tmps) = true) (he : ∀ w1, (execOp a.eval oi).run P w1 = .ok (.enter f args) w1)
    (hy : ∀ w1, R w w1 → Calls P f args w1 (Ret w1 v))
    (h : wpM P md ops Q R t fuel (listed.setIfInBounds i true) (a.put oi.dst v) w) : wpM P md ops Q R t (fuel + 1) listed a w :=
  wpM_first hR.refl hR.trans hi (Region.noSelect_spec hs) hQ (tail_ne hc) (tail_needs hc) fuel listed a w (tail_cl hc) (Region.free_spec hi hf) (by simpa using hr) (.inl ⟨hw, fun w1 h1 => .inr ⟨f, args, he w1, (hy w1 h1).mono fun _ _ k => ⟨k.1, hR.later _ _ k.2⟩⟩⟩) h
/-- One operation alone may come up. -/
theorem wpM_one {i : Nat} {oi : Oper} {fuel : Nat} {listed : Array Bool} {a : Act} {w : World} (hr : Region.ready md ops listed = [i]) (hi : ops[i]? = some oi)
    (h : ∀ w1, R w w1 → ∀ K : Act → World → Prop, Shut (∀ a' w', (i ≠ t → R w1 w') → wpM P md ops Q R t fuel (listed.setIfInBounds i true) a' w' → K a' w') → if Region.wanted oi (yielded ops a.tmps) = true then Oper.wp P oi a w1 K Q else K (a.put oi.dst undef) w1) :
    wpM P md ops Q R t (fuel + 1) listed a w := fun w1 h1 => by
  refine ⟨fun h0 => (by rw [hr] at h0; cases h0), fun j hj => ?_⟩
  rw [hr, List.mem_singleton] at hj
  subst hj
  exact wpOp_step hi (fun K' hK => h w1 h1 K' (fun a' w' k1 k2 => hK a' w' ⟨k1, k2⟩))
theorem wpM_done {listed : Array Bool} {a : Act} {w : World} (hr : Region.ready md ops listed = []) (h : ∀ w1, R w w1 → Q .normal a w1) : ∀ fuel, wpM P md ops Q R t fuel listed a w
  | 0 => fun w1 h1 => ⟨hr, h w1 h1⟩
  | _ + 1 => fun w1 h1 => ⟨fun _ => h w1 h1, by rw [hr]; simp⟩
theorem wp_region_M [hR : RelOK R] (t : Nat) {id : Nat} {a : Act} {w : World} (hm : P.follows .mixedOrders = true)
    (h : wpM P .any ops Q R t ops.size (Array.replicate ops.size false) a w.drew) : (Code.region id ops true).wp P Q a w :=
  wp_region_any hm (wpAny_of_M hR.refl _ _ _ _ h)
/-! The same in few letters: the walks say them often. -/
theorem tkM [hR : RelOK R] (i : Nat) {oi : Oper} (v : Value) {fuel : Nat} {listed : Array Bool} {a : Act} {w : World} (hi : ops[i]? = some oi) (hy : ∀ w1, R w w1 → (execOp a.eval oi).run P w1 = .ok (.value v) w1)
    (h : wpM P md ops Q R t fuel (listed.setIfInBounds i true) (a.put oi.dst v) w) (hw : Region.wanted oi (yielded ops a.tmps) = true := by rfl)
    (hc : (Region.noSelect ops && (Region.free md ops listed i && ((Region.ready md ops listed).contains i && (clB md ops listed && (decide (ops.size ≤ t) || needs md ops i ops.size t) && decide (i ≠ t))))) = true := by kernel_rfl)
    (hQ : ∀ c a w, Q (.panic c) (a.put oi.dst v) w → Q (.panic c) a w := by exact fun _ _ _ h => h) : wpM P md ops Q R t (fuel + 1) listed a w := by
  rw [Bool.and_eq_true, Bool.and_eq_true, Bool.and_eq_true] at hc
  exact wpM_take hi hc.1 hc.2.1 hc.2.2.1 hc.2.2.2 hQ hw hy h
theorem skM [hR : RelOK R] (i : Nat) {oi : Oper} {fuel : Nat} {listed : Array Bool} {a : Act} {w : World} (hi : ops[i]? = some oi)
    (h : wpM P md ops Q R t fuel (listed.setIfInBounds i true) (a.put oi.dst undef) w) (hw : Region.wanted oi (yielded ops a.tmps) = false := by rfl)
    (hc : (Region.noSelect ops && (Region.free md ops listed i && ((Region.ready md ops listed).contains i && (clB md ops listed && (decide (ops.size ≤ t) || needs md ops i ops.size t) && decide (i ≠ t))))) = true := by kernel_rfl)
    (hQ : ∀ c a w, Q (.panic c) (a.put oi.dst undef) w → Q (.panic c) a w := by exact fun _ _ _ h => h) : wpM P md ops Q R t (fuel + 1) listed a w := by
  rw [Bool.and_eq_true, Bool.and_eq_true, Bool.and_eq_true] at hc
  exact wpM_skip hi hc.1 hc.2.1 hc.2.2.1 hc.2.2.2 hQ hw h
theorem eA {α : Type} {l : List α} {i : Nat} (h : i < l.toArray.size) : l.toArray[i] = l[i]'(by simpa using h) := List.getElem_toArray h
theorem eB {α : Type} {a : α} {l : List α} (w : 0 < (a :: l).length) : (a :: l)[0] = a := rfl
theorem eC {α : Type} {a : α} {l : List α} {i : Nat} (w : i + 1 < (a :: l).length) : (a :: l)[i + 1] = l[i]'(Nat.lt_of_succ_lt_succ w) := rfl
theorem eD {α : Type} {l : List α} {i : Nat} {a : α} : l.toArray.setIfInBounds i a = (l.set i a).toArray := List.setIfInBounds_toArray l i a
theorem eE {α : Type} {a b : α} {l : List α} : (a :: l).set 0 b = b :: l := List.set_cons_zero
theorem eF {α : Type} {a b : α} {l : List α} {n : Nat} : (a :: l).set (n + 1) b = a :: l.set n b := List.set_cons_succ
end
end Go.Proofs.YtdhmekpgplajmaaGreatDoor
end
section
namespace Go.Proofs.YtdhmekpgplajmaaGreatDoor
open Go.RowKit
theorem madeCells_get (z : Array Value) (n k : Nat) (h : k < n) (hz : 0 < z.size) : (madeCells z n)[k]? = z[k % z.size]? := by
  have hm : k % z.size < z.size := Nat.mod_lt _ hz
  simp [madeCells, h, getElem!_pos, hm]
theorem Own.made {α : Type} {enc : α → List Value} {size : Nat} (he : EncOK enc size) (w : World) (base E : Nat) (x0 : α) (z : Array Value) (hz : z.toList = enc x0) (hpos : 0 < size) (n : Nat) (hn : n ≤ maxLen) (hb : base ≤ w.heap.size) :
    Own (w.alloc (.cells (madeCells z (n * size)) E)) base E size enc (.slice (some ⟨w.heap.size, 0, none⟩) n n) (List.replicate n x0) := by
  have hsz : z.size = size := by rw [← Array.length_toList, hz, he.len]
  refine ⟨_, n, by rw [List.length_replicate], by rw [List.length_replicate]; exact Nat.le_refl _, hn, .inr ⟨w.heap.size, _, rfl, hb, Box.new _ _ _, size_madeCells _ _, fun i hi j hj => ?_⟩⟩
  rw [List.length_replicate] at hi
  have hk : i * size + j < n * size := by
    have : (i + 1) * size ≤ n * size := Nat.mul_le_mul_right _ hi
    rw [Nat.succ_mul] at this; omega
  rw [madeCells_get _ _ _ hk (by omega), hsz, List.getElem_replicate, ← hz, Array.getElem?_toList]
  congr 1
  rw [Nat.add_comm, Nat.add_mul_mod_self_right, Nat.mod_eq_of_lt hj]
/-- The operation. -/
theorem wpList_makeO {α : Type} {enc : α → List Value} {size : Nat} {P : Program} {ops : Array Oper} {rest : List Oper} {o : Oper} {a : Act} {w : World} {Q : Exit → Act → World → Prop} (hgd : o.guard = none) (t : TypeId) (x y : Operand) (ho : o.op = .makeSlice t x y)
    {E : TypeId} {z : Value} {bytes : Nat} (hE : ElemOK P t E z size bytes) (he : EncOK enc size) (x0 : α) (hz : z.cells.toList = enc x0) (n : Nat) (hx : a.eval x = .int .i64 n) (hy : a.eval y = .int .i64 n) (hbytes : bytes * n ≤ 281474976710656) (h63 : n ≤ maxLen) (base : Nat) (hb : base ≤ w.heap.size)
    (h : ∀ w1, Own w1 base E size enc (.slice (some ⟨w.heap.size, 0, none⟩) n n) (List.replicate n x0) → w1 = w.alloc (.cells (madeCells z.cells (n * size)) E) → wpList P ops Q rest (a.put o.dst (.slice (some ⟨w.heap.size, 0, none⟩) n n)) w1) : wpList P ops Q (o :: rest) a w := by
  obtain ⟨i, hi, hiz, his, hib⟩ := hE.info
  subst hib
  subst his
  refine wpList_plain hgd fun K hK => ?_
  have h63' : (n : Int) ≤ 9223372036854775807 := by have := h63; simp [maxLen] at this; omega
  have hb' : (i.bytes : Int) * (n : Int) ≤ 281474976710656 := by
    have : ((i.bytes * n : Nat) : Int) ≤ 281474976710656 := by omega
    rwa [Int.natCast_mul] at this
  have hr := run_make (P := P) w t E i z hE.slice hi hiz .i64 .i64 n n (Int.natCast_nonneg _) (Int.le_refl _) hb' h63'
  simp only [Int.toNat_natCast] at hr
  unfold Oper.wp execOp
  simp only [ho, hx, hy, Sem.run_bind, Sem.run_pure, Result.andThen_ok, hr, Oper.upon]
  exact hK _ _ (h _ (Own.made he w base E x0 z.cells hz hE.pos n h63 hb) rfl)
end Go.Proofs.YtdhmekpgplajmaaGreatDoor
end
section
namespace Go.Proofs.YtdhmekpgplajmaaGreatDoor
open Go.RowKit

/-! ### Arrays of integers: '==' -/
theorem eqItems_ints {P : Program} (d : Nat) (e : TypeId) (q : IntKind) (he : P.underlying e = some (.int q)) (xs ys : List Int) (w : World) : ∀ (l : List Nat), (∀ i ∈ l, i < xs.length ∧ i < ys.length) →
    (Op.eqItems (d + 1) e 1 (xs.map (Value.int q)).toArray (ys.map (Value.int q)).toArray l).run P w = .ok (l.all fun i => xs.getD i 0 == ys.getD i 0) w
  | [], _ => by simp [Op.eqItems]
  | i :: l, h => by
    obtain ⟨h1, h2⟩ := h i (by simp)
    have ih := eqItems_ints d e q he xs ys w l (fun j hj => h j (by simp [hj]))
    have px : (part e (xs.map (Value.int q)).toArray (i * 1)).run P w = .ok (.int q (xs.getD i 0)) w := by
      simp [part, isAgg, run_underlying he, List.getD, List.getElem?_eq_getElem h1]
    have py : (part e (ys.map (Value.int q)).toArray (i * 1)).run P w = .ok (.int q (ys.getD i 0)) w := by
      simp [part, isAgg, run_underlying he, List.getD, List.getElem?_eq_getElem h2]
    have pe := run_equalIn_int (P := P) w d e q q (xs.getD i 0) (ys.getD i 0) he
    simp only [Op.eqItems, Sem.run_bind, px, py, pe, Result.andThen_ok, List.all_cons]
    cases hb : (xs.getD i 0 == ys.getD i 0)
    · simp
    · simpa using ih
theorem all_getD_eq : ∀ (xs ys : List Int), xs.length = ys.length → ((List.range xs.length).all fun i => xs.getD i 0 == ys.getD i 0) = decide (xs = ys) := by
  intro xs ys h
  rw [Bool.eq_iff_iff]
  simp only [List.all_eq_true, List.mem_range, beq_iff_eq, decide_eq_true_eq]
  constructor
  · intro hh
    apply List.ext_getElem h
    intro i h1 h2
    have := hh i h1
    simpa [List.getD, List.getElem?_eq_getElem h1, List.getElem?_eq_getElem h2] using this
  · rintro rfl i _; rfl
theorem run_equalIn_ints {P : Program} (d : Nat) {t e : TypeId} {n : Nat} {i : TypeInfo} {q : IntKind} (hu : P.underlying t = some (.array n e)) (he : P.underlying e = some (.int q)) (hi : P.info? e = some i) (hc : P.cellsOf e = 1)
    (xs ys : List Int) (hx : xs.length = n) (hy : ys.length = n) (w : World) :
    (Op.equalIn (d + 2) t (.agg (xs.map (Value.int q)).toArray) (.agg (ys.map (Value.int q)).toArray)).run P w = .ok (decide (xs = ys)) w := by
  rw [run_equalIn_array (w := w) (d + 1) _ _ hu hi, hc, eqItems_ints d e q he xs ys w _ (fun i hi => by simp at hi; omega), ← hx, all_getD_eq xs ys (hx.trans hy.symm)]

/-! ### A map's block -/
def pos {κ : Type} [DecidableEq κ] (k : κ) : List κ → Option Nat
  | [] => none
  | a :: r => if k = a then some 0 else (pos k r).map (· + 1)
def look {κ : Type} [DecidableEq κ] (k : κ) : List (κ × Value) → Option Value
  | [] => none
  | p :: r => if k = p.1 then some p.2 else look k r
def putIn {κ : Type} [DecidableEq κ] (k : κ) (v : Value) : List (κ × Value) → List (κ × Value)
  | [] => [(k, v)]
  | p :: r => if k = p.1 then (k, v) :: r else p :: putIn k v r
structure KeyOK {κ : Type} [DecidableEq κ] (P : Program) (kt : TypeId) (enc : κ → Value) : Prop where
  check : ∀ (k : κ) (e : Bool) (w : World), (Instr.checkKey e 10000 kt (enc k)).run P w = .ok () w
  find : ∀ (k : κ) (ks : List κ) (es : List MapEntry) (w : World), es.map (·.key) = ks.map enc →
    (Instr.findKey kt (enc k) es).run P w = .ok ((pos k ks).bind fun i => (es[i]?).map fun e => (i, e.val)) w
  bits : ∀ k : κ, Instr.sameBits 10000 (enc k) (enc k) = true
def MapBox {κ : Type} (w : World) (b : Nat) (enc : κ → Value) (kvs : List (κ × Value)) : Prop :=
  ∃ es clock, w.heap[b]? = some (.map es clock) ∧ es.toList.map (fun e => (e.key, e.val)) = kvs.map (fun p => (enc p.1, p.2))
section
variable {κ : Type} {w : World} {b : Nat} {enc : κ → Value} {kvs : List (κ × Value)}
theorem MapBox.lt (h : MapBox w b enc kvs) : b < w.heap.size := by obtain ⟨es, c, hb, _⟩ := h; exact (Array.getElem?_eq_some_iff.1 hb).1
theorem MapBox.same {w' : World} (h : MapBox w b enc kvs) (e : w'.heap[b]? = w.heap[b]?) : MapBox w' b enc kvs := by
  obtain ⟨es, c, hb, hk⟩ := h; exact ⟨es, c, e.trans hb, hk⟩
theorem MapBox.other (h : MapBox w b enc kvs) (a : Addr) (v : Value) (hne : b ≠ a.block) : MapBox (w.setCell a v) b enc kvs := h.same (heap_setCell_other w a b v hne)
theorem MapBox.alloc (h : MapBox w b enc kvs) (o : Obj) : MapBox (w.alloc o) b enc kvs := h.same (Below.heap_alloc w o b h.lt)
theorem MapBox.below {w' : World} {B : Nat} (h : MapBox w b enc kvs) (hb : Below B w w') (hlt : b < B) : MapBox w' b enc kvs := h.same (hb.block b hlt)
theorem MapBox.kept {w' : World} (h : MapBox w b enc kvs) (hb : Below w.heap.size w w') : MapBox w' b enc kvs := h.below hb h.lt
theorem MapBox.setRow (h : MapBox w b enc kvs) (g : Nat) (c : Array Value) (hne : b ≠ g) : MapBox (w.setRow g c) b enc kvs := h.same (Go.setRow_other w g b c hne)
theorem MapBox.new (w : World) (enc : κ → Value) : MapBox (w.alloc (.map #[] 0)) w.heap.size enc [] := ⟨#[], 0, heap_alloc_new w _, rfl⟩
theorem MapBox.new' (h : b = w.heap.size) (enc : κ → Value) : MapBox (w.alloc (.map #[] 0)) b enc [] := h ▸ MapBox.new w enc
variable [DecidableEq κ]
theorem pos_look (k : κ) : ∀ (kvs : List (κ × Value)) (es : List MapEntry), es.map (fun e => (e.key, e.val)) = kvs.map (fun p => (enc p.1, p.2)) →
    ((pos k (kvs.map (·.1))).bind fun i => (es[i]?).map fun e => (i, e.val)).map (·.2) = look k kvs
  | [], es, h => by simp [pos, look]
  | p :: r, [], h => by simp at h
  | p :: r, e :: es, h => by
    simp only [List.map_cons, List.cons.injEq, Prod.mk.injEq] at h
    simp only [List.map_cons, pos, look]
    by_cases hk : k = p.1
    · simp [hk, h.1.2]
    · simp only [hk, if_false]
      rw [← pos_look k r es h.2]
      cases pos k (r.map (·.1)) <;> simp [Option.map_map, Function.comp_def]
omit [DecidableEq κ] in
theorem keys_of {es : List MapEntry} (h : es.map (fun e => (e.key, e.val)) = kvs.map (fun p => (enc p.1, p.2))) : es.map (·.key) = (kvs.map (·.1)).map enc := by
  have := congrArg (List.map Prod.fst) h
  simpa [List.map_map, Function.comp_def] using this
/-- 'v, ok := m[k]' -/
theorem MapBox.run_look {P : Program} {t kt e : TypeId} (h : MapBox w b enc kvs) (K : KeyOK P kt enc) (ht : P.underlying t = some (.map kt e)) {z : Value} (hz : (zeroValue e).run P w = .ok z w) (k : κ) :
    (Instr.lookup t (.map (some b)) (enc k) true).run P w = .ok (.tuple #[(look k kvs).getD z, .bool (look k kvs).isSome]) w := by
  obtain ⟨es, c, hb, hk⟩ := h
  have hf := K.find k (kvs.map (·.1)) es.toList w (keys_of hk)
  have hl := pos_look (enc := enc) k kvs es.toList hk
  generalize ((pos k (kvs.map (·.1))).bind fun i => (es.toList[i]?).map fun e => (i, e.val)) = o at hf hl
  rw [← hl]
  cases o with
  | none => simp [Instr.lookup, run_underlying ht, MapKept.run_getObj_map hb, K.check, hf, hz, Result.andThen]
  | some x => simp [Instr.lookup, run_underlying ht, MapKept.run_getObj_map hb, K.check, hf, Result.andThen]
theorem putIn_none (k : κ) (v : Value) : ∀ (kvs : List (κ × Value)), look k kvs = none → putIn k v kvs = kvs ++ [(k, v)]
  | [], _ => rfl
  | p :: r, h => by
    simp only [look] at h
    by_cases hk : k = p.1
    · simp [hk] at h
    · simp only [hk, if_false] at h
      simp [putIn, hk, putIn_none k v r h]
/-- 'm[k] = v': some world in which only the map's block has turned. -/
theorem MapBox.run_put {P : Program} {t kt e : TypeId} (h : MapBox w b enc kvs) (K : KeyOK P kt enc) (ht : P.underlying t = some (.map kt e)) (k : κ) (v : Value) :
    ∃ w', (Instr.mapUpdate t (.map (some b)) (enc k) v).run P w = .ok () w' ∧ MapBox w' b enc (putIn k v kvs) ∧ (∀ i, i ≠ b → w'.heap[i]? = w.heap[i]?) ∧ w'.heap.size = w.heap.size ∧ (∀ B, B ≤ b → Below B w w') := by
  obtain ⟨es, c, hb, hk⟩ := h
  have hf := K.find k (kvs.map (·.1)) es.toList w (keys_of hk)
  have fin : ∀ es' c', (Instr.mapUpdate t (.map (some b)) (enc k) v).run P w = .ok () (ChangeMaps.setBlock w b (.map es' c')) → es'.toList.map (fun e => (e.key, e.val)) = (putIn k v kvs).map (fun p => (enc p.1, p.2)) →
      ∃ w', (Instr.mapUpdate t (.map (some b)) (enc k) v).run P w = .ok () w' ∧ MapBox w' b enc (putIn k v kvs) ∧ (∀ i, i ≠ b → w'.heap[i]? = w.heap[i]?) ∧ w'.heap.size = w.heap.size ∧ (∀ B, B ≤ b → Below B w w') := fun es' c' hrun he =>
    ⟨_, hrun, ⟨es', c', ChangeMaps.heap_setBlock_same hb _, he⟩, fun i hi => ChangeMaps.heap_setBlock_other hb _ hi, by simp [ChangeMaps.setBlock],
      fun B hB => ⟨rfl, rfl, rfl, by simp [ChangeMaps.setBlock], fun i hi => ChangeMaps.heap_setBlock_other hb _ (by omega)⟩⟩
  cases ho : pos k (kvs.map (·.1)) with
  | none =>
    rw [ho] at hf
    refine fin (es.push { key := enc k, val := v, born := c }) (c + 1) ?_ ?_
    · simp only [Option.bind_none] at hf
      simp [Instr.mapUpdate, run_underlying ht, MapKept.run_getObj_map hb, K.check, hf, MapKept.run_setObj_map _ hb, Result.andThen, ChangeMaps.setBlock]
    · have hn : look k kvs = none := by rw [← pos_look (enc := enc) k kvs es.toList hk, ho]; rfl
      rw [putIn_none k v kvs hn]; simp [hk]
  | some i =>
    rw [ho] at hf
    have hpos : ∀ (kvs : List (κ × Value)) (es : List MapEntry) (i : Nat), es.map (fun e => (e.key, e.val)) = kvs.map (fun p => (enc p.1, p.2)) → pos k (kvs.map (·.1)) = some i →
        (∃ e0, es[i]? = some e0 ∧ e0.key = enc k) ∧ (es.modify i fun e => { e with key := enc k, val := v }).map (fun e => (e.key, e.val)) = (putIn k v kvs).map (fun p => (enc p.1, p.2)) := by
      intro kvs
      induction kvs with
      | nil => intro es i _ h; simp [pos] at h
      | cons p r ih =>
        intro es i he h
        cases es with
        | nil => simp at he
        | cons e0 es =>
          simp only [List.map_cons, List.cons.injEq, Prod.mk.injEq] at he
          simp only [List.map_cons, pos] at h
          by_cases hk : k = p.1
          · simp only [hk, if_true, Option.some.injEq] at h
            subst h
            exact ⟨⟨e0, by simp, by rw [he.1.1, hk]⟩, by simp [putIn, hk, he.2]⟩
          · simp only [hk, if_false, Option.map_eq_some_iff] at h
            obtain ⟨j, hj, rfl⟩ := h
            obtain ⟨⟨e1, h1, h2⟩, h3⟩ := ih es j he.2 hj
            exact ⟨⟨e1, by simpa using h1, h2⟩, by simp [putIn, hk, he.1, h3]⟩
    obtain ⟨⟨e0, h0, h1⟩, h2⟩ := hpos kvs es.toList i hk ho
    refine fin (es.modify i fun e => { e with key := enc k, val := v }) c ?_ ?_
    · have h0' : es[i]? = some e0 := by simpa using h0
      simp only [Option.bind_some, h0, Option.map_some] at hf
      simp [Instr.mapUpdate, run_underlying ht, MapKept.run_getObj_map hb, K.check, hf, h0', h1, Instr.keyThatStays, K.bits, MapKept.run_setObj_map _ hb, Result.andThen, ChangeMaps.setBlock]
    · rw [Array.toList_modify]; exact h2
omit [DecidableEq κ] in
/-- 'len(m)', as the walk asks it. -/
theorem MapBox.run_len {P : Program} {t kt e : TypeId} (h : MapBox w b enc kvs) (ht : P.underlying t = some (.map kt e)) (ty : TypeId) (n : Nat) (hn : kvs.length = n) :
    (Builtin.len_ #[t] ty #[.map (some b)]).run P w = .ok (.int .i64 (n : Nat)) w := by
  obtain ⟨es, c, hb, hk⟩ := h
  have hl : es.size = n := by rw [← hn]; simpa using congrArg List.length hk
  simp [Builtin.len_, run_underlying ht, MapKept.run_getObj_map hb, Result.andThen, goInt, hl]
omit [DecidableEq κ] in
/-- 'len(m)' -/
theorem MapBox.size (h : MapBox w b enc kvs) : ∃ es clock, w.heap[b]? = some (.map es clock) ∧ es.size = kvs.length := by
  obtain ⟨es, c, hb, hk⟩ := h
  exact ⟨es, c, hb, by simpa using congrArg List.length hk⟩
end
/-! ### Which keys -/
theorem findNow_of {κ : Type} [DecidableEq κ] (enc : κ → Value) (kd : TypeDesc) (hs : ∀ a b : κ, Instr.sameNow kd (enc a) (enc b) = some (decide (a = b))) (k : κ) : ∀ (ks : List κ) (es : List MapEntry) (i : Nat), es.map (·.key) = ks.map enc →
    Instr.findNow kd (enc k) es i = some ((pos k ks).bind fun j => (es[j]?).map fun e => (i + j, e.val))
  | [], es, i, h => by obtain rfl : es = [] := by simpa using h
                       simp [Instr.findNow, pos]
  | a :: ks, [], i, h => by simp at h
  | a :: ks, e :: es, i, h => by
    simp only [List.map_cons, List.cons.injEq] at h
    simp only [Instr.findNow, h.1, hs, pos]
    by_cases hk : k = a
    · simp [hk]
    · simp only [hk, decide_false, if_false]
      rw [findNow_of enc kd hs k ks es (i + 1) h.2]
      cases pos k ks <;> simp [Nat.add_assoc, Nat.add_comm 1]
theorem keyOK_now {κ : Type} [DecidableEq κ] {P : Program} {kt : TypeId} {kd : TypeDesc} (enc : κ → Value) (ht : P.underlying kt = some kd) (hs : ∀ a b : κ, Instr.sameNow kd (enc a) (enc b) = some (decide (a = b)))
    (hc : ∀ (k : κ) (e : Bool) (w : World), (Instr.checkKey e 10000 kt (enc k)).run P w = .ok () w) (hb : ∀ k : κ, Instr.sameBits 10000 (enc k) (enc k) = true) : KeyOK P kt enc :=
  ⟨hc, fun k ks es w he => by
    simp only [Instr.findKey, Sem.run_bind, run_underlying ht, Result.andThen_ok, findNow_of enc kd hs k ks es 0 he, Nat.zero_add]
    rfl, hb⟩
theorem keyOK_int {P : Program} {kt : TypeId} {q : IntKind} (ht : P.underlying kt = some (.int q)) : KeyOK P kt (fun n : Int => Value.int q n) :=
  keyOK_now _ ht (fun a b => by simp only [Instr.sameNow, if_true]; congr 1) (fun k e w => by rw [show (10000 : Nat) = 9999 + 1 from rfl, Instr.checkKey]; simp [run_underlying ht]) (fun k => by rw [show (10000 : Nat) = 9999 + 1 from rfl, Instr.sameBits]; simp)
end Go.Proofs.YtdhmekpgplajmaaGreatDoor
end
section
namespace Go.Proofs.YtdhmekpgplajmaaGreatDoor
open Go.RowKit

theorem run_eqS {P : Program} {t e : TypeId} (hu : P.underlying t = some (.array 4 e)) (he : P.underlying e = some (.int .u64)) (hi : (P.info? e).map (fun i => i.size) = some 1) (s u : BSet) (w : World) :
    (Op.equalIn 10000 t (setV s) (setV u)).run P w = .ok (decide (s = u)) w := by
  cases hq : P.info? e with
  | none => simp [hq] at hi
  | some i =>
    have hs : i.size = 1 := by simpa [hq] using hi
    have hc : P.cellsOf e = 1 := by simp [Program.cellsOf, hq, hs]
    have := run_equalIn_ints (P := P) 9998 (q := .u64) hu he hq hc [(word s 0 : Nat), (word s 1 : Nat), (word s 2 : Nat), (word s 3 : Nat)] [(word u 0 : Nat), (word u 1 : Nat), (word u 2 : Nat), (word u 3 : Nat)] rfl rfl w
    refine this.trans ?_
    congr 1
    rw [decide_eq_decide]
    constructor
    · intro h
      simp only [List.cons.injEq, and_true, Int.natCast_inj] at h
      obtain ⟨h0, h1, h2, h3⟩ := h
      refine word_inj fun i hi => ?_
      match i, hi with
      | 0, _ => exact h0
      | 1, _ => exact h1
      | 2, _ => exact h2
      | 3, _ => exact h3
    · rintro rfl; rfl
end Go.Proofs.YtdhmekpgplajmaaGreatDoor
end
section
namespace Go.Proofs.YtdhmekpgplajmaaGreatDoor

/-- The first bytes of the classes among the bytes below n: R says whether two bytes are alike. -/
def reps (R : Nat → Nat → Bool) : Nat → List Nat
  | 0 => []
  | n + 1 => if (reps R n).any (R n) then reps R n else reps R n ++ [n]
def posR (R : Nat → Nat → Bool) (b : Nat) : List Nat → Option Nat
  | [] => none
  | c :: r => if R b c then some 0 else (posR R b r).map (· + 1)
def numR (R : Nat → Nat → Bool) (b : Nat) : Nat := (posR R b (reps R 256)).getD 0
def widR (R : Nat → Nat → Bool) : Nat := (reps R 256).length
/-- Alike, where keys are. -/
def Kern {κ : Type} [DecidableEq κ] (k : Nat → κ) (b c : Nat) : Bool := decide (k b = k c)

theorem reps_zero (R : Nat → Nat → Bool) : reps R 0 = [] := rfl
theorem reps_succ (R : Nat → Nat → Bool) (n : Nat) : reps R (n + 1) = if (reps R n).any (R n) then reps R n else reps R n ++ [n] := rfl
theorem reps_lt (R : Nat → Nat → Bool) : ∀ n, ∀ c ∈ reps R n, c < n
  | 0, c, h => by simp [reps] at h
  | n + 1, c, h => by
    unfold reps at h
    split at h
    · exact Nat.lt_succ_of_lt (reps_lt R n c h)
    · rcases List.mem_append.1 h with h | h
      · exact Nat.lt_succ_of_lt (reps_lt R n c h)
      · simp at h; omega
theorem reps_sorted (R : Nat → Nat → Bool) : ∀ (n i j : Nat) (_ : i < j) (hj : j < (reps R n).length), (reps R n)[i]'(by omega) < (reps R n)[j]
  | 0, i, j, _, hj => by simp [reps] at hj
  | n + 1, i, j, hij, hj => by
    by_cases h : (reps R n).any (R n) = true
    · have e : reps R (n + 1) = reps R n := by rw [reps_succ, if_pos h]
      simp only [e] at hj ⊢
      exact reps_sorted R n i j hij hj
    · have e : reps R (n + 1) = reps R n ++ [n] := by rw [reps_succ, if_neg h]
      simp only [e] at hj ⊢
      rw [List.length_append, List.length_singleton] at hj
      by_cases h2 : j < (reps R n).length
      · rw [List.getElem_append_left h2, List.getElem_append_left (by omega)]
        exact reps_sorted R n i j hij h2
      · obtain rfl : j = (reps R n).length := by omega
        rw [List.getElem_append_right (Nat.le_refl _), List.getElem_append_left (by omega)]
        simp
        exact reps_lt R n _ (List.getElem_mem _)
theorem reps_length (R : Nat → Nat → Bool) : ∀ n, (reps R n).length ≤ n
  | 0 => by simp [reps]
  | n + 1 => by
    have := reps_length R n
    unfold reps
    split
    · omega
    · simp; omega
theorem reps_prefix (R : Nat → Nat → Bool) (n : Nat) : ∀ m, ∃ l, reps R (n + m) = reps R n ++ l
  | 0 => ⟨[], by simp⟩
  | m + 1 => by
    obtain ⟨l, hl⟩ := reps_prefix R n m
    by_cases h : (reps R (n + m)).any (R (n + m)) = true
    · exact ⟨l, by rw [← Nat.add_assoc, reps_succ, if_pos h, hl]⟩
    · exact ⟨l ++ [n + m], by rw [← Nat.add_assoc, reps_succ, if_neg h, hl, List.append_assoc]⟩
theorem posR_append (R : Nat → Nat → Bool) (b : Nat) : ∀ l l' : List Nat, posR R b (l ++ l') = (posR R b l).or ((posR R b l').map (· + l.length))
  | [], l' => by simp [posR]
  | c :: r, l' => by
    simp only [List.cons_append, posR, posR_append R b r l']
    split
    · simp
    · cases posR R b r <;> cases posR R b l' <;> simp [Nat.add_assoc]
theorem posR_none {R : Nat → Nat → Bool} {b : Nat} : ∀ {l : List Nat}, l.any (R b) = false → posR R b l = none
  | [], _ => rfl
  | c :: r, h => by
    simp only [List.any_cons, Bool.or_eq_false_iff] at h
    simp [posR, h.1, posR_none h.2]
theorem posR_some {R : Nat → Nat → Bool} {b : Nat} : ∀ {l : List Nat}, l.any (R b) = true → ∃ i, posR R b l = some i ∧ i < l.length ∧ ∃ c, l[i]? = some c ∧ R b c = true
  | [], h => by simp at h
  | c :: r, h => by
    simp only [posR]
    by_cases hc : R b c = true
    · exact ⟨0, by simp [hc], by simp, c, by simp, hc⟩
    · simp only [List.any_cons, hc, Bool.false_or] at h
      obtain ⟨i, h1, h2, d, h3, h4⟩ := posR_some (R := R) (b := b) (l := r) (by simpa using h)
      exact ⟨i + 1, by simp [hc, h1], by simpa using h2, d, by simpa using h3, h4⟩
/-- Every byte below n is alike one of the first ones. -/
theorem reps_any {R : Nat → Nat → Bool} (hr : ∀ b, R b b = true) {n b : Nat} (hb : b < n) : (reps R n).any (R b) = true := by
  obtain ⟨m, rfl⟩ : ∃ m, n = b + 1 + m := ⟨n - (b + 1), by omega⟩
  obtain ⟨l, hl⟩ := reps_prefix R (b + 1) m
  rw [hl, List.any_append]
  have : (reps R (b + 1)).any (R b) = true := by
    rw [reps_succ]
    split
    · assumption
    · simp [hr]
  simp [this]
/-- The number of a byte is known when it comes. -/
theorem posR_reps {R : Nat → Nat → Bool} (hr : ∀ b, R b b = true) {n b : Nat} (hb : b < n) (hn : n ≤ 256) : posR R b (reps R n) = some (numR R b) := by
  obtain ⟨m, hm⟩ : ∃ m, n + m = 256 := ⟨256 - n, by omega⟩
  obtain ⟨l, hl⟩ := reps_prefix R n m
  obtain ⟨i, hi, _⟩ := posR_some (reps_any hr hb)
  have : posR R b (reps R 256) = some i := by rw [← hm, hl, posR_append, hi]; rfl
  rw [hi, numR, this]; rfl
/-- A byte that is the first one of its class. -/
theorem numR_new {R : Nat → Nat → Bool} (hr : ∀ b, R b b = true) {n : Nat} (hn : n < 256) (h : (reps R n).any (R n) = false) : reps R (n + 1) = reps R n ++ [n] ∧ numR R n = (reps R n).length := by
  have e : reps R (n + 1) = reps R n ++ [n] := by rw [reps_succ, h]; rfl
  refine ⟨e, ?_⟩
  have h1 := posR_reps hr (Nat.lt_succ_self n) hn
  rw [e, posR_append, posR_none h] at h1
  simpa [posR, hr] using h1.symm
theorem numR_old {R : Nat → Nat → Bool} (hr : ∀ b, R b b = true) {n : Nat} (hn : n < 256) (h : (reps R n).any (R n) = true) : reps R (n + 1) = reps R n ∧ posR R n (reps R n) = some (numR R n) := by
  have e : reps R (n + 1) = reps R n := by rw [reps_succ, h]; rfl
  refine ⟨e, ?_⟩
  rw [← e]; exact posR_reps hr (Nat.lt_succ_self n) hn
theorem numR_lt {R : Nat → Nat → Bool} (hr : ∀ b, R b b = true) {b : Nat} (hb : b < 256) : numR R b < widR R := by
  obtain ⟨i, hi, hlt, _⟩ := posR_some (reps_any hr hb)
  unfold numR widR; rw [hi]; exact hlt
theorem widR_le (R : Nat → Nat → Bool) : widR R ≤ 256 := reps_length R 256
/-- An equivalence. -/
structure Equi (R : Nat → Nat → Bool) : Prop where
  refl : ∀ b, R b b = true
  symm : ∀ {b c}, R b c = true → R c b = true
  trans : ∀ {b c d}, R b c = true → R c d = true → R b d = true
theorem posR_congr {R : Nat → Nat → Bool} (E : Equi R) {b c : Nat} (h : R b c = true) : ∀ l, posR R b l = posR R c l
  | [] => rfl
  | d :: r => by
    simp only [posR, posR_congr E h r]
    have : R b d = R c d := by
      rw [Bool.eq_iff_iff]; exact ⟨fun k => E.trans (E.symm h) k, fun k => E.trans h k⟩
    rw [this]
/-- Two bytes have one number just if they are alike. -/
theorem numR_eq {R : Nat → Nat → Bool} (E : Equi R) {b c : Nat} (hb : b < 256) (hc : c < 256) : (numR R b = numR R c) ↔ R b c = true := by
  constructor
  · intro h
    obtain ⟨i, hi, _, d, hd, hbd⟩ := posR_some (reps_any E.refl hb)
    obtain ⟨j, hj, _, e, he, hce⟩ := posR_some (reps_any E.refl hc)
    have : i = j := by unfold numR at h; rw [hi, hj] at h; exact h
    subst this
    rw [hd] at he
    obtain rfl := Option.some.inj he
    exact E.trans hbd (E.symm hce)
  · intro h; unfold numR; rw [posR_congr E h]
theorem kern_equi {κ : Type} [DecidableEq κ] (k : Nat → κ) : Equi (Kern k) :=
  ⟨fun b => by simp [Kern], fun h => by simp only [Kern, decide_eq_true_eq] at *; exact h.symm, fun h1 h2 => by simp only [Kern, decide_eq_true_eq] at *; exact h1.trans h2⟩

/-! ### The map that numbers keys -/
def kvsOf {κ : Type} (k : Nat → κ) (l : List Nat) : List (κ × Value) := (l.zipIdx).map fun p => (k p.1, .int .u8 (p.2 : Nat))
theorem kvsOf_snoc {κ : Type} (k : Nat → κ) (l : List Nat) (n : Nat) : kvsOf k (l ++ [n]) = kvsOf k l ++ [(k n, .int .u8 (l.length : Nat))] := by
  unfold kvsOf; rw [List.zipIdx_append]; simp
theorem kvsOf_length {κ : Type} (k : Nat → κ) (l : List Nat) : (kvsOf k l).length = l.length := by simp [kvsOf]
theorem look_kvsOf {κ : Type} [DecidableEq κ] (k : Nat → κ) (b : Nat) (l : List Nat) : look (k b) (kvsOf k l) = (posR (Kern k) b l).map fun i => Value.int .u8 (i : Nat) := by
  have gen : ∀ (l : List Nat) (s : Nat), look (k b) ((l.zipIdx s).map fun p => (k p.1, Value.int .u8 (p.2 : Nat))) = (posR (Kern k) b l).map fun i => Value.int .u8 ((i + s : Nat) : Int) := by
    intro l
    induction l with
    | nil => intro s; rfl
    | cons c r ih =>
      intro s
      simp only [List.zipIdx_cons, List.map_cons, look, posR, Kern, decide_eq_true_eq]
      by_cases h : k b = k c
      · simp [h]
      · simp only [h, if_false]
        rw [ih (s + 1)]
        cases posR (Kern k) b r <;> simp <;> omega
  exact gen l 0
/-- 256 bytes. -/
def arr8 (f : Nat → Nat) : Array Value := (((List.range 256).map fun i => ((f i : Nat) : Int)).map (Value.int .u8)).toArray
theorem arr8_size (f : Nat → Nat) : (arr8 f).size = 256 := by simp [arr8]
theorem arr8_sizes (f g : Nat → Nat) : (arr8 f).size = (arr8 g).size := by rw [arr8_size, arr8_size]
theorem arr8_get (f : Nat → Nat) (i : Nat) (h : i < 256) : (arr8 f)[i]? = some (.int .u8 (f i : Nat)) := by simp [arr8, h]
theorem arr8_congr {f g : Nat → Nat} (h : ∀ i, i < 256 → f i = g i) : arr8 f = arr8 g := by
  have e : ((List.range 256).map fun i => ((f i : Nat) : Int)) = ((List.range 256).map fun i => ((g i : Nat) : Int)) := List.map_congr_left fun i hi => by rw [h i (by simpa using hi)]
  unfold arr8; rw [e]
theorem arr8_set (f : Nat → Nat) (k v : Nat) : (arr8 f).setIfInBounds k (.int .u8 (v : Nat)) = arr8 (fun i => if i = k then v else f i) := by
  apply Array.ext_getElem?
  intro i
  rw [Array.getElem?_setIfInBounds]
  by_cases hi : i < 256
  · rw [arr8_get _ i hi, arr8_get _ i hi, arr8_size]
    by_cases hk : k = i
    · subst hk; simp [hi]
    · have : ¬ i = k := fun e => hk e.symm
      simp [hk, this]
  · have h1 : (arr8 fun i => if i = k then v else f i)[i]? = none := by rw [Array.getElem?_eq_none]; rw [arr8_size]; omega
    have h2 : (arr8 f)[i]? = none := by rw [Array.getElem?_eq_none]; rw [arr8_size]; omega
    rw [h1, h2, arr8_size]
    by_cases hk : k = i
    · simp [hk, hi]
    · simp [hk]
theorem arr8_all (f : Nat → Nat) : (arr8 f).all (·.oneCell') = true := by
  rw [Array.all_eq_true_iff_forall_mem]
  intro v hv
  simp only [arr8, List.mem_toArray, List.mem_map] at hv
  obtain ⟨x, _, rfl⟩ := hv
  rfl
theorem number_step {R : Nat → Nat → Bool} {n v : Nat} (h : numR R n = v) : ∀ i, i < 256 → (if i = n then v else if i < n then numR R i else 0) = if i < n + 1 then numR R i else 0 := by
  intro i _
  by_cases h1 : i = n
  · subst h1; simp [h]
  · by_cases h2 : i < n
    · simp [h1, h2, show i < n + 1 by omega]
    · simp [h1, h2, show ¬ i < n + 1 by omega]
theorem widR_def (R : Nat → Nat → Bool) : widR R = (reps R 256).length := rfl
theorem kvsOf_zero {κ : Type} (k : Nat → κ) (R : Nat → Nat → Bool) : kvsOf k (reps R 0) = [] := rfl
/-- The same at each byte. -/
def sameArr (f g : Nat → Nat) : Bool := (List.range 256).all fun b => f b == g b
theorem sameArr_iff (f g : Nat → Nat) : sameArr f g = true ↔ ∀ b, b < 256 → f b = g b := by
  unfold sameArr; simp
theorem run_eq256 {P : Program} {t e : TypeId} (hu : P.underlying t = some (.array 256 e)) (he : P.underlying e = some (.int .u8)) (hi : (P.info? e).map (fun i => i.size) = some 1) (f g : Nat → Nat) (w : World) :
    (Op.equalIn 10000 t (.agg (arr8 f)) (.agg (arr8 g))).run P w = .ok (sameArr f g) w := by
  cases hq : P.info? e with
  | none => simp [hq] at hi
  | some i =>
    have hs : i.size = 1 := by simpa [hq] using hi
    have hc : P.cellsOf e = 1 := by simp [Program.cellsOf, hq, hs]
    have := run_equalIn_ints (P := P) 9998 hu he hq hc ((List.range 256).map fun i => ((f i : Nat) : Int)) ((List.range 256).map fun i => ((g i : Nat) : Int)) (by simp) (by simp) w
    refine this.trans ?_
    congr 1
    rw [Bool.eq_iff_iff, sameArr_iff]
    simp only [decide_eq_true_eq]
    constructor
    · intro h b hb
      have := List.map_inj_left.1 h b (by simpa using hb)
      omega
    · intro h
      exact List.map_congr_left fun b hb => by rw [h b (by simpa using hb)]
/-! ### The classes as sets -/
theorem reps_least {R : Nat → Nat → Bool} (E : Equi R) : ∀ (n c d : Nat), c ∈ reps R n → d < c → R c d = false
  | 0, c, d, h, _ => by simp [reps] at h
  | n + 1, c, d, h, hd => by
    rw [reps_succ] at h
    split at h
    · exact reps_least E n c d h hd
    · rename_i hn
      rcases List.mem_append.1 h with h | h
      · exact reps_least E n c d h hd
      · obtain rfl : c = n := by simpa using h
        cases hR : R c d with
        | false => rfl
        | true =>
          refine absurd ?_ hn
          obtain ⟨r, hr, hdr⟩ := List.any_eq_true.1 (reps_any E.refl hd)
          exact List.any_eq_true.2 ⟨r, hr, E.trans hR hdr⟩
def cls (R : Nat → Nat → Bool) (n c : Nat) : BSet := ofP fun d => decide (d < n) && R c d
theorem mem_cls (R : Nat → Nat → Bool) (n c d : Nat) : mem (cls R n c) d = (decide (d < 256) && (decide (d < n) && R c d)) := mem_ofP _ _
theorem posR_get {R : Nat → Nat → Bool} {b : Nat} : ∀ {l : List Nat} {p : Nat} (hp : p < l.length), R b l[p] = true → (∀ i (h : i < p), R b (l[i]'(by omega)) = false) → posR R b l = some p
  | [], p, hp, _, _ => by simp at hp
  | c :: r, 0, _, h, _ => by simp at h; simp [posR, h]
  | c :: r, p + 1, hp, h, hno => by
    have h0 := hno 0 (by omega)
    simp only [List.getElem_cons_zero] at h0
    have ih := posR_get (R := R) (b := b) (l := r) (p := p) (by simpa using hp) (by simpa using h) (fun i hi => by have := hno (i + 1) (by omega); simpa using this)
    simp [posR, h0, ih]
/-- The number of the last set that a byte is in; 0: it is in none. -/
def numF (L : List BSet) (c : Nat) : Nat := (List.range L.length).foldl (fun acc i => if mem (L.getD i 0) c then i else acc) 0
theorem numF_snoc (L : List BSet) (s : BSet) (c : Nat) : numF (L ++ [s]) c = if mem s c then L.length else numF L c := by
  unfold numF
  rw [List.length_append, List.length_singleton, List.range_succ, List.foldl_append]
  simp only [List.foldl_cons, List.foldl_nil]
  have e1 : (L ++ [s]).getD L.length 0 = s := by simp [List.getD]
  rw [e1]
  have : ∀ (l : List Nat) (z : Nat), (∀ i ∈ l, i < L.length) → l.foldl (fun acc i => if mem ((L ++ [s]).getD i 0) c then i else acc) z = l.foldl (fun acc i => if mem (L.getD i 0) c then i else acc) z := by
    intro l
    induction l with
    | nil => intro z _; rfl
    | cons i l ih =>
      intro z h
      have e2 : (L ++ [s]).getD i 0 = L.getD i 0 := by simp [List.getD, List.getElem?_append_left (h i (by simp))]
      simp only [List.foldl_cons, e2]
      exact ih _ (fun j hj => h j (by simp [hj]))
  rw [this _ _ (fun i hi => by simpa using hi)]
attribute [irreducible] reps
theorem numF_cls {R : Nat → Nat → Bool} (E : Equi R) {c : Nat} (hc : c < 256) : ∀ m, m ≤ (reps R 256).length →
    numF (((reps R 256).take m).map (cls R 256)) c = if numR R c < m then numR R c else 0
  | 0, _ => by simp [numF]
  | m + 1, hm => by
    rw [List.take_succ_eq_append_getElem hm, List.map_append, List.map_cons, List.map_nil, numF_snoc, numF_cls E hc m (by omega), List.length_map, List.length_take, Nat.min_eq_left (by omega)]
    have hmem : mem (cls R 256 (reps R 256)[m]) c = R (reps R 256)[m] c := by rw [mem_cls]; simp [hc]
    have hr := reps_lt R 256 _ (List.getElem_mem hm)
    have hnum : numR R (reps R 256)[m] = m := by
      have := posR_get (R := R) (b := (reps R 256)[m]) (l := reps R 256) (p := m) hm (E.refl _) (fun i hi => by
        have h1 := reps_least E 256 (reps R 256)[m] (reps R 256)[i] (List.getElem_mem _)
        have h2 := reps_sorted R 256 i m hi hm
        exact h1 h2)
      unfold numR; rw [this]; rfl
    rw [hmem]
    by_cases h : R (reps R 256)[m] c = true
    · have := (numR_eq E hr hc).2 h
      rw [if_pos h, ← this, hnum, if_pos (Nat.lt_succ_self m)]
    · have : numR R c ≠ m := fun e => h ((numR_eq E hr hc).1 (by rw [hnum, e]))
      rw [if_neg h]
      by_cases h2 : numR R c < m
      · rw [if_pos h2, if_pos (by omega)]
      · rw [if_neg h2, if_neg (by omega)]
attribute [irreducible] arr8 numR widR posR kvsOf sameArr
end Go.Proofs.YtdhmekpgplajmaaGreatDoor
end
section
namespace Go.Proofs.YtdhmekpgplajmaaGreatDoor
open Go.RowKit
/-- A whole array read out of a variable, under a guard that says yes. -/
theorem wpList_load_row_g {P : Program} {ops : Array Oper} {rest : List Oper} {o : Oper} {a : Act} {w : World} {Q : Exit → Act → World → Prop} (hw : Region.wanted o (yielded ops a.tmps) = true) (ty : TypeId) (x : Operand) (ho : o.op = .load ty x)
    (g : Nat) (hx : a.eval x = .pointer (some ⟨g, 0, none⟩)) (t : TypeId) (cs : Array Value) (fr : Nat × Nat) (d : TypeDesc) (hg : w.heap[g]? = some (.cells cs t fr))
    (hu : P.underlying ty = some d) (hd : (match d with | .struct _ | .array _ _ => true | _ => false) = true) (hi : (P.info? ty).map (·.size) = some cs.size)
    (h : wpList P ops Q rest (a.put o.dst (.agg cs)) w) : wpList P ops Q (o :: rest) a w :=
  BigFrame.wpList_want hw fun _ hK => wp_load_row ty x ho g hx t cs fr d hg hu hd hi (hK _ _ h)
end Go.Proofs.YtdhmekpgplajmaaGreatDoor
end
