/- A region that draws its order: calls that give one value, whatever came before them, may be taken first. No program in sight. -/
import Derived.OrdersHeld
import Derived.Deep.MidRow
import Derived.Test.YtinlfbacfmmfpaaDoorBase
namespace Go.Proofs.YtinlfbacfmmfpaaDoor
open Go.RowKit
section
variable {P : Program} {ops : Array Oper} {Q : Exit → Act → World → Prop} {md : Region.Mode} {R : World → World → Prop} {t : Nat}

/-- Whatever order is picked from here on, from this world or any later one (R says what is later). Number t alone, which waits for all others, may do what it likes to the world. -/
def wpM (P : Program) (md : Region.Mode) (ops : Array Oper) (Q : Exit → Act → World → Prop) (R : World → World → Prop) (t : Nat) : Nat → Array Bool → Act → World → Prop
  | 0, listed, a, w => ∀ w1, R w w1 → Region.ready md ops listed = [] ∧ Q .normal a w1
  | fuel + 1, listed, a, w => ∀ w1, R w w1 → (Region.ready md ops listed = [] → Q .normal a w1) ∧
      ∀ i ∈ Region.ready md ops listed, wpOp P ops Q i (fun a' w' => (i ≠ t → R w1 w') ∧ wpM P md ops Q R t fuel (listed.setIfInBounds i true) a' w') a w1

/-- Whatever has come up has come up behind all that it waits for. -/
def Cl (md : Region.Mode) (ops : Array Oper) (listed : Array Bool) : Prop := ∀ k o, ops[k]? = some o → listed.getD k false = true → ∀ e ∈ o.after, Region.binds md e = true → listed.getD e.on false = true
def clB (md : Region.Mode) (ops : Array Oper) (listed : Array Bool) : Bool := (List.range ops.size).all fun k => !listed.getD k false || ((ops[k]?).map fun o => o.after.all fun e => !Region.binds md e || listed.getD e.on false).getD true
theorem Cl.ofB {listed : Array Bool} (h : clB md ops listed = true) : Cl md ops listed := fun k o ho hk e he hb => by
  have hlt : k < ops.size := (Array.getElem?_eq_some_iff.1 ho).1
  have := List.all_eq_true.1 h k (List.mem_range.2 hlt)
  rw [hk, ho] at this
  simp only [Bool.not_true, Bool.false_or, Option.map_some, Option.getD_some] at this
  have := (Array.all_eq_true_iff_forall_mem.1 this) e he
  rw [hb] at this
  simpa using this
/-- Does number t wait for number i, directly or through others? -/
def needs (md : Region.Mode) (ops : Array Oper) (i : Nat) : Nat → Nat → Bool
  | 0, _ => false
  | f + 1, t => ((ops[t]?).map fun o => o.after.any fun e => Region.binds md e && (e.on == i || needs md ops i f e.on)).getD false
theorem needs_listed {listed : Array Bool} (hc : Cl md ops listed) {i : Nat} : ∀ (f t : Nat) (o : Oper), ops[t]? = some o → (∀ e ∈ o.after, Region.binds md e = true → listed.getD e.on false = true) → needs md ops i f t = true → listed.getD i false = true
  | 0, _, _, _, _, h => by cases h
  | f + 1, t, o, ho, hl, h => by
    unfold needs at h
    rw [ho] at h
    simp only [Option.map_some, Option.getD_some] at h
    obtain ⟨e, he, h2⟩ := Array.any_eq_true'.1 h
    simp only [Bool.and_eq_true, Bool.or_eq_true, beq_iff_eq] at h2
    obtain ⟨hb, h3⟩ := h2
    have hon := hl e he hb
    rcases h3 with rfl | h3
    · exact hon
    · cases hoe : ops[e.on]? with
      | none =>
        cases f with
        | zero => cases h3
        | succ f => unfold needs at h3; rw [hoe] at h3; cases h3
      | some o2 => exact needs_listed hc f e.on o2 hoe (fun e2 he2 hb2 => hc _ _ hoe hon e2 he2 hb2) h3
theorem Cl.step {listed : Array Bool} (hc : Cl md ops listed) {j : Nat} (hj : j ∈ Region.ready md ops listed) : Cl md ops (listed.setIfInBounds j true) := fun k o ho hk e he hb => by
  by_cases hkj : k = j
  · subst hkj
    obtain ⟨_, o', ho', hall⟩ := mem_ready.1 hj
    rw [ho] at ho'
    cases ho'
    exact getD_set_true (hall e he hb)
  · rw [getD_set_ne false (fun h => hkj h.symm)] at hk
    exact getD_set_true (hc k o ho hk e he hb)
theorem wpM.later (ht : ∀ a b c, R a b → R b c → R a c) : ∀ {fuel : Nat} {listed : Array Bool} {a : Act} {w w' : World}, wpM P md ops Q R t fuel listed a w → R w w' → wpM P md ops Q R t fuel listed a w'
  | 0, _, _, _, _, h, hr => fun w1 h1 => h w1 (ht _ _ _ hr h1)
  | _ + 1, _, _, _, _, h, hr => fun w1 h1 => h w1 (ht _ _ _ hr h1)
theorem wpAny_of_M (hr : ∀ a, R a a) : ∀ (fuel : Nat) (listed : Array Bool) (a : Act) (w : World), wpM P md ops Q R t fuel listed a w → wpAny P md ops Q fuel listed a w
  | 0, _, _, w, h => h w (hr w)
  | fuel + 1, _, _, w, h => ⟨(h w (hr w)).1, fun i hi => wpOp_mono (fun a' w' h' => wpAny_of_M hr fuel _ a' w' h'.2) ((h w (hr w)).2 i hi)⟩

/-- One run of an operation that gives v: by itself, or by a call. -/
def GivesAt (P : Program) (R : World → World → Prop) (o : Oper) (v : Value) (a : Act) (w1 : World) : Prop :=
  (execOp a.eval o).run P w1 = .ok (.value v) w1 ∨ ∃ f args, (execOp a.eval o).run P w1 = .ok (.enter f args) w1 ∧ Calls P f args w1 fun e w2 => e = .returned v ∧ R w1 w2
/-- In state a, in every later world, the operation leaves v in its temporary, and nothing that matters changes. -/
def Gives (P : Program) (ops : Array Oper) (R : World → World → Prop) (o : Oper) (v : Value) (a : Act) (w : World) : Prop :=
  (Region.wanted o (yielded ops a.tmps) = true ∧ ∀ w1, R w w1 → GivesAt P R o v a w1) ∨ (Region.wanted o (yielded ops a.tmps) = false ∧ v = undef)
theorem Gives.wpOp (hrefl : ∀ a, R a a) {i : Nat} {o : Oper} {v : Value} {a : Act} (hi : ops[i]? = some o) {w w1 : World} (hy : Gives P ops R o v a w) (hR : R w w1) {K : Act → World → Prop}
    (h : ∀ w2, R w1 w2 → K (a.put o.dst v) w2) : wpOp P ops Q i K a w1 := by
  unfold Go.wpOp
  simp only [hi]
  rcases hy with ⟨hw, hv⟩ | ⟨hw, rfl⟩
  · simp only [hw, if_true]
    refine .inl ?_
    unfold Oper.wp
    rcases hv w1 hR with he | ⟨f, args, he, hc⟩
    · simp only [he, Oper.upon]; exact h _ (hrefl _)
    · simp only [he, Oper.upon]
      refine Calls.mono hc fun e w2 ⟨h1, h2⟩ => ?_
      subst h1
      exact h _ h2
  · simp only [hw, Bool.false_eq_true, if_false]; exact h _ (hrefl _)
theorem Gives.of_same {o : Oper} {v : Value} {a a' : Act} {w : World} (hy : Gives P ops R o v a w) (he : execOp a'.eval o = execOp a.eval o)
    (hw : Region.wanted o (yielded ops a'.tmps) = Region.wanted o (yielded ops a.tmps)) : Gives P ops R o v a' w := by
  unfold Gives GivesAt at *
  rw [he, hw]
  exact hy
theorem Gives.later (ht : ∀ a b c, R a b → R b c → R a c) {o : Oper} {v : Value} {a : Act} {w w' : World} (hy : Gives P ops R o v a w) (hR : R w w') : Gives P ops R o v a w' :=
  hy.imp (fun ⟨h1, h2⟩ => ⟨h1, fun w1 h => h2 w1 (ht _ _ _ hR h)⟩) id
/-- One operation apart from another one: whether the other one's value lies there already makes no difference. -/
theorem wpOp_putM {j : Nat} {oi oj : Oper} {v : Value} (hj : ops[j]? = some oj) (hap : oi.apart ops oj = true) (hsi : ∀ cs b, oi.op ≠ .select cs b) (hsj : ∀ cs b, oj.op ≠ .select cs b)
    (hQ : ∀ c a w, Q (.panic c) (a.put oi.dst v) w → Q (.panic c) a w) {K : Act → World → Prop} {a : Act} {w : World} (h : wpOp P ops Q j K (a.put oi.dst v) w) :
    wpOp P ops Q j (fun a' w' => (∀ w0, Gives P ops R oi v a w0 → Gives P ops R oi v a' w0) ∧ K (a'.put oi.dst v) w') a w := by
  obtain ⟨h1, h2, h3⟩ := Oper.apart_spec hap
  have keep : ∀ u w0, Gives P ops R oi v a w0 → Gives P ops R oi v (a.put oj.dst u) w0 := fun u w0 hy => hy.of_same (execOp_put oi hsi a oj.dst u h3) (wanted_put oi a oj.dst u h3)
  have keepD : ∀ d u w0, Gives P ops R oi v a w0 → Gives P ops R oi v (({ a with defers := d :: a.defers } : Act).put oj.dst u) w0 := fun d u w0 hy =>
    (hy.of_same (a' := { a with defers := d :: a.defers }) rfl rfl).of_same (execOp_put oi hsi _ oj.dst u h3) (wanted_put oi _ oj.dst u h3)
  unfold wpOp at *
  simp only [hj] at *
  rw [wanted_put oj a oi.dst v h1] at h
  by_cases hw : Region.wanted oj (yielded ops a.tmps) = true
  · simp only [hw, if_true] at h ⊢
    rcases h with h | ⟨hasks, hlets⟩
    case inr => exact .inr ⟨by unfold Oper.asks at *; rw [execOp_put oj hsj a oi.dst v h1] at hasks; exact hasks, hlets⟩
    refine .inl ?_
    unfold Oper.wp at *
    rw [execOp_put oj hsj a oi.dst v h1] at h
    generalize (execOp a.eval oj).run P w = r at *
    cases r with
    | ok n w' =>
      cases n <;> simp only [Oper.upon] at h ⊢
      case value u => exact ⟨keep u, by rw [← Act.put_comm a v u h2]; exact h⟩
      case skip => exact ⟨keep _, by rw [← Act.put_comm a v undef h2]; exact h⟩
      case defer d => exact ⟨keepD d _, by rw [← Act.put_comm _ v undef h2, ← Act.put_defers]; exact h⟩
      case enter f args =>
        refine Calls.mono h fun e w'' he => ?_
        cases e with
        | returned u => exact ⟨keep u, by rw [← Act.put_comm a v u h2]; exact he⟩
        | panicked c => exact hQ _ _ _ he
        | outgrown => exact he
      case row row args => exact Rows.mono h fun u w'' he => ⟨keep u, by rw [← Act.put_comm a v u h2]; exact he⟩
    | halt x w' =>
      cases x <;> simp only [Oper.upon] at h ⊢
      case panic u => exact hQ _ _ _ h
  · simp only [hw, Bool.false_eq_true, if_false] at h ⊢
    exact ⟨keep _, by rw [← Act.put_comm a v undef h2]; exact h⟩
theorem wpM_first (hrefl : ∀ a, R a a) (ht : ∀ a b c, R a b → R b c → R a c) {i : Nat} {oi : Oper} {v : Value} (hi : ops[i]? = some oi) (hsel : ∀ (j : Nat) (o : Oper) cs b, ops[j]? = some o → o.op ≠ .select cs b)
    (hQ : ∀ c a w, Q (.panic c) (a.put oi.dst v) w → Q (.panic c) a w) (hit : i ≠ t) (hn : ops.size ≤ t ∨ needs md ops i ops.size t = true) : ∀ (fuel : Nat) (listed : Array Bool) (a : Act) (w : World), Cl md ops listed →
      (∀ j oj, ops[j]? = some oj → j ≠ i → listed.getD j true = false → (∀ e ∈ oj.after, Region.binds md e = true → e.on ≠ i) → oi.apart ops oj = true) →
      i ∈ Region.ready md ops listed → Gives P ops R oi v a w →
      wpM P md ops Q R t fuel (listed.setIfInBounds i true) (a.put oi.dst v) w → wpM P md ops Q R t (fuel + 1) listed a w := by
  intro fuel
  induction fuel with
  | zero =>
    intro listed a w _ _ hr hy H w1 hw1
    refine ⟨fun h => (by rw [h] at hr; cases hr), fun j hj => ?_⟩
    by_cases hji : j = i
    · subst hji
      exact hy.wpOp hrefl hi hw1 fun w2 h2 => ⟨fun _ => h2, fun w3 h3 => H w3 (ht _ _ _ hw1 (ht _ _ _ h2 h3))⟩
    · have := ready_mono hj hji
      rw [(H w (hrefl _)).1] at this
      cases this
  | succ fuel ih =>
    intro listed a w hcl hfree hr hy H w1 hw1
    refine ⟨fun h => (by rw [h] at hr; cases hr), fun j hj => ?_⟩
    by_cases hji : j = i
    · subst hji
      exact hy.wpOp hrefl hi hw1 fun w2 h2 => ⟨fun _ => h2, wpM.later ht H (ht _ _ _ hw1 h2)⟩
    · have h1 := (H w1 hw1).2 j (ready_mono hj hji)
      obtain ⟨hjun, oj, hoj, hall⟩ := mem_ready.1 hj
      have hjt : j ≠ t := fun h => by
        subst h
        rcases hn with hn | hn
        · have := (Array.getElem?_eq_some_iff.1 hoj).1; omega
        · have h5 := needs_listed hcl _ _ _ hoj hall hn
          have h6 := (mem_ready.1 hr).1
          rcases Nat.lt_or_ge i listed.size with h' | h'
          · simp [h'] at h5 h6; rw [h6] at h5; cases h5
          · simp [Array.getElem?_eq_none h'] at h5
      have hnot : ∀ e ∈ oj.after, Region.binds md e = true → e.on ≠ i := fun e he hb heq => by
        have h1 := hall e he hb
        have h0 := (mem_ready.1 hr).1
        rw [heq] at h1
        rcases Nat.lt_or_ge i listed.size with h' | h'
        · simp [h'] at h0 h1; rw [h0] at h1; cases h1
        · simp [Array.getElem?_eq_none h'] at h1
      have h2 := wpOp_putM (R := R) hoj (hfree j oj hoj hji hjun hnot) (fun cs b => hsel i oi cs b hi) (fun cs b => hsel j oj cs b hoj) hQ h1
      have hfree' : ∀ k ok, ops[k]? = some ok → k ≠ i → (listed.setIfInBounds j true).getD k true = false →
          (∀ e ∈ ok.after, Region.binds md e = true → e.on ≠ i) → oi.apart ops ok = true := fun k ok hk hki hun hno => by
        refine hfree k ok hk hki ?_ hno
        by_cases hjk : j = k
        · subst hjk; exact hjun
        · rw [getD_set_ne true hjk] at hun; exact hun
      refine wpOp_mono (fun a' w' h3 => ⟨h3.2.1, ih (listed.setIfInBounds j true) a' w' (hcl.step hj) hfree' (ready_mono hr (Ne.symm hji)) (h3.1 _ (hy.later ht (ht _ _ _ hw1 (h3.2.1 hjt)))) ?_⟩) h2
      rw [Array.setIfInBounds_comm _ _ hji]
      exact h3.2.2
end
/-- Later: all that lay lies as it lay. -/
def Later (w w' : World) : Prop := Below w.heap.size w w'
theorem Later.refl (w : World) : Later w w := Below.refl _ _
theorem Later.trans (a b c : World) (h : Later a b) (k : Later b c) : Later a c := Below.trans h (Below.mono k h.size)
section
variable {P : Program} {ops : Array Oper} {Q : Exit → Act → World → Prop} {md : Region.Mode} {t : Nat}
theorem tail_ne {listed : Array Bool} {i : Nat} (hc : (clB md ops listed && (decide (ops.size ≤ t) || needs md ops i ops.size t) && decide (i ≠ t)) = true) : i ≠ t := by
  simp only [Bool.and_eq_true, decide_eq_true_eq] at hc; exact hc.2
theorem tail_needs {listed : Array Bool} {i : Nat} (hc : (clB md ops listed && (decide (ops.size ≤ t) || needs md ops i ops.size t) && decide (i ≠ t)) = true) : ops.size ≤ t ∨ needs md ops i ops.size t = true := by
  simp only [Bool.and_eq_true, Bool.or_eq_true, decide_eq_true_eq] at hc; exact hc.1.2
theorem tail_cl {listed : Array Bool} {i : Nat} (hc : (clB md ops listed && (decide (ops.size ≤ t) || needs md ops i ops.size t) && decide (i ≠ t)) = true) : Cl md ops listed := by
  simp only [Bool.and_eq_true] at hc; exact Cl.ofB hc.1.1
theorem wpM_take {i : Nat} {oi : Oper} {v : Value} {fuel : Nat} {listed : Array Bool} {a : Act} {w : World} (hi : ops[i]? = some oi)
    (hs : Region.noSelect ops = true) (hf : Region.free md ops listed i = true) (hr : (Region.ready md ops listed).contains i = true) (hc : (clB md ops listed && (decide (ops.size ≤ t) || needs md ops i ops.size t) && decide (i ≠ t)) = true)
    (hQ : ∀ c a w, Q (.panic c) (a.put oi.dst v) w → Q (.panic c) a w) (hw : Region.wanted oi (yielded ops a.tmps) = true) (hy : ∀ w1, Later w w1 → (execOp a.eval oi).run P w1 = .ok (.value v) w1)
    (h : wpM P md ops Q Later t fuel (listed.setIfInBounds i true) (a.put oi.dst v) w) : wpM P md ops Q Later t (fuel + 1) listed a w :=
  wpM_first Later.refl Later.trans hi (Region.noSelect_spec hs) hQ (tail_ne hc) (tail_needs hc) fuel listed a w (tail_cl hc) (Region.free_spec hi hf) (by simpa using hr) (.inl ⟨hw, fun w1 h1 => .inl (hy w1 h1)⟩) h
theorem wpM_skip {i : Nat} {oi : Oper} {fuel : Nat} {listed : Array Bool} {a : Act} {w : World} (hi : ops[i]? = some oi)
    (hs : Region.noSelect ops = true) (hf : Region.free md ops listed i = true) (hr : (Region.ready md ops listed).contains i = true) (hc : (clB md ops listed && (decide (ops.size ≤ t) || needs md ops i ops.size t) && decide (i ≠ t)) = true)
    (hQ : ∀ c a w, Q (.panic c) (a.put oi.dst undef) w → Q (.panic c) a w) (hw : Region.wanted oi (yielded ops a.tmps) = false)
    (h : wpM P md ops Q Later t fuel (listed.setIfInBounds i true) (a.put oi.dst undef) w) : wpM P md ops Q Later t (fuel + 1) listed a w :=
  wpM_first Later.refl Later.trans hi (Region.noSelect_spec hs) hQ (tail_ne hc) (tail_needs hc) fuel listed a w (tail_cl hc) (Region.free_spec hi hf) (by simpa using hr) (.inr ⟨hw, rfl⟩) h
theorem wpM_call {i : Nat} {oi : Oper} {v : Value} {fuel : Nat} {listed : Array Bool} {a : Act} {w : World} {f : FuncId} {args : Array Value} (hi : ops[i]? = some oi)
    (hs : Region.noSelect ops = true) (hf : Region.free md ops listed i = true) (hr : (Region.ready md ops listed).contains i = true) (hc : (clB md ops listed && (decide (ops.size ≤ t) || needs md ops i ops.size t) && decide (i ≠ t)) = true)
    (hQ : ∀ c a w, Q (.panic c) (a.put oi.dst v) w → Q (.panic c) a w) (hw : Region.wanted oi (yielded ops a.tmps) = true) (he : ∀ w1, (execOp a.eval oi).run P w1 = .ok (.enter f args) w1)
    (hy : ∀ w1, Later w w1 → Calls P f args w1 (Ret w1 v))
    (h : wpM P md ops Q Later t fuel (listed.setIfInBounds i true) (a.put oi.dst v) w) : wpM P md ops Q Later t (fuel + 1) listed a w :=
  wpM_first Later.refl Later.trans hi (Region.noSelect_spec hs) hQ (tail_ne hc) (tail_needs hc) fuel listed a w (tail_cl hc) (Region.free_spec hi hf) (by simpa using hr) (.inl ⟨hw, fun w1 h1 => .inr ⟨f, args, he w1, (hy w1 h1).mono fun _ _ k => k⟩⟩) h
/-- One operation alone may come up. -/
theorem wpM_one {i : Nat} {oi : Oper} {fuel : Nat} {listed : Array Bool} {a : Act} {w : World} (hr : Region.ready md ops listed = [i]) (hi : ops[i]? = some oi)
    (h : ∀ w1, Later w w1 → ∀ K : Act → World → Prop, Shut (∀ a' w', (i ≠ t → Later w1 w') → wpM P md ops Q Later t fuel (listed.setIfInBounds i true) a' w' → K a' w') → if Region.wanted oi (yielded ops a.tmps) = true then Oper.wp P oi a w1 K Q else K (a.put oi.dst undef) w1) :
    wpM P md ops Q Later t (fuel + 1) listed a w := fun w1 h1 => by
  refine ⟨fun h0 => (by rw [hr] at h0; cases h0), fun j hj => ?_⟩
  rw [hr, List.mem_singleton] at hj
  subst hj
  exact wpOp_step hi (fun K' hK => h w1 h1 K' (fun a' w' k1 k2 => hK a' w' ⟨k1, k2⟩))
theorem wpM_done {listed : Array Bool} {a : Act} {w : World} (hr : Region.ready md ops listed = []) (h : ∀ w1, Later w w1 → Q .normal a w1) : ∀ fuel, wpM P md ops Q Later t fuel listed a w
  | 0 => fun w1 h1 => ⟨hr, h w1 h1⟩
  | _ + 1 => fun w1 h1 => ⟨fun _ => h w1 h1, by rw [hr]; simp⟩
theorem wp_region_M (t : Nat) {id : Nat} {a : Act} {w : World} (hm : P.follows .mixedOrders = true)
    (h : wpM P .any ops Q Later t ops.size (Array.replicate ops.size false) a w.drew) : (Code.region id ops true).wp P Q a w :=
  wp_region_any hm (wpAny_of_M Later.refl _ _ _ _ h)
end
end Go.Proofs.YtinlfbacfmmfpaaDoor
