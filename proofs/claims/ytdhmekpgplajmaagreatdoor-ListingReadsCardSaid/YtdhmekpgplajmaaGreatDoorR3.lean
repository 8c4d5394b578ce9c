/- Joined by tools/merge.py: OrdT, Own2, Bits, Pop, Open, Words, Sets, Number, NumberP, Parts, PartsN, RefParts. -/
import Derived.Test.YtdhmekpgplajmaaGreatDoorR2
import Derived.Test.YtdhmekpgplajmaaGreatDoorR1
import Derived.Laws.AppendOwnNone
import Derived.Lib.TrailingZeros
import Derived.ProofKit
import Derived.OpenShut
import Derived.ShutString
import Derived.ChangeOld
import Derived.Below
import Derived.Deep.Slices
import Derived.Test.YtdhmekpgplajmaaGreatDoorProg
import Derived.Laws.Bits64b
import Derived.Lib.Hide
import Derived.Deep.WholeRow
section
namespace Go.Proofs.YtdhmekpgplajmaaGreatDoor
open Go.RowKit
section
variable {P : Program} {ops : Array Oper} {Q : Exit → Act → World → Prop} {md : Region.Mode} {R : World → World → Prop} {T : List Nat}
/-- Whatever order is picked from here on, from this world or any later one (R says what is later). The numbers in T may do what they like to the world. -/
def wpT (P : Program) (md : Region.Mode) (ops : Array Oper) (Q : Exit → Act → World → Prop) (R : World → World → Prop) (T : List Nat) : Nat → Array Bool → Act → World → Prop
  | 0, listed, a, w => ∀ w1, R w w1 → Region.ready md ops listed = [] ∧ Q .normal a w1
  | fuel + 1, listed, a, w => ∀ w1, R w w1 → (Region.ready md ops listed = [] → Q .normal a w1) ∧
      ∀ i ∈ Region.ready md ops listed, wpOp P ops Q i (fun a' w' => (T.contains i = false → R w1 w') ∧ wpT P md ops Q R T fuel (listed.setIfInBounds i true) a' w') a w1

theorem wpT.later (ht : ∀ a b c, R a b → R b c → R a c) : ∀ {fuel : Nat} {listed : Array Bool} {a : Act} {w w' : World}, wpT P md ops Q R T fuel listed a w → R w w' → wpT P md ops Q R T fuel listed a w'
  | 0, _, _, _, _, h, hr => fun w1 h1 => h w1 (ht _ _ _ hr h1)
  | _ + 1, _, _, _, _, h, hr => fun w1 h1 => h w1 (ht _ _ _ hr h1)
theorem wpAny_of_T (hr : ∀ a, R a a) : ∀ (fuel : Nat) (listed : Array Bool) (a : Act) (w : World), wpT P md ops Q R T fuel listed a w → wpAny P md ops Q fuel listed a w
  | 0, _, _, w, h => h w (hr w)
  | fuel + 1, _, _, w, h => ⟨(h w (hr w)).1, fun i hi => wpOp_mono (fun a' w' h' => wpAny_of_T hr fuel _ a' w' h'.2) ((h w (hr w)).2 i hi)⟩

theorem wpT_first (hrefl : ∀ a, R a a) (ht : ∀ a b c, R a b → R b c → R a c) {i : Nat} {oi : Oper} {v : Value} (hi : ops[i]? = some oi) (hsel : ∀ (j : Nat) (o : Oper) cs b, ops[j]? = some o → o.op ≠ .select cs b)
    (hQ : ∀ c a w, Q (.panic c) (a.put oi.dst v) w → Q (.panic c) a w) (hit : T.contains i = false) : ∀ (fuel : Nat) (listed : Array Bool) (a : Act) (w : World), Cl md ops listed →
      (∀ j oj, ops[j]? = some oj → j ≠ i → listed.getD j true = false → (∀ e ∈ oj.after, Region.binds md e = true → e.on ≠ i) → oi.apart ops oj = true) →
      i ∈ Region.ready md ops listed → ((Gives P ops R oi v a w ∧ ∀ t ∈ T, needs md ops i ops.size t = true) ∨ ∀ w0, Gives P ops R oi v a w0) →
      wpT P md ops Q R T fuel (listed.setIfInBounds i true) (a.put oi.dst v) w → wpT P md ops Q R T (fuel + 1) listed a w := by
  intro fuel
  induction fuel with
  | zero =>
    intro listed a w _ _ hr hg H w1 hw1
    have hy : Gives P ops R oi v a w := hg.elim (·.1) (· w)
    refine ⟨fun h => (by rw [h] at hr; cases hr), fun j hj => ?_⟩
    by_cases hji : j = i
    · subst hji
      exact hy.wpOp hrefl hi hw1 fun w2 h2 => ⟨fun _ => h2, fun w3 h3 => H w3 (ht _ _ _ hw1 (ht _ _ _ h2 h3))⟩
    · have := ready_mono hj hji
      rw [(H w (hrefl _)).1] at this
      cases this
  | succ fuel ih =>
    intro listed a w hcl hfree hr hg H w1 hw1
    have hy : Gives P ops R oi v a w := hg.elim (·.1) (· w)
    refine ⟨fun h => (by rw [h] at hr; cases hr), fun j hj => ?_⟩
    by_cases hji : j = i
    · subst hji
      exact hy.wpOp hrefl hi hw1 fun w2 h2 => ⟨fun _ => h2, wpT.later ht H (ht _ _ _ hw1 h2)⟩
    · have h1 := (H w1 hw1).2 j (ready_mono hj hji)
      obtain ⟨hjun, oj, hoj, hall⟩ := mem_ready.1 hj
      have hjt : (∀ t ∈ T, needs md ops i ops.size t = true) → T.contains j = false := fun hn => by
        cases hc : T.contains j with
        | false => rfl
        | true =>
          have h5 := needs_listed hcl _ _ _ hoj hall (hn j (by simpa using hc))
          have h6 := (mem_ready.1 hr).1
          rcases Nat.lt_or_ge i listed.size with h' | h'
          · simp [h'] at h5 h6; rw [h6] at h5; cases h5
          · simp [Array.getElem?_eq_none h'] at h5
      have hnot : ∀ e ∈ oj.after, Region.binds md e = true → e.on ≠ i := fun e he hb heq => by
        have h1 := hall e he hb
        have h0 := (mem_ready.1 hr).1
        rw [heq] at h1
        rcases Nat.lt_or_ge i listed.size with h' | h'
        · simp [h'] at h0 h1; rw [h0] at h1; cases h1
        · simp [Array.getElem?_eq_none h'] at h1
      have h2 := wpOp_putM (R := R) hoj (hfree j oj hoj hji hjun hnot) (fun cs b => hsel i oi cs b hi) (fun cs b => hsel j oj cs b hoj) hQ h1
      have hfree' : ∀ k ok, ops[k]? = some ok → k ≠ i → (listed.setIfInBounds j true).getD k true = false →
          (∀ e ∈ ok.after, Region.binds md e = true → e.on ≠ i) → oi.apart ops ok = true := fun k ok hk hki hun hno => by
        refine hfree k ok hk hki ?_ hno
        by_cases hjk : j = k
        · subst hjk; exact hjun
        · rw [getD_set_ne true hjk] at hun; exact hun
      refine wpOp_mono (fun a' w' h3 => ⟨h3.2.1, ih (listed.setIfInBounds j true) a' w' (hcl.step hj) hfree' (ready_mono hr (Ne.symm hji)) (hg.elim (fun hg => .inl ⟨h3.1 _ (hy.later ht (ht _ _ _ hw1 (h3.2.1 (hjt hg.2)))), hg.2⟩) (fun hg => .inr fun w0 => h3.1 w0 (hg w0))) ?_⟩) h2
      rw [Array.setIfInBounds_comm _ _ hji]
      exact h3.2.2
end
section
variable {P : Program} {ops : Array Oper} {Q : Exit → Act → World → Prop} {md : Region.Mode} {T : List Nat} {R : World → World → Prop}
theorem tailT_cl {listed : Array Bool} {i : Nat} (hc : (clB md ops listed && T.all (needs md ops i ops.size ·) && !T.contains i) = true) : Cl md ops listed ∧ (∀ t ∈ T, needs md ops i ops.size t = true) ∧ T.contains i = false := by
  simp only [Bool.and_eq_true, Bool.not_eq_true', List.all_eq_true] at hc
  exact ⟨Cl.ofB hc.1.1, hc.1.2, hc.2⟩
theorem tailT_cl0 {listed : Array Bool} {i : Nat} (hc : (clB md ops listed && !T.contains i) = true) : Cl md ops listed ∧ T.contains i = false := by
  simp only [Bool.and_eq_true, Bool.not_eq_true'] at hc
  exact ⟨Cl.ofB hc.1, hc.2⟩
theorem wpT_take [hR : RelOK R] {i : Nat} {oi : Oper} {v : Value} {fuel : Nat} {listed : Array Bool} {a : Act} {w : World} (hi : ops[i]? = some oi)
    (hs : Region.noSelect ops = true) (hf : Region.free md ops listed i = true) (hr : (Region.ready md ops listed).contains i = true) (hc : (clB md ops listed && T.all (needs md ops i ops.size ·) && !T.contains i) = true)
    (hQ : ∀ c a w, Q (.panic c) (a.put oi.dst v) w → Q (.panic c) a w) (hw : Region.wanted oi (yielded ops a.tmps) = true) (hy : ∀ w1, R w w1 → (execOp a.eval oi).run P w1 = .ok (.value v) w1)
    (h : wpT P md ops Q R T fuel (listed.setIfInBounds i true) (a.put oi.dst v) w) : wpT P md ops Q R T (fuel + 1) listed a w :=
  wpT_first hR.refl hR.trans hi (Region.noSelect_spec hs) hQ (tailT_cl hc).2.2 fuel listed a w (tailT_cl hc).1 (Region.free_spec hi hf) (by simpa using hr) (.inl ⟨.inl ⟨hw, fun w1 h1 => .inl (hy w1 h1)⟩, (tailT_cl hc).2.1⟩) h
theorem wpT_pure [hR : RelOK R] {i : Nat} {oi : Oper} {v : Value} {fuel : Nat} {listed : Array Bool} {a : Act} {w : World} (hi : ops[i]? = some oi)
    (hs : Region.noSelect ops = true) (hf : Region.free md ops listed i = true) (hr : (Region.ready md ops listed).contains i = true) (hc : (clB md ops listed && !T.contains i) = true)
    (hQ : ∀ c a w, Q (.panic c) (a.put oi.dst v) w → Q (.panic c) a w) (hw : Region.wanted oi (yielded ops a.tmps) = true) (hy : ∀ w1, (execOp a.eval oi).run P w1 = .ok (.value v) w1)
    (h : wpT P md ops Q R T fuel (listed.setIfInBounds i true) (a.put oi.dst v) w) : wpT P md ops Q R T (fuel + 1) listed a w :=
  wpT_first hR.refl hR.trans hi (Region.noSelect_spec hs) hQ (tailT_cl0 hc).2 fuel listed a w (tailT_cl0 hc).1 (Region.free_spec hi hf) (by simpa using hr) (.inr fun _ => .inl ⟨hw, fun w1 _ => .inl (hy w1)⟩) h
/-- One operation alone may come up. -/
theorem wpT_one {i : Nat} {oi : Oper} {fuel : Nat} {listed : Array Bool} {a : Act} {w : World} (hr : Region.ready md ops listed = [i]) (hi : ops[i]? = some oi)
    (h : ∀ w1, R w w1 → ∀ K : Act → World → Prop, Shut (∀ a' w', (T.contains i = false → R w1 w') → wpT P md ops Q R T fuel (listed.setIfInBounds i true) a' w' → K a' w') → if Region.wanted oi (yielded ops a.tmps) = true then Oper.wp P oi a w1 K Q else K (a.put oi.dst undef) w1) :
    wpT P md ops Q R T (fuel + 1) listed a w := fun w1 h1 => by
  refine ⟨fun h0 => (by rw [hr] at h0; cases h0), fun j hj => ?_⟩
  rw [hr, List.mem_singleton] at hj
  subst hj
  exact wpOp_step hi (fun K' hK => h w1 h1 K' (fun a' w' k1 k2 => hK a' w' ⟨k1, k2⟩))
theorem wpT_done {listed : Array Bool} {a : Act} {w : World} (hr : Region.ready md ops listed = []) (h : ∀ w1, R w w1 → Q .normal a w1) : ∀ fuel, wpT P md ops Q R T fuel listed a w
  | 0 => fun w1 h1 => ⟨hr, h w1 h1⟩
  | _ + 1 => fun w1 h1 => ⟨fun _ => h w1 h1, by rw [hr]; simp⟩
theorem wp_region_T [hR : RelOK R] (T : List Nat) {id : Nat} {a : Act} {w : World} (hm : P.follows .mixedOrders = true)
    (h : wpT P .any ops Q R T ops.size (Array.replicate ops.size false) a w.drew) : (Code.region id ops true).wp P Q a w :=
  wp_region_any hm (wpAny_of_T hR.refl _ _ _ _ h)
theorem tkT [hR : RelOK R] (i : Nat) {oi : Oper} (v : Value) {fuel : Nat} {listed : Array Bool} {a : Act} {w : World} (hi : ops[i]? = some oi) (hy : ∀ w1, R w w1 → (execOp a.eval oi).run P w1 = .ok (.value v) w1)
    (h : wpT P md ops Q R T fuel (listed.setIfInBounds i true) (a.put oi.dst v) w) (hw : Region.wanted oi (yielded ops a.tmps) = true := by rfl)
    (hc : (Region.noSelect ops && (Region.free md ops listed i && ((Region.ready md ops listed).contains i && (clB md ops listed && T.all (needs md ops i ops.size ·) && !T.contains i)))) = true := by kernel_rfl)
    (hQ : ∀ c a w, Q (.panic c) (a.put oi.dst v) w → Q (.panic c) a w := by exact fun _ _ _ h => h) : wpT P md ops Q R T (fuel + 1) listed a w := by
  rw [Bool.and_eq_true, Bool.and_eq_true, Bool.and_eq_true] at hc
  exact wpT_take hi hc.1 hc.2.1 hc.2.2.1 hc.2.2.2 hQ hw hy h
theorem tpT [hR : RelOK R] (i : Nat) {oi : Oper} (v : Value) {fuel : Nat} {listed : Array Bool} {a : Act} {w : World} (hi : ops[i]? = some oi) (hy : ∀ w1, (execOp a.eval oi).run P w1 = .ok (.value v) w1)
    (h : wpT P md ops Q R T fuel (listed.setIfInBounds i true) (a.put oi.dst v) w) (hw : Region.wanted oi (yielded ops a.tmps) = true := by rfl)
    (hc : (Region.noSelect ops && (Region.free md ops listed i && ((Region.ready md ops listed).contains i && (clB md ops listed && !T.contains i)))) = true := by kernel_rfl)
    (hQ : ∀ c a w, Q (.panic c) (a.put oi.dst v) w → Q (.panic c) a w := by exact fun _ _ _ h => h) : wpT P md ops Q R T (fuel + 1) listed a w := by
  rw [Bool.and_eq_true, Bool.and_eq_true, Bool.and_eq_true] at hc
  exact wpT_pure hi hc.1 hc.2.1 hc.2.2.1 hc.2.2.2 hQ hw hy h
end
end Go.Proofs.YtdhmekpgplajmaaGreatDoor
end
section
namespace Go.Proofs.YtdhmekpgplajmaaGreatDoor
open Go.RowKit

theorem RetOwn.open {α : Type} {w w' : World} {E size : Nat} {enc : α → List Value} {L : List α} {e : Ending} (h : RetOwn w E size enc L e w') : ∃ (a : Option Addr) (cap : Nat), e = .returned (.slice a L.length cap) ∧ Own w' w.heap.size E size enc (.slice a L.length cap) L ∧ Below w.heap.size w w' := h
end Go.Proofs.YtdhmekpgplajmaaGreatDoor
end
section
namespace Go.Proofs.YtdhmekpgplajmaaGreatDoor

/-- The places of a word's bits, rising. -/
def elemsW (v : Nat) : List Nat := (List.range 64).filter fun j => v.testBit j
theorem elemsW_zero : elemsW 0 = [] := by simp [elemsW]
theorem low_step (v : Nat) (h0 : v ≠ 0) (h : v < 18446744073709551616) : elemsW v = Lib.ctz 64 v :: elemsW (v &&& (v - 1)) ∧ Lib.ctz 64 v < 64 ∧ v &&& (v - 1) < v := by
  obtain ⟨m, hm, hk⟩ := Lib.ctzFrom_spec 64 v (by omega) h
  have e : Lib.ctz 64 v = Lib.ctzFrom 64 v := by simp [Lib.ctz, h0]
  rw [e]
  generalize Lib.ctzFrom 64 v = k at *
  have hp : 0 < 2 ^ k := Nat.pow_pos (by decide)
  have h1 : v - 1 = 2 ^ k * (2 * m) + (2 ^ k - 1) := by rw [hm, Nat.mul_add]; omega
  have tv : ∀ j, v.testBit j = (decide (k ≤ j) && (2 * m + 1).testBit (j - k)) := fun j => by rw [hm, Nat.testBit_two_pow_mul]
  have tp : ∀ j, (v &&& (v - 1)).testBit j = (decide (k < j) && v.testBit j) := fun j => by
    rw [Nat.testBit_and, h1, Nat.testBit_two_pow_mul_add _ (by omega), tv]
    by_cases a : j < k
    · simp [a, show ¬ k ≤ j by omega, show ¬ k < j by omega]
    · by_cases b : j = k
      · subst b; simp
      · obtain ⟨d, rfl⟩ : ∃ d, j = k + (d + 1) := ⟨j - k - 1, by omega⟩
        rw [show k + (d + 1) - k = d + 1 by omega]
        simp [Nat.testBit_succ, show ¬ k + (d + 1) < k by omega, show k ≤ k + (d + 1) by omega, show k < k + (d + 1) by omega]
        rw [show (2 * m + 1) / 2 = m by omega]
        exact id
  refine ⟨?_, hk, ?_⟩
  · unfold elemsW
    have hr : List.range 64 = List.range k ++ (k :: (List.range (64 - (k + 1))).map (k + 1 + ·)) := by
      rw [show (64 : Nat) = (k + 1) + (64 - (k + 1)) by omega, List.range_add, List.range_succ]
      simp
    rw [hr, List.filter_append, List.filter_append, List.filter_cons, List.filter_cons]
    have f1 : (List.range k).filter (fun j => v.testBit j) = [] := List.filter_eq_nil_iff.2 fun x hx => by rw [tv]; simp [Nat.not_le.2 (List.mem_range.1 hx)]
    have f2 : (List.range k).filter (fun j => (v &&& (v - 1)).testBit j) = [] := List.filter_eq_nil_iff.2 fun x hx => by rw [tp]; simp [Nat.not_lt.2 (Nat.le_of_lt (List.mem_range.1 hx))]
    have f3 : v.testBit k = true := by rw [tv]; simp
    have f4 : (v &&& (v - 1)).testBit k = false := by rw [tp]; simp
    rw [f1, f2, f3, f4]
    simp only [List.nil_append, if_true, Bool.false_eq_true, if_false]
    congr 1
    refine List.filter_congr fun x hx => ?_
    obtain ⟨y, _, rfl⟩ := List.mem_map.1 hx
    rw [tp]; simp [show k < k + 1 + y by omega]
  · exact Nat.lt_of_le_of_lt Nat.and_le_right (by omega)

def listW (i v : Nat) : List Nat := (elemsW v).map (64 * i + ·)
/-- The bytes of a set, rising. -/
def elems (s : BSet) : List Nat := (List.range 256).filter (mem s)
def tailS (s : BSet) : Nat → Nat → List Nat
  | _, 0 => []
  | i, f + 1 => listW i (word s i) ++ tailS s (i + 1) f
theorem elems_filter (s : BSet) (i : Nat) : ((List.range 64).map (64 * i + ·)).filter (mem s) = listW i (word s i) := by
  rw [List.filter_map]
  unfold listW elemsW
  congr 1
  refine List.filter_congr fun x hx => ?_
  rw [word_testBit]; simp [List.mem_range.1 hx]
theorem elems_words (s : BSet) : elems s = tailS s 0 4 := by
  unfold elems
  rw [show List.range 256 = (List.range 64).map (64 * 0 + ·) ++ ((List.range 64).map (64 * 1 + ·) ++ ((List.range 64).map (64 * 2 + ·) ++ (List.range 64).map (64 * 3 + ·))) by decide +kernel]
  simp only [List.filter_append, elems_filter, tailS, List.append_nil]
theorem mem_elems (s : BSet) (x : Nat) : x ∈ elems s ↔ mem s x = true := by
  unfold elems
  rw [List.mem_filter, List.mem_range]
  refine ⟨fun h => h.2, fun h => ⟨?_, h⟩⟩
  apply Decidable.byContradiction
  intro hn
  rw [mem_ge s x (by omega)] at h; cases h
theorem elems_lt {s : BSet} {x : Nat} (h : x ∈ elems s) : x < 256 := List.mem_range.1 (List.mem_filter.1 h).1
theorem elems_length (s : BSet) : (elems s).length ≤ 256 := by
  have := List.length_filter_le (mem s) (List.range 256)
  simpa [elems] using this
theorem ofL_elems (s : BSet) : ofL (elems s) = s := set_ext fun b _ => by
  rw [mem_ofL _ _ fun x hx => elems_lt hx]
  by_cases h : mem s b = true
  · rw [h]; exact decide_eq_true ((mem_elems s b).2 h)
  · rw [Bool.not_eq_true] at h
    rw [h]; exact decide_eq_false fun hx => by rw [(mem_elems s b).1 hx] at h; cases h
end Go.Proofs.YtdhmekpgplajmaaGreatDoor
end
section
namespace Go.Proofs.YtdhmekpgplajmaaGreatDoor

/-- A byte, again and again. -/
def rep8 (c : Nat) : Nat → Nat
  | 0 => 0
  | n + 1 => c + 256 * rep8 c n
/-- A function at each byte. -/
def map8 (f : Nat → Nat) : Nat → Nat → Nat
  | 0, _ => 0
  | n + 1, x => f (x % 256) + 256 * map8 f n (x / 256)
theorem and_step (x y : Nat) : x &&& y = (x % 256 &&& y % 256) + 256 * (x / 256 &&& y / 256) := by
  have h1 := Nat.and_mod_two_pow (a := x) (b := y) (n := 8)
  have h2 := Nat.and_div_two_pow (a := x) (b := y) (n := 8)
  have e : (2 : Nat) ^ 8 = 256 := rfl
  rw [e] at h1 h2
  rw [← h1, ← h2]
  omega
theorem and_rep (c : Nat) (hc : c < 256) (n x : Nat) : x &&& rep8 c (n + 1) = (x % 256 &&& c) + 256 * (x / 256 &&& rep8 c n) := by
  rw [and_step]
  simp only [rep8]
  rw [show (c + 256 * rep8 c n) % 256 = c by omega, show (c + 256 * rep8 c n) / 256 = rep8 c n by omega]
def f1 (b : Nat) : Nat := (b / 2 &&& 85) + (b &&& 85)
def f2 (b : Nat) : Nat := (b / 4 &&& 51) + (b &&& 51)
def pop8 (b : Nat) : Nat := (f2 (f1 b) / 16 + f2 (f1 b)) % 16
theorem k1 : ∀ a, a < 256 → ∀ e, e < 2 → (a / 2 + 128 * e) &&& 85 = a / 2 &&& 85 := by decide +kernel
theorem k2 : ∀ a, a < 256 → ∀ e, e < 4 → (a / 4 + 64 * e) &&& 51 = a / 4 &&& 51 := by decide +kernel
theorem b1 : ∀ b, b < 256 → f1 b < 256 := by decide +kernel
theorem b2 : ∀ b, b < 256 → f2 (f1 b) ≤ 68 ∧ f2 (f1 b) % 16 ≤ 4 := by decide +kernel
theorem b3 : ∀ b, b < 256 → pop8 b ≤ 8 ∧ pop8 b = ((List.range 8).filter fun j => b.testBit j).length := by decide +kernel
theorem step1 (n : Nat) : ∀ x, ((x / 2) &&& rep8 85 n) + (x &&& rep8 85 n) = map8 f1 n x := by
  induction n with
  | zero => intro x; simp [rep8, map8]
  | succ n ih =>
    intro x
    rw [and_rep 85 (by decide), and_rep 85 (by decide)]
    have e1 : x / 2 % 256 = x % 256 / 2 + 128 * (x / 256 % 2) := by omega
    have e2 : x / 2 / 256 = x / 256 / 2 := by omega
    rw [e1, e2, k1 _ (Nat.mod_lt _ (by decide)) _ (Nat.mod_lt _ (by decide))]
    have := ih (x / 256)
    simp only [map8, f1]
    omega
theorem step2 (n : Nat) : ∀ x, ((x / 4) &&& rep8 51 n) + (x &&& rep8 51 n) = map8 f2 n x := by
  induction n with
  | zero => intro x; simp [rep8, map8]
  | succ n ih =>
    intro x
    rw [and_rep 51 (by decide), and_rep 51 (by decide)]
    have e1 : x / 4 % 256 = x % 256 / 4 + 64 * (x / 256 % 4) := by omega
    have e2 : x / 4 / 256 = x / 256 / 4 := by omega
    rw [e1, e2, k2 _ (Nat.mod_lt _ (by decide)) _ (Nat.mod_lt _ (by decide))]
    have := ih (x / 256)
    simp only [map8, f2]
    omega
theorem map8_map8 (f g : Nat → Nat) (hg : ∀ b, b < 256 → g b < 256) (n : Nat) : ∀ x, map8 f n (map8 g n x) = map8 (fun b => f (g b)) n x := by
  induction n with
  | zero => intro x; rfl
  | succ n ih =>
    intro x
    have h := hg (x % 256) (Nat.mod_lt _ (by decide))
    simp only [map8]
    rw [show (g (x % 256) + 256 * map8 g n (x / 256)) % 256 = g (x % 256) by omega, show (g (x % 256) + 256 * map8 g n (x / 256)) / 256 = map8 g n (x / 256) by omega, ih]
theorem and15 (a : Nat) : a &&& 15 = a % 16 := Nat.and_two_pow_sub_one_eq_mod a 4
theorem map8_low (h : Nat → Nat) (hh : ∀ b, b < 256 → h b ≤ 68 ∧ h b % 16 ≤ 4) (n : Nat) (x : Nat) : map8 h n x % 16 ≤ 4 := by
  cases n with
  | zero => simp [map8]
  | succ n => have := hh (x % 256) (Nat.mod_lt _ (by decide)); simp only [map8]; omega
theorem step3 (h : Nat → Nat) (hh : ∀ b, b < 256 → h b ≤ 68 ∧ h b % 16 ≤ 4) (n : Nat) : ∀ x, (map8 h n x / 16 + map8 h n x) &&& rep8 15 n = map8 (fun b => (h b / 16 + h b) % 16) n x := by
  induction n with
  | zero => intro x; simp [rep8, map8]
  | succ n ih =>
    intro x
    have h0 := hh (x % 256) (Nat.mod_lt _ (by decide))
    have hl := map8_low h hh n (x / 256)
    have hi := ih (x / 256)
    rw [and_rep 15 (by decide)]
    simp only [map8]
    generalize h (x % 256) = a at *
    generalize map8 h n (x / 256) = r at *
    rw [and15]
    rw [show ((a + 256 * r) / 16 + (a + 256 * r)) / 256 = r / 16 + r by omega, hi]
    omega
theorem count_bytes (n : Nat) : ∀ x, ((List.range (8 * n)).filter fun j => x.testBit j).length = (match n with | 0 => 0 | m + 1 => ((List.range 8).filter fun j => (x % 256).testBit j).length + ((List.range (8 * m)).filter fun j => (x / 256).testBit j).length) := by
  intro x
  cases n with
  | zero => rfl
  | succ m =>
    simp only
    rw [show 8 * (m + 1) = 8 + 8 * m by omega, List.range_add, List.filter_append, List.length_append, List.filter_map, List.length_map]
    congr 1
    · refine congrArg List.length (List.filter_congr fun j hj => ?_)
      have := List.mem_range.1 hj
      rw [show (256 : Nat) = 2 ^ 8 from rfl, Nat.testBit_mod_two_pow]; simp [this]
    · refine congrArg List.length (List.filter_congr fun j hj => ?_)
      simp only [Function.comp]
      rw [show (256 : Nat) = 2 ^ 8 from rfl, Nat.testBit_div_two_pow, Nat.add_comm]
theorem pop_bytes (x : Nat) : (elemsW x).length = pop8 (x % 256) + (pop8 (x / 256 % 256) + (pop8 (x / 256 / 256 % 256) + (pop8 (x / 256 / 256 / 256 % 256) + (pop8 (x / 256 / 256 / 256 / 256 % 256) + (pop8 (x / 256 / 256 / 256 / 256 / 256 % 256) + (pop8 (x / 256 / 256 / 256 / 256 / 256 / 256 % 256) + pop8 (x / 256 / 256 / 256 / 256 / 256 / 256 / 256 % 256))))))) := by
  have hb := fun y => (b3 (y % 256) (Nat.mod_lt y (by decide))).2
  unfold elemsW
  rw [show List.range 64 = List.range (8 * 8) from rfl, count_bytes 8]; simp only
  rw [count_bytes 7]; simp only
  rw [count_bytes 6]; simp only
  rw [count_bytes 5]; simp only
  rw [count_bytes 4]; simp only
  rw [count_bytes 3]; simp only
  rw [count_bytes 2]; simp only
  rw [count_bytes 1 (x / 256 / 256 / 256 / 256 / 256 / 256 / 256)]; simp only
  simp only [hb]
  simp
/-- The library's sum. -/
def pop1 (x : Nat) : Nat := (x / 2 &&& 6148914691236517205) + (x &&& 6148914691236517205)
def pop2 (x : Nat) : Nat := (x / 4 &&& 3689348814741910323) + (x &&& 3689348814741910323)
def pop3 (x : Nat) : Nat := (x / 16 + x) &&& 1085102592571150095
theorem pop3_eq (x : Nat) : pop3 (pop2 (pop1 x)) = map8 pop8 8 x := by
  unfold pop1 pop2 pop3
  rw [show 6148914691236517205 = rep8 85 8 from rfl, show 3689348814741910323 = rep8 51 8 from rfl, show 1085102592571150095 = rep8 15 8 from rfl, step1, step2, map8_map8 f2 f1 b1, step3 _ b2]
  rfl
theorem div16 (a b c T2 T3 x y : Nat) (ha : a ≤ 8) (hb : b ≤ 8) (hc : c ≤ 8) (hx : x = a + 256 * (b + 256 * T2)) (hy : y = b + 256 * (c + 256 * T3)) : (x + y) / 65536 = T2 + T3 := by omega
theorem div32 (l0 l1 l2 l3 t0 t1 t2 t3 : Nat) (h0 : l0 ≤ 134744072) (h1 : l1 ≤ 134744072) (h2 : l2 ≤ 134744072) (h3 : l3 ≤ 134744072) :
    ((l0 + 4294967296 * t0) + (l1 + 4294967296 * t1) + ((l2 + 4294967296 * t2) + (l3 + 4294967296 * t3))) / 4294967296 = t0 + t1 + (t2 + t3) := by omega
theorem low4 (a b c d T : Nat) (ha : a ≤ 8) (hb : b ≤ 8) (hc : c ≤ 8) (hd : d ≤ 8) : ∃ l, a + 256 * (b + 256 * (c + 256 * (d + 256 * T))) = l + 4294967296 * T ∧ l ≤ 134744072 :=
  ⟨a + 256 * b + 65536 * c + 16777216 * d, by omega, by omega⟩
theorem mod_sum (C U : Nat) (h : C ≤ 64) : (C + 256 * U) % 128 = C := by omega
theorem sum8 (c0 c1 c2 c3 c4 c5 c6 c7 c : Nat) (g0 : c0 ≤ 8) (g1 : c1 ≤ 8) (g2 : c2 ≤ 8) (g3 : c3 ≤ 8) (g4 : c4 ≤ 8) (g5 : c5 ≤ 8) (g6 : c6 ≤ 8) (g7 : c7 ≤ 8)
    (hc : c = c0 + 256 * (c1 + 256 * (c2 + 256 * (c3 + 256 * (c4 + 256 * (c5 + 256 * (c6 + 256 * (c7 + 256 * 0)))))))) :
    c ≤ 578721382704613384 ∧ ((c + c / 256) + (c + c / 256) / 65536 + ((c + c / 256) + (c + c / 256) / 65536) / 4294967296) % 128 = c0 + (c1 + (c2 + (c3 + (c4 + (c5 + (c6 + c7)))))) := by
  have z : (0 : Nat) = 0 + 256 * (0 + 256 * (0 + 256 * (0 + 256 * 0))) := rfl
  obtain ⟨t7, h7⟩ : ∃ t, t = c7 + 256 * 0 := ⟨_, rfl⟩
  rw [← h7] at hc
  obtain ⟨t6, h6⟩ : ∃ t, t = c6 + 256 * t7 := ⟨_, rfl⟩
  rw [← h6] at hc
  obtain ⟨t5, h5⟩ : ∃ t, t = c5 + 256 * t6 := ⟨_, rfl⟩
  rw [← h5] at hc
  obtain ⟨t4, h4⟩ : ∃ t, t = c4 + 256 * t5 := ⟨_, rfl⟩
  rw [← h4] at hc
  obtain ⟨t3, h3⟩ : ∃ t, t = c3 + 256 * t4 := ⟨_, rfl⟩
  rw [← h3] at hc
  obtain ⟨t2, h2⟩ : ∃ t, t = c2 + 256 * t3 := ⟨_, rfl⟩
  rw [← h2] at hc
  obtain ⟨t1, h1⟩ : ∃ t, t = c1 + 256 * t2 := ⟨_, rfl⟩
  rw [← h1] at hc
  have k7 : t7 ≤ 8 := by omega
  have k6 : t6 ≤ 2056 := by omega
  have k5 : t5 ≤ 526344 := by omega
  have k4 : t4 ≤ 134744072 := by omega
  have k3 : t3 ≤ 34494482440 := by omega
  have k2 : t2 ≤ 8830587504648 := by omega
  have k1 : t1 ≤ 2260630401189896 := by omega
  have k0 : c ≤ 578721382704613384 := by omega
  have e1 : c / 256 = t1 := by omega
  have e2 : (c + t1) / 65536 = t2 + t3 := div16 c0 c1 c2 t2 t3 c t1 g0 g1 g2 (by rw [hc, h1]) (by rw [h1, h2])
  obtain ⟨l0, a0, b0⟩ := low4 c0 c1 c2 c3 t4 g0 g1 g2 g3
  obtain ⟨l1, a1, b1⟩ := low4 c1 c2 c3 c4 t5 g1 g2 g3 g4
  obtain ⟨l2, a2, b2⟩ := low4 c2 c3 c4 c5 t6 g2 g3 g4 g5
  obtain ⟨l3, a3, b3⟩ := low4 c3 c4 c5 c6 t7 g3 g4 g5 g6
  rw [← h3, ← h2, ← h1, ← hc] at a0
  rw [← h4, ← h3, ← h2, ← h1] at a1
  rw [← h5, ← h4, ← h3, ← h2] at a2
  rw [← h6, ← h5, ← h4, ← h3] at a3
  have e3 : (c + t1 + (t2 + t3)) / 4294967296 = t4 + t5 + (t6 + t7) := by
    rw [a0, a1, a2, a3]; exact div32 l0 l1 l2 l3 t4 t5 t6 t7 b0 b1 b2 b3
  refine ⟨k0, ?_⟩
  rw [e1, e2, e3]
  clear a0 a1 a2 a3 b0 b1 b2 b3 e1 e2 e3 k0 k1 k2 k3 k4 k5 k6 k7 z
  have : c + t1 + (t2 + t3) + (t4 + t5 + (t6 + t7)) = (c0 + (c1 + (c2 + (c3 + (c4 + (c5 + (c6 + c7))))))) + 256 * (t1 + t2 + t3 + t4 + t5 + t6 + t7) := by omega
  rw [this]
  exact mod_sum _ _ (by omega)
theorem pop3_sum (x : Nat) : pop3 (pop2 (pop1 x)) ≤ 578721382704613384 ∧ ((pop3 (pop2 (pop1 x)) + pop3 (pop2 (pop1 x)) / 256) + (pop3 (pop2 (pop1 x)) + pop3 (pop2 (pop1 x)) / 256) / 65536 + ((pop3 (pop2 (pop1 x)) + pop3 (pop2 (pop1 x)) / 256) + (pop3 (pop2 (pop1 x)) + pop3 (pop2 (pop1 x)) / 256) / 65536) / 4294967296) % 128 = (elemsW x).length := by
  rw [pop_bytes]
  have hb := fun y => (b3 (y % 256) (Nat.mod_lt y (by decide))).1
  refine sum8 _ _ _ _ _ _ _ _ _ (hb _) (hb _) (hb _) (hb _) (hb _) (hb _) (hb _) (hb _) ?_
  rw [pop3_eq]
  simp only [map8]
end Go.Proofs.YtdhmekpgplajmaaGreatDoor
end
section
namespace Go.Proofs.YtdhmekpgplajmaaGreatDoor
open Go.ChangeShapes Go.WideShapes Go.ChangeAt Go.RowKit Go.Deep
section
variable {H : Type} {enc : TypeId × Value → H} {P : Program} {w : World} {base : Nat} {spare : Nat → Bool} {held : Bool} {fuel : Nat} {t e : TypeId} {cs : List Value} {x : DataW H × List MemPlace}
end
end Go.Proofs.YtdhmekpgplajmaaGreatDoor
end
section
namespace Go.Proofs.YtdhmekpgplajmaaGreatDoor
open Go.RowKit

/-- The first words of one set, the others of another one. -/
def mix (s t : BSet) (j : Nat) : BSet := ofWords (if 0 < j then word t 0 else word s 0) (if 1 < j then word t 1 else word s 1) (if 2 < j then word t 2 else word s 2) (if 3 < j then word t 3 else word s 3)
theorem word_mix (s t : BSet) (j k : Nat) (hk : k < 4) : word (mix s t j) k = if k < j then word t k else word s k := by
  unfold mix
  have hm : ∀ i, (if i < j then word t i else word s i) % 2 ^ 64 = if i < j then word t i else word s i := fun i => Nat.mod_eq_of_lt (by split <;> exact word_lt _ _)
  obtain ⟨e0, e1, e2, e3⟩ := word_ofWords (if 0 < j then word t 0 else word s 0) (if 1 < j then word t 1 else word s 1) (if 2 < j then word t 2 else word s 2) (if 3 < j then word t 3 else word s 3)
  match k, hk with
  | 0, _ => rw [e0, hm 0]
  | 1, _ => rw [e1, hm 1]
  | 2, _ => rw [e2, hm 2]
  | 3, _ => rw [e3, hm 3]
theorem mix_zero (s t : BSet) : mix s t 0 = s := word_inj fun i hi => by rw [word_mix _ _ _ _ hi, if_neg (by omega)]
theorem mix_four (s t : BSet) : mix s t 4 = t := word_inj fun i hi => by rw [word_mix _ _ _ _ hi, if_pos hi]
theorem mix_step (s t : BSet) (j : Nat) (hj : j < 4) : (setC (mix s t j)).setIfInBounds j (.int .u64 (word t j : Nat)) = setC (mix s t (j + 1)) := by
  have h := setC_set (mix s t j) (mix s t (j + 1)) j hj fun i hi hne => by
    rw [word_mix _ _ _ _ hi, word_mix _ _ _ _ hi]
    by_cases h : i < j
    · rw [if_pos h, if_pos (by omega)]
    · rw [if_neg h, if_neg (by omega)]
  rwa [word_mix _ _ _ _ hj, if_pos (by omega)] at h
theorem Box.mix {w : World} {b E : Nat} {s t : BSet} {j : Nat} (h : Box w b (setC (mix s t j)) E) (hj : j < 4) (v : Value) (hv : v = .int .u64 (word t j : Nat)) : Box (w.setCell ⟨b, j, none⟩ v) b (setC (Proofs.YtdhmekpgplajmaaGreatDoor.mix s t (j + 1))) E := by
  subst hv
  rw [← mix_step s t j hj]
  exact h.set j _
theorem Box.mixw {w : World} {b E : Nat} {s t : BSet} {j : Nat} (h : Box w b (setC (Proofs.YtdhmekpgplajmaaGreatDoor.mix s t j)) E) (hj : j < 4) : w.cell? ⟨b, j, none⟩ = some (.int .u64 (word s j : Nat)) := by
  have := h.setw hj
  rwa [word_mix _ _ _ _ hj, if_neg (by omega)] at this
theorem index_set (s : BSet) (j : Nat) (h : j < 4) (w : World) : (Instr.index 43 (.agg #[.int .u64 (word s 0 : Nat), .int .u64 (word s 1 : Nat), .int .u64 (word s 2 : Nat), .int .u64 (word s 3 : Nat)]) (.int .i64 (j : Nat))).run Tryz.prog w = .ok (.int .u64 (word s j : Nat)) w := by
  have i0 : (Instr.index 43 (.agg #[.int .u64 (word s 0 : Nat), .int .u64 (word s 1 : Nat), .int .u64 (word s 2 : Nat), .int .u64 (word s 3 : Nat)]) (.int .i64 (0 : Nat))).run Tryz.prog w = .ok (.int .u64 (word s 0 : Nat)) w := by kernel_rfl
  have i1 : (Instr.index 43 (.agg #[.int .u64 (word s 0 : Nat), .int .u64 (word s 1 : Nat), .int .u64 (word s 2 : Nat), .int .u64 (word s 3 : Nat)]) (.int .i64 (1 : Nat))).run Tryz.prog w = .ok (.int .u64 (word s 1 : Nat)) w := by kernel_rfl
  have i2 : (Instr.index 43 (.agg #[.int .u64 (word s 0 : Nat), .int .u64 (word s 1 : Nat), .int .u64 (word s 2 : Nat), .int .u64 (word s 3 : Nat)]) (.int .i64 (2 : Nat))).run Tryz.prog w = .ok (.int .u64 (word s 2 : Nat)) w := by kernel_rfl
  have i3 : (Instr.index 43 (.agg #[.int .u64 (word s 0 : Nat), .int .u64 (word s 1 : Nat), .int .u64 (word s 2 : Nat), .int .u64 (word s 3 : Nat)]) (.int .i64 (3 : Nat))).run Tryz.prog w = .ok (.int .u64 (word s 3 : Nat)) w := by kernel_rfl
  match j, h with
  | 0, _ => exact i0
  | 1, _ => exact i1
  | 2, _ => exact i2
  | 3, _ => exact i3
theorem and_words (s x : BSet) (j : Nat) : bits BinOp.and IntKind.u64 (word s j : Nat) (word x j : Nat) = ((word (s &&& x) j : Nat) : Int) := by
  rw [word_and, bits_and_u64_nat _ _ (word_lt _ _) (word_lt _ _)]
theorem or_words (s x : BSet) (j : Nat) : bits BinOp.or IntKind.u64 (word s j : Nat) (word x j : Nat) = ((word (s ||| x) j : Nat) : Int) := by
  rw [word_or, bits_or_u64_nat _ _ (word_lt _ _) (word_lt _ _)]
set_option maxHeartbeats 800000 in
theorem sets_Meet (s x : BSet) (w : World) : Calls Tryz.prog 74 #[.agg (setC s), .agg (setC x)] w (Ret w (setV (s &&& x))) := by
  have hop := and_words s x
  generalize s &&& x = t at *
  go_enter Tryz.func74, Tryz.ntmps74
  go_wp2
  go_loopw [8] (fun i wr => ∃ j : Nat, j ≤ 4 ∧ i = .int .i64 j ∧ Box wr w.heap.size (setC (mix s t j)) 43 ∧ Box wr (w.heap.size + 1 + 1) (setC 0) 43 ∧ Below w.heap.size w wr) (fun i _ => 4 - (intOf i).toNat)
  case atStart =>
    refine ⟨0, Nat.zero_le _, rfl, ?_, ?_, by go_grown⟩
    · rw [mix_zero]; exact ((Box.new' rfl _ _).alloc _).alloc _
    · rw [setC_zero]; exact Box.new' (by simp) _ _
  case round =>
    obtain ⟨j, hj, rfl, hb, h0, hB⟩ := hrel
    by_cases hlt : j < 4
    · have gw := index_set x j hlt
      have hc := hb.mixw hlt
      have hf := hb.free j
      have hv := hop j
      go_wp2
      go_roundw
      case rel => exact ⟨j + 1, hlt, by go_num, hb.mix hlt _ rfl, h0.other _ _ (by simp; omega), by go_grown⟩
      case measure => simp [intOf]; omega
    · obtain rfl : j = 4 := by omega
      rw [mix_four] at hb
      obtain ⟨⟨p0, p1, p2, p3⟩, ⟨q0, q1, q2, q3⟩⟩ := h0.set4
      obtain ⟨⟨r0, r1, r2, r3⟩, _⟩ := hb.set4
      go_wp2
      exact ret_box Tryz.results74 rfl (h0.store4 rfl _ _ _ _) Tryz.underlying43 rfl (by kernel_rfl) rfl ⟨rfl, by go_grown⟩
theorem xor_max (a : Nat) (h : a < 2 ^ 64) : (2 ^ 64 - 1) ^^^ a = 18446744073709551615 - a := by
  refine Nat.eq_of_testBit_eq fun i => ?_
  rw [Nat.testBit_xor, Nat.testBit_two_pow_sub_one, show 18446744073709551615 - a = 2 ^ 64 - (a + 1) by omega, Nat.testBit_two_pow_sub_succ h]
  by_cases hi : i < 64
  · simp [hi]
  · simp [hi, Nat.testBit_lt_two_pow (Nat.lt_of_lt_of_le h (Nat.pow_le_pow_right (by decide) (show 64 ≤ i by omega)))]
theorem not_words (s : BSet) (j : Nat) (hj : j < 4) : bits BinOp.xor IntKind.u64 IntKind.u64.max (word s j : Nat) = ((word (~~~s) j : Nat) : Int) := by
  rw [word_not _ _ hj, show IntKind.u64.max = ((2 ^ 64 - 1 : Nat) : Int) by decide, u64_xor_nat _ _ (by decide) (word_lt _ _), xor_max _ (word_lt _ _)]
set_option maxHeartbeats 800000 in
theorem sets_Not (s : BSet) (w : World) : Calls Tryz.prog 63 #[.agg (setC s)] w (Ret w (setV (~~~s))) := by
  have hop := not_words s
  generalize ~~~s = t at *
  go_enter Tryz.func63, Tryz.ntmps63
  go_wp2
  go_loopw [6] (fun i wr => ∃ j : Nat, j ≤ 4 ∧ i = .int .i64 j ∧ Box wr w.heap.size (setC (mix s t j)) 43 ∧ Box wr (w.heap.size + 1) (setC 0) 43 ∧ Below w.heap.size w wr) (fun i _ => 4 - (intOf i).toNat)
  case atStart =>
    refine ⟨0, Nat.zero_le _, rfl, ?_, ?_, by go_grown⟩
    · rw [mix_zero]; exact (Box.new' rfl _ _).alloc _
    · rw [setC_zero]; exact Box.new' (by simp) _ _
  case round =>
    obtain ⟨j, hj, rfl, hb, h0, hB⟩ := hrel
    by_cases hlt : j < 4
    · have gw := index_set s j hlt
      have hc := hb.mixw hlt
      have hf := hb.free j
      have hv := hop j hlt
      go_wp2
      go_roundw
      case rel => exact ⟨j + 1, hlt, by go_num, hb.mix hlt _ (by rw [if_neg (by decide), hv]), h0.other _ _ (by simp), by go_grown⟩
      case measure => simp [intOf]; omega
    · obtain rfl : j = 4 := by omega
      rw [mix_four] at hb
      obtain ⟨⟨p0, p1, p2, p3⟩, ⟨q0, q1, q2, q3⟩⟩ := h0.set4
      obtain ⟨⟨r0, r1, r2, r3⟩, _⟩ := hb.set4
      go_wp2
      exact ret_box Tryz.results63 rfl (h0.store4 rfl _ _ _ _) Tryz.underlying43 rfl (by kernel_rfl) rfl ⟨rfl, by go_grown⟩
set_option maxHeartbeats 800000 in
theorem sets_Union (a : Option Addr) (cap : Nat) (l : List BSet) (w : World) (h : SliceR w (.slice a l.length cap) 4 encS l) :
    Calls Tryz.prog 60 #[.slice a l.length cap] w (Ret w (setV (l.foldl (· ||| ·) 0))) := by
  obtain ⟨b, o, hlen, hcap, hcap', ha, hbl, hcell⟩ := h.sets
  clear hlen h hbl
  have HC := Lib.hid hcell
  clear hcell
  go_enter Tryz.func60, Tryz.ntmps60
  go_wp2
  go_loopw [10] (fun i wr => ∃ j : Nat, j ≤ l.length ∧ i = .int .i64 j ∧ Box wr w.heap.size (setC 0) 43 ∧ Box wr (w.heap.size + 1) (setC ((l.take j).foldl (· ||| ·) 0)) 43 ∧ Below w.heap.size w wr) (fun i _ => l.length - (intOf i).toNat)
  case atStart =>
    refine ⟨0, Nat.zero_le _, rfl, ?_, ?_, by go_grown⟩
    · rw [setC_zero]; exact (Box.new' rfl _ _).alloc _
    · rw [List.take_zero, List.foldl_nil, setC_zero]; exact Box.new' (by simp) _ _
  case round =>
    obtain ⟨j, hj, rfl, h0, hb, hB⟩ := hrel
    by_cases hlt : j < l.length
    · have hdj : decide ((j : Int) < (l.length : Int)) = true := decide_eq_true (by omega)
      obtain rfl := ha j hlt
      obtain ⟨c0, c1, c2, c3⟩ := HC.out j hlt wr hB
      have e2 : (l.take (j + 1)).foldl (· ||| ·) 0 = (l.take j).foldl (· ||| ·) 0 ||| l[j] := by rw [List.take_succ_eq_append_getElem hlt, List.foldl_append]; rfl
      have HE := Lib.hid e2
      clear e2
      generalize l[j] = x at *
      generalize (l.take j).foldl (· ||| ·) 0 = s at *
      have hop := or_words s x
      generalize s ||| x = t at *
      have hs0 := h0.lt
      have hs1 := hb.lt
      go_wp2
      go_loopw [15] (fun i wr => ∃ k : Nat, k ≤ 4 ∧ i = .int .i64 k ∧ Box wr w.heap.size (setC 0) 43 ∧ Box wr (w.heap.size + 1) (setC (mix s t k)) 43 ∧ Below w.heap.size w wr) (fun i _ => 4 - (intOf i).toNat)
      case atStart => exact ⟨0, Nat.zero_le _, rfl, h0.alloc _, by rw [mix_zero]; exact hb.alloc _, by go_grown⟩
      case round =>
        obtain ⟨k, hk, rfl, h0, hb, hB⟩ := hrel
        by_cases hlt2 : k < 4
        · have gw := index_set x k hlt2
          have hc := hb.mixw hlt2
          have hf := hb.free k
          have hv := hop k
          go_wp2
          go_roundw
          case rel => exact ⟨k + 1, hlt2, by go_num, h0.other _ _ (by simp), hb.mix hlt2 _ rfl, by go_grown⟩
          case measure => simp [intOf]; omega
        · obtain rfl : k = 4 := by omega
          rw [mix_four] at hb
          go_wp2
          go_roundw
          case rel => exact ⟨j + 1, hlt, by go_num, h0, by rw [HE.out]; exact hb, hB⟩
          case measure => simp [intOf]; omega
    · obtain rfl : j = l.length := by omega
      rw [List.take_length] at hb
      obtain ⟨⟨p0, p1, p2, p3⟩, ⟨q0, q1, q2, q3⟩⟩ := h0.set4
      obtain ⟨⟨r0, r1, r2, r3⟩, _⟩ := hb.set4
      go_wp2
      exact ret_box Tryz.results60 rfl (h0.store4 rfl _ _ _ _) Tryz.underlying43 rfl (by kernel_rfl) rfl ⟨rfl, by go_grown⟩
end Go.Proofs.YtdhmekpgplajmaaGreatDoor
end
section
namespace Go.Proofs.YtdhmekpgplajmaaGreatDoor
open Go.RowKit

theorem sets_Of (a : Option Addr) (cap : Nat) (xs : List Nat) (w : World) (h : SliceR w (.slice a xs.length cap) 1 (fun x : Nat => [.int .u8 x]) xs) (hx : ∀ x ∈ xs, x < 256) :
    Calls Tryz.prog 61 #[.slice a xs.length cap] w (Ret w (setV (ofL xs))) := by
  obtain ⟨b, o, hlen, hcap, hcap', ha, hcell⟩ := h.open
  clear hlen h
  go_enter Tryz.func61, Tryz.ntmps61
  go_wp2
  go_loopw [8] (fun i wr => ∃ k : Nat, k ≤ xs.length ∧ i = .int .i64 k ∧ Box wr w.heap.size (setC 0) 43 ∧ Box wr (w.heap.size + 1) (setC (ofL (xs.take k))) 43 ∧ Below w.heap.size w wr) (fun i _ => xs.length - (intOf i).toNat)
  case atStart =>
    refine ⟨0, Nat.zero_le _, rfl, ?_, ?_, by go_grown⟩
    · rw [setC_zero]; exact (Box.new' rfl _ _).alloc _
    · rw [List.take_zero, show ofL [] = 0 from rfl, setC_zero]; exact Box.new' (World.size_alloc _ _).symm _ _
  case round =>
    obtain ⟨k, hk, rfl, hb0, hb1, hB⟩ := hrel
    by_cases hlt : k < xs.length
    · obtain rfl := ha k hlt
      have hxk := hx xs[k] (List.getElem_mem hlt)
      have hc : wr.cell? ⟨b, o + k, none⟩ = some (.int .u8 (xs[k] : Nat)) := by
        have := hcell k hlt 0 _ rfl
        rw [hB.cell (World.block_lt_of_cell? w _ (by simpa using this))]; simpa using this
      have e1 : wr.cell? ⟨w.heap.size + 1, xs[k] / 64, none⟩ = some (.int .u64 (word (ofL (xs.take k)) (xs[k] / 64) : Nat)) := by
        rw [hb1.cell]; simpa using words_get _ _ (by omega)
      have e2 := hb1.free (xs[k] / 64)
      have e3 : ofL (xs.take (k + 1)) = withB (ofL (xs.take k)) xs[k] := by rw [List.take_succ_eq_append_getElem hlt, ofL_snoc]
      have e4 := Lib.hid e3
      clear e3 ha hcell hx
      generalize xs[k] = x at *
      have hw := word_lt (ofL (xs.take k)) (x / 64)
      go_wp2
      go_roundw
      case rel =>
        refine ⟨k + 1, hlt, by go_num, hb0.other _ _ (by simp), ?_, by go_grown⟩
        rw [e4.out, or_bit _ _ hw (Nat.mod_lt _ (by decide)), ← setC_store _ _ hxk]
        exact hb1.set _ _
      case measure => simp [intOf]; omega
    · have hke : k = xs.length := by omega
      subst hke
      obtain ⟨⟨p0, p1, p2, p3⟩, ⟨q0, q1, q2, q3⟩⟩ := hb0.set4
      obtain ⟨⟨r0, r1, r2, r3⟩, _⟩ := hb1.set4
      rw [List.take_length] at r0 r1 r2 r3
      clear hb1 ha hcell
      go_wp2
      exact ret_box Tryz.results61 rfl (hb0.store4 rfl _ _ _ _) Tryz.underlying43 rfl (by kernel_rfl) rfl ⟨rfl, by go_grown⟩
theorem ref_Has (s : BSet) (x : Nat) (w : World) (hx : x < 256) :
    Calls Tryz.prog 50 #[setV s, .int .i64 x] w (Ret w (.bool (mem s x))) := by
  have hxi := words_get s (x / 64) (by omega)
  have hz := word_lt s (x / 64)
  go_enter Tryz.func50, Tryz.ntmps50
  go_wp2
  go_ret
  exact ⟨congrArg (fun b => Ending.returned (.bool b)) ((and_one _ _ hz).trans (mem_word s x).symm), by go_grown⟩
theorem ref_With (s : BSet) (x : Nat) (w : World) (hx : x < 256) :
    Calls Tryz.prog 66 #[setV s, .int .i64 x] w (Ret w (setV (withB s x))) := by
  have hxi := words_get s (x / 64) (by omega)
  have hst := setL_store s x hx
  go_enter Tryz.func66, Tryz.ntmps66
  go_wp2
  exact ret_box Tryz.results66 rfl (Box.new' (World.size_alloc _ _).symm _ _) Tryz.underlying43 rfl (by kernel_rfl) rfl ⟨rfl, by go_grown⟩
theorem sets_below (n : Nat) (w : World) (h : n ≤ 64) :
    Calls Tryz.prog 127 #[.int .i64 n] w (Ret w (.int .u64 ((2 ^ n - 1 : Nat) : Int))) := by
  by_cases hn : 64 ≤ n
  · obtain rfl : n = 64 := by omega
    go_enter Tryz.func127, Tryz.ntmps127
    go_wp2
    go_ret
    exact ⟨rfl, by go_grown⟩
  · go_enter Tryz.func127, Tryz.ntmps127
    go_wp2
    go_ret
    refine ⟨?_, by go_grown⟩
    refine congrArg (fun z => Ending.returned (.int .u64 z)) ?_
    have h1 := two_pow_lt64 n (by omega)
    have h2 : 0 < 2 ^ n := Nat.two_pow_pos n
    rw [wrap_two_pow n (by omega), show ((2 ^ n : Nat) : Int) - 1 = ((2 ^ n - 1 : Nat) : Int) from (Int.ofNat_sub h2).symm, IntKind.wrap_u64]
    exact Int.emod_eq_of_lt (Int.natCast_nonneg _) (Int.ofNat_lt.2 (Nat.lt_of_le_of_lt (Nat.sub_le _ _) h1))
set_option maxRecDepth 20000 in
theorem ref_Span (lo hi : Nat) (w : World) (hhi : hi < 256) :
    Calls Tryz.prog 80 #[.int .i64 lo, .int .i64 hi] w (Ret w (setV (ofP fun b => decide (lo ≤ b) && decide (b ≤ hi)))) := by
  go_enter Tryz.func80, Tryz.ntmps80
  go_wp2
  go_loopw [6] (fun i wr => ∃ k : Nat, lo ≤ k ∧ (k ≤ hi + 1 ∨ k = lo) ∧ i = .int .i64 k ∧ Box wr w.heap.size (setC 0) 43 ∧ Box wr (w.heap.size + 1) (setC (ofP fun b => decide (lo ≤ b) && decide (b < k))) 43 ∧ Below w.heap.size w wr) (fun i _ => hi + 1 - (intOf i).toNat)
  case atStart =>
    refine ⟨lo, Nat.le_refl _, .inr rfl, rfl, ?_, ?_, by go_grown⟩
    · rw [setC_zero]; exact (Box.new' rfl _ _).alloc _
    · rw [show (ofP fun b => decide (lo ≤ b) && decide (b < lo)) = 0 from (eq_ofP 0 _ fun b _ => by rw [mem_zero]; by_cases h : lo ≤ b <;> simp [h]).symm, setC_zero]; exact Box.new' (World.size_alloc _ _).symm _ _
  case round =>
    obtain ⟨k, hlk, hk, rfl, hb0, hb1, hB⟩ := hrel
    by_cases hlt : k ≤ hi
    · obtain ⟨⟨r0, r1, r2, r3⟩, _⟩ := hb1.set4
      have hk256 : k < 256 := by omega
      go_wp2_with (go_at_call 66; refine (ref_With _ _ _ hk256).mono ?_; rintro e w1 ⟨rfl, hb⟩; have hB1 := hB.trans (hb.mono hB.size); have hx0 := hb0.kept hb; have hx1 := hb1.kept hb; obtain ⟨⟨s0, s1, s2, s3⟩, ⟨t0, t1, t2, t3⟩⟩ := hx1.set4)
      go_roundw
      case rel =>
        refine ⟨k + 1, by omega, .inl (by omega), by go_num, hx0.other4 (by simp) _ _ _ _, ?_, by go_grown⟩
        have e : (ofP fun b => decide (lo ≤ b) && decide (b < k + 1)) = withB (ofP fun b => decide (lo ≤ b) && decide (b < k)) k := by
          rw [ofP_withB _ _ hk256]
          refine ofP_congr fun b _ => ?_
          by_cases h1 : b < k
          · simp [h1, show b < k + 1 by omega, show ¬ k = b by omega]
          · by_cases h2 : k = b
            · subst h2; simp [hlk]
            · simp [h1, h2, show ¬ b < k + 1 by omega]
        rw [e]; exact hx1.store4 rfl _ _ _ _
      case measure => simp [intOf]; omega
    · obtain ⟨⟨p0, p1, p2, p3⟩, ⟨q0, q1, q2, q3⟩⟩ := hb0.set4
      have e : (ofP fun b => decide (lo ≤ b) && decide (b < k)) = (ofP fun b => decide (lo ≤ b) && decide (b ≤ hi)) := by
        refine ofP_congr fun b _ => ?_
        by_cases h1 : lo ≤ b
        · simp [h1]; omega
        · simp [h1]
      rw [e] at hb1
      obtain ⟨⟨r0, r1, r2, r3⟩, _⟩ := hb1.set4
      clear e
      go_wp2
      exact ret_box Tryz.results80 rfl (hb0.store4 rfl _ _ _ _) Tryz.underlying43 rfl (by kernel_rfl) rfl ⟨rfl, by go_grown⟩
set_option maxRecDepth 20000 in
set_option maxHeartbeats 400000 in
theorem sets_Span (lo hi : Nat) (w : World) (hlo : lo < 256) (hhi : hi < 256) :
    Calls Tryz.prog 118 #[.int .u8 lo, .int .u8 hi] w (Ret w (setV (ofP fun b => decide (lo ≤ b) && decide (b ≤ hi)))) := by
  by_cases hlh : hi < lo
  · go_enter Tryz.func118, Tryz.ntmps118
    go_wp2
    have e : (ofP fun b => decide (lo ≤ b) && decide (b ≤ hi)) = 0 := (eq_ofP 0 _ fun b _ => by rw [mem_zero]; by_cases h : lo ≤ b <;> simp [h]; omega).symm
    rw [e]
    have hz := setC_zero
    unfold setV
    rw [hz]
    exact ret_box Tryz.results118 rfl ((Box.new' rfl _ _).alloc _) Tryz.underlying43 rfl (by kernel_rfl) rfl ⟨rfl, by go_grown⟩
  · go_enter Tryz.func118, Tryz.ntmps118
    go_wp2
    go_loopw [13] (fun i wr => ∃ k : Nat, k ≤ 4 ∧ i = .int .i64 k ∧ Box wr w.heap.size (setC 0) 43 ∧ Box wr (w.heap.size + 1) (setC (ofP fun b => decide (lo ≤ b) && decide (b ≤ hi) && decide (b < 64 * k))) 43 ∧ Below w.heap.size w wr) (fun i _ => 4 - (intOf i).toNat)
    case atStart =>
      refine ⟨0, Nat.zero_le _, rfl, ?_, ?_, by go_grown⟩
      · rw [setC_zero]; exact (Box.new' rfl _ _).alloc _
      · rw [show (ofP fun b => decide (lo ≤ b) && decide (b ≤ hi) && decide (b < 64 * 0)) = 0 from (eq_ofP 0 _ fun b _ => by rw [mem_zero]; simp).symm, setC_zero]; exact Box.new' (World.size_alloc _ _).symm _ _
    case round =>
      obtain ⟨k, hk, rfl, hb0, hb1, hB⟩ := hrel
      by_cases hlt : k < 4
      · obtain ⟨f, hf, hf2⟩ : ∃ f : Nat, (if (lo : Int) - 64 * (k : Int) < 0 then 0 else (lo : Int) - 64 * (k : Int)) = (f : Int) ∧ f = lo - 64 * k := ⟨lo - 64 * k, by split <;> omega, rfl⟩
        obtain ⟨T, hT, hT2⟩ : ∃ T : Int, (if 64 < (hi : Int) + 1 - 64 * (k : Int) then 64 else (hi : Int) + 1 - 64 * (k : Int)) = T ∧ T = min 64 ((hi : Int) + 1 - 64 * k) := ⟨_, rfl, by split <;> omega⟩
        have HF := Lib.hid hf2
        have HT := Lib.hid hT2
        have hT64 : T ≤ 64 := by omega
        by_cases hft : (f : Int) < T
        · obtain ⟨t, rfl⟩ := Int.eq_ofNat_of_zero_le (show 0 ≤ T by omega)
          clear hf2 hT2
          have ht64 : t ≤ 64 := by omega
          have hf64 : f ≤ 64 := by omega
          obtain ⟨x, hx, hx64, hbits⟩ := andNot_below f t hf64 ht64
          have HB := Lib.hid hbits
          clear hbits
          go_wp2_with (first | (go_at_call_of 127 ((Value.int IntKind.i64 (t : Int))); refine (sets_below t _ ht64).mono ?_; rintro e w1 ⟨rfl, hb⟩; have hx1 := hb1.kept hb; have hx0 := hb0.kept hb; have hB1 := hB.trans (hb.mono hB.size)) | (go_at_call_of 127 ((Value.int IntKind.i64 (f : Int))); refine (sets_below f _ hf64).mono ?_; rintro e w2 ⟨rfl, hc⟩; have hy1 := hx1.kept hc; have hy0 := hx0.kept hc; have hB2 := hB1.trans (hc.mono hB1.size); have hyc := hy1.setw hlt; have hyf := hy1.free k))
          go_roundw
          case rel =>
            refine ⟨k + 1, hlt, by go_num, hy0.other _ _ (by simp), ?_, by go_grown⟩
            have hw : x = word (ofP fun b => decide (lo ≤ b) && decide (b ≤ hi) && decide (b < 64 * (k + 1))) k := by
              refine word_of_bits _ _ _ hx64 fun j hj => ?_
              have h1 := HF.out; have h2 := HT.out
              rw [HB.out j hj, mem_ofP, Bool.eq_iff_iff]
              simp only [Bool.and_eq_true, decide_eq_true_eq]
              omega
            rw [hw, ← setC_set (ofP fun b => decide (lo ≤ b) && decide (b ≤ hi) && decide (b < 64 * k)) _ k hlt]
            · exact hy1.set _ _
            · intro j hj hjk
              refine word_of_bits _ _ _ (word_lt _ _) fun i hi' => ?_
              rw [word_testBit, mem_ofP, mem_ofP, Bool.eq_iff_iff]
              simp only [Bool.and_eq_true, decide_eq_true_eq]
              omega
          case measure => simp [intOf]; omega
        · clear hf2 hT2
          have e : (ofP fun b => decide (lo ≤ b) && decide (b ≤ hi) && decide (b < 64 * (k + 1))) = (ofP fun b => decide (lo ≤ b) && decide (b ≤ hi) && decide (b < 64 * k)) := by
            have h1 := HF.out; have h2 := HT.out
            refine ofP_congr fun b _ => ?_
            rw [Bool.eq_iff_iff]; simp only [Bool.and_eq_true, decide_eq_true_eq]
            omega
          have HE := Lib.hid e
          clear e
          go_wp2
          go_roundw
          case rel => exact ⟨k + 1, hlt, by go_num, hb0, by rw [HE.out]; exact hb1, hB⟩
          case measure => simp [intOf]; omega
      · obtain rfl : k = 4 := by omega
        have e : (ofP fun b => decide (lo ≤ b) && decide (b ≤ hi) && decide (b < 64 * 4)) = (ofP fun b => decide (lo ≤ b) && decide (b ≤ hi)) := ofP_congr fun b hb => by simp [show b < 64 * 4 by omega]
        rw [e] at hb1
        clear e
        obtain ⟨⟨p0, p1, p2, p3⟩, ⟨q0, q1, q2, q3⟩⟩ := hb0.set4
        obtain ⟨⟨r0, r1, r2, r3⟩, _⟩ := hb1.set4
        go_wp2
        exact ret_box Tryz.results118 rfl (hb0.store4 rfl _ _ _ _) Tryz.underlying43 rfl (by kernel_rfl) rfl ⟨rfl, by go_grown⟩
end Go.Proofs.YtdhmekpgplajmaaGreatDoor
end
section
namespace Go.Proofs.YtdhmekpgplajmaaGreatDoor
open Go.RowKit

theorem info_256 : (Tryz.prog.info? 23).map (fun i => (i.zero, i.size)) = some (some (.agg (arr8 fun _ => 0)), 256) := by kernel_rfl
theorem zeroV_256 (w : World) : (zeroValue 23).run Tryz.prog w = .ok (.agg (arr8 fun _ => 0)) w := (zero_of_info info_256).1 w
theorem size_256 (f : Nat → Nat) : (Tryz.prog.info? 23).map (·.size) = some (arr8 f).size := by rw [arr8_size]; exact (zero_of_info info_256).2


theorem key_u8 : KeyOK Tryz.prog 5 (fun n : Int => Value.int .u8 n) := keyOK_int Tryz.underlying5
set_option maxRecDepth 20000 in
set_option maxHeartbeats 400000 in
theorem number_u8 (k : Nat → Int) (p : Value) (w : World)
    (hkey : ∀ b : Nat, b < 256 → ∀ w', Below w.heap.size w w' → Calls Tryz.prog 88 #[.int .i64 b, p] w' (Ret w' (.int .u8 (k b)))) :
    Calls Tryz.prog 87 #[.func (.func 88) #[] #[p]] w (Ret w (.tuple #[.agg (arr8 (numR (Kern k))), .int .i64 (widR (Kern k) : Nat)])) := by
  have E := kern_equi k
  have hz := zeroV_256
  have hmm := @run_makeMap Tryz.prog
  have HK := Lib.hid hkey
  clear hkey
  generalize hR : Kern k = R at *
  have HR := Lib.hid hR
  clear hR
  go_enter Tryz.func87, Tryz.ntmps87
  go_wp2
  go_loopw [11] (fun i wr => ∃ n : Nat, n ≤ 256 ∧ i = .int .i64 n ∧ Box wr w.heap.size (arr8 fun _ => 0) 23 ∧ Box wr (w.heap.size + 1) (arr8 fun b => if b < n then numR R b else 0) 23 ∧ MapBox wr (w.heap.size + 1 + 1) (fun n : Int => Value.int .u8 n) (kvsOf k (reps R n)) ∧ Below w.heap.size w wr) (fun i _ => 256 - (intOf i).toNat)
  case atStart =>
    refine ⟨0, Nat.zero_le _, rfl, ((Box.new' rfl _ _).alloc _).alloc _, ?_, ?_, by go_grown⟩
    · rw [arr8_congr (g := fun _ => 0) (fun i _ => by simp)]; exact (Box.new' (World.size_alloc _ _).symm _ _).alloc _
    · rw [kvsOf_zero]; refine MapBox.new' ?_ _; simp
  case round =>
    obtain ⟨n, hn, rfl, hb0, hb1, hm, hB⟩ := hrel
    by_cases hlt : n < 256
    · have hlook := look_kvsOf k n (reps R n)
      rw [HR.out] at hlook
      have hlen := reps_length R n
      cases hany : (reps R n).any (R n) with
      | true =>
        obtain ⟨e1, e2⟩ := numR_old E.refl hlt hany
        rw [e2] at hlook
        have HL := Lib.hid hlook
        have HE := Lib.hid e1
        clear hlook e1 e2 hany
        go_wp2_with (go_at_call 88; go_must (refine (HK.out n hlt _ hB).mono ?_; rintro e w1 ⟨rfl, hb⟩; have hB1 := (hB.trans (hb.mono hB.size)); have hx0 := (hb0.kept hb); have hx1 := (hb1.kept hb); have hm1 := (hm.kept hb); have hrun := hm1.run_look key_u8 Tryz.underlying136 (Tryz.zeroValue5 _) (k n); rw [HL.out] at hrun; have hc := (hx1.cell n).trans (arr8_get _ n hlt); have hf := hx1.free n))
        go_roundw
        case rel =>
          refine ⟨n + 1, hlt, by go_num, hx0.other _ _ (by simp), ?_, ?_, by go_grown⟩
          · have := hx1.set n (.int .u8 (numR R n : Nat))
            rw [arr8_set, arr8_congr (g := fun b => if b < n + 1 then numR R b else 0) (number_step rfl)] at this
            exact this
          · rw [HE.out]; exact hm1.other _ _ (by simp)
        case measure => simp [intOf]; omega
      | false =>
        obtain ⟨e1, e2⟩ := numR_new E.refl hlt hany
        rw [posR_none hany] at hlook
        have HL := Lib.hid hlook
        have HE := Lib.hid e1
        have HN := Lib.hid e2
        clear hlook e1 e2 hany
        go_wp2_with (go_at_call 88; go_must (refine (HK.out n hlt _ hB).mono ?_; rintro e w1 ⟨rfl, hb⟩; have hB1 := (hB.trans (hb.mono hB.size)); have hx0 := (hb0.kept hb); have hx1 := (hb1.kept hb); have hm1 := (hm.kept hb); have hrun := hm1.run_look key_u8 Tryz.underlying136 (Tryz.zeroValue5 _) (k n); rw [HL.out] at hrun; have hlen1 := hm1.run_len Tryz.underlying136 3 _ (kvsOf_length k (reps R n)); obtain ⟨w2, hput, hm2, hoth, hsz2, hbel⟩ := hm1.run_put key_u8 Tryz.underlying136 (k n) (.int .u8 ((reps R n).length : Nat)); have hy0 := hx0.turn hoth (by omega); have hy1 := hx1.turn hoth (by omega); have hB2 := hB1.trans (hbel w.heap.size (by omega)); have hlk : look (k n) (kvsOf k (reps R n)) = none := HL.out; rw [putIn_none _ _ _ hlk, ← kvsOf_snoc] at hm2; have hc := (hy1.cell n).trans (arr8_get _ n hlt); have hf := hy1.free n; have hconv := wrap_u8_nat (reps R n).length (by omega);  clear hoth hbel hsz2 hlk))
        go_roundw
        case rel =>
          refine ⟨n + 1, hlt, by go_num, hy0.other _ _ (by simp), ?_, ?_, by go_grown⟩
          · have := hy1.set n (.int .u8 ((reps R n).length : Nat))
            rw [arr8_set, arr8_congr (g := fun b => if b < n + 1 then numR R b else 0) (number_step HN.out)] at this
            exact this
          · rw [HE.out]; exact hm2.other _ _ (by simp)
        case measure => simp [intOf]; omega
    · obtain rfl : n = 256 := by omega
      have hlen1 := hm.run_len Tryz.underlying136 3 _ (kvsOf_length k (reps R 256))
      rw [arr8_congr (g := numR R) (fun i hi => if_pos hi)] at hb1
      go_wp2_with (first | (refine wpList_load_row rfl 23 (.tmp 4) rfl (w.heap.size + 1) rfl _ _ _ _ hb1 Tryz.underlying23 rfl (size_256 _) ?_) | (refine wpList_store_row rfl 23 (.tmp 2) (.tmp 35) rfl w.heap.size _ rfl rfl _ _ hb0 (size_256 _) (by rw [arr8_size, arr8_size]) (arr8_all _) ?_))
      refine ret_box_tmp Tryz.results87 rfl rfl (hb0.setRow _) Tryz.underlying23 rfl (size_256 _) rfl ⟨?_, below_setRow hB (Nat.le_refl _) _⟩
      rw [widR_def]; rfl
end Go.Proofs.YtdhmekpgplajmaaGreatDoor
end
section
namespace Go.Proofs.YtdhmekpgplajmaaGreatDoor
open Go.RowKit



end Go.Proofs.YtdhmekpgplajmaaGreatDoor
end
section
namespace Go.Proofs.YtdhmekpgplajmaaGreatDoor
open Go.RowKit

end Go.Proofs.YtdhmekpgplajmaaGreatDoor
end
section
namespace Go.Proofs.YtdhmekpgplajmaaGreatDoor
open Go.RowKit

/-- Classes, as keys. -/
def keyN (f : Nat → Nat) (b : Nat) : Int := (f b : Nat)
theorem parts_Norm1 (f : Nat → Nat) (p b : Nat) (w : World) (hb : b < 256) (hp : Box w p (arr8 f) 23) :
    Calls Tryz.prog 88 #[.int .i64 b, .pointer (some ⟨p, 0, none⟩)] w (Ret w (.int .u8 (keyN f b))) := by
  have hc := (hp.cell b).trans (arr8_get _ b hb)
  go_enter Tryz.func88, Tryz.ntmps88
  go_wp2
  go_ret
  exact ⟨rfl, by go_grown⟩
set_option maxRecDepth 20000 in
theorem parts_Norm (f : Nat → Nat) (w : World) :
    Calls Tryz.prog 59 #[.agg (arr8 f)] w (Ret w (.tuple #[.agg (arr8 (numR (Kern (keyN f)))), .int .i64 (widR (Kern (keyN f)) : Nat)])) := by
  have hz := zeroV_256
  go_enter Tryz.func59, Tryz.ntmps59
  go_wp2_with (first | (refine wpList_store_row rfl 23 (.tmp 2) (.tmp 6) rfl _ _ rfl rfl _ _ hx1 (size_256 _) (arr8_sizes _ _) (arr8_all _) ?_) | (go_at_call 87; go_must (refine (number_u8 (keyN f) _ _ (fun b hb w' hB' => parts_Norm1 f w.heap.size b w' hb (((Box.new' rfl _ _).alloc _).kept hB'))).mono ?_; rintro e w1 ⟨rfl, hB⟩; have hx1 := (Box.new' (w := w.alloc (.cells (arr8 f) 23)) (World.size_alloc _ _).symm (arr8 fun _ => 0) 23).kept hB)))
  have hB1 := (((Below.refl w.heap.size w).alloc (Nat.le_refl _) (.cells (arr8 f) 23)).alloc (by simp) (.cells (arr8 fun _ => 0) 23)).trans (hB.mono (by simp; omega))
  exact ret_box_tmp Tryz.results59 rfl rfl (hx1.setRow _) Tryz.underlying23 rfl (size_256 _) rfl ⟨rfl, below_setRow hB1 (by simp) _⟩
set_option maxRecDepth 20000 in
set_option maxHeartbeats 400000 in
/-- Classes that are normal, and so many. -/
theorem parts_Right (f : Nat → Nat) (n : Int) (w : World) :
    Calls Tryz.prog 54 #[.agg (arr8 f), .int .i64 n] w (Ret w (.bool (sameArr (numR (Kern (keyN f))) f && ((widR (Kern (keyN f)) : Nat) == n)))) := by
  have hz := zeroV_256
  have hq := run_eq256 (P := Tryz.prog) (t := 23) (e := 5) Tryz.underlying23 Tryz.underlying5 (by kernel_rfl) (numR (Kern (keyN f))) f
  have hsz : ∀ w1 : World, Below (w.alloc (.cells (arr8 f) 23)).heap.size (w.alloc (.cells (arr8 f) 23)) w1 → Below w.heap.size w (w1.alloc (.cells (arr8 (numR (Kern (keyN f)))) 23)) := fun w1 hB => (((Below.refl w.heap.size w).alloc (Nat.le_refl _) _).trans (hB.mono (by go_size))).alloc (by have := hB.size; simp at this; omega) _
  have HS := Lib.hid hsz
  clear hsz
  cases hs : sameArr (numR (Kern (keyN f))) f with
  | true =>
    rw [hs] at hq
    clear hs
    go_enter Tryz.func54, Tryz.ntmps54
    go_wp2_with (first | (refine wpList_load_row rfl 23 (.tmp 2) rfl _ rfl _ _ _ _ (Box.new _ _ _) Tryz.underlying23 rfl (size_256 _) ?_) | (refine wpList_store_new rfl 23 (.tmp 5) (.tmp 10) rfl _ _ rfl rfl rfl (size_256 _) (arr8_sizes _ _) (arr8_all _) ?_) | (go_at_call 59; go_must (refine (parts_Norm f _).mono ?_; rintro e w1 ⟨rfl, hB⟩; have hx0 := (Box.new w (arr8 f) 23).kept hB)) | (refine wpList_load_row rfl 23 (.tmp 5) rfl _ rfl _ _ _ _ (Box.new _ _ _) Tryz.underlying23 rfl (size_256 _) ?_) | (refine wpList_load_row rfl 23 (.tmp 2) rfl _ rfl _ _ _ _ (hx0.alloc _) Tryz.underlying23 rfl (size_256 _) ?_))
    go_ret
    exact ⟨rfl, HS.out _ hB⟩
  | false =>
    rw [hs] at hq
    clear hs
    go_enter Tryz.func54, Tryz.ntmps54
    go_wp2_with (first | (refine wpList_load_row rfl 23 (.tmp 2) rfl _ rfl _ _ _ _ (Box.new _ _ _) Tryz.underlying23 rfl (size_256 _) ?_) | (refine wpList_store_new rfl 23 (.tmp 5) (.tmp 10) rfl _ _ rfl rfl rfl (size_256 _) (arr8_sizes _ _) (arr8_all _) ?_) | (go_at_call 59; go_must (refine (parts_Norm f _).mono ?_; rintro e w1 ⟨rfl, hB⟩; have hx0 := (Box.new w (arr8 f) 23).kept hB)) | (refine wpList_load_row rfl 23 (.tmp 5) rfl _ rfl _ _ _ _ (Box.new _ _ _) Tryz.underlying23 rfl (size_256 _) ?_) | (refine wpList_load_row rfl 23 (.tmp 2) rfl _ rfl _ _ _ _ (hx0.alloc _) Tryz.underlying23 rfl (size_256 _) ?_))
    go_ret
    exact ⟨rfl, HS.out _ hB⟩
end Go.Proofs.YtdhmekpgplajmaaGreatDoor
end
section
namespace Go.Proofs.YtdhmekpgplajmaaGreatDoor
open Go.RowKit

theorem elem_set : ElemOK Tryz.prog 67 43 (.agg #[.int .u64 0, .int .u64 0, .int .u64 0, .int .u64 0]) 4 32 :=
  ⟨Tryz.underlying67, info_parts (by kernel_rfl), rfl, by decide⟩
end Go.Proofs.YtdhmekpgplajmaaGreatDoor
end
