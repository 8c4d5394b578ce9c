/- Joined by tools/merge.py: PlainParts, Base2, OrdT, Own2, Bits. -/
import Derived.Test.YtdhmekpgplajmaaDoorJ2
import Derived.Test.YtdhmekpgplajmaaDoorJ1
import Derived.Laws.AppendOwnNone
import Derived.Lib.TrailingZeros
section
namespace Go.Proofs.YtdhmekpgplajmaaDoor

/-- The first bytes of the classes among the bytes below n: R says whether two bytes are alike. -/
def reps (R : Nat → Nat → Bool) : Nat → List Nat
  | 0 => []
  | n + 1 => if (reps R n).any (R n) then reps R n else reps R n ++ [n]
def posR (R : Nat → Nat → Bool) (b : Nat) : List Nat → Option Nat
  | [] => none
  | c :: r => if R b c then some 0 else (posR R b r).map (· + 1)
def numR (R : Nat → Nat → Bool) (b : Nat) : Nat := (posR R b (reps R 256)).getD 0
def widR (R : Nat → Nat → Bool) : Nat := (reps R 256).length
/-- Alike, where keys are. -/
def Kern {κ : Type} [DecidableEq κ] (k : Nat → κ) (b c : Nat) : Bool := decide (k b = k c)

theorem reps_zero (R : Nat → Nat → Bool) : reps R 0 = [] := rfl
theorem reps_succ (R : Nat → Nat → Bool) (n : Nat) : reps R (n + 1) = if (reps R n).any (R n) then reps R n else reps R n ++ [n] := rfl
theorem reps_lt (R : Nat → Nat → Bool) : ∀ n, ∀ c ∈ reps R n, c < n
  | 0, c, h => by simp [reps] at h
  | n + 1, c, h => by
    unfold reps at h
    split at h
    · exact Nat.lt_succ_of_lt (reps_lt R n c h)
    · rcases List.mem_append.1 h with h | h
      · exact Nat.lt_succ_of_lt (reps_lt R n c h)
      · simp at h; omega
theorem reps_sorted (R : Nat → Nat → Bool) : ∀ (n i j : Nat) (_ : i < j) (hj : j < (reps R n).length), (reps R n)[i]'(by omega) < (reps R n)[j]
  | 0, i, j, _, hj => by simp [reps] at hj
  | n + 1, i, j, hij, hj => by
    by_cases h : (reps R n).any (R n) = true
    · have e : reps R (n + 1) = reps R n := by rw [reps_succ, if_pos h]
      simp only [e] at hj ⊢
      exact reps_sorted R n i j hij hj
    · have e : reps R (n + 1) = reps R n ++ [n] := by rw [reps_succ, if_neg h]
      simp only [e] at hj ⊢
      rw [List.length_append, List.length_singleton] at hj
      by_cases h2 : j < (reps R n).length
      · rw [List.getElem_append_left h2, List.getElem_append_left (by omega)]
        exact reps_sorted R n i j hij h2
      · obtain rfl : j = (reps R n).length := by omega
        rw [List.getElem_append_right (Nat.le_refl _), List.getElem_append_left (by omega)]
        simp
        exact reps_lt R n _ (List.getElem_mem _)
theorem reps_inj (R : Nat → Nat → Bool) (n : Nat) {i j : Nat} (hi : i < (reps R n).length) (hj : j < (reps R n).length) (h : (reps R n)[i] = (reps R n)[j]) : i = j := by
  rcases Nat.lt_trichotomy i j with h1 | h1 | h1
  · have := reps_sorted R n i j h1 hj; omega
  · exact h1
  · have := reps_sorted R n j i h1 hi; omega
theorem reps_nodup (R : Nat → Nat → Bool) (n : Nat) : (reps R n).Nodup := by
  rw [List.nodup_iff_pairwise_ne, List.pairwise_iff_getElem]
  intro i j hi hj hij
  exact Nat.ne_of_lt (reps_sorted R n i j hij hj)
theorem reps_length (R : Nat → Nat → Bool) : ∀ n, (reps R n).length ≤ n
  | 0 => by simp [reps]
  | n + 1 => by
    have := reps_length R n
    unfold reps
    split
    · omega
    · simp; omega
theorem reps_prefix (R : Nat → Nat → Bool) (n : Nat) : ∀ m, ∃ l, reps R (n + m) = reps R n ++ l
  | 0 => ⟨[], by simp⟩
  | m + 1 => by
    obtain ⟨l, hl⟩ := reps_prefix R n m
    by_cases h : (reps R (n + m)).any (R (n + m)) = true
    · exact ⟨l, by rw [← Nat.add_assoc, reps_succ, if_pos h, hl]⟩
    · exact ⟨l ++ [n + m], by rw [← Nat.add_assoc, reps_succ, if_neg h, hl, List.append_assoc]⟩
theorem reps_congr {R S : Nat → Nat → Bool} : ∀ n, (∀ b c, b < n → c < n → R b c = S b c) → reps R n = reps S n
  | 0, _ => rfl
  | n + 1, h => by
    have ih := reps_congr (R := R) (S := S) n (fun b c hb hc => h b c (by omega) (by omega))
    have e : (reps R n).any (R n) = (reps S n).any (S n) := by
      rw [← ih, Bool.eq_iff_iff]
      simp only [List.any_eq_true]
      constructor
      · rintro ⟨c, hc, hR⟩; exact ⟨c, hc, by rw [← h n c (by omega) (by have := reps_lt R n c hc; omega)]; exact hR⟩
      · rintro ⟨c, hc, hR⟩; exact ⟨c, hc, by rw [h n c (by omega) (by have := reps_lt R n c hc; omega)]; exact hR⟩
    rw [reps_succ, reps_succ, e, ih]
theorem posR_append (R : Nat → Nat → Bool) (b : Nat) : ∀ l l' : List Nat, posR R b (l ++ l') = (posR R b l).or ((posR R b l').map (· + l.length))
  | [], l' => by simp [posR]
  | c :: r, l' => by
    simp only [List.cons_append, posR, posR_append R b r l']
    split
    · simp
    · cases posR R b r <;> cases posR R b l' <;> simp [Nat.add_assoc]
theorem posR_none {R : Nat → Nat → Bool} {b : Nat} : ∀ {l : List Nat}, l.any (R b) = false → posR R b l = none
  | [], _ => rfl
  | c :: r, h => by
    simp only [List.any_cons, Bool.or_eq_false_iff] at h
    simp [posR, h.1, posR_none h.2]
theorem posR_some {R : Nat → Nat → Bool} {b : Nat} : ∀ {l : List Nat}, l.any (R b) = true → ∃ i, posR R b l = some i ∧ i < l.length ∧ ∃ c, l[i]? = some c ∧ R b c = true
  | [], h => by simp at h
  | c :: r, h => by
    simp only [posR]
    by_cases hc : R b c = true
    · exact ⟨0, by simp [hc], by simp, c, by simp, hc⟩
    · simp only [List.any_cons, hc, Bool.false_or] at h
      obtain ⟨i, h1, h2, d, h3, h4⟩ := posR_some (R := R) (b := b) (l := r) (by simpa using h)
      exact ⟨i + 1, by simp [hc, h1], by simpa using h2, d, by simpa using h3, h4⟩
/-- Every byte below n is alike one of the first ones. -/
theorem reps_any {R : Nat → Nat → Bool} (hr : ∀ b, R b b = true) {n b : Nat} (hb : b < n) : (reps R n).any (R b) = true := by
  obtain ⟨m, rfl⟩ : ∃ m, n = b + 1 + m := ⟨n - (b + 1), by omega⟩
  obtain ⟨l, hl⟩ := reps_prefix R (b + 1) m
  rw [hl, List.any_append]
  have : (reps R (b + 1)).any (R b) = true := by
    rw [reps_succ]
    split
    · assumption
    · simp [hr]
  simp [this]
/-- The number of a byte is known when it comes. -/
theorem posR_reps {R : Nat → Nat → Bool} (hr : ∀ b, R b b = true) {n b : Nat} (hb : b < n) (hn : n ≤ 256) : posR R b (reps R n) = some (numR R b) := by
  obtain ⟨m, hm⟩ : ∃ m, n + m = 256 := ⟨256 - n, by omega⟩
  obtain ⟨l, hl⟩ := reps_prefix R n m
  obtain ⟨i, hi, _⟩ := posR_some (reps_any hr hb)
  have : posR R b (reps R 256) = some i := by rw [← hm, hl, posR_append, hi]; rfl
  rw [hi, numR, this]; rfl
/-- A byte that is the first one of its class. -/
theorem numR_new {R : Nat → Nat → Bool} (hr : ∀ b, R b b = true) {n : Nat} (hn : n < 256) (h : (reps R n).any (R n) = false) : reps R (n + 1) = reps R n ++ [n] ∧ numR R n = (reps R n).length := by
  have e : reps R (n + 1) = reps R n ++ [n] := by rw [reps_succ, h]; rfl
  refine ⟨e, ?_⟩
  have h1 := posR_reps hr (Nat.lt_succ_self n) hn
  rw [e, posR_append, posR_none h] at h1
  simpa [posR, hr] using h1.symm
theorem numR_old {R : Nat → Nat → Bool} (hr : ∀ b, R b b = true) {n : Nat} (hn : n < 256) (h : (reps R n).any (R n) = true) : reps R (n + 1) = reps R n ∧ posR R n (reps R n) = some (numR R n) := by
  have e : reps R (n + 1) = reps R n := by rw [reps_succ, h]; rfl
  refine ⟨e, ?_⟩
  rw [← e]; exact posR_reps hr (Nat.lt_succ_self n) hn
theorem numR_lt {R : Nat → Nat → Bool} (hr : ∀ b, R b b = true) {b : Nat} (hb : b < 256) : numR R b < widR R := by
  obtain ⟨i, hi, hlt, _⟩ := posR_some (reps_any hr hb)
  unfold numR widR; rw [hi]; exact hlt
theorem widR_le (R : Nat → Nat → Bool) : widR R ≤ 256 := reps_length R 256
theorem numR_lt256 {R : Nat → Nat → Bool} (hr : ∀ b, R b b = true) {b : Nat} (hb : b < 256) : numR R b < 256 := Nat.lt_of_lt_of_le (numR_lt hr hb) (widR_le R)
/-- An equivalence. -/
structure Equi (R : Nat → Nat → Bool) : Prop where
  refl : ∀ b, R b b = true
  symm : ∀ {b c}, R b c = true → R c b = true
  trans : ∀ {b c d}, R b c = true → R c d = true → R b d = true
theorem posR_congr {R : Nat → Nat → Bool} (E : Equi R) {b c : Nat} (h : R b c = true) : ∀ l, posR R b l = posR R c l
  | [] => rfl
  | d :: r => by
    simp only [posR, posR_congr E h r]
    have : R b d = R c d := by
      rw [Bool.eq_iff_iff]; exact ⟨fun k => E.trans (E.symm h) k, fun k => E.trans h k⟩
    rw [this]
/-- Two bytes have one number just if they are alike. -/
theorem numR_eq {R : Nat → Nat → Bool} (E : Equi R) {b c : Nat} (hb : b < 256) (hc : c < 256) : (numR R b = numR R c) ↔ R b c = true := by
  constructor
  · intro h
    obtain ⟨i, hi, _, d, hd, hbd⟩ := posR_some (reps_any E.refl hb)
    obtain ⟨j, hj, _, e, he, hce⟩ := posR_some (reps_any E.refl hc)
    have : i = j := by unfold numR at h; rw [hi, hj] at h; exact h
    subst this
    rw [hd] at he
    obtain rfl := Option.some.inj he
    exact E.trans hbd (E.symm hce)
  · intro h; unfold numR; rw [posR_congr E h]
theorem numR_congr {R S : Nat → Nat → Bool} (h : ∀ b c, b < 256 → c < 256 → R b c = S b c) {b : Nat} (hb : b < 256) : numR R b = numR S b := by
  unfold numR
  rw [reps_congr (R := R) (S := S) 256 h]
  have : ∀ l : List Nat, (∀ c ∈ l, c < 256) → posR R b l = posR S b l := by
    intro l
    induction l with
    | nil => intro _; rfl
    | cons c r ih => intro hl; simp only [posR, h b c hb (hl c (by simp)), ih (fun d hd => hl d (by simp [hd]))]
  rw [this _ (reps_lt S 256)]
theorem widR_congr {R S : Nat → Nat → Bool} (h : ∀ b c, b < 256 → c < 256 → R b c = S b c) : widR R = widR S := by
  unfold widR; rw [reps_congr 256 h]
theorem kern_equi {κ : Type} [DecidableEq κ] (k : Nat → κ) : Equi (Kern k) :=
  ⟨fun b => by simp [Kern], fun h => by simp only [Kern, decide_eq_true_eq] at *; exact h.symm, fun h1 h2 => by simp only [Kern, decide_eq_true_eq] at *; exact h1.trans h2⟩

/-! ### The map that numbers keys -/
def kvsOf {κ : Type} (k : Nat → κ) (l : List Nat) : List (κ × Value) := (l.zipIdx).map fun p => (k p.1, .int .u8 (p.2 : Nat))
theorem kvsOf_snoc {κ : Type} (k : Nat → κ) (l : List Nat) (n : Nat) : kvsOf k (l ++ [n]) = kvsOf k l ++ [(k n, .int .u8 (l.length : Nat))] := by
  unfold kvsOf; rw [List.zipIdx_append]; simp
theorem kvsOf_length {κ : Type} (k : Nat → κ) (l : List Nat) : (kvsOf k l).length = l.length := by simp [kvsOf]
theorem look_kvsOf {κ : Type} [DecidableEq κ] (k : Nat → κ) (b : Nat) (l : List Nat) : look (k b) (kvsOf k l) = (posR (Kern k) b l).map fun i => Value.int .u8 (i : Nat) := by
  have gen : ∀ (l : List Nat) (s : Nat), look (k b) ((l.zipIdx s).map fun p => (k p.1, Value.int .u8 (p.2 : Nat))) = (posR (Kern k) b l).map fun i => Value.int .u8 ((i + s : Nat) : Int) := by
    intro l
    induction l with
    | nil => intro s; rfl
    | cons c r ih =>
      intro s
      simp only [List.zipIdx_cons, List.map_cons, look, posR, Kern, decide_eq_true_eq]
      by_cases h : k b = k c
      · simp [h]
      · simp only [h, if_false]
        rw [ih (s + 1)]
        cases posR (Kern k) b r <;> simp <;> omega
  exact gen l 0
/-- 256 bytes. -/
def arr8 (f : Nat → Nat) : Array Value := (((List.range 256).map fun i => ((f i : Nat) : Int)).map (Value.int .u8)).toArray
theorem arr8_size (f : Nat → Nat) : (arr8 f).size = 256 := by simp [arr8]
theorem arr8_sizes (f g : Nat → Nat) : (arr8 f).size = (arr8 g).size := by rw [arr8_size, arr8_size]
theorem arr8_get (f : Nat → Nat) (i : Nat) (h : i < 256) : (arr8 f)[i]? = some (.int .u8 (f i : Nat)) := by simp [arr8, h]
theorem arr8_congr {f g : Nat → Nat} (h : ∀ i, i < 256 → f i = g i) : arr8 f = arr8 g := by
  have e : ((List.range 256).map fun i => ((f i : Nat) : Int)) = ((List.range 256).map fun i => ((g i : Nat) : Int)) := List.map_congr_left fun i hi => by rw [h i (by simpa using hi)]
  unfold arr8; rw [e]
theorem arr8_set (f : Nat → Nat) (k v : Nat) : (arr8 f).setIfInBounds k (.int .u8 (v : Nat)) = arr8 (fun i => if i = k then v else f i) := by
  apply Array.ext_getElem?
  intro i
  rw [Array.getElem?_setIfInBounds]
  by_cases hi : i < 256
  · rw [arr8_get _ i hi, arr8_get _ i hi, arr8_size]
    by_cases hk : k = i
    · subst hk; simp [hi]
    · have : ¬ i = k := fun e => hk e.symm
      simp [hk, this]
  · have h1 : (arr8 fun i => if i = k then v else f i)[i]? = none := by rw [Array.getElem?_eq_none]; rw [arr8_size]; omega
    have h2 : (arr8 f)[i]? = none := by rw [Array.getElem?_eq_none]; rw [arr8_size]; omega
    rw [h1, h2, arr8_size]
    by_cases hk : k = i
    · simp [hk, hi]
    · simp [hk]
theorem arr8_all (f : Nat → Nat) : (arr8 f).all (·.oneCell') = true := by
  rw [Array.all_eq_true_iff_forall_mem]
  intro v hv
  simp only [arr8, List.mem_toArray, List.mem_map] at hv
  obtain ⟨x, _, rfl⟩ := hv
  rfl
theorem number_step {R : Nat → Nat → Bool} {n v : Nat} (h : numR R n = v) : ∀ i, i < 256 → (if i = n then v else if i < n then numR R i else 0) = if i < n + 1 then numR R i else 0 := by
  intro i _
  by_cases h1 : i = n
  · subst h1; simp [h]
  · by_cases h2 : i < n
    · simp [h1, h2, show i < n + 1 by omega]
    · simp [h1, h2, show ¬ i < n + 1 by omega]
theorem widR_def (R : Nat → Nat → Bool) : widR R = (reps R 256).length := rfl
theorem kvsOf_zero {κ : Type} (k : Nat → κ) (R : Nat → Nat → Bool) : kvsOf k (reps R 0) = [] := rfl
/-- The same at each byte. -/
def sameArr (f g : Nat → Nat) : Bool := (List.range 256).all fun b => f b == g b
theorem sameArr_iff (f g : Nat → Nat) : sameArr f g = true ↔ ∀ b, b < 256 → f b = g b := by
  unfold sameArr; simp
theorem run_eq256 {P : Program} {t e : TypeId} (hu : P.underlying t = some (.array 256 e)) (he : P.underlying e = some (.int .u8)) (hi : (P.info? e).map (fun i => i.size) = some 1) (f g : Nat → Nat) (w : World) :
    (Op.equalIn 10000 t (.agg (arr8 f)) (.agg (arr8 g))).run P w = .ok (sameArr f g) w := by
  cases hq : P.info? e with
  | none => simp [hq] at hi
  | some i =>
    have hs : i.size = 1 := by simpa [hq] using hi
    have hc : P.cellsOf e = 1 := by simp [Program.cellsOf, hq, hs]
    have := run_equalIn_ints (P := P) 9998 hu he hq hc ((List.range 256).map fun i => ((f i : Nat) : Int)) ((List.range 256).map fun i => ((g i : Nat) : Int)) (by simp) (by simp) w
    refine this.trans ?_
    congr 1
    rw [Bool.eq_iff_iff, sameArr_iff]
    simp only [decide_eq_true_eq]
    constructor
    · intro h b hb
      have := List.map_inj_left.1 h b (by simpa using hb)
      omega
    · intro h
      exact List.map_congr_left fun b hb => by rw [h b (by simpa using hb)]
/-! ### The classes as sets -/
theorem reps_least {R : Nat → Nat → Bool} (E : Equi R) : ∀ (n c d : Nat), c ∈ reps R n → d < c → R c d = false
  | 0, c, d, h, _ => by simp [reps] at h
  | n + 1, c, d, h, hd => by
    rw [reps_succ] at h
    split at h
    · exact reps_least E n c d h hd
    · rename_i hn
      rcases List.mem_append.1 h with h | h
      · exact reps_least E n c d h hd
      · obtain rfl : c = n := by simpa using h
        cases hR : R c d with
        | false => rfl
        | true =>
          refine absurd ?_ hn
          obtain ⟨r, hr, hdr⟩ := List.any_eq_true.1 (reps_any E.refl hd)
          exact List.any_eq_true.2 ⟨r, hr, E.trans hR hdr⟩
def cls (R : Nat → Nat → Bool) (n c : Nat) : BSet := ofP fun d => decide (d < n) && R c d
theorem mem_cls (R : Nat → Nat → Bool) (n c d : Nat) : mem (cls R n c) d = (decide (d < 256) && (decide (d < n) && R c d)) := mem_ofP _ _
theorem least_cls {R : Nat → Nat → Bool} (E : Equi R) {n c : Nat} (hn : n ≤ 256) (hc : c ∈ reps R n) : leastOf (cls R n c) = c := by
  have hlt := reps_lt R n c hc
  refine leastOf_found _ c (by omega) ?_ fun d hd => ?_
  · rw [mem_cls]; simp [hlt, E.refl]; omega
  · rw [mem_cls, reps_least E n c d hc hd]; simp
theorem posR_get {R : Nat → Nat → Bool} {b : Nat} : ∀ {l : List Nat} {p : Nat} (hp : p < l.length), R b l[p] = true → (∀ i (h : i < p), R b (l[i]'(by omega)) = false) → posR R b l = some p
  | [], p, hp, _, _ => by simp at hp
  | c :: r, 0, _, h, _ => by simp at h; simp [posR, h]
  | c :: r, p + 1, hp, h, hno => by
    have h0 := hno 0 (by omega)
    simp only [List.getElem_cons_zero] at h0
    have ih := posR_get (R := R) (b := b) (l := r) (p := p) (by simpa using hp) (by simpa using h) (fun i hi => by have := hno (i + 1) (by omega); simpa using this)
    simp [posR, h0, ih]
/-- A byte of a class that there is. -/
theorem cls_old {R : Nat → Nat → Bool} (E : Equi R) {n p : Nat} (hn : n < 256) (hp : p < (reps R n).length) (h : R (reps R n)[p] n = true) :
    reps R (n + 1) = reps R n ∧ ((reps R n).map (cls R n)).set p (withB (cls R n (reps R n)[p]) n) = (reps R n).map (cls R (n + 1)) := by
  have hany : (reps R n).any (R n) = true := List.any_eq_true.2 ⟨_, List.getElem_mem hp, E.symm h⟩
  refine ⟨by rw [reps_succ, if_pos hany], ?_⟩
  apply List.ext_getElem
  · simp
  · intro i h1 h2
    simp only [List.length_set, List.length_map] at h1
    rw [List.getElem_set]
    split
    · rename_i hpi
      subst hpi
      simp only [List.getElem_map]
      refine set_ext fun d hd => ?_
      rw [mem_withB _ _ _ hn, mem_cls, mem_cls]
      by_cases h3 : n = d
      · subst h3; simp [hd, h]
      · by_cases h4 : d < n
        · simp [h3, h4, show d < n + 1 by omega]
        · simp [h3, h4, show ¬ d < n + 1 by omega]
    · rename_i hpi
      simp only [List.getElem_map]
      refine set_ext fun d hd => ?_
      rw [mem_cls, mem_cls]
      have hne : R (reps R n)[i] n = false := by
        cases hR : R (reps R n)[i] n with
        | false => rfl
        | true =>
          exfalso
          have h5 : R (reps R n)[i] (reps R n)[p] = true := E.trans hR (E.symm h)
          have hl1 := reps_least E n (reps R n)[i] (reps R n)[p] (List.getElem_mem _)
          have hl2 := reps_least E n (reps R n)[p] (reps R n)[i] (List.getElem_mem _)
          rcases Nat.lt_trichotomy (reps R n)[i] (reps R n)[p] with hlt | heq | hgt
          · have := hl2 hlt; rw [E.symm h5] at this; cases this
          · exact hpi (reps_inj R n hp h1 heq.symm)
          · have := hl1 hgt; rw [h5] at this; cases this
      by_cases h3 : d = n
      · subst h3; simp [hne]
      · have : decide (d < n + 1) = decide (d < n) := by rw [decide_eq_decide]; omega
        rw [this]
/-- The first byte of a class. -/
theorem cls_new {R : Nat → Nat → Bool} (E : Equi R) {n : Nat} (hn : n < 256) (h : ∀ i (hi : i < (reps R n).length), R (reps R n)[i] n = false) :
    reps R (n + 1) = reps R n ++ [n] ∧ (reps R n).map (cls R n) ++ [ofP fun b => decide (n ≤ b) && decide (b ≤ n)] = (reps R (n + 1)).map (cls R (n + 1)) := by
  have hany : (reps R n).any (R n) = false := by
    rw [List.any_eq_false]
    intro c hc
    obtain ⟨i, hi, rfl⟩ := List.mem_iff_getElem.1 hc
    intro hR
    have := h i hi
    rw [E.symm hR] at this; cases this
  have e : reps R (n + 1) = reps R n ++ [n] := by rw [reps_succ, hany]; rfl
  refine ⟨e, ?_⟩
  rw [e, List.map_append]
  congr 1
  · refine List.map_congr_left fun c hc => ?_
    obtain ⟨i, hi, rfl⟩ := List.mem_iff_getElem.1 hc
    refine set_ext fun d hd => ?_
    rw [mem_cls, mem_cls]
    by_cases h3 : d = n
    · subst h3; simp [h i hi]
    · have : decide (d < n + 1) = decide (d < n) := by rw [decide_eq_decide]; omega
      rw [this]
  · simp only [List.map_cons, List.map_nil]
    congr 1
    refine set_ext fun d hd => ?_
    rw [mem_cls, mem_ofP]
    by_cases h3 : d = n
    · subst h3; simp [E.refl]
    · by_cases h4 : d < n
      · have hm : n ∈ reps R (n + 1) := by rw [e]; simp
        rw [reps_least E (n + 1) n d hm h4]
        simp [show ¬ n ≤ d by omega]
      · simp [show ¬ d < n + 1 by omega, show ¬ d ≤ n by omega]
/-- The number of the last set that a byte is in; 0: it is in none. -/
def numF (L : List BSet) (c : Nat) : Nat := (List.range L.length).foldl (fun acc i => if mem (L.getD i 0) c then i else acc) 0
theorem numF_snoc (L : List BSet) (s : BSet) (c : Nat) : numF (L ++ [s]) c = if mem s c then L.length else numF L c := by
  unfold numF
  rw [List.length_append, List.length_singleton, List.range_succ, List.foldl_append]
  simp only [List.foldl_cons, List.foldl_nil]
  have e1 : (L ++ [s]).getD L.length 0 = s := by simp [List.getD]
  rw [e1]
  have : ∀ (l : List Nat) (z : Nat), (∀ i ∈ l, i < L.length) → l.foldl (fun acc i => if mem ((L ++ [s]).getD i 0) c then i else acc) z = l.foldl (fun acc i => if mem (L.getD i 0) c then i else acc) z := by
    intro l
    induction l with
    | nil => intro z _; rfl
    | cons i l ih =>
      intro z h
      have e2 : (L ++ [s]).getD i 0 = L.getD i 0 := by simp [List.getD, List.getElem?_append_left (h i (by simp))]
      simp only [List.foldl_cons, e2]
      exact ih _ (fun j hj => h j (by simp [hj]))
  rw [this _ _ (fun i hi => by simpa using hi)]
attribute [irreducible] reps
theorem numF_cls {R : Nat → Nat → Bool} (E : Equi R) {c : Nat} (hc : c < 256) : ∀ m, m ≤ (reps R 256).length →
    numF (((reps R 256).take m).map (cls R 256)) c = if numR R c < m then numR R c else 0
  | 0, _ => by simp [numF]
  | m + 1, hm => by
    rw [List.take_succ_eq_append_getElem hm, List.map_append, List.map_cons, List.map_nil, numF_snoc, numF_cls E hc m (by omega), List.length_map, List.length_take, Nat.min_eq_left (by omega)]
    have hmem : mem (cls R 256 (reps R 256)[m]) c = R (reps R 256)[m] c := by rw [mem_cls]; simp [hc]
    have hr := reps_lt R 256 _ (List.getElem_mem hm)
    have hnum : numR R (reps R 256)[m] = m := by
      have := posR_get (R := R) (b := (reps R 256)[m]) (l := reps R 256) (p := m) hm (E.refl _) (fun i hi => by
        have h1 := reps_least E 256 (reps R 256)[m] (reps R 256)[i] (List.getElem_mem _)
        have h2 := reps_sorted R 256 i m hi hm
        exact h1 h2)
      unfold numR; rw [this]; rfl
    rw [hmem]
    by_cases h : R (reps R 256)[m] c = true
    · have := (numR_eq E hr hc).2 h
      rw [if_pos h, ← this, hnum, if_pos (Nat.lt_succ_self m)]
    · have : numR R c ≠ m := fun e => h ((numR_eq E hr hc).1 (by rw [hnum, e]))
      rw [if_neg h]
      by_cases h2 : numR R c < m
      · rw [if_pos h2, if_pos (by omega)]
      · rw [if_neg h2, if_neg (by omega)]
attribute [irreducible] arr8 numR widR posR kvsOf sameArr
end Go.Proofs.YtdhmekpgplajmaaDoor
end
section
namespace Go.Proofs.YtdhmekpgplajmaaDoor
open Go.RowKit
/-- A whole array read out of a variable, under a guard that says yes. -/
theorem wpList_load_row_g {P : Program} {ops : Array Oper} {rest : List Oper} {o : Oper} {a : Act} {w : World} {Q : Exit → Act → World → Prop} (hw : Region.wanted o (yielded ops a.tmps) = true) (ty : TypeId) (x : Operand) (ho : o.op = .load ty x)
    (g : Nat) (hx : a.eval x = .pointer (some ⟨g, 0, none⟩)) (t : TypeId) (cs : Array Value) (fr : Nat × Nat) (d : TypeDesc) (hg : w.heap[g]? = some (.cells cs t fr))
    (hu : P.underlying ty = some d) (hd : (match d with | .struct _ | .array _ _ => true | _ => false) = true) (hi : (P.info? ty).map (·.size) = some cs.size)
    (h : wpList P ops Q rest (a.put o.dst (.agg cs)) w) : wpList P ops Q (o :: rest) a w :=
  BigFrame.wpList_want hw fun _ hK => wp_load_row ty x ho g hx t cs fr d hg hu hd hi (hK _ _ h)
end Go.Proofs.YtdhmekpgplajmaaDoor
end
section
namespace Go.Proofs.YtdhmekpgplajmaaDoor
open Go.RowKit
section
variable {P : Program} {ops : Array Oper} {Q : Exit → Act → World → Prop} {md : Region.Mode} {R : World → World → Prop} {T : List Nat}
/-- Whatever order is picked from here on, from this world or any later one (R says what is later). The numbers in T may do what they like to the world. -/
def wpT (P : Program) (md : Region.Mode) (ops : Array Oper) (Q : Exit → Act → World → Prop) (R : World → World → Prop) (T : List Nat) : Nat → Array Bool → Act → World → Prop
  | 0, listed, a, w => ∀ w1, R w w1 → Region.ready md ops listed = [] ∧ Q .normal a w1
  | fuel + 1, listed, a, w => ∀ w1, R w w1 → (Region.ready md ops listed = [] → Q .normal a w1) ∧
      ∀ i ∈ Region.ready md ops listed, wpOp P ops Q i (fun a' w' => (T.contains i = false → R w1 w') ∧ wpT P md ops Q R T fuel (listed.setIfInBounds i true) a' w') a w1

theorem wpT.later (ht : ∀ a b c, R a b → R b c → R a c) : ∀ {fuel : Nat} {listed : Array Bool} {a : Act} {w w' : World}, wpT P md ops Q R T fuel listed a w → R w w' → wpT P md ops Q R T fuel listed a w'
  | 0, _, _, _, _, h, hr => fun w1 h1 => h w1 (ht _ _ _ hr h1)
  | _ + 1, _, _, _, _, h, hr => fun w1 h1 => h w1 (ht _ _ _ hr h1)
theorem wpAny_of_T (hr : ∀ a, R a a) : ∀ (fuel : Nat) (listed : Array Bool) (a : Act) (w : World), wpT P md ops Q R T fuel listed a w → wpAny P md ops Q fuel listed a w
  | 0, _, _, w, h => h w (hr w)
  | fuel + 1, _, _, w, h => ⟨(h w (hr w)).1, fun i hi => wpOp_mono (fun a' w' h' => wpAny_of_T hr fuel _ a' w' h'.2) ((h w (hr w)).2 i hi)⟩

theorem wpT_first (hrefl : ∀ a, R a a) (ht : ∀ a b c, R a b → R b c → R a c) {i : Nat} {oi : Oper} {v : Value} (hi : ops[i]? = some oi) (hsel : ∀ (j : Nat) (o : Oper) cs b, ops[j]? = some o → o.op ≠ .select cs b)
    (hQ : ∀ c a w, Q (.panic c) (a.put oi.dst v) w → Q (.panic c) a w) (hit : T.contains i = false) : ∀ (fuel : Nat) (listed : Array Bool) (a : Act) (w : World), Cl md ops listed →
      (∀ j oj, ops[j]? = some oj → j ≠ i → listed.getD j true = false → (∀ e ∈ oj.after, Region.binds md e = true → e.on ≠ i) → oi.apart ops oj = true) →
      i ∈ Region.ready md ops listed → ((Gives P ops R oi v a w ∧ ∀ t ∈ T, needs md ops i ops.size t = true) ∨ ∀ w0, Gives P ops R oi v a w0) →
      wpT P md ops Q R T fuel (listed.setIfInBounds i true) (a.put oi.dst v) w → wpT P md ops Q R T (fuel + 1) listed a w := by
  intro fuel
  induction fuel with
  | zero =>
    intro listed a w _ _ hr hg H w1 hw1
    have hy : Gives P ops R oi v a w := hg.elim (·.1) (· w)
    refine ⟨fun h => (by rw [h] at hr; cases hr), fun j hj => ?_⟩
    by_cases hji : j = i
    · subst hji
      exact hy.wpOp hrefl hi hw1 fun w2 h2 => ⟨fun _ => h2, fun w3 h3 => H w3 (ht _ _ _ hw1 (ht _ _ _ h2 h3))⟩
    · have := ready_mono hj hji
      rw [(H w (hrefl _)).1] at this
      cases this
  | succ fuel ih =>
    intro listed a w hcl hfree hr hg H w1 hw1
    have hy : Gives P ops R oi v a w := hg.elim (·.1) (· w)
    refine ⟨fun h => (by rw [h] at hr; cases hr), fun j hj => ?_⟩
    by_cases hji : j = i
    · subst hji
      exact hy.wpOp hrefl hi hw1 fun w2 h2 => ⟨fun _ => h2, wpT.later ht H (ht _ _ _ hw1 h2)⟩
    · have h1 := (H w1 hw1).2 j (ready_mono hj hji)
      obtain ⟨hjun, oj, hoj, hall⟩ := mem_ready.1 hj
      have hjt : (∀ t ∈ T, needs md ops i ops.size t = true) → T.contains j = false := fun hn => by
        cases hc : T.contains j with
        | false => rfl
        | true =>
          have h5 := needs_listed hcl _ _ _ hoj hall (hn j (by simpa using hc))
          have h6 := (mem_ready.1 hr).1
          rcases Nat.lt_or_ge i listed.size with h' | h'
          · simp [h'] at h5 h6; rw [h6] at h5; cases h5
          · simp [Array.getElem?_eq_none h'] at h5
      have hnot : ∀ e ∈ oj.after, Region.binds md e = true → e.on ≠ i := fun e he hb heq => by
        have h1 := hall e he hb
        have h0 := (mem_ready.1 hr).1
        rw [heq] at h1
        rcases Nat.lt_or_ge i listed.size with h' | h'
        · simp [h'] at h0 h1; rw [h0] at h1; cases h1
        · simp [Array.getElem?_eq_none h'] at h1
      have h2 := wpOp_putM (R := R) hoj (hfree j oj hoj hji hjun hnot) (fun cs b => hsel i oi cs b hi) (fun cs b => hsel j oj cs b hoj) hQ h1
      have hfree' : ∀ k ok, ops[k]? = some ok → k ≠ i → (listed.setIfInBounds j true).getD k true = false →
          (∀ e ∈ ok.after, Region.binds md e = true → e.on ≠ i) → oi.apart ops ok = true := fun k ok hk hki hun hno => by
        refine hfree k ok hk hki ?_ hno
        by_cases hjk : j = k
        · subst hjk; exact hjun
        · rw [getD_set_ne true hjk] at hun; exact hun
      refine wpOp_mono (fun a' w' h3 => ⟨h3.2.1, ih (listed.setIfInBounds j true) a' w' (hcl.step hj) hfree' (ready_mono hr (Ne.symm hji)) (hg.elim (fun hg => .inl ⟨h3.1 _ (hy.later ht (ht _ _ _ hw1 (h3.2.1 (hjt hg.2)))), hg.2⟩) (fun hg => .inr fun w0 => h3.1 w0 (hg w0))) ?_⟩) h2
      rw [Array.setIfInBounds_comm _ _ hji]
      exact h3.2.2
end
section
variable {P : Program} {ops : Array Oper} {Q : Exit → Act → World → Prop} {md : Region.Mode} {T : List Nat} {R : World → World → Prop}
theorem tailT_cl {listed : Array Bool} {i : Nat} (hc : (clB md ops listed && T.all (needs md ops i ops.size ·) && !T.contains i) = true) : Cl md ops listed ∧ (∀ t ∈ T, needs md ops i ops.size t = true) ∧ T.contains i = false := by
  simp only [Bool.and_eq_true, Bool.not_eq_true', List.all_eq_true] at hc
  exact ⟨Cl.ofB hc.1.1, hc.1.2, hc.2⟩
theorem tailT_cl0 {listed : Array Bool} {i : Nat} (hc : (clB md ops listed && !T.contains i) = true) : Cl md ops listed ∧ T.contains i = false := by
  simp only [Bool.and_eq_true, Bool.not_eq_true'] at hc
  exact ⟨Cl.ofB hc.1, hc.2⟩
theorem wpT_take [hR : RelOK R] {i : Nat} {oi : Oper} {v : Value} {fuel : Nat} {listed : Array Bool} {a : Act} {w : World} (hi : ops[i]? = some oi)
    (hs : Region.noSelect ops = true) (hf : Region.free md ops listed i = true) (hr : (Region.ready md ops listed).contains i = true) (hc : (clB md ops listed && T.all (needs md ops i ops.size ·) && !T.contains i) = true)
    (hQ : ∀ c a w, Q (.panic c) (a.put oi.dst v) w → Q (.panic c) a w) (hw : Region.wanted oi (yielded ops a.tmps) = true) (hy : ∀ w1, R w w1 → (execOp a.eval oi).run P w1 = .ok (.value v) w1)
    (h : wpT P md ops Q R T fuel (listed.setIfInBounds i true) (a.put oi.dst v) w) : wpT P md ops Q R T (fuel + 1) listed a w :=
  wpT_first hR.refl hR.trans hi (Region.noSelect_spec hs) hQ (tailT_cl hc).2.2 fuel listed a w (tailT_cl hc).1 (Region.free_spec hi hf) (by simpa using hr) (.inl ⟨.inl ⟨hw, fun w1 h1 => .inl (hy w1 h1)⟩, (tailT_cl hc).2.1⟩) h
theorem wpT_pure [hR : RelOK R] {i : Nat} {oi : Oper} {v : Value} {fuel : Nat} {listed : Array Bool} {a : Act} {w : World} (hi : ops[i]? = some oi)
    (hs : Region.noSelect ops = true) (hf : Region.free md ops listed i = true) (hr : (Region.ready md ops listed).contains i = true) (hc : (clB md ops listed && !T.contains i) = true)
    (hQ : ∀ c a w, Q (.panic c) (a.put oi.dst v) w → Q (.panic c) a w) (hw : Region.wanted oi (yielded ops a.tmps) = true) (hy : ∀ w1, (execOp a.eval oi).run P w1 = .ok (.value v) w1)
    (h : wpT P md ops Q R T fuel (listed.setIfInBounds i true) (a.put oi.dst v) w) : wpT P md ops Q R T (fuel + 1) listed a w :=
  wpT_first hR.refl hR.trans hi (Region.noSelect_spec hs) hQ (tailT_cl0 hc).2 fuel listed a w (tailT_cl0 hc).1 (Region.free_spec hi hf) (by simpa using hr) (.inr fun _ => .inl ⟨hw, fun w1 _ => .inl (hy w1)⟩) h
theorem wpT_skip [hR : RelOK R] {i : Nat} {oi : Oper} {fuel : Nat} {listed : Array Bool} {a : Act} {w : World} (hi : ops[i]? = some oi)
    (hs : Region.noSelect ops = true) (hf : Region.free md ops listed i = true) (hr : (Region.ready md ops listed).contains i = true) (hc : (clB md ops listed && !T.contains i) = true)
    (hQ : ∀ c a w, Q (.panic c) (a.put oi.dst undef) w → Q (.panic c) a w) (hw : Region.wanted oi (yielded ops a.tmps) = false)
    (h : wpT P md ops Q R T fuel (listed.setIfInBounds i true) (a.put oi.dst undef) w) : wpT P md ops Q R T (fuel + 1) listed a w :=
  wpT_first hR.refl hR.trans hi (Region.noSelect_spec hs) hQ (tailT_cl0 hc).2 fuel listed a w (tailT_cl0 hc).1 (Region.free_spec hi hf) (by simpa using hr) (.inr fun _ => .inr ⟨hw, rfl⟩) h
theorem wpT_call [hR : RelOK R] {i : Nat} {oi : Oper} {v : Value} {fuel : Nat} {listed : Array Bool} {a : Act} {w : World} {f : FuncId} {args : Array Value} (hi : ops[i]? = some oi)
    (hs : Region.noSelect ops = true) (hf : Region.free md ops listed i = true) (hr : (Region.ready md ops listed).contains i = true) (hc : (clB md ops listed && T.all (needs md ops i ops.size ·) && !T.contains i) = true)
    (hQ : ∀ c a w, Q (.panic c) (a.put oi.dst v) w → Q (.panic c) a w) (hw : Region.wanted oi (yielded ops a.tmps) = true) (he : ∀ w1, (execOp a.eval oi).run P w1 = .ok (.enter f args) w1)
    (hy : ∀ w1, R w w1 → Calls P f args w1 (Ret w1 v))
    (h : wpT P md ops Q R T fuel (listed.setIfInBounds i true) (a.put oi.dst v) w) : wpT P md ops Q R T (fuel + 1) listed a w :=
  wpT_first hR.refl hR.trans hi (Region.noSelect_spec hs) hQ (tailT_cl hc).2.2 fuel listed a w (tailT_cl hc).1 (Region.free_spec hi hf) (by simpa using hr) (.inl ⟨.inl ⟨hw, fun w1 h1 => .inr ⟨f, args, he w1, (hy w1 h1).mono fun _ _ k => ⟨k.1, hR.later _ _ k.2⟩⟩⟩, (tailT_cl hc).2.1⟩) h
/-- One operation alone may come up. -/
theorem wpT_one {i : Nat} {oi : Oper} {fuel : Nat} {listed : Array Bool} {a : Act} {w : World} (hr : Region.ready md ops listed = [i]) (hi : ops[i]? = some oi)
    (h : ∀ w1, R w w1 → ∀ K : Act → World → Prop, Shut (∀ a' w', (T.contains i = false → R w1 w') → wpT P md ops Q R T fuel (listed.setIfInBounds i true) a' w' → K a' w') → if Region.wanted oi (yielded ops a.tmps) = true then Oper.wp P oi a w1 K Q else K (a.put oi.dst undef) w1) :
    wpT P md ops Q R T (fuel + 1) listed a w := fun w1 h1 => by
  refine ⟨fun h0 => (by rw [hr] at h0; cases h0), fun j hj => ?_⟩
  rw [hr, List.mem_singleton] at hj
  subst hj
  exact wpOp_step hi (fun K' hK => h w1 h1 K' (fun a' w' k1 k2 => hK a' w' ⟨k1, k2⟩))
theorem wpT_done {listed : Array Bool} {a : Act} {w : World} (hr : Region.ready md ops listed = []) (h : ∀ w1, R w w1 → Q .normal a w1) : ∀ fuel, wpT P md ops Q R T fuel listed a w
  | 0 => fun w1 h1 => ⟨hr, h w1 h1⟩
  | _ + 1 => fun w1 h1 => ⟨fun _ => h w1 h1, by rw [hr]; simp⟩
theorem wp_region_T [hR : RelOK R] (T : List Nat) {id : Nat} {a : Act} {w : World} (hm : P.follows .mixedOrders = true)
    (h : wpT P .any ops Q R T ops.size (Array.replicate ops.size false) a w.drew) : (Code.region id ops true).wp P Q a w :=
  wp_region_any hm (wpAny_of_T hR.refl _ _ _ _ h)
end
end Go.Proofs.YtdhmekpgplajmaaDoor
end
section
namespace Go.Proofs.YtdhmekpgplajmaaDoor
open Go.RowKit

theorem wpList_appendO {α : Type} {w : World} {base base2 E size : Nat} {enc : α → List Value} {v : Value} {xs ys : List α} {P : Program} {ops : Array Oper} {rest : List Oper} {o : Oper} {a : Act} {Q : Exit → Act → World → Prop} (hgd : o.guard = none) (s x : Operand) (t : TypeId)
    (ho : o.op = .call { callee := .builtin .append, args := #[s, x], argTypes := #[t, t] }) {z : Value} {bytes : Nat} (hE : ElemOK P t E z size bytes) (he : EncOK enc size)
    (hs : a.eval s = v) (hown : Own w base E size enc v xs) (a1 : Option Addr) (c1 : Nat) (hx : a.eval x = .slice a1 ys.length c1) (hown2 : Own w base2 E size enc (.slice a1 ys.length c1) ys)
    (h63 : xs.length + ys.length ≤ maxLen) (hbytes : (xs.length + ys.length) * bytes ≤ 140737488355328) (hbase : base ≤ w.heap.size)
    (h : ∀ a' cap' w', Own w' base E size enc (.slice a' (xs.length + ys.length) cap') (xs ++ ys) → w.grownBy w' v.ownBlock → wpList P ops Q rest (a.put o.dst (.slice a' (xs.length + ys.length) cap')) w') : wpList P ops Q (o :: rest) a w := by
  obtain ⟨a1', c1', hv, hle, hm, hh⟩ := hown2
  obtain ⟨rfl, _, rfl⟩ := Value.slice.inj hv
  rcases hh with ⟨rfl, rfl⟩ | ⟨g, cur, rfl, hb, hg, hsz, hcur⟩
  · obtain rfl : ys = [] := List.eq_nil_of_length_eq_zero (by omega)
    obtain ⟨i, hi, hz, hsz, hby⟩ := hE.info
    obtain ⟨a0, cap0, rfl⟩ := hown.form
    have := h a0 cap0 w (by simpa using hown) ⟨rfl, rfl, rfl, Nat.le_refl _, fun _ _ _ => rfl⟩
    exact wpList_append_own_none hgd s x t ho base E i size hE.slice hi _ xs.length (xs.flatMap enc) hs (hown.toRow he) (by simpa using hx) (by simpa using this)
  · have hown2 : Own w base2 E size enc (.slice (some ⟨g, 0, none⟩) ys.length c1) ys := ⟨_, c1, rfl, hle, hm, .inr ⟨g, cur, rfl, hb, hg, hsz, hcur⟩⟩
    exact wpList_appendN hgd s x t ho hE he hs hown ⟨g, 0, none⟩ c1 ys hx ((hown2.toRow he).cells (g := g) rfl) h63 hbytes hbase h
theorem Own.empty' {α : Type} {w : World} {b : Nat} (hb : b = w.heap.size) (base E size : Nat) (enc : α → List Value) (h : base ≤ w.heap.size) : Own (w.alloc (.cells #[] E)) base E size enc (.slice (some ⟨b, 0, none⟩) 0 0) [] := by
  subst hb; exact Own.empty w base E size enc h
theorem RetOwn.open {α : Type} {w w' : World} {E size : Nat} {enc : α → List Value} {L : List α} {e : Ending} (h : RetOwn w E size enc L e w') : ∃ (a : Option Addr) (cap : Nat), e = .returned (.slice a L.length cap) ∧ Own w' w.heap.size E size enc (.slice a L.length cap) L ∧ Below w.heap.size w w' := h
end Go.Proofs.YtdhmekpgplajmaaDoor
end
section
namespace Go.Proofs.YtdhmekpgplajmaaDoor

/-- The places of a word's bits, rising. -/
def elemsW (v : Nat) : List Nat := (List.range 64).filter fun j => v.testBit j
theorem elemsW_zero : elemsW 0 = [] := by simp [elemsW]
theorem low_step (v : Nat) (h0 : v ≠ 0) (h : v < 18446744073709551616) : elemsW v = Lib.ctz 64 v :: elemsW (v &&& (v - 1)) ∧ Lib.ctz 64 v < 64 ∧ v &&& (v - 1) < v := by
  obtain ⟨m, hm, hk⟩ := Lib.ctzFrom_spec 64 v (by omega) h
  have e : Lib.ctz 64 v = Lib.ctzFrom 64 v := by simp [Lib.ctz, h0]
  rw [e]
  generalize Lib.ctzFrom 64 v = k at *
  have hp : 0 < 2 ^ k := Nat.pow_pos (by decide)
  have h1 : v - 1 = 2 ^ k * (2 * m) + (2 ^ k - 1) := by rw [hm, Nat.mul_add]; omega
  have tv : ∀ j, v.testBit j = (decide (k ≤ j) && (2 * m + 1).testBit (j - k)) := fun j => by rw [hm, Nat.testBit_two_pow_mul]
  have tp : ∀ j, (v &&& (v - 1)).testBit j = (decide (k < j) && v.testBit j) := fun j => by
    rw [Nat.testBit_and, h1, Nat.testBit_two_pow_mul_add _ (by omega), tv]
    by_cases a : j < k
    · simp [a, show ¬ k ≤ j by omega, show ¬ k < j by omega]
    · by_cases b : j = k
      · subst b; simp
      · obtain ⟨d, rfl⟩ : ∃ d, j = k + (d + 1) := ⟨j - k - 1, by omega⟩
        rw [show k + (d + 1) - k = d + 1 by omega]
        simp [Nat.testBit_succ, show ¬ k + (d + 1) < k by omega, show k ≤ k + (d + 1) by omega, show k < k + (d + 1) by omega]
        rw [show (2 * m + 1) / 2 = m by omega]
        exact id
  refine ⟨?_, hk, ?_⟩
  · unfold elemsW
    have hr : List.range 64 = List.range k ++ (k :: (List.range (64 - (k + 1))).map (k + 1 + ·)) := by
      rw [show (64 : Nat) = (k + 1) + (64 - (k + 1)) by omega, List.range_add, List.range_succ]
      simp
    rw [hr, List.filter_append, List.filter_append, List.filter_cons, List.filter_cons]
    have f1 : (List.range k).filter (fun j => v.testBit j) = [] := List.filter_eq_nil_iff.2 fun x hx => by rw [tv]; simp [Nat.not_le.2 (List.mem_range.1 hx)]
    have f2 : (List.range k).filter (fun j => (v &&& (v - 1)).testBit j) = [] := List.filter_eq_nil_iff.2 fun x hx => by rw [tp]; simp [Nat.not_lt.2 (Nat.le_of_lt (List.mem_range.1 hx))]
    have f3 : v.testBit k = true := by rw [tv]; simp
    have f4 : (v &&& (v - 1)).testBit k = false := by rw [tp]; simp
    rw [f1, f2, f3, f4]
    simp only [List.nil_append, if_true, Bool.false_eq_true, if_false]
    congr 1
    refine List.filter_congr fun x hx => ?_
    obtain ⟨y, _, rfl⟩ := List.mem_map.1 hx
    rw [tp]; simp [show k < k + 1 + y by omega]
  · exact Nat.lt_of_le_of_lt Nat.and_le_right (by omega)

def listW (i v : Nat) : List Nat := (elemsW v).map (64 * i + ·)
/-- The bytes of a set, rising. -/
def elems (s : BSet) : List Nat := (List.range 256).filter (mem s)
def tailS (s : BSet) : Nat → Nat → List Nat
  | _, 0 => []
  | i, f + 1 => listW i (word s i) ++ tailS s (i + 1) f
theorem elems_filter (s : BSet) (i : Nat) : ((List.range 64).map (64 * i + ·)).filter (mem s) = listW i (word s i) := by
  rw [List.filter_map]
  unfold listW elemsW
  congr 1
  refine List.filter_congr fun x hx => ?_
  rw [word_testBit]; simp [List.mem_range.1 hx]
theorem elems_words (s : BSet) : elems s = tailS s 0 4 := by
  unfold elems
  rw [show List.range 256 = (List.range 64).map (64 * 0 + ·) ++ ((List.range 64).map (64 * 1 + ·) ++ ((List.range 64).map (64 * 2 + ·) ++ (List.range 64).map (64 * 3 + ·))) by decide +kernel]
  simp only [List.filter_append, elems_filter, tailS, List.append_nil]
theorem mem_elems (s : BSet) (x : Nat) : x ∈ elems s ↔ mem s x = true := by
  unfold elems
  rw [List.mem_filter, List.mem_range]
  refine ⟨fun h => h.2, fun h => ⟨?_, h⟩⟩
  apply Decidable.byContradiction
  intro hn
  rw [mem_ge s x (by omega)] at h; cases h
theorem elems_lt {s : BSet} {x : Nat} (h : x ∈ elems s) : x < 256 := List.mem_range.1 (List.mem_filter.1 h).1
theorem elems_length (s : BSet) : (elems s).length ≤ 256 := by
  have := List.length_filter_le (mem s) (List.range 256)
  simpa [elems] using this
theorem elems_sorted (s : BSet) : (elems s).Pairwise (· < ·) := List.Pairwise.filter _ List.pairwise_lt_range
theorem ofL_elems (s : BSet) : ofL (elems s) = s := set_ext fun b _ => by
  rw [mem_ofL _ _ fun x hx => elems_lt hx]
  by_cases h : mem s b = true
  · rw [h]; exact decide_eq_true ((mem_elems s b).2 h)
  · rw [Bool.not_eq_true] at h
    rw [h]; exact decide_eq_false fun hx => by rw [(mem_elems s b).1 hx] at h; cases h
theorem leastOf_elems (s : BSet) : leastOf s = match elems s with | [] => -1 | b :: _ => (b : Int) := by
  unfold leastOf elems
  generalize List.range 256 = l
  induction l with
  | nil => rfl
  | cons a l ih =>
    rw [List.find?_cons, List.filter_cons]
    cases mem s a
    · simpa using ih
    · rfl
end Go.Proofs.YtdhmekpgplajmaaDoor
end
