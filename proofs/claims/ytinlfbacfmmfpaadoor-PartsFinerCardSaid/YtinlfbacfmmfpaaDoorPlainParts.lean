/- Classes of bytes, in plain terms: the first byte of each class, in their order; each byte's class's number. No program in sight. -/
import Derived.Test.YtinlfbacfmmfpaaDoorMap
namespace Go.Proofs.YtinlfbacfmmfpaaDoor

/-- The first bytes of the classes among the bytes below n: R says whether two bytes are alike. -/
def reps (R : Nat → Nat → Bool) : Nat → List Nat
  | 0 => []
  | n + 1 => if (reps R n).any (R n) then reps R n else reps R n ++ [n]
def posR (R : Nat → Nat → Bool) (b : Nat) : List Nat → Option Nat
  | [] => none
  | c :: r => if R b c then some 0 else (posR R b r).map (· + 1)
def numR (R : Nat → Nat → Bool) (b : Nat) : Nat := (posR R b (reps R 256)).getD 0
def widR (R : Nat → Nat → Bool) : Nat := (reps R 256).length
/-- Alike, where keys are. -/
def Kern {κ : Type} [DecidableEq κ] (k : Nat → κ) (b c : Nat) : Bool := decide (k b = k c)

theorem reps_zero (R : Nat → Nat → Bool) : reps R 0 = [] := rfl
theorem reps_succ (R : Nat → Nat → Bool) (n : Nat) : reps R (n + 1) = if (reps R n).any (R n) then reps R n else reps R n ++ [n] := rfl
theorem reps_lt (R : Nat → Nat → Bool) : ∀ n, ∀ c ∈ reps R n, c < n
  | 0, c, h => by simp [reps] at h
  | n + 1, c, h => by
    unfold reps at h
    split at h
    · exact Nat.lt_succ_of_lt (reps_lt R n c h)
    · rcases List.mem_append.1 h with h | h
      · exact Nat.lt_succ_of_lt (reps_lt R n c h)
      · simp at h; omega
theorem reps_sorted (R : Nat → Nat → Bool) : ∀ (n i j : Nat) (_ : i < j) (hj : j < (reps R n).length), (reps R n)[i]'(by omega) < (reps R n)[j]
  | 0, i, j, _, hj => by simp [reps] at hj
  | n + 1, i, j, hij, hj => by
    by_cases h : (reps R n).any (R n) = true
    · have e : reps R (n + 1) = reps R n := by rw [reps_succ, if_pos h]
      simp only [e] at hj ⊢
      exact reps_sorted R n i j hij hj
    · have e : reps R (n + 1) = reps R n ++ [n] := by rw [reps_succ, if_neg h]
      simp only [e] at hj ⊢
      rw [List.length_append, List.length_singleton] at hj
      by_cases h2 : j < (reps R n).length
      · rw [List.getElem_append_left h2, List.getElem_append_left (by omega)]
        exact reps_sorted R n i j hij h2
      · obtain rfl : j = (reps R n).length := by omega
        rw [List.getElem_append_right (Nat.le_refl _), List.getElem_append_left (by omega)]
        simp
        exact reps_lt R n _ (List.getElem_mem _)
theorem reps_inj (R : Nat → Nat → Bool) (n : Nat) {i j : Nat} (hi : i < (reps R n).length) (hj : j < (reps R n).length) (h : (reps R n)[i] = (reps R n)[j]) : i = j := by
  rcases Nat.lt_trichotomy i j with h1 | h1 | h1
  · have := reps_sorted R n i j h1 hj; omega
  · exact h1
  · have := reps_sorted R n j i h1 hi; omega
theorem reps_nodup (R : Nat → Nat → Bool) (n : Nat) : (reps R n).Nodup := by
  rw [List.nodup_iff_pairwise_ne, List.pairwise_iff_getElem]
  intro i j hi hj hij
  exact Nat.ne_of_lt (reps_sorted R n i j hij hj)
theorem reps_length (R : Nat → Nat → Bool) : ∀ n, (reps R n).length ≤ n
  | 0 => by simp [reps]
  | n + 1 => by
    have := reps_length R n
    unfold reps
    split
    · omega
    · simp; omega
theorem reps_prefix (R : Nat → Nat → Bool) (n : Nat) : ∀ m, ∃ l, reps R (n + m) = reps R n ++ l
  | 0 => ⟨[], by simp⟩
  | m + 1 => by
    obtain ⟨l, hl⟩ := reps_prefix R n m
    by_cases h : (reps R (n + m)).any (R (n + m)) = true
    · exact ⟨l, by rw [← Nat.add_assoc, reps_succ, if_pos h, hl]⟩
    · exact ⟨l ++ [n + m], by rw [← Nat.add_assoc, reps_succ, if_neg h, hl, List.append_assoc]⟩
theorem reps_congr {R S : Nat → Nat → Bool} : ∀ n, (∀ b c, b < n → c < n → R b c = S b c) → reps R n = reps S n
  | 0, _ => rfl
  | n + 1, h => by
    have ih := reps_congr (R := R) (S := S) n (fun b c hb hc => h b c (by omega) (by omega))
    have e : (reps R n).any (R n) = (reps S n).any (S n) := by
      rw [← ih, Bool.eq_iff_iff]
      simp only [List.any_eq_true]
      constructor
      · rintro ⟨c, hc, hR⟩; exact ⟨c, hc, by rw [← h n c (by omega) (by have := reps_lt R n c hc; omega)]; exact hR⟩
      · rintro ⟨c, hc, hR⟩; exact ⟨c, hc, by rw [h n c (by omega) (by have := reps_lt R n c hc; omega)]; exact hR⟩
    rw [reps_succ, reps_succ, e, ih]
theorem posR_append (R : Nat → Nat → Bool) (b : Nat) : ∀ l l' : List Nat, posR R b (l ++ l') = (posR R b l).or ((posR R b l').map (· + l.length))
  | [], l' => by simp [posR]
  | c :: r, l' => by
    simp only [List.cons_append, posR, posR_append R b r l']
    split
    · simp
    · cases posR R b r <;> cases posR R b l' <;> simp [Nat.add_assoc]
theorem posR_none {R : Nat → Nat → Bool} {b : Nat} : ∀ {l : List Nat}, l.any (R b) = false → posR R b l = none
  | [], _ => rfl
  | c :: r, h => by
    simp only [List.any_cons, Bool.or_eq_false_iff] at h
    simp [posR, h.1, posR_none h.2]
theorem posR_some {R : Nat → Nat → Bool} {b : Nat} : ∀ {l : List Nat}, l.any (R b) = true → ∃ i, posR R b l = some i ∧ i < l.length ∧ ∃ c, l[i]? = some c ∧ R b c = true
  | [], h => by simp at h
  | c :: r, h => by
    simp only [posR]
    by_cases hc : R b c = true
    · exact ⟨0, by simp [hc], by simp, c, by simp, hc⟩
    · simp only [List.any_cons, hc, Bool.false_or] at h
      obtain ⟨i, h1, h2, d, h3, h4⟩ := posR_some (R := R) (b := b) (l := r) (by simpa using h)
      exact ⟨i + 1, by simp [hc, h1], by simpa using h2, d, by simpa using h3, h4⟩
/-- Every byte below n is alike one of the first ones. -/
theorem reps_any {R : Nat → Nat → Bool} (hr : ∀ b, R b b = true) {n b : Nat} (hb : b < n) : (reps R n).any (R b) = true := by
  obtain ⟨m, rfl⟩ : ∃ m, n = b + 1 + m := ⟨n - (b + 1), by omega⟩
  obtain ⟨l, hl⟩ := reps_prefix R (b + 1) m
  rw [hl, List.any_append]
  have : (reps R (b + 1)).any (R b) = true := by
    rw [reps_succ]
    split
    · assumption
    · simp [hr]
  simp [this]
/-- The number of a byte is known when it comes. -/
theorem posR_reps {R : Nat → Nat → Bool} (hr : ∀ b, R b b = true) {n b : Nat} (hb : b < n) (hn : n ≤ 256) : posR R b (reps R n) = some (numR R b) := by
  obtain ⟨m, hm⟩ : ∃ m, n + m = 256 := ⟨256 - n, by omega⟩
  obtain ⟨l, hl⟩ := reps_prefix R n m
  obtain ⟨i, hi, _⟩ := posR_some (reps_any hr hb)
  have : posR R b (reps R 256) = some i := by rw [← hm, hl, posR_append, hi]; rfl
  rw [hi, numR, this]; rfl
/-- A byte that is the first one of its class. -/
theorem numR_new {R : Nat → Nat → Bool} (hr : ∀ b, R b b = true) {n : Nat} (hn : n < 256) (h : (reps R n).any (R n) = false) : reps R (n + 1) = reps R n ++ [n] ∧ numR R n = (reps R n).length := by
  have e : reps R (n + 1) = reps R n ++ [n] := by rw [reps_succ, h]; rfl
  refine ⟨e, ?_⟩
  have h1 := posR_reps hr (Nat.lt_succ_self n) hn
  rw [e, posR_append, posR_none h] at h1
  simpa [posR, hr] using h1.symm
theorem numR_old {R : Nat → Nat → Bool} (hr : ∀ b, R b b = true) {n : Nat} (hn : n < 256) (h : (reps R n).any (R n) = true) : reps R (n + 1) = reps R n ∧ posR R n (reps R n) = some (numR R n) := by
  have e : reps R (n + 1) = reps R n := by rw [reps_succ, h]; rfl
  refine ⟨e, ?_⟩
  rw [← e]; exact posR_reps hr (Nat.lt_succ_self n) hn
theorem numR_lt {R : Nat → Nat → Bool} (hr : ∀ b, R b b = true) {b : Nat} (hb : b < 256) : numR R b < widR R := by
  obtain ⟨i, hi, hlt, _⟩ := posR_some (reps_any hr hb)
  unfold numR widR; rw [hi]; exact hlt
theorem widR_le (R : Nat → Nat → Bool) : widR R ≤ 256 := reps_length R 256
theorem numR_lt256 {R : Nat → Nat → Bool} (hr : ∀ b, R b b = true) {b : Nat} (hb : b < 256) : numR R b < 256 := Nat.lt_of_lt_of_le (numR_lt hr hb) (widR_le R)
/-- An equivalence. -/
structure Equi (R : Nat → Nat → Bool) : Prop where
  refl : ∀ b, R b b = true
  symm : ∀ {b c}, R b c = true → R c b = true
  trans : ∀ {b c d}, R b c = true → R c d = true → R b d = true
theorem posR_congr {R : Nat → Nat → Bool} (E : Equi R) {b c : Nat} (h : R b c = true) : ∀ l, posR R b l = posR R c l
  | [] => rfl
  | d :: r => by
    simp only [posR, posR_congr E h r]
    have : R b d = R c d := by
      rw [Bool.eq_iff_iff]; exact ⟨fun k => E.trans (E.symm h) k, fun k => E.trans h k⟩
    rw [this]
/-- Two bytes have one number just if they are alike. -/
theorem numR_eq {R : Nat → Nat → Bool} (E : Equi R) {b c : Nat} (hb : b < 256) (hc : c < 256) : (numR R b = numR R c) ↔ R b c = true := by
  constructor
  · intro h
    obtain ⟨i, hi, _, d, hd, hbd⟩ := posR_some (reps_any E.refl hb)
    obtain ⟨j, hj, _, e, he, hce⟩ := posR_some (reps_any E.refl hc)
    have : i = j := by unfold numR at h; rw [hi, hj] at h; exact h
    subst this
    rw [hd] at he
    obtain rfl := Option.some.inj he
    exact E.trans hbd (E.symm hce)
  · intro h; unfold numR; rw [posR_congr E h]
theorem numR_congr {R S : Nat → Nat → Bool} (h : ∀ b c, b < 256 → c < 256 → R b c = S b c) {b : Nat} (hb : b < 256) : numR R b = numR S b := by
  unfold numR
  rw [reps_congr (R := R) (S := S) 256 h]
  have : ∀ l : List Nat, (∀ c ∈ l, c < 256) → posR R b l = posR S b l := by
    intro l
    induction l with
    | nil => intro _; rfl
    | cons c r ih => intro hl; simp only [posR, h b c hb (hl c (by simp)), ih (fun d hd => hl d (by simp [hd]))]
  rw [this _ (reps_lt S 256)]
theorem widR_congr {R S : Nat → Nat → Bool} (h : ∀ b c, b < 256 → c < 256 → R b c = S b c) : widR R = widR S := by
  unfold widR; rw [reps_congr 256 h]
theorem kern_equi {κ : Type} [DecidableEq κ] (k : Nat → κ) : Equi (Kern k) :=
  ⟨fun b => by simp [Kern], fun h => by simp only [Kern, decide_eq_true_eq] at *; exact h.symm, fun h1 h2 => by simp only [Kern, decide_eq_true_eq] at *; exact h1.trans h2⟩

/-! ### The map that numbers keys -/
def kvsOf {κ : Type} (k : Nat → κ) (l : List Nat) : List (κ × Value) := (l.zipIdx).map fun p => (k p.1, .int .u8 (p.2 : Nat))
theorem kvsOf_snoc {κ : Type} (k : Nat → κ) (l : List Nat) (n : Nat) : kvsOf k (l ++ [n]) = kvsOf k l ++ [(k n, .int .u8 (l.length : Nat))] := by
  unfold kvsOf; rw [List.zipIdx_append]; simp
theorem kvsOf_length {κ : Type} (k : Nat → κ) (l : List Nat) : (kvsOf k l).length = l.length := by simp [kvsOf]
theorem look_kvsOf {κ : Type} [DecidableEq κ] (k : Nat → κ) (b : Nat) (l : List Nat) : look (k b) (kvsOf k l) = (posR (Kern k) b l).map fun i => Value.int .u8 (i : Nat) := by
  have gen : ∀ (l : List Nat) (s : Nat), look (k b) ((l.zipIdx s).map fun p => (k p.1, Value.int .u8 (p.2 : Nat))) = (posR (Kern k) b l).map fun i => Value.int .u8 ((i + s : Nat) : Int) := by
    intro l
    induction l with
    | nil => intro s; rfl
    | cons c r ih =>
      intro s
      simp only [List.zipIdx_cons, List.map_cons, look, posR, Kern, decide_eq_true_eq]
      by_cases h : k b = k c
      · simp [h]
      · simp only [h, if_false]
        rw [ih (s + 1)]
        cases posR (Kern k) b r <;> simp <;> omega
  exact gen l 0
/-- 256 bytes. -/
def arr8 (f : Nat → Nat) : Array Value := (((List.range 256).map fun i => ((f i : Nat) : Int)).map (Value.int .u8)).toArray
theorem arr8_size (f : Nat → Nat) : (arr8 f).size = 256 := by simp [arr8]
theorem arr8_sizes (f g : Nat → Nat) : (arr8 f).size = (arr8 g).size := by rw [arr8_size, arr8_size]
theorem arr8_get (f : Nat → Nat) (i : Nat) (h : i < 256) : (arr8 f)[i]? = some (.int .u8 (f i : Nat)) := by simp [arr8, h]
theorem arr8_congr {f g : Nat → Nat} (h : ∀ i, i < 256 → f i = g i) : arr8 f = arr8 g := by
  have e : ((List.range 256).map fun i => ((f i : Nat) : Int)) = ((List.range 256).map fun i => ((g i : Nat) : Int)) := List.map_congr_left fun i hi => by rw [h i (by simpa using hi)]
  unfold arr8; rw [e]
theorem arr8_set (f : Nat → Nat) (k v : Nat) : (arr8 f).setIfInBounds k (.int .u8 (v : Nat)) = arr8 (fun i => if i = k then v else f i) := by
  apply Array.ext_getElem?
  intro i
  rw [Array.getElem?_setIfInBounds]
  by_cases hi : i < 256
  · rw [arr8_get _ i hi, arr8_get _ i hi, arr8_size]
    by_cases hk : k = i
    · subst hk; simp [hi]
    · have : ¬ i = k := fun e => hk e.symm
      simp [hk, this]
  · have h1 : (arr8 fun i => if i = k then v else f i)[i]? = none := by rw [Array.getElem?_eq_none]; rw [arr8_size]; omega
    have h2 : (arr8 f)[i]? = none := by rw [Array.getElem?_eq_none]; rw [arr8_size]; omega
    rw [h1, h2, arr8_size]
    by_cases hk : k = i
    · simp [hk, hi]
    · simp [hk]
theorem arr8_all (f : Nat → Nat) : (arr8 f).all (·.oneCell') = true := by
  rw [Array.all_eq_true_iff_forall_mem]
  intro v hv
  simp only [arr8, List.mem_toArray, List.mem_map] at hv
  obtain ⟨x, _, rfl⟩ := hv
  rfl
theorem number_step {R : Nat → Nat → Bool} {n v : Nat} (h : numR R n = v) : ∀ i, i < 256 → (if i = n then v else if i < n then numR R i else 0) = if i < n + 1 then numR R i else 0 := by
  intro i _
  by_cases h1 : i = n
  · subst h1; simp [h]
  · by_cases h2 : i < n
    · simp [h1, h2, show i < n + 1 by omega]
    · simp [h1, h2, show ¬ i < n + 1 by omega]
theorem widR_def (R : Nat → Nat → Bool) : widR R = (reps R 256).length := rfl
theorem kvsOf_zero {κ : Type} (k : Nat → κ) (R : Nat → Nat → Bool) : kvsOf k (reps R 0) = [] := rfl
/-- The same at each byte. -/
def sameArr (f g : Nat → Nat) : Bool := (List.range 256).all fun b => f b == g b
theorem sameArr_iff (f g : Nat → Nat) : sameArr f g = true ↔ ∀ b, b < 256 → f b = g b := by
  unfold sameArr; simp
theorem run_eq256 {P : Program} {t e : TypeId} (hu : P.underlying t = some (.array 256 e)) (he : P.underlying e = some (.int .u8)) (hi : (P.info? e).map (fun i => i.size) = some 1) (f g : Nat → Nat) (w : World) :
    (Op.equalIn 10000 t (.agg (arr8 f)) (.agg (arr8 g))).run P w = .ok (sameArr f g) w := by
  cases hq : P.info? e with
  | none => simp [hq] at hi
  | some i =>
    have hs : i.size = 1 := by simpa [hq] using hi
    have hc : P.cellsOf e = 1 := by simp [Program.cellsOf, hq, hs]
    have := run_equalIn_ints (P := P) 9998 hu he hq hc ((List.range 256).map fun i => ((f i : Nat) : Int)) ((List.range 256).map fun i => ((g i : Nat) : Int)) (by simp) (by simp) w
    refine this.trans ?_
    congr 1
    rw [Bool.eq_iff_iff, sameArr_iff]
    simp only [decide_eq_true_eq]
    constructor
    · intro h b hb
      have := List.map_inj_left.1 h b (by simpa using hb)
      omega
    · intro h
      exact List.map_congr_left fun b hb => by rw [h b (by simpa using hb)]
/-! ### The classes as sets -/
theorem reps_least {R : Nat → Nat → Bool} (E : Equi R) : ∀ (n c d : Nat), c ∈ reps R n → d < c → R c d = false
  | 0, c, d, h, _ => by simp [reps] at h
  | n + 1, c, d, h, hd => by
    rw [reps_succ] at h
    split at h
    · exact reps_least E n c d h hd
    · rename_i hn
      rcases List.mem_append.1 h with h | h
      · exact reps_least E n c d h hd
      · obtain rfl : c = n := by simpa using h
        cases hR : R c d with
        | false => rfl
        | true =>
          refine absurd ?_ hn
          obtain ⟨r, hr, hdr⟩ := List.any_eq_true.1 (reps_any E.refl hd)
          exact List.any_eq_true.2 ⟨r, hr, E.trans hR hdr⟩
def cls (R : Nat → Nat → Bool) (n c : Nat) : BSet := ofP fun d => decide (d < n) && R c d
theorem mem_cls (R : Nat → Nat → Bool) (n c d : Nat) : mem (cls R n c) d = (decide (d < 256) && (decide (d < n) && R c d)) := mem_ofP _ _
theorem least_cls {R : Nat → Nat → Bool} (E : Equi R) {n c : Nat} (hn : n ≤ 256) (hc : c ∈ reps R n) : leastOf (cls R n c) = c := by
  have hlt := reps_lt R n c hc
  refine leastOf_found _ c (by omega) ?_ fun d hd => ?_
  · rw [mem_cls]; simp [hlt, E.refl]; omega
  · rw [mem_cls, reps_least E n c d hc hd]; simp
theorem posR_get {R : Nat → Nat → Bool} {b : Nat} : ∀ {l : List Nat} {p : Nat} (hp : p < l.length), R b l[p] = true → (∀ i (h : i < p), R b (l[i]'(by omega)) = false) → posR R b l = some p
  | [], p, hp, _, _ => by simp at hp
  | c :: r, 0, _, h, _ => by simp at h; simp [posR, h]
  | c :: r, p + 1, hp, h, hno => by
    have h0 := hno 0 (by omega)
    simp only [List.getElem_cons_zero] at h0
    have ih := posR_get (R := R) (b := b) (l := r) (p := p) (by simpa using hp) (by simpa using h) (fun i hi => by have := hno (i + 1) (by omega); simpa using this)
    simp [posR, h0, ih]
/-- A byte of a class that there is. -/
theorem cls_old {R : Nat → Nat → Bool} (E : Equi R) {n p : Nat} (hn : n < 256) (hp : p < (reps R n).length) (h : R (reps R n)[p] n = true) :
    reps R (n + 1) = reps R n ∧ ((reps R n).map (cls R n)).set p (withB (cls R n (reps R n)[p]) n) = (reps R n).map (cls R (n + 1)) := by
  have hany : (reps R n).any (R n) = true := List.any_eq_true.2 ⟨_, List.getElem_mem hp, E.symm h⟩
  refine ⟨by rw [reps_succ, if_pos hany], ?_⟩
  apply List.ext_getElem
  · simp
  · intro i h1 h2
    simp only [List.length_set, List.length_map] at h1
    rw [List.getElem_set]
    split
    · rename_i hpi
      subst hpi
      simp only [List.getElem_map]
      refine set_ext fun d hd => ?_
      rw [mem_withB _ _ _ hn, mem_cls, mem_cls]
      by_cases h3 : n = d
      · subst h3; simp [hd, h]
      · by_cases h4 : d < n
        · simp [h3, h4, show d < n + 1 by omega]
        · simp [h3, h4, show ¬ d < n + 1 by omega]
    · rename_i hpi
      simp only [List.getElem_map]
      refine set_ext fun d hd => ?_
      rw [mem_cls, mem_cls]
      have hne : R (reps R n)[i] n = false := by
        cases hR : R (reps R n)[i] n with
        | false => rfl
        | true =>
          exfalso
          have h5 : R (reps R n)[i] (reps R n)[p] = true := E.trans hR (E.symm h)
          have hl1 := reps_least E n (reps R n)[i] (reps R n)[p] (List.getElem_mem _)
          have hl2 := reps_least E n (reps R n)[p] (reps R n)[i] (List.getElem_mem _)
          rcases Nat.lt_trichotomy (reps R n)[i] (reps R n)[p] with hlt | heq | hgt
          · have := hl2 hlt; rw [E.symm h5] at this; cases this
          · exact hpi (reps_inj R n hp h1 heq.symm)
          · have := hl1 hgt; rw [h5] at this; cases this
      by_cases h3 : d = n
      · subst h3; simp [hne]
      · have : decide (d < n + 1) = decide (d < n) := by rw [decide_eq_decide]; omega
        rw [this]
/-- The first byte of a class. -/
theorem cls_new {R : Nat → Nat → Bool} (E : Equi R) {n : Nat} (hn : n < 256) (h : ∀ i (hi : i < (reps R n).length), R (reps R n)[i] n = false) :
    reps R (n + 1) = reps R n ++ [n] ∧ (reps R n).map (cls R n) ++ [ofP fun b => decide (n ≤ b) && decide (b ≤ n)] = (reps R (n + 1)).map (cls R (n + 1)) := by
  have hany : (reps R n).any (R n) = false := by
    rw [List.any_eq_false]
    intro c hc
    obtain ⟨i, hi, rfl⟩ := List.mem_iff_getElem.1 hc
    intro hR
    have := h i hi
    rw [E.symm hR] at this; cases this
  have e : reps R (n + 1) = reps R n ++ [n] := by rw [reps_succ, hany]; rfl
  refine ⟨e, ?_⟩
  rw [e, List.map_append]
  congr 1
  · refine List.map_congr_left fun c hc => ?_
    obtain ⟨i, hi, rfl⟩ := List.mem_iff_getElem.1 hc
    refine set_ext fun d hd => ?_
    rw [mem_cls, mem_cls]
    by_cases h3 : d = n
    · subst h3; simp [h i hi]
    · have : decide (d < n + 1) = decide (d < n) := by rw [decide_eq_decide]; omega
      rw [this]
  · simp only [List.map_cons, List.map_nil]
    congr 1
    refine set_ext fun d hd => ?_
    rw [mem_cls, mem_ofP]
    by_cases h3 : d = n
    · subst h3; simp [E.refl]
    · by_cases h4 : d < n
      · have hm : n ∈ reps R (n + 1) := by rw [e]; simp
        rw [reps_least E (n + 1) n d hm h4]
        simp [show ¬ n ≤ d by omega]
      · simp [show ¬ d < n + 1 by omega, show ¬ d ≤ n by omega]
/-- The number of the last set that a byte is in; 0: it is in none. -/
def numF (L : List BSet) (c : Nat) : Nat := (List.range L.length).foldl (fun acc i => if mem (L.getD i 0) c then i else acc) 0
theorem numF_snoc (L : List BSet) (s : BSet) (c : Nat) : numF (L ++ [s]) c = if mem s c then L.length else numF L c := by
  unfold numF
  rw [List.length_append, List.length_singleton, List.range_succ, List.foldl_append]
  simp only [List.foldl_cons, List.foldl_nil]
  have e1 : (L ++ [s]).getD L.length 0 = s := by simp [List.getD]
  rw [e1]
  have : ∀ (l : List Nat) (z : Nat), (∀ i ∈ l, i < L.length) → l.foldl (fun acc i => if mem ((L ++ [s]).getD i 0) c then i else acc) z = l.foldl (fun acc i => if mem (L.getD i 0) c then i else acc) z := by
    intro l
    induction l with
    | nil => intro z _; rfl
    | cons i l ih =>
      intro z h
      have e2 : (L ++ [s]).getD i 0 = L.getD i 0 := by simp [List.getD, List.getElem?_append_left (h i (by simp))]
      simp only [List.foldl_cons, e2]
      exact ih _ (fun j hj => h j (by simp [hj]))
  rw [this _ _ (fun i hi => by simpa using hi)]
attribute [irreducible] reps
theorem numF_cls {R : Nat → Nat → Bool} (E : Equi R) {c : Nat} (hc : c < 256) : ∀ m, m ≤ (reps R 256).length →
    numF (((reps R 256).take m).map (cls R 256)) c = if numR R c < m then numR R c else 0
  | 0, _ => by simp [numF]
  | m + 1, hm => by
    rw [List.take_succ_eq_append_getElem hm, List.map_append, List.map_cons, List.map_nil, numF_snoc, numF_cls E hc m (by omega), List.length_map, List.length_take, Nat.min_eq_left (by omega)]
    have hmem : mem (cls R 256 (reps R 256)[m]) c = R (reps R 256)[m] c := by rw [mem_cls]; simp [hc]
    have hr := reps_lt R 256 _ (List.getElem_mem hm)
    have hnum : numR R (reps R 256)[m] = m := by
      have := posR_get (R := R) (b := (reps R 256)[m]) (l := reps R 256) (p := m) hm (E.refl _) (fun i hi => by
        have h1 := reps_least E 256 (reps R 256)[m] (reps R 256)[i] (List.getElem_mem _)
        have h2 := reps_sorted R 256 i m hi hm
        exact h1 h2)
      unfold numR; rw [this]; rfl
    rw [hmem]
    by_cases h : R (reps R 256)[m] c = true
    · have := (numR_eq E hr hc).2 h
      rw [if_pos h, ← this, hnum, if_pos (Nat.lt_succ_self m)]
    · have : numR R c ≠ m := fun e => h ((numR_eq E hr hc).1 (by rw [hnum, e]))
      rw [if_neg h]
      by_cases h2 : numR R c < m
      · rw [if_pos h2, if_pos (by omega)]
      · rw [if_neg h2, if_neg (by omega)]
attribute [irreducible] arr8 numR widR posR kvsOf sameArr
end Go.Proofs.YtinlfbacfmmfpaaDoor
