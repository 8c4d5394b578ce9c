/- How many bits are in a word: the shifts and masks of the library's count. Plain. -/
import Derived.Test.YtinlfbacfmmfpaaDoorBits
namespace Go.Proofs.YtinlfbacfmmfpaaDoor

/-- A byte, again and again. -/
def rep8 (c : Nat) : Nat → Nat
  | 0 => 0
  | n + 1 => c + 256 * rep8 c n
/-- A function at each byte. -/
def map8 (f : Nat → Nat) : Nat → Nat → Nat
  | 0, _ => 0
  | n + 1, x => f (x % 256) + 256 * map8 f n (x / 256)
theorem and_step (x y : Nat) : x &&& y = (x % 256 &&& y % 256) + 256 * (x / 256 &&& y / 256) := by
  have h1 := Nat.and_mod_two_pow (a := x) (b := y) (n := 8)
  have h2 := Nat.and_div_two_pow (a := x) (b := y) (n := 8)
  have e : (2 : Nat) ^ 8 = 256 := rfl
  rw [e] at h1 h2
  rw [← h1, ← h2]
  omega
theorem and_rep (c : Nat) (hc : c < 256) (n x : Nat) : x &&& rep8 c (n + 1) = (x % 256 &&& c) + 256 * (x / 256 &&& rep8 c n) := by
  rw [and_step]
  simp only [rep8]
  rw [show (c + 256 * rep8 c n) % 256 = c by omega, show (c + 256 * rep8 c n) / 256 = rep8 c n by omega]
def f1 (b : Nat) : Nat := (b / 2 &&& 85) + (b &&& 85)
def f2 (b : Nat) : Nat := (b / 4 &&& 51) + (b &&& 51)
def pop8 (b : Nat) : Nat := (f2 (f1 b) / 16 + f2 (f1 b)) % 16
theorem k1 : ∀ a, a < 256 → ∀ e, e < 2 → (a / 2 + 128 * e) &&& 85 = a / 2 &&& 85 := by decide +kernel
theorem k2 : ∀ a, a < 256 → ∀ e, e < 4 → (a / 4 + 64 * e) &&& 51 = a / 4 &&& 51 := by decide +kernel
theorem b1 : ∀ b, b < 256 → f1 b < 256 := by decide +kernel
theorem b2 : ∀ b, b < 256 → f2 (f1 b) ≤ 68 ∧ f2 (f1 b) % 16 ≤ 4 := by decide +kernel
theorem b3 : ∀ b, b < 256 → pop8 b ≤ 8 ∧ pop8 b = ((List.range 8).filter fun j => b.testBit j).length := by decide +kernel
theorem step1 (n : Nat) : ∀ x, ((x / 2) &&& rep8 85 n) + (x &&& rep8 85 n) = map8 f1 n x := by
  induction n with
  | zero => intro x; simp [rep8, map8]
  | succ n ih =>
    intro x
    rw [and_rep 85 (by decide), and_rep 85 (by decide)]
    have e1 : x / 2 % 256 = x % 256 / 2 + 128 * (x / 256 % 2) := by omega
    have e2 : x / 2 / 256 = x / 256 / 2 := by omega
    rw [e1, e2, k1 _ (Nat.mod_lt _ (by decide)) _ (Nat.mod_lt _ (by decide))]
    have := ih (x / 256)
    simp only [map8, f1]
    omega
theorem step2 (n : Nat) : ∀ x, ((x / 4) &&& rep8 51 n) + (x &&& rep8 51 n) = map8 f2 n x := by
  induction n with
  | zero => intro x; simp [rep8, map8]
  | succ n ih =>
    intro x
    rw [and_rep 51 (by decide), and_rep 51 (by decide)]
    have e1 : x / 4 % 256 = x % 256 / 4 + 64 * (x / 256 % 4) := by omega
    have e2 : x / 4 / 256 = x / 256 / 4 := by omega
    rw [e1, e2, k2 _ (Nat.mod_lt _ (by decide)) _ (Nat.mod_lt _ (by decide))]
    have := ih (x / 256)
    simp only [map8, f2]
    omega
theorem map8_map8 (f g : Nat → Nat) (hg : ∀ b, b < 256 → g b < 256) (n : Nat) : ∀ x, map8 f n (map8 g n x) = map8 (fun b => f (g b)) n x := by
  induction n with
  | zero => intro x; rfl
  | succ n ih =>
    intro x
    have h := hg (x % 256) (Nat.mod_lt _ (by decide))
    simp only [map8]
    rw [show (g (x % 256) + 256 * map8 g n (x / 256)) % 256 = g (x % 256) by omega, show (g (x % 256) + 256 * map8 g n (x / 256)) / 256 = map8 g n (x / 256) by omega, ih]
theorem and15 (a : Nat) : a &&& 15 = a % 16 := Nat.and_two_pow_sub_one_eq_mod a 4
theorem map8_low (h : Nat → Nat) (hh : ∀ b, b < 256 → h b ≤ 68 ∧ h b % 16 ≤ 4) (n : Nat) (x : Nat) : map8 h n x % 16 ≤ 4 := by
  cases n with
  | zero => simp [map8]
  | succ n => have := hh (x % 256) (Nat.mod_lt _ (by decide)); simp only [map8]; omega
theorem step3 (h : Nat → Nat) (hh : ∀ b, b < 256 → h b ≤ 68 ∧ h b % 16 ≤ 4) (n : Nat) : ∀ x, (map8 h n x / 16 + map8 h n x) &&& rep8 15 n = map8 (fun b => (h b / 16 + h b) % 16) n x := by
  induction n with
  | zero => intro x; simp [rep8, map8]
  | succ n ih =>
    intro x
    have h0 := hh (x % 256) (Nat.mod_lt _ (by decide))
    have hl := map8_low h hh n (x / 256)
    have hi := ih (x / 256)
    rw [and_rep 15 (by decide)]
    simp only [map8]
    generalize h (x % 256) = a at *
    generalize map8 h n (x / 256) = r at *
    rw [and15]
    rw [show ((a + 256 * r) / 16 + (a + 256 * r)) / 256 = r / 16 + r by omega, hi]
    omega
theorem count_bytes (n : Nat) : ∀ x, ((List.range (8 * n)).filter fun j => x.testBit j).length = (match n with | 0 => 0 | m + 1 => ((List.range 8).filter fun j => (x % 256).testBit j).length + ((List.range (8 * m)).filter fun j => (x / 256).testBit j).length) := by
  intro x
  cases n with
  | zero => rfl
  | succ m =>
    simp only
    rw [show 8 * (m + 1) = 8 + 8 * m by omega, List.range_add, List.filter_append, List.length_append, List.filter_map, List.length_map]
    congr 1
    · refine congrArg List.length (List.filter_congr fun j hj => ?_)
      have := List.mem_range.1 hj
      rw [show (256 : Nat) = 2 ^ 8 from rfl, Nat.testBit_mod_two_pow]; simp [this]
    · refine congrArg List.length (List.filter_congr fun j hj => ?_)
      simp only [Function.comp]
      rw [show (256 : Nat) = 2 ^ 8 from rfl, Nat.testBit_div_two_pow, Nat.add_comm]
theorem pop_bytes (x : Nat) : (elemsW x).length = pop8 (x % 256) + (pop8 (x / 256 % 256) + (pop8 (x / 256 / 256 % 256) + (pop8 (x / 256 / 256 / 256 % 256) + (pop8 (x / 256 / 256 / 256 / 256 % 256) + (pop8 (x / 256 / 256 / 256 / 256 / 256 % 256) + (pop8 (x / 256 / 256 / 256 / 256 / 256 / 256 % 256) + pop8 (x / 256 / 256 / 256 / 256 / 256 / 256 / 256 % 256))))))) := by
  have hb := fun y => (b3 (y % 256) (Nat.mod_lt y (by decide))).2
  unfold elemsW
  rw [show List.range 64 = List.range (8 * 8) from rfl, count_bytes 8]; simp only
  rw [count_bytes 7]; simp only
  rw [count_bytes 6]; simp only
  rw [count_bytes 5]; simp only
  rw [count_bytes 4]; simp only
  rw [count_bytes 3]; simp only
  rw [count_bytes 2]; simp only
  rw [count_bytes 1 (x / 256 / 256 / 256 / 256 / 256 / 256 / 256)]; simp only
  simp only [hb]
  simp
/-- The library's sum. -/
def pop1 (x : Nat) : Nat := (x / 2 &&& 6148914691236517205) + (x &&& 6148914691236517205)
def pop2 (x : Nat) : Nat := (x / 4 &&& 3689348814741910323) + (x &&& 3689348814741910323)
def pop3 (x : Nat) : Nat := (x / 16 + x) &&& 1085102592571150095
theorem pop3_eq (x : Nat) : pop3 (pop2 (pop1 x)) = map8 pop8 8 x := by
  unfold pop1 pop2 pop3
  rw [show 6148914691236517205 = rep8 85 8 from rfl, show 3689348814741910323 = rep8 51 8 from rfl, show 1085102592571150095 = rep8 15 8 from rfl, step1, step2, map8_map8 f2 f1 b1, step3 _ b2]
  rfl
theorem div16 (a b c T2 T3 x y : Nat) (ha : a ≤ 8) (hb : b ≤ 8) (hc : c ≤ 8) (hx : x = a + 256 * (b + 256 * T2)) (hy : y = b + 256 * (c + 256 * T3)) : (x + y) / 65536 = T2 + T3 := by omega
theorem div32 (l0 l1 l2 l3 t0 t1 t2 t3 : Nat) (h0 : l0 ≤ 134744072) (h1 : l1 ≤ 134744072) (h2 : l2 ≤ 134744072) (h3 : l3 ≤ 134744072) :
    ((l0 + 4294967296 * t0) + (l1 + 4294967296 * t1) + ((l2 + 4294967296 * t2) + (l3 + 4294967296 * t3))) / 4294967296 = t0 + t1 + (t2 + t3) := by omega
theorem low4 (a b c d T : Nat) (ha : a ≤ 8) (hb : b ≤ 8) (hc : c ≤ 8) (hd : d ≤ 8) : ∃ l, a + 256 * (b + 256 * (c + 256 * (d + 256 * T))) = l + 4294967296 * T ∧ l ≤ 134744072 :=
  ⟨a + 256 * b + 65536 * c + 16777216 * d, by omega, by omega⟩
theorem mod_sum (C U : Nat) (h : C ≤ 64) : (C + 256 * U) % 128 = C := by omega
theorem sum8 (c0 c1 c2 c3 c4 c5 c6 c7 c : Nat) (g0 : c0 ≤ 8) (g1 : c1 ≤ 8) (g2 : c2 ≤ 8) (g3 : c3 ≤ 8) (g4 : c4 ≤ 8) (g5 : c5 ≤ 8) (g6 : c6 ≤ 8) (g7 : c7 ≤ 8)
    (hc : c = c0 + 256 * (c1 + 256 * (c2 + 256 * (c3 + 256 * (c4 + 256 * (c5 + 256 * (c6 + 256 * (c7 + 256 * 0)))))))) :
    c ≤ 578721382704613384 ∧ ((c + c / 256) + (c + c / 256) / 65536 + ((c + c / 256) + (c + c / 256) / 65536) / 4294967296) % 128 = c0 + (c1 + (c2 + (c3 + (c4 + (c5 + (c6 + c7)))))) := by
  have z : (0 : Nat) = 0 + 256 * (0 + 256 * (0 + 256 * (0 + 256 * 0))) := rfl
  obtain ⟨t7, h7⟩ : ∃ t, t = c7 + 256 * 0 := ⟨_, rfl⟩
  rw [← h7] at hc
  obtain ⟨t6, h6⟩ : ∃ t, t = c6 + 256 * t7 := ⟨_, rfl⟩
  rw [← h6] at hc
  obtain ⟨t5, h5⟩ : ∃ t, t = c5 + 256 * t6 := ⟨_, rfl⟩
  rw [← h5] at hc
  obtain ⟨t4, h4⟩ : ∃ t, t = c4 + 256 * t5 := ⟨_, rfl⟩
  rw [← h4] at hc
  obtain ⟨t3, h3⟩ : ∃ t, t = c3 + 256 * t4 := ⟨_, rfl⟩
  rw [← h3] at hc
  obtain ⟨t2, h2⟩ : ∃ t, t = c2 + 256 * t3 := ⟨_, rfl⟩
  rw [← h2] at hc
  obtain ⟨t1, h1⟩ : ∃ t, t = c1 + 256 * t2 := ⟨_, rfl⟩
  rw [← h1] at hc
  have k7 : t7 ≤ 8 := by omega
  have k6 : t6 ≤ 2056 := by omega
  have k5 : t5 ≤ 526344 := by omega
  have k4 : t4 ≤ 134744072 := by omega
  have k3 : t3 ≤ 34494482440 := by omega
  have k2 : t2 ≤ 8830587504648 := by omega
  have k1 : t1 ≤ 2260630401189896 := by omega
  have k0 : c ≤ 578721382704613384 := by omega
  have e1 : c / 256 = t1 := by omega
  have e2 : (c + t1) / 65536 = t2 + t3 := div16 c0 c1 c2 t2 t3 c t1 g0 g1 g2 (by rw [hc, h1]) (by rw [h1, h2])
  obtain ⟨l0, a0, b0⟩ := low4 c0 c1 c2 c3 t4 g0 g1 g2 g3
  obtain ⟨l1, a1, b1⟩ := low4 c1 c2 c3 c4 t5 g1 g2 g3 g4
  obtain ⟨l2, a2, b2⟩ := low4 c2 c3 c4 c5 t6 g2 g3 g4 g5
  obtain ⟨l3, a3, b3⟩ := low4 c3 c4 c5 c6 t7 g3 g4 g5 g6
  rw [← h3, ← h2, ← h1, ← hc] at a0
  rw [← h4, ← h3, ← h2, ← h1] at a1
  rw [← h5, ← h4, ← h3, ← h2] at a2
  rw [← h6, ← h5, ← h4, ← h3] at a3
  have e3 : (c + t1 + (t2 + t3)) / 4294967296 = t4 + t5 + (t6 + t7) := by
    rw [a0, a1, a2, a3]; exact div32 l0 l1 l2 l3 t4 t5 t6 t7 b0 b1 b2 b3
  refine ⟨k0, ?_⟩
  rw [e1, e2, e3]
  clear a0 a1 a2 a3 b0 b1 b2 b3 e1 e2 e3 k0 k1 k2 k3 k4 k5 k6 k7 z
  have : c + t1 + (t2 + t3) + (t4 + t5 + (t6 + t7)) = (c0 + (c1 + (c2 + (c3 + (c4 + (c5 + (c6 + c7))))))) + 256 * (t1 + t2 + t3 + t4 + t5 + t6 + t7) := by omega
  rw [this]
  exact mod_sum _ _ (by omega)
theorem pop3_sum (x : Nat) : pop3 (pop2 (pop1 x)) ≤ 578721382704613384 ∧ ((pop3 (pop2 (pop1 x)) + pop3 (pop2 (pop1 x)) / 256) + (pop3 (pop2 (pop1 x)) + pop3 (pop2 (pop1 x)) / 256) / 65536 + ((pop3 (pop2 (pop1 x)) + pop3 (pop2 (pop1 x)) / 256) + (pop3 (pop2 (pop1 x)) + pop3 (pop2 (pop1 x)) / 256) / 65536) / 4294967296) % 128 = (elemsW x).length := by
  rw [pop_bytes]
  have hb := fun y => (b3 (y % 256) (Nat.mod_lt y (by decide))).1
  refine sum8 _ _ _ _ _ _ _ _ _ (hb _) (hb _) (hb _) (hb _) (hb _) (hb _) (hb _) (hb _) ?_
  rw [pop3_eq]
  simp only [map8]
end Go.Proofs.YtinlfbacfmmfpaaDoor
