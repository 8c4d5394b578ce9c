/- Joined by tools/merge.py: Pop, Open, Words, Sets, Number, NumberP, Parts. -/
import Derived.Test.YtdhmekpgplajmaaDoorJ3
import Derived.ProofKit
import Derived.OpenShut
import Derived.ShutString
import Derived.ChangeOld
import Derived.Below
import Derived.Deep.Slices
import Derived.Test.YtdhmekpgplajmaaDoorProg
import Derived.Test.YtdhmekpgplajmaaDoorJ1
import Derived.Laws.Bits64b
import Derived.Lib.Hide
import Derived.Deep.WholeRow
section
namespace Go.Proofs.YtdhmekpgplajmaaDoor

/-- A byte, again and again. -/
def rep8 (c : Nat) : Nat → Nat
  | 0 => 0
  | n + 1 => c + 256 * rep8 c n
/-- A function at each byte. -/
def map8 (f : Nat → Nat) : Nat → Nat → Nat
  | 0, _ => 0
  | n + 1, x => f (x % 256) + 256 * map8 f n (x / 256)
theorem and_step (x y : Nat) : x &&& y = (x % 256 &&& y % 256) + 256 * (x / 256 &&& y / 256) := by
  have h1 := Nat.and_mod_two_pow (a := x) (b := y) (n := 8)
  have h2 := Nat.and_div_two_pow (a := x) (b := y) (n := 8)
  have e : (2 : Nat) ^ 8 = 256 := rfl
  rw [e] at h1 h2
  rw [← h1, ← h2]
  omega
theorem and_rep (c : Nat) (hc : c < 256) (n x : Nat) : x &&& rep8 c (n + 1) = (x % 256 &&& c) + 256 * (x / 256 &&& rep8 c n) := by
  rw [and_step]
  simp only [rep8]
  rw [show (c + 256 * rep8 c n) % 256 = c by omega, show (c + 256 * rep8 c n) / 256 = rep8 c n by omega]
def f1 (b : Nat) : Nat := (b / 2 &&& 85) + (b &&& 85)
def f2 (b : Nat) : Nat := (b / 4 &&& 51) + (b &&& 51)
def pop8 (b : Nat) : Nat := (f2 (f1 b) / 16 + f2 (f1 b)) % 16
theorem k1 : ∀ a, a < 256 → ∀ e, e < 2 → (a / 2 + 128 * e) &&& 85 = a / 2 &&& 85 := by decide +kernel
theorem k2 : ∀ a, a < 256 → ∀ e, e < 4 → (a / 4 + 64 * e) &&& 51 = a / 4 &&& 51 := by decide +kernel
theorem b1 : ∀ b, b < 256 → f1 b < 256 := by decide +kernel
theorem b2 : ∀ b, b < 256 → f2 (f1 b) ≤ 68 ∧ f2 (f1 b) % 16 ≤ 4 := by decide +kernel
theorem b3 : ∀ b, b < 256 → pop8 b ≤ 8 ∧ pop8 b = ((List.range 8).filter fun j => b.testBit j).length := by decide +kernel
theorem step1 (n : Nat) : ∀ x, ((x / 2) &&& rep8 85 n) + (x &&& rep8 85 n) = map8 f1 n x := by
  induction n with
  | zero => intro x; simp [rep8, map8]
  | succ n ih =>
    intro x
    rw [and_rep 85 (by decide), and_rep 85 (by decide)]
    have e1 : x / 2 % 256 = x % 256 / 2 + 128 * (x / 256 % 2) := by omega
    have e2 : x / 2 / 256 = x / 256 / 2 := by omega
    rw [e1, e2, k1 _ (Nat.mod_lt _ (by decide)) _ (Nat.mod_lt _ (by decide))]
    have := ih (x / 256)
    simp only [map8, f1]
    omega
theorem step2 (n : Nat) : ∀ x, ((x / 4) &&& rep8 51 n) + (x &&& rep8 51 n) = map8 f2 n x := by
  induction n with
  | zero => intro x; simp [rep8, map8]
  | succ n ih =>
    intro x
    rw [and_rep 51 (by decide), and_rep 51 (by decide)]
    have e1 : x / 4 % 256 = x % 256 / 4 + 64 * (x / 256 % 4) := by omega
    have e2 : x / 4 / 256 = x / 256 / 4 := by omega
    rw [e1, e2, k2 _ (Nat.mod_lt _ (by decide)) _ (Nat.mod_lt _ (by decide))]
    have := ih (x / 256)
    simp only [map8, f2]
    omega
theorem map8_map8 (f g : Nat → Nat) (hg : ∀ b, b < 256 → g b < 256) (n : Nat) : ∀ x, map8 f n (map8 g n x) = map8 (fun b => f (g b)) n x := by
  induction n with
  | zero => intro x; rfl
  | succ n ih =>
    intro x
    have h := hg (x % 256) (Nat.mod_lt _ (by decide))
    simp only [map8]
    rw [show (g (x % 256) + 256 * map8 g n (x / 256)) % 256 = g (x % 256) by omega, show (g (x % 256) + 256 * map8 g n (x / 256)) / 256 = map8 g n (x / 256) by omega, ih]
theorem and15 (a : Nat) : a &&& 15 = a % 16 := Nat.and_two_pow_sub_one_eq_mod a 4
theorem map8_low (h : Nat → Nat) (hh : ∀ b, b < 256 → h b ≤ 68 ∧ h b % 16 ≤ 4) (n : Nat) (x : Nat) : map8 h n x % 16 ≤ 4 := by
  cases n with
  | zero => simp [map8]
  | succ n => have := hh (x % 256) (Nat.mod_lt _ (by decide)); simp only [map8]; omega
theorem step3 (h : Nat → Nat) (hh : ∀ b, b < 256 → h b ≤ 68 ∧ h b % 16 ≤ 4) (n : Nat) : ∀ x, (map8 h n x / 16 + map8 h n x) &&& rep8 15 n = map8 (fun b => (h b / 16 + h b) % 16) n x := by
  induction n with
  | zero => intro x; simp [rep8, map8]
  | succ n ih =>
    intro x
    have h0 := hh (x % 256) (Nat.mod_lt _ (by decide))
    have hl := map8_low h hh n (x / 256)
    have hi := ih (x / 256)
    rw [and_rep 15 (by decide)]
    simp only [map8]
    generalize h (x % 256) = a at *
    generalize map8 h n (x / 256) = r at *
    rw [and15]
    rw [show ((a + 256 * r) / 16 + (a + 256 * r)) / 256 = r / 16 + r by omega, hi]
    omega
theorem count_bytes (n : Nat) : ∀ x, ((List.range (8 * n)).filter fun j => x.testBit j).length = (match n with | 0 => 0 | m + 1 => ((List.range 8).filter fun j => (x % 256).testBit j).length + ((List.range (8 * m)).filter fun j => (x / 256).testBit j).length) := by
  intro x
  cases n with
  | zero => rfl
  | succ m =>
    simp only
    rw [show 8 * (m + 1) = 8 + 8 * m by omega, List.range_add, List.filter_append, List.length_append, List.filter_map, List.length_map]
    congr 1
    · refine congrArg List.length (List.filter_congr fun j hj => ?_)
      have := List.mem_range.1 hj
      rw [show (256 : Nat) = 2 ^ 8 from rfl, Nat.testBit_mod_two_pow]; simp [this]
    · refine congrArg List.length (List.filter_congr fun j hj => ?_)
      simp only [Function.comp]
      rw [show (256 : Nat) = 2 ^ 8 from rfl, Nat.testBit_div_two_pow, Nat.add_comm]
theorem pop_bytes (x : Nat) : (elemsW x).length = pop8 (x % 256) + (pop8 (x / 256 % 256) + (pop8 (x / 256 / 256 % 256) + (pop8 (x / 256 / 256 / 256 % 256) + (pop8 (x / 256 / 256 / 256 / 256 % 256) + (pop8 (x / 256 / 256 / 256 / 256 / 256 % 256) + (pop8 (x / 256 / 256 / 256 / 256 / 256 / 256 % 256) + pop8 (x / 256 / 256 / 256 / 256 / 256 / 256 / 256 % 256))))))) := by
  have hb := fun y => (b3 (y % 256) (Nat.mod_lt y (by decide))).2
  unfold elemsW
  rw [show List.range 64 = List.range (8 * 8) from rfl, count_bytes 8]; simp only
  rw [count_bytes 7]; simp only
  rw [count_bytes 6]; simp only
  rw [count_bytes 5]; simp only
  rw [count_bytes 4]; simp only
  rw [count_bytes 3]; simp only
  rw [count_bytes 2]; simp only
  rw [count_bytes 1 (x / 256 / 256 / 256 / 256 / 256 / 256 / 256)]; simp only
  simp only [hb]
  simp
/-- The library's sum. -/
def pop1 (x : Nat) : Nat := (x / 2 &&& 6148914691236517205) + (x &&& 6148914691236517205)
def pop2 (x : Nat) : Nat := (x / 4 &&& 3689348814741910323) + (x &&& 3689348814741910323)
def pop3 (x : Nat) : Nat := (x / 16 + x) &&& 1085102592571150095
theorem pop3_eq (x : Nat) : pop3 (pop2 (pop1 x)) = map8 pop8 8 x := by
  unfold pop1 pop2 pop3
  rw [show 6148914691236517205 = rep8 85 8 from rfl, show 3689348814741910323 = rep8 51 8 from rfl, show 1085102592571150095 = rep8 15 8 from rfl, step1, step2, map8_map8 f2 f1 b1, step3 _ b2]
  rfl
theorem div16 (a b c T2 T3 x y : Nat) (ha : a ≤ 8) (hb : b ≤ 8) (hc : c ≤ 8) (hx : x = a + 256 * (b + 256 * T2)) (hy : y = b + 256 * (c + 256 * T3)) : (x + y) / 65536 = T2 + T3 := by omega
theorem div32 (l0 l1 l2 l3 t0 t1 t2 t3 : Nat) (h0 : l0 ≤ 134744072) (h1 : l1 ≤ 134744072) (h2 : l2 ≤ 134744072) (h3 : l3 ≤ 134744072) :
    ((l0 + 4294967296 * t0) + (l1 + 4294967296 * t1) + ((l2 + 4294967296 * t2) + (l3 + 4294967296 * t3))) / 4294967296 = t0 + t1 + (t2 + t3) := by omega
theorem low4 (a b c d T : Nat) (ha : a ≤ 8) (hb : b ≤ 8) (hc : c ≤ 8) (hd : d ≤ 8) : ∃ l, a + 256 * (b + 256 * (c + 256 * (d + 256 * T))) = l + 4294967296 * T ∧ l ≤ 134744072 :=
  ⟨a + 256 * b + 65536 * c + 16777216 * d, by omega, by omega⟩
theorem mod_sum (C U : Nat) (h : C ≤ 64) : (C + 256 * U) % 128 = C := by omega
theorem sum8 (c0 c1 c2 c3 c4 c5 c6 c7 c : Nat) (g0 : c0 ≤ 8) (g1 : c1 ≤ 8) (g2 : c2 ≤ 8) (g3 : c3 ≤ 8) (g4 : c4 ≤ 8) (g5 : c5 ≤ 8) (g6 : c6 ≤ 8) (g7 : c7 ≤ 8)
    (hc : c = c0 + 256 * (c1 + 256 * (c2 + 256 * (c3 + 256 * (c4 + 256 * (c5 + 256 * (c6 + 256 * (c7 + 256 * 0)))))))) :
    c ≤ 578721382704613384 ∧ ((c + c / 256) + (c + c / 256) / 65536 + ((c + c / 256) + (c + c / 256) / 65536) / 4294967296) % 128 = c0 + (c1 + (c2 + (c3 + (c4 + (c5 + (c6 + c7)))))) := by
  have z : (0 : Nat) = 0 + 256 * (0 + 256 * (0 + 256 * (0 + 256 * 0))) := rfl
  obtain ⟨t7, h7⟩ : ∃ t, t = c7 + 256 * 0 := ⟨_, rfl⟩
  rw [← h7] at hc
  obtain ⟨t6, h6⟩ : ∃ t, t = c6 + 256 * t7 := ⟨_, rfl⟩
  rw [← h6] at hc
  obtain ⟨t5, h5⟩ : ∃ t, t = c5 + 256 * t6 := ⟨_, rfl⟩
  rw [← h5] at hc
  obtain ⟨t4, h4⟩ : ∃ t, t = c4 + 256 * t5 := ⟨_, rfl⟩
  rw [← h4] at hc
  obtain ⟨t3, h3⟩ : ∃ t, t = c3 + 256 * t4 := ⟨_, rfl⟩
  rw [← h3] at hc
  obtain ⟨t2, h2⟩ : ∃ t, t = c2 + 256 * t3 := ⟨_, rfl⟩
  rw [← h2] at hc
  obtain ⟨t1, h1⟩ : ∃ t, t = c1 + 256 * t2 := ⟨_, rfl⟩
  rw [← h1] at hc
  have k7 : t7 ≤ 8 := by omega
  have k6 : t6 ≤ 2056 := by omega
  have k5 : t5 ≤ 526344 := by omega
  have k4 : t4 ≤ 134744072 := by omega
  have k3 : t3 ≤ 34494482440 := by omega
  have k2 : t2 ≤ 8830587504648 := by omega
  have k1 : t1 ≤ 2260630401189896 := by omega
  have k0 : c ≤ 578721382704613384 := by omega
  have e1 : c / 256 = t1 := by omega
  have e2 : (c + t1) / 65536 = t2 + t3 := div16 c0 c1 c2 t2 t3 c t1 g0 g1 g2 (by rw [hc, h1]) (by rw [h1, h2])
  obtain ⟨l0, a0, b0⟩ := low4 c0 c1 c2 c3 t4 g0 g1 g2 g3
  obtain ⟨l1, a1, b1⟩ := low4 c1 c2 c3 c4 t5 g1 g2 g3 g4
  obtain ⟨l2, a2, b2⟩ := low4 c2 c3 c4 c5 t6 g2 g3 g4 g5
  obtain ⟨l3, a3, b3⟩ := low4 c3 c4 c5 c6 t7 g3 g4 g5 g6
  rw [← h3, ← h2, ← h1, ← hc] at a0
  rw [← h4, ← h3, ← h2, ← h1] at a1
  rw [← h5, ← h4, ← h3, ← h2] at a2
  rw [← h6, ← h5, ← h4, ← h3] at a3
  have e3 : (c + t1 + (t2 + t3)) / 4294967296 = t4 + t5 + (t6 + t7) := by
    rw [a0, a1, a2, a3]; exact div32 l0 l1 l2 l3 t4 t5 t6 t7 b0 b1 b2 b3
  refine ⟨k0, ?_⟩
  rw [e1, e2, e3]
  clear a0 a1 a2 a3 b0 b1 b2 b3 e1 e2 e3 k0 k1 k2 k3 k4 k5 k6 k7 z
  have : c + t1 + (t2 + t3) + (t4 + t5 + (t6 + t7)) = (c0 + (c1 + (c2 + (c3 + (c4 + (c5 + (c6 + c7))))))) + 256 * (t1 + t2 + t3 + t4 + t5 + t6 + t7) := by omega
  rw [this]
  exact mod_sum _ _ (by omega)
theorem pop3_sum (x : Nat) : pop3 (pop2 (pop1 x)) ≤ 578721382704613384 ∧ ((pop3 (pop2 (pop1 x)) + pop3 (pop2 (pop1 x)) / 256) + (pop3 (pop2 (pop1 x)) + pop3 (pop2 (pop1 x)) / 256) / 65536 + ((pop3 (pop2 (pop1 x)) + pop3 (pop2 (pop1 x)) / 256) + (pop3 (pop2 (pop1 x)) + pop3 (pop2 (pop1 x)) / 256) / 65536) / 4294967296) % 128 = (elemsW x).length := by
  rw [pop_bytes]
  have hb := fun y => (b3 (y % 256) (Nat.mod_lt y (by decide))).1
  refine sum8 _ _ _ _ _ _ _ _ _ (hb _) (hb _) (hb _) (hb _) (hb _) (hb _) (hb _) (hb _) ?_
  rw [pop3_eq]
  simp only [map8]
end Go.Proofs.YtdhmekpgplajmaaDoor
end
section
namespace Go.Proofs.YtdhmekpgplajmaaDoor
open Go.ChangeShapes Go.WideShapes Go.ChangeAt Go.RowKit Go.Deep
section
variable {H : Type} {enc : TypeId × Value → H} {P : Program} {w : World} {base : Nat} {spare : Nat → Bool} {held : Bool} {fuel : Nat} {t e : TypeId} {cs : List Value} {x : DataW H × List MemPlace}
theorem trod_intarr {n : Nat} {k : IntKind} (ht : P.underlying t = some (.array n e)) (he : P.underlying e = some (.int k)) (hc : P.cellsOf e = 1) (hct : P.cellsOf t = n) (h : DataW.trod enc P w base spare held fuel t cs = some x) :
    ∃ zs : List Int, zs.length = n ∧ cs = zs.map (Value.int k) ∧ ∀ z ∈ zs, (Lit.int k z).wf = true := by
  obtain ⟨xs, m, _, _, hl, hxl, hx⟩ := DataW.trod_array ht h
  rw [hct] at hl
  have key : ∀ i, i < n → ∃ z : Int, cs[i]? = some (.int k z) ∧ (Lit.int k z).wf = true := fun i hi => by
    have h1 := hx i hi
    rw [hc, Nat.mul_one, List.getElem?_eq_getElem (show i < xs.length by omega)] at h1
    obtain ⟨z, h2, _, h3⟩ := DataW.trod_int he h1
    refine ⟨z, ?_, h3⟩
    have := congrArg (fun l : List Value => l[0]?) h2
    simpa using this
  obtain ⟨f, hf⟩ := choose_lt key
  refine ⟨(List.range n).map f, by simp, ?_, fun z hz => ?_⟩
  · apply List.ext_getElem?
    intro i
    by_cases hi : i < n
    · rw [(hf i hi).1]; simp [hi]
    · rw [List.getElem?_eq_none (by omega), List.getElem?_eq_none (by simp; omega)]
  · obtain ⟨i, hi, rfl⟩ := List.mem_map.1 hz
    exact (hf i (by simpa using hi)).2
theorem wf_u64 {z : Int} (h : (Lit.int .u64 z).wf = true) : ∃ n : Nat, z = (n : Int) ∧ n < 2 ^ 64 := by
  have : 0 ≤ z ∧ z ≤ 18446744073709551615 := by simpa [Lit.wf, IntKind.min, IntKind.max, IntKind.bits, IntKind.signed] using h
  exact ⟨z.toNat, by omega, by omega⟩
theorem wf_u8 {z : Int} (h : (Lit.int .u8 z).wf = true) : ∃ n : Nat, z = (n : Int) ∧ n < 256 := by
  have : 0 ≤ z ∧ z ≤ 255 := by simpa [Lit.wf, IntKind.min, IntKind.max, IntKind.bits, IntKind.signed] using h
  exact ⟨z.toNat, by omega, by omega⟩
theorem trod_set (ht : P.underlying t = some (.array 4 e)) (he : P.underlying e = some (.int .u64)) (hc : P.cellsOf e = 1) (hct : P.cellsOf t = 4) (h : DataW.trod enc P w base spare held fuel t cs = some x) :
    ∃ s : BSet, cs = encS s := by
  obtain ⟨zs, hl, rfl, hw⟩ := trod_intarr ht he hc hct h
  match zs, hl with
  | [a, b, c, d], _ =>
    obtain ⟨a, rfl, ha⟩ := wf_u64 (hw a (by simp))
    obtain ⟨b, rfl, hb⟩ := wf_u64 (hw b (by simp))
    obtain ⟨c, rfl, hc⟩ := wf_u64 (hw c (by simp))
    obtain ⟨d, rfl, hd⟩ := wf_u64 (hw d (by simp))
    obtain ⟨e0, e1, e2, e3⟩ := word_ofWords a b c d
    refine ⟨ofWords a b c d, ?_⟩
    simp only [encS, e0, e1, e2, e3, Nat.mod_eq_of_lt ha, Nat.mod_eq_of_lt hb, Nat.mod_eq_of_lt hc, Nat.mod_eq_of_lt hd]
    rfl
theorem trod_arr8 (ht : P.underlying t = some (.array 256 e)) (he : P.underlying e = some (.int .u8)) (hc : P.cellsOf e = 1) (hct : P.cellsOf t = 256) (h : DataW.trod enc P w base spare held fuel t cs = some x) :
    ∃ f : Nat → Nat, cs = (arr8 f).toList ∧ ∀ b, f b < 256 := by
  obtain ⟨zs, hl, rfl, hw⟩ := trod_intarr ht he hc hct h
  have hb : ∀ i, 0 ≤ zs.getD i 0 ∧ zs.getD i 0 < 256 := fun i => by
    by_cases hi : i < zs.length
    · obtain ⟨n, hn, hlt⟩ := wf_u8 (hw zs[i] (List.getElem_mem hi))
      simp only [List.getD, List.getElem?_eq_getElem hi, Option.getD_some, hn]; omega
    · simp [List.getD, List.getElem?_eq_none (show zs.length ≤ i by omega)]
  refine ⟨fun i => (zs.getD i 0).toNat, ?_, fun b => by have := hb b; show (zs.getD b 0).toNat < 256; omega⟩
  apply List.ext_getElem?
  intro i
  by_cases hi : i < 256
  · have := arr8_get (fun i => (zs.getD i 0).toNat) i hi
    rw [← Array.getElem?_toList] at this
    rw [this]
    have h1 := hb i
    rw [List.getElem?_map]
    simp only [List.getD] at h1 ⊢
    rw [List.getElem?_eq_getElem (show i < zs.length by omega)] at h1 ⊢
    simp at h1 ⊢
    omega
  · have h1 : (arr8 fun i => (zs.getD i 0).toNat).toList[i]? = none := List.getElem?_eq_none (by rw [Array.length_toList, arr8_size]; omega)
    rw [h1, List.getElem?_eq_none (by simp; omega)]
/-- A slice of sets that came in. -/
theorem trod_sets {ts : TypeId} (hs : P.underlying ts = some (.slice t)) (ht : P.underlying t = some (.array 4 e)) (he : P.underlying e = some (.int .u64)) (hc : P.cellsOf e = 1) (hct : P.cellsOf t = 4)
    {a : Option Addr} {len cap : Nat} (h : DataW.trod enc P w base spare held fuel ts [.slice a len cap] = some x) : ∃ l : List BSet, len = l.length ∧ SliceR w (.slice a l.length cap) 4 encS l := by
  rcases open_slice hs h with ⟨h0, _⟩ | ⟨a', len', cap', m, n, D, Pl, h0, _, hle, hm, hmm, _, hx⟩
  · simp at h0
    obtain ⟨rfl, rfl, rfl⟩ := h0
    exact ⟨[], rfl, none, 0, 0, 0, rfl, Nat.le_refl _, by simp [maxLen], .inr ⟨rfl, fun _ => rfl⟩, fun i hi => by simp at hi⟩
  · simp at h0
    obtain ⟨rfl, rfl, rfl⟩ := h0
    have hlm : len ≤ m := by rw [hmm]; split <;> omega
    have key : ∀ i, i < len → ∃ s : BSet, ∀ j u, (encS s)[j]? = some u → w.cell? ((a'.add (i * 4)).add j) = some u := fun i hi => by
      obtain ⟨cs', h1, h2⟩ := hx i (by omega)
      obtain ⟨s, rfl⟩ := trod_set ht he hc hct h2
      rw [hct] at h1
      obtain ⟨_, _, h3⟩ := World.cells?_some h1
      exact ⟨s, fun j u hu => by rw [h3 j (by have := (List.getElem?_eq_some_iff.1 hu).1; simpa using this)]; exact hu⟩
    obtain ⟨f, hf⟩ := choose_lt key
    have hspot : 0 < len → a'.spot = none := fun h0 => by
      have := World.cell?_spot (hf 0 h0 0 _ rfl)
      simpa [Addr.add] using this
    obtain ⟨b, o, spot⟩ := a'
    refine ⟨(List.range len).map f, by simp, some ⟨b, o, spot⟩, b, o, cap, by simp, by simpa using hle, hm, ?_, fun i hi j u hu => ?_⟩
    · by_cases h0 : len = 0
      · exact .inr ⟨by simp [h0], fun h => by cases h⟩
      · have h1 := hspot (by omega)
        simp only at h1
        exact .inl (by rw [h1])
    · have hi' : i < len := by simpa using hi
      have := hf i hi' j u (by simpa using hu)
      rw [add_add] at this
      have hs2 : spot = none := hspot (by omega)
      subst hs2
      rw [Addr.add_mid] at this
      rw [Nat.add_assoc]; exact this
theorem okWide_arr {n : Nat} {r : Reach} {v : Value} (ht : P.underlying t = some (.array n e)) (h : Value.okWide P w r base t v) : ∃ cs, v = .agg cs ∧ cs.size = P.cellsOf t := by
  simp only [Value.okWide, ht] at h
  obtain ⟨cs, h1, h2, _⟩ := h
  exact ⟨cs, h1, h2⟩
theorem trod_bytes {ts : TypeId} (hs : P.underlying ts = some (.slice e)) (he : P.underlying e = some (.int .u8)) (hc : P.cellsOf e = 1)
    {a : Option Addr} {len cap : Nat} (h : DataW.trod enc P w base spare held fuel ts [.slice a len cap] = some x) : ∃ l : List Nat, len = l.length ∧ SliceR w (.slice a l.length cap) 1 encB l ∧ ∀ x ∈ l, x < 256 := by
  rcases open_slice1 hs hc h with ⟨h0, _⟩ | ⟨a', len', cap', m, n, V, D, Pl, h0, _, hle, hm, hmm, _, hx⟩
  · simp at h0
    obtain ⟨rfl, rfl, rfl⟩ := h0
    exact ⟨[], rfl, ⟨none, 0, 0, 0, rfl, Nat.le_refl _, by simp [maxLen], .inr ⟨rfl, fun _ => rfl⟩, fun i hi => by simp at hi⟩, by simp⟩
  · simp at h0
    obtain ⟨rfl, rfl, rfl⟩ := h0
    have hlm : len ≤ m := by rw [hmm]; split <;> omega
    have key : ∀ i, i < len → ∃ y : Nat, w.cell? (a'.add i) = some (.int .u8 y) ∧ y < 256 := fun i hi => by
      obtain ⟨h1, h2⟩ := hx i (by omega)
      obtain ⟨z, h3, _, h4⟩ := DataW.trod_int he h2
      obtain ⟨y, rfl, hy⟩ := wf_u8 h4
      exact ⟨y, by rw [h1]; simpa using h3, hy⟩
    obtain ⟨f, hf⟩ := choose_lt key
    have hspot : 0 < len → a'.spot = none := fun h0 => by
      have := World.cell?_spot (hf 0 h0).1
      simpa [Addr.add] using this
    obtain ⟨b, o, spot⟩ := a'
    refine ⟨(List.range len).map f, by simp, ⟨some ⟨b, o, spot⟩, b, o, cap, by simp, by simpa using hle, hm, ?_, fun i hi j u hu => ?_⟩, fun y hy => ?_⟩
    · by_cases h0 : len = 0
      · exact .inr ⟨by simp [h0], fun h => by cases h⟩
      · have h1 := hspot (by omega)
        simp only at h1
        exact .inl (by rw [h1])
    · have hi' : i < len := by simpa using hi
      have := (hf i hi').1
      have hs2 : spot = none := hspot (by omega)
      subst hs2
      rw [Addr.add_mid] at this
      have hj : j = 0 := by have := (List.getElem?_eq_some_iff.1 hu).1; simpa using this
      subst hj
      have e : encB ((List.range len).map f)[i] = encB (f i) := by simp
      rw [e] at hu
      simp at hu
      rw [← hu, Nat.mul_one, Nat.add_zero]; exact this
    · obtain ⟨i, hi, rfl⟩ := List.mem_map.1 hy
      exact (hf i (by simpa using hi)).2
end
end Go.Proofs.YtdhmekpgplajmaaDoor
end
section
namespace Go.Proofs.YtdhmekpgplajmaaDoor
open Go.RowKit

/-- The first words of one set, the others of another one. -/
def mix (s t : BSet) (j : Nat) : BSet := ofWords (if 0 < j then word t 0 else word s 0) (if 1 < j then word t 1 else word s 1) (if 2 < j then word t 2 else word s 2) (if 3 < j then word t 3 else word s 3)
theorem word_mix (s t : BSet) (j k : Nat) (hk : k < 4) : word (mix s t j) k = if k < j then word t k else word s k := by
  unfold mix
  have hm : ∀ i, (if i < j then word t i else word s i) % 2 ^ 64 = if i < j then word t i else word s i := fun i => Nat.mod_eq_of_lt (by split <;> exact word_lt _ _)
  obtain ⟨e0, e1, e2, e3⟩ := word_ofWords (if 0 < j then word t 0 else word s 0) (if 1 < j then word t 1 else word s 1) (if 2 < j then word t 2 else word s 2) (if 3 < j then word t 3 else word s 3)
  match k, hk with
  | 0, _ => rw [e0, hm 0]
  | 1, _ => rw [e1, hm 1]
  | 2, _ => rw [e2, hm 2]
  | 3, _ => rw [e3, hm 3]
theorem mix_zero (s t : BSet) : mix s t 0 = s := word_inj fun i hi => by rw [word_mix _ _ _ _ hi, if_neg (by omega)]
theorem mix_four (s t : BSet) : mix s t 4 = t := word_inj fun i hi => by rw [word_mix _ _ _ _ hi, if_pos hi]
theorem mix_step (s t : BSet) (j : Nat) (hj : j < 4) : (setC (mix s t j)).setIfInBounds j (.int .u64 (word t j : Nat)) = setC (mix s t (j + 1)) := by
  have h := setC_set (mix s t j) (mix s t (j + 1)) j hj fun i hi hne => by
    rw [word_mix _ _ _ _ hi, word_mix _ _ _ _ hi]
    by_cases h : i < j
    · rw [if_pos h, if_pos (by omega)]
    · rw [if_neg h, if_neg (by omega)]
  rwa [word_mix _ _ _ _ hj, if_pos (by omega)] at h
theorem Box.mix {w : World} {b E : Nat} {s t : BSet} {j : Nat} (h : Box w b (setC (mix s t j)) E) (hj : j < 4) (v : Value) (hv : v = .int .u64 (word t j : Nat)) : Box (w.setCell ⟨b, j, none⟩ v) b (setC (Proofs.YtdhmekpgplajmaaDoor.mix s t (j + 1))) E := by
  subst hv
  rw [← mix_step s t j hj]
  exact h.set j _
theorem Box.mixw {w : World} {b E : Nat} {s t : BSet} {j : Nat} (h : Box w b (setC (Proofs.YtdhmekpgplajmaaDoor.mix s t j)) E) (hj : j < 4) : w.cell? ⟨b, j, none⟩ = some (.int .u64 (word s j : Nat)) := by
  have := h.setw hj
  rwa [word_mix _ _ _ _ hj, if_neg (by omega)] at this
theorem index_set (s : BSet) (j : Nat) (h : j < 4) (w : World) : (Instr.index 53 (.agg #[.int .u64 (word s 0 : Nat), .int .u64 (word s 1 : Nat), .int .u64 (word s 2 : Nat), .int .u64 (word s 3 : Nat)]) (.int .i64 (j : Nat))).run Tryd.prog w = .ok (.int .u64 (word s j : Nat)) w := by
  have i0 : (Instr.index 53 (.agg #[.int .u64 (word s 0 : Nat), .int .u64 (word s 1 : Nat), .int .u64 (word s 2 : Nat), .int .u64 (word s 3 : Nat)]) (.int .i64 (0 : Nat))).run Tryd.prog w = .ok (.int .u64 (word s 0 : Nat)) w := by kernel_rfl
  have i1 : (Instr.index 53 (.agg #[.int .u64 (word s 0 : Nat), .int .u64 (word s 1 : Nat), .int .u64 (word s 2 : Nat), .int .u64 (word s 3 : Nat)]) (.int .i64 (1 : Nat))).run Tryd.prog w = .ok (.int .u64 (word s 1 : Nat)) w := by kernel_rfl
  have i2 : (Instr.index 53 (.agg #[.int .u64 (word s 0 : Nat), .int .u64 (word s 1 : Nat), .int .u64 (word s 2 : Nat), .int .u64 (word s 3 : Nat)]) (.int .i64 (2 : Nat))).run Tryd.prog w = .ok (.int .u64 (word s 2 : Nat)) w := by kernel_rfl
  have i3 : (Instr.index 53 (.agg #[.int .u64 (word s 0 : Nat), .int .u64 (word s 1 : Nat), .int .u64 (word s 2 : Nat), .int .u64 (word s 3 : Nat)]) (.int .i64 (3 : Nat))).run Tryd.prog w = .ok (.int .u64 (word s 3 : Nat)) w := by kernel_rfl
  match j, h with
  | 0, _ => exact i0
  | 1, _ => exact i1
  | 2, _ => exact i2
  | 3, _ => exact i3
theorem and_words (s x : BSet) (j : Nat) : bits BinOp.and IntKind.u64 (word s j : Nat) (word x j : Nat) = ((word (s &&& x) j : Nat) : Int) := by
  rw [word_and, bits_and_u64_nat _ _ (word_lt _ _) (word_lt _ _)]
theorem or_words (s x : BSet) (j : Nat) : bits BinOp.or IntKind.u64 (word s j : Nat) (word x j : Nat) = ((word (s ||| x) j : Nat) : Int) := by
  rw [word_or, bits_or_u64_nat _ _ (word_lt _ _) (word_lt _ _)]
theorem less_words (s x : BSet) (j : Nat) (hj : j < 4) : bits BinOp.andNot IntKind.u64 (word s j : Nat) (word x j : Nat) = ((word (s &&& ~~~x) j : Nat) : Int) := by
  rw [word_and, word_not _ _ hj, u64_andNot_nat _ _ (word_lt _ _) (word_lt _ _)]

set_option maxHeartbeats 800000 in
theorem sets_Meet (s x : BSet) (w : World) : Calls Tryd.prog 57 #[.agg (setC s), .agg (setC x)] w (Ret w (setV (s &&& x))) := by
  have hop := and_words s x
  generalize s &&& x = t at *
  go_enter Tryd.func57, Tryd.ntmps57
  go_wp2
  go_loopw [8] (fun i wr => ∃ j : Nat, j ≤ 4 ∧ i = .int .i64 j ∧ Box wr w.heap.size (setC (mix s t j)) 53 ∧ Box wr (w.heap.size + 1 + 1) (setC 0) 53 ∧ Below w.heap.size w wr) (fun i _ => 4 - (intOf i).toNat)
  case atStart =>
    refine ⟨0, Nat.zero_le _, rfl, ?_, ?_, by go_grown⟩
    · rw [mix_zero]; exact ((Box.new' rfl _ _).alloc _).alloc _
    · rw [setC_zero]; exact Box.new' (by simp) _ _
  case round =>
    obtain ⟨j, hj, rfl, hb, h0, hB⟩ := hrel
    by_cases hlt : j < 4
    · have gw := index_set x j hlt
      have hc := hb.mixw hlt
      have hf := hb.free j
      have hv := hop j
      go_wp2
      go_roundw
      case rel => exact ⟨j + 1, hlt, by go_num, hb.mix hlt _ rfl, h0.other _ _ (by simp; omega), by go_grown⟩
      case measure => simp [intOf]; omega
    · obtain rfl : j = 4 := by omega
      rw [mix_four] at hb
      obtain ⟨⟨p0, p1, p2, p3⟩, ⟨q0, q1, q2, q3⟩⟩ := h0.set4
      obtain ⟨⟨r0, r1, r2, r3⟩, _⟩ := hb.set4
      go_wp2
      exact ret_box Tryd.results57 rfl (h0.store4 rfl _ _ _ _) Tryd.underlying53 rfl (by kernel_rfl) rfl ⟨rfl, by go_grown⟩
theorem xor_max (a : Nat) (h : a < 2 ^ 64) : (2 ^ 64 - 1) ^^^ a = 18446744073709551615 - a := by
  refine Nat.eq_of_testBit_eq fun i => ?_
  rw [Nat.testBit_xor, Nat.testBit_two_pow_sub_one, show 18446744073709551615 - a = 2 ^ 64 - (a + 1) by omega, Nat.testBit_two_pow_sub_succ h]
  by_cases hi : i < 64
  · simp [hi]
  · simp [hi, Nat.testBit_lt_two_pow (Nat.lt_of_lt_of_le h (Nat.pow_le_pow_right (by decide) (show 64 ≤ i by omega)))]
theorem not_words (s : BSet) (j : Nat) (hj : j < 4) : bits BinOp.xor IntKind.u64 IntKind.u64.max (word s j : Nat) = ((word (~~~s) j : Nat) : Int) := by
  rw [word_not _ _ hj, show IntKind.u64.max = ((2 ^ 64 - 1 : Nat) : Int) by decide, u64_xor_nat _ _ (by decide) (word_lt _ _), xor_max _ (word_lt _ _)]
set_option maxHeartbeats 800000 in
theorem sets_Not (s : BSet) (w : World) : Calls Tryd.prog 35 #[.agg (setC s)] w (Ret w (setV (~~~s))) := by
  have hop := not_words s
  generalize ~~~s = t at *
  go_enter Tryd.func35, Tryd.ntmps35
  go_wp2
  go_loopw [6] (fun i wr => ∃ j : Nat, j ≤ 4 ∧ i = .int .i64 j ∧ Box wr w.heap.size (setC (mix s t j)) 53 ∧ Box wr (w.heap.size + 1) (setC 0) 53 ∧ Below w.heap.size w wr) (fun i _ => 4 - (intOf i).toNat)
  case atStart =>
    refine ⟨0, Nat.zero_le _, rfl, ?_, ?_, by go_grown⟩
    · rw [mix_zero]; exact (Box.new' rfl _ _).alloc _
    · rw [setC_zero]; exact Box.new' (by simp) _ _
  case round =>
    obtain ⟨j, hj, rfl, hb, h0, hB⟩ := hrel
    by_cases hlt : j < 4
    · have gw := index_set s j hlt
      have hc := hb.mixw hlt
      have hf := hb.free j
      have hv := hop j hlt
      go_wp2
      go_roundw
      case rel => exact ⟨j + 1, hlt, by go_num, hb.mix hlt _ (by rw [if_neg (by decide), hv]), h0.other _ _ (by simp), by go_grown⟩
      case measure => simp [intOf]; omega
    · obtain rfl : j = 4 := by omega
      rw [mix_four] at hb
      obtain ⟨⟨p0, p1, p2, p3⟩, ⟨q0, q1, q2, q3⟩⟩ := h0.set4
      obtain ⟨⟨r0, r1, r2, r3⟩, _⟩ := hb.set4
      go_wp2
      exact ret_box Tryd.results35 rfl (h0.store4 rfl _ _ _ _) Tryd.underlying53 rfl (by kernel_rfl) rfl ⟨rfl, by go_grown⟩
set_option maxHeartbeats 800000 in
theorem sets_Union (a : Option Addr) (cap : Nat) (l : List BSet) (w : World) (h : SliceR w (.slice a l.length cap) 4 encS l) :
    Calls Tryd.prog 32 #[.slice a l.length cap] w (Ret w (setV (l.foldl (· ||| ·) 0))) := by
  obtain ⟨b, o, hlen, hcap, hcap', ha, hbl, hcell⟩ := h.sets
  clear hlen h hbl
  have HC := Lib.hid hcell
  clear hcell
  go_enter Tryd.func32, Tryd.ntmps32
  go_wp2
  go_loopw [10] (fun i wr => ∃ j : Nat, j ≤ l.length ∧ i = .int .i64 j ∧ Box wr w.heap.size (setC 0) 53 ∧ Box wr (w.heap.size + 1) (setC ((l.take j).foldl (· ||| ·) 0)) 53 ∧ Below w.heap.size w wr) (fun i _ => l.length - (intOf i).toNat)
  case atStart =>
    refine ⟨0, Nat.zero_le _, rfl, ?_, ?_, by go_grown⟩
    · rw [setC_zero]; exact (Box.new' rfl _ _).alloc _
    · rw [List.take_zero, List.foldl_nil, setC_zero]; exact Box.new' (by simp) _ _
  case round =>
    obtain ⟨j, hj, rfl, h0, hb, hB⟩ := hrel
    by_cases hlt : j < l.length
    · have hdj : decide ((j : Int) < (l.length : Int)) = true := decide_eq_true (by omega)
      obtain rfl := ha j hlt
      obtain ⟨c0, c1, c2, c3⟩ := HC.out j hlt wr hB
      have e2 : (l.take (j + 1)).foldl (· ||| ·) 0 = (l.take j).foldl (· ||| ·) 0 ||| l[j] := by rw [List.take_succ_eq_append_getElem hlt, List.foldl_append]; rfl
      have HE := Lib.hid e2
      clear e2
      generalize l[j] = x at *
      generalize (l.take j).foldl (· ||| ·) 0 = s at *
      have hop := or_words s x
      generalize s ||| x = t at *
      have hs0 := h0.lt
      have hs1 := hb.lt
      go_wp2
      go_loopw [15] (fun i wr => ∃ k : Nat, k ≤ 4 ∧ i = .int .i64 k ∧ Box wr w.heap.size (setC 0) 53 ∧ Box wr (w.heap.size + 1) (setC (mix s t k)) 53 ∧ Below w.heap.size w wr) (fun i _ => 4 - (intOf i).toNat)
      case atStart => exact ⟨0, Nat.zero_le _, rfl, h0.alloc _, by rw [mix_zero]; exact hb.alloc _, by go_grown⟩
      case round =>
        obtain ⟨k, hk, rfl, h0, hb, hB⟩ := hrel
        by_cases hlt2 : k < 4
        · have gw := index_set x k hlt2
          have hc := hb.mixw hlt2
          have hf := hb.free k
          have hv := hop k
          go_wp2
          go_roundw
          case rel => exact ⟨k + 1, hlt2, by go_num, h0.other _ _ (by simp), hb.mix hlt2 _ rfl, by go_grown⟩
          case measure => simp [intOf]; omega
        · obtain rfl : k = 4 := by omega
          rw [mix_four] at hb
          go_wp2
          go_roundw
          case rel => exact ⟨j + 1, hlt, by go_num, h0, by rw [HE.out]; exact hb, hB⟩
          case measure => simp [intOf]; omega
    · obtain rfl : j = l.length := by omega
      rw [List.take_length] at hb
      obtain ⟨⟨p0, p1, p2, p3⟩, ⟨q0, q1, q2, q3⟩⟩ := h0.set4
      obtain ⟨⟨r0, r1, r2, r3⟩, _⟩ := hb.set4
      go_wp2
      exact ret_box Tryd.results32 rfl (h0.store4 rfl _ _ _ _) Tryd.underlying53 rfl (by kernel_rfl) rfl ⟨rfl, by go_grown⟩
end Go.Proofs.YtdhmekpgplajmaaDoor
end
section
namespace Go.Proofs.YtdhmekpgplajmaaDoor
open Go.RowKit

theorem sets_Of (a : Option Addr) (cap : Nat) (xs : List Nat) (w : World) (h : SliceR w (.slice a xs.length cap) 1 (fun x : Nat => [.int .u8 x]) xs) (hx : ∀ x ∈ xs, x < 256) :
    Calls Tryd.prog 33 #[.slice a xs.length cap] w (Ret w (setV (ofL xs))) := by
  obtain ⟨b, o, hlen, hcap, hcap', ha, hcell⟩ := h.open
  clear hlen h
  go_enter Tryd.func33, Tryd.ntmps33
  go_wp2
  go_loopw [8] (fun i wr => ∃ k : Nat, k ≤ xs.length ∧ i = .int .i64 k ∧ Box wr w.heap.size (setC 0) 53 ∧ Box wr (w.heap.size + 1) (setC (ofL (xs.take k))) 53 ∧ Below w.heap.size w wr) (fun i _ => xs.length - (intOf i).toNat)
  case atStart =>
    refine ⟨0, Nat.zero_le _, rfl, ?_, ?_, by go_grown⟩
    · rw [setC_zero]; exact (Box.new' rfl _ _).alloc _
    · rw [List.take_zero, show ofL [] = 0 from rfl, setC_zero]; exact Box.new' (World.size_alloc _ _).symm _ _
  case round =>
    obtain ⟨k, hk, rfl, hb0, hb1, hB⟩ := hrel
    by_cases hlt : k < xs.length
    · obtain rfl := ha k hlt
      have hxk := hx xs[k] (List.getElem_mem hlt)
      have hc : wr.cell? ⟨b, o + k, none⟩ = some (.int .u8 (xs[k] : Nat)) := by
        have := hcell k hlt 0 _ rfl
        rw [hB.cell (World.block_lt_of_cell? w _ (by simpa using this))]; simpa using this
      have e1 : wr.cell? ⟨w.heap.size + 1, xs[k] / 64, none⟩ = some (.int .u64 (word (ofL (xs.take k)) (xs[k] / 64) : Nat)) := by
        rw [hb1.cell]; simpa using words_get _ _ (by omega)
      have e2 := hb1.free (xs[k] / 64)
      have e3 : ofL (xs.take (k + 1)) = withB (ofL (xs.take k)) xs[k] := by rw [List.take_succ_eq_append_getElem hlt, ofL_snoc]
      have e4 := Lib.hid e3
      clear e3 ha hcell hx
      generalize xs[k] = x at *
      have hw := word_lt (ofL (xs.take k)) (x / 64)
      go_wp2
      go_roundw
      case rel =>
        refine ⟨k + 1, hlt, by go_num, hb0.other _ _ (by simp), ?_, by go_grown⟩
        rw [e4.out, or_bit _ _ hw (Nat.mod_lt _ (by decide)), ← setC_store _ _ hxk]
        exact hb1.set _ _
      case measure => simp [intOf]; omega
    · have hke : k = xs.length := by omega
      subst hke
      obtain ⟨⟨p0, p1, p2, p3⟩, ⟨q0, q1, q2, q3⟩⟩ := hb0.set4
      obtain ⟨⟨r0, r1, r2, r3⟩, _⟩ := hb1.set4
      rw [List.take_length] at r0 r1 r2 r3
      clear hb1 ha hcell
      go_wp2
      exact ret_box Tryd.results33 rfl (hb0.store4 rfl _ _ _ _) Tryd.underlying53 rfl (by kernel_rfl) rfl ⟨rfl, by go_grown⟩
theorem sets_below (n : Nat) (w : World) (h : n ≤ 64) :
    Calls Tryd.prog 85 #[.int .i64 n] w (Ret w (.int .u64 ((2 ^ n - 1 : Nat) : Int))) := by
  by_cases hn : 64 ≤ n
  · obtain rfl : n = 64 := by omega
    go_enter Tryd.func85, Tryd.ntmps85
    go_wp2
    go_ret
    exact ⟨rfl, by go_grown⟩
  · go_enter Tryd.func85, Tryd.ntmps85
    go_wp2
    go_ret
    refine ⟨?_, by go_grown⟩
    refine congrArg (fun z => Ending.returned (.int .u64 z)) ?_
    have h1 := two_pow_lt64 n (by omega)
    have h2 : 0 < 2 ^ n := Nat.two_pow_pos n
    rw [wrap_two_pow n (by omega), show ((2 ^ n : Nat) : Int) - 1 = ((2 ^ n - 1 : Nat) : Int) from (Int.ofNat_sub h2).symm, IntKind.wrap_u64]
    exact Int.emod_eq_of_lt (Int.natCast_nonneg _) (Int.ofNat_lt.2 (Nat.lt_of_le_of_lt (Nat.sub_le _ _) h1))
set_option maxRecDepth 20000 in
set_option maxHeartbeats 400000 in
theorem sets_Span (lo hi : Nat) (w : World) (hlo : lo < 256) (hhi : hi < 256) :
    Calls Tryd.prog 80 #[.int .u8 lo, .int .u8 hi] w (Ret w (setV (ofP fun b => decide (lo ≤ b) && decide (b ≤ hi)))) := by
  by_cases hlh : hi < lo
  · go_enter Tryd.func80, Tryd.ntmps80
    go_wp2
    have e : (ofP fun b => decide (lo ≤ b) && decide (b ≤ hi)) = 0 := (eq_ofP 0 _ fun b _ => by rw [mem_zero]; by_cases h : lo ≤ b <;> simp [h]; omega).symm
    rw [e]
    have hz := setC_zero
    unfold setV
    rw [hz]
    exact ret_box Tryd.results80 rfl ((Box.new' rfl _ _).alloc _) Tryd.underlying53 rfl (by kernel_rfl) rfl ⟨rfl, by go_grown⟩
  · go_enter Tryd.func80, Tryd.ntmps80
    go_wp2
    go_loopw [13] (fun i wr => ∃ k : Nat, k ≤ 4 ∧ i = .int .i64 k ∧ Box wr w.heap.size (setC 0) 53 ∧ Box wr (w.heap.size + 1) (setC (ofP fun b => decide (lo ≤ b) && decide (b ≤ hi) && decide (b < 64 * k))) 53 ∧ Below w.heap.size w wr) (fun i _ => 4 - (intOf i).toNat)
    case atStart =>
      refine ⟨0, Nat.zero_le _, rfl, ?_, ?_, by go_grown⟩
      · rw [setC_zero]; exact (Box.new' rfl _ _).alloc _
      · rw [show (ofP fun b => decide (lo ≤ b) && decide (b ≤ hi) && decide (b < 64 * 0)) = 0 from (eq_ofP 0 _ fun b _ => by rw [mem_zero]; simp).symm, setC_zero]; exact Box.new' (World.size_alloc _ _).symm _ _
    case round =>
      obtain ⟨k, hk, rfl, hb0, hb1, hB⟩ := hrel
      by_cases hlt : k < 4
      · obtain ⟨f, hf, hf2⟩ : ∃ f : Nat, (if (lo : Int) - 64 * (k : Int) < 0 then 0 else (lo : Int) - 64 * (k : Int)) = (f : Int) ∧ f = lo - 64 * k := ⟨lo - 64 * k, by split <;> omega, rfl⟩
        obtain ⟨T, hT, hT2⟩ : ∃ T : Int, (if 64 < (hi : Int) + 1 - 64 * (k : Int) then 64 else (hi : Int) + 1 - 64 * (k : Int)) = T ∧ T = min 64 ((hi : Int) + 1 - 64 * k) := ⟨_, rfl, by split <;> omega⟩
        have HF := Lib.hid hf2
        have HT := Lib.hid hT2
        have hT64 : T ≤ 64 := by omega
        by_cases hft : (f : Int) < T
        · obtain ⟨t, rfl⟩ := Int.eq_ofNat_of_zero_le (show 0 ≤ T by omega)
          clear hf2 hT2
          have ht64 : t ≤ 64 := by omega
          have hf64 : f ≤ 64 := by omega
          obtain ⟨x, hx, hx64, hbits⟩ := andNot_below f t hf64 ht64
          have HB := Lib.hid hbits
          clear hbits
          go_wp2_with (first | (go_at_call_of 85 ((Value.int IntKind.i64 (t : Int))); refine (sets_below t _ ht64).mono ?_; rintro e w1 ⟨rfl, hb⟩; have hx1 := hb1.kept hb; have hx0 := hb0.kept hb; have hB1 := hB.trans (hb.mono hB.size)) | (go_at_call_of 85 ((Value.int IntKind.i64 (f : Int))); refine (sets_below f _ hf64).mono ?_; rintro e w2 ⟨rfl, hc⟩; have hy1 := hx1.kept hc; have hy0 := hx0.kept hc; have hB2 := hB1.trans (hc.mono hB1.size); have hyc := hy1.setw hlt; have hyf := hy1.free k))
          go_roundw
          case rel =>
            refine ⟨k + 1, hlt, by go_num, hy0.other _ _ (by simp), ?_, by go_grown⟩
            have hw : x = word (ofP fun b => decide (lo ≤ b) && decide (b ≤ hi) && decide (b < 64 * (k + 1))) k := by
              refine word_of_bits _ _ _ hx64 fun j hj => ?_
              have h1 := HF.out; have h2 := HT.out
              rw [HB.out j hj, mem_ofP, Bool.eq_iff_iff]
              simp only [Bool.and_eq_true, decide_eq_true_eq]
              omega
            rw [hw, ← setC_set (ofP fun b => decide (lo ≤ b) && decide (b ≤ hi) && decide (b < 64 * k)) _ k hlt]
            · exact hy1.set _ _
            · intro j hj hjk
              refine word_of_bits _ _ _ (word_lt _ _) fun i hi' => ?_
              rw [word_testBit, mem_ofP, mem_ofP, Bool.eq_iff_iff]
              simp only [Bool.and_eq_true, decide_eq_true_eq]
              omega
          case measure => simp [intOf]; omega
        · clear hf2 hT2
          have e : (ofP fun b => decide (lo ≤ b) && decide (b ≤ hi) && decide (b < 64 * (k + 1))) = (ofP fun b => decide (lo ≤ b) && decide (b ≤ hi) && decide (b < 64 * k)) := by
            have h1 := HF.out; have h2 := HT.out
            refine ofP_congr fun b _ => ?_
            rw [Bool.eq_iff_iff]; simp only [Bool.and_eq_true, decide_eq_true_eq]
            omega
          have HE := Lib.hid e
          clear e
          go_wp2
          go_roundw
          case rel => exact ⟨k + 1, hlt, by go_num, hb0, by rw [HE.out]; exact hb1, hB⟩
          case measure => simp [intOf]; omega
      · obtain rfl : k = 4 := by omega
        have e : (ofP fun b => decide (lo ≤ b) && decide (b ≤ hi) && decide (b < 64 * 4)) = (ofP fun b => decide (lo ≤ b) && decide (b ≤ hi)) := ofP_congr fun b hb => by simp [show b < 64 * 4 by omega]
        rw [e] at hb1
        clear e
        obtain ⟨⟨p0, p1, p2, p3⟩, ⟨q0, q1, q2, q3⟩⟩ := hb0.set4
        obtain ⟨⟨r0, r1, r2, r3⟩, _⟩ := hb1.set4
        go_wp2
        exact ret_box Tryd.results80 rfl (hb0.store4 rfl _ _ _ _) Tryd.underlying53 rfl (by kernel_rfl) rfl ⟨rfl, by go_grown⟩
end Go.Proofs.YtdhmekpgplajmaaDoor
end
section
namespace Go.Proofs.YtdhmekpgplajmaaDoor
open Go.RowKit

theorem info_256 : (Tryd.prog.info? 22).map (fun i => (i.zero, i.size)) = some (some (.agg (arr8 fun _ => 0)), 256) := by kernel_rfl
theorem zeroV_256 (w : World) : (zeroValue 22).run Tryd.prog w = .ok (.agg (arr8 fun _ => 0)) w := (zero_of_info info_256).1 w
theorem size_256 (f : Nat → Nat) : (Tryd.prog.info? 22).map (·.size) = some (arr8 f).size := by rw [arr8_size]; exact (zero_of_info info_256).2


theorem key_u8 : KeyOK Tryd.prog 5 (fun n : Int => Value.int .u8 n) := keyOK_int Tryd.underlying5
set_option maxRecDepth 20000 in
set_option maxHeartbeats 400000 in
theorem number_u8 (k : Nat → Int) (p : Value) (w : World)
    (hkey : ∀ b : Nat, b < 256 → ∀ w', Below w.heap.size w w' → Calls Tryd.prog 48 #[.int .i64 b, p] w' (Ret w' (.int .u8 (k b)))) :
    Calls Tryd.prog 47 #[.func (.func 48) #[] #[p]] w (Ret w (.tuple #[.agg (arr8 (numR (Kern k))), .int .i64 (widR (Kern k) : Nat)])) := by
  have E := kern_equi k
  have hz := zeroV_256
  have hmm := @run_makeMap Tryd.prog
  have HK := Lib.hid hkey
  clear hkey
  generalize hR : Kern k = R at *
  have HR := Lib.hid hR
  clear hR
  go_enter Tryd.func47, Tryd.ntmps47
  go_wp2
  go_loopw [11] (fun i wr => ∃ n : Nat, n ≤ 256 ∧ i = .int .i64 n ∧ Box wr w.heap.size (arr8 fun _ => 0) 22 ∧ Box wr (w.heap.size + 1) (arr8 fun b => if b < n then numR R b else 0) 22 ∧ MapBox wr (w.heap.size + 1 + 1) (fun n : Int => Value.int .u8 n) (kvsOf k (reps R n)) ∧ Below w.heap.size w wr) (fun i _ => 256 - (intOf i).toNat)
  case atStart =>
    refine ⟨0, Nat.zero_le _, rfl, ((Box.new' rfl _ _).alloc _).alloc _, ?_, ?_, by go_grown⟩
    · rw [arr8_congr (g := fun _ => 0) (fun i _ => by simp)]; exact (Box.new' (World.size_alloc _ _).symm _ _).alloc _
    · rw [kvsOf_zero]; refine MapBox.new' ?_ _; simp
  case round =>
    obtain ⟨n, hn, rfl, hb0, hb1, hm, hB⟩ := hrel
    by_cases hlt : n < 256
    · have hlook := look_kvsOf k n (reps R n)
      rw [HR.out] at hlook
      have hlen := reps_length R n
      cases hany : (reps R n).any (R n) with
      | true =>
        obtain ⟨e1, e2⟩ := numR_old E.refl hlt hany
        rw [e2] at hlook
        have HL := Lib.hid hlook
        have HE := Lib.hid e1
        clear hlook e1 e2 hany
        go_wp2_with (go_at_call 48; go_must (refine (HK.out n hlt _ hB).mono ?_; rintro e w1 ⟨rfl, hb⟩; have hB1 := (hB.trans (hb.mono hB.size)); have hx0 := (hb0.kept hb); have hx1 := (hb1.kept hb); have hm1 := (hm.kept hb); have hrun := hm1.run_look key_u8 Tryd.underlying113 (Tryd.zeroValue5 _) (k n); rw [HL.out] at hrun; have hc := (hx1.cell n).trans (arr8_get _ n hlt); have hf := hx1.free n))
        go_roundw
        case rel =>
          refine ⟨n + 1, hlt, by go_num, hx0.other _ _ (by simp), ?_, ?_, by go_grown⟩
          · have := hx1.set n (.int .u8 (numR R n : Nat))
            rw [arr8_set, arr8_congr (g := fun b => if b < n + 1 then numR R b else 0) (number_step rfl)] at this
            exact this
          · rw [HE.out]; exact hm1.other _ _ (by simp)
        case measure => simp [intOf]; omega
      | false =>
        obtain ⟨e1, e2⟩ := numR_new E.refl hlt hany
        rw [posR_none hany] at hlook
        have HL := Lib.hid hlook
        have HE := Lib.hid e1
        have HN := Lib.hid e2
        clear hlook e1 e2 hany
        go_wp2_with (go_at_call 48; go_must (refine (HK.out n hlt _ hB).mono ?_; rintro e w1 ⟨rfl, hb⟩; have hB1 := (hB.trans (hb.mono hB.size)); have hx0 := (hb0.kept hb); have hx1 := (hb1.kept hb); have hm1 := (hm.kept hb); have hrun := hm1.run_look key_u8 Tryd.underlying113 (Tryd.zeroValue5 _) (k n); rw [HL.out] at hrun; have hlen1 := hm1.run_len Tryd.underlying113 3 _ (kvsOf_length k (reps R n)); obtain ⟨w2, hput, hm2, hoth, hsz2, hbel⟩ := hm1.run_put key_u8 Tryd.underlying113 (k n) (.int .u8 ((reps R n).length : Nat)); have hy0 := hx0.turn hoth (by omega); have hy1 := hx1.turn hoth (by omega); have hB2 := hB1.trans (hbel w.heap.size (by omega)); have hlk : look (k n) (kvsOf k (reps R n)) = none := HL.out; rw [putIn_none _ _ _ hlk, ← kvsOf_snoc] at hm2; have hc := (hy1.cell n).trans (arr8_get _ n hlt); have hf := hy1.free n; have hconv := wrap_u8_nat (reps R n).length (by omega);  clear hoth hbel hsz2 hlk))
        go_roundw
        case rel =>
          refine ⟨n + 1, hlt, by go_num, hy0.other _ _ (by simp), ?_, ?_, by go_grown⟩
          · have := hy1.set n (.int .u8 ((reps R n).length : Nat))
            rw [arr8_set, arr8_congr (g := fun b => if b < n + 1 then numR R b else 0) (number_step HN.out)] at this
            exact this
          · rw [HE.out]; exact hm2.other _ _ (by simp)
        case measure => simp [intOf]; omega
    · obtain rfl : n = 256 := by omega
      have hlen1 := hm.run_len Tryd.underlying113 3 _ (kvsOf_length k (reps R 256))
      rw [arr8_congr (g := numR R) (fun i hi => if_pos hi)] at hb1
      go_wp2_with (first | (refine wpList_load_row rfl 22 (.tmp 4) rfl (w.heap.size + 1) rfl _ _ _ _ hb1 Tryd.underlying22 rfl (size_256 _) ?_) | (refine wpList_store_row rfl 22 (.tmp 2) (.tmp 35) rfl w.heap.size _ rfl rfl _ _ hb0 (size_256 _) (by rw [arr8_size, arr8_size]) (arr8_all _) ?_))
      refine ret_box_tmp Tryd.results47 rfl rfl (hb0.setRow _) Tryd.underlying22 rfl (size_256 _) rfl ⟨?_, below_setRow hB (Nat.le_refl _) _⟩
      rw [widR_def]; rfl
end Go.Proofs.YtdhmekpgplajmaaDoor
end
section
namespace Go.Proofs.YtdhmekpgplajmaaDoor
open Go.RowKit



end Go.Proofs.YtdhmekpgplajmaaDoor
end
section
namespace Go.Proofs.YtdhmekpgplajmaaDoor
open Go.RowKit

/-- No set of l tells b and c apart. -/
def RL (l : List BSet) (b c : Nat) : Bool := l.all fun s => mem s b == mem s c
theorem RL_equi (l : List BSet) : Equi (RL l) := by
  refine ⟨fun b => by simp [RL], fun {b c} h => ?_, fun {b c d} h k => ?_⟩ <;> simp only [RL, List.all_eq_true, beq_iff_eq] at *
  · exact fun s hs => (h s hs).symm
  · exact fun s hs => (h s hs).trans (k s hs)
theorem RL_snoc (l : List BSet) (s : BSet) (b c : Nat) : RL (l ++ [s]) b c = (RL l b c && (mem s b == mem s c)) := by simp [RL]
/-- The key of a byte, behind one set more. -/
def keyOf2 (R : Nat → Nat → Bool) (s : BSet) (b : Nat) : Int × Int := ((numR R b : Nat), if mem s b then 1 else 0)
theorem kern_keyOf2 {R : Nat → Nat → Bool} (E : Equi R) (s : BSet) {b c : Nat} (hb : b < 256) (hc : c < 256) : Kern (keyOf2 R s) b c = (R b c && (mem s b == mem s c)) := by
  rw [Bool.eq_iff_iff]
  simp only [Kern, keyOf2, decide_eq_true_eq, Prod.mk.injEq, Bool.and_eq_true, beq_iff_eq]
  rw [show (((numR R b : Nat) : Int) = ((numR R c : Nat) : Int)) ↔ numR R b = numR R c by omega, numR_eq E hb hc]
  cases mem s b <;> cases mem s c <;> simp

end Go.Proofs.YtdhmekpgplajmaaDoor
end
