/- What comes in, opened: arrays of integers, sets, slices of sets and of bytes. No program in sight. -/
import Derived.Test.YtinlfbacfmmfpaaDoorPlainParts
import Derived.ProofKit
import Derived.OpenShut
import Derived.ShutString
import Derived.ChangeOld
import Derived.Below
import Derived.Deep.Slices
namespace Go.Proofs.YtinlfbacfmmfpaaDoor
open Go.ChangeShapes Go.WideShapes Go.ChangeAt Go.RowKit Go.Deep
section
variable {H : Type} {enc : TypeId × Value → H} {P : Program} {w : World} {base : Nat} {spare : Nat → Bool} {held : Bool} {fuel : Nat} {t e : TypeId} {cs : List Value} {x : DataW H × List MemPlace}
theorem trod_intarr {n : Nat} {k : IntKind} (ht : P.underlying t = some (.array n e)) (he : P.underlying e = some (.int k)) (hc : P.cellsOf e = 1) (hct : P.cellsOf t = n) (h : DataW.trod enc P w base spare held fuel t cs = some x) :
    ∃ zs : List Int, zs.length = n ∧ cs = zs.map (Value.int k) ∧ ∀ z ∈ zs, (Lit.int k z).wf = true := by
  obtain ⟨xs, m, _, _, hl, hxl, hx⟩ := DataW.trod_array ht h
  rw [hct] at hl
  have key : ∀ i, i < n → ∃ z : Int, cs[i]? = some (.int k z) ∧ (Lit.int k z).wf = true := fun i hi => by
    have h1 := hx i hi
    rw [hc, Nat.mul_one, List.getElem?_eq_getElem (show i < xs.length by omega)] at h1
    obtain ⟨z, h2, _, h3⟩ := DataW.trod_int he h1
    refine ⟨z, ?_, h3⟩
    have := congrArg (fun l : List Value => l[0]?) h2
    simpa using this
  obtain ⟨f, hf⟩ := choose_lt key
  refine ⟨(List.range n).map f, by simp, ?_, fun z hz => ?_⟩
  · apply List.ext_getElem?
    intro i
    by_cases hi : i < n
    · rw [(hf i hi).1]; simp [hi]
    · rw [List.getElem?_eq_none (by omega), List.getElem?_eq_none (by simp; omega)]
  · obtain ⟨i, hi, rfl⟩ := List.mem_map.1 hz
    exact (hf i (by simpa using hi)).2
theorem wf_u64 {z : Int} (h : (Lit.int .u64 z).wf = true) : ∃ n : Nat, z = (n : Int) ∧ n < 2 ^ 64 := by
  have : 0 ≤ z ∧ z ≤ 18446744073709551615 := by simpa [Lit.wf, IntKind.min, IntKind.max, IntKind.bits, IntKind.signed] using h
  exact ⟨z.toNat, by omega, by omega⟩
theorem wf_u8 {z : Int} (h : (Lit.int .u8 z).wf = true) : ∃ n : Nat, z = (n : Int) ∧ n < 256 := by
  have : 0 ≤ z ∧ z ≤ 255 := by simpa [Lit.wf, IntKind.min, IntKind.max, IntKind.bits, IntKind.signed] using h
  exact ⟨z.toNat, by omega, by omega⟩
theorem trod_set (ht : P.underlying t = some (.array 4 e)) (he : P.underlying e = some (.int .u64)) (hc : P.cellsOf e = 1) (hct : P.cellsOf t = 4) (h : DataW.trod enc P w base spare held fuel t cs = some x) :
    ∃ s : BSet, cs = encS s := by
  obtain ⟨zs, hl, rfl, hw⟩ := trod_intarr ht he hc hct h
  match zs, hl with
  | [a, b, c, d], _ =>
    obtain ⟨a, rfl, ha⟩ := wf_u64 (hw a (by simp))
    obtain ⟨b, rfl, hb⟩ := wf_u64 (hw b (by simp))
    obtain ⟨c, rfl, hc⟩ := wf_u64 (hw c (by simp))
    obtain ⟨d, rfl, hd⟩ := wf_u64 (hw d (by simp))
    obtain ⟨e0, e1, e2, e3⟩ := word_ofWords a b c d
    refine ⟨ofWords a b c d, ?_⟩
    simp only [encS, e0, e1, e2, e3, Nat.mod_eq_of_lt ha, Nat.mod_eq_of_lt hb, Nat.mod_eq_of_lt hc, Nat.mod_eq_of_lt hd]
    rfl
theorem trod_arr8 (ht : P.underlying t = some (.array 256 e)) (he : P.underlying e = some (.int .u8)) (hc : P.cellsOf e = 1) (hct : P.cellsOf t = 256) (h : DataW.trod enc P w base spare held fuel t cs = some x) :
    ∃ f : Nat → Nat, cs = (arr8 f).toList ∧ ∀ b, f b < 256 := by
  obtain ⟨zs, hl, rfl, hw⟩ := trod_intarr ht he hc hct h
  have hb : ∀ i, 0 ≤ zs.getD i 0 ∧ zs.getD i 0 < 256 := fun i => by
    by_cases hi : i < zs.length
    · obtain ⟨n, hn, hlt⟩ := wf_u8 (hw zs[i] (List.getElem_mem hi))
      simp only [List.getD, List.getElem?_eq_getElem hi, Option.getD_some, hn]; omega
    · simp [List.getD, List.getElem?_eq_none (show zs.length ≤ i by omega)]
  refine ⟨fun i => (zs.getD i 0).toNat, ?_, fun b => by have := hb b; show (zs.getD b 0).toNat < 256; omega⟩
  apply List.ext_getElem?
  intro i
  by_cases hi : i < 256
  · have := arr8_get (fun i => (zs.getD i 0).toNat) i hi
    rw [← Array.getElem?_toList] at this
    rw [this]
    have h1 := hb i
    rw [List.getElem?_map]
    simp only [List.getD] at h1 ⊢
    rw [List.getElem?_eq_getElem (show i < zs.length by omega)] at h1 ⊢
    simp at h1 ⊢
    omega
  · have h1 : (arr8 fun i => (zs.getD i 0).toNat).toList[i]? = none := List.getElem?_eq_none (by rw [Array.length_toList, arr8_size]; omega)
    rw [h1, List.getElem?_eq_none (by simp; omega)]
/-- A slice of sets that came in. -/
theorem trod_sets {ts : TypeId} (hs : P.underlying ts = some (.slice t)) (ht : P.underlying t = some (.array 4 e)) (he : P.underlying e = some (.int .u64)) (hc : P.cellsOf e = 1) (hct : P.cellsOf t = 4)
    {a : Option Addr} {len cap : Nat} (h : DataW.trod enc P w base spare held fuel ts [.slice a len cap] = some x) : ∃ l : List BSet, len = l.length ∧ SliceR w (.slice a l.length cap) 4 encS l := by
  rcases open_slice hs h with ⟨h0, _⟩ | ⟨a', len', cap', m, n, D, Pl, h0, _, hle, hm, hmm, _, hx⟩
  · simp at h0
    obtain ⟨rfl, rfl, rfl⟩ := h0
    exact ⟨[], rfl, none, 0, 0, 0, rfl, Nat.le_refl _, by simp [maxLen], .inr ⟨rfl, fun _ => rfl⟩, fun i hi => by simp at hi⟩
  · simp at h0
    obtain ⟨rfl, rfl, rfl⟩ := h0
    have hlm : len ≤ m := by rw [hmm]; split <;> omega
    have key : ∀ i, i < len → ∃ s : BSet, ∀ j u, (encS s)[j]? = some u → w.cell? ((a'.add (i * 4)).add j) = some u := fun i hi => by
      obtain ⟨cs', h1, h2⟩ := hx i (by omega)
      obtain ⟨s, rfl⟩ := trod_set ht he hc hct h2
      rw [hct] at h1
      obtain ⟨_, _, h3⟩ := World.cells?_some h1
      exact ⟨s, fun j u hu => by rw [h3 j (by have := (List.getElem?_eq_some_iff.1 hu).1; simpa using this)]; exact hu⟩
    obtain ⟨f, hf⟩ := choose_lt key
    have hspot : 0 < len → a'.spot = none := fun h0 => by
      have := World.cell?_spot (hf 0 h0 0 _ rfl)
      simpa [Addr.add] using this
    obtain ⟨b, o, spot⟩ := a'
    refine ⟨(List.range len).map f, by simp, some ⟨b, o, spot⟩, b, o, cap, by simp, by simpa using hle, hm, ?_, fun i hi j u hu => ?_⟩
    · by_cases h0 : len = 0
      · exact .inr ⟨by simp [h0], fun h => by cases h⟩
      · have h1 := hspot (by omega)
        simp only at h1
        exact .inl (by rw [h1])
    · have hi' : i < len := by simpa using hi
      have := hf i hi' j u (by simpa using hu)
      rw [add_add] at this
      have hs2 : spot = none := hspot (by omega)
      subst hs2
      rw [Addr.add_mid] at this
      rw [Nat.add_assoc]; exact this
theorem okWide_arr {n : Nat} {r : Reach} {v : Value} (ht : P.underlying t = some (.array n e)) (h : Value.okWide P w r base t v) : ∃ cs, v = .agg cs ∧ cs.size = P.cellsOf t := by
  simp only [Value.okWide, ht] at h
  obtain ⟨cs, h1, h2, _⟩ := h
  exact ⟨cs, h1, h2⟩
theorem trod_bytes {ts : TypeId} (hs : P.underlying ts = some (.slice e)) (he : P.underlying e = some (.int .u8)) (hc : P.cellsOf e = 1)
    {a : Option Addr} {len cap : Nat} (h : DataW.trod enc P w base spare held fuel ts [.slice a len cap] = some x) : ∃ l : List Nat, len = l.length ∧ SliceR w (.slice a l.length cap) 1 encB l ∧ ∀ x ∈ l, x < 256 := by
  rcases open_slice1 hs hc h with ⟨h0, _⟩ | ⟨a', len', cap', m, n, V, D, Pl, h0, _, hle, hm, hmm, _, hx⟩
  · simp at h0
    obtain ⟨rfl, rfl, rfl⟩ := h0
    exact ⟨[], rfl, ⟨none, 0, 0, 0, rfl, Nat.le_refl _, by simp [maxLen], .inr ⟨rfl, fun _ => rfl⟩, fun i hi => by simp at hi⟩, by simp⟩
  · simp at h0
    obtain ⟨rfl, rfl, rfl⟩ := h0
    have hlm : len ≤ m := by rw [hmm]; split <;> omega
    have key : ∀ i, i < len → ∃ y : Nat, w.cell? (a'.add i) = some (.int .u8 y) ∧ y < 256 := fun i hi => by
      obtain ⟨h1, h2⟩ := hx i (by omega)
      obtain ⟨z, h3, _, h4⟩ := DataW.trod_int he h2
      obtain ⟨y, rfl, hy⟩ := wf_u8 h4
      exact ⟨y, by rw [h1]; simpa using h3, hy⟩
    obtain ⟨f, hf⟩ := choose_lt key
    have hspot : 0 < len → a'.spot = none := fun h0 => by
      have := World.cell?_spot (hf 0 h0).1
      simpa [Addr.add] using this
    obtain ⟨b, o, spot⟩ := a'
    refine ⟨(List.range len).map f, by simp, ⟨some ⟨b, o, spot⟩, b, o, cap, by simp, by simpa using hle, hm, ?_, fun i hi j u hu => ?_⟩, fun y hy => ?_⟩
    · by_cases h0 : len = 0
      · exact .inr ⟨by simp [h0], fun h => by cases h⟩
      · have h1 := hspot (by omega)
        simp only at h1
        exact .inl (by rw [h1])
    · have hi' : i < len := by simpa using hi
      have := (hf i hi').1
      have hs2 : spot = none := hspot (by omega)
      subst hs2
      rw [Addr.add_mid] at this
      have hj : j = 0 := by have := (List.getElem?_eq_some_iff.1 hu).1; simpa using this
      subst hj
      have e : encB ((List.range len).map f)[i] = encB (f i) := by simp
      rw [e] at hu
      simp at hu
      rw [← hu, Nat.mul_one, Nat.add_zero]; exact this
    · obtain ⟨i, hi, rfl⟩ := List.mem_map.1 hy
      exact (hf i (by simpa using hi)).2
end
end Go.Proofs.YtinlfbacfmmfpaaDoor
