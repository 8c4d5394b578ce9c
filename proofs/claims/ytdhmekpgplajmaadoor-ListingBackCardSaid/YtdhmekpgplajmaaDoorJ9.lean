/- Joined by tools/merge.py: Quote, Show. -/
import Derived.Test.YtdhmekpgplajmaaDoorProg
import Derived.Test.YtdhmekpgplajmaaDoorJ8
import Derived.Test.YtdhmekpgplajmaaDoorJ2
import Derived.Test.YtdhmekpgplajmaaDoorJ3
import Derived.Deep.DeepCutAuto
section
namespace Go.Proofs.YtdhmekpgplajmaaDoor
open Go.RowKit
/-- Does a byte stand for itself? -/
def plainN (x : Nat) : Bool := decide (33 ≤ x) && decide (x ≤ 126) && !(x == 92)
def plainS : BSet := ofWords 18446744065119617024 9223372036586340351 0 0
theorem plainS_words : word plainS 0 = 18446744065119617024 ∧ word plainS 1 = 9223372036586340351 ∧ word plainS 2 = 0 ∧ word plainS 3 = 0 := by
  have := word_ofWords 18446744065119617024 9223372036586340351 0 0
  unfold plainS
  simpa using this
theorem plainS_mem : ∀ x, x < 256 → mem plainS x = plainN x := by
  have h : (List.range 256).all (fun x => mem plainS x == plainN x) = true := by decide +kernel
  intro x hx
  have := List.all_eq_true.1 h x (by simpa using hx)
  simpa using this
def hexL : List UInt8 := [48, 49, 50, 51, 52, 53, 54, 55, 56, 57, 97, 98, 99, 100, 101, 102]
def hexd (d : Nat) : UInt8 := hexL.getD d 0
/-- A byte's text. -/
def oneB (x : UInt8) : List UInt8 := if plainN x.toNat then [x] else [92, 120, hexd (x.toNat / 16), hexd (x.toNat % 16)]
def quoteL (l : List UInt8) : List UInt8 := if l = [] then [92, 101] else l.flatMap oneB
theorem oneB_length (x : UInt8) : (oneB x).length ≤ 4 := by unfold oneB; split <;> simp
theorem flatMap_oneB_length (l : List UInt8) : (l.flatMap oneB).length ≤ l.length * 4 := by
  induction l with
  | nil => simp
  | cons a l ih => rw [List.flatMap_cons, List.length_append, List.length_cons]; have := oneB_length a; omega
set_option maxHeartbeats 400000 in
theorem quote_Plain (x : Nat) (w : World) (hx : x < 256) : Calls Tryd.prog 64 #[.int .u8 x] w (Ret w (.bool (plainN x))) := by
  obtain ⟨h0, h1, h2, h3⟩ := plainS_words
  have hxi := words_get plainS (x / 64) (by omega)
  have hm := plainS_mem x hx
  rw [h0, h1, h2, h3] at hxi
  have hz := word_lt plainS (x / 64)
  have hao := and_one (word plainS (x / 64)) (x % 64) hz
  have hmw := mem_word plainS x
  rw [← hmw, hm] at hao
  clear h0 h1 h2 h3 hm hmw
  have hxi : [Value.int .u64 18446744065119617024, .int .u64 9223372036586340351, .int .u64 0, .int .u64 0][x / 64]? = some (.int .u64 (word plainS (x / 64) : Nat)) := hxi
  generalize word plainS (x / 64) = q at *
  generalize plainN x = b at *
  go_enter Tryd.func64, Tryd.ntmps64
  go_wp2
  go_ret
  exact ⟨rfl, later_alloc _ _⟩
theorem hexL_get (d : Nat) (h : d < 16) : hexL[d]'(by simpa [hexL] using h) = hexd d := by
  unfold hexd; rw [List.getD_eq_getElem?_getD, List.getElem?_eq_getElem (by simpa [hexL] using h)]; rfl
theorem quote_Digit (d : Nat) (w : World) (hd : d < 16) : Calls Tryd.prog 65 #[.int .i64 d] w (Ret w (.int .u8 ((hexd d).toNat : Nat))) := by
  have hx := hexL_get d hd
  have hd0 : (0 : Int) ≤ (d : Int) := by omega
  have hd1 : ¬ (15 : Int) < (d : Int) := by omega
  have hd2 : (d : Int) < 16 := by omega
  have HX := Lib.hid hx
  clear hx
  go_enter Tryd.func65, Tryd.ntmps65
  go_wp2
  go_ret
  exact ⟨by rw [← HX.out]; rfl, Below.refl _ _⟩
theorem ret_bool {w : World} {a b : Bool} (h : a = b) : Ret w (.bool a) (.returned (.bool b)) w := ⟨by rw [h], Below.refl _ _⟩
theorem elem_u8q : ElemOK Tryd.prog 38 5 (.int .u8 0) 1 1 := ⟨Tryd.underlying38, info_parts (by kernel_rfl), rfl, by decide⟩
set_option maxHeartbeats 1600000 in
theorem quote_Quote (a : Option Addr) (cap n : Nat) (xs : List UInt8) (w : World) (h : SliceR w (.slice a n cap) 1 encU xs) (hn4 : n * 4 ≤ 140737488355328) :
    Calls Tryd.prog 52 #[.slice a n cap] w (Ret w (sv (quoteL xs))) := by
  obtain ⟨b, o, hlen, hcap, hcap', ha, hcell⟩ := h.cells1
  by_cases h0 : n = 0
  · have e : xs = [] := List.eq_nil_of_length_eq_zero (by omega)
    subst h0
    rw [e, quoteL, if_pos rfl]
    clear hlen hcell ha e h
    go_enter Tryd.func52, Tryd.ntmps52
    go_wp2
    go_ret
    exact ⟨rfl, Below.refl _ _⟩
  · have e : quoteL xs = xs.flatMap oneB := by rw [quoteL, if_neg]; intro e; rw [e] at hlen; simp at hlen; omega
    rw [e]
    obtain rfl := ha 0 (by omega)
    have hc0 : (n : Int) ≠ 0 := by omega
    have hfl := fun k => flatMap_oneB_length (xs.take k)
    have HC := Lib.hid hcell
    have HL := Lib.hid hlen
    have HFL := Lib.hid hfl
    have hne : ((n : Int) == 0) = false := by simp; omega
    clear hlen hcell ha e h hfl
    go_enter Tryd.func52, Tryd.ntmps52
    go_wp2_with (refine wpList_makeO0 rfl 38 _ _ rfl elem_u8q encU_ok n rfl rfl (by omega) (by simp [maxLen]; omega) w.heap.size (Nat.le_refl _) ?_; intro w1 ho hg)
    have hB1 : Below w.heap.size w w1 := (Below.refl _ _).grown hg (Nat.le_refl _) (fun k hk => by cases hk)
    go_loopw [3, 14] (fun v i wr => ∃ (k m : Nat) (a' : Option Addr) (cap' : Nat), k ≤ n ∧ i = .int .i64 k ∧ v = .slice a' m cap' ∧ Own wr w.heap.size 5 1 encU (.slice a' m cap') ((xs.take k).flatMap oneB) ∧ Below w.heap.size w wr) (fun _ i _ => n - (intOf i).toNat)
    case atStart => exact ⟨0, 0, _, n, Nat.zero_le _, rfl, rfl, ho, hB1⟩
    case round =>
      clear ho hB1 hg
      obtain ⟨k, m, a', cap', hk, rfl, rfl, hown, hB⟩ := hrel
      by_cases hlt : k < n
      · have hk2 : k < xs.length := by rw [← HL.out]; exact hlt
        have c0 := HC.out k hk2 wr hB
        have hm := hown.open.1
        have hml := HFL.out k
        have hkl : (xs.take k).length ≤ k := List.length_take_le _ _
        have htk : (xs.take (k + 1)).flatMap oneB = (xs.take k).flatMap oneB ++ oneB xs[k] := by
          rw [List.take_succ_eq_append_getElem hk2, List.flatMap_append]; simp
        have hp := fun w => quote_Plain xs[k].toNat w xs[k].toNat_lt
        generalize xs[k] = x at *
        generalize (xs.take k).flatMap oneB = ys at *
        have hx := x.toNat_lt
        have HM := Lib.hid hm
        have hmb : m ≤ 4 * k := by omega
        have hysb : ys.length ≤ 4 * k := by omega
        clear hm hml hkl
        have hk0 : (0 : Int) ≤ (k : Int) := by omega
        have hkm : (k : Int) < (n : Int) := by omega
        have hob : oneB x = if plainN x.toNat then [x] else [92, 120, hexd (x.toNat / 16), hexd (x.toNat % 16)] := rfl
        cases hpx : plainN x.toNat with
        | true =>
          rw [hpx, if_pos rfl] at hob
          rw [hob] at htk
          rw [hpx] at hp
          have HTK := Lib.hid htk
          have HP := Lib.hid hp
          clear htk hp hpx hob
          go_wp2_with (first | (go_at_call 64; go_must (refine (HP.out _).mono ?_; rintro e w5 ⟨rfl, hb5⟩; have hown5 := hown.kept hb5)) | (at_builtin; go_must (refine wpList_append1 rfl _ _ 38 rfl elem_u8q encU_ok rfl (hown5.alloc _) ⟨w5.heap.size, 0, none⟩ 1 x rfl (new_cells w5 [.int .u8 (x.toNat : Nat)] _) (by simp [maxLen]; omega) (by omega) (by have := hb5.size; have := hB.size; simp at *; omega) ?_; intro a2 cap2 W' hown' hg)))
          go_roundw
          case rel =>
            have h6 := hB.trans (hb5.mono hB.size)
            have h7 := h6.alloc h6.size (.cells #[.int .u8 (x.toNat : Nat)] 5)
            exact ⟨k + 1, _, a2, cap2, hlt, by go_num, rfl, by rw [HTK.out]; exact hown', below_grown h7 (hown5.alloc _) hg (Nat.le_refl _) h7.size⟩
          case measure => simp [intOf]; omega
        | false =>
          rw [hpx, if_neg (by simp)] at hob
          rw [hob] at htk
          rw [hpx] at hp
          have HTK := Lib.hid htk
          have HP := Lib.hid hp
          clear htk hp hpx hob
          have hp1 : x.toNat / 16 < 16 := by omega
          have hr1 : x.toNat % 16 < 16 := by omega
          have hq1 : (x.toNat : Int) / 16 = ((x.toNat / 16 : Nat) : Int) := by omega
          have hq2 : (x.toNat : Int) % 16 = ((x.toNat % 16 : Nat) : Int) := by omega
          have hd1 := fun w => quote_Digit (x.toNat / 16) w hp1
          have hd2 := fun w => quote_Digit (x.toNat % 16) w hr1
          generalize x.toNat / 16 = p at *
          generalize x.toNat % 16 = r at *
          have HD1 := Lib.hid hd1
          have HD2 := Lib.hid hd2
          clear hd1 hd2
          go_wp2_with fail
          refine (HP.out _).mono ?_
          rintro e w5 ⟨rfl, hb5⟩
          go_wp2_with fail
          refine (HD1.out _).mono ?_
          rintro e w6 ⟨rfl, hb6⟩
          go_wp2_with fail
          refine (HD2.out _).mono ?_
          rintro e w7 ⟨rfl, hb7⟩
          have h6 := ((hB.trans (hb5.mono hB.size)).trans (hb6.mono (by have := hB.size; have := hb5.size; omega))).trans (hb7.mono (by have := hB.size; have := hb5.size; have := hb6.size; omega))
          have hown7 := ((hown.kept hb5).kept hb6).kept hb7
          generalize hexd p = dp at *
          generalize hexd r = dr at *
          clear hb5 hb6 hb7 hown hB
          go_wp2_with (at_builtin; go_must (refine wpList_appendN rfl _ _ 38 rfl elem_u8q encU_ok rfl (hown7.alloc _) ⟨w7.heap.size, 0, none⟩ 4 [92, 120, dp, dr] rfl (new_cells w7 [.int .u8 92, .int .u8 120, .int .u8 (dp.toNat : Nat), .int .u8 (dr.toNat : Nat)] _) (by simp [maxLen]; omega) (by simp; omega) (by have := h6.size; simp at *; omega) ?_; intro a2 cap2 W' hown' hg))
          go_roundw
          case rel =>
            have h7 := h6.alloc h6.size (.cells #[.int .u8 92, .int .u8 120, .int .u8 (dp.toNat : Nat), .int .u8 (dr.toNat : Nat)] 5)
            exact ⟨k + 1, _, a2, cap2, hlt, by go_num, rfl, by rw [HTK.out]; exact hown', below_grown h7 (hown7.alloc _) hg (Nat.le_refl _) h7.size⟩
          case measure => simp [intOf]; omega
      · obtain rfl : k = n := by omega
        have htk : xs.take k = xs := List.take_of_length_le (by rw [← HL.out]; exact Nat.le_refl _)
        rw [htk] at hown
        have hm := hown.open.1
        have hcs := conv_strU (P := Tryd.prog) (src := 38) (dst := 9) Tryd.underlying38 Tryd.underlying5 Tryd.underlying9 hm (hown.slice encU_ok)
        generalize xs.flatMap oneB = ys at *
        clear hm hown
        go_wp2
        go_ret
        exact ⟨rfl, hB⟩
end Go.Proofs.YtdhmekpgplajmaaDoor
end
section
namespace Go.Proofs.YtdhmekpgplajmaaDoor
open Go.RowKit
/-- The array of digits, j of them written. -/
def DigA (k j g : Nat) (w : World) : Prop := ∃ c : Array Value, Box w g c 71 ∧ c.size = 20 ∧ ∀ i, i < j → c[19 - i]? = some (.int .u8 ((dig ((k / 10 ^ i) % 10)).toNat : Nat))
theorem DigA.slice {k j g : Nat} {w : World} (h : DigA k (j + 1) g w) (hj : j < 20) : SliceR w (.slice (some ⟨g, 19 - j, none⟩) (j + 1) (j + 1)) 1 encU (digs k (j + 1)) := by
  obtain ⟨c, hb, hs, hc⟩ := h
  refine ⟨_, g, 19 - j, j + 1, by rw [digs_length], by rw [digs_length]; exact Nat.le_refl _, by simp [maxLen]; omega, .inl rfl, fun i hi q u hu => ?_⟩
  rw [digs_length] at hi
  rw [digs_get] at hu
  have hq : q = 0 := by have := (List.getElem?_eq_some_iff.1 hu).1; simp [encU] at this; omega
  subst hq
  rw [hb.cell]
  have := hc (j - i) (by omega)
  rw [show 19 - j + i * 1 + 0 = 19 - (j - i) by omega, this]
  rw [show j + 1 - 1 - i = j - i by omega] at hu
  exact hu
theorem DigA.put {k j g : Nat} {w : World} (h : DigA k j g w) (hj : j < 20) : DigA k (j + 1) g (w.setCell ⟨g, 19 - j, none⟩ (.int .u8 ((dig ((k / 10 ^ j) % 10)).toNat : Nat))) := by
  obtain ⟨c, hb, hs, hc⟩ := h
  refine ⟨_, hb.set _ _, by simpa using hs, fun i hi => ?_⟩
  rw [Array.getElem?_setIfInBounds]
  by_cases hij : i = j
  · subst hij; simp; omega
  · rw [if_neg (by omega)]; exact hc i (by omega)
set_option maxRecDepth 20000 in
theorem slice20 (g p j : Nat) (hp : 19 - j = p) (hj : j < 20) (w : World) : (Instr.sliceAt 71 (.pointer (some ⟨g, 0, none⟩)) (some (.int .i64 (p : Nat))) none none).run Tryd.prog w = .ok (.slice (some ⟨g, p, none⟩) (j + 1) (j + 1)) w := by
  have hu := Tryd.underlying71
  have := run_sliceAt_array_l (P := Tryd.prog) w 71 ⟨g, 0, none⟩ (by kernel_rfl) .i64 (p : Nat) (by omega) (by rw [show Tryd.prog.arrayLen 71 = 20 by kernel_rfl]; omega)
  rw [this, show Tryd.prog.arrayLen 71 = 20 by kernel_rfl, show Tryd.prog.elem 71 = 5 by kernel_rfl, Tryd.sizeOf5]
  simp only [Result.andThen_ok, slicedAt, Int.toNat_natCast, Nat.mul_one, Addr.add_mid, Nat.zero_add]
  rw [show 20 - p = j + 1 by omega]
  congr 3
  split
  · omega
  · rfl
set_option maxHeartbeats 800000 in
set_option maxRecDepth 20000 in
theorem num_Show (n : Int) (w : World) (hn : n ≤ 9223372036854775807) (hn0 : -9223372036854775808 ≤ n) : Calls Tryd.prog 13 #[.int .i64 n] w (Ret w (sv (showI n))) := by
  by_cases h0 : n < 0
  · have e : showI n = [] := by rw [showI, if_pos h0]
    rw [e]
    go_enter Tryd.func13, Tryd.ntmps13
    go_wp2
    go_ret
    exact ⟨rfl, Below.refl _ _⟩
  · obtain ⟨k, rfl⟩ : ∃ k : Nat, n = k := ⟨n.toNat, by omega⟩
    have hz : ∀ w, (zeroValue 71).run Tryd.prog w = .ok (.agg (Array.replicate 20 (.int .u8 0))) w := fun w => by
      have := Tryd.zeroValue71 w
      exact this
    go_enter Tryd.func13, Tryd.ntmps13
    go_wp2
    go_loopw [0, 4] (fun v i wr => ∃ j p : Nat, p + j = 20 ∧ (j = 0 ∨ k / 10 ^ j ≠ 0) ∧ v = .int .i64 (k / 10 ^ j : Nat) ∧ i = .int .i64 p ∧ DigA k j w.heap.size wr ∧ Below w.heap.size w wr) (fun v _ _ => (intOf v).toNat)
    case atStart =>
      refine ⟨0, 20, rfl, .inl rfl, by rw [Nat.pow_zero, Nat.div_one], rfl, ⟨_, Box.new w _ _, by simp, fun i hi => by omega⟩, by go_grown⟩
    case round =>
      obtain ⟨j, p, hp, hd, rfl, rfl, hD, hB⟩ := hrel
      have hj : j ≤ 18 := by
        rcases hd with rfl | hd
        · omega
        · rcases Nat.lt_or_ge j 19 with h | h
          · omega
          · exact absurd (Nat.div_eq_of_lt (Nat.lt_of_lt_of_le (show k < 10 ^ 19 by omega) (Nat.pow_le_pow_right (by decide) h))) hd
      obtain ⟨p, rfl⟩ : ∃ q, p = q + 1 := ⟨p - 1, by omega⟩
      have hpj : 19 - j = p := by omega
      have hput := hD.put (show j < 20 by omega)
      have hdd : k / 10 ^ j / 10 = k / 10 ^ (j + 1) := by rw [Nat.div_div_eq_div_mul, ← Nat.pow_succ]
      have hshow := digs_show j k
      have hle : k / 10 ^ j ≤ k := Nat.div_le_self _ _
      rw [hpj] at hput
      obtain ⟨c, hb, hs, _⟩ := hD
      have hc : wr.cell? ⟨w.heap.size, p, none⟩ = some (c[p]'(by omega)) := (hb.cell p).trans (Array.getElem?_eq_getElem (by omega))
      have hf := hb.free p
      generalize c[p]'(by omega) = cp at *
      have hdt := dig_toNat (k / 10 ^ j % 10) (Nat.mod_lt _ (by decide))
      have HS := Lib.hid hshow
      have HD := Lib.hid hd
      have HDD := Lib.hid hdd
      have HP := Lib.hid hput
      generalize hq : k / 10 ^ j = q at *
      generalize dig (q % 10) = d at *
      clear hq hput hshow hd hdd hb hs
      have hw1 : (d.toNat : Int) = 48 + (q : Int) % 10 := by omega
      have HW := Lib.hid hw1
      clear hw1 hdt
      have hq0 : (0 : Int) ≤ (q : Int) := by omega
      have hql : (q : Int) ≤ 9223372036854775807 := by omega
      have hpl : (p : Int) < 20 := by omega
      have hp0 : (0 : Int) ≤ (p : Int) := by omega
      by_cases hz2 : q / 10 = 0
      · have hz3 : ((q : Int) / 10 == 0) = true := by simp; omega
        have hz4 : k / 10 ^ (j + 1) = 0 := by rw [← HDD.out]; exact hz2
        have e := HS.out hz4 HD.out
        have hsl := (HP.out.slice (by omega))
        rw [hpj, e] at hsl
        have hcs := conv_strU (P := Tryd.prog) (src := 38) (dst := 9) Tryd.underlying38 Tryd.underlying5 Tryd.underlying9 (by rw [← e, digs_length]) hsl
        have hsc := slice20 w.heap.size p j hpj (by omega)
        have hB2 := hB.setCell (p := ⟨w.heap.size, p, none⟩) (Nat.le_refl _) (.int .u8 (d.toNat : Nat))
        rw [HW.out] at hcs hB2
        clear e hsl hz4
        go_wp2
        go_ret
        exact ⟨rfl, hB2⟩
      · have hz3 : ((q : Int) / 10 == 0) = false := by simp; omega
        go_wp2
        go_roundw
        case rel =>
          refine ⟨j + 1, p, by omega, .inr (by rw [← HDD.out]; exact hz2), by rw [← HDD.out]; simp, rfl, ?_, ?_⟩
          · rw [← HW.out]; exact HP.out
          · exact hB.setCell (p := ⟨w.heap.size, p, none⟩) (Nat.le_refl _) _
        case measure => simp [intOf]; omega
end Go.Proofs.YtdhmekpgplajmaaDoor
end
