/- Joined by tools/merge.py: ClassShow. -/
import Derived.Test.YtdhmekpgplajmaaGreatDoorR8
import Derived.Test.YtdhmekpgplajmaaGreatDoorR5
import Derived.Test.YtdhmekpgplajmaaGreatDoorR4
import Derived.Test.YtdhmekpgplajmaaGreatDoorR6
import Derived.Deep.DeepCutAuto
section
namespace Go.Proofs.YtdhmekpgplajmaaGreatDoor
open Go.RowKit
/-- May a byte not stand for itself in a class? -/
def specialN (x : Nat) : Bool := x == 10 || x == 92 || x == 91 || x == 93 || x == 94 || x == 45
/-- A byte's text within a class. -/
def charX (x : Nat) : List UInt8 := if x = 10 then [92, 110] else if x = 9 then [92, 116] else if x = 13 then [92, 114] else if specialN x then [92, UInt8.ofNat x] else oneB (UInt8.ofNat x)
theorem charX_length (x : Nat) : (charX x).length ≤ 4 := by
  unfold charX
  split; · simp
  split; · simp
  split; · simp
  split; · simp
  exact oneB_length _
def pieceT (p : Nat × Nat) : List UInt8 := charX p.1 ++ (if p.1 = p.2 then [] else if p.1 + 1 = p.2 then charX p.2 else 45 :: charX p.2)
theorem pieceT_length (p : Nat × Nat) : (pieceT p).length ≤ 9 := by
  unfold pieceT
  have h1 := charX_length p.1
  have h2 := charX_length p.2
  rw [List.length_append]
  split; · simp; omega
  split
  · omega
  · simp; omega
def piecesT (s : BSet) : List UInt8 := (spansL (elems s)).flatMap pieceT
def turnedS (s : BSet) : Bool := (elems s).length == 0 || (decide (128 < (elems s).length) && decide ((elems s).length < 256))
/-- A set's class. -/
def showS (s : BSet) : List UInt8 := if turnedS s then 91 :: 94 :: (piecesT (~~~s) ++ [93]) else 91 :: (piecesT s ++ [93])
theorem spans_ok : ∀ (xs : List Nat), (∀ x ∈ xs, x < 256) → ∀ p ∈ spansL xs, p.1 ≤ p.2 ∧ p.2 < 256 := by
  suffices h : ∀ (xs : List Nat) (l : List (Nat × Nat)), (∀ x ∈ xs, x < 256) → (∀ p ∈ l, p.1 ≤ p.2 ∧ p.2 < 256) → ∀ p ∈ xs.foldl addSpan l, p.1 ≤ p.2 ∧ p.2 < 256 from fun xs hx => h xs [] hx (fun p hp => by simp at hp)
  intro xs
  induction xs with
  | nil => intro l _ h; exact h
  | cons a xs ih =>
    intro l hx hl
    refine ih (addSpan l a) (fun x hx2 => hx x (by simp [hx2])) ?_
    have ha := hx a (by simp)
    rcases List.eq_nil_or_concat l with rfl | ⟨l0, ⟨lo, hi⟩, rfl⟩
    · rw [addSpan_nil]; intro p hp; simp at hp; subst hp; exact ⟨Nat.le_refl _, ha⟩
    · rw [List.concat_eq_append] at hl ⊢
      have h0 := hl (lo, hi) (by simp)
      by_cases hc : hi + 1 = a
      · rw [addSpan_on _ _ _ _ hc]
        intro p hp
        rcases List.mem_append.1 hp with h1 | h1
        · exact hl p (by simp [h1])
        · simp at h1; subst h1; exact ⟨by simp at h0 ⊢; omega, ha⟩
      · rw [addSpan_new _ _ _ _ hc]
        intro p hp
        rcases List.mem_append.1 hp with h1 | h1
        · exact hl p h1
        · simp at h1; subst h1; exact ⟨Nat.le_refl _, ha⟩
theorem spans_elems (s : BSet) : ∀ p ∈ spansL (elems s), p.1 ≤ p.2 ∧ p.2 < 256 := spans_ok _ fun _ hx => elems_lt hx
theorem flatMap_pieceT_length (l : List (Nat × Nat)) : (l.flatMap pieceT).length ≤ l.length * 9 := by
  induction l with
  | nil => simp
  | cons a l ih => rw [List.flatMap_cons, List.length_append, List.length_cons]; have := pieceT_length a; omega
theorem spans_count (s : BSet) : (spansL (elems s)).length ≤ 256 := Nat.le_trans (spansL_length _) (elems_length s)
theorem class_special (x : Nat) (w : World) (hx : x < 256) : Calls Tryz.prog 91 #[.int .u8 x] w (Ret w (.bool (specialN x))) := by
  by_cases h : specialN x = true
  · rw [h]
    unfold specialN at h
    simp only [Bool.or_eq_true, beq_iff_eq] at h
    go_enter Tryz.func91, Tryz.ntmps91
    rcases h with ((((rfl | rfl) | rfl) | rfl) | rfl) | rfl
    all_goals
      go_wp2
      go_ret
      exact ⟨rfl, Below.refl _ _⟩
  · have h := Bool.eq_false_iff.2 h
    rw [h]
    unfold specialN at h
    simp only [Bool.or_eq_false_iff, beq_eq_false_iff_ne] at h
    obtain ⟨⟨⟨⟨⟨h1, h2⟩, h3⟩, h4⟩, h5⟩, h6⟩ := h
    have e1 : ((x : Int) == 10) = false := by simp; omega
    have e2 : ((x : Int) == 92) = false := by simp; omega
    have e3 : ((x : Int) == 91) = false := by simp; omega
    have e4 : ((x : Int) == 93) = false := by simp; omega
    have e5 : ((x : Int) == 94) = false := by simp; omega
    have e6 : ((x : Int) == 45) = false := by simp; omega
    go_enter Tryz.func91, Tryz.ntmps91
    go_wp2
    go_ret
    exact ⟨rfl, Below.refl _ _⟩
theorem ref04_special (x : Nat) (w : World) (hx : x < 256) : Calls Tryz.prog 102 #[.int .u8 x] w (Ret w (.bool (specialN x))) := by
  by_cases h : specialN x = true
  · rw [h]
    unfold specialN at h
    simp only [Bool.or_eq_true, beq_iff_eq] at h
    go_enter Tryz.func102, Tryz.ntmps102
    rcases h with ((((rfl | rfl) | rfl) | rfl) | rfl) | rfl
    all_goals
      go_wp2
      go_ret
      exact ⟨rfl, Below.refl _ _⟩
  · have h := Bool.eq_false_iff.2 h
    rw [h]
    unfold specialN at h
    simp only [Bool.or_eq_false_iff, beq_eq_false_iff_ne] at h
    obtain ⟨⟨⟨⟨⟨h1, h2⟩, h3⟩, h4⟩, h5⟩, h6⟩ := h
    have e1 : ((x : Int) == 10) = false := by simp; omega
    have e2 : ((x : Int) == 92) = false := by simp; omega
    have e3 : ((x : Int) == 91) = false := by simp; omega
    have e4 : ((x : Int) == 93) = false := by simp; omega
    have e5 : ((x : Int) == 94) = false := by simp; omega
    have e6 : ((x : Int) == 45) = false := by simp; omega
    go_enter Tryz.func102, Tryz.ntmps102
    go_wp2
    go_ret
    exact ⟨rfl, Below.refl _ _⟩
set_option maxHeartbeats 400000 in
theorem class_Char (x : Nat) (w : World) (hx : x < 256) : Calls Tryz.prog 65 #[.int .u8 x] w (Ret w (sv (charX x))) := by
  have hsp := fun w => class_special x w hx
  unfold charX
  by_cases h1 : x = 10
  · subst h1
    rw [if_pos rfl]
    clear hsp
    go_enter Tryz.func65, Tryz.ntmps65
    go_wp2
    go_ret
    exact ⟨rfl, Below.refl _ _⟩
  rw [if_neg h1]
  by_cases h2 : x = 9
  · subst h2
    rw [if_pos rfl]
    clear hsp
    go_enter Tryz.func65, Tryz.ntmps65
    go_wp2
    go_ret
    exact ⟨rfl, Below.refl _ _⟩
  rw [if_neg h2]
  by_cases h3 : x = 13
  · subst h3
    rw [if_pos rfl]
    clear hsp
    go_enter Tryz.func65, Tryz.ntmps65
    go_wp2
    go_ret
    exact ⟨rfl, Below.refl _ _⟩
  rw [if_neg h3]
  have e1 : ((x : Int) == 10) = false := by simp; omega
  have e2 : ((x : Int) == 9) = false := by simp; omega
  have e3 : ((x : Int) == 13) = false := by simp; omega
  have hxn : (UInt8.ofNat x).toNat = x := by simp; omega
  cases h : specialN x with
  | true =>
    rw [h] at hsp
    rw [if_pos rfl]
    have hcs := fun w => conv_strU (P := Tryz.prog) (src := 56) (dst := 9) Tryz.underlying56 Tryz.underlying5 Tryz.underlying9 (xs := [92, UInt8.ofNat x]) rfl (sl_new encU_ok w 5 [92, UInt8.ofNat x] (by simp [maxLen]))
    simp only [List.flatMap_cons, List.flatMap_nil, List.append_nil, encU, hxn, List.length_cons, List.length_nil, Nat.zero_add, List.cons_append, List.nil_append, Nat.reduceAdd] at hcs
    have hcs2 : ∀ w : World, (convert 56 9 (.slice (some ⟨w.heap.size, 0, none⟩) 2 2)).run Tryz.prog (w.alloc (.cells #[.int .u8 92, .int .u8 x] 5)) = .ok (sv [92, UInt8.ofNat x]) (w.alloc (.cells #[.int .u8 92, .int .u8 x] 5)) := hcs
    have HSP := Lib.hid hsp
    clear hsp hcs hxn h
    generalize UInt8.ofNat x = c at *
    go_enter Tryz.func65, Tryz.ntmps65
    go_wp2_with (go_at_call 91; go_must (refine (HSP.out _).mono ?_; rintro e w1 ⟨rfl, hB⟩))
    go_ret
    exact ⟨rfl, hB.trans ((later_alloc _ _).mono hB.size)⟩
  | false =>
    rw [h] at hsp
    rw [if_neg (by simp)]
    have HSP := Lib.hid hsp
    clear hsp h
    have hq := fun w => quote_Quote (some ⟨w.heap.size, 0, none⟩) 1 1 [UInt8.ofNat x] (w.alloc (.cells #[.int .u8 ((UInt8.ofNat x).toNat : Nat)] 5)) (sl_new encU_ok w 5 [UInt8.ofNat x] (by simp [maxLen])) (by decide)
    rw [hxn, quoteL, if_neg (by simp), List.flatMap_cons, List.flatMap_nil, List.append_nil] at hq
    have HQ := Lib.hid hq
    clear hq hxn
    generalize oneB (UInt8.ofNat x) = t at *
    go_enter Tryz.func65, Tryz.ntmps65
    go_wp2_with (first | (go_at_call 91; go_must (refine (HSP.out _).mono ?_; rintro e w1 ⟨rfl, hB⟩)) | (go_at_call 92; go_must (refine (HQ.out _).mono ?_; rintro e w2 ⟨rfl, hB2⟩; have hB2 := Later.trans _ _ _ (later_alloc _ _) hB2)))
    go_ret
    exact ⟨rfl, Later.trans _ _ _ hB hB2⟩
set_option maxHeartbeats 400000 in
theorem ref04_Char (x : Nat) (w : World) (hx : x < 256) : Calls Tryz.prog 94 #[.int .u8 x] w (Ret w (sv (charX x))) := by
  have hsp := fun w => ref04_special x w hx
  unfold charX
  by_cases h1 : x = 10
  · subst h1
    rw [if_pos rfl]
    clear hsp
    go_enter Tryz.func94, Tryz.ntmps94
    go_wp2
    go_ret
    exact ⟨rfl, Below.refl _ _⟩
  rw [if_neg h1]
  by_cases h2 : x = 9
  · subst h2
    rw [if_pos rfl]
    clear hsp
    go_enter Tryz.func94, Tryz.ntmps94
    go_wp2
    go_ret
    exact ⟨rfl, Below.refl _ _⟩
  rw [if_neg h2]
  by_cases h3 : x = 13
  · subst h3
    rw [if_pos rfl]
    clear hsp
    go_enter Tryz.func94, Tryz.ntmps94
    go_wp2
    go_ret
    exact ⟨rfl, Below.refl _ _⟩
  rw [if_neg h3]
  have e1 : ((x : Int) == 10) = false := by simp; omega
  have e2 : ((x : Int) == 9) = false := by simp; omega
  have e3 : ((x : Int) == 13) = false := by simp; omega
  have hxn : (UInt8.ofNat x).toNat = x := by simp; omega
  cases h : specialN x with
  | true =>
    rw [h] at hsp
    rw [if_pos rfl]
    have hcs := fun w => conv_strU (P := Tryz.prog) (src := 56) (dst := 9) Tryz.underlying56 Tryz.underlying5 Tryz.underlying9 (xs := [92, UInt8.ofNat x]) rfl (sl_new encU_ok w 5 [92, UInt8.ofNat x] (by simp [maxLen]))
    simp only [List.flatMap_cons, List.flatMap_nil, List.append_nil, encU, hxn, List.length_cons, List.length_nil, Nat.zero_add, List.cons_append, List.nil_append, Nat.reduceAdd] at hcs
    have hcs2 : ∀ w : World, (convert 56 9 (.slice (some ⟨w.heap.size, 0, none⟩) 2 2)).run Tryz.prog (w.alloc (.cells #[.int .u8 92, .int .u8 x] 5)) = .ok (sv [92, UInt8.ofNat x]) (w.alloc (.cells #[.int .u8 92, .int .u8 x] 5)) := hcs
    have HSP := Lib.hid hsp
    clear hsp hcs hxn h
    generalize UInt8.ofNat x = c at *
    go_enter Tryz.func94, Tryz.ntmps94
    go_wp2_with (go_at_call 102; go_must (refine (HSP.out _).mono ?_; rintro e w1 ⟨rfl, hB⟩))
    go_ret
    exact ⟨rfl, hB.trans ((later_alloc _ _).mono hB.size)⟩
  | false =>
    rw [h] at hsp
    rw [if_neg (by simp)]
    have HSP := Lib.hid hsp
    clear hsp h
    have hq := fun w => ref03_One (UInt8.ofNat x) w
    rw [hxn] at hq
    have HQ := Lib.hid hq
    clear hq hxn
    generalize oneB (UInt8.ofNat x) = t at *
    go_enter Tryz.func94, Tryz.ntmps94
    go_wp2_with (first | (go_at_call 102; go_must (refine (HSP.out _).mono ?_; rintro e w1 ⟨rfl, hB⟩)) | (go_at_call 110; go_must (refine (HQ.out _).mono ?_; rintro e w2 ⟨rfl, hB2⟩)))
    go_ret
    exact ⟨rfl, Later.trans _ _ _ hB hB2⟩
theorem showS_cases (s : BSet) : showS s = (if turnedS s then [91, 94] else [91]) ++ (piecesT (if turnedS s then ~~~s else s) ++ [93]) := by
  unfold showS; split <;> rfl
/-- Behind the test: what the text begins with, and the set whose pieces follow. -/
def PreS (s : BSet) (w : World) (v : Value) (wx : World) : Prop := ∃ pre u, v = sv pre ∧ Box wx w.heap.size (setC u) 43 ∧ Below w.heap.size w wx ∧ showS s = pre ++ (piecesT u ++ [93]) ∧ pre.length ≤ 2
set_option maxHeartbeats 1600000 in
theorem class_Show (s : BSet) (w : World) (hT : Tab w) : Calls Tryz.prog 35 #[.agg (setC s)] w (Ret w (sv (showS s))) := by
  have hc := fun w => sets_Count s w
  have hno := fun w => sets_Not s w
  have hcases := showS_cases s
  have hn := elems_length s
  have htu : turnedS s = ((elems s).length == 0 || (decide (128 < (elems s).length) && decide ((elems s).length < 256))) := rfl
  generalize turnedS s = b at *
  generalize (elems s).length = n at *
  generalize hu : ~~~s = u at *
  have HC := Lib.hid hc
  have HNO := Lib.hid hno
  have HT := Lib.hid hT
  have HCS := Lib.hid hcases
  have HTU := Lib.hid htu
  clear hc hno hT hu hcases htu
  go_enter Tryz.func35, Tryz.ntmps35
  go_upto_region 3 with (go_at_call 62; go_must (refine (HC.out _).mono ?_; rintro e w1 ⟨rfl, hB⟩; have hb1 := (Box.new w (setC s) 43).kept hB; obtain ⟨⟨x0, x1, x2, x3⟩, _⟩ := hb1.set4))
  have hB1 : Below w.heap.size w w1 := (later_alloc w _).trans (hB.mono (by simp))
  clear hB
  go_cut [20] (fun v wx => v = .bool b ∧ wx = w1)
  case first =>
    by_cases h0 : n = 0
    · subst h0
      have e : b = true := HTU.out
      go_wp2_with fail
      go_meet
      exact ⟨by rw [e], rfl⟩
    · have e1 : ((n : Int) == 0) = false := by simp; omega
      by_cases h2 : 128 < n
      · have e2 : decide (128 < (n : Int)) = true := by simp; omega
        by_cases h3 : n < 256
        · have e3 : decide ((n : Int) < 256) = true := by simp; omega
          have e : b = true := by rw [HTU.out]; simp [h2, h3]
          clear h2 h3
          go_wp2_with fail
          go_meet
          exact ⟨by rw [e], rfl⟩
        · have e3 : decide ((n : Int) < 256) = false := by simp; omega
          have e : b = false := by rw [HTU.out]; simp [h0, h3]
          clear h2 h3
          go_wp2_with fail
          go_meet
          exact ⟨by rw [e], rfl⟩
      · have e2 : decide (128 < (n : Int)) = false := by simp; omega
        have e : b = false := by rw [HTU.out]; simp [h0, h2]
        clear h2
        go_wp2_with fail
        go_meet
        exact ⟨by rw [e], rfl⟩
  case rest =>
    obtain ⟨rfl, rfl⟩ := hcut
    go_upto_if 20 with (fail)
    go_cut [3] (fun v wx => PreS s w v wx)
    case first =>
      cases b with
      | true =>
        go_wp2_with (go_at_call 63; go_must (refine (HNO.out _).mono ?_; rintro e w2 ⟨rfl, hB2⟩; have hb2 := hb1.kept hB2; obtain ⟨⟨y0, y1, y2, y3⟩, ⟨f0, f1, f2, f3⟩⟩ := hb2.set4))
        go_meet
        exact ⟨[91, 94], u, rfl, hb2.store4 rfl _ _ _ _, below_store4 (hB1.trans (hB2.mono hB1.size)) (Nat.le_refl _) _ _ _ _, HCS.out, by simp⟩
      | false =>
        go_wp2_with fail
        go_meet
        exact ⟨[91], s, rfl, hb1, hB1, HCS.out, by simp⟩
    case rest =>
      clear hb1 hB1 x0 x1 x2 x3 hn HC HNO HTU HCS
      obtain ⟨pre, u2, rfl, hb2, hB2, hsh, hpl⟩ := hcut
      obtain ⟨⟨x0, x1, x2, x3⟩, _⟩ := hb2.set4
      have hT2 := HT.out.kept hB2
      have hsp := fun w h => sets_Spans u2 w h
      have hok := spans_elems u2
      have hcn := spans_count u2
      have hpt : piecesT u2 = (spansL (elems u2)).flatMap pieceT := rfl
      rw [hpt] at hsh
      generalize spansL (elems u2) = L at *
      obtain ⟨m, hm⟩ : ∃ m, L.length = m := ⟨_, rfl⟩
      rw [hm] at hcn
      have hfl := fun k => flatMap_pieceT_length (L.take k)
      have HSP := Lib.hid hsp
      have HOK := Lib.hid hok
      have HM := Lib.hid hm
      have HSH := Lib.hid hsh
      have HFL := Lib.hid hfl
      have HT2 := Lib.hid hT2
      have HB2 := Lib.hid hB2
      clear hsp hok hm hsh hpt hT2 hB2 hfl
      go_wp2_with (go_at_call 64; go_must (refine (HSP.out _ HT2.out).mono ?_; intro e w5 h5; obtain ⟨a5, cap5, rfl, o5, hB5⟩ := h5; rw [HM.out] at o5 ⊢))
      have hB6 := HB2.out.trans (hB5.mono HB2.out.size)
      have HB6 := Lib.hid hB6
      clear hb2 x0 x1 x2 x3 hB5 hB6 HT2 HB2 HT
      go_loopw [3, 26] (fun v i wr => ∃ k : Nat, k ≤ m ∧ i = .int .i64 k ∧ v = sv (pre ++ (L.take k).flatMap pieceT) ∧ Own wr wc.heap.size 98 2 encQ (.slice a5 m cap5) L ∧ Below w.heap.size w wr) (fun _ i _ => m - (intOf i).toNat)
      case atStart => exact ⟨0, Nat.zero_le _, rfl, by simp, o5, HB6.out⟩
      case round =>
        clear o5
        obtain ⟨k, hk, rfl, rfl, ho, hB⟩ := hrel
        by_cases hlt : k < m
        · obtain ⟨g5, rfl, _, _⟩ := ho.addr (by omega)
          have hk2 : k < L.length := by rw [HM.out]; exact hlt
          obtain ⟨q0, _⟩ := ho.cellAt (i := k) (j := 0) hk2 (by decide)
          obtain ⟨q1, _⟩ := ho.cellAt (i := k) (j := 1) hk2 (by decide)
          rw [Nat.add_zero] at q0
          have hpk := HOK.out _ (List.getElem_mem hk2)
          have htk : (L.take (k + 1)).flatMap pieceT = (L.take k).flatMap pieceT ++ pieceT L[k] := by
            rw [List.take_succ_eq_append_getElem hk2, List.flatMap_append]; simp
          have hfk := HFL.out k
          have hkl : (L.take k).length ≤ k := List.length_take_le _ _
          generalize L[k] = p at *
          obtain ⟨lo, hi⟩ := p
          obtain ⟨hle, hhi⟩ := hpk
          simp only at hle hhi
          have hlo : lo < 256 := by omega
          have hc1 := fun w => class_Char lo w hlo
          have hc2 := fun w => class_Char hi w hhi
          have hl1 := charX_length lo
          have hl2 := charX_length hi
          have hpt : pieceT (lo, hi) = charX lo ++ (if lo = hi then [] else if lo + 1 = hi then charX hi else 45 :: charX hi) := rfl
          rw [hpt] at htk
          have hal : (pre ++ (L.take k).flatMap pieceT).length ≤ 4000 := by rw [List.length_append]; omega
          have happ : pre ++ (L.take (k + 1)).flatMap pieceT = (pre ++ (L.take k).flatMap pieceT) ++ (charX lo ++ (if lo = hi then [] else if lo + 1 = hi then charX hi else 45 :: charX hi)) := by rw [htk, List.append_assoc]
          generalize pre ++ (L.take k).flatMap pieceT = acc at *
          generalize charX lo = t1 at *
          generalize charX hi = t2 at *
          have HC1 := Lib.hid hc1
          have HC2 := Lib.hid hc2
          have HAP := Lib.hid happ
          clear hc1 hc2 happ hpt htk hfk hkl
          have hk0 : (0 : Int) ≤ (k : Int) := by omega
          have hkm : (k : Int) < (m : Int) := by omega
          have hsap := sv_append
          have HSAP := Lib.hid hsap
          have hsub : IntKind.u8.wrap ((hi : Int) - (lo : Int)) = ((hi - lo : Nat) : Int) := by rw [IntKind.wrap_u8']; omega
          have HSUB := Lib.hid hsub
          clear hsap hsub
          go_wp2_with fail
          have hb6 := Box.new wr #[.int .u8 (lo : Nat), .int .u8 (hi : Nat)] 98
          have l6 := later_alloc wr (.cells #[.int .u8 (lo : Nat), .int .u8 (hi : Nat)] 98)
          have HF : Hid (∀ w1, Later (wr.alloc (.cells #[.int .u8 (lo : Nat), .int .u8 (hi : Nat)] 98)).drew w1 → Box w1 wr.heap.size #[.int .u8 (lo : Nat), .int .u8 (hi : Nat)] 98 ∧ Own w1 wc.heap.size 98 2 encQ (.slice (some ⟨g5, 0, none⟩) m cap5) L ∧ Below w.heap.size w w1) :=
            Lib.hid fun w1 hl => ⟨hb6.drew.kept hl, (ho.kept l6.drew).kept hl, (hB.trans (l6.drew.mono hB.size)).trans (Below.mono hl (by have := hB.size; have := l6.size; simp at *; omega))⟩
          clear hb6 l6 ho hB q0 q1
          refine wp_region_M (R := Later) 8 (by kernel_rfl) ?_
          refine tkM 0 ?_ rfl (fun w1 hl => ?_) ?_
          rotate_left
          · have c0 := (HF.out w1 hl).1.cell 0; have c1 := (HF.out w1 hl).1.cell 1; go_simp; try with_reducible rfl
          simp only [eA, eB, Act.put, eD, eE, eF]
          refine tkM 1 ?_ rfl (fun w1 hl => ?_) ?_
          rotate_left
          · have c0 := (HF.out w1 hl).1.cell 0; have c1 := (HF.out w1 hl).1.cell 1; go_simp; try with_reducible rfl
          simp only [eA, eB, eC, Act.put, eD, eE, eF]
          refine tkM 3 ?_ rfl (fun w1 hl => ?_) ?_
          rotate_left
          · have c0 := (HF.out w1 hl).1.cell 0; have c1 := (HF.out w1 hl).1.cell 1; go_simp; try with_reducible rfl
          simp only [eA, eB, eC, Act.put, eD, eE, eF]
          refine tkM 4 ?_ rfl (fun w1 hl => ?_) ?_
          rotate_left
          · have c0 := (HF.out w1 hl).1.cell 0; have c1 := (HF.out w1 hl).1.cell 1; go_simp; try with_reducible rfl
          simp only [eA, eB, eC, Act.put, eD, eE, eF]
          refine wpM_call (t := 8) (i := 2) (f := ?_) (args := ?_) (v := ?_) rfl (by kernel_rfl) (by kernel_rfl) (by kernel_rfl) (by kernel_rfl) (fun _ _ _ h => h) (by rfl) (fun w1 => ?_) (fun w1 hl => ?_) ?_
          rotate_left 4
          · exact HC1.out w1
          rotate_left
          · go_simp
          simp only [eA, eB, eC, Act.put, eD, eE, eF]
          refine wpM_call (t := 8) (i := 5) (f := ?_) (args := ?_) (v := ?_) rfl (by kernel_rfl) (by kernel_rfl) (by kernel_rfl) (by kernel_rfl) (fun _ _ _ h => h) (by rfl) (fun w1 => ?_) (fun w1 hl => ?_) ?_
          rotate_left 4
          · exact HC2.out w1
          rotate_left
          · go_simp
          simp only [eA, eB, eC, Act.put, eD, eE, eF]
          refine tkM 6 ?_ rfl (fun w1 hl => ?_) ?_
          rotate_left
          · skip; go_simp; try with_reducible rfl
          simp only [eA, eB, eC, Act.put, eD, eE, eF]
          refine tkM 7 ?_ rfl (fun w1 hl => ?_) ?_
          rotate_left
          · skip; go_simp; try with_reducible rfl
          simp only [eA, eB, eC, Act.put, eD, eE, eF]
          refine wpM_done (by kernel_rfl) (fun w1 hl => ?_) _
          obtain ⟨hb7, ho7, hB7⟩ := HF.out w1 hl
          have c0 := hb7.cell 0
          have c1 := hb7.cell 1
          have hsub := HSUB.out
          have hsap := HSAP.out
          by_cases h1 : lo = hi
          · have e0 : (((hi - lo : Nat) : Int) == 0) = true := by simp; omega
            rw [if_pos h1] at HAP
            generalize hi - lo = df at *
            go_wp2
            go_roundw
            case rel => exact ⟨k + 1, hlt, by go_num, by rw [HAP.out, List.append_nil], ho7, hB7⟩
            case measure => simp [intOf]; omega
          · have e0 : (((hi - lo : Nat) : Int) == 0) = false := by simp; omega
            rw [if_neg h1] at HAP
            by_cases h2 : lo + 1 = hi
            · have e1 : (((hi - lo : Nat) : Int) == 1) = true := by simp; omega
              rw [if_pos h2] at HAP
              clear h2 h1
              generalize hi - lo = df at *
              go_wp2
              go_roundw
              case rel => exact ⟨k + 1, hlt, by go_num, by rw [HAP.out], ho7, hB7⟩
              case measure => simp [intOf]; omega
            · have e1 : (((hi - lo : Nat) : Int) == 1) = false := by simp; omega
              rw [if_neg h2] at HAP
              clear h2 h1
              generalize hi - lo = df at *
              go_wp2
              go_roundw
              case rel => exact ⟨k + 1, hlt, by go_num, by rw [HAP.out], ho7, hB7⟩
              case measure => simp [intOf]; omega
        · obtain rfl : k = m := by omega
          have hfk := HFL.out k
          have htk : L.take k = L := List.take_of_length_le (by rw [HM.out]; exact Nat.le_refl _)
          rw [htk, HM.out] at hfk
          rw [htk]
          have e : pre ++ L.flatMap pieceT ++ [93] = showS s := by rw [HSH.out, List.append_assoc]
          have hal : (pre ++ L.flatMap pieceT).length ≤ 4000 := by rw [List.length_append]; omega
          generalize pre ++ L.flatMap pieceT = acc at *
          have hsap := sv_append
          have HE := Lib.hid e
          clear e hfk htk ho
          go_wp2
          go_ret
          exact ⟨by rw [← HE.out]; rfl, hB⟩
theorem Own.drew' {α : Type} {w : World} {base E size : Nat} {enc : α → List Value} {v : Value} {xs : List α} (h : Own w base E size enc v xs) : Own w.drew base E size enc v xs := h.kept (Below.refl _ _).drew
set_option maxRecDepth 20000 in
set_option maxHeartbeats 1600000 in
theorem ref04_pieces (s : BSet) (w : World) : Calls Tryz.prog 68 #[.agg (setC s)] w (Ret w (sv (piecesT s))) := by
  have hsp := fun w => ref_Spans s w
  have hok := spans_elems s
  have hcn := spans_count s
  have hpt : piecesT s = (spansL (elems s)).flatMap pieceT := rfl
  rw [hpt]
  clear hpt
  generalize spansL (elems s) = L at *
  obtain ⟨m, hm⟩ : ∃ m, L.length = m := ⟨_, rfl⟩
  rw [hm] at hcn
  have hfl := fun k => flatMap_pieceT_length (L.take k)
  have HSP := Lib.hid hsp
  have HOK := Lib.hid hok
  have HM := Lib.hid hm
  have HFL := Lib.hid hfl
  clear hsp hok hm hfl
  go_enter Tryz.func68, Tryz.ntmps68
  go_wp2_with (go_at_call 93; go_must (refine (HSP.out _).mono ?_; intro e w5 h5; obtain ⟨a5, cap5, rfl, o5, hB5⟩ := h5; rw [HM.out] at o5 ⊢))
  have hB6 : Below w.heap.size w w5 := (later_alloc w _).trans (hB5.mono (by simp))
  have o6 := o5.mono (base' := w.heap.size) (by simp)
  clear hB5 o5
  go_loopw [3, 5] (fun v i wr => ∃ k : Nat, k ≤ m ∧ i = .int .i64 k ∧ v = sv ((L.take k).flatMap pieceT) ∧ Own wr w.heap.size 98 2 encQ (.slice a5 m cap5) L ∧ Below w.heap.size w wr) (fun _ i _ => m - (intOf i).toNat)
  case atStart => exact ⟨0, Nat.zero_le _, rfl, by simp, o6, hB6⟩
  case round =>
    clear o6 hB6
    obtain ⟨k, hk, rfl, rfl, ho, hB⟩ := hrel
    by_cases hlt : k < m
    · obtain ⟨g5, rfl, _, hg5⟩ := ho.addr (by omega)
      have hk2 : k < L.length := by rw [HM.out]; exact hlt
      obtain ⟨q0, _⟩ := ho.cellAt (i := k) (j := 0) hk2 (by decide)
      obtain ⟨q1, _⟩ := ho.cellAt (i := k) (j := 1) hk2 (by decide)
      rw [Nat.add_zero] at q0
      have hpk := HOK.out _ (List.getElem_mem hk2)
      have htk : (L.take (k + 1)).flatMap pieceT = (L.take k).flatMap pieceT ++ pieceT L[k] := by
        rw [List.take_succ_eq_append_getElem hk2, List.flatMap_append]; simp
      have hfk := HFL.out k
      have hkl : (L.take k).length ≤ k := List.length_take_le _ _
      generalize L[k] = p at *
      obtain ⟨lo, hi⟩ := p
      obtain ⟨hle, hhi⟩ := hpk
      simp only at hle hhi
      have hlo : lo < 256 := by omega
      have hc1 := fun w => ref04_Char lo w hlo
      have hc2 := fun w => ref04_Char hi w hhi
      have hl1 := charX_length lo
      have hl2 := charX_length hi
      have hpt : pieceT (lo, hi) = charX lo ++ (if lo = hi then [] else if lo + 1 = hi then charX hi else 45 :: charX hi) := rfl
      rw [hpt] at htk
      have hal : ((L.take k).flatMap pieceT).length ≤ 4000 := by omega
      generalize (L.take k).flatMap pieceT = acc at *
      generalize charX lo = t1 at *
      generalize charX hi = t2 at *
      have HC1 := Lib.hid hc1
      have HC2 := Lib.hid hc2
      have HAP := Lib.hid htk
      have hk0 : (0 : Int) ≤ (k : Int) := by omega
      have hkm : (k : Int) < (m : Int) := by omega
      have hsap := sv_append
      have hsub : IntKind.u8.wrap ((hi : Int) - (lo : Int)) = ((hi - lo : Nat) : Int) := by rw [IntKind.wrap_u8']; omega
      have HSUB := Lib.hid hsub
      have QQ : Hid (wr.cell? ⟨g5, k * 2, none⟩ = some (.int .u8 (lo : Nat)) ∧ wr.cell? ⟨g5, k * 2 + 1, none⟩ = some (.int .u8 (hi : Nat))) := Lib.hid ⟨q0, q1⟩
      have HO := Lib.hid ho
      have HB := Lib.hid hB
      clear hsub hc1 hc2 htk hpt hfk hkl ho hB
      by_cases h1 : lo = hi
      · rw [if_pos h1] at HAP
        have e1 : decide (1 < ((hi - lo : Nat) : Int)) = false := by simp; omega
        have e2 : decide (lo < hi) = false := by simp; omega
        generalize hi - lo = df at *
        clear h1
        go_wp2_with (go_at_call 94; go_must (refine (HC1.out _).mono ?_; rintro e w5 ⟨rfl, hb5⟩))
        have hB5 := HB.out.trans (hb5.mono HB.out.size)
        have HF : Hid (∀ w1, Later w5.drew w1 → Own w1 w.heap.size 98 2 encQ (.slice (some ⟨g5, 0, none⟩) m cap5) L ∧ Below w.heap.size w w1 ∧ w1.cell? ⟨g5, k * 2, none⟩ = some (.int .u8 (lo : Nat)) ∧ w1.cell? ⟨g5, k * 2 + 1, none⟩ = some (.int .u8 (hi : Nat))) :=
          Lib.hid fun w1 hl => ⟨((HO.out.kept hb5).drew').kept hl, (hB5.drew).trans (Below.mono hl hB5.size), by rw [hl.cell (p := ⟨g5, k * 2, none⟩) (by have := hb5.size; simp; omega)]; exact (hb5.cell (p := ⟨g5, k * 2, none⟩) (by simpa using hg5)).trans QQ.out.1, by rw [hl.cell (p := ⟨g5, k * 2 + 1, none⟩) (by have := hb5.size; simp; omega)]; exact (hb5.cell (p := ⟨g5, k * 2 + 1, none⟩) (by simpa using hg5)).trans QQ.out.2⟩
        clear hb5 hB5
        refine wp_region_M (R := Later) 12 (by kernel_rfl) ?_
        refine tkM 0 ?_ rfl (fun w1 hl => ?_) ?_
        rotate_left
        · obtain ⟨_, _, q0, q1⟩ := HF.out w1 hl; have hsub := HSUB.out; go_simp; try with_reducible rfl
        simp only [eA, eB, Act.put, eD, eE, eF]
        refine tkM 1 ?_ rfl (fun w1 hl => ?_) ?_
        rotate_left
        · obtain ⟨_, _, q0, q1⟩ := HF.out w1 hl; have hsub := HSUB.out; go_simp; try with_reducible rfl
        simp only [eA, eB, eC, Act.put, eD, eE, eF]
        refine tkM 2 ?_ rfl (fun w1 hl => ?_) ?_
        rotate_left
        · obtain ⟨_, _, q0, q1⟩ := HF.out w1 hl; have hsub := HSUB.out; go_simp; try with_reducible rfl
        simp only [eA, eB, eC, Act.put, eD, eE, eF]
        refine tkM 3 ?_ rfl (fun w1 hl => ?_) ?_
        rotate_left
        · obtain ⟨_, _, q0, q1⟩ := HF.out w1 hl; have hsub := HSUB.out; go_simp; try with_reducible rfl
        simp only [eA, eB, eC, Act.put, eD, eE, eF]
        refine tkM 4 ?_ rfl (fun w1 hl => ?_) ?_
        rotate_left
        · obtain ⟨_, _, q0, q1⟩ := HF.out w1 hl; have hsub := HSUB.out; go_simp; try with_reducible rfl
        simp only [eA, eB, eC, Act.put, eD, eE, eF]
        refine tkM 5 ?_ rfl (fun w1 hl => ?_) ?_
        rotate_left
        · obtain ⟨_, _, q0, q1⟩ := HF.out w1 hl; have hsub := HSUB.out; go_simp; try with_reducible rfl
        simp only [eA, eB, eC, Act.put, eD, eE, eF]
        refine tkM 6 ?_ rfl (fun w1 hl => ?_) ?_
        rotate_left
        · obtain ⟨_, _, q0, q1⟩ := HF.out w1 hl; have hsub := HSUB.out; go_simp; try with_reducible rfl
        simp only [eA, eB, eC, Act.put, eD, eE, eF]
        refine tkM 7 ?_ rfl (fun w1 hl => ?_) ?_
        rotate_left
        · obtain ⟨_, _, q0, q1⟩ := HF.out w1 hl; have hsub := HSUB.out; go_simp; try with_reducible rfl
        simp only [eA, eB, eC, Act.put, eD, eE, eF]
        refine tkM 8 ?_ rfl (fun w1 hl => ?_) ?_
        rotate_left
        · obtain ⟨_, _, q0, q1⟩ := HF.out w1 hl; have hsub := HSUB.out; go_simp; try with_reducible rfl
        simp only [eA, eB, eC, Act.put, eD, eE, eF]
        refine tkM 9 ?_ rfl (fun w1 hl => ?_) ?_
        rotate_left
        · obtain ⟨_, _, q0, q1⟩ := HF.out w1 hl; have hsub := HSUB.out; go_simp; try with_reducible rfl
        simp only [eA, eB, eC, Act.put, eD, eE, eF]
        refine tkM 10 ?_ rfl (fun w1 hl => ?_) ?_
        rotate_left
        · obtain ⟨_, _, q0, q1⟩ := HF.out w1 hl; have hsub := HSUB.out; go_simp; try with_reducible rfl
        simp only [eA, eB, eC, Act.put, eD, eE, eF]
        refine tkM 11 ?_ rfl (fun w1 hl => ?_) ?_
        rotate_left
        · obtain ⟨_, _, q0, q1⟩ := HF.out w1 hl; have hsub := HSUB.out; go_simp; try with_reducible rfl
        simp only [eA, eB, eC, Act.put, eD, eE, eF]
        refine wpM_done (by kernel_rfl) (fun w1 hl => ?_) _
        have HL := Lib.hid (show Later w5.drew w1 from hl)
        clear hl
        go_wp2
        have HF2 : Hid (∀ w2, Later w1.drew w2 → Own w2 w.heap.size 98 2 encQ (.slice (some ⟨g5, 0, none⟩) m cap5) L ∧ Below w.heap.size w w2 ∧ w2.cell? ⟨g5, k * 2, none⟩ = some (.int .u8 (lo : Nat)) ∧ w2.cell? ⟨g5, k * 2 + 1, none⟩ = some (.int .u8 (hi : Nat))) :=
          Lib.hid fun w2 h2 => HF.out w2 (Later.trans _ _ _ (Below.drew HL.out) h2)
        refine wp_region_M (R := Later) 11 (by kernel_rfl) ?_
        refine tkM 0 ?_ rfl (fun w1 hl => ?_) ?_
        rotate_left
        · obtain ⟨_, _, q0, q1⟩ := HF2.out w1 hl; go_simp; try with_reducible rfl
        simp only [eA, eB, Act.put, eD, eE, eF]
        refine tkM 1 ?_ rfl (fun w1 hl => ?_) ?_
        rotate_left
        · obtain ⟨_, _, q0, q1⟩ := HF2.out w1 hl; go_simp; try with_reducible rfl
        simp only [eA, eB, eC, Act.put, eD, eE, eF]
        refine tkM 2 ?_ rfl (fun w1 hl => ?_) ?_
        rotate_left
        · obtain ⟨_, _, q0, q1⟩ := HF2.out w1 hl; go_simp; try with_reducible rfl
        simp only [eA, eB, eC, Act.put, eD, eE, eF]
        refine tkM 3 ?_ rfl (fun w1 hl => ?_) ?_
        rotate_left
        · obtain ⟨_, _, q0, q1⟩ := HF2.out w1 hl; go_simp; try with_reducible rfl
        simp only [eA, eB, eC, Act.put, eD, eE, eF]
        refine tkM 4 ?_ rfl (fun w1 hl => ?_) ?_
        rotate_left
        · obtain ⟨_, _, q0, q1⟩ := HF2.out w1 hl; go_simp; try with_reducible rfl
        simp only [eA, eB, eC, Act.put, eD, eE, eF]
        refine tkM 5 ?_ rfl (fun w1 hl => ?_) ?_
        rotate_left
        · obtain ⟨_, _, q0, q1⟩ := HF2.out w1 hl; go_simp; try with_reducible rfl
        simp only [eA, eB, eC, Act.put, eD, eE, eF]
        refine tkM 6 ?_ rfl (fun w1 hl => ?_) ?_
        rotate_left
        · obtain ⟨_, _, q0, q1⟩ := HF2.out w1 hl; go_simp; try with_reducible rfl
        simp only [eA, eB, eC, Act.put, eD, eE, eF]
        refine tkM 7 ?_ rfl (fun w1 hl => ?_) ?_
        rotate_left
        · obtain ⟨_, _, q0, q1⟩ := HF2.out w1 hl; go_simp; try with_reducible rfl
        simp only [eA, eB, eC, Act.put, eD, eE, eF]
        refine tkM 8 ?_ rfl (fun w1 hl => ?_) ?_
        rotate_left
        · obtain ⟨_, _, q0, q1⟩ := HF2.out w1 hl; go_simp; try with_reducible rfl
        simp only [eA, eB, eC, Act.put, eD, eE, eF]
        refine tkM 9 ?_ rfl (fun w1 hl => ?_) ?_
        rotate_left
        · obtain ⟨_, _, q0, q1⟩ := HF2.out w1 hl; go_simp; try with_reducible rfl
        simp only [eA, eB, eC, Act.put, eD, eE, eF]
        refine tkM 10 ?_ rfl (fun w1 hl => ?_) ?_
        rotate_left
        · obtain ⟨_, _, q0, q1⟩ := HF2.out w1 hl; go_simp; try with_reducible rfl
        simp only [eA, eB, eC, Act.put, eD, eE, eF]
        refine wpM_done (by kernel_rfl) (fun w1 hl => ?_) _
        obtain ⟨ho7, hB7, q0, q1⟩ := HF2.out w1 hl
        clear hl
        go_wp2
        go_roundw
        case rel => exact ⟨k + 1, hlt, by go_num, by rw [HAP.out, List.append_nil], ho7, hB7⟩
        case measure => simp [intOf]; omega
      · rw [if_neg h1] at HAP
        have e2 : decide (lo < hi) = true := by simp; omega
        by_cases h2 : lo + 1 = hi
        · rw [if_pos h2] at HAP
          have e1 : decide (1 < ((hi - lo : Nat) : Int)) = false := by simp; omega
          generalize hi - lo = df at *
          clear h1 h2
          go_wp2_with (go_at_call 94; go_must (refine (HC1.out _).mono ?_; rintro e w5 ⟨rfl, hb5⟩))
          have hB5 := HB.out.trans (hb5.mono HB.out.size)
          have HF : Hid (∀ w1, Later w5.drew w1 → Own w1 w.heap.size 98 2 encQ (.slice (some ⟨g5, 0, none⟩) m cap5) L ∧ Below w.heap.size w w1 ∧ w1.cell? ⟨g5, k * 2, none⟩ = some (.int .u8 (lo : Nat)) ∧ w1.cell? ⟨g5, k * 2 + 1, none⟩ = some (.int .u8 (hi : Nat))) :=
            Lib.hid fun w1 hl => ⟨((HO.out.kept hb5).drew').kept hl, (hB5.drew).trans (Below.mono hl hB5.size), by rw [hl.cell (p := ⟨g5, k * 2, none⟩) (by have := hb5.size; simp; omega)]; exact (hb5.cell (p := ⟨g5, k * 2, none⟩) (by simpa using hg5)).trans QQ.out.1, by rw [hl.cell (p := ⟨g5, k * 2 + 1, none⟩) (by have := hb5.size; simp; omega)]; exact (hb5.cell (p := ⟨g5, k * 2 + 1, none⟩) (by simpa using hg5)).trans QQ.out.2⟩
          clear hb5 hB5
          refine wp_region_M (R := Later) 12 (by kernel_rfl) ?_
          refine tkM 0 ?_ rfl (fun w1 hl => ?_) ?_
          rotate_left
          · obtain ⟨_, _, q0, q1⟩ := HF.out w1 hl; have hsub := HSUB.out; go_simp; try with_reducible rfl
          simp only [eA, eB, Act.put, eD, eE, eF]
          refine tkM 1 ?_ rfl (fun w1 hl => ?_) ?_
          rotate_left
          · obtain ⟨_, _, q0, q1⟩ := HF.out w1 hl; have hsub := HSUB.out; go_simp; try with_reducible rfl
          simp only [eA, eB, eC, Act.put, eD, eE, eF]
          refine tkM 2 ?_ rfl (fun w1 hl => ?_) ?_
          rotate_left
          · obtain ⟨_, _, q0, q1⟩ := HF.out w1 hl; have hsub := HSUB.out; go_simp; try with_reducible rfl
          simp only [eA, eB, eC, Act.put, eD, eE, eF]
          refine tkM 3 ?_ rfl (fun w1 hl => ?_) ?_
          rotate_left
          · obtain ⟨_, _, q0, q1⟩ := HF.out w1 hl; have hsub := HSUB.out; go_simp; try with_reducible rfl
          simp only [eA, eB, eC, Act.put, eD, eE, eF]
          refine tkM 4 ?_ rfl (fun w1 hl => ?_) ?_
          rotate_left
          · obtain ⟨_, _, q0, q1⟩ := HF.out w1 hl; have hsub := HSUB.out; go_simp; try with_reducible rfl
          simp only [eA, eB, eC, Act.put, eD, eE, eF]
          refine tkM 5 ?_ rfl (fun w1 hl => ?_) ?_
          rotate_left
          · obtain ⟨_, _, q0, q1⟩ := HF.out w1 hl; have hsub := HSUB.out; go_simp; try with_reducible rfl
          simp only [eA, eB, eC, Act.put, eD, eE, eF]
          refine tkM 6 ?_ rfl (fun w1 hl => ?_) ?_
          rotate_left
          · obtain ⟨_, _, q0, q1⟩ := HF.out w1 hl; have hsub := HSUB.out; go_simp; try with_reducible rfl
          simp only [eA, eB, eC, Act.put, eD, eE, eF]
          refine tkM 7 ?_ rfl (fun w1 hl => ?_) ?_
          rotate_left
          · obtain ⟨_, _, q0, q1⟩ := HF.out w1 hl; have hsub := HSUB.out; go_simp; try with_reducible rfl
          simp only [eA, eB, eC, Act.put, eD, eE, eF]
          refine tkM 8 ?_ rfl (fun w1 hl => ?_) ?_
          rotate_left
          · obtain ⟨_, _, q0, q1⟩ := HF.out w1 hl; have hsub := HSUB.out; go_simp; try with_reducible rfl
          simp only [eA, eB, eC, Act.put, eD, eE, eF]
          refine tkM 9 ?_ rfl (fun w1 hl => ?_) ?_
          rotate_left
          · obtain ⟨_, _, q0, q1⟩ := HF.out w1 hl; have hsub := HSUB.out; go_simp; try with_reducible rfl
          simp only [eA, eB, eC, Act.put, eD, eE, eF]
          refine tkM 10 ?_ rfl (fun w1 hl => ?_) ?_
          rotate_left
          · obtain ⟨_, _, q0, q1⟩ := HF.out w1 hl; have hsub := HSUB.out; go_simp; try with_reducible rfl
          simp only [eA, eB, eC, Act.put, eD, eE, eF]
          refine tkM 11 ?_ rfl (fun w1 hl => ?_) ?_
          rotate_left
          · obtain ⟨_, _, q0, q1⟩ := HF.out w1 hl; have hsub := HSUB.out; go_simp; try with_reducible rfl
          simp only [eA, eB, eC, Act.put, eD, eE, eF]
          refine wpM_done (by kernel_rfl) (fun w1 hl => ?_) _
          have HL := Lib.hid (show Later w5.drew w1 from hl)
          clear hl
          go_wp2
          have HF2 : Hid (∀ w2, Later w1.drew w2 → Own w2 w.heap.size 98 2 encQ (.slice (some ⟨g5, 0, none⟩) m cap5) L ∧ Below w.heap.size w w2 ∧ w2.cell? ⟨g5, k * 2, none⟩ = some (.int .u8 (lo : Nat)) ∧ w2.cell? ⟨g5, k * 2 + 1, none⟩ = some (.int .u8 (hi : Nat))) :=
            Lib.hid fun w2 h2 => HF.out w2 (Later.trans _ _ _ (Below.drew HL.out) h2)
          refine wp_region_M (R := Later) 11 (by kernel_rfl) ?_
          refine tkM 0 ?_ rfl (fun w1 hl => ?_) ?_
          rotate_left
          · obtain ⟨_, _, q0, q1⟩ := HF2.out w1 hl; go_simp; try with_reducible rfl
          simp only [eA, eB, Act.put, eD, eE, eF]
          refine tkM 1 ?_ rfl (fun w1 hl => ?_) ?_
          rotate_left
          · obtain ⟨_, _, q0, q1⟩ := HF2.out w1 hl; go_simp; try with_reducible rfl
          simp only [eA, eB, eC, Act.put, eD, eE, eF]
          refine tkM 2 ?_ rfl (fun w1 hl => ?_) ?_
          rotate_left
          · obtain ⟨_, _, q0, q1⟩ := HF2.out w1 hl; go_simp; try with_reducible rfl
          simp only [eA, eB, eC, Act.put, eD, eE, eF]
          refine tkM 3 ?_ rfl (fun w1 hl => ?_) ?_
          rotate_left
          · obtain ⟨_, _, q0, q1⟩ := HF2.out w1 hl; go_simp; try with_reducible rfl
          simp only [eA, eB, eC, Act.put, eD, eE, eF]
          refine tkM 4 ?_ rfl (fun w1 hl => ?_) ?_
          rotate_left
          · obtain ⟨_, _, q0, q1⟩ := HF2.out w1 hl; go_simp; try with_reducible rfl
          simp only [eA, eB, eC, Act.put, eD, eE, eF]
          refine tkM 5 ?_ rfl (fun w1 hl => ?_) ?_
          rotate_left
          · obtain ⟨_, _, q0, q1⟩ := HF2.out w1 hl; go_simp; try with_reducible rfl
          simp only [eA, eB, eC, Act.put, eD, eE, eF]
          refine tkM 6 ?_ rfl (fun w1 hl => ?_) ?_
          rotate_left
          · obtain ⟨_, _, q0, q1⟩ := HF2.out w1 hl; go_simp; try with_reducible rfl
          simp only [eA, eB, eC, Act.put, eD, eE, eF]
          refine tkM 7 ?_ rfl (fun w1 hl => ?_) ?_
          rotate_left
          · obtain ⟨_, _, q0, q1⟩ := HF2.out w1 hl; go_simp; try with_reducible rfl
          simp only [eA, eB, eC, Act.put, eD, eE, eF]
          refine tkM 8 ?_ rfl (fun w1 hl => ?_) ?_
          rotate_left
          · obtain ⟨_, _, q0, q1⟩ := HF2.out w1 hl; go_simp; try with_reducible rfl
          simp only [eA, eB, eC, Act.put, eD, eE, eF]
          refine tkM 9 ?_ rfl (fun w1 hl => ?_) ?_
          rotate_left
          · obtain ⟨_, _, q0, q1⟩ := HF2.out w1 hl; go_simp; try with_reducible rfl
          simp only [eA, eB, eC, Act.put, eD, eE, eF]
          refine tkM 10 ?_ rfl (fun w1 hl => ?_) ?_
          rotate_left
          · obtain ⟨_, _, q0, q1⟩ := HF2.out w1 hl; go_simp; try with_reducible rfl
          simp only [eA, eB, eC, Act.put, eD, eE, eF]
          refine wpM_done (by kernel_rfl) (fun w1 hl => ?_) _
          obtain ⟨ho7, hB7, q0, q1⟩ := HF2.out w1 hl
          clear hl
          go_wp2_with (go_at_call 94; go_must (refine (HC2.out _).mono ?_; rintro e w6 ⟨rfl, hb6⟩))
          go_roundw
          case rel => exact ⟨k + 1, hlt, by go_num, by rw [HAP.out, ← List.append_assoc], ho7.kept hb6, hB7.trans (hb6.mono hB7.size)⟩
          case measure => simp [intOf]; omega
        · rw [if_neg h2] at HAP
          have e1 : decide (1 < ((hi - lo : Nat) : Int)) = true := by simp; omega
          generalize hi - lo = df at *
          clear h1 h2
          go_wp2_with (go_at_call 94; go_must (refine (HC1.out _).mono ?_; rintro e w5 ⟨rfl, hb5⟩))
          have hB5 := HB.out.trans (hb5.mono HB.out.size)
          have HF : Hid (∀ w1, Later w5.drew w1 → Own w1 w.heap.size 98 2 encQ (.slice (some ⟨g5, 0, none⟩) m cap5) L ∧ Below w.heap.size w w1 ∧ w1.cell? ⟨g5, k * 2, none⟩ = some (.int .u8 (lo : Nat)) ∧ w1.cell? ⟨g5, k * 2 + 1, none⟩ = some (.int .u8 (hi : Nat))) :=
            Lib.hid fun w1 hl => ⟨((HO.out.kept hb5).drew').kept hl, (hB5.drew).trans (Below.mono hl hB5.size), by rw [hl.cell (p := ⟨g5, k * 2, none⟩) (by have := hb5.size; simp; omega)]; exact (hb5.cell (p := ⟨g5, k * 2, none⟩) (by simpa using hg5)).trans QQ.out.1, by rw [hl.cell (p := ⟨g5, k * 2 + 1, none⟩) (by have := hb5.size; simp; omega)]; exact (hb5.cell (p := ⟨g5, k * 2 + 1, none⟩) (by simpa using hg5)).trans QQ.out.2⟩
          clear hb5 hB5
          refine wp_region_M (R := Later) 12 (by kernel_rfl) ?_
          refine tkM 0 ?_ rfl (fun w1 hl => ?_) ?_
          rotate_left
          · obtain ⟨_, _, q0, q1⟩ := HF.out w1 hl; have hsub := HSUB.out; go_simp; try with_reducible rfl
          simp only [eA, eB, Act.put, eD, eE, eF]
          refine tkM 1 ?_ rfl (fun w1 hl => ?_) ?_
          rotate_left
          · obtain ⟨_, _, q0, q1⟩ := HF.out w1 hl; have hsub := HSUB.out; go_simp; try with_reducible rfl
          simp only [eA, eB, eC, Act.put, eD, eE, eF]
          refine tkM 2 ?_ rfl (fun w1 hl => ?_) ?_
          rotate_left
          · obtain ⟨_, _, q0, q1⟩ := HF.out w1 hl; have hsub := HSUB.out; go_simp; try with_reducible rfl
          simp only [eA, eB, eC, Act.put, eD, eE, eF]
          refine tkM 3 ?_ rfl (fun w1 hl => ?_) ?_
          rotate_left
          · obtain ⟨_, _, q0, q1⟩ := HF.out w1 hl; have hsub := HSUB.out; go_simp; try with_reducible rfl
          simp only [eA, eB, eC, Act.put, eD, eE, eF]
          refine tkM 4 ?_ rfl (fun w1 hl => ?_) ?_
          rotate_left
          · obtain ⟨_, _, q0, q1⟩ := HF.out w1 hl; have hsub := HSUB.out; go_simp; try with_reducible rfl
          simp only [eA, eB, eC, Act.put, eD, eE, eF]
          refine tkM 5 ?_ rfl (fun w1 hl => ?_) ?_
          rotate_left
          · obtain ⟨_, _, q0, q1⟩ := HF.out w1 hl; have hsub := HSUB.out; go_simp; try with_reducible rfl
          simp only [eA, eB, eC, Act.put, eD, eE, eF]
          refine tkM 6 ?_ rfl (fun w1 hl => ?_) ?_
          rotate_left
          · obtain ⟨_, _, q0, q1⟩ := HF.out w1 hl; have hsub := HSUB.out; go_simp; try with_reducible rfl
          simp only [eA, eB, eC, Act.put, eD, eE, eF]
          refine tkM 7 ?_ rfl (fun w1 hl => ?_) ?_
          rotate_left
          · obtain ⟨_, _, q0, q1⟩ := HF.out w1 hl; have hsub := HSUB.out; go_simp; try with_reducible rfl
          simp only [eA, eB, eC, Act.put, eD, eE, eF]
          refine tkM 8 ?_ rfl (fun w1 hl => ?_) ?_
          rotate_left
          · obtain ⟨_, _, q0, q1⟩ := HF.out w1 hl; have hsub := HSUB.out; go_simp; try with_reducible rfl
          simp only [eA, eB, eC, Act.put, eD, eE, eF]
          refine tkM 9 ?_ rfl (fun w1 hl => ?_) ?_
          rotate_left
          · obtain ⟨_, _, q0, q1⟩ := HF.out w1 hl; have hsub := HSUB.out; go_simp; try with_reducible rfl
          simp only [eA, eB, eC, Act.put, eD, eE, eF]
          refine tkM 10 ?_ rfl (fun w1 hl => ?_) ?_
          rotate_left
          · obtain ⟨_, _, q0, q1⟩ := HF.out w1 hl; have hsub := HSUB.out; go_simp; try with_reducible rfl
          simp only [eA, eB, eC, Act.put, eD, eE, eF]
          refine tkM 11 ?_ rfl (fun w1 hl => ?_) ?_
          rotate_left
          · obtain ⟨_, _, q0, q1⟩ := HF.out w1 hl; have hsub := HSUB.out; go_simp; try with_reducible rfl
          simp only [eA, eB, eC, Act.put, eD, eE, eF]
          refine wpM_done (by kernel_rfl) (fun w1 hl => ?_) _
          have HL := Lib.hid (show Later w5.drew w1 from hl)
          clear hl
          go_wp2
          have HF2 : Hid (∀ w2, Later w1.drew w2 → Own w2 w.heap.size 98 2 encQ (.slice (some ⟨g5, 0, none⟩) m cap5) L ∧ Below w.heap.size w w2 ∧ w2.cell? ⟨g5, k * 2, none⟩ = some (.int .u8 (lo : Nat)) ∧ w2.cell? ⟨g5, k * 2 + 1, none⟩ = some (.int .u8 (hi : Nat))) :=
            Lib.hid fun w2 h2 => HF.out w2 (Later.trans _ _ _ (Below.drew HL.out) h2)
          refine wp_region_M (R := Later) 11 (by kernel_rfl) ?_
          refine tkM 0 ?_ rfl (fun w1 hl => ?_) ?_
          rotate_left
          · obtain ⟨_, _, q0, q1⟩ := HF2.out w1 hl; go_simp; try with_reducible rfl
          simp only [eA, eB, Act.put, eD, eE, eF]
          refine tkM 1 ?_ rfl (fun w1 hl => ?_) ?_
          rotate_left
          · obtain ⟨_, _, q0, q1⟩ := HF2.out w1 hl; go_simp; try with_reducible rfl
          simp only [eA, eB, eC, Act.put, eD, eE, eF]
          refine tkM 2 ?_ rfl (fun w1 hl => ?_) ?_
          rotate_left
          · obtain ⟨_, _, q0, q1⟩ := HF2.out w1 hl; go_simp; try with_reducible rfl
          simp only [eA, eB, eC, Act.put, eD, eE, eF]
          refine tkM 3 ?_ rfl (fun w1 hl => ?_) ?_
          rotate_left
          · obtain ⟨_, _, q0, q1⟩ := HF2.out w1 hl; go_simp; try with_reducible rfl
          simp only [eA, eB, eC, Act.put, eD, eE, eF]
          refine tkM 4 ?_ rfl (fun w1 hl => ?_) ?_
          rotate_left
          · obtain ⟨_, _, q0, q1⟩ := HF2.out w1 hl; go_simp; try with_reducible rfl
          simp only [eA, eB, eC, Act.put, eD, eE, eF]
          refine tkM 5 ?_ rfl (fun w1 hl => ?_) ?_
          rotate_left
          · obtain ⟨_, _, q0, q1⟩ := HF2.out w1 hl; go_simp; try with_reducible rfl
          simp only [eA, eB, eC, Act.put, eD, eE, eF]
          refine tkM 6 ?_ rfl (fun w1 hl => ?_) ?_
          rotate_left
          · obtain ⟨_, _, q0, q1⟩ := HF2.out w1 hl; go_simp; try with_reducible rfl
          simp only [eA, eB, eC, Act.put, eD, eE, eF]
          refine tkM 7 ?_ rfl (fun w1 hl => ?_) ?_
          rotate_left
          · obtain ⟨_, _, q0, q1⟩ := HF2.out w1 hl; go_simp; try with_reducible rfl
          simp only [eA, eB, eC, Act.put, eD, eE, eF]
          refine tkM 8 ?_ rfl (fun w1 hl => ?_) ?_
          rotate_left
          · obtain ⟨_, _, q0, q1⟩ := HF2.out w1 hl; go_simp; try with_reducible rfl
          simp only [eA, eB, eC, Act.put, eD, eE, eF]
          refine tkM 9 ?_ rfl (fun w1 hl => ?_) ?_
          rotate_left
          · obtain ⟨_, _, q0, q1⟩ := HF2.out w1 hl; go_simp; try with_reducible rfl
          simp only [eA, eB, eC, Act.put, eD, eE, eF]
          refine tkM 10 ?_ rfl (fun w1 hl => ?_) ?_
          rotate_left
          · obtain ⟨_, _, q0, q1⟩ := HF2.out w1 hl; go_simp; try with_reducible rfl
          simp only [eA, eB, eC, Act.put, eD, eE, eF]
          refine wpM_done (by kernel_rfl) (fun w1 hl => ?_) _
          obtain ⟨ho7, hB7, q0, q1⟩ := HF2.out w1 hl
          clear hl
          go_wp2_with (go_at_call 94; go_must (refine (HC2.out _).mono ?_; rintro e w6 ⟨rfl, hb6⟩))
          go_roundw
          case rel => exact ⟨k + 1, hlt, by go_num, by rw [HAP.out], ho7.kept hb6, hB7.trans (hb6.mono hB7.size)⟩
          case measure => simp [intOf]; omega
    · obtain rfl : k = m := by omega
      have htk : L.take k = L := List.take_of_length_le (by rw [HM.out]; exact Nat.le_refl _)
      rw [htk]
      go_wp2
      go_ret
      exact ⟨rfl, hB⟩
theorem piecesT_length (s : BSet) : (piecesT s).length ≤ 2304 := by
  have h1 := flatMap_pieceT_length (spansL (elems s))
  have h2 := spans_count s
  unfold piecesT; omega
set_option maxHeartbeats 800000 in
theorem ref04_Show (s : BSet) (w : World) : Calls Tryz.prog 40 #[.agg (setC s)] w (Ret w (sv (showS s))) := by
  have hby := fun w => ref_Bytes s w
  have hno := fun w => ref_Not s w
  have hp1 := fun w => ref04_pieces s w
  have hp2 := fun w => ref04_pieces (~~~s) w
  have hcases : showS s = (if turnedS s then 91 :: 94 :: (piecesT (~~~s) ++ [93]) else 91 :: (piecesT s ++ [93])) := rfl
  have hn := elems_length s
  have hl1 := piecesT_length s
  have hl2 := piecesT_length (~~~s)
  have htu : turnedS s = ((elems s).length == 0 || (decide (128 < (elems s).length) && decide ((elems s).length < 256))) := rfl
  generalize turnedS s = b at *
  generalize piecesT s = t1 at *
  generalize piecesT (~~~s) = t2 at *
  generalize elems s = el at *
  generalize hu : ~~~s = u at *
  obtain ⟨n, hnn⟩ : ∃ n, el.length = n := ⟨_, rfl⟩
  rw [hnn] at hn htu
  have HNN := Lib.hid hnn
  have HBY := Lib.hid hby
  have HNO := Lib.hid hno
  have HP1 := Lib.hid hp1
  have HP2 := Lib.hid hp2
  have HCS := Lib.hid hcases
  have HTU := Lib.hid htu
  have hsap := sv_append
  have HSAP := Lib.hid hsap
  clear hby hno hp1 hp2 hu hcases htu hnn hsap
  go_enter Tryz.func40, Tryz.ntmps40
  go_upto_region 2 with (go_at_call 67; go_must (refine (HBY.out _).mono ?_; intro e w1 h1; obtain ⟨a1, cap1, rfl, _, hB⟩ := h1; rw [HNN.out]; have hb1 := (Box.new w (setC s) 43).kept hB; obtain ⟨⟨x0, x1, x2, x3⟩, _⟩ := hb1.set4))
  have hB1 : Below w.heap.size w w1 := (later_alloc w _).trans (hB.mono (by simp))
  clear hB
  go_cut [16] (fun v wx => v = .bool b ∧ wx = w1)
  case first =>
    by_cases h0 : n = 0
    · subst h0
      have e : b = true := HTU.out
      go_wp2_with fail
      go_meet
      exact ⟨by rw [e], rfl⟩
    · have e1 : ((n : Int) == 0) = false := by simp; omega
      by_cases h2 : 128 < n
      · have e2 : decide (128 < (n : Int)) = true := by simp; omega
        by_cases h3 : n < 256
        · have e3 : decide ((n : Int) < 256) = true := by simp; omega
          have e : b = true := by rw [HTU.out]; simp [h2, h3]
          clear h2 h3
          go_wp2_with fail
          go_meet
          exact ⟨by rw [e], rfl⟩
        · have e3 : decide ((n : Int) < 256) = false := by simp; omega
          have e : b = false := by rw [HTU.out]; simp [h0, h3]
          clear h2 h3
          go_wp2_with fail
          go_meet
          exact ⟨by rw [e], rfl⟩
      · have e2 : decide (128 < (n : Int)) = false := by simp; omega
        have e : b = false := by rw [HTU.out]; simp [h0, h2]
        clear h2
        go_wp2_with fail
        go_meet
        exact ⟨by rw [e], rfl⟩
  case rest =>
    obtain ⟨rfl, rfl⟩ := hcut
    have hsap := HSAP.out
    cases b with
    | true =>
      have e : showS s = 91 :: 94 :: (t2 ++ [93]) := HCS.out
      have HE := Lib.hid e
      clear e
      go_wp2_with (first | (go_at_call 69; go_must (refine (HNO.out _).mono ?_; rintro e w2 ⟨rfl, hB2⟩)) | (go_at_call 68; go_must (refine (HP2.out _).mono ?_; rintro e w3 ⟨rfl, hB3⟩)))
      go_ret
      exact ⟨by rw [HE.out]; simp, hB1.trans ((Later.trans _ _ _ hB2 hB3).mono hB1.size)⟩
    | false =>
      have e : showS s = 91 :: (t1 ++ [93]) := HCS.out
      have HE := Lib.hid e
      clear e
      go_wp2_with (go_at_call 68; go_must (refine (HP1.out _).mono ?_; rintro e w3 ⟨rfl, hB3⟩))
      go_ret
      exact ⟨by rw [HE.out]; simp, hB1.trans (hB3.mono hB1.size)⟩
end Go.Proofs.YtdhmekpgplajmaaGreatDoor
end
