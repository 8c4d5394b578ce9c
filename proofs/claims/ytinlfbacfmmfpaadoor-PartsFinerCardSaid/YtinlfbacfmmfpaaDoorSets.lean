/- The sets of bytes: what the functions of 'sets' and of its reference come to. -/
import Derived.Test.YtinlfbacfmmfpaaDoorProg
import Derived.Test.YtinlfbacfmmfpaaDoorBase
namespace Go.Proofs.YtinlfbacfmmfpaaDoor
open Go.RowKit

theorem sets_Has (s : BSet) (x : Nat) (w : World) (hx : x < 256) :
    Calls Tryd.prog 34 #[setV s, .int .u8 x] w (Ret w (.bool (mem s x))) := by
  have hxi := words_get s (x / 64) (by omega)
  have hz := word_lt s (x / 64)
  go_enter Tryd.func34, Tryd.ntmps34
  go_wp2
  go_ret
  exact ⟨congrArg (fun b => Ending.returned (.bool b)) ((and_one _ _ hz).trans (mem_word s x).symm), by go_grown⟩
theorem sets_Of (a : Option Addr) (cap : Nat) (xs : List Nat) (w : World) (h : SliceR w (.slice a xs.length cap) 1 (fun x : Nat => [.int .u8 x]) xs) (hx : ∀ x ∈ xs, x < 256) :
    Calls Tryd.prog 19 #[.slice a xs.length cap] w (Ret w (setV (ofL xs))) := by
  obtain ⟨b, o, hlen, hcap, hcap', ha, hcell⟩ := h.open
  clear hlen h
  go_enter Tryd.func19, Tryd.ntmps19
  go_wp2
  go_loopw [8] (fun i wr => ∃ k : Nat, k ≤ xs.length ∧ i = .int .i64 k ∧ Box wr w.heap.size (setC 0) 34 ∧ Box wr (w.heap.size + 1) (setC (ofL (xs.take k))) 34 ∧ Below w.heap.size w wr) (fun i _ => xs.length - (intOf i).toNat)
  case atStart =>
    refine ⟨0, Nat.zero_le _, rfl, ?_, ?_, by go_grown⟩
    · rw [setC_zero]; exact (Box.new' rfl _ _).alloc _
    · rw [List.take_zero, show ofL [] = 0 from rfl, setC_zero]; exact Box.new' (World.size_alloc _ _).symm _ _
  case round =>
    obtain ⟨k, hk, rfl, hb0, hb1, hB⟩ := hrel
    by_cases hlt : k < xs.length
    · obtain rfl := ha k hlt
      have hxk := hx xs[k] (List.getElem_mem hlt)
      have hc : wr.cell? ⟨b, o + k, none⟩ = some (.int .u8 (xs[k] : Nat)) := by
        have := hcell k hlt 0 _ rfl
        rw [hB.cell (World.block_lt_of_cell? w _ (by simpa using this))]; simpa using this
      have e1 : wr.cell? ⟨w.heap.size + 1, xs[k] / 64, none⟩ = some (.int .u64 (word (ofL (xs.take k)) (xs[k] / 64) : Nat)) := by
        rw [hb1.cell]; simpa using words_get _ _ (by omega)
      have e2 := hb1.free (xs[k] / 64)
      have e3 : ofL (xs.take (k + 1)) = withB (ofL (xs.take k)) xs[k] := by rw [List.take_succ_eq_append_getElem hlt, ofL_snoc]
      have e4 := Lib.hid e3
      clear e3 ha hcell hx
      generalize xs[k] = x at *
      have hw := word_lt (ofL (xs.take k)) (x / 64)
      go_wp2
      go_roundw
      case rel =>
        refine ⟨k + 1, hlt, by go_num, hb0.other _ _ (by simp), ?_, by go_grown⟩
        rw [e4.out, or_bit _ _ hw (Nat.mod_lt _ (by decide)), ← setC_store _ _ hxk]
        exact hb1.set _ _
      case measure => simp [intOf]; omega
    · have hke : k = xs.length := by omega
      subst hke
      obtain ⟨⟨p0, p1, p2, p3⟩, ⟨q0, q1, q2, q3⟩⟩ := hb0.set4
      obtain ⟨⟨r0, r1, r2, r3⟩, _⟩ := hb1.set4
      rw [List.take_length] at r0 r1 r2 r3
      clear hb1 ha hcell
      go_wp2
      exact ret_box Tryd.results19 rfl (hb0.store4 rfl _ _ _ _) Tryd.underlying34 rfl (by kernel_rfl) rfl ⟨rfl, by go_grown⟩
theorem ref_Has (s : BSet) (x : Nat) (w : World) (hx : x < 256) :
    Calls Tryd.prog 40 #[setV s, .int .i64 x] w (Ret w (.bool (mem s x))) := by
  have hxi := words_get s (x / 64) (by omega)
  have hz := word_lt s (x / 64)
  go_enter Tryd.func40, Tryd.ntmps40
  go_wp2
  go_ret
  exact ⟨congrArg (fun b => Ending.returned (.bool b)) ((and_one _ _ hz).trans (mem_word s x).symm), by go_grown⟩
theorem ref_With (s : BSet) (x : Nat) (w : World) (hx : x < 256) :
    Calls Tryd.prog 44 #[setV s, .int .i64 x] w (Ret w (setV (withB s x))) := by
  have hxi := words_get s (x / 64) (by omega)
  have hst := setL_store s x hx
  go_enter Tryd.func44, Tryd.ntmps44
  go_wp2
  exact ret_box Tryd.results44 rfl (Box.new' (World.size_alloc _ _).symm _ _) Tryd.underlying34 rfl (by kernel_rfl) rfl ⟨rfl, by go_grown⟩
theorem sets_below (n : Nat) (w : World) (h : n ≤ 64) :
    Calls Tryd.prog 45 #[.int .i64 n] w (Ret w (.int .u64 ((2 ^ n - 1 : Nat) : Int))) := by
  by_cases hn : 64 ≤ n
  · obtain rfl : n = 64 := by omega
    go_enter Tryd.func45, Tryd.ntmps45
    go_wp2
    go_ret
    exact ⟨rfl, by go_grown⟩
  · go_enter Tryd.func45, Tryd.ntmps45
    go_wp2
    go_ret
    refine ⟨?_, by go_grown⟩
    refine congrArg (fun z => Ending.returned (.int .u64 z)) ?_
    have h1 := two_pow_lt64 n (by omega)
    have h2 : 0 < 2 ^ n := Nat.two_pow_pos n
    rw [wrap_two_pow n (by omega), show ((2 ^ n : Nat) : Int) - 1 = ((2 ^ n - 1 : Nat) : Int) from (Int.ofNat_sub h2).symm, IntKind.wrap_u64]
    exact Int.emod_eq_of_lt (Int.natCast_nonneg _) (Int.ofNat_lt.2 (Nat.lt_of_le_of_lt (Nat.sub_le _ _) h1))
theorem ref_Of (a : Option Addr) (cap : Nat) (xs : List Nat) (w : World) (h : SliceR w (.slice a xs.length cap) 1 (fun x : Nat => [.int .u8 x]) xs) (hx : ∀ x ∈ xs, x < 256) :
    Calls Tryd.prog 20 #[.slice a xs.length cap] w (Ret w (setV (ofL xs))) := by
  obtain ⟨b, o, hlen, hcap, hcap', ha, hcell⟩ := h.open
  clear hlen h
  go_enter Tryd.func20, Tryd.ntmps20
  go_wp2
  go_loopw [4] (fun i wr => ∃ k : Nat, k ≤ xs.length ∧ i = .int .i64 k ∧ Box wr w.heap.size (setC 0) 34 ∧ Box wr (w.heap.size + 1) (setC (ofL (xs.take k))) 34 ∧ Below w.heap.size w wr) (fun i _ => xs.length - (intOf i).toNat)
  case atStart =>
    refine ⟨0, Nat.zero_le _, rfl, ?_, ?_, by go_grown⟩
    · rw [setC_zero]; exact (Box.new' rfl _ _).alloc _
    · rw [List.take_zero, show ofL [] = 0 from rfl, setC_zero]; exact Box.new' (World.size_alloc _ _).symm _ _
  case round =>
    obtain ⟨k, hk, rfl, hb0, hb1, hB⟩ := hrel
    by_cases hlt : k < xs.length
    · obtain rfl := ha k hlt
      have hxk := hx xs[k] (List.getElem_mem hlt)
      have hc : wr.cell? ⟨b, o + k, none⟩ = some (.int .u8 (xs[k] : Nat)) := by
        have := hcell k hlt 0 _ rfl
        rw [hB.cell (World.block_lt_of_cell? w _ (by simpa using this))]; simpa using this
      obtain ⟨⟨r0, r1, r2, r3⟩, _⟩ := hb1.set4
      have e3 : ofL (xs.take (k + 1)) = withB (ofL (xs.take k)) xs[k] := by rw [List.take_succ_eq_append_getElem hlt, ofL_snoc]
      have e4 := Lib.hid e3
      clear e3 ha hcell hx
      generalize xs[k] = x at *
      go_wp2_with fail
      go_still_tail 6, (by kernel_rfl)
      change wpList _ _ _ _ _ wr.drew
      go_wp2_with (go_at_call 44; refine (ref_With _ _ _ hxk).mono ?_; rintro e w1 ⟨rfl, hb⟩; have hB1 := hB.drew.trans (hb.mono hB.size); have hx0 := hb0.drew.kept hb; have hx1 := hb1.drew.kept hb; obtain ⟨⟨s0, s1, s2, s3⟩, ⟨t0, t1, t2, t3⟩⟩ := hx1.set4)
      go_roundw
      case rel =>
        refine ⟨k + 1, hlt, by go_num, hx0.other4 (by simp) _ _ _ _, ?_, by go_grown⟩
        rw [e4.out]; exact hx1.store4 rfl _ _ _ _
      case measure => simp [intOf]; omega
    · have hke : k = xs.length := by omega
      subst hke
      obtain ⟨⟨p0, p1, p2, p3⟩, ⟨q0, q1, q2, q3⟩⟩ := hb0.set4
      obtain ⟨⟨r0, r1, r2, r3⟩, _⟩ := hb1.set4
      rw [List.take_length] at r0 r1 r2 r3
      clear hb1 ha hcell
      go_wp2
      exact ret_box Tryd.results20 rfl (hb0.store4 rfl _ _ _ _) Tryd.underlying34 rfl (by kernel_rfl) rfl ⟨rfl, by go_grown⟩
set_option maxRecDepth 20000 in
/-- The least byte of a set; -1: there is none. -/
theorem ref_Least (s : BSet) (w : World) :
    Calls Tryd.prog 31 #[setV s] w (Ret w (.int .i64 (leastOf s))) := by
  go_enter Tryd.func31, Tryd.ntmps31
  go_wp2
  go_loopw [3] (fun i wr => ∃ k : Nat, k ≤ 256 ∧ i = .int .i64 k ∧ (∀ c, c < k → mem s c = false) ∧ Box wr w.heap.size (setC s) 34 ∧ Below w.heap.size w wr) (fun i _ => 256 - (intOf i).toNat)
  case atStart => exact ⟨0, Nat.zero_le _, rfl, fun c hc => absurd hc (Nat.not_lt_zero c), Box.new' rfl _ _, by go_grown⟩
  case round =>
    obtain ⟨k, hk, rfl, hno, hb0, hB⟩ := hrel
    obtain ⟨⟨r0, r1, r2, r3⟩, _⟩ := hb0.set4
    have HN := Lib.hid hno
    clear hno
    by_cases hlt : k < 256
    · cases hm : mem s k with
      | false =>
        have HM := Lib.hid hm
        go_wp2_with (go_at_call 40; refine (ref_Has _ _ _ hlt).mono ?_; rintro e w1 ⟨rfl, hb⟩; rw [HM.out])
        go_roundw
        case rel => exact ⟨k + 1, hlt, by go_num, fun c hc => if h : c = k then h ▸ HM.out else HN.out c (by omega), hb0.kept hb, hB.trans (hb.mono hB.size)⟩
        case measure => simp [intOf]; omega
      | true =>
        have HM := Lib.hid hm
        go_wp2_with (go_at_call 40; refine (ref_Has _ _ _ hlt).mono ?_; rintro e w1 ⟨rfl, hb⟩; rw [HM.out])
        go_ret
        refine ⟨?_, hB.trans (hb.mono hB.size)⟩
        rw [leastOf_found s k hlt HM.out HN.out]; rfl
    · go_wp2
      go_ret
      refine ⟨?_, hB⟩
      rw [leastOf_none s (fun c hc => HN.out c (by omega))]; rfl
set_option maxRecDepth 20000 in
theorem ref_Span (lo hi : Nat) (w : World) (hhi : hi < 256) :
    Calls Tryd.prog 22 #[.int .i64 lo, .int .i64 hi] w (Ret w (setV (ofP fun b => decide (lo ≤ b) && decide (b ≤ hi)))) := by
  go_enter Tryd.func22, Tryd.ntmps22
  go_wp2
  go_loopw [6] (fun i wr => ∃ k : Nat, lo ≤ k ∧ (k ≤ hi + 1 ∨ k = lo) ∧ i = .int .i64 k ∧ Box wr w.heap.size (setC 0) 34 ∧ Box wr (w.heap.size + 1) (setC (ofP fun b => decide (lo ≤ b) && decide (b < k))) 34 ∧ Below w.heap.size w wr) (fun i _ => hi + 1 - (intOf i).toNat)
  case atStart =>
    refine ⟨lo, Nat.le_refl _, .inr rfl, rfl, ?_, ?_, by go_grown⟩
    · rw [setC_zero]; exact (Box.new' rfl _ _).alloc _
    · rw [show (ofP fun b => decide (lo ≤ b) && decide (b < lo)) = 0 from (eq_ofP 0 _ fun b _ => by rw [mem_zero]; by_cases h : lo ≤ b <;> simp [h]).symm, setC_zero]; exact Box.new' (World.size_alloc _ _).symm _ _
  case round =>
    obtain ⟨k, hlk, hk, rfl, hb0, hb1, hB⟩ := hrel
    by_cases hlt : k ≤ hi
    · obtain ⟨⟨r0, r1, r2, r3⟩, _⟩ := hb1.set4
      have hk256 : k < 256 := by omega
      go_wp2_with (go_at_call 44; refine (ref_With _ _ _ hk256).mono ?_; rintro e w1 ⟨rfl, hb⟩; have hB1 := hB.trans (hb.mono hB.size); have hx0 := hb0.kept hb; have hx1 := hb1.kept hb; obtain ⟨⟨s0, s1, s2, s3⟩, ⟨t0, t1, t2, t3⟩⟩ := hx1.set4)
      go_roundw
      case rel =>
        refine ⟨k + 1, by omega, .inl (by omega), by go_num, hx0.other4 (by simp) _ _ _ _, ?_, by go_grown⟩
        have e : (ofP fun b => decide (lo ≤ b) && decide (b < k + 1)) = withB (ofP fun b => decide (lo ≤ b) && decide (b < k)) k := by
          rw [ofP_withB _ _ hk256]
          refine ofP_congr fun b _ => ?_
          by_cases h1 : b < k
          · simp [h1, show b < k + 1 by omega, show ¬ k = b by omega]
          · by_cases h2 : k = b
            · subst h2; simp [hlk]
            · simp [h1, h2, show ¬ b < k + 1 by omega]
        rw [e]; exact hx1.store4 rfl _ _ _ _
      case measure => simp [intOf]; omega
    · obtain ⟨⟨p0, p1, p2, p3⟩, ⟨q0, q1, q2, q3⟩⟩ := hb0.set4
      have e : (ofP fun b => decide (lo ≤ b) && decide (b < k)) = (ofP fun b => decide (lo ≤ b) && decide (b ≤ hi)) := by
        refine ofP_congr fun b _ => ?_
        by_cases h1 : lo ≤ b
        · simp [h1]; omega
        · simp [h1]
      rw [e] at hb1
      obtain ⟨⟨r0, r1, r2, r3⟩, _⟩ := hb1.set4
      clear e
      go_wp2
      exact ret_box Tryd.results22 rfl (hb0.store4 rfl _ _ _ _) Tryd.underlying34 rfl (by kernel_rfl) rfl ⟨rfl, by go_grown⟩
set_option maxRecDepth 20000 in
set_option maxHeartbeats 400000 in
theorem sets_Span (lo hi : Nat) (w : World) (hlo : lo < 256) (hhi : hi < 256) :
    Calls Tryd.prog 21 #[.int .u8 lo, .int .u8 hi] w (Ret w (setV (ofP fun b => decide (lo ≤ b) && decide (b ≤ hi)))) := by
  by_cases hlh : hi < lo
  · go_enter Tryd.func21, Tryd.ntmps21
    go_wp2
    have e : (ofP fun b => decide (lo ≤ b) && decide (b ≤ hi)) = 0 := (eq_ofP 0 _ fun b _ => by rw [mem_zero]; by_cases h : lo ≤ b <;> simp [h]; omega).symm
    rw [e]
    have hz := setC_zero
    unfold setV
    rw [hz]
    exact ret_box Tryd.results21 rfl ((Box.new' rfl _ _).alloc _) Tryd.underlying34 rfl (by kernel_rfl) rfl ⟨rfl, by go_grown⟩
  · go_enter Tryd.func21, Tryd.ntmps21
    go_wp2
    go_loopw [13] (fun i wr => ∃ k : Nat, k ≤ 4 ∧ i = .int .i64 k ∧ Box wr w.heap.size (setC 0) 34 ∧ Box wr (w.heap.size + 1) (setC (ofP fun b => decide (lo ≤ b) && decide (b ≤ hi) && decide (b < 64 * k))) 34 ∧ Below w.heap.size w wr) (fun i _ => 4 - (intOf i).toNat)
    case atStart =>
      refine ⟨0, Nat.zero_le _, rfl, ?_, ?_, by go_grown⟩
      · rw [setC_zero]; exact (Box.new' rfl _ _).alloc _
      · rw [show (ofP fun b => decide (lo ≤ b) && decide (b ≤ hi) && decide (b < 64 * 0)) = 0 from (eq_ofP 0 _ fun b _ => by rw [mem_zero]; simp).symm, setC_zero]; exact Box.new' (World.size_alloc _ _).symm _ _
    case round =>
      obtain ⟨k, hk, rfl, hb0, hb1, hB⟩ := hrel
      by_cases hlt : k < 4
      · obtain ⟨f, hf, hf2⟩ : ∃ f : Nat, (if (lo : Int) - 64 * (k : Int) < 0 then 0 else (lo : Int) - 64 * (k : Int)) = (f : Int) ∧ f = lo - 64 * k := ⟨lo - 64 * k, by split <;> omega, rfl⟩
        obtain ⟨T, hT, hT2⟩ : ∃ T : Int, (if 64 < (hi : Int) + 1 - 64 * (k : Int) then 64 else (hi : Int) + 1 - 64 * (k : Int)) = T ∧ T = min 64 ((hi : Int) + 1 - 64 * k) := ⟨_, rfl, by split <;> omega⟩
        have HF := Lib.hid hf2
        have HT := Lib.hid hT2
        have hT64 : T ≤ 64 := by omega
        by_cases hft : (f : Int) < T
        · obtain ⟨t, rfl⟩ := Int.eq_ofNat_of_zero_le (show 0 ≤ T by omega)
          clear hf2 hT2
          have ht64 : t ≤ 64 := by omega
          have hf64 : f ≤ 64 := by omega
          obtain ⟨x, hx, hx64, hbits⟩ := andNot_below f t hf64 ht64
          have HB := Lib.hid hbits
          clear hbits
          go_wp2_with (first | (go_at_call_of 45 ((Value.int IntKind.i64 (t : Int))); refine (sets_below t _ ht64).mono ?_; rintro e w1 ⟨rfl, hb⟩; have hx1 := hb1.kept hb; have hx0 := hb0.kept hb; have hB1 := hB.trans (hb.mono hB.size)) | (go_at_call_of 45 ((Value.int IntKind.i64 (f : Int))); refine (sets_below f _ hf64).mono ?_; rintro e w2 ⟨rfl, hc⟩; have hy1 := hx1.kept hc; have hy0 := hx0.kept hc; have hB2 := hB1.trans (hc.mono hB1.size); have hyc := hy1.setw hlt; have hyf := hy1.free k))
          go_roundw
          case rel =>
            refine ⟨k + 1, hlt, by go_num, hy0.other _ _ (by simp), ?_, by go_grown⟩
            have hw : x = word (ofP fun b => decide (lo ≤ b) && decide (b ≤ hi) && decide (b < 64 * (k + 1))) k := by
              refine word_of_bits _ _ _ hx64 fun j hj => ?_
              have h1 := HF.out; have h2 := HT.out
              rw [HB.out j hj, mem_ofP, Bool.eq_iff_iff]
              simp only [Bool.and_eq_true, decide_eq_true_eq]
              omega
            rw [hw, ← setC_set (ofP fun b => decide (lo ≤ b) && decide (b ≤ hi) && decide (b < 64 * k)) _ k hlt]
            · exact hy1.set _ _
            · intro j hj hjk
              refine word_of_bits _ _ _ (word_lt _ _) fun i hi' => ?_
              rw [word_testBit, mem_ofP, mem_ofP, Bool.eq_iff_iff]
              simp only [Bool.and_eq_true, decide_eq_true_eq]
              omega
          case measure => simp [intOf]; omega
        · clear hf2 hT2
          have e : (ofP fun b => decide (lo ≤ b) && decide (b ≤ hi) && decide (b < 64 * (k + 1))) = (ofP fun b => decide (lo ≤ b) && decide (b ≤ hi) && decide (b < 64 * k)) := by
            have h1 := HF.out; have h2 := HT.out
            refine ofP_congr fun b _ => ?_
            rw [Bool.eq_iff_iff]; simp only [Bool.and_eq_true, decide_eq_true_eq]
            omega
          have HE := Lib.hid e
          clear e
          go_wp2
          go_roundw
          case rel => exact ⟨k + 1, hlt, by go_num, hb0, by rw [HE.out]; exact hb1, hB⟩
          case measure => simp [intOf]; omega
      · obtain rfl : k = 4 := by omega
        have e : (ofP fun b => decide (lo ≤ b) && decide (b ≤ hi) && decide (b < 64 * 4)) = (ofP fun b => decide (lo ≤ b) && decide (b ≤ hi)) := ofP_congr fun b hb => by simp [show b < 64 * 4 by omega]
        rw [e] at hb1
        clear e
        obtain ⟨⟨p0, p1, p2, p3⟩, ⟨q0, q1, q2, q3⟩⟩ := hb0.set4
        obtain ⟨⟨r0, r1, r2, r3⟩, _⟩ := hb1.set4
        go_wp2
        exact ret_box Tryd.results21 rfl (hb0.store4 rfl _ _ _ _) Tryd.underlying34 rfl (by kernel_rfl) rfl ⟨rfl, by go_grown⟩
end Go.Proofs.YtinlfbacfmmfpaaDoor
