/- Joined by tools/merge.py: NumRead, Must, Quote, Show. -/
import Derived.Test.YtdhmekpgplajmaaGreatDoorJ9
import Derived.Laws.IdiomStrings
import Derived.Test.YtdhmekpgplajmaaGreatDoorProg
import Derived.Test.YtdhmekpgplajmaaGreatDoorJ2
import Derived.Test.YtdhmekpgplajmaaGreatDoorJ3
import Derived.Deep.DeepCutAuto
section
namespace Go.Proofs.YtdhmekpgplajmaaGreatDoor
open Go.RowKit
/-- '[]byte(s)': a slice of its own. -/
theorem bytes_of {P : Program} (w : World) {src dst e : TypeId} (hs : P.underlying src = some .string) (hd : P.underlying dst = some (.slice e)) (he : P.underlying e = some (.int .u8)) (l : List UInt8) (hl : l.length ≤ 9223372036854775807) :
    ∃ cap w', (convert src dst (sv l)).run P w = .ok (.slice (some ⟨w.heap.size, 0, none⟩) l.length cap) w' ∧ Below w.heap.size w w' ∧ SliceR w' (.slice (some ⟨w.heap.size, 0, none⟩) l.length cap) 1 encU l := by
  have h := run_bytes_of_string w src dst e ⟨l.toArray⟩ hs hd he
  rw [sv_size] at h
  refine ⟨_, _, h, (((Below.refl _ w).drew).alloc (by simp) _), _, w.heap.size, 0, _, rfl, grownCap_ge _ _ _ _, grownCap_le_maxLen _ _ _ _ hl, .inl rfl, fun i hi j u hu => ?_⟩
  cases j with
  | succ j => simp [encU] at hu
  | zero =>
    simp only [encU, List.getElem?_cons_zero, Option.some.injEq] at hu
    subst hu
    rw [Nat.mul_one, Nat.zero_add, Nat.add_zero]
    have := bytesRow_at ⟨l.toArray⟩ (grownCap w l.length 0 e) i (by simpa using hi)
    rw [show w.heap.size = w.drew.heap.size from rfl, World.cell?_alloc_mark, Nat.add_zero, this]
    simp
/-- How many digits stand ahead. -/
def runD : List UInt8 → Nat
  | [] => 0
  | c :: r => if digitN c.toNat then runD r + 1 else 0
theorem runD_le : ∀ l : List UInt8, runD l ≤ l.length
  | [] => Nat.le_refl _
  | c :: r => by
    rw [runD]; split
    · have := runD_le r; simp; exact this
    · simp
theorem SliceR.cellsA {α : Type} {f : α → Value} {w : World} {b o n cap : Nat} {xs : List α} (h : SliceR w (.slice (some ⟨b, o, none⟩) n cap) 1 (fun x => [f x]) xs) :
    n = xs.length ∧ xs.length ≤ cap ∧ cap ≤ 9223372036854775807 ∧ ∀ i (h : i < xs.length) (w' : World), Below w.heap.size w w' → w'.cell? ⟨b, o + i, none⟩ = some (f xs[i]) := by
  obtain ⟨b', o', h1, h2, h3, h4, h5⟩ := h.cells1
  refine ⟨h1, h2, h3, fun i hi w' hb => ?_⟩
  obtain ⟨rfl, rfl⟩ : b = b' ∧ o = o' := by have := h4 i hi; simpa using this
  exact h5 i hi w' hb
set_option maxHeartbeats 400000 in
theorem num_run (b o cap n : Nat) (l : List UInt8) (w : World) (h : SliceR w (.slice (some ⟨b, o, none⟩) n cap) 1 encU l) :
    Calls Tryz.prog 96 #[.slice (some ⟨b, o, none⟩) n cap, .int .i64 0] w (Ret w (.int .i64 (runD l : Nat))) := by
  obtain ⟨hlen, hcap, hcap', hcell⟩ := h.cellsA
  have hnn : n ≤ 9223372036854775807 := by omega
  have hcc : n ≤ cap := by omega
  have HC := Lib.hid hcell
  have HL := Lib.hid hlen
  clear hlen hcell h hcap
  go_enter Tryz.func96, Tryz.ntmps96
  go_wp2
  go_loopw [5, 12] (fun v i wr => ∃ k : Nat, k ≤ n ∧ v = .int .i64 k ∧ i = .int .i64 k ∧ runD l = k + runD (l.drop k) ∧ Below w.heap.size w wr) (fun _ i _ => n - (intOf i).toNat)
  case atStart => exact ⟨0, Nat.zero_le _, rfl, rfl, by simp, Below.refl _ _⟩
  case round =>
    obtain ⟨k, hk, rfl, rfl, hr, hB⟩ := hrel
    by_cases hlt : k < n
    · have hk2 : k < l.length := by rw [← HL.out]; exact hlt
      have c0 := HC.out k hk2 wr hB
      rw [drop_at l k hk2, runD] at hr
      generalize l[k] = c at *
      have hc256 := c.toNat_lt
      unfold digitN at hr
      by_cases d1 : c.toNat < 48
      · have e1 : decide ((c.toNat : Int) < 48) = true := by simp; omega
        rw [if_neg (by simp; omega)] at hr
        have HR := Lib.hid hr
        clear hr
        go_wp2
        go_ret
        exact ⟨by rw [HR.out]; rfl, hB⟩
      · have e1 : decide ((c.toNat : Int) < 48) = false := by simp; omega
        by_cases d2 : 57 < c.toNat
        · have e2 : decide (57 < (c.toNat : Int)) = true := by simp; omega
          rw [if_neg (by simp; omega)] at hr
          have HR := Lib.hid hr
          clear hr
          go_wp2
          go_ret
          exact ⟨by rw [HR.out]; rfl, hB⟩
        · have e2 : decide (57 < (c.toNat : Int)) = false := by simp; omega
          rw [if_pos (by simp; omega)] at hr
          have HR := Lib.hid hr
          clear hr
          go_wp2
          go_roundw
          case rel => exact ⟨k + 1, hlt, by go_num, by go_num, by rw [HR.out]; omega, hB⟩
          case measure => simp [intOf]; omega
    · obtain rfl : k = n := by omega
      rw [List.drop_eq_nil_of_le (by rw [← HL.out]; exact Nat.le_refl _), runD] at hr
      have HR := Lib.hid hr
      clear hr
      go_wp2
      go_ret
      exact ⟨by rw [HR.out]; rfl, hB⟩
/-- The number that digits say, most at most. -/
def valD (most : Nat) : Nat → List UInt8 → Option Nat
  | v, [] => some v
  | v, c :: r => if (most - (c.toNat - 48)) / 10 < v then none else valD most (v * 10 + (c.toNat - 48)) r
theorem valD_le (most : Nat) : ∀ (l : List UInt8) (v x : Nat), (∀ c ∈ l, digitN c.toNat = true) → v ≤ most → 9 ≤ most → valD most v l = some x → x ≤ most
  | [], v, x, _, h, _, e => by simp [valD] at e; omega
  | c :: r, v, x, hd, h, h9, e => by
    rw [valD] at e
    split at e
    · cases e
    · have hc := hd c (by simp)
      unfold digitN at hc
      simp only [Bool.and_eq_true, decide_eq_true_eq] at hc
      exact valD_le most r _ x (fun y hy => hd y (by simp [hy])) (by omega) h9 e
set_option maxHeartbeats 400000 in
theorem num_value (b o cap n most : Nat) (l : List UInt8) (w : World) (h : SliceR w (.slice (some ⟨b, o, none⟩) n cap) 1 encU l) (hd : ∀ c ∈ l, digitN c.toNat = true) (hm : 9 ≤ most) (hm2 : most ≤ 9223372036854775807) :
    Calls Tryz.prog 97 #[.slice (some ⟨b, o, none⟩) n cap, .int .i64 most] w (Ret w (match valD most 0 l with | some x => .tuple #[.int .i64 (x : Nat), .bool true] | none => .tuple #[.int .i64 0, .bool false])) := by
  obtain ⟨hlen, hcap, hcap', hcell⟩ := h.cellsA
  have hnn : n ≤ 9223372036854775807 := by omega
  have HC := Lib.hid hcell
  have HL := Lib.hid hlen
  have HD := Lib.hid hd
  clear hlen hcell h hcap hd
  generalize hg : (match valD most 0 l with | some x => Value.tuple #[.int .i64 (x : Nat), .bool true] | none => .tuple #[.int .i64 0, .bool false]) = res
  have HG := Lib.hid hg
  clear hg
  go_enter Tryz.func97, Tryz.ntmps97
  go_wp2
  go_loopw [6, 12] (fun v i wr => ∃ k x : Nat, k ≤ n ∧ x ≤ most ∧ v = .int .i64 x ∧ i = .int .i64 k ∧ valD most 0 l = valD most x (l.drop k) ∧ Below w.heap.size w wr) (fun _ i _ => n - (intOf i).toNat)
  case atStart => exact ⟨0, 0, Nat.zero_le _, Nat.zero_le _, rfl, rfl, by simp, Below.refl _ _⟩
  case round =>
    obtain ⟨k, x, hk, hx, rfl, rfl, hr, hB⟩ := hrel
    by_cases hlt : k < n
    · have hk2 : k < l.length := by rw [← HL.out]; exact hlt
      have c0 := HC.out k hk2 wr hB
      have hdc := HD.out _ (List.getElem_mem hk2)
      rw [drop_at l k hk2, valD] at hr
      generalize l[k] = c at *
      unfold digitN at hdc
      simp only [Bool.and_eq_true, decide_eq_true_eq] at hdc
      obtain ⟨d, hdd⟩ : ∃ d, c.toNat = d + 48 := ⟨c.toNat - 48, by omega⟩
      rw [hdd] at c0 hr hdc
      have hw8 : IntKind.u8.wrap (((d + 48 : Nat) : Int) - 48) = (d : Int) := by rw [IntKind.wrap_u8']; omega
      have hw0 : IntKind.i64.wrap (d : Int) = (d : Int) := IntWalk.i64_in _ (by omega)
      have hw1 : IntKind.i64.wrap ((most : Int) - (d : Int)) = ((most - d : Nat) : Int) := by rw [IntWalk.i64_in _ (by omega)]; omega
      have hw2 : IntKind.i64.wrap (((most - d : Nat) : Int)) = ((most - d : Nat) : Int) := IntWalk.i64_in _ (by omega)
      have hq1 : ((most - d : Nat) : Int).tdiv 10 = (((most - d) / 10 : Nat) : Int) := by rw [Int.tdiv_eq_ediv_of_nonneg (by omega)]; omega
      have hq2 : ((most - d : Nat) : Int) / 10 = (((most - d) / 10 : Nat) : Int) := by omega
      have hw3 : IntKind.i64.wrap (((most - d) / 10 : Nat) : Int) = (((most - d) / 10 : Nat) : Int) := IntWalk.i64_in _ (by omega)
      have e3 : decide ((most : Int) < (d : Int)) = false := by simp; omega
      rw [show d + 48 - 48 = d by omega] at hr
      generalize hqq : (most - d) / 10 = q at *
      by_cases d1 : q < x
      · have e1 : decide ((q : Int) < (x : Int)) = true := by simp; omega
        rw [if_pos d1] at hr
        have HR := Lib.hid hr
        have HQ := Lib.hid hqq
        clear hr hqq hdd
        go_wp2
        go_ret2
        exact ⟨by rw [← HG.out, HR.out]; rfl, hB⟩
      · have e1 : decide ((q : Int) < (x : Int)) = false := by simp; omega
        rw [if_neg d1] at hr
        have hle : x * 10 + d ≤ most := by omega
        have hw4 : IntKind.i64.wrap ((x : Int) * 10) = (x : Int) * 10 := IntWalk.i64_in _ (by omega)
        have hw5 : IntKind.i64.wrap ((x : Int) * 10 + (d : Int)) = ((x * 10 + d : Nat) : Int) := by rw [IntWalk.i64_in _ (by omega)]; omega
        have HR := Lib.hid hr
        have HLE := Lib.hid hle
        have HQ := Lib.hid hqq
        clear hr hqq hdd hle
        go_wp2
        go_roundw
        case rel => exact ⟨k + 1, x * 10 + d, hlt, HLE.out, by go_num, by go_num, HR.out, hB⟩
        case measure => simp [intOf]; omega
    · obtain rfl : k = n := by omega
      rw [List.drop_eq_nil_of_le (by rw [← HL.out]; exact Nat.le_refl _), valD] at hr
      have HR := Lib.hid hr
      clear hr
      go_wp2
      go_ret2
      exact ⟨by rw [← HG.out, HR.out]; rfl, hB⟩
/-- The number of digits, most at most: or 3 (no number), or 2 (above). -/
def formD (s : List UInt8) : Bool := !(runD s == 0) && (!decide (runD s < s.length) && !(s.getD 0 0 == 48 && decide (1 < runD s)))
theorem formD_digits {s : List UInt8} (h : formD s = true) : ∀ c ∈ s, digitN c.toNat = true := by
  have key : ∀ l : List UInt8, runD l = l.length → ∀ c ∈ l, digitN c.toNat = true := by
    intro l
    induction l with
    | nil => simp
    | cons a r ih =>
      intro h c hc
      rw [runD] at h
      split at h
      · rename_i ha
        rcases List.mem_cons.1 hc with rfl | hc
        · exact ha
        · exact ih (by simpa using h) c hc
      · simp at h
  unfold formD at h
  simp only [Bool.and_eq_true, Bool.not_eq_true', decide_eq_false_iff_not] at h
  exact key s (by have := runD_le s; omega)
def readN (most : Nat) (s : List UInt8) : Value := if formD s then (match valD most 0 s with | some x => .tuple #[.int .i64 (x : Nat), .int .i64 0] | none => .tuple #[.int .i64 0, .int .i64 2]) else .tuple #[.int .i64 0, .int .i64 3]
set_option maxHeartbeats 400000 in
theorem num_Read (s : List UInt8) (most : Nat) (w : World) (hs : s.length ≤ 9223372036854775807) (hm : 9 ≤ most) (hm2 : most ≤ 9223372036854775807) : Calls Tryz.prog 71 #[sv s, .int .i64 most] w (Ret w (readN most s)) := by
  obtain ⟨cap, w2, hcv, hb2, hsl⟩ := bytes_of (P := Tryz.prog) (src := 9) (dst := 56) w Tryz.underlying9 Tryz.underlying56 Tryz.underlying5 s hs
  obtain ⟨hlen, hcap, hcap', hcell⟩ := hsl.cellsA
  have hrun := fun w3 hb3 => num_run _ _ _ _ s w3 (hsl.kept (w' := w3) hb3)
  have hval := fun hd w3 hb3 => num_value _ _ _ _ most s w3 (hsl.kept (w' := w3) hb3) hd hm hm2
  have hle := runD_le s
  have hfd := @formD_digits s
  unfold readN
  unfold formD at hfd ⊢
  obtain ⟨n, hn⟩ : ∃ n, s.length = n := ⟨_, rfl⟩
  rw [hn] at hcv hrun hval hle hcap hs hfd ⊢
  generalize runD s = r at *
  have HRUN := Lib.hid hrun
  have HVAL := Lib.hid hval
  have hg0 : ∀ h : 0 < s.length, s.getD 0 0 = s[0] := fun h => by simp [List.getD_eq_getElem?_getD, h]
  have HC := Lib.hid hcell
  have HG := Lib.hid hg0
  have HN := Lib.hid hn
  have HFD := Lib.hid hfd
  clear hrun hval hsl hcell hg0 hlen hfd hn
  by_cases h0 : r = 0
  · subst h0
    rw [if_neg (by simp)]
    clear hm
    go_enter Tryz.func71, Tryz.ntmps71
    go_wp2_with (go_at_call 96; go_must (refine (HRUN.out _ (Below.refl _ _)).mono ?_; rintro e w3 ⟨rfl, hB3⟩))
    go_ret2
    exact ⟨rfl, hb2.trans (hB3.mono hb2.size)⟩
  · have e0 : ((r : Int) == 0) = false := by simp; omega
    have e0' : (r == 0) = false := by simp; omega
    by_cases h1 : r < n
    · have e1 : decide ((r : Int) < (n : Int)) = true := by simp; omega
      rw [if_neg (by simp [h1])]
      clear hm
      go_enter Tryz.func71, Tryz.ntmps71
      go_wp2_with (go_at_call 96; go_must (refine (HRUN.out _ (Below.refl _ _)).mono ?_; rintro e w3 ⟨rfl, hB3⟩))
      go_ret2
      exact ⟨rfl, hb2.trans (hB3.mono hb2.size)⟩
    · have e1 : decide ((r : Int) < (n : Int)) = false := by simp; omega
      have hn0 : 0 < s.length := by rw [HN.out]; omega
      have c0 := fun w3 hb3 => HC.out 0 hn0 w3 hb3
      have hgd := HG.out hn0
      rw [hgd] at HFD ⊢
      rw [Nat.add_zero] at c0
      generalize s[0] = c at *
      have C0 := Lib.hid c0
      clear c0 hgd hm
      have hcb : (c == 48) = ((c.toNat : Int) == 48) := by
        rw [Bool.eq_iff_iff]; simp only [beq_iff_eq]
        constructor
        · rintro rfl; rfl
        · intro h; exact UInt8.toNat_inj.1 (by simpa using Int.ofNat_inj.1 h)
      rw [hcb] at HFD ⊢
      clear hcb
      cases hc : ((c.toNat : Int) == 48) with
      | false =>
        have hd := HFD.out (by rw [hc]; simp; omega)
        have hval := HVAL.out hd
        rw [if_pos (by simp; omega)]
        generalize valD most 0 s = v at *
        have HV := Lib.hid hval
        clear hd hval HFD
        cases v with
        | none =>
          go_enter Tryz.func71, Tryz.ntmps71
          go_wp2_with (first | (go_at_call 96; go_must (refine (HRUN.out _ (Below.refl _ _)).mono ?_; rintro e w3 ⟨rfl, hB3⟩; have c0 := C0.out _ hB3)) | (go_at_call 97; go_must (refine (HV.out _ hB3).mono ?_; rintro e w4 ⟨rfl, hB4⟩; have hB5 := hB3.trans (hB4.mono hB3.size))))
          go_ret2
          exact ⟨rfl, hb2.trans (hB5.mono hb2.size)⟩
        | some x =>
          go_enter Tryz.func71, Tryz.ntmps71
          go_wp2_with (first | (go_at_call 96; go_must (refine (HRUN.out _ (Below.refl _ _)).mono ?_; rintro e w3 ⟨rfl, hB3⟩; have c0 := C0.out _ hB3)) | (go_at_call 97; go_must (refine (HV.out _ hB3).mono ?_; rintro e w4 ⟨rfl, hB4⟩; have hB5 := hB3.trans (hB4.mono hB3.size))))
          go_ret2
          exact ⟨rfl, hb2.trans (hB5.mono hb2.size)⟩
      | true =>
        by_cases h2 : 1 < r
        · have e2 : decide (1 < (r : Int)) = true := by simp; omega
          rw [if_neg (by simp [h2])]
          clear HFD
          go_enter Tryz.func71, Tryz.ntmps71
          go_wp2_with (first | (go_at_call 96; go_must (refine (HRUN.out _ (Below.refl _ _)).mono ?_; rintro e w3 ⟨rfl, hB3⟩; have c0 := C0.out _ hB3)) | (go_at_call 97; go_must (refine (HV.out _ hB3).mono ?_; rintro e w4 ⟨rfl, hB4⟩; have hB5 := hB3.trans (hB4.mono hB3.size))))
          go_ret2
          exact ⟨rfl, hb2.trans (hB3.mono hb2.size)⟩
        · have e2 : decide (1 < (r : Int)) = false := by simp; omega
          have hd := HFD.out (by rw [hc]; simp; omega)
          have hval := HVAL.out hd
          rw [if_pos (by simp; omega)]
          generalize valD most 0 s = v at *
          have HV := Lib.hid hval
          clear hd hval HFD
          cases v with
          | none =>
            go_enter Tryz.func71, Tryz.ntmps71
            go_wp2_with (first | (go_at_call 96; go_must (refine (HRUN.out _ (Below.refl _ _)).mono ?_; rintro e w3 ⟨rfl, hB3⟩; have c0 := C0.out _ hB3)) | (go_at_call 97; go_must (refine (HV.out _ hB3).mono ?_; rintro e w4 ⟨rfl, hB4⟩; have hB5 := hB3.trans (hB4.mono hB3.size))))
            go_ret2
            exact ⟨rfl, hb2.trans (hB5.mono hb2.size)⟩
          | some x =>
            go_enter Tryz.func71, Tryz.ntmps71
            go_wp2_with (first | (go_at_call 96; go_must (refine (HRUN.out _ (Below.refl _ _)).mono ?_; rintro e w3 ⟨rfl, hB3⟩; have c0 := C0.out _ hB3)) | (go_at_call 97; go_must (refine (HV.out _ hB3).mono ?_; rintro e w4 ⟨rfl, hB4⟩; have hB5 := hB3.trans (hB4.mono hB3.size))))
            go_ret2
            exact ⟨rfl, hb2.trans (hB5.mono hb2.size)⟩
end Go.Proofs.YtdhmekpgplajmaaGreatDoor
end
section
namespace Go.Proofs.YtdhmekpgplajmaaGreatDoor
open Go.RowKit
/-- The reader is left. -/
def Left (w : World) (e : Ending) (w' : World) : Prop := e = .panicked [{ v := .iface 73 (.agg #[]), recovered := false }] ∧ Below w.heap.size w w'
theorem must_yes (w : World) : Calls Tryz.prog 17 #[.bool true] w (Ret w (.tuple #[])) := by
  go_enter Tryz.func17, Tryz.ntmps17
  go_wp2
  go_end0
  exact ⟨rfl, Below.refl _ _⟩
theorem must_no (w : World) : Calls Tryz.prog 17 #[.bool false] w (Left w) := by
  go_enter Tryz.func17, Tryz.ntmps17
  go_wp2
  exact ⟨rfl, rfl, Below.refl _ _⟩
/-- The number that a word says, or none. -/
def numT (s : List UInt8) : Option Nat := if formD s then valD 65536 0 s else none
/-- It is handed back, or the reader is left. -/
def RetNum (w : World) (v : Option Nat) : Ending → World → Prop := match v with | some x => Ret w (.int .i64 (x : Nat)) | none => Left w
theorem list_number (s : List UInt8) (w : World) (hs : s.length ≤ 9223372036854775807) : Calls Tryz.prog 47 #[sv s] w (RetNum w (numT s)) := by
  have hr := fun w => num_Read s 65536 w hs (by decide) (by decide)
  unfold readN at hr
  unfold numT
  have HY := Lib.hid must_yes
  have HX := Lib.hid must_no
  cases hf : formD s with
  | false =>
    rw [hf] at hr
    have HR := Lib.hid hr
    clear hr hf
    go_enter Tryz.func47, Tryz.ntmps47
    go_wp2_with (first | (go_at_call 71; go_must (refine (HR.out _).mono ?_; rintro e w3 ⟨rfl, hB3⟩)) | (go_at_call 17; go_must (refine (HX.out _).mono ?_; rintro e w4 ⟨rfl, hB4⟩)))
    exact ⟨rfl, rfl, hB3.trans (hB4.mono hB3.size)⟩
  | true =>
    rw [hf] at hr
    generalize valD 65536 0 s = v at *
    cases v with
    | none =>
      have HR := Lib.hid hr
      clear hr hf
      go_enter Tryz.func47, Tryz.ntmps47
      go_wp2_with (first | (go_at_call 71; go_must (refine (HR.out _).mono ?_; rintro e w3 ⟨rfl, hB3⟩)) | (go_at_call 17; go_must (refine (HX.out _).mono ?_; rintro e w4 ⟨rfl, hB4⟩)))
      exact ⟨rfl, rfl, hB3.trans (hB4.mono hB3.size)⟩
    | some x =>
      have HR := Lib.hid hr
      clear hr hf
      go_enter Tryz.func47, Tryz.ntmps47
      go_wp2_with (first | (go_at_call 71; go_must (refine (HR.out _).mono ?_; rintro e w3 ⟨rfl, hB3⟩)) | (go_at_call 17; go_must (refine (HY.out _).mono ?_; rintro e w4 ⟨rfl, hB4⟩)))
      go_ret
      exact ⟨rfl, hB3.trans (hB4.mono hB3.size)⟩
end Go.Proofs.YtdhmekpgplajmaaGreatDoor
end
section
namespace Go.Proofs.YtdhmekpgplajmaaGreatDoor
open Go.RowKit
/-- Does a byte stand for itself? -/
def plainN (x : Nat) : Bool := decide (33 ≤ x) && decide (x ≤ 126) && !(x == 92)
def plainS : BSet := ofWords 18446744065119617024 9223372036586340351 0 0
theorem plainS_words : word plainS 0 = 18446744065119617024 ∧ word plainS 1 = 9223372036586340351 ∧ word plainS 2 = 0 ∧ word plainS 3 = 0 := by
  have := word_ofWords 18446744065119617024 9223372036586340351 0 0
  unfold plainS
  simpa using this
theorem plainS_mem : ∀ x, x < 256 → mem plainS x = plainN x := by
  have h : (List.range 256).all (fun x => mem plainS x == plainN x) = true := by decide +kernel
  intro x hx
  have := List.all_eq_true.1 h x (by simpa using hx)
  simpa using this
def hexL : List UInt8 := [48, 49, 50, 51, 52, 53, 54, 55, 56, 57, 97, 98, 99, 100, 101, 102]
def hexd (d : Nat) : UInt8 := hexL.getD d 0
/-- A byte's text. -/
def oneB (x : UInt8) : List UInt8 := if plainN x.toNat then [x] else [92, 120, hexd (x.toNat / 16), hexd (x.toNat % 16)]
def quoteL (l : List UInt8) : List UInt8 := if l = [] then [92, 101] else l.flatMap oneB
theorem oneB_length (x : UInt8) : (oneB x).length ≤ 4 := by unfold oneB; split <;> simp
theorem flatMap_oneB_length (l : List UInt8) : (l.flatMap oneB).length ≤ l.length * 4 := by
  induction l with
  | nil => simp
  | cons a l ih => rw [List.flatMap_cons, List.length_append, List.length_cons]; have := oneB_length a; omega
set_option maxHeartbeats 400000 in
theorem quote_Plain (x : Nat) (w : World) (hx : x < 256) : Calls Tryz.prog 108 #[.int .u8 x] w (Ret w (.bool (plainN x))) := by
  obtain ⟨h0, h1, h2, h3⟩ := plainS_words
  have hxi := words_get plainS (x / 64) (by omega)
  have hm := plainS_mem x hx
  rw [h0, h1, h2, h3] at hxi
  have hz := word_lt plainS (x / 64)
  have hao := and_one (word plainS (x / 64)) (x % 64) hz
  have hmw := mem_word plainS x
  rw [← hmw, hm] at hao
  clear h0 h1 h2 h3 hm hmw
  have hxi : [Value.int .u64 18446744065119617024, .int .u64 9223372036586340351, .int .u64 0, .int .u64 0][x / 64]? = some (.int .u64 (word plainS (x / 64) : Nat)) := hxi
  generalize word plainS (x / 64) = q at *
  generalize plainN x = b at *
  go_enter Tryz.func108, Tryz.ntmps108
  go_wp2
  go_ret
  exact ⟨rfl, later_alloc _ _⟩
theorem hexL_get (d : Nat) (h : d < 16) : hexL[d]'(by simpa [hexL] using h) = hexd d := by
  unfold hexd; rw [List.getD_eq_getElem?_getD, List.getElem?_eq_getElem (by simpa [hexL] using h)]; rfl
theorem quote_Digit (d : Nat) (w : World) (hd : d < 16) : Calls Tryz.prog 109 #[.int .i64 d] w (Ret w (.int .u8 ((hexd d).toNat : Nat))) := by
  have hx := hexL_get d hd
  have hd0 : (0 : Int) ≤ (d : Int) := by omega
  have hd1 : ¬ (15 : Int) < (d : Int) := by omega
  have hd2 : (d : Int) < 16 := by omega
  have HX := Lib.hid hx
  clear hx
  go_enter Tryz.func109, Tryz.ntmps109
  go_wp2
  go_ret
  exact ⟨by rw [← HX.out]; rfl, Below.refl _ _⟩
theorem ret_bool {w : World} {a b : Bool} (h : a = b) : Ret w (.bool a) (.returned (.bool b)) w := ⟨by rw [h], Below.refl _ _⟩
theorem ref03_Plain (x : Nat) (w : World) (hx : x < 256) : Calls Tryz.prog 122 #[.int .u8 x] w (Ret w (.bool (plainN x))) := by
  unfold plainN
  by_cases h1 : 33 ≤ x
  · have h1' : decide (33 ≤ (x : Int)) = true := by simp; omega
    by_cases h2 : x ≤ 126
    · have h2' : decide ((x : Int) ≤ 126) = true := by simp; omega
      go_enter Tryz.func122, Tryz.ntmps122
      go_wp2
      go_ret
      exact ret_bool (by rw [Bool.eq_iff_iff]; simp; omega)
    · have h2' : decide ((x : Int) ≤ 126) = false := by simp; omega
      go_enter Tryz.func122, Tryz.ntmps122
      go_wp2
      go_ret
      exact ret_bool (by rw [Bool.eq_iff_iff]; simp; omega)
  · have h1' : decide (33 ≤ (x : Int)) = false := by simp; omega
    go_enter Tryz.func122, Tryz.ntmps122
    go_wp2
    go_ret
    exact ret_bool (by rw [Bool.eq_iff_iff]; simp; omega)
theorem ref03_One (x : UInt8) (w : World) : Calls Tryz.prog 110 #[.int .u8 (x.toNat : Nat)] w (Ret w (sv (oneB x))) := by
  have hx := x.toNat_lt
  have hp := fun w => ref03_Plain x.toNat w hx
  unfold oneB
  cases h : plainN x.toNat with
  | true =>
    rw [h] at hp
    have HP := Lib.hid hp
    have hcs := fun w => conv_strU (P := Tryz.prog) (src := 56) (dst := 9) Tryz.underlying56 Tryz.underlying5 Tryz.underlying9 (xs := [x]) rfl (sl_new encU_ok w 5 [x] (by simp [maxLen]))
    simp only [List.flatMap_cons, List.flatMap_nil, List.append_nil, encU, List.length_cons, List.length_nil, Nat.zero_add] at hcs
    rw [if_pos rfl]
    clear hp h
    go_enter Tryz.func110, Tryz.ntmps110
    go_wp2_with (go_at_call 122; go_must (refine (HP.out _).mono ?_; rintro e w1 ⟨rfl, hB⟩))
    go_ret
    exact ⟨rfl, hB.trans ((later_alloc _ _).mono hB.size)⟩
  | false =>
    rw [h] at hp
    have HP := Lib.hid hp
    rw [if_neg (by simp)]
    have hq1 : IntKind.u8.wrap ((x.toNat : Int) / 16) = ((x.toNat / 16 : Nat) : Int) := by rw [IntKind.wrap_u8']; omega
    have hq2 : (x.toNat : Int) % 16 = ((x.toNat % 16 : Nat) : Int) := by omega
    have hq3 : (x.toNat : Int).tmod 16 = ((x.toNat % 16 : Nat) : Int) := by rw [Int.tmod_eq_emod_of_nonneg (by omega)]; omega
    have hp1 : x.toNat / 16 < 16 := by omega
    have hr1 : x.toNat % 16 < 16 := by omega
    generalize x.toNat / 16 = p at *
    generalize x.toNat % 16 = r at *
    have HX1 : Hid ((⟨hexL.toArray⟩ : ByteArray)[p]'(by show _ < hexL.length; simp [hexL]; omega) = hexd p) := Lib.hid (hexL_get p hp1)
    have HX2 : Hid ((⟨hexL.toArray⟩ : ByteArray)[r]'(by show _ < hexL.length; simp [hexL]; omega) = hexd r) := Lib.hid (hexL_get r hr1)
    rw [← HX1.out, ← HX2.out]
    unfold hexL
    have hd0 : (0 : Int) ≤ (x.toNat : Int) := by omega
    have hd1 : (x.toNat : Int) < 256 := by omega
    have hpi : (p : Int) < 16 := by omega
    have hri : (r : Int) < 16 := by omega
    clear hp h HX1 HX2
    go_enter Tryz.func110, Tryz.ntmps110
    go_wp2_with (go_at_call 122; go_must (refine (HP.out _).mono ?_; rintro e w1 ⟨rfl, hB⟩))
    refine wp_region_M (R := Later) 9 (by kernel_rfl) ?_
    refine wpM_take (t := 9) (i := 0) (v := ?_) rfl (by kernel_rfl) (by kernel_rfl) (by kernel_rfl) (by kernel_rfl) (fun _ _ _ h => h) (by rfl) (fun w1 hl => ?_) ?_
    rotate_left
    · skip; go_simp; try with_reducible rfl
    simp only [List.getElem_toArray, List.getElem_cons_zero, Act.put, List.setIfInBounds_toArray, List.set_cons_zero, List.set_cons_succ]
    refine wpM_take (t := 9) (i := 1) (v := ?_) rfl (by kernel_rfl) (by kernel_rfl) (by kernel_rfl) (by kernel_rfl) (fun _ _ _ h => h) (by rfl) (fun w1 hl => ?_) ?_
    rotate_left
    · skip; go_simp; try with_reducible rfl
    simp only [List.getElem_toArray, List.getElem_cons_zero, List.getElem_cons_succ, Act.put, List.setIfInBounds_toArray, List.set_cons_zero, List.set_cons_succ]
    refine wpM_take (t := 9) (i := 2) (v := ?_) rfl (by kernel_rfl) (by kernel_rfl) (by kernel_rfl) (by kernel_rfl) (fun _ _ _ h => h) (by rfl) (fun w1 hl => ?_) ?_
    rotate_left
    · skip; go_simp; try with_reducible rfl
    simp only [List.getElem_toArray, List.getElem_cons_zero, List.getElem_cons_succ, Act.put, List.setIfInBounds_toArray, List.set_cons_zero, List.set_cons_succ]
    refine wpM_take (t := 9) (i := 3) (v := ?_) rfl (by kernel_rfl) (by kernel_rfl) (by kernel_rfl) (by kernel_rfl) (fun _ _ _ h => h) (by rfl) (fun w1 hl => ?_) ?_
    rotate_left
    · skip; go_simp; try with_reducible rfl
    simp only [List.getElem_toArray, List.getElem_cons_zero, List.getElem_cons_succ, Act.put, List.setIfInBounds_toArray, List.set_cons_zero, List.set_cons_succ]
    refine wpM_take (t := 9) (i := 4) (v := ?_) rfl (by kernel_rfl) (by kernel_rfl) (by kernel_rfl) (by kernel_rfl) (fun _ _ _ h => h) (by rfl) (fun w1 hl => ?_) ?_
    rotate_left
    · skip; go_simp; try with_reducible rfl
    simp only [List.getElem_toArray, List.getElem_cons_zero, List.getElem_cons_succ, Act.put, List.setIfInBounds_toArray, List.set_cons_zero, List.set_cons_succ]
    refine wpM_take (t := 9) (i := 5) (v := ?_) rfl (by kernel_rfl) (by kernel_rfl) (by kernel_rfl) (by kernel_rfl) (fun _ _ _ h => h) (by rfl) (fun w1 hl => ?_) ?_
    rotate_left
    · skip; go_simp; try with_reducible rfl
    simp only [List.getElem_toArray, List.getElem_cons_zero, List.getElem_cons_succ, Act.put, List.setIfInBounds_toArray, List.set_cons_zero, List.set_cons_succ]
    refine wpM_one (t := 9) (i := 6) (by kernel_rfl) rfl (fun w1 hl K hK => ?_)
    go_simp
    refine hK.out _ _ (fun _ => later_alloc _ _) ?_
    have hsl : SliceR (w1.alloc (.cells #[.int .u8 92, .int .u8 120, .int .u8 (((⟨#[48, 49, 50, 51, 52, 53, 54, 55, 56, 57, 97, 98, 99, 100, 101, 102]⟩ : ByteArray)[p]'(by simp [ByteArray.size]; omega)).toNat : Nat), .int .u8 (((⟨#[48, 49, 50, 51, 52, 53, 54, 55, 56, 57, 97, 98, 99, 100, 101, 102]⟩ : ByteArray)[r]'(by simp [ByteArray.size]; omega)).toNat : Nat)] 5)) (.slice (some ⟨w1.heap.size, 0, none⟩) 4 4) 1 encU [92, 120, ((⟨#[48, 49, 50, 51, 52, 53, 54, 55, 56, 57, 97, 98, 99, 100, 101, 102]⟩ : ByteArray)[p]'(by simp [ByteArray.size]; omega)), ((⟨#[48, 49, 50, 51, 52, 53, 54, 55, 56, 57, 97, 98, 99, 100, 101, 102]⟩ : ByteArray)[r]'(by simp [ByteArray.size]; omega))] := sl_new encU_ok w1 5 [92, 120, _, _] (by simp [maxLen])
    have hl1 : Later w (w1.alloc (.cells #[.int .u8 92, .int .u8 120, .int .u8 (((⟨#[48, 49, 50, 51, 52, 53, 54, 55, 56, 57, 97, 98, 99, 100, 101, 102]⟩ : ByteArray)[p]'(by simp [ByteArray.size]; omega)).toNat : Nat), .int .u8 (((⟨#[48, 49, 50, 51, 52, 53, 54, 55, 56, 57, 97, 98, 99, 100, 101, 102]⟩ : ByteArray)[r]'(by simp [ByteArray.size]; omega)).toNat : Nat)] 5)) := Later.trans _ _ _ (Later.trans _ _ _ hB.drew hl) (later_alloc _ _)
    have HCV : Hid (∀ w2, Later (w1.alloc (.cells #[.int .u8 92, .int .u8 120, .int .u8 (((⟨#[48, 49, 50, 51, 52, 53, 54, 55, 56, 57, 97, 98, 99, 100, 101, 102]⟩ : ByteArray)[p]'(by simp [ByteArray.size]; omega)).toNat : Nat), .int .u8 (((⟨#[48, 49, 50, 51, 52, 53, 54, 55, 56, 57, 97, 98, 99, 100, 101, 102]⟩ : ByteArray)[r]'(by simp [ByteArray.size]; omega)).toNat : Nat)] 5)) w2 → (convert 56 9 (.slice (some ⟨w1.heap.size, 0, none⟩) 4 4)).run Tryz.prog w2 = .ok (sv [92, 120, ((⟨#[48, 49, 50, 51, 52, 53, 54, 55, 56, 57, 97, 98, 99, 100, 101, 102]⟩ : ByteArray)[p]'(by simp [ByteArray.size]; omega)), ((⟨#[48, 49, 50, 51, 52, 53, 54, 55, 56, 57, 97, 98, 99, 100, 101, 102]⟩ : ByteArray)[r]'(by simp [ByteArray.size]; omega))]) w2) := Lib.hid fun w2 h2 => conv_strU (P := Tryz.prog) Tryz.underlying56 Tryz.underlying5 Tryz.underlying9 rfl (hsl.kept h2)
    clear hK K
    refine wpM_take (t := 9) (i := 7) (v := ?_) rfl (by kernel_rfl) (by kernel_rfl) (by kernel_rfl) (by kernel_rfl) (fun _ _ _ h => h) (by rfl) (fun w1 hl => ?_) ?_
    rotate_left
    · have hcs := HCV.out w1 hl; go_simp; try with_reducible rfl
    simp only [List.getElem_toArray, List.getElem_cons_zero, List.getElem_cons_succ, Act.put, List.setIfInBounds_toArray, List.set_cons_zero, List.set_cons_succ]
    refine wpM_take (t := 9) (i := 8) (v := ?_) rfl (by kernel_rfl) (by kernel_rfl) (by kernel_rfl) (by kernel_rfl) (fun _ _ _ h => h) (by rfl) (fun w1 hl => ?_) ?_
    rotate_left
    · skip; go_simp; try with_reducible rfl
    simp only [List.getElem_toArray, List.getElem_cons_zero, List.getElem_cons_succ, Act.put, List.setIfInBounds_toArray, List.set_cons_zero, List.set_cons_succ]
    refine wpM_done (by kernel_rfl) (fun w1 hl => ?_) _
    go_wp2
    go_ret
    exact ⟨rfl, Later.trans _ _ _ hl1 hl⟩
theorem elem_u8q : ElemOK Tryz.prog 56 5 (.int .u8 0) 1 1 := ⟨Tryz.underlying56, info_parts (by kernel_rfl), rfl, by decide⟩
set_option maxHeartbeats 1600000 in
theorem quote_Quote (a : Option Addr) (cap n : Nat) (xs : List UInt8) (w : World) (h : SliceR w (.slice a n cap) 1 encU xs) (hn4 : n * 4 ≤ 140737488355328) :
    Calls Tryz.prog 92 #[.slice a n cap] w (Ret w (sv (quoteL xs))) := by
  obtain ⟨b, o, hlen, hcap, hcap', ha, hcell⟩ := h.cells1
  by_cases h0 : n = 0
  · have e : xs = [] := List.eq_nil_of_length_eq_zero (by omega)
    subst h0
    rw [e, quoteL, if_pos rfl]
    clear hlen hcell ha e h
    go_enter Tryz.func92, Tryz.ntmps92
    go_wp2
    go_ret
    exact ⟨rfl, Below.refl _ _⟩
  · have e : quoteL xs = xs.flatMap oneB := by rw [quoteL, if_neg]; intro e; rw [e] at hlen; simp at hlen; omega
    rw [e]
    obtain rfl := ha 0 (by omega)
    have hc0 : (n : Int) ≠ 0 := by omega
    have hfl := fun k => flatMap_oneB_length (xs.take k)
    have HC := Lib.hid hcell
    have HL := Lib.hid hlen
    have HFL := Lib.hid hfl
    have hne : ((n : Int) == 0) = false := by simp; omega
    clear hlen hcell ha e h hfl
    go_enter Tryz.func92, Tryz.ntmps92
    go_wp2_with (refine wpList_makeO0 rfl 56 _ _ rfl elem_u8q encU_ok n rfl rfl (by omega) (by simp [maxLen]; omega) w.heap.size (Nat.le_refl _) ?_; intro w1 ho hg)
    have hB1 : Below w.heap.size w w1 := (Below.refl _ _).grown hg (Nat.le_refl _) (fun k hk => by cases hk)
    go_loopw [3, 14] (fun v i wr => ∃ (k m : Nat) (a' : Option Addr) (cap' : Nat), k ≤ n ∧ i = .int .i64 k ∧ v = .slice a' m cap' ∧ Own wr w.heap.size 5 1 encU (.slice a' m cap') ((xs.take k).flatMap oneB) ∧ Below w.heap.size w wr) (fun _ i _ => n - (intOf i).toNat)
    case atStart => exact ⟨0, 0, _, n, Nat.zero_le _, rfl, rfl, ho, hB1⟩
    case round =>
      clear ho hB1 hg
      obtain ⟨k, m, a', cap', hk, rfl, rfl, hown, hB⟩ := hrel
      by_cases hlt : k < n
      · have hk2 : k < xs.length := by rw [← HL.out]; exact hlt
        have c0 := HC.out k hk2 wr hB
        have hm := hown.open.1
        have hml := HFL.out k
        have hkl : (xs.take k).length ≤ k := List.length_take_le _ _
        have htk : (xs.take (k + 1)).flatMap oneB = (xs.take k).flatMap oneB ++ oneB xs[k] := by
          rw [List.take_succ_eq_append_getElem hk2, List.flatMap_append]; simp
        have hp := fun w => quote_Plain xs[k].toNat w xs[k].toNat_lt
        generalize xs[k] = x at *
        generalize (xs.take k).flatMap oneB = ys at *
        have hx := x.toNat_lt
        have HM := Lib.hid hm
        have hmb : m ≤ 4 * k := by omega
        have hysb : ys.length ≤ 4 * k := by omega
        clear hm hml hkl
        have hk0 : (0 : Int) ≤ (k : Int) := by omega
        have hkm : (k : Int) < (n : Int) := by omega
        have hob : oneB x = if plainN x.toNat then [x] else [92, 120, hexd (x.toNat / 16), hexd (x.toNat % 16)] := rfl
        cases hpx : plainN x.toNat with
        | true =>
          rw [hpx, if_pos rfl] at hob
          rw [hob] at htk
          rw [hpx] at hp
          have HTK := Lib.hid htk
          have HP := Lib.hid hp
          clear htk hp hpx hob
          go_wp2_with (first | (go_at_call 108; go_must (refine (HP.out _).mono ?_; rintro e w5 ⟨rfl, hb5⟩; have hown5 := hown.kept hb5)) | (at_builtin; go_must (refine wpList_append1 rfl _ _ 56 rfl elem_u8q encU_ok rfl (hown5.alloc _) ⟨w5.heap.size, 0, none⟩ 1 x rfl (new_cells w5 [.int .u8 (x.toNat : Nat)] _) (by simp [maxLen]; omega) (by omega) (by have := hb5.size; have := hB.size; simp at *; omega) ?_; intro a2 cap2 W' hown' hg)))
          go_roundw
          case rel =>
            have h6 := hB.trans (hb5.mono hB.size)
            have h7 := h6.alloc h6.size (.cells #[.int .u8 (x.toNat : Nat)] 5)
            exact ⟨k + 1, _, a2, cap2, hlt, by go_num, rfl, by rw [HTK.out]; exact hown', below_grown h7 (hown5.alloc _) hg (Nat.le_refl _) h7.size⟩
          case measure => simp [intOf]; omega
        | false =>
          rw [hpx, if_neg (by simp)] at hob
          rw [hob] at htk
          rw [hpx] at hp
          have HTK := Lib.hid htk
          have HP := Lib.hid hp
          clear htk hp hpx hob
          have hp1 : x.toNat / 16 < 16 := by omega
          have hr1 : x.toNat % 16 < 16 := by omega
          have hq1 : (x.toNat : Int) / 16 = ((x.toNat / 16 : Nat) : Int) := by omega
          have hq2 : (x.toNat : Int) % 16 = ((x.toNat % 16 : Nat) : Int) := by omega
          have hd1 := fun w => quote_Digit (x.toNat / 16) w hp1
          have hd2 := fun w => quote_Digit (x.toNat % 16) w hr1
          generalize x.toNat / 16 = p at *
          generalize x.toNat % 16 = r at *
          have HD1 := Lib.hid hd1
          have HD2 := Lib.hid hd2
          clear hd1 hd2
          go_wp2_with fail
          refine (HP.out _).mono ?_
          rintro e w5 ⟨rfl, hb5⟩
          go_wp2_with fail
          refine (HD1.out _).mono ?_
          rintro e w6 ⟨rfl, hb6⟩
          go_wp2_with fail
          refine (HD2.out _).mono ?_
          rintro e w7 ⟨rfl, hb7⟩
          have h6 := ((hB.trans (hb5.mono hB.size)).trans (hb6.mono (by have := hB.size; have := hb5.size; omega))).trans (hb7.mono (by have := hB.size; have := hb5.size; have := hb6.size; omega))
          have hown7 := ((hown.kept hb5).kept hb6).kept hb7
          generalize hexd p = dp at *
          generalize hexd r = dr at *
          clear hb5 hb6 hb7 hown hB
          go_wp2_with (at_builtin; go_must (refine wpList_appendN rfl _ _ 56 rfl elem_u8q encU_ok rfl (hown7.alloc _) ⟨w7.heap.size, 0, none⟩ 4 [92, 120, dp, dr] rfl (new_cells w7 [.int .u8 92, .int .u8 120, .int .u8 (dp.toNat : Nat), .int .u8 (dr.toNat : Nat)] _) (by simp [maxLen]; omega) (by simp; omega) (by have := h6.size; simp at *; omega) ?_; intro a2 cap2 W' hown' hg))
          go_roundw
          case rel =>
            have h7 := h6.alloc h6.size (.cells #[.int .u8 92, .int .u8 120, .int .u8 (dp.toNat : Nat), .int .u8 (dr.toNat : Nat)] 5)
            exact ⟨k + 1, _, a2, cap2, hlt, by go_num, rfl, by rw [HTK.out]; exact hown', below_grown h7 (hown7.alloc _) hg (Nat.le_refl _) h7.size⟩
          case measure => simp [intOf]; omega
      · obtain rfl : k = n := by omega
        have htk : xs.take k = xs := List.take_of_length_le (by rw [← HL.out]; exact Nat.le_refl _)
        rw [htk] at hown
        have hm := hown.open.1
        have hcs := conv_strU (P := Tryz.prog) (src := 56) (dst := 9) Tryz.underlying56 Tryz.underlying5 Tryz.underlying9 hm (hown.slice encU_ok)
        generalize xs.flatMap oneB = ys at *
        clear hm hown
        go_wp2
        go_ret
        exact ⟨rfl, hB⟩
end Go.Proofs.YtdhmekpgplajmaaGreatDoor
end
section
namespace Go.Proofs.YtdhmekpgplajmaaGreatDoor
open Go.RowKit
/-- The array of digits, j of them written. -/
def DigA (k j g : Nat) (w : World) : Prop := ∃ c : Array Value, Box w g c 91 ∧ c.size = 20 ∧ ∀ i, i < j → c[19 - i]? = some (.int .u8 ((dig ((k / 10 ^ i) % 10)).toNat : Nat))
theorem DigA.slice {k j g : Nat} {w : World} (h : DigA k (j + 1) g w) (hj : j < 20) : SliceR w (.slice (some ⟨g, 19 - j, none⟩) (j + 1) (j + 1)) 1 encU (digs k (j + 1)) := by
  obtain ⟨c, hb, hs, hc⟩ := h
  refine ⟨_, g, 19 - j, j + 1, by rw [digs_length], by rw [digs_length]; exact Nat.le_refl _, by simp [maxLen]; omega, .inl rfl, fun i hi q u hu => ?_⟩
  rw [digs_length] at hi
  rw [digs_get] at hu
  have hq : q = 0 := by have := (List.getElem?_eq_some_iff.1 hu).1; simp [encU] at this; omega
  subst hq
  rw [hb.cell]
  have := hc (j - i) (by omega)
  rw [show 19 - j + i * 1 + 0 = 19 - (j - i) by omega, this]
  rw [show j + 1 - 1 - i = j - i by omega] at hu
  exact hu
theorem DigA.put {k j g : Nat} {w : World} (h : DigA k j g w) (hj : j < 20) : DigA k (j + 1) g (w.setCell ⟨g, 19 - j, none⟩ (.int .u8 ((dig ((k / 10 ^ j) % 10)).toNat : Nat))) := by
  obtain ⟨c, hb, hs, hc⟩ := h
  refine ⟨_, hb.set _ _, by simpa using hs, fun i hi => ?_⟩
  rw [Array.getElem?_setIfInBounds]
  by_cases hij : i = j
  · subst hij; simp; omega
  · rw [if_neg (by omega)]; exact hc i (by omega)
set_option maxRecDepth 20000 in
theorem slice20 (g p j : Nat) (hp : 19 - j = p) (hj : j < 20) (w : World) : (Instr.sliceAt 91 (.pointer (some ⟨g, 0, none⟩)) (some (.int .i64 (p : Nat))) none none).run Tryz.prog w = .ok (.slice (some ⟨g, p, none⟩) (j + 1) (j + 1)) w := by
  have hu := Tryz.underlying91
  have := run_sliceAt_array_l (P := Tryz.prog) w 91 ⟨g, 0, none⟩ (by kernel_rfl) .i64 (p : Nat) (by omega) (by rw [show Tryz.prog.arrayLen 91 = 20 by kernel_rfl]; omega)
  rw [this, show Tryz.prog.arrayLen 91 = 20 by kernel_rfl, show Tryz.prog.elem 91 = 5 by kernel_rfl, Tryz.sizeOf5]
  simp only [Result.andThen_ok, slicedAt, Int.toNat_natCast, Nat.mul_one, Addr.add_mid, Nat.zero_add]
  rw [show 20 - p = j + 1 by omega]
  congr 3
  split
  · omega
  · rfl
set_option maxHeartbeats 800000 in
set_option maxRecDepth 20000 in
theorem num_Show (n : Int) (w : World) (hn : n ≤ 9223372036854775807) (hn0 : -9223372036854775808 ≤ n) : Calls Tryz.prog 33 #[.int .i64 n] w (Ret w (sv (showI n))) := by
  by_cases h0 : n < 0
  · have e : showI n = [] := by rw [showI, if_pos h0]
    rw [e]
    go_enter Tryz.func33, Tryz.ntmps33
    go_wp2
    go_ret
    exact ⟨rfl, Below.refl _ _⟩
  · obtain ⟨k, rfl⟩ : ∃ k : Nat, n = k := ⟨n.toNat, by omega⟩
    have hz : ∀ w, (zeroValue 91).run Tryz.prog w = .ok (.agg (Array.replicate 20 (.int .u8 0))) w := fun w => by
      have := Tryz.zeroValue91 w
      exact this
    go_enter Tryz.func33, Tryz.ntmps33
    go_wp2
    go_loopw [0, 4] (fun v i wr => ∃ j p : Nat, p + j = 20 ∧ (j = 0 ∨ k / 10 ^ j ≠ 0) ∧ v = .int .i64 (k / 10 ^ j : Nat) ∧ i = .int .i64 p ∧ DigA k j w.heap.size wr ∧ Below w.heap.size w wr) (fun v _ _ => (intOf v).toNat)
    case atStart =>
      refine ⟨0, 20, rfl, .inl rfl, by rw [Nat.pow_zero, Nat.div_one], rfl, ⟨_, Box.new w _ _, by simp, fun i hi => by omega⟩, by go_grown⟩
    case round =>
      obtain ⟨j, p, hp, hd, rfl, rfl, hD, hB⟩ := hrel
      have hj : j ≤ 18 := by
        rcases hd with rfl | hd
        · omega
        · rcases Nat.lt_or_ge j 19 with h | h
          · omega
          · exact absurd (Nat.div_eq_of_lt (Nat.lt_of_lt_of_le (show k < 10 ^ 19 by omega) (Nat.pow_le_pow_right (by decide) h))) hd
      obtain ⟨p, rfl⟩ : ∃ q, p = q + 1 := ⟨p - 1, by omega⟩
      have hpj : 19 - j = p := by omega
      have hput := hD.put (show j < 20 by omega)
      have hdd : k / 10 ^ j / 10 = k / 10 ^ (j + 1) := by rw [Nat.div_div_eq_div_mul, ← Nat.pow_succ]
      have hshow := digs_show j k
      have hle : k / 10 ^ j ≤ k := Nat.div_le_self _ _
      rw [hpj] at hput
      obtain ⟨c, hb, hs, _⟩ := hD
      have hc : wr.cell? ⟨w.heap.size, p, none⟩ = some (c[p]'(by omega)) := (hb.cell p).trans (Array.getElem?_eq_getElem (by omega))
      have hf := hb.free p
      generalize c[p]'(by omega) = cp at *
      have hdt := dig_toNat (k / 10 ^ j % 10) (Nat.mod_lt _ (by decide))
      have HS := Lib.hid hshow
      have HD := Lib.hid hd
      have HDD := Lib.hid hdd
      have HP := Lib.hid hput
      generalize hq : k / 10 ^ j = q at *
      generalize dig (q % 10) = d at *
      clear hq hput hshow hd hdd hb hs
      have hw1 : (d.toNat : Int) = 48 + (q : Int) % 10 := by omega
      have HW := Lib.hid hw1
      clear hw1 hdt
      have hq0 : (0 : Int) ≤ (q : Int) := by omega
      have hql : (q : Int) ≤ 9223372036854775807 := by omega
      have hpl : (p : Int) < 20 := by omega
      have hp0 : (0 : Int) ≤ (p : Int) := by omega
      by_cases hz2 : q / 10 = 0
      · have hz3 : ((q : Int) / 10 == 0) = true := by simp; omega
        have hz4 : k / 10 ^ (j + 1) = 0 := by rw [← HDD.out]; exact hz2
        have e := HS.out hz4 HD.out
        have hsl := (HP.out.slice (by omega))
        rw [hpj, e] at hsl
        have hcs := conv_strU (P := Tryz.prog) (src := 56) (dst := 9) Tryz.underlying56 Tryz.underlying5 Tryz.underlying9 (by rw [← e, digs_length]) hsl
        have hsc := slice20 w.heap.size p j hpj (by omega)
        have hB2 := hB.setCell (p := ⟨w.heap.size, p, none⟩) (Nat.le_refl _) (.int .u8 (d.toNat : Nat))
        rw [HW.out] at hcs hB2
        clear e hsl hz4
        go_wp2
        go_ret
        exact ⟨rfl, hB2⟩
      · have hz3 : ((q : Int) / 10 == 0) = false := by simp; omega
        go_wp2
        go_roundw
        case rel =>
          refine ⟨j + 1, p, by omega, .inr (by rw [← HDD.out]; exact hz2), by rw [← HDD.out]; simp, rfl, ?_, ?_⟩
          · rw [← HW.out]; exact HP.out
          · exact hB.setCell (p := ⟨w.heap.size, p, none⟩) (Nat.le_refl _) _
        case measure => simp [intOf]; omega
set_option maxHeartbeats 800000 in
theorem ref01_ShowN (k : Nat) : ∀ (w : World), (k : Int) ≤ 9223372036854775807 → Calls Tryz.prog 38 #[.int .i64 k] w (Ret w (sv (showN k))) := by
  induction k using Nat.strongRecOn with
  | ind k ih =>
    intro w hk
    have hk0 : (0 : Int) ≤ (k : Int) := by omega
    by_cases h10 : k < 10
    · have e := showN_small h10
      rw [e]
      have hd := dig_toNat k h10
      have hl : (k : Int) < 10 := by omega
      have hw : IntKind.u8.wrap (48 + (k : Int)) = ((dig k).toNat : Nat) := by rw [IntKind.wrap_u8', hd]; omega
      have hcs := fun w => conv_strU (P := Tryz.prog) (src := 56) (dst := 9) Tryz.underlying56 Tryz.underlying5 Tryz.underlying9 (xs := [dig k]) rfl (sl_new encU_ok w 5 [dig k] (by simp [maxLen]))
      have hd2 : ((dig k).toNat : Int) = 48 + (k : Int) := by omega
      simp only [List.flatMap_cons, List.flatMap_nil, List.append_nil, encU, hd2, List.length_cons, List.length_nil, Nat.zero_add] at hcs
      clear e hd hd2 hw
      go_enter Tryz.func38, Tryz.ntmps38
      go_wp2
      go_ret
      exact ⟨rfl, later_alloc _ _⟩
    · have e := showN_big h10
      have h1 := fun w => ih (k / 10) (by omega) w (by omega)
      have h2 := fun w => ih (k % 10) (by omega) w (by omega)
      rw [showN_small (Nat.mod_lt _ (by decide))] at h2
      rw [Int.natCast_ediv] at h1
      rw [Int.natCast_emod] at h2
      rw [e]
      have hl : ¬ (k : Int) < 10 := by omega
      have hap := sv_append (showN (k / 10)) [dig (k % 10)]
      have hla := showN_length 18 (k / 10) (by omega)
      generalize showN (k / 10) = a at *
      generalize dig (k % 10) = d at *
      have H1 := Lib.hid h1
      have H2 := Lib.hid h2
      clear h1 h2 e ih
      go_enter Tryz.func38, Tryz.ntmps38
      go_wp2_with fail
      refine (H1.out _).mono ?_
      rintro e w1 ⟨rfl, hB1⟩
      go_wp2_with fail
      refine (H2.out _).mono ?_
      rintro e w2 ⟨rfl, hB2⟩
      go_wp2_with fail
      go_ret
      exact ⟨rfl, hB1.trans (hB2.mono hB1.size)⟩
theorem ref01_Show (n : Int) (w : World) (hn : n ≤ 9223372036854775807) : Calls Tryz.prog 38 #[.int .i64 n] w (Ret w (sv (showI n))) := by
  by_cases h0 : n < 0
  · have e : showI n = [] := by rw [showI, if_pos h0]
    rw [e]
    go_enter Tryz.func38, Tryz.ntmps38
    go_wp2
    go_ret
    exact ⟨rfl, Below.refl _ _⟩
  · obtain ⟨k, rfl⟩ : ∃ k : Nat, n = k := ⟨n.toNat, by omega⟩
    rw [showI_nat]
    exact ref01_ShowN k w hn
end Go.Proofs.YtdhmekpgplajmaaGreatDoor
end
