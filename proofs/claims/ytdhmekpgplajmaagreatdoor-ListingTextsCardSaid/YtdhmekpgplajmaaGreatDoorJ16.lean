/- Joined by tools/merge.py: DfaNames. -/
import Derived.Test.YtdhmekpgplajmaaGreatDoorJ9
import Derived.Test.YtdhmekpgplajmaaGreatDoorShelf
section
namespace Go.Proofs.YtdhmekpgplajmaaGreatDoor
open Go.RowKit
abbrev bs (l : List UInt8) : ByteArray := ⟨l.toArray⟩
theorem bs_inj {a b : List UInt8} (h : bs a = bs b) : a = b := by
  have := congrArg (fun s : ByteArray => s.data.toList) h
  simpa using this
def nameAt (l : List (List UInt8)) (i : Nat) : Bool := nameT (l.getD i []) && !((l.take i).contains (l.getD i []))
def namesTo (l : List (List UInt8)) (k : Nat) : Bool := (List.range k).all (nameAt l)
theorem namesTo_succ (l : List (List UInt8)) (k : Nat) : namesTo l (k + 1) = (namesTo l k && nameAt l k) := by
  unfold namesTo; rw [List.range_succ, List.all_append]; simp
theorem namesTo_false (l : List (List UInt8)) (k n : Nat) (hk : k < n) (h : nameAt l k = false) : namesTo l n = false := by
  unfold namesTo
  rw [List.all_eq_false]
  exact ⟨k, by simpa using hk, by simp [h]⟩
/-- May names be? -/
def namesOK (l : List (List UInt8)) : Bool := decide (l.length ≤ 64) && namesTo l l.length
theorem contains_bs (l : List (List UInt8)) (s : List UInt8) : Lib.containsS (l.map bs) (bs s) = l.contains s := by
  rw [Bool.eq_iff_iff, Lib.containsS_iff, List.contains_iff_mem, List.mem_map]
  exact ⟨fun ⟨x, hx, he⟩ => bs_inj he ▸ hx, fun h => ⟨s, h, rfl⟩⟩
set_option maxHeartbeats 800000 in
theorem dfa_names (a : Option Addr) (cap n : Nat) (l : List (List UInt8)) (w : World) (h : SliceR w (.slice a n cap) 1 encT l) (hl : ∀ x ∈ l, x.length ≤ 9223372036854775807) :
    Calls Tryz.prog 55 #[.slice a n cap] w (Ret w (.bool (namesOK l))) := by
  obtain ⟨b, o, hlen, hcap, hcap', ha, hcell⟩ := h.cells1
  have hnn : n ≤ 9223372036854775807 := by omega
  have e : namesOK l = (decide (n ≤ 64) && namesTo l n) := by rw [hlen]; rfl
  rw [e]
  by_cases h64 : 64 < n
  · have e1 : decide (n ≤ 64) = false := by simp; omega
    rw [e1]
    have h64' : (64 : Int) < (n : Int) := by omega
    clear hlen hcell ha h e e1
    go_enter Tryz.func55, Tryz.ntmps55
    go_wp2
    go_ret
    exact ⟨rfl, Below.refl _ _⟩
  · have e1 : decide (n ≤ 64) = true := by simp; omega
    rw [e1, Bool.true_and]
    have hd64 : decide ((64 : Int) < (n : Int)) = false := by simp; omega
    have HC := Lib.hid hcell
    have HL := Lib.hid hlen
    have HA := Lib.hid ha
    have HLL := Lib.hid hl
    clear hlen hcell ha h e e1 hl
    go_enter Tryz.func55, Tryz.ntmps55
    go_wp2
    go_loopw [10] (fun i wr => ∃ k : Nat, k ≤ n ∧ i = .int .i64 k ∧ namesTo l k = true ∧ Below w.heap.size w wr) (fun i _ => n - (intOf i).toNat)
    case atStart => exact ⟨0, Nat.zero_le _, rfl, rfl, Below.refl _ _⟩
    case round =>
      obtain ⟨k, hk, rfl, hok, hB⟩ := hrel
      by_cases hlt : k < n
      · have hk2 : k < l.length := by rw [← HL.out]; exact hlt
        obtain rfl := HA.out k hk2
        have c0 := HC.out k hk2 wr hB
        have hnm := fun w => spec_Name l[k] w (HLL.out _ (List.getElem_mem hk2))
        have hnx : nameAt l k = (nameT l[k] && !((l.take k).contains l[k])) := by
          unfold nameAt; rw [List.getD_eq_getElem?_getD, List.getElem?_eq_getElem hk2]; rfl
        have hsucc := namesTo_succ l k
        rw [hok, Bool.true_and] at hsucc
        have hfalse := namesTo_false l k n hlt
        have hcon : ∀ w2, Below w.heap.size w w2 → Calls Tryz.prog 84 #[.slice (some ⟨b, o, none⟩) k cap, sv l[k]] w2 (fun e w' => e = .returned (.bool ((l.take k).contains l[k])) ∧ w' = w2) := fun w2 h2 => by
          have := Tryz.slices_Contains_string b o k cap (l.map bs) (bs l[k]) w2 (by rw [List.length_map]; omega) (by omega) (fun j hj => by
            rw [List.length_map] at hj
            have := HC.out j hj w2 h2
            rw [this, List.getD_eq_getElem?_getD, List.getElem?_map, List.getElem?_eq_getElem hj]; rfl)
          rw [← List.map_take, contains_bs] at this
          exact this
        generalize l[k] = s at *
        have HNM := Lib.hid hnm
        have HCO := Lib.hid hcon
        have HSU := Lib.hid hsucc
        have HFA := Lib.hid hfalse
        have hk0 : (0 : Int) ≤ (k : Int) := by omega
        have hkm : (k : Int) < (n : Int) := by omega
        have hkc : (k : Int) ≤ (cap : Int) := by omega
        clear hnm hcon hsucc hfalse hok
        generalize (l.take k).contains s = q at *
        cases hn : nameT s with
        | true =>
          rw [hn] at HNM hnx
          cases q with
          | true =>
            have hx : nameAt l k = false := hnx
            have HX := Lib.hid hx
            clear hx hnx hn
            go_wp2_with (first | (go_at_call 83; go_must (refine (HNM.out _).mono ?_; rintro e w1 ⟨rfl, hB1⟩; have hB2 := hB.trans (hB1.mono hB.size))) | (go_at_call 84; go_must (refine (HCO.out _ hB2).mono ?_; rintro e w3 ⟨rfl, rfl⟩)))
            go_ret
            exact ⟨by rw [HFA.out HX.out]; rfl, hB2⟩
          | false =>
            have hx : nameAt l k = true := hnx
            have HX := Lib.hid hx
            clear hx hnx hn
            go_wp2_with (first | (go_at_call 83; go_must (refine (HNM.out _).mono ?_; rintro e w1 ⟨rfl, hB1⟩; have hB2 := hB.trans (hB1.mono hB.size))) | (go_at_call 84; go_must (refine (HCO.out _ hB2).mono ?_; rintro e w3 ⟨rfl, rfl⟩)))
            go_roundw
            case rel => exact ⟨k + 1, hlt, by go_num, by rw [HSU.out, HX.out], hB2⟩
            case measure => simp [intOf]; omega
        | false =>
          rw [hn] at HNM hnx
          have hx : nameAt l k = false := hnx
          have HX := Lib.hid hx
          clear hx hnx hn
          go_wp2_with (go_at_call 83; go_must (refine (HNM.out _).mono ?_; rintro e w1 ⟨rfl, hB1⟩; have hB2 := hB.trans (hB1.mono hB.size)))
          go_ret
          exact ⟨by rw [HFA.out HX.out]; rfl, hB2⟩
      · obtain rfl : k = n := by omega
        have HOK := Lib.hid hok
        clear hok
        go_wp2
        go_ret
        exact ⟨by rw [HOK.out]; rfl, hB⟩
end Go.Proofs.YtdhmekpgplajmaaGreatDoor
end
