/- Joined by tools/merge.py: Ref01Read, RefEq, Quote, Show. -/
import Derived.Test.YtdhmekpgplajmaaGreatDoorR7
import Derived.Test.YtdhmekpgplajmaaGreatDoorProg
import Derived.Test.YtdhmekpgplajmaaGreatDoorR2
import Derived.Test.YtdhmekpgplajmaaGreatDoorR3
import Derived.Deep.DeepCutAuto
section
namespace Go.Proofs.YtdhmekpgplajmaaGreatDoor
open Go.RowKit
theorem ref01_Digit (x : Nat) (w : World) : Calls Tryz.prog 81 #[.int .u8 x] w (Ret w (.bool (digitN x))) := by
  unfold digitN
  by_cases a1 : 48 ≤ x
  · have e1 : decide (48 ≤ (x : Int)) = true := by simp; omega
    go_enter Tryz.func81, Tryz.ntmps81
    go_wp2
    go_ret
    exact ⟨eq_b (by rw [Bool.eq_iff_iff]; simp; omega), Below.refl _ _⟩
  · have e1 : decide (48 ≤ (x : Int)) = false := by simp; omega
    go_enter Tryz.func81, Tryz.ntmps81
    go_wp2
    go_ret
    exact ⟨eq_b (by rw [Bool.eq_iff_iff]; simp; omega), Below.refl _ _⟩
/-! ### Numbers -/
def valV (l : List UInt8) : Nat := l.foldl (fun v c => v * 10 + (c.toNat - 48)) 0
/-- Is a word a number of up to 19 digits, and of up to 65535? -/
def ok01 (s : List UInt8) : Bool := (s.all fun c => digitN c.toNat) && (!s.isEmpty && (!(s.getD 0 0 == 48 && decide (1 < s.length)) && (decide (s.length ≤ 19) && decide (valV s ≤ 65535))))
def read01 (s : List UInt8) : Nat := if ok01 s = true then valV s else 0
theorem valV_snoc (l : List UInt8) (c : UInt8) : valV (l ++ [c]) = valV l * 10 + (c.toNat - 48) := by unfold valV; rw [List.foldl_append]; rfl
def alld (s : List UInt8) : Bool := s.all fun c => digitN c.toNat
theorem alld_cons (c : UInt8) (s : List UInt8) : alld (c :: s) = (digitN c.toNat && alld s) := rfl
theorem ok01_alld (s : List UInt8) : ok01 s = (alld s && (!s.isEmpty && (!(s.getD 0 0 == 48 && decide (1 < s.length)) && (decide (s.length ≤ 19) && decide (valV s ≤ 65535))))) := rfl
theorem valV_lt : ∀ s : List UInt8, alld s = true → valV s < 10 ^ s.length := by
  intro s
  have key : ∀ (n : Nat) (s : List UInt8), s.length = n → alld s = true → valV s < 10 ^ n := by
    intro n
    induction n with
    | zero => intro s h _; rw [List.eq_nil_of_length_eq_zero h]; decide
    | succ n ih =>
      intro s h ha
      obtain ⟨t, c, rfl⟩ : ∃ t c, s = t ++ [c] := ⟨s.dropLast, s.getLast (by intro e; rw [e] at h; simp at h), (List.dropLast_concat_getLast _).symm⟩
      unfold alld at ha
      rw [List.all_append, Bool.and_eq_true] at ha
      have h1 := ih t (by simpa using h) ha.1
      have h2 := ha.2
      unfold digitN at h2
      simp only [List.all_cons, List.all_nil, Bool.and_true, Bool.and_eq_true, decide_eq_true_eq] at h2
      rw [valV_snoc, Nat.pow_succ]
      omega
  exact key _ s rfl
theorem alld_take {s : List UInt8} (h : alld s = true) (k : Nat) : alld (s.take k) = true := by
  unfold alld at h ⊢
  rw [List.all_eq_true] at h ⊢
  exact fun x hx => h x (List.mem_of_mem_take hx)
set_option maxHeartbeats 1600000 in
theorem ref01_Read (s : List UInt8) (w : World) (hs : s.length ≤ 9223372036854775807) : Calls Tryz.prog 51 #[sv s, .int .i64 65535] w (fun e w' => Below w.heap.size w w' ∧ ∃ c : Int, e = .returned (.tuple #[.int .i64 (read01 s : Nat), .int .i64 c])) := by
  obtain ⟨n, hn⟩ : ∃ n, s.length = n := ⟨_, rfl⟩
  have hix : ∀ (k : Nat) (h : k < (⟨s.toArray⟩ : ByteArray).size) (h2 : k < s.length), (⟨s.toArray⟩ : ByteArray)[k] = s[k] := fun k h h2 => rfl
  have hsz : (⟨s.toArray⟩ : ByteArray).size = n := by rw [sv_size, hn]
  have hvl := valV_lt s
  have hok := ok01_alld s
  have hg0 : ∀ h : 0 < s.length, s.getD 0 0 = s[0] := fun h => by simp [List.getD_eq_getElem?_getD, h]
  have hr1 : ok01 s = true → read01 s = valV s := fun h => by unfold read01; rw [if_pos h]
  have hr0 : ok01 s = false → read01 s = 0 := fun h => by unfold read01; rw [h]; rfl
  have hnil : s.isEmpty = (n == 0) := by cases s with
    | nil => simp at hn; subst hn; rfl
    | cons a r => simp at hn; subst hn; simp
  rw [hnil, hn] at hok
  have htk : s.take n = s := by rw [← hn, List.take_length]
  have hvt : alld s = true → ∀ k, k ≤ 19 → valV (s.take k) < 10000000000000000000 := fun h k hk => by
    have h1 := valV_lt _ (alld_take h k)
    refine Nat.lt_of_lt_of_le h1 (Nat.le_trans (Nat.pow_le_pow_right (by decide) (Nat.le_trans (List.length_take_le k s) hk)) (by decide))
  have hvs : ∀ (k : Nat) (h : k < s.length), valV (s.take (k + 1)) = valV (s.take k) * 10 + (s[k].toNat - 48) := fun k h => by
    rw [List.take_add_one, List.getElem?_eq_getElem h]; exact valV_snoc _ _
  have hdg : alld s = true → ∀ (k : Nat) (h : k < s.length), digitN s[k].toNat = true := fun h k hk => by
    unfold alld at h; rw [List.all_eq_true] at h; exact h _ (List.getElem_mem hk)
  have HIX := Lib.hid hix
  have HN := Lib.hid hn
  have HOK := Lib.hid hok
  have HG := Lib.hid hg0
  have HR1 := Lib.hid hr1
  have HR0 := Lib.hid hr0
  have HTK := Lib.hid htk
  have HVT := Lib.hid hvt
  have HVS := Lib.hid hvs
  have HDG := Lib.hid hdg
  rw [hn] at hs
  clear hix hvl hok hg0 hr1 hr0 hnil htk hvt hvs hdg
  go_enter Tryz.func51, Tryz.ntmps51
  go_wp2
  go_loopw [6] (fun i wr => ∃ k : Nat, k ≤ n ∧ i = .int .i64 k ∧ alld s = alld (s.drop k) ∧ Below w.heap.size w wr) (fun i _ => n - (intOf i).toNat)
  case atStart => exact ⟨0, Nat.zero_le _, rfl, rfl, Below.refl _ _⟩
  case round =>
    obtain ⟨k, hk, rfl, ha, hB⟩ := hrel
    by_cases hlt : k < n
    · have hk2 : k < s.length := by rw [HN.out]; exact hlt
      rw [drop_at s k hk2, alld_cons] at ha
      have hi := fun h => HIX.out k h hk2
      have hm := fun w => ref01_Digit s[k].toNat w
      generalize s[k] = c at *
      cases hmy : digitN c.toNat with
      | true =>
        rw [hmy] at hm
        rw [hmy, Bool.true_and] at ha
        have HM := Lib.hid hm
        have HA := Lib.hid ha
        clear hm ha hmy
        go_wp2_with (go_at_call 81; go_must (refine (HM.out _).mono ?_; rintro e w1 ⟨rfl, hB1⟩))
        go_roundw
        case rel => exact ⟨k + 1, hlt, by go_num, HA.out, hB.trans (hB1.mono hB.size)⟩
        case measure => simp [intOf]; omega
      | false =>
        rw [hmy] at hm
        rw [hmy, Bool.false_and] at ha
        have HM := Lib.hid hm
        have HA := Lib.hid ha
        clear hm ha hmy
        go_wp2_with (go_at_call 81; go_must (refine (HM.out _).mono ?_; rintro e w1 ⟨rfl, hB1⟩))
        go_ret2
        exact ⟨hB.trans (hB1.mono hB.size), 3, by rw [HR0.out (by rw [HOK.out, HA.out]; rfl)]; rfl⟩
    · obtain rfl : k = n := by omega
      have ha2 : alld s = true := by rw [ha, List.drop_eq_nil_of_le (by rw [HN.out]; exact Nat.le_refl _)]; rfl
      have hok2 := HOK.out
      rw [ha2, Bool.true_and] at hok2
      have HA := Lib.hid ha2
      clear ha ha2 HOK
      by_cases h0 : k = 0
      · subst h0
        have HOK := Lib.hid hok2
        have hse : (s == []) = true := by rw [List.eq_nil_of_length_eq_zero HN.out]; rfl
        clear hok2
        go_wp2
        go_ret2
        exact ⟨hB, 3, by rw [HR0.out (by rw [HOK.out]; rfl)]; rfl⟩
      · have hk2 : 0 < s.length := by rw [HN.out]; omega
        have hne : (s == []) = false := by
          rw [beq_eq_false_iff_ne]
          rintro rfl
          exact h0 HN.out.symm
        have hi := fun h => HIX.out 0 h hk2
        rw [HG.out hk2] at hok2
        have hks : (k == 0) = false := by simpa using h0
        rw [hks] at hok2
        simp only [Bool.not_false, Bool.true_and] at hok2
        have hpk : (0 : Int) < (k : Int) := by omega
        have hcb : (s[0] == 48) = ((s[0].toNat : Int) == 48) := by
          rw [Bool.eq_iff_iff]; simp only [beq_iff_eq]
          constructor
          · intro h; rw [h]; rfl
          · intro h; exact UInt8.toNat_inj.1 (by simpa using Int.ofNat_inj.1 h)
        rw [hcb] at hok2
        generalize s[0] = c at *
        clear hcb hks
        have HOK := Lib.hid hok2
        clear hok2
        cases hc : ((c.toNat : Int) == 48) with
        | true =>
          by_cases h1 : 1 < k
          · have e1 : decide ((1 : Int) < (k : Int)) = true := by simp; omega
            go_wp2
            go_ret2
            exact ⟨hB, 3, by rw [HR0.out (by rw [HOK.out, hc]; simp; omega)]; rfl⟩
          · have e1 : decide ((1 : Int) < (k : Int)) = false := by simp; omega
            have HOK2 : Hid (ok01 s = (decide (k ≤ 19) && decide (valV s ≤ 65535))) := Lib.hid (by rw [HOK.out, hc]; simp; omega)
            by_cases h19 : 19 < k
            · omega
            · have e19 : decide ((19 : Int) < (k : Int)) = false := by simp; omega
              go_wp2
              go_loopw [7, 8] (fun v i wr => ∃ j : Nat, j ≤ k ∧ v = .int .u64 (valV (s.take j) : Nat) ∧ i = .int .i64 j ∧ Below w.heap.size w wr) (fun _ i _ => k - (intOf i).toNat)
              case atStart => exact ⟨0, Nat.zero_le _, by simp [valV], rfl, hB⟩
              case round =>
                clear hB
                obtain ⟨j, hj, rfl, rfl, hB⟩ := hrel
                by_cases hlt2 : j < k
                · have hj2 : j < s.length := by rw [HN.out]; exact hlt2
                  have hi2 := fun h => HIX.out j h hj2
                  have hvs := HVS.out j hj2
                  have hdd := HDG.out HA.out j hj2
                  have hv1 := HVT.out HA.out j (by omega)
                  have hv2 := HVT.out HA.out (j + 1) (by omega)
                  generalize s[j] = c2 at *
                  generalize hq2 : valV (s.take (j + 1)) = v2 at *
                  generalize valV (s.take j) = v at *
                  unfold digitN at hdd
                  simp only [Bool.and_eq_true, decide_eq_true_eq] at hdd
                  obtain ⟨d, hd⟩ : ∃ d, c2.toNat = d + 48 := ⟨c2.toNat - 48, by omega⟩
                  rw [hd, Nat.add_sub_cancel] at hvs
                  rw [hd] at hdd
                  have hd8 : IntKind.u8.wrap (((d + 48 : Nat) : Int) - 48) = (d : Int) := by rw [IntKind.wrap_u8']; omega
                  have hd64 : IntKind.u64.wrap (d : Int) = (d : Int) := by rw [IntKind.wrap_u64]; omega
                  have hdm : (d : Int) % 256 = (d : Int) := by omega
                  have hm64 : IntKind.u64.wrap ((v : Int) * 10) = (v : Int) * 10 := by rw [IntKind.wrap_u64]; omega
                  have ha64 : IntKind.u64.wrap ((v : Int) * 10 + (d : Int)) = (v2 : Int) := by rw [IntKind.wrap_u64]; omega
                  have HQ2 := Lib.hid hq2
                  clear hvs hdd hv1 hv2 hq2
                  go_wp2
                  go_roundw
                  case rel => exact ⟨j + 1, hlt2, by rw [HQ2.out], by go_num, hB⟩
                  case measure => simp [intOf]; omega
                · obtain rfl : j = k := by omega
                  have hv1 := HVT.out HA.out j (by omega)
                  rw [HTK.out] at hv1 ⊢
                  have hw0 : IntKind.u64.wrap 65535 = 65535 := by decide
                  have hr1 := HR1.out
                  have hr0 := HR0.out
                  have hok := HOK2.out
                  generalize valV s = v at *
                  by_cases hbig : 65535 < v
                  · have eb : decide ((65535 : Int) < (v : Int)) = true := by simp; omega
                    have HH := Lib.hid (hr0 (by rw [hok]; simp; omega))
                    clear hr0 hr1 hok hv1 hbig
                    go_wp2
                    go_ret2
                    exact ⟨hB, 2, by rw [HH.out]; rfl⟩
                  · have eb : decide ((65535 : Int) < (v : Int)) = false := by simp; omega
                    have HH := Lib.hid (hr1 (by rw [hok]; simp; omega))
                    have hwi : IntKind.i64.wrap (v : Int) = (v : Int) := IntWalk.i64_in _ (by omega)
                    clear hr0 hr1 hok hv1 hbig
                    go_wp2
                    go_ret2
                    exact ⟨hB, 0, by rw [HH.out]; rfl⟩
        | false =>
          have HOK2 : Hid (ok01 s = (decide (k ≤ 19) && decide (valV s ≤ 65535))) := Lib.hid (by rw [HOK.out, hc]; simp)
          by_cases h19 : 19 < k
          · have e19 : decide ((19 : Int) < (k : Int)) = true := by simp; omega
            go_wp2
            go_ret2
            exact ⟨hB, 2, by rw [HR0.out (by rw [HOK2.out]; simp; omega)]; rfl⟩
          · have e19 : decide ((19 : Int) < (k : Int)) = false := by simp; omega
            go_wp2
            go_loopw [7, 8] (fun v i wr => ∃ j : Nat, j ≤ k ∧ v = .int .u64 (valV (s.take j) : Nat) ∧ i = .int .i64 j ∧ Below w.heap.size w wr) (fun _ i _ => k - (intOf i).toNat)
            case atStart => exact ⟨0, Nat.zero_le _, by simp [valV], rfl, hB⟩
            case round =>
              clear hB
              obtain ⟨j, hj, rfl, rfl, hB⟩ := hrel
              by_cases hlt2 : j < k
              · have hj2 : j < s.length := by rw [HN.out]; exact hlt2
                have hi2 := fun h => HIX.out j h hj2
                have hvs := HVS.out j hj2
                have hdd := HDG.out HA.out j hj2
                have hv1 := HVT.out HA.out j (by omega)
                have hv2 := HVT.out HA.out (j + 1) (by omega)
                generalize s[j] = c2 at *
                generalize hq2 : valV (s.take (j + 1)) = v2 at *
                generalize valV (s.take j) = v at *
                unfold digitN at hdd
                simp only [Bool.and_eq_true, decide_eq_true_eq] at hdd
                obtain ⟨d, hd⟩ : ∃ d, c2.toNat = d + 48 := ⟨c2.toNat - 48, by omega⟩
                rw [hd, Nat.add_sub_cancel] at hvs
                rw [hd] at hdd
                have hd8 : IntKind.u8.wrap (((d + 48 : Nat) : Int) - 48) = (d : Int) := by rw [IntKind.wrap_u8']; omega
                have hd64 : IntKind.u64.wrap (d : Int) = (d : Int) := by rw [IntKind.wrap_u64]; omega
                have hdm : (d : Int) % 256 = (d : Int) := by omega
                have hm64 : IntKind.u64.wrap ((v : Int) * 10) = (v : Int) * 10 := by rw [IntKind.wrap_u64]; omega
                have ha64 : IntKind.u64.wrap ((v : Int) * 10 + (d : Int)) = (v2 : Int) := by rw [IntKind.wrap_u64]; omega
                have HQ2 := Lib.hid hq2
                clear hvs hdd hv1 hv2 hq2
                go_wp2
                go_roundw
                case rel => exact ⟨j + 1, hlt2, by rw [HQ2.out], by go_num, hB⟩
                case measure => simp [intOf]; omega
              · obtain rfl : j = k := by omega
                have hv1 := HVT.out HA.out j (by omega)
                rw [HTK.out] at hv1 ⊢
                have hw0 : IntKind.u64.wrap 65535 = 65535 := by decide
                have hr1 := HR1.out
                have hr0 := HR0.out
                have hok := HOK2.out
                generalize valV s = v at *
                by_cases hbig : 65535 < v
                · have eb : decide ((65535 : Int) < (v : Int)) = true := by simp; omega
                  have HH := Lib.hid (hr0 (by rw [hok]; simp; omega))
                  clear hr0 hr1 hok hv1 hbig
                  go_wp2
                  go_ret2
                  exact ⟨hB, 2, by rw [HH.out]; rfl⟩
                · have eb : decide ((65535 : Int) < (v : Int)) = false := by simp; omega
                  have HH := Lib.hid (hr1 (by rw [hok]; simp; omega))
                  have hwi : IntKind.i64.wrap (v : Int) = (v : Int) := IntWalk.i64_in _ (by omega)
                  clear hr0 hr1 hok hv1 hbig
                  go_wp2
                  go_ret2
                  exact ⟨hB, 0, by rw [HH.out]; rfl⟩
end Go.Proofs.YtdhmekpgplajmaaGreatDoor
end
section
namespace Go.Proofs.YtdhmekpgplajmaaGreatDoor
open Go.RowKit
theorem take_eq_stepG {α : Type} {L M : List α} {j : Nat} (h : L.take j = M.take j) (h1 : j < L.length) (h2 : j < M.length) (he : L[j] = M[j]) : L.take (j + 1) = M.take (j + 1) := by
  rw [List.take_succ_eq_append_getElem h1, List.take_succ_eq_append_getElem h2, h, he]
set_option maxHeartbeats 800000 in
theorem ref17_Same (a a2 : Option Addr) (c c2 n m : Nat) (l l2 : List Int) (w : World) (h : SliceR w (.slice a n c) 1 encI l) (h2 : SliceR w (.slice a2 m c2) 1 encI l2) :
    Calls Tryz.prog 24 #[.slice a n c, .slice a2 m c2] w (Ret w (.bool (l == l2))) := by
  obtain ⟨b1, o1, e1, k1, k1', a1, d1⟩ := h.cells1
  obtain ⟨b2, o2, e2, k2, k2', a2', d2⟩ := h2.cells1
  have hn63 : n ≤ 9223372036854775807 := by omega
  have hm63 : m ≤ 9223372036854775807 := by omega
  by_cases hl : n = m
  · subst hl
    have q0 : ((n : Int) != (n : Int)) = false := by simp
    have D1 := Lib.hid d1
    have D2 := Lib.hid d2
    have A1 := Lib.hid a1
    have A2 := Lib.hid a2'
    have E1 := Lib.hid (And.intro e1 e2)
    clear d1 d2 a1 a2' h h2 k1 k1' k2 k2' e1 e2 hm63
    go_enter Tryz.func24, Tryz.ntmps24
    go_wp2
    go_loopw [5] (fun i wr => ∃ j : Nat, j ≤ n ∧ i = .int .i64 j ∧ l.take j = l2.take j ∧ Below w.heap.size w wr) (fun i _ => n - (intOf i).toNat)
    case atStart => exact ⟨0, Nat.zero_le _, rfl, rfl, by first | exact Below.refl _ _ | go_grown⟩
    case round =>
      obtain ⟨j, hj, rfl, htk, hB⟩ := hrel
      by_cases hlt : j < n
      · have hdj : decide ((j : Int) < (n : Int)) = true := decide_eq_true (by omega)
        obtain ⟨e1, e2⟩ := E1.out
        obtain rfl := A1.out j (by omega)
        obtain rfl := A2.out j (by omega)
        have hc1 := fun w1 hb => D1.out j (by omega) w1 hb
        have hc2 := fun w1 hb => D2.out j (by omega) w1 hb
        have hji : (j : Int) < (n : Int) := by omega
        have hj0 : (0 : Int) ≤ (j : Int) := by omega
        have hst : l[j] = l2[j] → l.take (j + 1) = l2.take (j + 1) := fun he => take_eq_stepG htk (by omega) (by omega) he
        have hne : l[j] ≠ l2[j] → (l == l2) = false := fun he => beq_eq_false_iff_ne.2 (by rintro rfl; exact he rfl)
        have HST := Lib.hid hst
        have HNE := Lib.hid hne
        clear hst hne
        generalize l[j] = x at *
        generalize l2[j] = y at *
        clear e1 e2
        have hws := hB.size
        have HF : Hid (∀ v, Later wr.drew v → v.cell? ⟨b1, o1 + j, none⟩ = some (.int .i64 x) ∧ v.cell? ⟨b2, o2 + j, none⟩ = some (.int .i64 y) ∧ Below w.heap.size w v) := Lib.hid fun v hl =>
          have hB2 := hB.trans ((Below.refl _ wr).drew.trans hl |>.mono hws)
          ⟨hc1 v hB2, hc2 v hB2, hB2⟩
        clear hc1 hc2
        cases hxy : (x != y) with
        | false =>
          have hx : x = y := by simpa using hxy
          have HX := Lib.hid hx
          clear hx
          go_wp2_with fail
          refine wp_region_M (R := Later) 9 (by kernel_rfl) ?_
          refine tkM 0 ?_ rfl (fun w1 hl => ?_) ?_
          rotate_left
          · obtain ⟨x0, x1, _⟩ := HF.out w1 hl; go_simp; try with_reducible rfl
          simp only [eA, eB, Act.put, eD, eE, eF]
          refine tkM 1 ?_ rfl (fun w1 hl => ?_) ?_
          rotate_left
          · obtain ⟨x0, x1, _⟩ := HF.out w1 hl; go_simp; try with_reducible rfl
          simp only [eA, eB, eC, Act.put, eD, eE, eF]
          refine tkM 2 ?_ rfl (fun w1 hl => ?_) ?_
          rotate_left
          · obtain ⟨x0, x1, _⟩ := HF.out w1 hl; go_simp; try with_reducible rfl
          simp only [eA, eB, eC, Act.put, eD, eE, eF]
          refine tkM 3 ?_ rfl (fun w1 hl => ?_) ?_
          rotate_left
          · obtain ⟨x0, x1, _⟩ := HF.out w1 hl; go_simp; try with_reducible rfl
          simp only [eA, eB, eC, Act.put, eD, eE, eF]
          refine tkM 4 ?_ rfl (fun w1 hl => ?_) ?_
          rotate_left
          · obtain ⟨x0, x1, _⟩ := HF.out w1 hl; go_simp; try with_reducible rfl
          simp only [eA, eB, eC, Act.put, eD, eE, eF]
          refine tkM 5 ?_ rfl (fun w1 hl => ?_) ?_
          rotate_left
          · obtain ⟨x0, x1, _⟩ := HF.out w1 hl; go_simp; try with_reducible rfl
          simp only [eA, eB, eC, Act.put, eD, eE, eF]
          refine tkM 6 ?_ rfl (fun w1 hl => ?_) ?_
          rotate_left
          · obtain ⟨x0, x1, _⟩ := HF.out w1 hl; go_simp; try with_reducible rfl
          simp only [eA, eB, eC, Act.put, eD, eE, eF]
          refine tkM 7 ?_ rfl (fun w1 hl => ?_) ?_
          rotate_left
          · obtain ⟨x0, x1, _⟩ := HF.out w1 hl; go_simp; try with_reducible rfl
          simp only [eA, eB, eC, Act.put, eD, eE, eF]
          refine tkM 8 ?_ rfl (fun w1 hl => ?_) ?_
          rotate_left
          · obtain ⟨x0, x1, _⟩ := HF.out w1 hl; go_simp; try with_reducible rfl
          simp only [eA, eB, eC, Act.put, eD, eE, eF]
          refine wpM_done (by kernel_rfl) (fun w1 hl => ?_) _
          have hB3 := (HF.out _ hl).2.2
          go_wp2
          go_roundw
          case rel => exact ⟨j + 1, hlt, by go_num, HST.out HX.out, hB3⟩
          case measure => simp [intOf]; omega
        | true =>
          have HN2 := Lib.hid (HNE.out (by simpa using hxy))
          go_wp2_with fail
          refine wp_region_M (R := Later) 9 (by kernel_rfl) ?_
          refine tkM 0 ?_ rfl (fun w1 hl => ?_) ?_
          rotate_left
          · obtain ⟨x0, x1, _⟩ := HF.out w1 hl; go_simp; try with_reducible rfl
          simp only [eA, eB, Act.put, eD, eE, eF]
          refine tkM 1 ?_ rfl (fun w1 hl => ?_) ?_
          rotate_left
          · obtain ⟨x0, x1, _⟩ := HF.out w1 hl; go_simp; try with_reducible rfl
          simp only [eA, eB, eC, Act.put, eD, eE, eF]
          refine tkM 2 ?_ rfl (fun w1 hl => ?_) ?_
          rotate_left
          · obtain ⟨x0, x1, _⟩ := HF.out w1 hl; go_simp; try with_reducible rfl
          simp only [eA, eB, eC, Act.put, eD, eE, eF]
          refine tkM 3 ?_ rfl (fun w1 hl => ?_) ?_
          rotate_left
          · obtain ⟨x0, x1, _⟩ := HF.out w1 hl; go_simp; try with_reducible rfl
          simp only [eA, eB, eC, Act.put, eD, eE, eF]
          refine tkM 4 ?_ rfl (fun w1 hl => ?_) ?_
          rotate_left
          · obtain ⟨x0, x1, _⟩ := HF.out w1 hl; go_simp; try with_reducible rfl
          simp only [eA, eB, eC, Act.put, eD, eE, eF]
          refine tkM 5 ?_ rfl (fun w1 hl => ?_) ?_
          rotate_left
          · obtain ⟨x0, x1, _⟩ := HF.out w1 hl; go_simp; try with_reducible rfl
          simp only [eA, eB, eC, Act.put, eD, eE, eF]
          refine tkM 6 ?_ rfl (fun w1 hl => ?_) ?_
          rotate_left
          · obtain ⟨x0, x1, _⟩ := HF.out w1 hl; go_simp; try with_reducible rfl
          simp only [eA, eB, eC, Act.put, eD, eE, eF]
          refine tkM 7 ?_ rfl (fun w1 hl => ?_) ?_
          rotate_left
          · obtain ⟨x0, x1, _⟩ := HF.out w1 hl; go_simp; try with_reducible rfl
          simp only [eA, eB, eC, Act.put, eD, eE, eF]
          refine tkM 8 ?_ rfl (fun w1 hl => ?_) ?_
          rotate_left
          · obtain ⟨x0, x1, _⟩ := HF.out w1 hl; go_simp; try with_reducible rfl
          simp only [eA, eB, eC, Act.put, eD, eE, eF]
          refine wpM_done (by kernel_rfl) (fun w1 hl => ?_) _
          have hB3 := (HF.out _ hl).2.2
          go_wp2
          go_ret
          exact ⟨by rw [HN2.out]; rfl, hB3⟩
      · have hdj : decide ((j : Int) < (n : Int)) = false := decide_eq_false (by omega)
        obtain ⟨e1, e2⟩ := E1.out
        have : l = l2 := by
          rw [List.take_of_length_le (by omega), List.take_of_length_le (by omega)] at htk; exact htk
        have HT := Lib.hid this
        clear e1 e2 this htk
        go_wp2
        go_ret
        exact ⟨by rw [HT.out, beq_self_eq_true]; rfl, hB⟩
  · have q0 : ((n : Int) != (m : Int)) = true := by simp; omega
    have hb : (l == l2) = false := beq_eq_false_iff_ne.2 (by rintro rfl; omega)
    rw [hb]
    clear e1 e2 d1 d2 a1 a2' h h2 k1 k1' k2 k2' hb
    go_enter Tryz.func24, Tryz.ntmps24
    go_wp2
    go_ret
    exact ⟨rfl, by first | exact Below.refl _ _ | go_grown⟩
set_option maxHeartbeats 800000 in
theorem ref20_Texts (a a2 : Option Addr) (c c2 n m : Nat) (l l2 : List (List UInt8)) (w : World) (h : SliceR w (.slice a n c) 1 encT l) (h2 : SliceR w (.slice a2 m c2) 1 encT l2) :
    Calls Tryz.prog 25 #[.slice a n c, .slice a2 m c2] w (Ret w (.bool (l == l2))) := by
  obtain ⟨b1, o1, e1, k1, k1', a1, d1⟩ := h.cells1
  obtain ⟨b2, o2, e2, k2, k2', a2', d2⟩ := h2.cells1
  have hn63 : n ≤ 9223372036854775807 := by omega
  have hm63 : m ≤ 9223372036854775807 := by omega
  by_cases hl : n = m
  · subst hl
    have q0 : ((n : Int) != (n : Int)) = false := by simp
    have D1 := Lib.hid d1
    have D2 := Lib.hid d2
    have A1 := Lib.hid a1
    have A2 := Lib.hid a2'
    have E1 := Lib.hid (And.intro e1 e2)
    clear d1 d2 a1 a2' h h2 k1 k1' k2 k2' e1 e2 hm63
    go_enter Tryz.func25, Tryz.ntmps25
    go_wp2
    go_loopw [5] (fun i wr => ∃ j : Nat, j ≤ n ∧ i = .int .i64 j ∧ l.take j = l2.take j ∧ Below w.heap.size w wr) (fun i _ => n - (intOf i).toNat)
    case atStart => exact ⟨0, Nat.zero_le _, rfl, rfl, by first | exact Below.refl _ _ | go_grown⟩
    case round =>
      obtain ⟨j, hj, rfl, htk, hB⟩ := hrel
      by_cases hlt : j < n
      · have hdj : decide ((j : Int) < (n : Int)) = true := decide_eq_true (by omega)
        obtain ⟨e1, e2⟩ := E1.out
        obtain rfl := A1.out j (by omega)
        obtain rfl := A2.out j (by omega)
        have hc1 := fun w1 hb => D1.out j (by omega) w1 hb
        have hc2 := fun w1 hb => D2.out j (by omega) w1 hb
        have hji : (j : Int) < (n : Int) := by omega
        have hj0 : (0 : Int) ≤ (j : Int) := by omega
        have hst : l[j] = l2[j] → l.take (j + 1) = l2.take (j + 1) := fun he => take_eq_stepG htk (by omega) (by omega) he
        have hne : l[j] ≠ l2[j] → (l == l2) = false := fun he => beq_eq_false_iff_ne.2 (by rintro rfl; exact he rfl)
        have HST := Lib.hid hst
        have HNE := Lib.hid hne
        clear hst hne
        generalize l[j] = x at *
        generalize l2[j] = y at *
        clear e1 e2
        have hws := hB.size
        have HF : Hid (∀ v, Later wr.drew v → v.cell? ⟨b1, o1 + j, none⟩ = some (sv x) ∧ v.cell? ⟨b2, o2 + j, none⟩ = some (sv y) ∧ Below w.heap.size w v) := Lib.hid fun v hl =>
          have hB2 := hB.trans ((Below.refl _ wr).drew.trans hl |>.mono hws)
          ⟨hc1 v hB2, hc2 v hB2, hB2⟩
        clear hc1 hc2
        cases hxy : (x == y) with
        | true =>
          have hx : x = y := by simpa using hxy
          have HX := Lib.hid hx
          clear hx
          go_wp2_with fail
          refine wp_region_M (R := Later) 9 (by kernel_rfl) ?_
          refine tkM 0 ?_ rfl (fun w1 hl => ?_) ?_
          rotate_left
          · obtain ⟨x0, x1, _⟩ := HF.out w1 hl; go_simp; try with_reducible rfl
          simp only [eA, eB, Act.put, eD, eE, eF]
          refine tkM 1 ?_ rfl (fun w1 hl => ?_) ?_
          rotate_left
          · obtain ⟨x0, x1, _⟩ := HF.out w1 hl; go_simp; try with_reducible rfl
          simp only [eA, eB, eC, Act.put, eD, eE, eF]
          refine tkM 2 ?_ rfl (fun w1 hl => ?_) ?_
          rotate_left
          · obtain ⟨x0, x1, _⟩ := HF.out w1 hl; go_simp; try with_reducible rfl
          simp only [eA, eB, eC, Act.put, eD, eE, eF]
          refine tkM 3 ?_ rfl (fun w1 hl => ?_) ?_
          rotate_left
          · obtain ⟨x0, x1, _⟩ := HF.out w1 hl; go_simp; try with_reducible rfl
          simp only [eA, eB, eC, Act.put, eD, eE, eF]
          refine tkM 4 ?_ rfl (fun w1 hl => ?_) ?_
          rotate_left
          · obtain ⟨x0, x1, _⟩ := HF.out w1 hl; go_simp; try with_reducible rfl
          simp only [eA, eB, eC, Act.put, eD, eE, eF]
          refine tkM 5 ?_ rfl (fun w1 hl => ?_) ?_
          rotate_left
          · obtain ⟨x0, x1, _⟩ := HF.out w1 hl; go_simp; try with_reducible rfl
          simp only [eA, eB, eC, Act.put, eD, eE, eF]
          refine tkM 6 ?_ rfl (fun w1 hl => ?_) ?_
          rotate_left
          · obtain ⟨x0, x1, _⟩ := HF.out w1 hl; go_simp; try with_reducible rfl
          simp only [eA, eB, eC, Act.put, eD, eE, eF]
          refine tkM 7 ?_ rfl (fun w1 hl => ?_) ?_
          rotate_left
          · obtain ⟨x0, x1, _⟩ := HF.out w1 hl; go_simp; try with_reducible rfl
          simp only [eA, eB, eC, Act.put, eD, eE, eF]
          refine tkM 8 ?_ rfl (fun w1 hl => ?_) ?_
          rotate_left
          · obtain ⟨x0, x1, _⟩ := HF.out w1 hl; go_simp; try with_reducible rfl
          simp only [eA, eB, eC, Act.put, eD, eE, eF]
          refine wpM_done (by kernel_rfl) (fun w1 hl => ?_) _
          have hB3 := (HF.out _ hl).2.2
          go_wp2
          go_roundw
          case rel => exact ⟨j + 1, hlt, by go_num, HST.out HX.out, hB3⟩
          case measure => simp [intOf]; omega
        | false =>
          have HN2 := Lib.hid (HNE.out (by simpa using hxy))
          go_wp2_with fail
          refine wp_region_M (R := Later) 9 (by kernel_rfl) ?_
          refine tkM 0 ?_ rfl (fun w1 hl => ?_) ?_
          rotate_left
          · obtain ⟨x0, x1, _⟩ := HF.out w1 hl; go_simp; try with_reducible rfl
          simp only [eA, eB, Act.put, eD, eE, eF]
          refine tkM 1 ?_ rfl (fun w1 hl => ?_) ?_
          rotate_left
          · obtain ⟨x0, x1, _⟩ := HF.out w1 hl; go_simp; try with_reducible rfl
          simp only [eA, eB, eC, Act.put, eD, eE, eF]
          refine tkM 2 ?_ rfl (fun w1 hl => ?_) ?_
          rotate_left
          · obtain ⟨x0, x1, _⟩ := HF.out w1 hl; go_simp; try with_reducible rfl
          simp only [eA, eB, eC, Act.put, eD, eE, eF]
          refine tkM 3 ?_ rfl (fun w1 hl => ?_) ?_
          rotate_left
          · obtain ⟨x0, x1, _⟩ := HF.out w1 hl; go_simp; try with_reducible rfl
          simp only [eA, eB, eC, Act.put, eD, eE, eF]
          refine tkM 4 ?_ rfl (fun w1 hl => ?_) ?_
          rotate_left
          · obtain ⟨x0, x1, _⟩ := HF.out w1 hl; go_simp; try with_reducible rfl
          simp only [eA, eB, eC, Act.put, eD, eE, eF]
          refine tkM 5 ?_ rfl (fun w1 hl => ?_) ?_
          rotate_left
          · obtain ⟨x0, x1, _⟩ := HF.out w1 hl; go_simp; try with_reducible rfl
          simp only [eA, eB, eC, Act.put, eD, eE, eF]
          refine tkM 6 ?_ rfl (fun w1 hl => ?_) ?_
          rotate_left
          · obtain ⟨x0, x1, _⟩ := HF.out w1 hl; go_simp; try with_reducible rfl
          simp only [eA, eB, eC, Act.put, eD, eE, eF]
          refine tkM 7 ?_ rfl (fun w1 hl => ?_) ?_
          rotate_left
          · obtain ⟨x0, x1, _⟩ := HF.out w1 hl; go_simp; try with_reducible rfl
          simp only [eA, eB, eC, Act.put, eD, eE, eF]
          refine tkM 8 ?_ rfl (fun w1 hl => ?_) ?_
          rotate_left
          · obtain ⟨x0, x1, _⟩ := HF.out w1 hl; go_simp; try with_reducible rfl
          simp only [eA, eB, eC, Act.put, eD, eE, eF]
          refine wpM_done (by kernel_rfl) (fun w1 hl => ?_) _
          have hB3 := (HF.out _ hl).2.2
          go_wp2
          go_ret
          exact ⟨by rw [HN2.out]; rfl, hB3⟩
      · have hdj : decide ((j : Int) < (n : Int)) = false := decide_eq_false (by omega)
        obtain ⟨e1, e2⟩ := E1.out
        have : l = l2 := by
          rw [List.take_of_length_le (by omega), List.take_of_length_le (by omega)] at htk; exact htk
        have HT := Lib.hid this
        clear e1 e2 this htk
        go_wp2
        go_ret
        exact ⟨by rw [HT.out, beq_self_eq_true]; rfl, hB⟩
  · have q0 : ((n : Int) != (m : Int)) = true := by simp; omega
    have hb : (l == l2) = false := beq_eq_false_iff_ne.2 (by rintro rfl; omega)
    rw [hb]
    clear e1 e2 d1 d2 a1 a2' h h2 k1 k1' k2 k2' hb
    go_enter Tryz.func25, Tryz.ntmps25
    go_wp2
    go_ret
    exact ⟨rfl, by first | exact Below.refl _ _ | go_grown⟩
end Go.Proofs.YtdhmekpgplajmaaGreatDoor
end
section
namespace Go.Proofs.YtdhmekpgplajmaaGreatDoor
open Go.RowKit
/-- Does a byte stand for itself? -/
def plainN (x : Nat) : Bool := decide (33 ≤ x) && decide (x ≤ 126) && !(x == 92)
def plainS : BSet := ofWords 18446744065119617024 9223372036586340351 0 0
theorem plainS_words : word plainS 0 = 18446744065119617024 ∧ word plainS 1 = 9223372036586340351 ∧ word plainS 2 = 0 ∧ word plainS 3 = 0 := by
  have := word_ofWords 18446744065119617024 9223372036586340351 0 0
  unfold plainS
  simpa using this
theorem plainS_mem : ∀ x, x < 256 → mem plainS x = plainN x := by
  have h : (List.range 256).all (fun x => mem plainS x == plainN x) = true := by decide +kernel
  intro x hx
  have := List.all_eq_true.1 h x (by simpa using hx)
  simpa using this
def hexL : List UInt8 := [48, 49, 50, 51, 52, 53, 54, 55, 56, 57, 97, 98, 99, 100, 101, 102]
def hexd (d : Nat) : UInt8 := hexL.getD d 0
/-- A byte's text. -/
def oneB (x : UInt8) : List UInt8 := if plainN x.toNat then [x] else [92, 120, hexd (x.toNat / 16), hexd (x.toNat % 16)]
def quoteL (l : List UInt8) : List UInt8 := if l = [] then [92, 101] else l.flatMap oneB
theorem oneB_length (x : UInt8) : (oneB x).length ≤ 4 := by unfold oneB; split <;> simp
theorem flatMap_oneB_length (l : List UInt8) : (l.flatMap oneB).length ≤ l.length * 4 := by
  induction l with
  | nil => simp
  | cons a l ih => rw [List.flatMap_cons, List.length_append, List.length_cons]; have := oneB_length a; omega
set_option maxHeartbeats 400000 in
theorem quote_Plain (x : Nat) (w : World) (hx : x < 256) : Calls Tryz.prog 108 #[.int .u8 x] w (Ret w (.bool (plainN x))) := by
  obtain ⟨h0, h1, h2, h3⟩ := plainS_words
  have hxi := words_get plainS (x / 64) (by omega)
  have hm := plainS_mem x hx
  rw [h0, h1, h2, h3] at hxi
  have hz := word_lt plainS (x / 64)
  have hao := and_one (word plainS (x / 64)) (x % 64) hz
  have hmw := mem_word plainS x
  rw [← hmw, hm] at hao
  clear h0 h1 h2 h3 hm hmw
  have hxi : [Value.int .u64 18446744065119617024, .int .u64 9223372036586340351, .int .u64 0, .int .u64 0][x / 64]? = some (.int .u64 (word plainS (x / 64) : Nat)) := hxi
  generalize word plainS (x / 64) = q at *
  generalize plainN x = b at *
  go_enter Tryz.func108, Tryz.ntmps108
  go_wp2
  go_ret
  exact ⟨rfl, later_alloc _ _⟩
theorem hexL_get (d : Nat) (h : d < 16) : hexL[d]'(by simpa [hexL] using h) = hexd d := by
  unfold hexd; rw [List.getD_eq_getElem?_getD, List.getElem?_eq_getElem (by simpa [hexL] using h)]; rfl
theorem quote_Digit (d : Nat) (w : World) (hd : d < 16) : Calls Tryz.prog 109 #[.int .i64 d] w (Ret w (.int .u8 ((hexd d).toNat : Nat))) := by
  have hx := hexL_get d hd
  have hd0 : (0 : Int) ≤ (d : Int) := by omega
  have hd1 : ¬ (15 : Int) < (d : Int) := by omega
  have hd2 : (d : Int) < 16 := by omega
  have HX := Lib.hid hx
  clear hx
  go_enter Tryz.func109, Tryz.ntmps109
  go_wp2
  go_ret
  exact ⟨by rw [← HX.out]; rfl, Below.refl _ _⟩
theorem ret_bool {w : World} {a b : Bool} (h : a = b) : Ret w (.bool a) (.returned (.bool b)) w := ⟨by rw [h], Below.refl _ _⟩
theorem ref03_Plain (x : Nat) (w : World) (hx : x < 256) : Calls Tryz.prog 122 #[.int .u8 x] w (Ret w (.bool (plainN x))) := by
  unfold plainN
  by_cases h1 : 33 ≤ x
  · have h1' : decide (33 ≤ (x : Int)) = true := by simp; omega
    by_cases h2 : x ≤ 126
    · have h2' : decide ((x : Int) ≤ 126) = true := by simp; omega
      go_enter Tryz.func122, Tryz.ntmps122
      go_wp2
      go_ret
      exact ret_bool (by rw [Bool.eq_iff_iff]; simp; omega)
    · have h2' : decide ((x : Int) ≤ 126) = false := by simp; omega
      go_enter Tryz.func122, Tryz.ntmps122
      go_wp2
      go_ret
      exact ret_bool (by rw [Bool.eq_iff_iff]; simp; omega)
  · have h1' : decide (33 ≤ (x : Int)) = false := by simp; omega
    go_enter Tryz.func122, Tryz.ntmps122
    go_wp2
    go_ret
    exact ret_bool (by rw [Bool.eq_iff_iff]; simp; omega)
theorem ref03_One (x : UInt8) (w : World) : Calls Tryz.prog 110 #[.int .u8 (x.toNat : Nat)] w (Ret w (sv (oneB x))) := by
  have hx := x.toNat_lt
  have hp := fun w => ref03_Plain x.toNat w hx
  unfold oneB
  cases h : plainN x.toNat with
  | true =>
    rw [h] at hp
    have HP := Lib.hid hp
    have hcs := fun w => conv_strU (P := Tryz.prog) (src := 56) (dst := 9) Tryz.underlying56 Tryz.underlying5 Tryz.underlying9 (xs := [x]) rfl (sl_new encU_ok w 5 [x] (by simp [maxLen]))
    simp only [List.flatMap_cons, List.flatMap_nil, List.append_nil, encU, List.length_cons, List.length_nil, Nat.zero_add] at hcs
    rw [if_pos rfl]
    clear hp h
    go_enter Tryz.func110, Tryz.ntmps110
    go_wp2_with (go_at_call 122; go_must (refine (HP.out _).mono ?_; rintro e w1 ⟨rfl, hB⟩))
    go_ret
    exact ⟨rfl, hB.trans ((later_alloc _ _).mono hB.size)⟩
  | false =>
    rw [h] at hp
    have HP := Lib.hid hp
    rw [if_neg (by simp)]
    have hq1 : IntKind.u8.wrap ((x.toNat : Int) / 16) = ((x.toNat / 16 : Nat) : Int) := by rw [IntKind.wrap_u8']; omega
    have hq2 : (x.toNat : Int) % 16 = ((x.toNat % 16 : Nat) : Int) := by omega
    have hq3 : (x.toNat : Int).tmod 16 = ((x.toNat % 16 : Nat) : Int) := by rw [Int.tmod_eq_emod_of_nonneg (by omega)]; omega
    have hp1 : x.toNat / 16 < 16 := by omega
    have hr1 : x.toNat % 16 < 16 := by omega
    generalize x.toNat / 16 = p at *
    generalize x.toNat % 16 = r at *
    have HX1 : Hid ((⟨hexL.toArray⟩ : ByteArray)[p]'(by show _ < hexL.length; simp [hexL]; omega) = hexd p) := Lib.hid (hexL_get p hp1)
    have HX2 : Hid ((⟨hexL.toArray⟩ : ByteArray)[r]'(by show _ < hexL.length; simp [hexL]; omega) = hexd r) := Lib.hid (hexL_get r hr1)
    rw [← HX1.out, ← HX2.out]
    unfold hexL
    have hd0 : (0 : Int) ≤ (x.toNat : Int) := by omega
    have hd1 : (x.toNat : Int) < 256 := by omega
    have hpi : (p : Int) < 16 := by omega
    have hri : (r : Int) < 16 := by omega
    clear hp h HX1 HX2
    go_enter Tryz.func110, Tryz.ntmps110
    go_wp2_with (go_at_call 122; go_must (refine (HP.out _).mono ?_; rintro e w1 ⟨rfl, hB⟩))
    refine wp_region_M (R := Later) 9 (by kernel_rfl) ?_
    refine tkM 0 ?_ rfl (fun w1 hl => ?_) ?_
    rotate_left
    · skip; go_simp; try with_reducible rfl
    simp only [eA, eB, Act.put, eD, eE, eF]
    refine tkM 1 ?_ rfl (fun w1 hl => ?_) ?_
    rotate_left
    · skip; go_simp; try with_reducible rfl
    simp only [eA, eB, eC, Act.put, eD, eE, eF]
    refine tkM 2 ?_ rfl (fun w1 hl => ?_) ?_
    rotate_left
    · skip; go_simp; try with_reducible rfl
    simp only [eA, eB, eC, Act.put, eD, eE, eF]
    refine tkM 3 ?_ rfl (fun w1 hl => ?_) ?_
    rotate_left
    · skip; go_simp; try with_reducible rfl
    simp only [eA, eB, eC, Act.put, eD, eE, eF]
    refine tkM 4 ?_ rfl (fun w1 hl => ?_) ?_
    rotate_left
    · skip; go_simp; try with_reducible rfl
    simp only [eA, eB, eC, Act.put, eD, eE, eF]
    refine tkM 5 ?_ rfl (fun w1 hl => ?_) ?_
    rotate_left
    · skip; go_simp; try with_reducible rfl
    simp only [eA, eB, eC, Act.put, eD, eE, eF]
    refine wpM_one (t := 9) (i := 6) (by kernel_rfl) rfl (fun w1 hl K hK => ?_)
    go_simp
    refine hK.out _ _ (fun _ => later_alloc _ _) ?_
    have hsl : SliceR (w1.alloc (.cells #[.int .u8 92, .int .u8 120, .int .u8 (((⟨#[48, 49, 50, 51, 52, 53, 54, 55, 56, 57, 97, 98, 99, 100, 101, 102]⟩ : ByteArray)[p]'(by simp [ByteArray.size]; omega)).toNat : Nat), .int .u8 (((⟨#[48, 49, 50, 51, 52, 53, 54, 55, 56, 57, 97, 98, 99, 100, 101, 102]⟩ : ByteArray)[r]'(by simp [ByteArray.size]; omega)).toNat : Nat)] 5)) (.slice (some ⟨w1.heap.size, 0, none⟩) 4 4) 1 encU [92, 120, ((⟨#[48, 49, 50, 51, 52, 53, 54, 55, 56, 57, 97, 98, 99, 100, 101, 102]⟩ : ByteArray)[p]'(by simp [ByteArray.size]; omega)), ((⟨#[48, 49, 50, 51, 52, 53, 54, 55, 56, 57, 97, 98, 99, 100, 101, 102]⟩ : ByteArray)[r]'(by simp [ByteArray.size]; omega))] := sl_new encU_ok w1 5 [92, 120, _, _] (by simp [maxLen])
    have hl1 : Later w (w1.alloc (.cells #[.int .u8 92, .int .u8 120, .int .u8 (((⟨#[48, 49, 50, 51, 52, 53, 54, 55, 56, 57, 97, 98, 99, 100, 101, 102]⟩ : ByteArray)[p]'(by simp [ByteArray.size]; omega)).toNat : Nat), .int .u8 (((⟨#[48, 49, 50, 51, 52, 53, 54, 55, 56, 57, 97, 98, 99, 100, 101, 102]⟩ : ByteArray)[r]'(by simp [ByteArray.size]; omega)).toNat : Nat)] 5)) := Later.trans _ _ _ (Later.trans _ _ _ hB.drew hl) (later_alloc _ _)
    have HCV : Hid (∀ w2, Later (w1.alloc (.cells #[.int .u8 92, .int .u8 120, .int .u8 (((⟨#[48, 49, 50, 51, 52, 53, 54, 55, 56, 57, 97, 98, 99, 100, 101, 102]⟩ : ByteArray)[p]'(by simp [ByteArray.size]; omega)).toNat : Nat), .int .u8 (((⟨#[48, 49, 50, 51, 52, 53, 54, 55, 56, 57, 97, 98, 99, 100, 101, 102]⟩ : ByteArray)[r]'(by simp [ByteArray.size]; omega)).toNat : Nat)] 5)) w2 → (convert 56 9 (.slice (some ⟨w1.heap.size, 0, none⟩) 4 4)).run Tryz.prog w2 = .ok (sv [92, 120, ((⟨#[48, 49, 50, 51, 52, 53, 54, 55, 56, 57, 97, 98, 99, 100, 101, 102]⟩ : ByteArray)[p]'(by simp [ByteArray.size]; omega)), ((⟨#[48, 49, 50, 51, 52, 53, 54, 55, 56, 57, 97, 98, 99, 100, 101, 102]⟩ : ByteArray)[r]'(by simp [ByteArray.size]; omega))]) w2) := Lib.hid fun w2 h2 => conv_strU (P := Tryz.prog) Tryz.underlying56 Tryz.underlying5 Tryz.underlying9 rfl (hsl.kept h2)
    clear hK K
    refine tkM 7 ?_ rfl (fun w1 hl => ?_) ?_
    rotate_left
    · have hcs := HCV.out w1 hl; go_simp; try with_reducible rfl
    simp only [eA, eB, eC, Act.put, eD, eE, eF]
    refine tkM 8 ?_ rfl (fun w1 hl => ?_) ?_
    rotate_left
    · skip; go_simp; try with_reducible rfl
    simp only [eA, eB, eC, Act.put, eD, eE, eF]
    refine wpM_done (by kernel_rfl) (fun w1 hl => ?_) _
    go_wp2
    go_ret
    exact ⟨rfl, Later.trans _ _ _ hl1 hl⟩
theorem elem_u8q : ElemOK Tryz.prog 56 5 (.int .u8 0) 1 1 := ⟨Tryz.underlying56, info_parts (by kernel_rfl), rfl, by decide⟩
set_option maxHeartbeats 1600000 in
theorem quote_Quote (a : Option Addr) (cap n : Nat) (xs : List UInt8) (w : World) (h : SliceR w (.slice a n cap) 1 encU xs) (hn4 : n * 4 ≤ 140737488355328) :
    Calls Tryz.prog 92 #[.slice a n cap] w (Ret w (sv (quoteL xs))) := by
  obtain ⟨b, o, hlen, hcap, hcap', ha, hcell⟩ := h.cells1
  by_cases h0 : n = 0
  · have e : xs = [] := List.eq_nil_of_length_eq_zero (by omega)
    subst h0
    rw [e, quoteL, if_pos rfl]
    clear hlen hcell ha e h
    go_enter Tryz.func92, Tryz.ntmps92
    go_wp2
    go_ret
    exact ⟨rfl, Below.refl _ _⟩
  · have e : quoteL xs = xs.flatMap oneB := by rw [quoteL, if_neg]; intro e; rw [e] at hlen; simp at hlen; omega
    rw [e]
    obtain rfl := ha 0 (by omega)
    have hc0 : (n : Int) ≠ 0 := by omega
    have hfl := fun k => flatMap_oneB_length (xs.take k)
    have HC := Lib.hid hcell
    have HL := Lib.hid hlen
    have HFL := Lib.hid hfl
    have hne : ((n : Int) == 0) = false := by simp; omega
    clear hlen hcell ha e h hfl
    go_enter Tryz.func92, Tryz.ntmps92
    go_wp2_with (refine wpList_makeO0 rfl 56 _ _ rfl elem_u8q encU_ok n rfl rfl (by omega) (by simp [maxLen]; omega) w.heap.size (Nat.le_refl _) ?_; intro w1 ho hg)
    have hB1 : Below w.heap.size w w1 := (Below.refl _ _).grown hg (Nat.le_refl _) (fun k hk => by cases hk)
    go_loopw [3, 14] (fun v i wr => ∃ (k m : Nat) (a' : Option Addr) (cap' : Nat), k ≤ n ∧ i = .int .i64 k ∧ v = .slice a' m cap' ∧ Own wr w.heap.size 5 1 encU (.slice a' m cap') ((xs.take k).flatMap oneB) ∧ Below w.heap.size w wr) (fun _ i _ => n - (intOf i).toNat)
    case atStart => exact ⟨0, 0, _, n, Nat.zero_le _, rfl, rfl, ho, hB1⟩
    case round =>
      clear ho hB1 hg
      obtain ⟨k, m, a', cap', hk, rfl, rfl, hown, hB⟩ := hrel
      by_cases hlt : k < n
      · have hk2 : k < xs.length := by rw [← HL.out]; exact hlt
        have c0 := HC.out k hk2 wr hB
        have hm := hown.open.1
        have hml := HFL.out k
        have hkl : (xs.take k).length ≤ k := List.length_take_le _ _
        have htk : (xs.take (k + 1)).flatMap oneB = (xs.take k).flatMap oneB ++ oneB xs[k] := by
          rw [List.take_succ_eq_append_getElem hk2, List.flatMap_append]; simp
        have hp := fun w => quote_Plain xs[k].toNat w xs[k].toNat_lt
        generalize xs[k] = x at *
        generalize (xs.take k).flatMap oneB = ys at *
        have hx := x.toNat_lt
        have HM := Lib.hid hm
        have hmb : m ≤ 4 * k := by omega
        have hysb : ys.length ≤ 4 * k := by omega
        clear hm hml hkl
        have hk0 : (0 : Int) ≤ (k : Int) := by omega
        have hkm : (k : Int) < (n : Int) := by omega
        have hob : oneB x = if plainN x.toNat then [x] else [92, 120, hexd (x.toNat / 16), hexd (x.toNat % 16)] := rfl
        cases hpx : plainN x.toNat with
        | true =>
          rw [hpx, if_pos rfl] at hob
          rw [hob] at htk
          rw [hpx] at hp
          have HTK := Lib.hid htk
          have HP := Lib.hid hp
          clear htk hp hpx hob
          go_wp2_with (first | (go_at_call 108; go_must (refine (HP.out _).mono ?_; rintro e w5 ⟨rfl, hb5⟩; have hown5 := hown.kept hb5)) | (at_builtin; go_must (refine wpList_append1 rfl _ _ 56 rfl elem_u8q encU_ok rfl (hown5.alloc _) ⟨w5.heap.size, 0, none⟩ 1 x rfl (new_cells w5 [.int .u8 (x.toNat : Nat)] _) (by simp [maxLen]; omega) (by omega) (by have := hb5.size; have := hB.size; simp at *; omega) ?_; intro a2 cap2 W' hown' hg)))
          go_roundw
          case rel =>
            have h6 := hB.trans (hb5.mono hB.size)
            have h7 := h6.alloc h6.size (.cells #[.int .u8 (x.toNat : Nat)] 5)
            exact ⟨k + 1, _, a2, cap2, hlt, by go_num, rfl, by rw [HTK.out]; exact hown', below_grown h7 (hown5.alloc _) hg (Nat.le_refl _) h7.size⟩
          case measure => simp [intOf]; omega
        | false =>
          rw [hpx, if_neg (by simp)] at hob
          rw [hob] at htk
          rw [hpx] at hp
          have HTK := Lib.hid htk
          have HP := Lib.hid hp
          clear htk hp hpx hob
          have hp1 : x.toNat / 16 < 16 := by omega
          have hr1 : x.toNat % 16 < 16 := by omega
          have hq1 : (x.toNat : Int) / 16 = ((x.toNat / 16 : Nat) : Int) := by omega
          have hq2 : (x.toNat : Int) % 16 = ((x.toNat % 16 : Nat) : Int) := by omega
          have hd1 := fun w => quote_Digit (x.toNat / 16) w hp1
          have hd2 := fun w => quote_Digit (x.toNat % 16) w hr1
          generalize x.toNat / 16 = p at *
          generalize x.toNat % 16 = r at *
          have HD1 := Lib.hid hd1
          have HD2 := Lib.hid hd2
          clear hd1 hd2
          go_wp2_with fail
          refine (HP.out _).mono ?_
          rintro e w5 ⟨rfl, hb5⟩
          go_wp2_with fail
          refine (HD1.out _).mono ?_
          rintro e w6 ⟨rfl, hb6⟩
          go_wp2_with fail
          refine (HD2.out _).mono ?_
          rintro e w7 ⟨rfl, hb7⟩
          have h6 := ((hB.trans (hb5.mono hB.size)).trans (hb6.mono (by have := hB.size; have := hb5.size; omega))).trans (hb7.mono (by have := hB.size; have := hb5.size; have := hb6.size; omega))
          have hown7 := ((hown.kept hb5).kept hb6).kept hb7
          generalize hexd p = dp at *
          generalize hexd r = dr at *
          clear hb5 hb6 hb7 hown hB
          go_wp2_with (at_builtin; go_must (refine wpList_appendN rfl _ _ 56 rfl elem_u8q encU_ok rfl (hown7.alloc _) ⟨w7.heap.size, 0, none⟩ 4 [92, 120, dp, dr] rfl (new_cells w7 [.int .u8 92, .int .u8 120, .int .u8 (dp.toNat : Nat), .int .u8 (dr.toNat : Nat)] _) (by simp [maxLen]; omega) (by simp; omega) (by have := h6.size; simp at *; omega) ?_; intro a2 cap2 W' hown' hg))
          go_roundw
          case rel =>
            have h7 := h6.alloc h6.size (.cells #[.int .u8 92, .int .u8 120, .int .u8 (dp.toNat : Nat), .int .u8 (dr.toNat : Nat)] 5)
            exact ⟨k + 1, _, a2, cap2, hlt, by go_num, rfl, by rw [HTK.out]; exact hown', below_grown h7 (hown7.alloc _) hg (Nat.le_refl _) h7.size⟩
          case measure => simp [intOf]; omega
      · obtain rfl : k = n := by omega
        have htk : xs.take k = xs := List.take_of_length_le (by rw [← HL.out]; exact Nat.le_refl _)
        rw [htk] at hown
        have hm := hown.open.1
        have hcs := conv_strU (P := Tryz.prog) (src := 56) (dst := 9) Tryz.underlying56 Tryz.underlying5 Tryz.underlying9 hm (hown.slice encU_ok)
        generalize xs.flatMap oneB = ys at *
        clear hm hown
        go_wp2
        go_ret
        exact ⟨rfl, hB⟩
end Go.Proofs.YtdhmekpgplajmaaGreatDoor
end
section
namespace Go.Proofs.YtdhmekpgplajmaaGreatDoor
open Go.RowKit
/-- The array of digits, j of them written. -/
def DigA (k j g : Nat) (w : World) : Prop := ∃ c : Array Value, Box w g c 91 ∧ c.size = 20 ∧ ∀ i, i < j → c[19 - i]? = some (.int .u8 ((dig ((k / 10 ^ i) % 10)).toNat : Nat))
theorem DigA.slice {k j g : Nat} {w : World} (h : DigA k (j + 1) g w) (hj : j < 20) : SliceR w (.slice (some ⟨g, 19 - j, none⟩) (j + 1) (j + 1)) 1 encU (digs k (j + 1)) := by
  obtain ⟨c, hb, hs, hc⟩ := h
  refine ⟨_, g, 19 - j, j + 1, by rw [digs_length], by rw [digs_length]; exact Nat.le_refl _, by simp [maxLen]; omega, .inl rfl, fun i hi q u hu => ?_⟩
  rw [digs_length] at hi
  rw [digs_get] at hu
  have hq : q = 0 := by have := (List.getElem?_eq_some_iff.1 hu).1; simp [encU] at this; omega
  subst hq
  rw [hb.cell]
  have := hc (j - i) (by omega)
  rw [show 19 - j + i * 1 + 0 = 19 - (j - i) by omega, this]
  rw [show j + 1 - 1 - i = j - i by omega] at hu
  exact hu
theorem DigA.put {k j g : Nat} {w : World} (h : DigA k j g w) (hj : j < 20) : DigA k (j + 1) g (w.setCell ⟨g, 19 - j, none⟩ (.int .u8 ((dig ((k / 10 ^ j) % 10)).toNat : Nat))) := by
  obtain ⟨c, hb, hs, hc⟩ := h
  refine ⟨_, hb.set _ _, by simpa using hs, fun i hi => ?_⟩
  rw [Array.getElem?_setIfInBounds]
  by_cases hij : i = j
  · subst hij; simp; omega
  · rw [if_neg (by omega)]; exact hc i (by omega)
set_option maxRecDepth 20000 in
theorem slice20 (g p j : Nat) (hp : 19 - j = p) (hj : j < 20) (w : World) : (Instr.sliceAt 91 (.pointer (some ⟨g, 0, none⟩)) (some (.int .i64 (p : Nat))) none none).run Tryz.prog w = .ok (.slice (some ⟨g, p, none⟩) (j + 1) (j + 1)) w := by
  have hu := Tryz.underlying91
  have := run_sliceAt_array_l (P := Tryz.prog) w 91 ⟨g, 0, none⟩ (by kernel_rfl) .i64 (p : Nat) (by omega) (by rw [show Tryz.prog.arrayLen 91 = 20 by kernel_rfl]; omega)
  rw [this, show Tryz.prog.arrayLen 91 = 20 by kernel_rfl, show Tryz.prog.elem 91 = 5 by kernel_rfl, Tryz.sizeOf5]
  simp only [Result.andThen_ok, slicedAt, Int.toNat_natCast, Nat.mul_one, Addr.add_mid, Nat.zero_add]
  rw [show 20 - p = j + 1 by omega]
  congr 3
  split
  · omega
  · rfl
set_option maxHeartbeats 800000 in
set_option maxRecDepth 20000 in
theorem num_Show (n : Int) (w : World) (hn : n ≤ 9223372036854775807) (hn0 : -9223372036854775808 ≤ n) : Calls Tryz.prog 33 #[.int .i64 n] w (Ret w (sv (showI n))) := by
  by_cases h0 : n < 0
  · have e : showI n = [] := by rw [showI, if_pos h0]
    rw [e]
    go_enter Tryz.func33, Tryz.ntmps33
    go_wp2
    go_ret
    exact ⟨rfl, Below.refl _ _⟩
  · obtain ⟨k, rfl⟩ : ∃ k : Nat, n = k := ⟨n.toNat, by omega⟩
    have hz : ∀ w, (zeroValue 91).run Tryz.prog w = .ok (.agg (Array.replicate 20 (.int .u8 0))) w := fun w => by
      have := Tryz.zeroValue91 w
      exact this
    go_enter Tryz.func33, Tryz.ntmps33
    go_wp2
    go_loopw [0, 4] (fun v i wr => ∃ j p : Nat, p + j = 20 ∧ (j = 0 ∨ k / 10 ^ j ≠ 0) ∧ v = .int .i64 (k / 10 ^ j : Nat) ∧ i = .int .i64 p ∧ DigA k j w.heap.size wr ∧ Below w.heap.size w wr) (fun v _ _ => (intOf v).toNat)
    case atStart =>
      refine ⟨0, 20, rfl, .inl rfl, by rw [Nat.pow_zero, Nat.div_one], rfl, ⟨_, Box.new w _ _, by simp, fun i hi => by omega⟩, by go_grown⟩
    case round =>
      obtain ⟨j, p, hp, hd, rfl, rfl, hD, hB⟩ := hrel
      have hj : j ≤ 18 := by
        rcases hd with rfl | hd
        · omega
        · rcases Nat.lt_or_ge j 19 with h | h
          · omega
          · exact absurd (Nat.div_eq_of_lt (Nat.lt_of_lt_of_le (show k < 10 ^ 19 by omega) (Nat.pow_le_pow_right (by decide) h))) hd
      obtain ⟨p, rfl⟩ : ∃ q, p = q + 1 := ⟨p - 1, by omega⟩
      have hpj : 19 - j = p := by omega
      have hput := hD.put (show j < 20 by omega)
      have hdd : k / 10 ^ j / 10 = k / 10 ^ (j + 1) := by rw [Nat.div_div_eq_div_mul, ← Nat.pow_succ]
      have hshow := digs_show j k
      have hle : k / 10 ^ j ≤ k := Nat.div_le_self _ _
      rw [hpj] at hput
      obtain ⟨c, hb, hs, _⟩ := hD
      have hc : wr.cell? ⟨w.heap.size, p, none⟩ = some (c[p]'(by omega)) := (hb.cell p).trans (Array.getElem?_eq_getElem (by omega))
      have hf := hb.free p
      generalize c[p]'(by omega) = cp at *
      have hdt := dig_toNat (k / 10 ^ j % 10) (Nat.mod_lt _ (by decide))
      have HS := Lib.hid hshow
      have HD := Lib.hid hd
      have HDD := Lib.hid hdd
      have HP := Lib.hid hput
      generalize hq : k / 10 ^ j = q at *
      generalize dig (q % 10) = d at *
      clear hq hput hshow hd hdd hb hs
      have hw1 : (d.toNat : Int) = 48 + (q : Int) % 10 := by omega
      have HW := Lib.hid hw1
      clear hw1 hdt
      have hq0 : (0 : Int) ≤ (q : Int) := by omega
      have hql : (q : Int) ≤ 9223372036854775807 := by omega
      have hpl : (p : Int) < 20 := by omega
      have hp0 : (0 : Int) ≤ (p : Int) := by omega
      by_cases hz2 : q / 10 = 0
      · have hz3 : ((q : Int) / 10 == 0) = true := by simp; omega
        have hz4 : k / 10 ^ (j + 1) = 0 := by rw [← HDD.out]; exact hz2
        have e := HS.out hz4 HD.out
        have hsl := (HP.out.slice (by omega))
        rw [hpj, e] at hsl
        have hcs := conv_strU (P := Tryz.prog) (src := 56) (dst := 9) Tryz.underlying56 Tryz.underlying5 Tryz.underlying9 (by rw [← e, digs_length]) hsl
        have hsc := slice20 w.heap.size p j hpj (by omega)
        have hB2 := hB.setCell (p := ⟨w.heap.size, p, none⟩) (Nat.le_refl _) (.int .u8 (d.toNat : Nat))
        rw [HW.out] at hcs hB2
        clear e hsl hz4
        go_wp2
        go_ret
        exact ⟨rfl, hB2⟩
      · have hz3 : ((q : Int) / 10 == 0) = false := by simp; omega
        go_wp2
        go_roundw
        case rel =>
          refine ⟨j + 1, p, by omega, .inr (by rw [← HDD.out]; exact hz2), by rw [← HDD.out]; simp, rfl, ?_, ?_⟩
          · rw [← HW.out]; exact HP.out
          · exact hB.setCell (p := ⟨w.heap.size, p, none⟩) (Nat.le_refl _) _
        case measure => simp [intOf]; omega
set_option maxHeartbeats 800000 in
theorem ref01_ShowN (k : Nat) : ∀ (w : World), (k : Int) ≤ 9223372036854775807 → Calls Tryz.prog 38 #[.int .i64 k] w (Ret w (sv (showN k))) := by
  induction k using Nat.strongRecOn with
  | ind k ih =>
    intro w hk
    have hk0 : (0 : Int) ≤ (k : Int) := by omega
    by_cases h10 : k < 10
    · have e := showN_small h10
      rw [e]
      have hd := dig_toNat k h10
      have hl : (k : Int) < 10 := by omega
      have hw : IntKind.u8.wrap (48 + (k : Int)) = ((dig k).toNat : Nat) := by rw [IntKind.wrap_u8', hd]; omega
      have hcs := fun w => conv_strU (P := Tryz.prog) (src := 56) (dst := 9) Tryz.underlying56 Tryz.underlying5 Tryz.underlying9 (xs := [dig k]) rfl (sl_new encU_ok w 5 [dig k] (by simp [maxLen]))
      have hd2 : ((dig k).toNat : Int) = 48 + (k : Int) := by omega
      simp only [List.flatMap_cons, List.flatMap_nil, List.append_nil, encU, hd2, List.length_cons, List.length_nil, Nat.zero_add] at hcs
      clear e hd hd2 hw
      go_enter Tryz.func38, Tryz.ntmps38
      go_wp2
      go_ret
      exact ⟨rfl, later_alloc _ _⟩
    · have e := showN_big h10
      have h1 := fun w => ih (k / 10) (by omega) w (by omega)
      have h2 := fun w => ih (k % 10) (by omega) w (by omega)
      rw [showN_small (Nat.mod_lt _ (by decide))] at h2
      rw [Int.natCast_ediv] at h1
      rw [Int.natCast_emod] at h2
      rw [e]
      have hl : ¬ (k : Int) < 10 := by omega
      have hap := sv_append (showN (k / 10)) [dig (k % 10)]
      have hla := showN_length 18 (k / 10) (by omega)
      generalize showN (k / 10) = a at *
      generalize dig (k % 10) = d at *
      have H1 := Lib.hid h1
      have H2 := Lib.hid h2
      clear h1 h2 e ih
      go_enter Tryz.func38, Tryz.ntmps38
      go_wp2_with fail
      refine (H1.out _).mono ?_
      rintro e w1 ⟨rfl, hB1⟩
      go_wp2_with fail
      refine (H2.out _).mono ?_
      rintro e w2 ⟨rfl, hB2⟩
      go_wp2_with fail
      go_ret
      exact ⟨rfl, hB1.trans (hB2.mono hB1.size)⟩
theorem ref01_Show (n : Int) (w : World) (hn : n ≤ 9223372036854775807) : Calls Tryz.prog 38 #[.int .i64 n] w (Ret w (sv (showI n))) := by
  by_cases h0 : n < 0
  · have e : showI n = [] := by rw [showI, if_pos h0]
    rw [e]
    go_enter Tryz.func38, Tryz.ntmps38
    go_wp2
    go_ret
    exact ⟨rfl, Below.refl _ _⟩
  · obtain ⟨k, rfl⟩ : ∃ k : Nat, n = k := ⟨n.toNat, by omega⟩
    rw [showI_nat]
    exact ref01_ShowN k w hn
end Go.Proofs.YtdhmekpgplajmaaGreatDoor
end
