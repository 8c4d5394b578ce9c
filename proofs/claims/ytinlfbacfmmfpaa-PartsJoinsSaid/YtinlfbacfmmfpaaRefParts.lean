/- The classes of bytes, the document's: what the functions of the references come to. -/
import Derived.Test.YtinlfbacfmmfpaaParts
import Derived.Test.YtinlfbacfmmfpaaOwn
namespace Go.Proofs.Ytinlfbacfmmfpaa
open Go.RowKit

theorem RL_take_succ (l : List BSet) (i : Nat) (h : i < l.length) (b c : Nat) : RL (l.take (i + 1)) b c = (RL (l.take i) b c && (mem l[i] b == mem l[i] c)) := by
  rw [List.take_succ_eq_append_getElem h, RL_snoc]
theorem RL_false (l : List BSet) (i : Nat) (h : i < l.length) (b c : Nat) (hm : (mem l[i] b == mem l[i] c) = false) : RL l b c = false := by
  unfold RL
  rw [List.all_eq_false]
  exact ⟨l[i], List.getElem_mem h, by simp [hm]⟩
set_option maxRecDepth 20000 in
theorem ref_alike (a : Option Addr) (cap : Nat) (l : List BSet) (x y : Nat) (w : World) (h : SliceR w (.slice a l.length cap) 4 encS l) (hx : x < 256) (hy : y < 256) :
    Calls Try.prog 67 #[.slice a l.length cap, .int .i64 x, .int .i64 y] w (Ret w (.bool (RL l x y))) := by
  obtain ⟨b, o, hlen, hcap, hcap', ha, hbl, hcell⟩ := h.sets
  clear hlen h
  have HC := Lib.hid hcell
  clear hcell
  go_enter Try.func67, Try.ntmps67
  go_wp2
  go_loopw [7] (fun i wr => ∃ j : Nat, j ≤ l.length ∧ i = .int .i64 j ∧ RL (l.take j) x y = true ∧ Below w.heap.size w wr) (fun i _ => l.length - (intOf i).toNat)
  case atStart => exact ⟨0, Nat.zero_le _, rfl, rfl, Below.refl _ _⟩
  case round =>
    obtain ⟨j, hj, rfl, hR, hB⟩ := hrel
    have HR := Lib.hid hR
    clear hR
    by_cases hlt : j < l.length
    · obtain rfl := ha j hlt
      obtain ⟨c0, c1, c2, c3⟩ := HC.out j hlt wr hB
      have hrs := RL_take_succ l j hlt x y
      have hrf := RL_false l j hlt x y
      have HS := Lib.hid hrs
      have HF := Lib.hid hrf
      clear hrs hrf ha
      generalize l[j] = s at *
      have hkeep : ∀ wi w1 : World, ((wi.cell? ⟨b, o + j * 4, none⟩ = some (.int .u64 (word s 0 : Nat)) ∧ wi.cell? ⟨b, o + j * 4 + 1, none⟩ = some (.int .u64 (word s 1 : Nat)) ∧ wi.cell? ⟨b, o + j * 4 + 2, none⟩ = some (.int .u64 (word s 2 : Nat)) ∧ wi.cell? ⟨b, o + j * 4 + 3, none⟩ = some (.int .u64 (word s 3 : Nat))) ∧ Below w.heap.size w wi) → Below wi.heap.size wi w1 → ((w1.cell? ⟨b, o + j * 4, none⟩ = some (.int .u64 (word s 0 : Nat)) ∧ w1.cell? ⟨b, o + j * 4 + 1, none⟩ = some (.int .u64 (word s 1 : Nat)) ∧ w1.cell? ⟨b, o + j * 4 + 2, none⟩ = some (.int .u64 (word s 2 : Nat)) ∧ w1.cell? ⟨b, o + j * 4 + 3, none⟩ = some (.int .u64 (word s 3 : Nat))) ∧ Below w.heap.size w w1) :=
        fun wi w1 ⟨⟨k0, k1, k2, k3⟩, k4⟩ hb => ⟨⟨(hb.cell (World.block_lt_of_cell? wi _ k0)).trans k0, (hb.cell (World.block_lt_of_cell? wi _ k1)).trans k1, (hb.cell (World.block_lt_of_cell? wi _ k2)).trans k2, (hb.cell (World.block_lt_of_cell? wi _ k3)).trans k3⟩, k4.trans (hb.mono k4.size)⟩
      have HK := Lib.hid hkeep
      clear hkeep
      go_wp2_with fail
      go_region_held3 (fun w' => (w'.cell? ⟨b, o + j * 4, none⟩ = some (.int .u64 (word s 0 : Nat)) ∧ w'.cell? ⟨b, o + j * 4 + 1, none⟩ = some (.int .u64 (word s 1 : Nat)) ∧ w'.cell? ⟨b, o + j * 4 + 2, none⟩ = some (.int .u64 (word s 2 : Nat)) ∧ w'.cell? ⟨b, o + j * 4 + 3, none⟩ = some (.int .u64 (word s 3 : Nat))) ∧ Below w.heap.size w w') (first | exact ⟨⟨c0, c1, c2, c3⟩, hB.drew⟩ | exact HK.out _ _ (by assumption) hb) (first | (go_at_call_of 66 (Value.int IntKind.i64 (x : Int)); refine (ref_Has _ _ _ hx).mono ?_; rintro e w1 ⟨rfl, hb⟩) | (go_at_call_of 66 (Value.int IntKind.i64 (y : Int)); refine (ref_Has _ _ _ hy).mono ?_; rintro e w1 ⟨rfl, hb⟩))
      all_goals
        rename_i hS
        obtain ⟨_, hB2⟩ := hS
        cases hm : (mem s x == mem s y) with
        | true =>
          go_wp2
          go_roundw
          case rel =>
            refine ⟨j + 1, hlt, by go_num, ?_, hB2⟩
            rw [HS.out, HR.out, hm]; rfl
          case measure => simp [intOf]; omega
        | false =>
          go_wp2
          go_ret
          exact ⟨by rw [HF.out hm]; rfl, hB2⟩
    · go_wp2
      go_ret
      obtain rfl : j = l.length := by omega
      have := HR.out
      rw [List.take_length] at this
      exact ⟨by rw [this]; rfl, hB⟩
theorem elem_set : ElemOK Try.prog 22 34 (.agg #[.int .u64 0, .int .u64 0, .int .u64 0, .int .u64 0]) 4 32 :=
  ⟨Try.underlying22, info_parts (by kernel_rfl), rfl, by decide⟩
/-- Where the inner loop stands: no class yet, or the byte has been put into its own. -/
def PartsInner (R : Nat → Nat → Bool) (n : Nat) (a' : Option Addr) (cap' : Nat) (w w2 : World) (f j : Value) : Prop :=
  ∃ k : Nat, j = .int .i64 k ∧ k ≤ (reps R n).length + 1 ∧ Below w.heap.size w w2 ∧ ((f = .bool false ∧ k ≤ (reps R n).length ∧ (∀ i (hi : i < (reps R n).length), i < k → R (reps R n)[i] n = false) ∧ Own w2 w.heap.size 34 4 encS (.slice a' (reps R n).length cap') ((reps R n).map (cls R n))) ∨
          (f = .bool true ∧ ∃ (p : Nat) (hp : p < (reps R n).length), R (reps R n)[p] n = true ∧ Own w2 w.heap.size 34 4 encS (.slice a' (reps R n).length cap') (((reps R n).map (cls R n)).set p (withB (cls R n (reps R n)[p]) n))))
def PartsOuter (R : Nat → Nat → Bool) (w wr : World) (v i : Value) : Prop :=
  ∃ (n : Nat) (a' : Option Addr) (cap' : Nat), n ≤ 256 ∧ i = .int .i64 n ∧ v = .slice a' (reps R n).length cap' ∧ Own wr w.heap.size 34 4 encS (.slice a' (reps R n).length cap') ((reps R n).map (cls R n)) ∧ Below w.heap.size w wr
set_option maxRecDepth 20000 in
set_option maxHeartbeats 800000 in
theorem ref_Parts (a : Option Addr) (cap : Nat) (l : List BSet) (w : World) (h : SliceR w (.slice a l.length cap) 4 encS l) :
    Calls Try.prog 48 #[.slice a l.length cap] w (RetOwn w 34 4 encS ((reps (RL l) 256).map (cls (RL l) 256))) := by
  have E := RL_equi l
  have HA := fun x y (wx : World) (hB : Below w.heap.size w wx) hx hy => ref_alike a cap l x y wx (h.kept hB) hx hy
  generalize hR : RL l = R at *
  clear hR
  have HAL := Lib.hid HA
  clear HA
  go_enter Try.func48, Try.ntmps48
  go_wp2
  go_loopw [3, 4] (fun v i wr => PartsOuter R w wr v i) (fun _ i _ => 256 - (intOf i).toNat)
  case atStart =>
    refine ⟨0, some ⟨w.heap.size, 0, none⟩, 0, Nat.zero_le _, rfl, ?_, ?_, by go_grown⟩
    · rw [reps_zero]; rfl
    · rw [reps_zero]; exact Own.empty _ _ _ _ _ (Nat.le_refl _)
  case round =>
    obtain ⟨n, a', cap', hn, rfl, rfl, hown, hB⟩ := hrel
    by_cases hlt : n < 256
    · have hd : decide ((n : Int) < 256) = true := by simp; omega
      go_wp2
      clear hd
      have hlen := reps_length R n
      go_loopw [5, 6] (fun f j w2 => PartsInner R n a' cap' w w2 f j) (fun f j _ => (reps R n).length + 1 - (intOf j).toNat)
      case atStart => exact ⟨0, rfl, by omega, hB, .inl ⟨rfl, Nat.zero_le _, fun i hi h => absurd h (Nat.not_lt_zero i), hown⟩⟩
      case round =>
        obtain ⟨k, rfl, hk1, hB2, ⟨rfl, hk, hno, hown2⟩ | ⟨rfl, p, hp, hRp, hown2⟩⟩ := hrel
        · by_cases hlt2 : k < (reps R n).length
          · obtain ⟨g, rfl, hg1, hg2⟩ := hown2.addr (by omega)
            have hlt3 : k < ((reps R n).map (cls R n)).length := by simpa using hlt2
            obtain ⟨⟨r0, r1, r2, r3⟩, _⟩ := hown2.cells4 hlt3
            rw [List.getElem_map] at r0 r1 r2 r3
            have hc := reps_lt R n _ (List.getElem_mem hlt2)
            have hls := least_cls E (n := n) (by omega) (List.getElem_mem hlt2)
            have HL := Lib.hid hls
            have HN := Lib.hid hno
            clear hls hno
            cases hRc : R (reps R n)[k] n with
            | false =>
              have HR := Lib.hid hRc
              clear hRc
              go_wp2_with (first | (go_at_call 68; go_must (refine (ref_Least _ _).mono ?_; rintro e w3 ⟨rfl, hB3⟩; rw [HL.out]; have hB4 := hB2.trans (hB3.mono hB2.size); have hown3 := hown2.kept hB3)) | (go_at_call 67; go_must (refine (HAL.out _ _ _ hB4 (by omega) (by omega)).mono ?_; rintro e w4 ⟨rfl, hB5⟩; rw [HR.out]; have hB6 := hB4.trans (hB5.mono hB4.size); have hown4 := hown3.kept hB5)))
              go_roundw
              case rel =>
                refine ⟨k + 1, by go_num, by omega, hB6, .inl ⟨rfl, hlt2, fun i hi h => ?_, hown4⟩⟩
                by_cases hik : i = k
                · subst hik; exact HR.out
                · exact HN.out i hi (by omega)
              case measure => simp [intOf]; omega
            | true =>
              have HR := Lib.hid hRc
              clear hRc
              go_wp2_with (first | (go_at_call 68; go_must (refine (ref_Least _ _).mono ?_; rintro e w3 ⟨rfl, hB3⟩; rw [HL.out]; have hB4 := hB2.trans (hB3.mono hB2.size); have hown3 := hown2.kept hB3)) | (go_at_call 67; go_must (refine (HAL.out _ _ _ hB4 (by omega) (by omega)).mono ?_; rintro e w4 ⟨rfl, hB5⟩; rw [HR.out]; have hB6 := hB4.trans (hB5.mono hB4.size); have hown4 := hown3.kept hB5; obtain ⟨⟨s0, s1, s2, s3⟩, _⟩ := hown4.cells4 hlt3; rw [List.getElem_map] at s0 s1 s2 s3)) | (go_at_call 56; go_must (refine (ref_With _ _ _ hlt).mono ?_; rintro e w5 ⟨rfl, hB7⟩; have hB8 := hB6.trans (hB7.mono hB6.size); have hown5 := hown4.kept hB7; obtain ⟨⟨t0, t1, t2, t3⟩, ⟨f0, f1, f2, f3⟩⟩ := hown5.cells4 hlt3)))
              go_roundw
              case rel => exact ⟨k + 1, by go_num, by omega, by go_grown, .inr ⟨rfl, k, hlt2, HR.out, hown5.store4 hlt3 rfl _⟩⟩
              case measure => simp [intOf]; omega
          · obtain rfl : k = (reps R n).length := by omega
            obtain ⟨e1, e2⟩ := cls_new E hlt (fun i hi => hno i hi hi)
            have HE1 := Lib.hid e1
            have HE2 := Lib.hid e2
            clear e1 e2 hno
            go_wp2_with (first | (go_at_call 69; go_must (refine (ref_Span n n _ hlt).mono ?_; rintro e w3 ⟨rfl, hB3⟩; have hB4 := hB2.trans (hB3.mono hB2.size); have hown3 := hown2.kept hB3)) | (at_builtin; go_must (refine wpList_append1 rfl _ _ 22 rfl elem_set encS_ok rfl (hown3.alloc _) ⟨w3.heap.size, 0, none⟩ 1 (ofP fun b => decide (n ≤ b) && decide (b ≤ n)) rfl ?_ ?_ ?_ ?_ ?_)))
            · exact new_cells w3 _ _
            · simp [maxLen]; omega
            · simp; omega
            · have := hB4.size; simp; omega
            intro a2 cap2 w6 hown6 hgr6
            have hB5 := below_grown (hB4.alloc hB4.size _) (hown3.alloc _) hgr6 (Nat.le_refl _) (by have := hB4.size; simp; omega)
            go_wp2
            go_roundw
            case rel =>
              refine ⟨n + 1, a2, cap2, hlt, by go_num, ?_, ?_, hB5⟩
              · rw [HE1.out]; simp
              · rw [HE2.out] at hown6
                have e : (reps R n).length + 1 = (reps R (n + 1)).length := by rw [HE1.out]; simp
                rw [← e]; exact hown6
            case measure => simp [intOf]; omega
        · obtain ⟨e1, e2⟩ := cls_old E hlt hp hRp
          have HE1 := Lib.hid e1
          have HE2 := Lib.hid e2
          clear e1 e2
          go_wp2
          all_goals
            go_roundw
            case rel =>
              refine ⟨n + 1, a', cap', hlt, by go_num, by rw [HE1.out], ?_, hB2⟩
              rw [HE2.out] at hown2
              rw [HE1.out]; exact hown2
            case measure => simp [intOf]; omega
    · obtain rfl : n = 256 := by omega
      go_wp2
      go_ret
      refine ⟨a', cap', ?_, ?_, hB⟩
      · rw [List.length_map]; rfl
      · rw [List.length_map]; exact hown
end Go.Proofs.Ytinlfbacfmmfpaa
