/- 'number' at each of its types: the keys of all bytes get numbers, in their order. -/
import Derived.Test.YtinlfbacfmmfpaaDoorProg
import Derived.Test.YtinlfbacfmmfpaaDoorNumber
import Derived.Deep.WholeRow
namespace Go.Proofs.YtinlfbacfmmfpaaDoor
open Go.RowKit


theorem key_ii : KeyOK Tryd.prog 70 (encP .i64) := by
  obtain ⟨i, hi, _, hs, _⟩ := info_parts (P := Tryd.prog) (e := 3) (z := .int .i64 0) (size := 1) (bytes := 8) (by kernel_rfl)
  exact keyOK_pair Tryd.underlying70 Tryd.underlying3 hi (by kernel_rfl) hs
set_option maxRecDepth 20000 in
set_option maxHeartbeats 400000 in
theorem number_ii (k : Nat → Int × Int) (p q : Value) (w : World)
    (hkey : ∀ b : Nat, b < 256 → ∀ w', Below w.heap.size w w' → Calls Tryd.prog 51 #[.int .i64 b, p, q] w' (Ret w' (encP .i64 (k b)))) :
    Calls Tryd.prog 50 #[.func (.func 51) #[] #[p, q]] w (Ret w (.tuple #[.agg (arr8 (numR (Kern k))), .int .i64 (widR (Kern k) : Nat)])) := by
  have E := kern_equi k
  have hz := zeroV_256
  have hmm := @run_makeMap Tryd.prog
  have HK := Lib.hid hkey
  clear hkey
  generalize hR : Kern k = R at *
  have HR := Lib.hid hR
  clear hR
  go_enter Tryd.func50, Tryd.ntmps50
  go_wp2
  go_loopw [11] (fun i wr => ∃ n : Nat, n ≤ 256 ∧ i = .int .i64 n ∧ Box wr w.heap.size (arr8 fun _ => 0) 22 ∧ Box wr (w.heap.size + 1) (arr8 fun b => if b < n then numR R b else 0) 22 ∧ MapBox wr (w.heap.size + 1 + 1) (encP .i64) (kvsOf k (reps R n)) ∧ Below w.heap.size w wr) (fun i _ => 256 - (intOf i).toNat)
  case atStart =>
    refine ⟨0, Nat.zero_le _, rfl, ((Box.new' rfl _ _).alloc _).alloc _, ?_, ?_, by go_grown⟩
    · rw [arr8_congr (g := fun _ => 0) (fun i _ => by simp)]; exact (Box.new' (World.size_alloc _ _).symm _ _).alloc _
    · rw [kvsOf_zero]; refine MapBox.new' ?_ _; simp
  case round =>
    obtain ⟨n, hn, rfl, hb0, hb1, hm, hB⟩ := hrel
    by_cases hlt : n < 256
    · have hlook := look_kvsOf k n (reps R n)
      rw [HR.out] at hlook
      have hlen := reps_length R n
      cases hany : (reps R n).any (R n) with
      | true =>
        obtain ⟨e1, e2⟩ := numR_old E.refl hlt hany
        rw [e2] at hlook
        have HL := Lib.hid hlook
        have HE := Lib.hid e1
        clear hlook e1 e2 hany
        go_wp2_with (go_at_call 51; go_must (refine (HK.out n hlt _ hB).mono ?_; rintro e w1 ⟨rfl, hb⟩; have hB1 := Below.alloc (hB.trans (hb.mono hB.size)) (by have := hb0.lt; have := hb.size; omega) (.cells #[.int .i64 (k n).1, .int .i64 (k n).2] 70); have hx0 := (hb0.kept hb).alloc (.cells #[.int .i64 (k n).1, .int .i64 (k n).2] 70); have hx1 := (hb1.kept hb).alloc (.cells #[.int .i64 (k n).1, .int .i64 (k n).2] 70); have hm1 := (hm.kept hb).alloc (.cells #[.int .i64 (k n).1, .int .i64 (k n).2] 70); have hrun := hm1.run_look key_ii Tryd.underlying76 (Tryd.zeroValue5 _) (k n); rw [HL.out] at hrun; have hc := (hx1.cell n).trans (arr8_get _ n hlt); have hf := hx1.free n))
        go_roundw
        case rel =>
          refine ⟨n + 1, hlt, by go_num, hx0.other _ _ (by simp), ?_, ?_, by go_grown⟩
          · have := hx1.set n (.int .u8 (numR R n : Nat))
            rw [arr8_set, arr8_congr (g := fun b => if b < n + 1 then numR R b else 0) (number_step rfl)] at this
            exact this
          · rw [HE.out]; exact hm1.other _ _ (by simp)
        case measure => simp [intOf]; omega
      | false =>
        obtain ⟨e1, e2⟩ := numR_new E.refl hlt hany
        rw [posR_none hany] at hlook
        have HL := Lib.hid hlook
        have HE := Lib.hid e1
        have HN := Lib.hid e2
        clear hlook e1 e2 hany
        go_wp2_with (go_at_call 51; go_must (refine (HK.out n hlt _ hB).mono ?_; rintro e w1 ⟨rfl, hb⟩; have hB1 := Below.alloc (hB.trans (hb.mono hB.size)) (by have := hb0.lt; have := hb.size; omega) (.cells #[.int .i64 (k n).1, .int .i64 (k n).2] 70); have hx0 := (hb0.kept hb).alloc (.cells #[.int .i64 (k n).1, .int .i64 (k n).2] 70); have hx1 := (hb1.kept hb).alloc (.cells #[.int .i64 (k n).1, .int .i64 (k n).2] 70); have hm1 := (hm.kept hb).alloc (.cells #[.int .i64 (k n).1, .int .i64 (k n).2] 70); have hrun := hm1.run_look key_ii Tryd.underlying76 (Tryd.zeroValue5 _) (k n); rw [HL.out] at hrun; have hlen1 := hm1.run_len Tryd.underlying76 3 _ (kvsOf_length k (reps R n)); obtain ⟨w2, hput, hm2, hoth, hsz2, hbel⟩ := hm1.run_put key_ii Tryd.underlying76 (k n) (.int .u8 ((reps R n).length : Nat)); have hy0 := hx0.turn hoth (by omega); have hy1 := hx1.turn hoth (by omega); have hB2 := hB1.trans (hbel w.heap.size (by omega)); have hlk : look (k n) (kvsOf k (reps R n)) = none := HL.out; rw [putIn_none _ _ _ hlk, ← kvsOf_snoc] at hm2; have hc := (hy1.cell n).trans (arr8_get _ n hlt); have hf := hy1.free n; have hconv := wrap_u8_nat (reps R n).length (by omega); have hkc0 := ((Box.new w1 #[.int .i64 (k n).1, .int .i64 (k n).2] 70).turn hoth (by have := hm.lt; have := hb.size; omega)).cell 0; have hkc1 := ((Box.new w1 #[.int .i64 (k n).1, .int .i64 (k n).2] 70).turn hoth (by have := hm.lt; have := hb.size; omega)).cell 1; clear hoth hbel hsz2 hlk))
        go_roundw
        case rel =>
          refine ⟨n + 1, hlt, by go_num, hy0.other _ _ (by simp), ?_, ?_, by go_grown⟩
          · have := hy1.set n (.int .u8 ((reps R n).length : Nat))
            rw [arr8_set, arr8_congr (g := fun b => if b < n + 1 then numR R b else 0) (number_step HN.out)] at this
            exact this
          · rw [HE.out]; exact hm2.other _ _ (by simp)
        case measure => simp [intOf]; omega
    · obtain rfl : n = 256 := by omega
      have hlen1 := hm.run_len Tryd.underlying76 3 _ (kvsOf_length k (reps R 256))
      rw [arr8_congr (g := numR R) (fun i hi => if_pos hi)] at hb1
      go_wp2_with (first | (refine wpList_load_row rfl 22 (.tmp 4) rfl (w.heap.size + 1) rfl _ _ _ _ hb1 Tryd.underlying22 rfl (size_256 _) ?_) | (refine wpList_store_row rfl 22 (.tmp 2) (.tmp 35) rfl w.heap.size _ rfl rfl _ _ hb0 (size_256 _) (by rw [arr8_size, arr8_size]) (arr8_all _) ?_))
      refine ret_box_tmp Tryd.results50 rfl rfl (hb0.setRow _) Tryd.underlying22 rfl (size_256 _) rfl ⟨?_, below_setRow hB (Nat.le_refl _) _⟩
      rw [widR_def]; rfl

end Go.Proofs.YtinlfbacfmmfpaaDoor
