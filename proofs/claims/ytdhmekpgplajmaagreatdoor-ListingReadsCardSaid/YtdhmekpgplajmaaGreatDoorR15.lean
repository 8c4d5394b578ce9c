/- Joined by tools/merge.py: Ref04C, Ref04D. -/
import Derived.Test.YtdhmekpgplajmaaGreatDoorR14
section
namespace Go.Proofs.YtdhmekpgplajmaaGreatDoor
open Go.RowKit
set_option maxRecDepth 20000
set_option maxHeartbeats 3200000 in
theorem ref04_char (g n cap i fr : Nat) (l : List UInt8) (w : World) (h : SliceR w (.slice (some ⟨g, 0, none⟩) n cap) 1 encU l) (hl6 : l.length ≤ 4611686018427387904) :
    Calls Tryz.prog 78 #[.slice (some ⟨g, 0, none⟩) n cap, .int .i64 i, .int .i64 fr] w (Ret w (retE (charR l fr i))) := by
  obtain ⟨hlen, hcap, hcap', hcell⟩ := h.cellsA
  have hx := Box.new w #[.int .i64 0, .int .i64 0] 80
  have hB := later_alloc w (.cells #[.int .i64 0, .int .i64 0] 80)
  have HBAD := Lib.hid (fun p w => ref04_bad 13 p w)
  unfold charR
  by_cases h0 : l.length ≤ i
  · rw [if_pos h0]
    have e0 : decide ((n : Int) ≤ (i : Int)) = true := by simp; omega
    have e0' : n ≤ i := by omega
    clear hcell h hcap hl6 hlen h0
    go_enter Tryz.func78, Tryz.ntmps78
    go_wp2_with (go_at_call 77; go_must (refine (HBAD.out fr _).mono ?_; rintro e w3 ⟨rfl, hB3⟩; have hx3 := hx.kept hB3; have u0 := hx3.free 0; have u1 := hx3.free 1; have u2 := hx3.cell 0; have u3 := hx3.cell 1))
    obtain ⟨z1, z2⟩ := bad_end hx3 (by rfl) (hB.trans (hB3.mono hB.size)) 13 fr
    exact ret_tmp2_box Tryz.results78 rfl rfl rfl z1 Tryz.underlying80 rfl (by kernel_rfl) (by rfl) ⟨by rfl, z2⟩
  · rw [if_neg h0]
    have hk : i < l.length := by omega
    have e0 : decide ((n : Int) ≤ (i : Int)) = false := by simp; omega
    have e0' : ¬ n ≤ i := by omega
    have b1 : (i : Int) < (n : Int) := by omega
    have b2 : (0 : Int) ≤ (i : Int) := by omega
    have hgd : l.getD i 0 = l[i] := by simp [List.getD_eq_getElem?_getD, hk]
    have hes := fun w1 (hb : Below w.heap.size w w1) (hh : hereB l i 92 = true) => ref04_Escape g n cap i l w1 (h.kept hb) hh hl6
    rw [hereB_is hk (m := 92) rfl] at hes ⊢
    rw [hgd]
    have c0 := fun w1 hb => by have := hcell i hk w1 hb; rw [Nat.zero_add] at this; exact this
    have hsp := fun w => ref04_special l[i].toNat w l[i].toNat_lt
    generalize l[i] = c at *
    have p0 := c0 _ hB
    have C0 := Lib.hid c0
    have hw1 : IntKind.i64.wrap ((i : Int) + 1) = ((i + 1 : Nat) : Int) := by rw [IntWalk.i64_in _ (by omega)]; omega
    by_cases k92 : c.toNat = 92
    · rw [if_pos (decide_eq_true k92)]
      have hes := fun w1 hb => hes w1 hb (decide_eq_true k92)
      have e9 : ((c.toNat : Int) == 92) = true := by rw [k92]; rfl
      have hE : ∃ (c2 j2 kd ps : Nat), retE (escR l i) = .tuple #[.int .u8 c2, .int .i64 j2, .agg #[.int .i64 kd, .int .i64 ps]] := by
        cases escR l i with
        | inl q => exact ⟨0, 0, q.1, q.2, rfl⟩
        | inr q => exact ⟨q.1, q.2, 0, 0, rfl⟩
      obtain ⟨c2, j2, kd, ps, hE⟩ := hE
      rw [hE] at hes ⊢
      have HE := Lib.hid hes
      clear hcell h hcap hl6 hlen h0 hes c0 hsp hgd hk hE k92
      go_enter Tryz.func78, Tryz.ntmps78
      go_wp2_with (go_at_call 101; go_must (refine (HE.out _ hB).mono ?_; rintro e w3 ⟨rfl, hB3⟩; have hx3 := hx.kept hB3; have u0 := hx3.free 0; have u1 := hx3.free 1; have u2 := hx3.cell 0; have u3 := hx3.cell 1))
      obtain ⟨z1, z2⟩ := bad_end hx3 (by rfl) (hB.trans (hB3.mono hB.size)) kd ps
      exact ret_tmp2_box Tryz.results78 rfl rfl rfl z1 Tryz.underlying80 rfl (by kernel_rfl) (by rfl) ⟨by rfl, z2⟩
    · rw [if_neg (by simpa using k92)]
      have e9 : ((c.toNat : Int) == 92) = false := by simp; omega
      cases hsc : specialN c.toNat with
      | true =>
        rw [hsc] at hsp
        rw [if_pos rfl]
        have HS := Lib.hid hsp
        clear hcell h hcap hl6 hlen h0 hes c0 hsp hgd hk k92 hsc
        go_enter Tryz.func78, Tryz.ntmps78
        go_wp2_with (first | (go_at_call 102; go_must (refine (HS.out _).mono ?_; rintro e w2 ⟨rfl, hB2⟩; have hb2 := hB.trans (hB2.mono hB.size); have hx2 := hx.kept hB2; have p2 := C0.out _ hb2)) | (go_at_call 77; go_must (refine (HBAD.out i _).mono ?_; rintro e w3 ⟨rfl, hB3⟩; have hx3 := hx2.kept hB3; have u0 := hx3.free 0; have u1 := hx3.free 1; have u2 := hx3.cell 0; have u3 := hx3.cell 1)))
        obtain ⟨z1, z2⟩ := bad_end hx3 (by rfl) (hb2.trans (hB3.mono hb2.size)) 13 i
        exact ret_tmp2_box Tryz.results78 rfl rfl rfl z1 Tryz.underlying80 rfl (by kernel_rfl) (by rfl) ⟨by rfl, z2⟩
      | false =>
        rw [hsc] at hsp
        rw [if_neg (by simp)]
        have HS := Lib.hid hsp
        clear hcell h hcap hl6 hlen h0 hes c0 hsp hgd hk k92 hsc
        go_enter Tryz.func78, Tryz.ntmps78
        go_wp2_with (go_at_call 102; go_must (refine (HS.out _).mono ?_; rintro e w2 ⟨rfl, hB2⟩; have hb2 := hB.trans (hB2.mono hB.size); have hx2 := hx.kept hB2; have p2 := C0.out _ hb2; have u0 := hx2.free 0; have u1 := hx2.free 1; have u2 := hx2.cell 0; have u3 := hx2.cell 1))
        obtain ⟨z1, z2⟩ := bad_end hx2 (by rfl) hb2 0 0
        exact ret_tmp2_box Tryz.results78 rfl rfl rfl z1 Tryz.underlying80 rfl (by kernel_rfl) (by rfl) ⟨by rfl, z2⟩
theorem escR_le {l : List UInt8} {i x j : Nat} (h : escR l i = .inr (x, j)) : j ≤ l.length ∧ x < 256 := by
  unfold escR at h
  split at h
  · cases h
  · split at h
    · cases h; omega
    · split at h
      · cases h; omega
      · split at h
        · cases h; omega
        · split at h
          · split at h
            · split at h
              · rename_i a b h1 h2
                cases h
                have := hexV_lt h1
                have := hexV_lt h2
                omega
              · cases h
            · cases h
          · split at h
            · cases h
            · cases h
              exact ⟨by omega, (l.getD (i + 1) 0).toNat_lt⟩
theorem charR_le {l : List UInt8} {fr i x j : Nat} (h : charR l fr i = .inr (x, j)) : j ≤ l.length ∧ x < 256 := by
  unfold charR at h
  split at h
  · cases h
  · split at h
    · exact escR_le h
    · split at h
      · cases h
      · cases h
        exact ⟨by omega, (l.getD i 0).toNat_lt⟩
end Go.Proofs.YtdhmekpgplajmaaGreatDoor
end
section
namespace Go.Proofs.YtdhmekpgplajmaaGreatDoor
open Go.RowKit
set_option maxRecDepth 20000
/-- Where the walk of the items stands: it rounds have been, j is the place, s the set so far. -/
def LoopQ (l : List UInt8) (ANS : Sum (Nat × Nat) (BSet × Nat)) (it j : Nat) (s : BSet) : Prop :=
  (it = 0 ∧ s = 0 ∧ firstR l 0 j = ANS) ∨ (0 < it ∧ ∃ f, l.length < f + j ∧ loopR l 0 f s j = ANS)
theorem zero_or_set (s : BSet) : (0 : BSet) ||| s = s := set_ext fun b _ => by rw [mem_or, mem_zero]; simp
theorem LoopQ.err {l : List UInt8} {ANS : Sum (Nat × Nat) (BSet × Nat)} {it j : Nat} {s : BSet} {q : Nat × Nat} (h : LoopQ l ANS it j s) (hg : it = 0 ∨ hereB l j 93 = false) (hj : j ≤ l.length) (hi : itemR l 0 j = .inl q) : ANS = .inl q := by
  rcases h with ⟨_, _, h⟩ | ⟨h0, f, hf, h⟩
  · rw [← h]; unfold firstR; rw [hi]
  · obtain ⟨f, rfl⟩ : ∃ f', f = f' + 1 := ⟨f - 1, by omega⟩
    rw [← h, loopR_succ, hg.resolve_left (by omega), hi]; rfl
theorem LoopQ.step {l : List UInt8} {ANS : Sum (Nat × Nat) (BSet × Nat)} {it j lo hb k : Nat} {s : BSet} (h : LoopQ l ANS it j s) (hg : it = 0 ∨ hereB l j 93 = false) (hj : j ≤ l.length) (hk : j < k) (hi : itemR l 0 j = .inr ((lo, hb), k)) : LoopQ l ANS (it + 1) k (s ||| spanS lo hb) := by
  rcases h with ⟨_, h1, h⟩ | ⟨h0, f, hf, h⟩
  · refine .inr ⟨by omega, l.length + 1, by omega, ?_⟩
    rw [← h, h1, zero_or_set]; unfold firstR; rw [hi]
  · obtain ⟨f, rfl⟩ : ∃ f', f = f' + 1 := ⟨f - 1, by omega⟩
    refine .inr ⟨by omega, f, by omega, ?_⟩
    rw [← h, loopR_succ, hg.resolve_left (by omega), hi]; rfl
theorem LoopQ.fin {l : List UInt8} {ANS : Sum (Nat × Nat) (BSet × Nat)} {it j : Nat} {s : BSet} (h : LoopQ l ANS it j s) (hit : it ≠ 0) (hj : j ≤ l.length) (h93 : hereB l j 93 = true) : ANS = .inr (s, j + 1) := by
  rcases h with ⟨h0, _⟩ | ⟨h0, f, hf, h⟩
  · exact absurd h0 hit
  · obtain ⟨f, rfl⟩ : ∃ f', f = f' + 1 := ⟨f - 1, by omega⟩
    rw [← h, loopR_succ, h93]; rfl
def finR (t : Bool) : Sum (Nat × Nat) (BSet × Nat) → Sum (Nat × Nat) (BSet × Nat)
  | .inl q => .inl q
  | .inr (s, j) => .inr (if t = true then ~~~s else s, j)
theorem readR_fin {l : List UInt8} {t : Bool} (h0 : hereB l 0 91 = true) (ht : hereB l 1 94 = t) : readR l = finR t (firstR l 0 (if t = true then 2 else 1)) := by
  unfold readR
  rw [if_pos h0, ht]
  cases firstR l 0 (if t = true then 2 else 1) with
  | inl q => rfl
  | inr q => rfl
/-- The call's own blocks. -/
structure RB (w W : World) (s : BSet) : Prop where
  x0 : Box W w.heap.size (setC 0) 43
  x1 : Box W (w.heap.size + 1) #[.int .i64 0, .int .i64 0] 80
  x2 : Box W (w.heap.size + 1 + 1) (setC s) 43
  below : Below w.heap.size w W
theorem RB.kept {w W W' : World} {s : BSet} (h : RB w W s) (hb : Below W.heap.size W W') : RB w W' s := ⟨h.x0.kept hb, h.x1.kept hb, h.x2.kept hb, h.below.trans (hb.mono h.below.size)⟩
theorem RB.store {w W : World} {s : BSet} (h : RB w W s) (u : BSet) : RB w ((((W.setCell ⟨w.heap.size + 1 + 1, 0, none⟩ (.int .u64 (word u 0 : Nat))).setCell ⟨w.heap.size + 1 + 1, 1, none⟩ (.int .u64 (word u 1 : Nat))).setCell ⟨w.heap.size + 1 + 1, 2, none⟩ (.int .u64 (word u 2 : Nat))).setCell ⟨w.heap.size + 1 + 1, 3, none⟩ (.int .u64 (word u 3 : Nat))) u :=
  ⟨h.x0.other4 (by omega) _ _ _ _, h.x1.other4 (by omega) _ _ _ _, h.x2.store4 rfl _ _ _ _, (((h.below.setCell (by simp; omega) _).setCell (by simp; omega) _).setCell (by simp; omega) _).setCell (by simp; omega) _⟩
theorem two_ends {w W : World} {s : BSet} (x0 : Box W w.heap.size (setC s) 43) (x1 : Box W (w.heap.size + 1) #[.int .i64 0, .int .i64 0] 80) (hb : Below w.heap.size w W) (v0 v1 v2 v3 u0 u1 : Value) :
    Box ((((((W.setCell ⟨w.heap.size, 0, none⟩ v0).setCell ⟨w.heap.size, 1, none⟩ v1).setCell ⟨w.heap.size, 2, none⟩ v2).setCell ⟨w.heap.size, 3, none⟩ v3).setCell ⟨w.heap.size + 1, 0, none⟩ u0).setCell ⟨w.heap.size + 1, 1, none⟩ u1) w.heap.size #[v0, v1, v2, v3] 43 ∧
    Box ((((((W.setCell ⟨w.heap.size, 0, none⟩ v0).setCell ⟨w.heap.size, 1, none⟩ v1).setCell ⟨w.heap.size, 2, none⟩ v2).setCell ⟨w.heap.size, 3, none⟩ v3).setCell ⟨w.heap.size + 1, 0, none⟩ u0).setCell ⟨w.heap.size + 1, 1, none⟩ u1) (w.heap.size + 1) #[u0, u1] 80 ∧
    Below w.heap.size w ((((((W.setCell ⟨w.heap.size, 0, none⟩ v0).setCell ⟨w.heap.size, 1, none⟩ v1).setCell ⟨w.heap.size, 2, none⟩ v2).setCell ⟨w.heap.size, 3, none⟩ v3).setCell ⟨w.heap.size + 1, 0, none⟩ u0).setCell ⟨w.heap.size + 1, 1, none⟩ u1) :=
  ⟨((x0.store4 rfl v0 v1 v2 v3).other _ _ (by simp)).other _ _ (by simp), (((x1.other4 (by omega) v0 v1 v2 v3).set 0 u0).set 1 u1),
    (((((hb.setCell (by simp) _).setCell (by simp) _).setCell (by simp) _).setCell (by simp) _).setCell (by simp) _).setCell (by simp) _⟩
theorem RB.start (w : World) : RB w (((w.alloc (.cells #[.int .u64 0, .int .u64 0, .int .u64 0, .int .u64 0] 43)).alloc (.cells #[.int .i64 0, .int .i64 0] 80)).alloc (.cells #[.int .u64 0, .int .u64 0, .int .u64 0, .int .u64 0] 43)) 0 := by
  refine ⟨?_, (Box.new' (by simp) _ _).alloc _, ?_, (((Below.refl _ w).alloc (Nat.le_refl _) _).alloc (by simp) _).alloc (by simp; omega) _⟩
  · rw [setC_zero]; exact ((Box.new' rfl _ _).alloc _).alloc _
  · rw [setC_zero]; exact Box.new' (by simp) _ _
/-- The call's own blocks, and a fault's. -/
structure RE (w W : World) (eB kd ps : Nat) : Prop where
  x0 : Box W w.heap.size (setC 0) 43
  x1 : Box W (w.heap.size + 1) #[.int .i64 0, .int .i64 0] 80
  xe : Box W eB #[.int .i64 kd, .int .i64 ps] 80
  below : Below w.heap.size w W
theorem RE.turn {w W W' : World} {eB kd ps : Nat} (h : RE w W eB kd ps) (he : eB ≠ w.heap.size) (ht : Turns w.heap.size 43 (setC 0) W W') : RE w W' eB kd ps :=
  ⟨ht.fin h.x0, ht.keep.box (by simp) h.x1, ht.keep.box he h.xe, h.below.trans (ht.low h.below.size)⟩
theorem RB.err {w W : World} {s : BSet} (h : RB w W s) (kd ps : Nat) : RE w (W.alloc (.cells #[.int .i64 kd, .int .i64 ps] 80)) W.heap.size kd ps :=
  ⟨h.x0.alloc _, h.x1.alloc _, Box.new _ _ _, h.below.alloc h.below.size _⟩
theorem ref04_Read0 (g n cap : Nat) (l : List UInt8) (w : World) (h : SliceR w (.slice (some ⟨g, 0, none⟩) n cap) 1 encU l) (h0 : hereB l 0 91 = false) :
    Calls Tryz.prog 49 #[.slice (some ⟨g, 0, none⟩) n cap, .int .i64 0] w (Ret w (retR (readR l))) := by
  have hS := RB.start w
  have hH : ∀ w1, Below w.heap.size w w1 → Calls Tryz.prog 76 #[.slice (some ⟨g, 0, none⟩) n cap, .int .i64 0, .int .u8 91] w1 (RetSame w1 (.bool false)) := fun w1 hb => by
    have := ref04_has g n cap 0 l 91 w1 (h.kept hb); rw [h0] at this; exact this
  have HH := Lib.hid hH
  have HBAD := Lib.hid (fun w => ref04_bad 1 0 w)
  have hx0 : Box ((w.alloc (.cells #[.int .u64 0, .int .u64 0, .int .u64 0, .int .u64 0] 43)).alloc (.cells #[.int .i64 0, .int .i64 0] 80)) w.heap.size (setC 0) 43 := by rw [setC_zero]; exact (Box.new' rfl _ _).alloc _
  have hx1 : Box ((w.alloc (.cells #[.int .u64 0, .int .u64 0, .int .u64 0, .int .u64 0] 43)).alloc (.cells #[.int .i64 0, .int .i64 0] 80)) (w.heap.size + 1) #[.int .i64 0, .int .i64 0] 80 := Box.new' (by simp) _ _
  have hB : Below w.heap.size w ((w.alloc (.cells #[.int .u64 0, .int .u64 0, .int .u64 0, .int .u64 0] 43)).alloc (.cells #[.int .i64 0, .int .i64 0] 80)) := ((Below.refl _ w).alloc (Nat.le_refl _) _).alloc (by simp) _
  unfold readR
  rw [h0]
  have hz := setC_zero
  clear hH h h0 hS
  go_enter Tryz.func49, Tryz.ntmps49
  go_wp2_with fail
  refine (HH.out _ hB).mono ?_
  rintro e w2 ⟨rfl, rfl⟩
  go_wp2_with (go_at_call 77; go_must (refine (HBAD.out _).mono ?_; rintro e w3 ⟨rfl, hB3⟩; have hx3 := hx0.kept hB3; have hx4 := hx1.kept hB3; obtain ⟨⟨p0, p1, p2, p3⟩, ⟨q0, q1, q2, q3⟩⟩ := hx3.set4; have r0 := hx4.cell 0; have r1 := hx4.cell 1; have s0 := hx4.free 0; have s1 := hx4.free 1))
  obtain ⟨hE0, hE1, hE2⟩ := two_ends hx3 hx4 (hB.trans (hB3.mono hB.size)) (.int .u64 0) (.int .u64 0) (.int .u64 0) (.int .u64 0) (.int .i64 1) (.int .i64 0)
  exact ret_box_tmp_box Tryz.results49 rfl rfl rfl hE0 hE1 Tryz.underlying43 rfl (by kernel_rfl) Tryz.underlying80 rfl (by kernel_rfl) rfl ⟨by unfold retR setV badV; rw [hz]; rfl, hE2⟩
set_option maxHeartbeats 40000000 in
theorem ref04_Read1 (g n cap : Nat) (l : List UInt8) (w : World) (h : SliceR w (.slice (some ⟨g, 0, none⟩) n cap) 1 encU l) (hl6 : l.length ≤ 4611686018427387904) (h0 : hereB l 0 91 = true) (ht : hereB l 1 94 = false) :
    Calls Tryz.prog 49 #[.slice (some ⟨g, 0, none⟩) n cap, .int .i64 0] w (Ret w (retR (readR l))) := by
  obtain ⟨hlen, hcap, hcap', hcell⟩ := h.cellsA
  have hS := RB.start w
  have hx := readR_fin h0 ht
  have hn1 := hereB_lt h0
  rw [hx]
  rw [show (if false = true then 2 else 1) = 1 from rfl]
  obtain ⟨ANS, hA⟩ : ∃ ANS, firstR l 0 1 = ANS := ⟨_, rfl⟩
  rw [hA]
  have h91 : ∀ w1, Below w.heap.size w w1 → Calls Tryz.prog 76 #[.slice (some ⟨g, 0, none⟩) n cap, .int .i64 0, .int .u8 91] w1 (RetSame w1 (.bool true)) := fun w1 hb => by
    have := ref04_has g n cap 0 l 91 w1 (h.kept hb); rw [h0] at this; exact this
  have h94 : ∀ w1, Below w.heap.size w w1 → Calls Tryz.prog 76 #[.slice (some ⟨g, 0, none⟩) n cap, .int .i64 1, .int .u8 94] w1 (RetSame w1 (.bool false)) := fun w1 hb => by
    have := ref04_has g n cap 1 l 94 w1 (h.kept hb); rw [ht] at this; exact this
  have hch : ∀ (j : Nat) w1, Below w.heap.size w w1 → Calls Tryz.prog 78 #[.slice (some ⟨g, 0, none⟩) n cap, .int .i64 j, .int .i64 0] w1 (Ret w1 (retE (charR l 0 j))) := fun j w1 hb => ref04_char g n cap j 0 l w1 (h.kept hb) hl6
  have hB2 : Below w.heap.size w ((w.alloc (.cells #[.int .u64 0, .int .u64 0, .int .u64 0, .int .u64 0] 43)).alloc (.cells #[.int .i64 0, .int .i64 0] 80)) := ((Below.refl _ w).alloc (Nat.le_refl _) _).alloc (by simp) _
  have hQ0 : LoopQ l ANS 0 1 0 := .inl ⟨rfl, rfl, hA⟩
  have HCHAR := Lib.hid hch
  have H91 := Lib.hid h91
  have H94 := Lib.hid h94
  have HLEN := Lib.hid hlen
  have hn1 : 1 ≤ n := by omega
  clear hlen hcap hcell h91 h94 hch hx hA h0 ht
  go_enter Tryz.func49, Tryz.ntmps49
  go_wp2_with fail
  refine (H91.out _ hB2).mono ?_
  rintro e w2 ⟨rfl, rfl⟩
  go_wp2_with fail
  refine (H94.out _ hB2).mono ?_
  rintro e w2 ⟨rfl, rfl⟩
  go_wp2
  clear hB2
  go_loopw [7, 10] (fun i items wr => ∃ (it j : Nat) (s : BSet), i = .int .i64 j ∧ items = .int .i64 it ∧ j ≤ n ∧ it ≤ j ∧ LoopQ l ANS it j s ∧ RB w wr s) (fun i _ _ => n - (intOf i).toNat)
  case atStart => exact ⟨0, 1, 0, rfl, rfl, by omega, by omega, hQ0, hS⟩
  case round =>
    clear hS hQ0
    obtain ⟨it, j, s, rfl, rfl, hj, hitj, hQ, hRB⟩ := hrel
    have hjl : j ≤ l.length := by rw [← HLEN.out]; exact hj
    have hrelB : True := trivial
    by_cases hit : it = 0
    · have hg : it = 0 ∨ hereB l j 93 = false := .inl hit
      have ei : ((it : Int) == 0) = true := by rw [hit]; rfl
      cases hc : charR l 0 j with
      | inl q =>
        obtain ⟨kd, ps⟩ := q
        have hkd := charR_ne hc
        have HA := Lib.hid (hQ.err hg hjl (itemR_e1 hc))
        have HCH := Lib.hid (HCHAR.out j)
        rw [hc] at HCH
        unfold retE badV at HCH
        have e1 : ((kd : Int) == 0) = false := by simp; omega
        have e2 : ((kd : Int) != 0) = true := by simp; omega
        clear hQ hc hkd hrelB h
        go_wp2_with fail
        refine (HCH.out _ hRB.below).mono ?_
        rintro e w3 ⟨rfl, hB3⟩
        have hRB2 := hRB.kept hB3
        have hye := Box.new w3 #[.int .i64 kd, .int .i64 ps] 80
        have y0 := hye.cell 0
        have hRB3 := hRB2
        go_wp2_with fail
        have hRE := hRB2.err kd ps
        have HF : Hid (∀ v, Turns w.heap.size 43 (setC 0) (w3.alloc (.cells #[.int .i64 kd, .int .i64 ps] 80)).drew v → RE w v _ kd ps) := Lib.hid fun v hl => hRE.turn (by have := hRB3.below.size; have := hRB3.x2.lt; omega) (relTurns _ _ _ |>.later _ _ (Below.refl _ _).drew |> fun h0 => (relTurns _ _ _).trans _ _ _ h0 hl)
        refine wp_region_M (R := Turns w.heap.size 43 (setC 0)) 4 (by kernel_rfl) ?_
        refine tkM 0 ?_ rfl (fun w1 hl => ?_) ?_
        rotate_left
        · have y0 := (HF.out w1 hl).xe.cell 0; have y1 := (HF.out w1 hl).xe.cell 1; go_simp; try with_reducible rfl
        simp only [eA, eB, Act.put, eD, eE, eF]
        refine tkM 1 ?_ rfl (fun w1 hl => ?_) ?_
        rotate_left
        · have y0 := (HF.out w1 hl).xe.cell 0; have y1 := (HF.out w1 hl).xe.cell 1; go_simp; try with_reducible rfl
        simp only [eA, eB, eC, Act.put, eD, eE, eF]
        refine wpM_one (t := 4) (i := 2) (by kernel_rfl) rfl (fun w1 hl K hK => ?_)
        have hu := (HF.out w1 hl).x0
        obtain ⟨⟨c0, c1, c2, c3⟩, ⟨f0, f1, f2, f3⟩⟩ := hu.set4
        go_simp
        have hT5 := turns_store4 (v0 := .int .u64 0) (v1 := .int .u64 0) (v2 := .int .u64 0) (v3 := .int .u64 0) hu rfl
        have hX5 := hu.store4 rfl (.int .u64 0) (.int .u64 0) (.int .u64 0) (.int .u64 0)
        rw [← setC_zero] at hT5 hX5
        have hl5 := (relTurns _ _ _).trans _ _ _ hl hT5
        refine hK.out _ _ (fun _ => hT5) ?_
        clear hK K c0 c1 c2 c3 f0 f1 f2 f3 hu hl hT5
        refine tkM 3 ?_ rfl (fun w1 hl => ?_) ?_
        rotate_left
        · skip; go_simp; try with_reducible rfl
        simp only [eA, eB, eC, Act.put, eD, eE, eF]
        refine wpM_one (t := 4) (i := 4) (by kernel_rfl) rfl (fun w1 hl K hK => ?_)
        have hT7 := HF.out w1 ((relTurns _ _ _).trans _ _ _ hl5 hl)
        have hX7 := hl.fin hX5
        have r0 := hT7.x1.cell 0
        have r1 := hT7.x1.cell 1
        have s0 := hT7.x1.free 0
        have s1 := hT7.x1.free 1
        go_simp
        refine hK.out _ _ (fun h => absurd rfl h) ?_
        clear hK K
        refine wpM_done (by kernel_rfl) (fun w1 hl => ?_) _
        have hE0 := hl.fin ((hX7.other ⟨w.heap.size + 1, 0, none⟩ (.int .i64 kd) (by simp)).other ⟨w.heap.size + 1, 1, none⟩ (.int .i64 ps) (by simp))
        have hE1 := hl.keep.box (by show ¬ _; omega) ((hT7.x1.set 0 (.int .i64 kd)).set 1 (.int .i64 ps))
        have hE2 := ((hT7.below.setCell (p := ⟨w.heap.size + 1, 0, none⟩) (by simp) (.int .i64 kd)).setCell (p := ⟨w.heap.size + 1, 1, none⟩) (by simp) (.int .i64 ps)).trans (hl.low (by simpa [World.setCell] using hT7.below.size))
        go_wp2
        exact ret_box_tmp_box Tryz.results49 rfl rfl rfl hE0 hE1 Tryz.underlying43 rfl (by kernel_rfl) Tryz.underlying80 rfl (by kernel_rfl) rfl ⟨by rw [HA.out]; rfl, hE2⟩
      | inr q =>
        obtain ⟨lo, j1⟩ := q
        obtain ⟨hj1, hlo⟩ := charR_le hc
        have hup := charR_up hc
        have HCH := Lib.hid (HCHAR.out j)
        rw [hc] at HCH
        unfold retE badV at HCH
        have hH45 : ∀ w1, Below w.heap.size w w1 → Calls Tryz.prog 76 #[.slice (some ⟨g, 0, none⟩) n cap, .int .i64 j1, .int .u8 45] w1 (RetSame w1 (.bool (hereB l j1 45))) := fun w1 hb => ref04_has g n cap j1 l 45 w1 (h.kept hb)
        cases h45 : hereB l j1 45 with
        | false =>
          rw [h45] at hH45
          have H45 := Lib.hid hH45
          have HQ := Lib.hid (hQ.step hg hjl hup (itemR_one hc h45))
          have hj1n : j1 ≤ n := by rw [HLEN.out]; exact hj1
          clear hQ hc hrelB h h45 hH45
          go_wp2_with fail
          refine (HCH.out _ hRB.below).mono ?_
          rintro e w3 ⟨rfl, hB3⟩
          have hRB2 := hRB.kept hB3
          have hRB3 := hRB2.kept (later_alloc w3 (.cells #[.int .i64 0, .int .i64 0] 80))
          have hye := Box.new w3 #[.int .i64 0, .int .i64 0] 80
          have y0 := hye.cell 0
          go_wp2_with fail
          refine (H45.out _ hRB3.below).mono ?_
          rintro e w4 ⟨rfl, rfl⟩
          go_wp2_with fail
          have HF : Hid (∀ v, Later (w3.alloc (.cells #[.int .i64 0, .int .i64 0] 80)).drew v → RB w v s) := Lib.hid fun v hl => (hRB3.kept (Below.refl _ _).drew).kept hl
          have HSP : Hid (∀ w1, Calls Tryz.prog 80 #[.int .i64 lo, .int .i64 lo] w1 (Ret w1 (setV (spanS lo lo)))) := Lib.hid fun w1 => ref_Span lo lo w1 hlo
          have HTW : Hid (∀ w1, Calls Tryz.prog 79 #[setV s, setV (spanS lo lo), .int .i64 0] w1 (Ret w1 (setV (s ||| spanS lo lo)))) := Lib.hid fun w1 => by have := ref_Two0 s (spanS lo lo) w1; rwa [twoS_or] at this
          generalize spanS lo lo = sp at *
          have hwl : IntKind.i64.wrap (lo : Int) = (lo : Int) := IntWalk.i64_in _ (by omega)
          refine wp_region_M (R := Later) 7 (by kernel_rfl) ?_
          refine tkM 0 ?_ rfl (fun w1 hl => ?_) ?_
          rotate_left
          · obtain ⟨⟨c0, c1, c2, c3⟩, _⟩ := (HF.out w1 hl).x2.set4; go_simp; try with_reducible rfl
          simp only [eA, eB, Act.put, eD, eE, eF]
          refine tkM 1 ?_ rfl (fun w1 hl => ?_) ?_
          rotate_left
          · obtain ⟨⟨c0, c1, c2, c3⟩, _⟩ := (HF.out w1 hl).x2.set4; go_simp; try with_reducible rfl
          simp only [eA, eB, eC, Act.put, eD, eE, eF]
          refine tkM 2 ?_ rfl (fun w1 hl => ?_) ?_
          rotate_left
          · obtain ⟨⟨c0, c1, c2, c3⟩, _⟩ := (HF.out w1 hl).x2.set4; go_simp; try with_reducible rfl
          simp only [eA, eB, eC, Act.put, eD, eE, eF]
          refine tkM 3 ?_ rfl (fun w1 hl => ?_) ?_
          rotate_left
          · obtain ⟨⟨c0, c1, c2, c3⟩, _⟩ := (HF.out w1 hl).x2.set4; go_simp; try with_reducible rfl
          simp only [eA, eB, eC, Act.put, eD, eE, eF]
          refine tkM 4 ?_ rfl (fun w1 hl => ?_) ?_
          rotate_left
          · obtain ⟨⟨c0, c1, c2, c3⟩, _⟩ := (HF.out w1 hl).x2.set4; go_simp; try with_reducible rfl
          simp only [eA, eB, eC, Act.put, eD, eE, eF]
          refine wpM_call (t := 7) (i := 5) (f := ?_) (args := ?_) (v := ?_) rfl (by kernel_rfl) (by kernel_rfl) (by kernel_rfl) (by kernel_rfl) (fun _ _ _ h => h) (by rfl) (fun w1 => ?_) (fun w1 hl => ?_) ?_
          rotate_left 4
          · exact HSP.out w1
          rotate_left
          · go_simp
          simp only [eA, eB, eC, Act.put, eD, eE, eF]
          refine wpM_call (t := 7) (i := 6) (f := ?_) (args := ?_) (v := ?_) rfl (by kernel_rfl) (by kernel_rfl) (by kernel_rfl) (by kernel_rfl) (fun _ _ _ h => h) (by rfl) (fun w1 => ?_) (fun w1 hl => ?_) ?_
          rotate_left 4
          · exact HTW.out w1
          rotate_left
          · go_simp
          simp only [eA, eB, eC, Act.put, eD, eE, eF]
          refine wpM_one (t := 7) (i := 7) (by kernel_rfl) rfl (fun w1 hl K hK => ?_)
          have hR7 := HF.out w1 hl
          obtain ⟨⟨c0, c1, c2, c3⟩, ⟨f0, f1, f2, f3⟩⟩ := hR7.x2.set4
          go_simp
          refine hK.out _ _ (fun h => absurd rfl h) ?_
          clear hK K
          refine wpM_done (by kernel_rfl) (fun w1 hl => ?_) _
          have hR8 := (hR7.store (s ||| sp)).kept hl
          go_wp2
          go_roundw
          case rel => exact ⟨it + 1, j1, s ||| sp, by go_num, by go_num, by omega, by omega, HQ.out, hR8⟩
          case measure => simp [intOf]; omega
        | true =>
          rw [h45] at hH45
          have H45 := Lib.hid hH45
          have hj1n := hereB_lt h45
          have hcap2 : l.length ≤ 4611686018427387904 := hl6
          have hw1 : IntKind.i64.wrap ((j1 : Int) + 1) = ((j1 + 1 : Nat) : Int) := by rw [IntWalk.i64_in _ (by omega)]; omega
          have HCH2 : Hid (∀ w1, Below w.heap.size w w1 → Calls Tryz.prog 78 #[.slice (some ⟨g, 0, none⟩) n cap, .int .i64 ((j1 + 1 : Nat) : Int), .int .i64 0] w1 (Ret w1 (retE (charR l 0 (j1 + 1))))) := Lib.hid (HCHAR.out (j1 + 1))
          cases hc2 : charR l 0 (j1 + 1) with
          | inl q =>
            obtain ⟨kd, ps⟩ := q
            have hkd := charR_ne hc2
            have HA := Lib.hid (hQ.err hg hjl (itemR_e2 hc h45 hc2))
            rw [hc2] at HCH2
            unfold retE badV at HCH2
            have e1 : ((kd : Int) == 0) = false := by simp; omega
            have e2 : ((kd : Int) != 0) = true := by simp; omega
            clear hQ hc hc2 hkd hrelB h hH45 h45
            go_wp2_with fail
            refine (HCH.out _ hRB.below).mono ?_
            rintro e w3 ⟨rfl, hB3⟩
            have hRB2 := hRB.kept hB3
            have hRB3a := hRB2.kept (later_alloc w3 (.cells #[.int .i64 0, .int .i64 0] 80))
            have hye := Box.new w3 #[.int .i64 0, .int .i64 0] 80
            have y0 := hye.cell 0
            go_wp2_with fail
            refine (H45.out _ hRB3a.below).mono ?_
            rintro e w4 ⟨rfl, rfl⟩
            go_wp2_with fail
            refine (HCH2.out _ hRB3a.below).mono ?_
            rintro e w5 ⟨rfl, hB5⟩
            have hRB5 := hRB3a.kept hB5
            have hRB3 := hRB5
            have hze := Box.new w5 #[.int .i64 kd, .int .i64 ps] 80
            have z0 := hze.cell 0
            go_wp2_with fail
            have hRE := hRB5.err kd ps
            have HF : Hid (∀ v, Turns w.heap.size 43 (setC 0) (w5.alloc (.cells #[.int .i64 kd, .int .i64 ps] 80)).drew v → RE w v _ kd ps) := Lib.hid fun v hl => hRE.turn (by have := hRB3.below.size; have := hRB3.x2.lt; omega) (relTurns _ _ _ |>.later _ _ (Below.refl _ _).drew |> fun h0 => (relTurns _ _ _).trans _ _ _ h0 hl)
            refine wp_region_M (R := Turns w.heap.size 43 (setC 0)) 4 (by kernel_rfl) ?_
            refine tkM 0 ?_ rfl (fun w1 hl => ?_) ?_
            rotate_left
            · have y0 := (HF.out w1 hl).xe.cell 0; have y1 := (HF.out w1 hl).xe.cell 1; go_simp; try with_reducible rfl
            simp only [eA, eB, Act.put, eD, eE, eF]
            refine tkM 1 ?_ rfl (fun w1 hl => ?_) ?_
            rotate_left
            · have y0 := (HF.out w1 hl).xe.cell 0; have y1 := (HF.out w1 hl).xe.cell 1; go_simp; try with_reducible rfl
            simp only [eA, eB, eC, Act.put, eD, eE, eF]
            refine wpM_one (t := 4) (i := 2) (by kernel_rfl) rfl (fun w1 hl K hK => ?_)
            have hu := (HF.out w1 hl).x0
            obtain ⟨⟨c0, c1, c2, c3⟩, ⟨f0, f1, f2, f3⟩⟩ := hu.set4
            go_simp
            have hT5 := turns_store4 (v0 := .int .u64 0) (v1 := .int .u64 0) (v2 := .int .u64 0) (v3 := .int .u64 0) hu rfl
            have hX5 := hu.store4 rfl (.int .u64 0) (.int .u64 0) (.int .u64 0) (.int .u64 0)
            rw [← setC_zero] at hT5 hX5
            have hl5 := (relTurns _ _ _).trans _ _ _ hl hT5
            refine hK.out _ _ (fun _ => hT5) ?_
            clear hK K c0 c1 c2 c3 f0 f1 f2 f3 hu hl hT5
            refine tkM 3 ?_ rfl (fun w1 hl => ?_) ?_
            rotate_left
            · skip; go_simp; try with_reducible rfl
            simp only [eA, eB, eC, Act.put, eD, eE, eF]
            refine wpM_one (t := 4) (i := 4) (by kernel_rfl) rfl (fun w1 hl K hK => ?_)
            have hT7 := HF.out w1 ((relTurns _ _ _).trans _ _ _ hl5 hl)
            have hX7 := hl.fin hX5
            have r0 := hT7.x1.cell 0
            have r1 := hT7.x1.cell 1
            have s0 := hT7.x1.free 0
            have s1 := hT7.x1.free 1
            go_simp
            refine hK.out _ _ (fun h => absurd rfl h) ?_
            clear hK K
            refine wpM_done (by kernel_rfl) (fun w1 hl => ?_) _
            have hE0 := hl.fin ((hX7.other ⟨w.heap.size + 1, 0, none⟩ (.int .i64 kd) (by simp)).other ⟨w.heap.size + 1, 1, none⟩ (.int .i64 ps) (by simp))
            have hE1 := hl.keep.box (by show ¬ _; omega) ((hT7.x1.set 0 (.int .i64 kd)).set 1 (.int .i64 ps))
            have hE2 := ((hT7.below.setCell (p := ⟨w.heap.size + 1, 0, none⟩) (by simp) (.int .i64 kd)).setCell (p := ⟨w.heap.size + 1, 1, none⟩) (by simp) (.int .i64 ps)).trans (hl.low (by simpa [World.setCell] using hT7.below.size))
            go_wp2
            exact ret_box_tmp_box Tryz.results49 rfl rfl rfl hE0 hE1 Tryz.underlying43 rfl (by kernel_rfl) Tryz.underlying80 rfl (by kernel_rfl) rfl ⟨by rw [HA.out]; rfl, hE2⟩
          | inr q =>
            obtain ⟨hi, k⟩ := q
            obtain ⟨hk, hhi⟩ := charR_le hc2
            have hup2 := charR_up hc2
            rw [hc2] at HCH2
            unfold retE badV at HCH2
            by_cases hlt : hi < lo
            · have HA := Lib.hid (hQ.err hg hjl (itemR_e3 hc h45 hc2 hlt))
              have e3 : decide ((hi : Int) < (lo : Int)) = true := by simp; omega
              have HBAD := Lib.hid (fun w => ref04_bad 15 j w)
              clear hQ hc hc2 hrelB h hH45 h45
              go_wp2_with fail
              refine (HCH.out _ hRB.below).mono ?_
              rintro e w3 ⟨rfl, hB3⟩
              have hRB2 := hRB.kept hB3
              have hRB3a := hRB2.kept (later_alloc w3 (.cells #[.int .i64 0, .int .i64 0] 80))
              have hye := Box.new w3 #[.int .i64 0, .int .i64 0] 80
              have y0 := hye.cell 0
              go_wp2_with fail
              refine (H45.out _ hRB3a.below).mono ?_
              rintro e w4 ⟨rfl, rfl⟩
              go_wp2_with fail
              refine (HCH2.out _ hRB3a.below).mono ?_
              rintro e w5 ⟨rfl, hB5⟩
              have hRB5 := hRB3a.kept hB5
              have hRB6 := hRB5.kept (later_alloc w5 (.cells #[.int .i64 0, .int .i64 0] 80))
              have hze := Box.new w5 #[.int .i64 0, .int .i64 0] 80
              have z0 := hze.cell 0
              go_wp2_with (go_at_call 77; go_must (refine (HBAD.out _).mono ?_; rintro e w6 ⟨rfl, hB6⟩; have hRB7 := hRB6.kept hB6; obtain ⟨⟨p0, p1, p2, p3⟩, ⟨q0, q1, q2, q3⟩⟩ := hRB7.x0.set4; have r0 := hRB7.x1.cell 0; have r1 := hRB7.x1.cell 1; have s0 := hRB7.x1.free 0; have s1 := hRB7.x1.free 1))
              obtain ⟨hE0, hE1, hE2⟩ := two_ends hRB7.x0 hRB7.x1 hRB7.below (.int .u64 0) (.int .u64 0) (.int .u64 0) (.int .u64 0) (.int .i64 15) (.int .i64 j)
              have hzz := setC_zero
              exact ret_box_tmp_box Tryz.results49 rfl rfl rfl hE0 hE1 Tryz.underlying43 rfl (by kernel_rfl) Tryz.underlying80 rfl (by kernel_rfl) rfl ⟨by rw [HA.out]; unfold finR retR setV badV; rw [hzz]; rfl, hE2⟩
            · have HQ := Lib.hid (hQ.step hg hjl (by omega) (itemR_two hc h45 hc2 hlt))
              have e3 : decide ((hi : Int) < (lo : Int)) = false := by simp; omega
              have hkn : k ≤ n := by rw [HLEN.out]; exact hk
              clear hQ hc hc2 hrelB h hH45 h45
              go_wp2_with fail
              refine (HCH.out _ hRB.below).mono ?_
              rintro e w3 ⟨rfl, hB3⟩
              have hRB2 := hRB.kept hB3
              have hRB3a := hRB2.kept (later_alloc w3 (.cells #[.int .i64 0, .int .i64 0] 80))
              have hye := Box.new w3 #[.int .i64 0, .int .i64 0] 80
              have y0 := hye.cell 0
              go_wp2_with fail
              refine (H45.out _ hRB3a.below).mono ?_
              rintro e w4 ⟨rfl, rfl⟩
              go_wp2_with fail
              refine (HCH2.out _ hRB3a.below).mono ?_
              rintro e w5 ⟨rfl, hB5⟩
              have hRB5 := hRB3a.kept hB5
              have hRB3 := hRB5.kept (later_alloc w5 (.cells #[.int .i64 0, .int .i64 0] 80))
              have hze := Box.new w5 #[.int .i64 0, .int .i64 0] 80
              have z0 := hze.cell 0
              go_wp2_with fail
              have HF : Hid (∀ v, Later (w5.alloc (.cells #[.int .i64 0, .int .i64 0] 80)).drew v → RB w v s) := Lib.hid fun v hl => (hRB3.kept (Below.refl _ _).drew).kept hl
              have HSP : Hid (∀ w1, Calls Tryz.prog 80 #[.int .i64 lo, .int .i64 hi] w1 (Ret w1 (setV (spanS lo hi)))) := Lib.hid fun w1 => ref_Span lo hi w1 hhi
              have HTW : Hid (∀ w1, Calls Tryz.prog 79 #[setV s, setV (spanS lo hi), .int .i64 0] w1 (Ret w1 (setV (s ||| spanS lo hi)))) := Lib.hid fun w1 => by have := ref_Two0 s (spanS lo hi) w1; rwa [twoS_or] at this
              generalize spanS lo hi = sp at *
              have hwl : IntKind.i64.wrap (lo : Int) = (lo : Int) := IntWalk.i64_in _ (by omega)
              have hwh : IntKind.i64.wrap (hi : Int) = (hi : Int) := IntWalk.i64_in _ (by omega)
              refine wp_region_M (R := Later) 7 (by kernel_rfl) ?_
              refine tkM 0 ?_ rfl (fun w1 hl => ?_) ?_
              rotate_left
              · obtain ⟨⟨c0, c1, c2, c3⟩, _⟩ := (HF.out w1 hl).x2.set4; go_simp; try with_reducible rfl
              simp only [eA, eB, Act.put, eD, eE, eF]
              refine tkM 1 ?_ rfl (fun w1 hl => ?_) ?_
              rotate_left
              · obtain ⟨⟨c0, c1, c2, c3⟩, _⟩ := (HF.out w1 hl).x2.set4; go_simp; try with_reducible rfl
              simp only [eA, eB, eC, Act.put, eD, eE, eF]
              refine tkM 2 ?_ rfl (fun w1 hl => ?_) ?_
              rotate_left
              · obtain ⟨⟨c0, c1, c2, c3⟩, _⟩ := (HF.out w1 hl).x2.set4; go_simp; try with_reducible rfl
              simp only [eA, eB, eC, Act.put, eD, eE, eF]
              refine tkM 3 ?_ rfl (fun w1 hl => ?_) ?_
              rotate_left
              · obtain ⟨⟨c0, c1, c2, c3⟩, _⟩ := (HF.out w1 hl).x2.set4; go_simp; try with_reducible rfl
              simp only [eA, eB, eC, Act.put, eD, eE, eF]
              refine tkM 4 ?_ rfl (fun w1 hl => ?_) ?_
              rotate_left
              · obtain ⟨⟨c0, c1, c2, c3⟩, _⟩ := (HF.out w1 hl).x2.set4; go_simp; try with_reducible rfl
              simp only [eA, eB, eC, Act.put, eD, eE, eF]
              refine wpM_call (t := 7) (i := 5) (f := ?_) (args := ?_) (v := ?_) rfl (by kernel_rfl) (by kernel_rfl) (by kernel_rfl) (by kernel_rfl) (fun _ _ _ h => h) (by rfl) (fun w1 => ?_) (fun w1 hl => ?_) ?_
              rotate_left 4
              · exact HSP.out w1
              rotate_left
              · go_simp
              simp only [eA, eB, eC, Act.put, eD, eE, eF]
              refine wpM_call (t := 7) (i := 6) (f := ?_) (args := ?_) (v := ?_) rfl (by kernel_rfl) (by kernel_rfl) (by kernel_rfl) (by kernel_rfl) (fun _ _ _ h => h) (by rfl) (fun w1 => ?_) (fun w1 hl => ?_) ?_
              rotate_left 4
              · exact HTW.out w1
              rotate_left
              · go_simp
              simp only [eA, eB, eC, Act.put, eD, eE, eF]
              refine wpM_one (t := 7) (i := 7) (by kernel_rfl) rfl (fun w1 hl K hK => ?_)
              have hR7 := HF.out w1 hl
              obtain ⟨⟨c0, c1, c2, c3⟩, ⟨f0, f1, f2, f3⟩⟩ := hR7.x2.set4
              go_simp
              refine hK.out _ _ (fun h => absurd rfl h) ?_
              clear hK K
              refine wpM_done (by kernel_rfl) (fun w1 hl => ?_) _
              have hR8 := (hR7.store (s ||| sp)).kept hl
              go_wp2
              go_roundw
              case rel => exact ⟨it + 1, k, s ||| sp, by go_num, by go_num, by omega, by omega, HQ.out, hR8⟩
              case measure => simp [intOf]; omega
    · have ei : ((it : Int) == 0) = false := by simp; omega
      have h93 : ∀ w1, Below w.heap.size w w1 → Calls Tryz.prog 76 #[.slice (some ⟨g, 0, none⟩) n cap, .int .i64 j, .int .u8 93] w1 (RetSame w1 (.bool (hereB l j 93))) := fun w1 hb => ref04_has g n cap j l 93 w1 (h.kept hb)
      cases hh : hereB l j 93 with
      | false =>
        have hg : it = 0 ∨ hereB l j 93 = false := .inr hh
        rw [hh] at h93
        have H93 := Lib.hid h93
        clear h93
        cases hc : charR l 0 j with
        | inl q =>
          obtain ⟨kd, ps⟩ := q
          have hkd := charR_ne hc
          have HA := Lib.hid (hQ.err hg hjl (itemR_e1 hc))
          have HCH := Lib.hid (HCHAR.out j)
          rw [hc] at HCH
          unfold retE badV at HCH
          have e1 : ((kd : Int) == 0) = false := by simp; omega
          have e2 : ((kd : Int) != 0) = true := by simp; omega
          clear hQ hc hkd hrelB h
          go_wp2_with fail
          refine (H93.out _ hRB.below).mono ?_
          rintro e w2 ⟨rfl, rfl⟩
          go_wp2_with fail
          refine (HCH.out _ hRB.below).mono ?_
          rintro e w3 ⟨rfl, hB3⟩
          have hRB2 := hRB.kept hB3
          have hye := Box.new w3 #[.int .i64 kd, .int .i64 ps] 80
          have y0 := hye.cell 0
          have hRB3 := hRB2
          go_wp2_with fail
          have hRE := hRB2.err kd ps
          have HF : Hid (∀ v, Turns w.heap.size 43 (setC 0) (w3.alloc (.cells #[.int .i64 kd, .int .i64 ps] 80)).drew v → RE w v _ kd ps) := Lib.hid fun v hl => hRE.turn (by have := hRB3.below.size; have := hRB3.x2.lt; omega) (relTurns _ _ _ |>.later _ _ (Below.refl _ _).drew |> fun h0 => (relTurns _ _ _).trans _ _ _ h0 hl)
          refine wp_region_M (R := Turns w.heap.size 43 (setC 0)) 4 (by kernel_rfl) ?_
          refine tkM 0 ?_ rfl (fun w1 hl => ?_) ?_
          rotate_left
          · have y0 := (HF.out w1 hl).xe.cell 0; have y1 := (HF.out w1 hl).xe.cell 1; go_simp; try with_reducible rfl
          simp only [eA, eB, Act.put, eD, eE, eF]
          refine tkM 1 ?_ rfl (fun w1 hl => ?_) ?_
          rotate_left
          · have y0 := (HF.out w1 hl).xe.cell 0; have y1 := (HF.out w1 hl).xe.cell 1; go_simp; try with_reducible rfl
          simp only [eA, eB, eC, Act.put, eD, eE, eF]
          refine wpM_one (t := 4) (i := 2) (by kernel_rfl) rfl (fun w1 hl K hK => ?_)
          have hu := (HF.out w1 hl).x0
          obtain ⟨⟨c0, c1, c2, c3⟩, ⟨f0, f1, f2, f3⟩⟩ := hu.set4
          go_simp
          have hT5 := turns_store4 (v0 := .int .u64 0) (v1 := .int .u64 0) (v2 := .int .u64 0) (v3 := .int .u64 0) hu rfl
          have hX5 := hu.store4 rfl (.int .u64 0) (.int .u64 0) (.int .u64 0) (.int .u64 0)
          rw [← setC_zero] at hT5 hX5
          have hl5 := (relTurns _ _ _).trans _ _ _ hl hT5
          refine hK.out _ _ (fun _ => hT5) ?_
          clear hK K c0 c1 c2 c3 f0 f1 f2 f3 hu hl hT5
          refine tkM 3 ?_ rfl (fun w1 hl => ?_) ?_
          rotate_left
          · skip; go_simp; try with_reducible rfl
          simp only [eA, eB, eC, Act.put, eD, eE, eF]
          refine wpM_one (t := 4) (i := 4) (by kernel_rfl) rfl (fun w1 hl K hK => ?_)
          have hT7 := HF.out w1 ((relTurns _ _ _).trans _ _ _ hl5 hl)
          have hX7 := hl.fin hX5
          have r0 := hT7.x1.cell 0
          have r1 := hT7.x1.cell 1
          have s0 := hT7.x1.free 0
          have s1 := hT7.x1.free 1
          go_simp
          refine hK.out _ _ (fun h => absurd rfl h) ?_
          clear hK K
          refine wpM_done (by kernel_rfl) (fun w1 hl => ?_) _
          have hE0 := hl.fin ((hX7.other ⟨w.heap.size + 1, 0, none⟩ (.int .i64 kd) (by simp)).other ⟨w.heap.size + 1, 1, none⟩ (.int .i64 ps) (by simp))
          have hE1 := hl.keep.box (by show ¬ _; omega) ((hT7.x1.set 0 (.int .i64 kd)).set 1 (.int .i64 ps))
          have hE2 := ((hT7.below.setCell (p := ⟨w.heap.size + 1, 0, none⟩) (by simp) (.int .i64 kd)).setCell (p := ⟨w.heap.size + 1, 1, none⟩) (by simp) (.int .i64 ps)).trans (hl.low (by simpa [World.setCell] using hT7.below.size))
          go_wp2
          exact ret_box_tmp_box Tryz.results49 rfl rfl rfl hE0 hE1 Tryz.underlying43 rfl (by kernel_rfl) Tryz.underlying80 rfl (by kernel_rfl) rfl ⟨by rw [HA.out]; rfl, hE2⟩
        | inr q =>
          obtain ⟨lo, j1⟩ := q
          obtain ⟨hj1, hlo⟩ := charR_le hc
          have hup := charR_up hc
          have HCH := Lib.hid (HCHAR.out j)
          rw [hc] at HCH
          unfold retE badV at HCH
          have hH45 : ∀ w1, Below w.heap.size w w1 → Calls Tryz.prog 76 #[.slice (some ⟨g, 0, none⟩) n cap, .int .i64 j1, .int .u8 45] w1 (RetSame w1 (.bool (hereB l j1 45))) := fun w1 hb => ref04_has g n cap j1 l 45 w1 (h.kept hb)
          cases h45 : hereB l j1 45 with
          | false =>
            rw [h45] at hH45
            have H45 := Lib.hid hH45
            have HQ := Lib.hid (hQ.step hg hjl hup (itemR_one hc h45))
            have hj1n : j1 ≤ n := by rw [HLEN.out]; exact hj1
            clear hQ hc hrelB h h45 hH45
            go_wp2_with fail
            refine (H93.out _ hRB.below).mono ?_
            rintro e w2 ⟨rfl, rfl⟩
            go_wp2_with fail
            refine (HCH.out _ hRB.below).mono ?_
            rintro e w3 ⟨rfl, hB3⟩
            have hRB2 := hRB.kept hB3
            have hRB3 := hRB2.kept (later_alloc w3 (.cells #[.int .i64 0, .int .i64 0] 80))
            have hye := Box.new w3 #[.int .i64 0, .int .i64 0] 80
            have y0 := hye.cell 0
            go_wp2_with fail
            refine (H45.out _ hRB3.below).mono ?_
            rintro e w4 ⟨rfl, rfl⟩
            go_wp2_with fail
            have HF : Hid (∀ v, Later (w3.alloc (.cells #[.int .i64 0, .int .i64 0] 80)).drew v → RB w v s) := Lib.hid fun v hl => (hRB3.kept (Below.refl _ _).drew).kept hl
            have HSP : Hid (∀ w1, Calls Tryz.prog 80 #[.int .i64 lo, .int .i64 lo] w1 (Ret w1 (setV (spanS lo lo)))) := Lib.hid fun w1 => ref_Span lo lo w1 hlo
            have HTW : Hid (∀ w1, Calls Tryz.prog 79 #[setV s, setV (spanS lo lo), .int .i64 0] w1 (Ret w1 (setV (s ||| spanS lo lo)))) := Lib.hid fun w1 => by have := ref_Two0 s (spanS lo lo) w1; rwa [twoS_or] at this
            generalize spanS lo lo = sp at *
            have hwl : IntKind.i64.wrap (lo : Int) = (lo : Int) := IntWalk.i64_in _ (by omega)
            refine wp_region_M (R := Later) 7 (by kernel_rfl) ?_
            refine tkM 0 ?_ rfl (fun w1 hl => ?_) ?_
            rotate_left
            · obtain ⟨⟨c0, c1, c2, c3⟩, _⟩ := (HF.out w1 hl).x2.set4; go_simp; try with_reducible rfl
            simp only [eA, eB, Act.put, eD, eE, eF]
            refine tkM 1 ?_ rfl (fun w1 hl => ?_) ?_
            rotate_left
            · obtain ⟨⟨c0, c1, c2, c3⟩, _⟩ := (HF.out w1 hl).x2.set4; go_simp; try with_reducible rfl
            simp only [eA, eB, eC, Act.put, eD, eE, eF]
            refine tkM 2 ?_ rfl (fun w1 hl => ?_) ?_
            rotate_left
            · obtain ⟨⟨c0, c1, c2, c3⟩, _⟩ := (HF.out w1 hl).x2.set4; go_simp; try with_reducible rfl
            simp only [eA, eB, eC, Act.put, eD, eE, eF]
            refine tkM 3 ?_ rfl (fun w1 hl => ?_) ?_
            rotate_left
            · obtain ⟨⟨c0, c1, c2, c3⟩, _⟩ := (HF.out w1 hl).x2.set4; go_simp; try with_reducible rfl
            simp only [eA, eB, eC, Act.put, eD, eE, eF]
            refine tkM 4 ?_ rfl (fun w1 hl => ?_) ?_
            rotate_left
            · obtain ⟨⟨c0, c1, c2, c3⟩, _⟩ := (HF.out w1 hl).x2.set4; go_simp; try with_reducible rfl
            simp only [eA, eB, eC, Act.put, eD, eE, eF]
            refine wpM_call (t := 7) (i := 5) (f := ?_) (args := ?_) (v := ?_) rfl (by kernel_rfl) (by kernel_rfl) (by kernel_rfl) (by kernel_rfl) (fun _ _ _ h => h) (by rfl) (fun w1 => ?_) (fun w1 hl => ?_) ?_
            rotate_left 4
            · exact HSP.out w1
            rotate_left
            · go_simp
            simp only [eA, eB, eC, Act.put, eD, eE, eF]
            refine wpM_call (t := 7) (i := 6) (f := ?_) (args := ?_) (v := ?_) rfl (by kernel_rfl) (by kernel_rfl) (by kernel_rfl) (by kernel_rfl) (fun _ _ _ h => h) (by rfl) (fun w1 => ?_) (fun w1 hl => ?_) ?_
            rotate_left 4
            · exact HTW.out w1
            rotate_left
            · go_simp
            simp only [eA, eB, eC, Act.put, eD, eE, eF]
            refine wpM_one (t := 7) (i := 7) (by kernel_rfl) rfl (fun w1 hl K hK => ?_)
            have hR7 := HF.out w1 hl
            obtain ⟨⟨c0, c1, c2, c3⟩, ⟨f0, f1, f2, f3⟩⟩ := hR7.x2.set4
            go_simp
            refine hK.out _ _ (fun h => absurd rfl h) ?_
            clear hK K
            refine wpM_done (by kernel_rfl) (fun w1 hl => ?_) _
            have hR8 := (hR7.store (s ||| sp)).kept hl
            go_wp2
            go_roundw
            case rel => exact ⟨it + 1, j1, s ||| sp, by go_num, by go_num, by omega, by omega, HQ.out, hR8⟩
            case measure => simp [intOf]; omega
          | true =>
            rw [h45] at hH45
            have H45 := Lib.hid hH45
            have hj1n := hereB_lt h45
            have hcap2 : l.length ≤ 4611686018427387904 := hl6
            have hw1 : IntKind.i64.wrap ((j1 : Int) + 1) = ((j1 + 1 : Nat) : Int) := by rw [IntWalk.i64_in _ (by omega)]; omega
            have HCH2 : Hid (∀ w1, Below w.heap.size w w1 → Calls Tryz.prog 78 #[.slice (some ⟨g, 0, none⟩) n cap, .int .i64 ((j1 + 1 : Nat) : Int), .int .i64 0] w1 (Ret w1 (retE (charR l 0 (j1 + 1))))) := Lib.hid (HCHAR.out (j1 + 1))
            cases hc2 : charR l 0 (j1 + 1) with
            | inl q =>
              obtain ⟨kd, ps⟩ := q
              have hkd := charR_ne hc2
              have HA := Lib.hid (hQ.err hg hjl (itemR_e2 hc h45 hc2))
              rw [hc2] at HCH2
              unfold retE badV at HCH2
              have e1 : ((kd : Int) == 0) = false := by simp; omega
              have e2 : ((kd : Int) != 0) = true := by simp; omega
              clear hQ hc hc2 hkd hrelB h hH45 h45
              go_wp2_with fail
              refine (H93.out _ hRB.below).mono ?_
              rintro e w2 ⟨rfl, rfl⟩
              go_wp2_with fail
              refine (HCH.out _ hRB.below).mono ?_
              rintro e w3 ⟨rfl, hB3⟩
              have hRB2 := hRB.kept hB3
              have hRB3a := hRB2.kept (later_alloc w3 (.cells #[.int .i64 0, .int .i64 0] 80))
              have hye := Box.new w3 #[.int .i64 0, .int .i64 0] 80
              have y0 := hye.cell 0
              go_wp2_with fail
              refine (H45.out _ hRB3a.below).mono ?_
              rintro e w4 ⟨rfl, rfl⟩
              go_wp2_with fail
              refine (HCH2.out _ hRB3a.below).mono ?_
              rintro e w5 ⟨rfl, hB5⟩
              have hRB5 := hRB3a.kept hB5
              have hRB3 := hRB5
              have hze := Box.new w5 #[.int .i64 kd, .int .i64 ps] 80
              have z0 := hze.cell 0
              go_wp2_with fail
              have hRE := hRB5.err kd ps
              have HF : Hid (∀ v, Turns w.heap.size 43 (setC 0) (w5.alloc (.cells #[.int .i64 kd, .int .i64 ps] 80)).drew v → RE w v _ kd ps) := Lib.hid fun v hl => hRE.turn (by have := hRB3.below.size; have := hRB3.x2.lt; omega) (relTurns _ _ _ |>.later _ _ (Below.refl _ _).drew |> fun h0 => (relTurns _ _ _).trans _ _ _ h0 hl)
              refine wp_region_M (R := Turns w.heap.size 43 (setC 0)) 4 (by kernel_rfl) ?_
              refine tkM 0 ?_ rfl (fun w1 hl => ?_) ?_
              rotate_left
              · have y0 := (HF.out w1 hl).xe.cell 0; have y1 := (HF.out w1 hl).xe.cell 1; go_simp; try with_reducible rfl
              simp only [eA, eB, Act.put, eD, eE, eF]
              refine tkM 1 ?_ rfl (fun w1 hl => ?_) ?_
              rotate_left
              · have y0 := (HF.out w1 hl).xe.cell 0; have y1 := (HF.out w1 hl).xe.cell 1; go_simp; try with_reducible rfl
              simp only [eA, eB, eC, Act.put, eD, eE, eF]
              refine wpM_one (t := 4) (i := 2) (by kernel_rfl) rfl (fun w1 hl K hK => ?_)
              have hu := (HF.out w1 hl).x0
              obtain ⟨⟨c0, c1, c2, c3⟩, ⟨f0, f1, f2, f3⟩⟩ := hu.set4
              go_simp
              have hT5 := turns_store4 (v0 := .int .u64 0) (v1 := .int .u64 0) (v2 := .int .u64 0) (v3 := .int .u64 0) hu rfl
              have hX5 := hu.store4 rfl (.int .u64 0) (.int .u64 0) (.int .u64 0) (.int .u64 0)
              rw [← setC_zero] at hT5 hX5
              have hl5 := (relTurns _ _ _).trans _ _ _ hl hT5
              refine hK.out _ _ (fun _ => hT5) ?_
              clear hK K c0 c1 c2 c3 f0 f1 f2 f3 hu hl hT5
              refine tkM 3 ?_ rfl (fun w1 hl => ?_) ?_
              rotate_left
              · skip; go_simp; try with_reducible rfl
              simp only [eA, eB, eC, Act.put, eD, eE, eF]
              refine wpM_one (t := 4) (i := 4) (by kernel_rfl) rfl (fun w1 hl K hK => ?_)
              have hT7 := HF.out w1 ((relTurns _ _ _).trans _ _ _ hl5 hl)
              have hX7 := hl.fin hX5
              have r0 := hT7.x1.cell 0
              have r1 := hT7.x1.cell 1
              have s0 := hT7.x1.free 0
              have s1 := hT7.x1.free 1
              go_simp
              refine hK.out _ _ (fun h => absurd rfl h) ?_
              clear hK K
              refine wpM_done (by kernel_rfl) (fun w1 hl => ?_) _
              have hE0 := hl.fin ((hX7.other ⟨w.heap.size + 1, 0, none⟩ (.int .i64 kd) (by simp)).other ⟨w.heap.size + 1, 1, none⟩ (.int .i64 ps) (by simp))
              have hE1 := hl.keep.box (by show ¬ _; omega) ((hT7.x1.set 0 (.int .i64 kd)).set 1 (.int .i64 ps))
              have hE2 := ((hT7.below.setCell (p := ⟨w.heap.size + 1, 0, none⟩) (by simp) (.int .i64 kd)).setCell (p := ⟨w.heap.size + 1, 1, none⟩) (by simp) (.int .i64 ps)).trans (hl.low (by simpa [World.setCell] using hT7.below.size))
              go_wp2
              exact ret_box_tmp_box Tryz.results49 rfl rfl rfl hE0 hE1 Tryz.underlying43 rfl (by kernel_rfl) Tryz.underlying80 rfl (by kernel_rfl) rfl ⟨by rw [HA.out]; rfl, hE2⟩
            | inr q =>
              obtain ⟨hi, k⟩ := q
              obtain ⟨hk, hhi⟩ := charR_le hc2
              have hup2 := charR_up hc2
              rw [hc2] at HCH2
              unfold retE badV at HCH2
              by_cases hlt : hi < lo
              · have HA := Lib.hid (hQ.err hg hjl (itemR_e3 hc h45 hc2 hlt))
                have e3 : decide ((hi : Int) < (lo : Int)) = true := by simp; omega
                have HBAD := Lib.hid (fun w => ref04_bad 15 j w)
                clear hQ hc hc2 hrelB h hH45 h45
                go_wp2_with fail
                refine (H93.out _ hRB.below).mono ?_
                rintro e w2 ⟨rfl, rfl⟩
                go_wp2_with fail
                refine (HCH.out _ hRB.below).mono ?_
                rintro e w3 ⟨rfl, hB3⟩
                have hRB2 := hRB.kept hB3
                have hRB3a := hRB2.kept (later_alloc w3 (.cells #[.int .i64 0, .int .i64 0] 80))
                have hye := Box.new w3 #[.int .i64 0, .int .i64 0] 80
                have y0 := hye.cell 0
                go_wp2_with fail
                refine (H45.out _ hRB3a.below).mono ?_
                rintro e w4 ⟨rfl, rfl⟩
                go_wp2_with fail
                refine (HCH2.out _ hRB3a.below).mono ?_
                rintro e w5 ⟨rfl, hB5⟩
                have hRB5 := hRB3a.kept hB5
                have hRB6 := hRB5.kept (later_alloc w5 (.cells #[.int .i64 0, .int .i64 0] 80))
                have hze := Box.new w5 #[.int .i64 0, .int .i64 0] 80
                have z0 := hze.cell 0
                go_wp2_with (go_at_call 77; go_must (refine (HBAD.out _).mono ?_; rintro e w6 ⟨rfl, hB6⟩; have hRB7 := hRB6.kept hB6; obtain ⟨⟨p0, p1, p2, p3⟩, ⟨q0, q1, q2, q3⟩⟩ := hRB7.x0.set4; have r0 := hRB7.x1.cell 0; have r1 := hRB7.x1.cell 1; have s0 := hRB7.x1.free 0; have s1 := hRB7.x1.free 1))
                obtain ⟨hE0, hE1, hE2⟩ := two_ends hRB7.x0 hRB7.x1 hRB7.below (.int .u64 0) (.int .u64 0) (.int .u64 0) (.int .u64 0) (.int .i64 15) (.int .i64 j)
                have hzz := setC_zero
                exact ret_box_tmp_box Tryz.results49 rfl rfl rfl hE0 hE1 Tryz.underlying43 rfl (by kernel_rfl) Tryz.underlying80 rfl (by kernel_rfl) rfl ⟨by rw [HA.out]; unfold finR retR setV badV; rw [hzz]; rfl, hE2⟩
              · have HQ := Lib.hid (hQ.step hg hjl (by omega) (itemR_two hc h45 hc2 hlt))
                have e3 : decide ((hi : Int) < (lo : Int)) = false := by simp; omega
                have hkn : k ≤ n := by rw [HLEN.out]; exact hk
                clear hQ hc hc2 hrelB h hH45 h45
                go_wp2_with fail
                refine (H93.out _ hRB.below).mono ?_
                rintro e w2 ⟨rfl, rfl⟩
                go_wp2_with fail
                refine (HCH.out _ hRB.below).mono ?_
                rintro e w3 ⟨rfl, hB3⟩
                have hRB2 := hRB.kept hB3
                have hRB3a := hRB2.kept (later_alloc w3 (.cells #[.int .i64 0, .int .i64 0] 80))
                have hye := Box.new w3 #[.int .i64 0, .int .i64 0] 80
                have y0 := hye.cell 0
                go_wp2_with fail
                refine (H45.out _ hRB3a.below).mono ?_
                rintro e w4 ⟨rfl, rfl⟩
                go_wp2_with fail
                refine (HCH2.out _ hRB3a.below).mono ?_
                rintro e w5 ⟨rfl, hB5⟩
                have hRB5 := hRB3a.kept hB5
                have hRB3 := hRB5.kept (later_alloc w5 (.cells #[.int .i64 0, .int .i64 0] 80))
                have hze := Box.new w5 #[.int .i64 0, .int .i64 0] 80
                have z0 := hze.cell 0
                go_wp2_with fail
                have HF : Hid (∀ v, Later (w5.alloc (.cells #[.int .i64 0, .int .i64 0] 80)).drew v → RB w v s) := Lib.hid fun v hl => (hRB3.kept (Below.refl _ _).drew).kept hl
                have HSP : Hid (∀ w1, Calls Tryz.prog 80 #[.int .i64 lo, .int .i64 hi] w1 (Ret w1 (setV (spanS lo hi)))) := Lib.hid fun w1 => ref_Span lo hi w1 hhi
                have HTW : Hid (∀ w1, Calls Tryz.prog 79 #[setV s, setV (spanS lo hi), .int .i64 0] w1 (Ret w1 (setV (s ||| spanS lo hi)))) := Lib.hid fun w1 => by have := ref_Two0 s (spanS lo hi) w1; rwa [twoS_or] at this
                generalize spanS lo hi = sp at *
                have hwl : IntKind.i64.wrap (lo : Int) = (lo : Int) := IntWalk.i64_in _ (by omega)
                have hwh : IntKind.i64.wrap (hi : Int) = (hi : Int) := IntWalk.i64_in _ (by omega)
                refine wp_region_M (R := Later) 7 (by kernel_rfl) ?_
                refine tkM 0 ?_ rfl (fun w1 hl => ?_) ?_
                rotate_left
                · obtain ⟨⟨c0, c1, c2, c3⟩, _⟩ := (HF.out w1 hl).x2.set4; go_simp; try with_reducible rfl
                simp only [eA, eB, Act.put, eD, eE, eF]
                refine tkM 1 ?_ rfl (fun w1 hl => ?_) ?_
                rotate_left
                · obtain ⟨⟨c0, c1, c2, c3⟩, _⟩ := (HF.out w1 hl).x2.set4; go_simp; try with_reducible rfl
                simp only [eA, eB, eC, Act.put, eD, eE, eF]
                refine tkM 2 ?_ rfl (fun w1 hl => ?_) ?_
                rotate_left
                · obtain ⟨⟨c0, c1, c2, c3⟩, _⟩ := (HF.out w1 hl).x2.set4; go_simp; try with_reducible rfl
                simp only [eA, eB, eC, Act.put, eD, eE, eF]
                refine tkM 3 ?_ rfl (fun w1 hl => ?_) ?_
                rotate_left
                · obtain ⟨⟨c0, c1, c2, c3⟩, _⟩ := (HF.out w1 hl).x2.set4; go_simp; try with_reducible rfl
                simp only [eA, eB, eC, Act.put, eD, eE, eF]
                refine tkM 4 ?_ rfl (fun w1 hl => ?_) ?_
                rotate_left
                · obtain ⟨⟨c0, c1, c2, c3⟩, _⟩ := (HF.out w1 hl).x2.set4; go_simp; try with_reducible rfl
                simp only [eA, eB, eC, Act.put, eD, eE, eF]
                refine wpM_call (t := 7) (i := 5) (f := ?_) (args := ?_) (v := ?_) rfl (by kernel_rfl) (by kernel_rfl) (by kernel_rfl) (by kernel_rfl) (fun _ _ _ h => h) (by rfl) (fun w1 => ?_) (fun w1 hl => ?_) ?_
                rotate_left 4
                · exact HSP.out w1
                rotate_left
                · go_simp
                simp only [eA, eB, eC, Act.put, eD, eE, eF]
                refine wpM_call (t := 7) (i := 6) (f := ?_) (args := ?_) (v := ?_) rfl (by kernel_rfl) (by kernel_rfl) (by kernel_rfl) (by kernel_rfl) (fun _ _ _ h => h) (by rfl) (fun w1 => ?_) (fun w1 hl => ?_) ?_
                rotate_left 4
                · exact HTW.out w1
                rotate_left
                · go_simp
                simp only [eA, eB, eC, Act.put, eD, eE, eF]
                refine wpM_one (t := 7) (i := 7) (by kernel_rfl) rfl (fun w1 hl K hK => ?_)
                have hR7 := HF.out w1 hl
                obtain ⟨⟨c0, c1, c2, c3⟩, ⟨f0, f1, f2, f3⟩⟩ := hR7.x2.set4
                go_simp
                refine hK.out _ _ (fun h => absurd rfl h) ?_
                clear hK K
                refine wpM_done (by kernel_rfl) (fun w1 hl => ?_) _
                have hR8 := (hR7.store (s ||| sp)).kept hl
                go_wp2
                go_roundw
                case rel => exact ⟨it + 1, k, s ||| sp, by go_num, by go_num, by omega, by omega, HQ.out, hR8⟩
                case measure => simp [intOf]; omega
      | true =>
        rw [hh] at h93
        have H93 := Lib.hid h93
        have HA := Lib.hid (hQ.fin hit hjl hh)
        have hw1 : IntKind.i64.wrap ((j : Int) + 1) = ((j + 1 : Nat) : Int) := by rw [IntWalk.i64_in _ (by omega)]; omega
        obtain ⟨⟨c0, c1, c2, c3⟩, ⟨f0, f1, f2, f3⟩⟩ := hRB.x2.set4
        obtain ⟨⟨p0, p1, p2, p3⟩, ⟨q0, q1, q2, q3⟩⟩ := hRB.x0.set4
        have r0 := hRB.x1.cell 0
        have r1 := hRB.x1.cell 1
        have s0 := hRB.x1.free 0
        have s1 := hRB.x1.free 1
        clear h93 hQ hrelB h hh
        go_wp2_with fail
        refine (H93.out _ hRB.below).mono ?_
        rintro e w2 ⟨rfl, rfl⟩
        go_wp2
        obtain ⟨hE0, hE1, hE2⟩ := two_ends hRB.x0 hRB.x1 hRB.below (.int .u64 (word s 0 : Nat)) (.int .u64 (word s 1 : Nat)) (.int .u64 (word s 2 : Nat)) (.int .u64 (word s 3 : Nat)) (.int .i64 0) (.int .i64 0)
        exact ret_box_tmp_box Tryz.results49 rfl rfl rfl hE0 hE1 Tryz.underlying43 rfl (by kernel_rfl) Tryz.underlying80 rfl (by kernel_rfl) rfl ⟨by rw [HA.out]; rfl, hE2⟩
end Go.Proofs.YtdhmekpgplajmaaGreatDoor
end
