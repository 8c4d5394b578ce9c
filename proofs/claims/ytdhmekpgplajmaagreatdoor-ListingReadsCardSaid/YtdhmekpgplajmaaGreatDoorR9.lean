/- Joined by tools/merge.py: Place, Place2. -/
import Derived.Test.YtdhmekpgplajmaaGreatDoorR7
import Derived.Test.YtdhmekpgplajmaaGreatDoorR4
import Derived.Test.YtdhmekpgplajmaaGreatDoorR2
section
namespace Go.Proofs.YtdhmekpgplajmaaGreatDoor
open Go.RowKit
/-- Of all blocks only b has changed. -/
def Only (b : Nat) (w w' : World) : Prop := Below b w w' ∧ KeepC (· = b) w w'
theorem Only.refl (b : Nat) (w : World) : Only b w w := ⟨Below.refl _ _, KeepC.refl _ _⟩
theorem Only.trans {b : Nat} {w w1 w2 : World} (h : Only b w w1) (k : Only b w1 w2) : Only b w w2 := ⟨h.1.trans k.1, h.2.trans k.2⟩
theorem Only.below {b : Nat} {w w' : World} (h : Below w.heap.size w w') (hb : b ≤ w.heap.size) : Only b w w' := ⟨h.mono hb, KeepC.below h⟩
theorem Only.box {b g E : Nat} {c : Array Value} {w w' : World} (h : Only b w w') (hb : Box w g c E) (hg : g ≠ b) : Box w' g c E := h.2.box hg hb
theorem Only.slice {α : Type} {b g n cap size : Nat} {enc : α → List Value} {xs : List α} {w w' : World} (h : Only b w w') (hs : SliceR w (.slice (some ⟨g, 0, none⟩) n cap) size enc xs) (hg : g ≠ b) : SliceR w' (.slice (some ⟨g, 0, none⟩) n cap) size enc xs :=
  h.2.slice hs (fun _ ad e => by cases e; exact hg)
theorem Only.set {b : Nat} (w : World) (i : Nat) (v : Value) : Only b w (w.setCell ⟨b, i, none⟩ v) := ⟨Below.setCell (Below.refl b w) (p := ⟨b, i, none⟩) (Nat.le_refl _) v, KeepC.set w _ v rfl⟩
/-- A reader's cells. -/
def rdC (g n cap at' fr k p : Nat) : Array Value := #[.slice (some ⟨g, 0, none⟩) n cap, .int .i64 at', .int .i64 fr, .int .i64 k, .int .i64 p]
/-- A reader, as it lies. -/
structure RdAt (w : World) (b g n cap at' fr k p : Nat) (l : List UInt8) : Prop where
  box : Box w b (rdC g n cap at' fr k p) 131
  sl : SliceR w (.slice (some ⟨g, 0, none⟩) n cap) 1 encU l
  ne : g ≠ b
theorem RdAt.kept {w w' : World} {b g n cap at' fr k p : Nat} {l : List UInt8} (h : RdAt w b g n cap at' fr k p l) (hb : Below w.heap.size w w') : RdAt w' b g n cap at' fr k p l := ⟨h.box.kept hb, h.sl.kept hb, h.ne⟩
theorem RdAt.cells {w : World} {b g n cap at' fr k p : Nat} {l : List UInt8} (h : RdAt w b g n cap at' fr k p l) :
    w.cell? ⟨b, 0, none⟩ = some (.slice (some ⟨g, 0, none⟩) n cap) ∧ w.cell? ⟨b, 1, none⟩ = some (.int .i64 at') ∧ w.cell? ⟨b, 2, none⟩ = some (.int .i64 fr) ∧ w.cell? ⟨b, 3, none⟩ = some (.int .i64 k) ∧ w.cell? ⟨b, 4, none⟩ = some (.int .i64 p) :=
  ⟨h.box.cell 0, h.box.cell 1, h.box.cell 2, h.box.cell 3, h.box.cell 4⟩
/-- Does a byte stand at a place? -/
def hereB (l : List UInt8) (i : Nat) (c : UInt8) : Bool := decide (i < l.length) && (l.getD i 0 == c)
theorem u8_beq (a c : UInt8) : (a == c) = ((a.toNat : Int) == (c.toNat : Int)) := by
  rw [Bool.eq_iff_iff]; simp only [beq_iff_eq]
  exact ⟨fun h => by rw [h], fun h => UInt8.toNat_inj.1 (Int.ofNat_inj.1 h)⟩
set_option maxHeartbeats 400000 in
theorem place_here (b g n cap i fr k p : Nat) (l : List UInt8) (c : UInt8) (w : World) (h : RdAt w b g n cap i fr k p l) :
    Calls Tryz.prog 115 #[.pointer (some ⟨b, 0, none⟩), .int .u8 c.toNat] w (Ret w (.bool (hereB l i c))) := by
  obtain ⟨hlen, hcap, hcap', hcell⟩ := h.sl.cellsA
  have hnb : n ≤ 9223372036854775807 := by omega
  unfold hereB
  rw [← hlen]
  have hi0 : decide (0 ≤ (i : Int)) = true := by simp
  have HF : Hid (∀ v, Later w.drew v → RdAt v b g n cap i fr k p l) := Lib.hid fun v hl => (h.kept (Below.refl _ _).drew).kept hl
  have HC := Lib.hid hcell
  by_cases h1 : i < n
  · have e1 : decide ((i : Int) < (n : Int)) = true := by simp; omega
    have hk : i < l.length := by omega
    have hgd : l.getD i 0 = l[i] := by simp [List.getD_eq_getElem?_getD, hk]
    rw [hgd, u8_beq]
    have c0 := fun v hv => HC.out i hk v hv
    generalize l[i] = x at *
    have HC0 : Hid (∀ v, Later w.drew v → v.cell? ⟨g, i, none⟩ = some (.int .u8 x.toNat)) := Lib.hid fun v hl => by have := c0 v ((Below.refl _ _).drew.trans (Below.mono hl (Nat.le_refl _))); rwa [Nat.zero_add] at this
    have hq : (decide (i < n) && ((x.toNat : Int) == (c.toNat : Int))) = ((x.toNat : Int) == (c.toNat : Int)) := by simp [h1]
    rw [hq]
    have hi2 : (0 : Int) ≤ (i : Int) := by omega
    have hi3 : (i : Int) < (n : Int) := by omega
    clear c0 hgd hq hcell HC hlen hcap h
    have HB : Hid (∀ v, Later w.drew v → Below w.heap.size w v) := Lib.hid fun v hl => (Below.refl _ _).drew.trans (Below.mono hl (Nat.le_refl _))
    go_enter Tryz.func115, Tryz.ntmps115
    go_wp2_with fail
    refine wp_region_M (R := Later) 32 (by kernel_rfl) ?_
    refine tkM 0 ?_ rfl (fun w1 hl => ?_) ?_
    rotate_left
    · obtain ⟨x0, x1, x2, x3, x4⟩ := (HF.out w1 hl).cells; have c0 := HC0.out w1 hl; go_simp; try with_reducible rfl
    simp only [eA, eB, Act.put, eD, eE, eF]
    refine tkM 1 ?_ rfl (fun w1 hl => ?_) ?_
    rotate_left
    · obtain ⟨x0, x1, x2, x3, x4⟩ := (HF.out w1 hl).cells; have c0 := HC0.out w1 hl; go_simp; try with_reducible rfl
    simp only [eA, eB, eC, Act.put, eD, eE, eF]
    refine tkM 2 ?_ rfl (fun w1 hl => ?_) ?_
    rotate_left
    · obtain ⟨x0, x1, x2, x3, x4⟩ := (HF.out w1 hl).cells; have c0 := HC0.out w1 hl; go_simp; try with_reducible rfl
    simp only [eA, eB, eC, Act.put, eD, eE, eF]
    refine tkM 3 ?_ rfl (fun w1 hl => ?_) ?_
    rotate_left
    · obtain ⟨x0, x1, x2, x3, x4⟩ := (HF.out w1 hl).cells; have c0 := HC0.out w1 hl; go_simp; try with_reducible rfl
    simp only [eA, eB, eC, Act.put, eD, eE, eF]
    refine tkM 4 ?_ rfl (fun w1 hl => ?_) ?_
    rotate_left
    · obtain ⟨x0, x1, x2, x3, x4⟩ := (HF.out w1 hl).cells; have c0 := HC0.out w1 hl; go_simp; try with_reducible rfl
    simp only [eA, eB, eC, Act.put, eD, eE, eF]
    refine tkM 5 ?_ rfl (fun w1 hl => ?_) ?_
    rotate_left
    · obtain ⟨x0, x1, x2, x3, x4⟩ := (HF.out w1 hl).cells; have c0 := HC0.out w1 hl; go_simp; try with_reducible rfl
    simp only [eA, eB, eC, Act.put, eD, eE, eF]
    refine tkM 6 ?_ rfl (fun w1 hl => ?_) ?_
    rotate_left
    · obtain ⟨x0, x1, x2, x3, x4⟩ := (HF.out w1 hl).cells; have c0 := HC0.out w1 hl; go_simp; try with_reducible rfl
    simp only [eA, eB, eC, Act.put, eD, eE, eF]
    refine tkM 7 ?_ rfl (fun w1 hl => ?_) ?_
    rotate_left
    · obtain ⟨x0, x1, x2, x3, x4⟩ := (HF.out w1 hl).cells; have c0 := HC0.out w1 hl; go_simp; try with_reducible rfl
    simp only [eA, eB, eC, Act.put, eD, eE, eF]
    refine tkM 8 ?_ rfl (fun w1 hl => ?_) ?_
    rotate_left
    · obtain ⟨x0, x1, x2, x3, x4⟩ := (HF.out w1 hl).cells; have c0 := HC0.out w1 hl; go_simp; try with_reducible rfl
    simp only [eA, eB, eC, Act.put, eD, eE, eF]
    refine tkM 9 ?_ rfl (fun w1 hl => ?_) ?_
    rotate_left
    · obtain ⟨x0, x1, x2, x3, x4⟩ := (HF.out w1 hl).cells; have c0 := HC0.out w1 hl; go_simp; try with_reducible rfl
    simp only [eA, eB, eC, Act.put, eD, eE, eF]
    refine tkM 10 ?_ rfl (fun w1 hl => ?_) ?_
    rotate_left
    · obtain ⟨x0, x1, x2, x3, x4⟩ := (HF.out w1 hl).cells; have c0 := HC0.out w1 hl; go_simp; try with_reducible rfl
    simp only [eA, eB, eC, Act.put, eD, eE, eF]
    refine tkM 11 ?_ rfl (fun w1 hl => ?_) ?_
    rotate_left
    · obtain ⟨x0, x1, x2, x3, x4⟩ := (HF.out w1 hl).cells; have c0 := HC0.out w1 hl; go_simp; try with_reducible rfl
    simp only [eA, eB, eC, Act.put, eD, eE, eF]
    refine tkM 12 ?_ rfl (fun w1 hl => ?_) ?_
    rotate_left
    · obtain ⟨x0, x1, x2, x3, x4⟩ := (HF.out w1 hl).cells; have c0 := HC0.out w1 hl; go_simp; try with_reducible rfl
    simp only [eA, eB, eC, Act.put, eD, eE, eF]
    refine tkM 13 ?_ rfl (fun w1 hl => ?_) ?_
    rotate_left
    · obtain ⟨x0, x1, x2, x3, x4⟩ := (HF.out w1 hl).cells; have c0 := HC0.out w1 hl; go_simp; try with_reducible rfl
    simp only [eA, eB, eC, Act.put, eD, eE, eF]
    refine tkM 14 ?_ rfl (fun w1 hl => ?_) ?_
    rotate_left
    · obtain ⟨x0, x1, x2, x3, x4⟩ := (HF.out w1 hl).cells; have c0 := HC0.out w1 hl; go_simp; try with_reducible rfl
    simp only [eA, eB, eC, Act.put, eD, eE, eF]
    refine tkM 15 ?_ rfl (fun w1 hl => ?_) ?_
    rotate_left
    · obtain ⟨x0, x1, x2, x3, x4⟩ := (HF.out w1 hl).cells; have c0 := HC0.out w1 hl; go_simp; try with_reducible rfl
    simp only [eA, eB, eC, Act.put, eD, eE, eF]
    refine tkM 16 ?_ rfl (fun w1 hl => ?_) ?_
    rotate_left
    · obtain ⟨x0, x1, x2, x3, x4⟩ := (HF.out w1 hl).cells; have c0 := HC0.out w1 hl; go_simp; try with_reducible rfl
    simp only [eA, eB, eC, Act.put, eD, eE, eF]
    refine tkM 17 ?_ rfl (fun w1 hl => ?_) ?_
    rotate_left
    · obtain ⟨x0, x1, x2, x3, x4⟩ := (HF.out w1 hl).cells; have c0 := HC0.out w1 hl; go_simp; try with_reducible rfl
    simp only [eA, eB, eC, Act.put, eD, eE, eF]
    refine tkM 18 ?_ rfl (fun w1 hl => ?_) ?_
    rotate_left
    · obtain ⟨x0, x1, x2, x3, x4⟩ := (HF.out w1 hl).cells; have c0 := HC0.out w1 hl; go_simp; try with_reducible rfl
    simp only [eA, eB, eC, Act.put, eD, eE, eF]
    refine tkM 19 ?_ rfl (fun w1 hl => ?_) ?_
    rotate_left
    · obtain ⟨x0, x1, x2, x3, x4⟩ := (HF.out w1 hl).cells; have c0 := HC0.out w1 hl; go_simp; try with_reducible rfl
    simp only [eA, eB, eC, Act.put, eD, eE, eF]
    refine tkM 20 ?_ rfl (fun w1 hl => ?_) ?_
    rotate_left
    · obtain ⟨x0, x1, x2, x3, x4⟩ := (HF.out w1 hl).cells; have c0 := HC0.out w1 hl; go_simp; try with_reducible rfl
    simp only [eA, eB, eC, Act.put, eD, eE, eF]
    refine tkM 21 ?_ rfl (fun w1 hl => ?_) ?_
    rotate_left
    · obtain ⟨x0, x1, x2, x3, x4⟩ := (HF.out w1 hl).cells; have c0 := HC0.out w1 hl; go_simp; try with_reducible rfl
    simp only [eA, eB, eC, Act.put, eD, eE, eF]
    refine tkM 22 ?_ rfl (fun w1 hl => ?_) ?_
    rotate_left
    · obtain ⟨x0, x1, x2, x3, x4⟩ := (HF.out w1 hl).cells; have c0 := HC0.out w1 hl; go_simp; try with_reducible rfl
    simp only [eA, eB, eC, Act.put, eD, eE, eF]
    refine tkM 23 ?_ rfl (fun w1 hl => ?_) ?_
    rotate_left
    · obtain ⟨x0, x1, x2, x3, x4⟩ := (HF.out w1 hl).cells; have c0 := HC0.out w1 hl; go_simp; try with_reducible rfl
    simp only [eA, eB, eC, Act.put, eD, eE, eF]
    refine tkM 24 ?_ rfl (fun w1 hl => ?_) ?_
    rotate_left
    · obtain ⟨x0, x1, x2, x3, x4⟩ := (HF.out w1 hl).cells; have c0 := HC0.out w1 hl; go_simp; try with_reducible rfl
    simp only [eA, eB, eC, Act.put, eD, eE, eF]
    refine tkM 25 ?_ rfl (fun w1 hl => ?_) ?_
    rotate_left
    · obtain ⟨x0, x1, x2, x3, x4⟩ := (HF.out w1 hl).cells; have c0 := HC0.out w1 hl; go_simp; try with_reducible rfl
    simp only [eA, eB, eC, Act.put, eD, eE, eF]
    refine tkM 26 ?_ rfl (fun w1 hl => ?_) ?_
    rotate_left
    · obtain ⟨x0, x1, x2, x3, x4⟩ := (HF.out w1 hl).cells; have c0 := HC0.out w1 hl; go_simp; try with_reducible rfl
    simp only [eA, eB, eC, Act.put, eD, eE, eF]
    refine tkM 27 ?_ rfl (fun w1 hl => ?_) ?_
    rotate_left
    · obtain ⟨x0, x1, x2, x3, x4⟩ := (HF.out w1 hl).cells; have c0 := HC0.out w1 hl; go_simp; try with_reducible rfl
    simp only [eA, eB, eC, Act.put, eD, eE, eF]
    refine tkM 28 ?_ rfl (fun w1 hl => ?_) ?_
    rotate_left
    · obtain ⟨x0, x1, x2, x3, x4⟩ := (HF.out w1 hl).cells; have c0 := HC0.out w1 hl; go_simp; try with_reducible rfl
    simp only [eA, eB, eC, Act.put, eD, eE, eF]
    refine tkM 29 ?_ rfl (fun w1 hl => ?_) ?_
    rotate_left
    · obtain ⟨x0, x1, x2, x3, x4⟩ := (HF.out w1 hl).cells; have c0 := HC0.out w1 hl; go_simp; try with_reducible rfl
    simp only [eA, eB, eC, Act.put, eD, eE, eF]
    refine tkM 30 ?_ rfl (fun w1 hl => ?_) ?_
    rotate_left
    · obtain ⟨x0, x1, x2, x3, x4⟩ := (HF.out w1 hl).cells; have c0 := HC0.out w1 hl; go_simp; try with_reducible rfl
    simp only [eA, eB, eC, Act.put, eD, eE, eF]
    refine tkM 31 ?_ rfl (fun w1 hl => ?_) ?_
    rotate_left
    · obtain ⟨x0, x1, x2, x3, x4⟩ := (HF.out w1 hl).cells; have c0 := HC0.out w1 hl; go_simp; try with_reducible rfl
    simp only [eA, eB, eC, Act.put, eD, eE, eF]
    refine wpM_done (by kernel_rfl) (fun w1 hl => ?_) _
    go_wp2
    go_ret
    exact ⟨rfl, (HB.out _ hl)⟩
  · have e1 : decide ((i : Int) < (n : Int)) = false := by simp; omega
    have hq : (decide (i < n) && (l.getD i 0 == c)) = false := by simp; omega
    rw [hq]
    clear hq hcell HC hlen hcap h
    have HB : Hid (∀ v, Later w.drew v → Below w.heap.size w v) := Lib.hid fun v hl => (Below.refl _ _).drew.trans (Below.mono hl (Nat.le_refl _))
    go_enter Tryz.func115, Tryz.ntmps115
    go_wp2_with fail
    refine wp_region_M (R := Later) 32 (by kernel_rfl) ?_
    refine tkM 0 ?_ rfl (fun w1 hl => ?_) ?_
    rotate_left
    · obtain ⟨x0, x1, x2, x3, x4⟩ := (HF.out w1 hl).cells; go_simp; try with_reducible rfl
    simp only [eA, eB, Act.put, eD, eE, eF]
    refine tkM 1 ?_ rfl (fun w1 hl => ?_) ?_
    rotate_left
    · obtain ⟨x0, x1, x2, x3, x4⟩ := (HF.out w1 hl).cells; go_simp; try with_reducible rfl
    simp only [eA, eB, eC, Act.put, eD, eE, eF]
    refine tkM 2 ?_ rfl (fun w1 hl => ?_) ?_
    rotate_left
    · obtain ⟨x0, x1, x2, x3, x4⟩ := (HF.out w1 hl).cells; go_simp; try with_reducible rfl
    simp only [eA, eB, eC, Act.put, eD, eE, eF]
    refine tkM 3 ?_ rfl (fun w1 hl => ?_) ?_
    rotate_left
    · obtain ⟨x0, x1, x2, x3, x4⟩ := (HF.out w1 hl).cells; go_simp; try with_reducible rfl
    simp only [eA, eB, eC, Act.put, eD, eE, eF]
    refine tkM 4 ?_ rfl (fun w1 hl => ?_) ?_
    rotate_left
    · obtain ⟨x0, x1, x2, x3, x4⟩ := (HF.out w1 hl).cells; go_simp; try with_reducible rfl
    simp only [eA, eB, eC, Act.put, eD, eE, eF]
    refine tkM 5 ?_ rfl (fun w1 hl => ?_) ?_
    rotate_left
    · obtain ⟨x0, x1, x2, x3, x4⟩ := (HF.out w1 hl).cells; go_simp; try with_reducible rfl
    simp only [eA, eB, eC, Act.put, eD, eE, eF]
    refine tkM 6 ?_ rfl (fun w1 hl => ?_) ?_
    rotate_left
    · obtain ⟨x0, x1, x2, x3, x4⟩ := (HF.out w1 hl).cells; go_simp; try with_reducible rfl
    simp only [eA, eB, eC, Act.put, eD, eE, eF]
    refine tkM 7 ?_ rfl (fun w1 hl => ?_) ?_
    rotate_left
    · obtain ⟨x0, x1, x2, x3, x4⟩ := (HF.out w1 hl).cells; go_simp; try with_reducible rfl
    simp only [eA, eB, eC, Act.put, eD, eE, eF]
    refine tkM 8 ?_ rfl (fun w1 hl => ?_) ?_
    rotate_left
    · obtain ⟨x0, x1, x2, x3, x4⟩ := (HF.out w1 hl).cells; go_simp; try with_reducible rfl
    simp only [eA, eB, eC, Act.put, eD, eE, eF]
    refine tkM 9 ?_ rfl (fun w1 hl => ?_) ?_
    rotate_left
    · obtain ⟨x0, x1, x2, x3, x4⟩ := (HF.out w1 hl).cells; go_simp; try with_reducible rfl
    simp only [eA, eB, eC, Act.put, eD, eE, eF]
    refine tkM 10 ?_ rfl (fun w1 hl => ?_) ?_
    rotate_left
    · obtain ⟨x0, x1, x2, x3, x4⟩ := (HF.out w1 hl).cells; go_simp; try with_reducible rfl
    simp only [eA, eB, eC, Act.put, eD, eE, eF]
    refine tkM 11 ?_ rfl (fun w1 hl => ?_) ?_
    rotate_left
    · obtain ⟨x0, x1, x2, x3, x4⟩ := (HF.out w1 hl).cells; go_simp; try with_reducible rfl
    simp only [eA, eB, eC, Act.put, eD, eE, eF]
    refine tkM 12 ?_ rfl (fun w1 hl => ?_) ?_
    rotate_left
    · obtain ⟨x0, x1, x2, x3, x4⟩ := (HF.out w1 hl).cells; go_simp; try with_reducible rfl
    simp only [eA, eB, eC, Act.put, eD, eE, eF]
    refine tkM 13 ?_ rfl (fun w1 hl => ?_) ?_
    rotate_left
    · obtain ⟨x0, x1, x2, x3, x4⟩ := (HF.out w1 hl).cells; go_simp; try with_reducible rfl
    simp only [eA, eB, eC, Act.put, eD, eE, eF]
    refine tkM 14 ?_ rfl (fun w1 hl => ?_) ?_
    rotate_left
    · obtain ⟨x0, x1, x2, x3, x4⟩ := (HF.out w1 hl).cells; go_simp; try with_reducible rfl
    simp only [eA, eB, eC, Act.put, eD, eE, eF]
    refine tkM 15 ?_ rfl (fun w1 hl => ?_) ?_
    rotate_left
    · obtain ⟨x0, x1, x2, x3, x4⟩ := (HF.out w1 hl).cells; go_simp; try with_reducible rfl
    simp only [eA, eB, eC, Act.put, eD, eE, eF]
    refine tkM 16 ?_ rfl (fun w1 hl => ?_) ?_
    rotate_left
    · obtain ⟨x0, x1, x2, x3, x4⟩ := (HF.out w1 hl).cells; go_simp; try with_reducible rfl
    simp only [eA, eB, eC, Act.put, eD, eE, eF]
    refine tkM 17 ?_ rfl (fun w1 hl => ?_) ?_
    rotate_left
    · obtain ⟨x0, x1, x2, x3, x4⟩ := (HF.out w1 hl).cells; go_simp; try with_reducible rfl
    simp only [eA, eB, eC, Act.put, eD, eE, eF]
    refine skM 18 rfl ?_
    simp only [eA, eB, eC, Act.put, eD, eE, eF]
    refine skM 19 rfl ?_
    simp only [eA, eB, eC, Act.put, eD, eE, eF]
    refine skM 20 rfl ?_
    simp only [eA, eB, eC, Act.put, eD, eE, eF]
    refine skM 21 rfl ?_
    simp only [eA, eB, eC, Act.put, eD, eE, eF]
    refine skM 22 rfl ?_
    simp only [eA, eB, eC, Act.put, eD, eE, eF]
    refine skM 23 rfl ?_
    simp only [eA, eB, eC, Act.put, eD, eE, eF]
    refine skM 24 rfl ?_
    simp only [eA, eB, eC, Act.put, eD, eE, eF]
    refine skM 25 rfl ?_
    simp only [eA, eB, eC, Act.put, eD, eE, eF]
    refine skM 26 rfl ?_
    simp only [eA, eB, eC, Act.put, eD, eE, eF]
    refine skM 27 rfl ?_
    simp only [eA, eB, eC, Act.put, eD, eE, eF]
    refine skM 28 rfl ?_
    simp only [eA, eB, eC, Act.put, eD, eE, eF]
    refine skM 29 rfl ?_
    simp only [eA, eB, eC, Act.put, eD, eE, eF]
    refine tkM 30 ?_ rfl (fun w1 hl => ?_) ?_
    rotate_left
    · obtain ⟨x0, x1, x2, x3, x4⟩ := (HF.out w1 hl).cells; go_simp; try with_reducible rfl
    simp only [eA, eB, eC, Act.put, eD, eE, eF]
    refine tkM 31 ?_ rfl (fun w1 hl => ?_) ?_
    rotate_left
    · obtain ⟨x0, x1, x2, x3, x4⟩ := (HF.out w1 hl).cells; go_simp; try with_reducible rfl
    simp only [eA, eB, eC, Act.put, eD, eE, eF]
    refine wpM_done (by kernel_rfl) (fun w1 hl => ?_) _
    go_wp2
    go_ret
    exact ⟨rfl, (HB.out _ hl)⟩
end Go.Proofs.YtdhmekpgplajmaaGreatDoor
end
section
namespace Go.Proofs.YtdhmekpgplajmaaGreatDoor
open Go.RowKit
/-- What a method leaves: a value, and the reader, otherwise as it lay. -/
def RetRd (b g n cap : Nat) (fr : Nat) (l : List UInt8) (w : World) (v : Value) (i k p : Nat) (e : Ending) (w' : World) : Prop := e = .returned v ∧ RdAt w' b g n cap i fr k p l ∧ Only b w w'
theorem RdAt.set {w : World} {b g n cap i fr k p : Nat} {l : List UInt8} (h : RdAt w b g n cap i fr k p l) (j : Nat) : RdAt (w.setCell ⟨b, 1, none⟩ (.int .i64 (j : Nat))) b g n cap j fr k p l :=
  ⟨h.box.set 1 _, (Only.set w 1 _).slice h.sl h.ne, h.ne⟩
theorem RdAt.fault {w : World} {b g n cap i fr k p : Nat} {l : List UInt8} (h : RdAt w b g n cap i fr k p l) (k' p' : Nat) : RdAt ((w.setCell ⟨b, 3, none⟩ (.int .i64 (k' : Nat))).setCell ⟨b, 4, none⟩ (.int .i64 (p' : Nat))) b g n cap i fr k' p' l :=
  ⟨(h.box.set 3 _).set 4 _, (Only.set _ 4 _).slice ((Only.set w 3 _).slice h.sl h.ne) h.ne, h.ne⟩
theorem place_left (b g n cap i fr k p : Nat) (l : List UInt8) (w : World) (h : RdAt w b g n cap i fr k p l) (hi : i ≤ n) :
    Calls Tryz.prog 125 #[.pointer (some ⟨b, 0, none⟩)] w (Ret w (.int .i64 ((n - i : Nat) : Int))) := by
  obtain ⟨hlen, hcap, hcap', _⟩ := h.sl.cellsA
  have hnb : n ≤ 9223372036854775807 := by omega
  have hw : IntKind.i64.wrap ((n : Int) - (i : Int)) = ((n - i : Nat) : Int) := by rw [IntWalk.i64_in _ (by omega)]; omega
  have HF : Hid (∀ v, Later w.drew v → RdAt v b g n cap i fr k p l) := Lib.hid fun v hl => (h.kept (Below.refl _ _).drew).kept hl
  have HB : Hid (∀ v, Later w.drew v → Below w.heap.size w v) := Lib.hid fun v hl => (Below.refl _ _).drew.trans (Below.mono hl (Nat.le_refl _))
  clear h hlen hcap
  go_enter Tryz.func125, Tryz.ntmps125
  go_wp2_with fail
  refine wp_region_M (R := Later) 11 (by kernel_rfl) ?_
  refine tkM 0 ?_ rfl (fun w1 hl => ?_) ?_
  rotate_left
  · obtain ⟨x0, x1, x2, x3, x4⟩ := (HF.out w1 hl).cells; go_simp; try with_reducible rfl
  simp only [eA, eB, Act.put, eD, eE, eF]
  refine tkM 1 ?_ rfl (fun w1 hl => ?_) ?_
  rotate_left
  · obtain ⟨x0, x1, x2, x3, x4⟩ := (HF.out w1 hl).cells; go_simp; try with_reducible rfl
  simp only [eA, eB, eC, Act.put, eD, eE, eF]
  refine tkM 2 ?_ rfl (fun w1 hl => ?_) ?_
  rotate_left
  · obtain ⟨x0, x1, x2, x3, x4⟩ := (HF.out w1 hl).cells; go_simp; try with_reducible rfl
  simp only [eA, eB, eC, Act.put, eD, eE, eF]
  refine tkM 3 ?_ rfl (fun w1 hl => ?_) ?_
  rotate_left
  · obtain ⟨x0, x1, x2, x3, x4⟩ := (HF.out w1 hl).cells; go_simp; try with_reducible rfl
  simp only [eA, eB, eC, Act.put, eD, eE, eF]
  refine tkM 4 ?_ rfl (fun w1 hl => ?_) ?_
  rotate_left
  · obtain ⟨x0, x1, x2, x3, x4⟩ := (HF.out w1 hl).cells; go_simp; try with_reducible rfl
  simp only [eA, eB, eC, Act.put, eD, eE, eF]
  refine tkM 5 ?_ rfl (fun w1 hl => ?_) ?_
  rotate_left
  · obtain ⟨x0, x1, x2, x3, x4⟩ := (HF.out w1 hl).cells; go_simp; try with_reducible rfl
  simp only [eA, eB, eC, Act.put, eD, eE, eF]
  refine tkM 6 ?_ rfl (fun w1 hl => ?_) ?_
  rotate_left
  · obtain ⟨x0, x1, x2, x3, x4⟩ := (HF.out w1 hl).cells; go_simp; try with_reducible rfl
  simp only [eA, eB, eC, Act.put, eD, eE, eF]
  refine tkM 7 ?_ rfl (fun w1 hl => ?_) ?_
  rotate_left
  · obtain ⟨x0, x1, x2, x3, x4⟩ := (HF.out w1 hl).cells; go_simp; try with_reducible rfl
  simp only [eA, eB, eC, Act.put, eD, eE, eF]
  refine tkM 8 ?_ rfl (fun w1 hl => ?_) ?_
  rotate_left
  · obtain ⟨x0, x1, x2, x3, x4⟩ := (HF.out w1 hl).cells; go_simp; try with_reducible rfl
  simp only [eA, eB, eC, Act.put, eD, eE, eF]
  refine tkM 9 ?_ rfl (fun w1 hl => ?_) ?_
  rotate_left
  · obtain ⟨x0, x1, x2, x3, x4⟩ := (HF.out w1 hl).cells; go_simp; try with_reducible rfl
  simp only [eA, eB, eC, Act.put, eD, eE, eF]
  refine tkM 10 ?_ rfl (fun w1 hl => ?_) ?_
  rotate_left
  · obtain ⟨x0, x1, x2, x3, x4⟩ := (HF.out w1 hl).cells; go_simp; try with_reducible rfl
  simp only [eA, eB, eC, Act.put, eD, eE, eF]
  refine wpM_done (by kernel_rfl) (fun w1 hl => ?_) _
  go_wp2
  go_ret
  exact ⟨rfl, HB.out _ hl⟩
theorem place_take (b g n cap i fr k p : Nat) (l : List UInt8) (c : UInt8) (w : World) (h : RdAt w b g n cap i fr k p l) :
    Calls Tryz.prog 99 #[.pointer (some ⟨b, 0, none⟩), .int .u8 c.toNat] w (RetRd b g n cap fr l w (.bool (hereB l i c)) (if hereB l i c then i + 1 else i) k p) := by
  obtain ⟨hlen, hcap, hcap', _⟩ := h.sl.cellsA
  have hhe := fun w1 (hb : Below w.heap.size w w1) => place_here b g n cap i fr k p l c w1 (h.kept hb)
  have HH := Lib.hid hhe
  clear hhe
  cases hb : hereB l i c with
  | false =>
    rw [hb] at HH
    clear hcap hlen
    have HR := Lib.hid h
    clear h hb
    go_enter Tryz.func99, Tryz.ntmps99
    go_wp2_with (go_at_call 115; go_must (refine (HH.out _ (Below.refl _ _)).mono ?_; rintro e w3 ⟨rfl, hB3⟩))
    go_ret
    exact ⟨rfl, HR.out.kept hB3, Only.below hB3 (Nat.le_of_lt HR.out.box.lt)⟩
  | true =>
    rw [hb] at HH
    have hin : i < l.length := by unfold hereB at hb; simp only [Bool.and_eq_true, decide_eq_true_eq] at hb; exact hb.1
    have hw : IntKind.i64.wrap ((i : Int) + 1) = ((i + 1 : Nat) : Int) := by rw [IntWalk.i64_in _ (by omega)]; omega
    clear hcap hlen hb
    have HR := Lib.hid h
    clear h
    go_enter Tryz.func99, Tryz.ntmps99
    go_wp2_with (go_at_call 115; go_must (refine (HH.out _ (Below.refl _ _)).mono ?_; rintro e w3 ⟨rfl, hB3⟩; have hR3 := HR.out.kept hB3; obtain ⟨x0, x1, x2, x3, x4⟩ := hR3.cells; have hf := hR3.box.free 1))
    go_ret
    exact ⟨rfl, hR3.set (i + 1), (Only.below hB3 (Nat.le_of_lt HR.out.box.lt)).trans (Only.set _ _ _)⟩
theorem reader_fail (b g n cap i fr k p : Nat) (l : List UInt8) (kind pos : Nat) (w : World) (h : RdAt w b g n cap i fr k p l) :
    Calls Tryz.prog 117 #[.pointer (some ⟨b, 0, none⟩), .int .i64 kind, .int .i64 pos] w (RetRd b g n cap fr l w (.tuple #[]) i (if k = 0 then kind else k) (if k = 0 then pos else p)) := by
  obtain ⟨x0, x1, x2, x3, x4⟩ := h.cells
  have f3 := h.box.free 3
  have f4 := h.box.free 4
  by_cases hk : k = 0
  · subst hk
    rw [if_pos rfl, if_pos rfl]
    have HR := Lib.hid h
    clear h
    go_enter Tryz.func117, Tryz.ntmps117
    go_wp2
    go_end0
    exact ⟨rfl, HR.out.fault kind pos, (Only.set _ _ _).trans (Only.set _ _ _)⟩
  · rw [if_neg hk, if_neg hk]
    have e1 : ((k : Int) == 0) = false := by simp; omega
    have e2 : (k == 0) = false := by simp; omega
    have HR := Lib.hid h
    clear h
    go_enter Tryz.func117, Tryz.ntmps117
    go_wp2
    go_end0
    exact ⟨rfl, HR.out, Only.refl _ _⟩
end Go.Proofs.YtdhmekpgplajmaaGreatDoor
end
