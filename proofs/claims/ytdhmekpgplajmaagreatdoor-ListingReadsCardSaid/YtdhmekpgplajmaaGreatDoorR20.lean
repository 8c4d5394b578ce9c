/- Joined by tools/merge.py: Ref36Row, OpenD, Pieces, Reader, RClass. -/
import Derived.Test.YtdhmekpgplajmaaGreatDoorR19
import Derived.Test.YtdhmekpgplajmaaGreatDoorR17
import Derived.Test.YtdhmekpgplajmaaGreatDoorR3
import Derived.Test.YtdhmekpgplajmaaGreatDoorShelf
import Derived.Test.YtdhmekpgplajmaaGreatDoorR5
import Derived.Test.YtdhmekpgplajmaaGreatDoorR7
import Derived.Test.YtdhmekpgplajmaaGreatDoorR13
import Derived.Test.YtdhmekpgplajmaaGreatDoorR18
import Derived.Test.YtdhmekpgplajmaaGreatDoorR2
import Derived.Test.YtdhmekpgplajmaaGreatDoorR19x
section
namespace Go.Proofs.YtdhmekpgplajmaaGreatDoor
open Go.RowKit
/-- A state's line, up to so many of its next states. -/
def accT (s : Nat) (lab : Int) (row : List Int) (k : Nat) : List UInt8 := [115, 116, 97, 116, 101, 32] ++ showI s ++ [32] ++ showI lab ++ (row.take k).flatMap fun t => 32 :: showI t
theorem accT_succ (s : Nat) (lab : Int) (row : List Int) (k : Nat) (h : k < row.length) : accT s lab row (k + 1) = accT s lab row k ++ [32] ++ showI row[k] := by
  unfold accT
  rw [List.take_succ_eq_append_getElem h, List.flatMap_append]
  simp
theorem accT_all (D : PDfa) (s : Nat) : accT s (D.label.getD s 0) (D.next.getD s []) (D.next.getD s []).length = rowT D s := by
  unfold accT rowT rowWords
  rw [List.take_length, Lib.join_cons]
  unfold Lib.joinTail
  simp [List.flatMap, List.map_map, Function.comp_def]
theorem accT_length (s : Nat) (lab : Int) (row : List Int) (hs : (s : Int) ≤ 65536) (hl : lab ≤ 65536) (hr : ∀ t ∈ row, t ≤ 65536) (k : Nat) (hk : k ≤ 256) : (accT s lab row k).length ≤ 6000 := by
  have h1 := showI_length (s : Int) (by omega)
  have h2 := showI_length lab (by omega)
  have h3 : ∀ l : List Int, (∀ t ∈ l, t ≤ 65536) → (l.flatMap fun t => 32 :: showI t).length ≤ l.length * 20
    | [], _ => by simp
    | t :: l, h => by
      have ht := showI_length t (by have := h t (by simp); omega)
      have ih : (l.flatMap fun t => 32 :: showI t).length ≤ l.length * 20 := by
        clear ht
        have hl : ∀ t ∈ l, t ≤ 65536 := fun x hx => h x (by simp [hx])
        clear h
        induction l with
        | nil => simp
        | cons t l ih =>
          have ht := showI_length t (by have := hl t (by simp); omega)
          have := ih (fun x hx => hl x (by simp [hx]))
          rw [List.flatMap_cons, List.length_append, List.length_cons, List.length_cons]; omega
      rw [List.flatMap_cons, List.length_append, List.length_cons, List.length_cons]; omega
  have h4 := h3 (row.take k) (fun t ht => hr t (List.mem_of_mem_take ht))
  have h5 : (row.take k).length ≤ k := List.length_take_le _ _
  unfold accT
  simp only [List.length_append, List.length_cons, List.length_nil]
  omega
set_option maxRecDepth 20000 in
set_option maxHeartbeats 1600000 in
theorem ref36_Row (V : VDfa) (D : PDfa) (s : Int) (w : World) (h : ReadsD w V D) (hof : ∀ b, V.of b < 256) (hl : ∀ x ∈ D.names, x.length ≤ 9223372036854775807) : Calls Tryz.prog 14 #[.agg V.cells, .int .i64 s] w (Ret w (sv (rowI D s))) := by
  have hRt := fun w1 (hb : Below w.heap.size w w1) => ref20_Right V D w1 (h.kept hb) hof hl
  have hbx := Box.new w V.cells 28
  have hB0 := later_alloc w (.cells V.cells 28)
  obtain ⟨hln, _, _⟩ := h.lens
  have hlb : V.ln ≤ 9223372036854775807 := by obtain ⟨_, _, _, c3, c3', _⟩ := h.2.2.1.cells1; omega
  unfold rowI
  rw [← hln]
  by_cases hR : rightD D = true
  · rw [hR] at hRt
    by_cases h1 : s < 0
    · have e1 : decide (s < 0) = true := by simp [h1]
      rw [if_neg (by omega)]
      have HRt := Lib.hid hRt
      clear hRt h hR hl hln h1 hof
      go_enter Tryz.func14, Tryz.ntmps14
      go_wp2_with (first | (refine wpList_load_row rfl 28 (.tmp 2) rfl w.heap.size rfl _ _ _ _ hbx Tryz.underlying28 rfl (size_dfa _) ?_) | (go_at_call 9; go_must (refine (HRt.out _ hB0).mono ?_; rintro e w2 ⟨rfl, hB2⟩; have hbx2 := hbx.kept hB2; obtain ⟨x0, x1, x2, x3⟩ := hbx2.dfa)))
      go_ret
      exact ⟨rfl, hB0.trans (hB2.mono (by simp))⟩
    · have e1 : decide (s < 0) = false := by simp; omega
      obtain ⟨k, rfl⟩ : ∃ k : Nat, s = k := ⟨s.toNat, by omega⟩
      by_cases h2 : k < V.ln
      · have e2 : decide ((V.ln : Int) ≤ (k : Int)) = false := by simp; omega
        have e2' : decide (V.ln ≤ k) = false := by simp; omega
        obtain ⟨f1, f2, f3, f4, f5, f6, f7⟩ := rightD_facts hR
        rw [if_pos ⟨hR, by omega, by omega⟩, Int.toNat_natCast]
        have hk1 : k < D.next.length := by omega
        have hk2 : k < D.label.length := by omega
        obtain ⟨g1, g2, g3, g4⟩ := f7 k hk1 hk2
        obtain ⟨b3, o3, b5, o5, ra, rc, l3, l5, hc⟩ := h.row k hk1 hk2
        have hall := accT_all D k
        rw [List.getD_eq_getElem?_getD, List.getElem?_eq_getElem hk2, List.getD_eq_getElem?_getD, List.getElem?_eq_getElem hk1, Option.getD_some, Option.getD_some] at hall
        rw [← hall]
        have hw := h.2.1
        rw [← hw] at g1
        obtain ⟨hc0, hc1, hc2⟩ := hc w (Below.refl _ _)
        obtain ⟨b6, o6, _, _, _, a6, k6⟩ := hc2.cells1
        have hsh1 := fun w => ref01_Show (k : Int) w (by omega)
        have hsh2 := fun w => ref01_Show D.label[k] w (by omega)
        have hsh3 := fun t (ht : t ∈ D.next[k]) w => ref01_Show t w (by have := g4 t ht; omega)
        have hac := accT_succ k D.label[k] D.next[k]
        have hal := accT_length k D.label[k] D.next[k] (by omega) (by omega) (fun t ht => by have := g4 t ht; omega)
        have ha0 : [115, 116, 97, 116, 101, 32] ++ showI (k : Int) ++ [32] ++ showI D.label[k] = accT k D.label[k] D.next[k] 0 := by unfold accT; simp
        have hs1 := showI_length (k : Int) (by omega)
        have hs2 := showI_length D.label[k] (by omega)
        have hs3 := fun t (ht : t ∈ D.next[k]) => showI_length t (by have := g4 t ht; omega)
        have hle : D.next[k].length ≤ 256 := by omega
        have hc' := fun w' hb => (hc w' hb).1
        have hc'' := fun w' hb => (hc w' hb).2.1
        clear hc hc0 hc1 hc2
        generalize D.label[k] = lab at *
        generalize D.next[k] = row at *
        obtain ⟨r, hr⟩ : ∃ r, row.length = r := ⟨_, rfl⟩
        rw [hr] at hc'' hle ⊢ g1
        generalize accT k lab row = acc at *
        have H1 := Lib.hid hsh1
        have H2 := Lib.hid hsh2
        have H3 := Lib.hid hsh3
        have HAC := Lib.hid hac
        have HAL := Lib.hid hal
        have HA0 := Lib.hid ha0
        have HS3 := Lib.hid hs3
        have HR := Lib.hid hr
        have HC := Lib.hid hc'
        have HD := Lib.hid hc''
        have HA6 := Lib.hid a6
        have HK6 := Lib.hid k6
        have HRt := Lib.hid hRt
        have hk0 : (0 : Int) ≤ (k : Int) := by omega
        have hkn : (k : Int) < (V.ln : Int) := by omega
        have hkn2 : (k : Int) < (V.nn : Int) := by have := h.lens.2.2; omega
        obtain ⟨of, wd, na, nn, nc, la, n, lc, ma, mn, mc⟩ := V
        dsimp only at l3 l5 g1
        subst l3
        subst l5
        subst g1
        generalize showI (k : Int) = t1 at *
        generalize showI lab = t2 at *
        clear hRt h hR hl hln h1 hof hsh1 hsh2 hsh3 hac hal ha0 hs3 hr hc' hc'' a6 k6 g2 g3 g4 f1 f2 f3 f4 f5 f6 f7 hall h2 hk1 hk2 hw
        have hsap := sv_append
        have n1 : ¬ 9223372036854775807 < 6 + t1.length := by omega
        have n2 : ¬ 9223372036854775807 < t1.length + 1 + 1 + 1 + 1 + 1 + 1 + 1 := by omega
        have n3 : ¬ 9223372036854775807 < t1.length + 1 + 1 + 1 + 1 + 1 + 1 + 1 + t2.length := by omega
        go_enter Tryz.func14, Tryz.ntmps14
        go_wp2_with (first | (refine wpList_load_row rfl 28 (.tmp 2) rfl w.heap.size rfl _ _ _ _ hbx Tryz.underlying28 rfl (size_dfa _) ?_) | (go_at_call 9; go_must (refine (HRt.out _ hB0).mono ?_; rintro e w2 ⟨rfl, hB2⟩; have hbx2 := hbx.kept hB2; have hB3 := hB0.trans (hB2.mono (by simp)); obtain ⟨x0, x1, x2, x3⟩ := hbx2.dfa)))
        have HF : Hid (∀ v, Later w2.drew v → Box v w.heap.size (VDfa.cells ⟨of, (r : Int), some ⟨b5, o5, none⟩, nn, nc, some ⟨b3, o3, none⟩, n, lc, ma, mn, mc⟩) 28 ∧ v.cell? ⟨b3, o3 + k, none⟩ = some (.int .i64 lab) ∧ Below w.heap.size w v) := Lib.hid fun v hl =>
          ⟨hbx2.drew.kept hl, HC.out _ (hB3.drew.trans (Below.mono hl hB3.size)), hB3.drew.trans (Below.mono hl hB3.size)⟩
        clear hbx2 hB2 hB3 hbx hB0 x0 x1 x2 x3
        refine wp_region_M (R := Later) 12 (by kernel_rfl) ?_
        refine tkM 0 ?_ rfl (fun w1 hl => ?_) ?_
        rotate_left
        · obtain ⟨hbx, c3, _⟩ := HF.out w1 hl; obtain ⟨x0, x1, x2, x3⟩ := hbx.dfa; go_simp; try with_reducible rfl
        simp only [eA, eB, Act.put, eD, eE, eF]
        refine tkM 4 ?_ rfl (fun w1 hl => ?_) ?_
        rotate_left
        · obtain ⟨hbx, c3, _⟩ := HF.out w1 hl; obtain ⟨x0, x1, x2, x3⟩ := hbx.dfa; go_simp; try with_reducible rfl
        simp only [eA, eB, eC, Act.put, eD, eE, eF]
        refine tkM 5 ?_ rfl (fun w1 hl => ?_) ?_
        rotate_left
        · obtain ⟨hbx, c3, _⟩ := HF.out w1 hl; obtain ⟨x0, x1, x2, x3⟩ := hbx.dfa; go_simp; try with_reducible rfl
        simp only [eA, eB, eC, Act.put, eD, eE, eF]
        refine tkM 6 ?_ rfl (fun w1 hl => ?_) ?_
        rotate_left
        · obtain ⟨hbx, c3, _⟩ := HF.out w1 hl; obtain ⟨x0, x1, x2, x3⟩ := hbx.dfa; go_simp; try with_reducible rfl
        simp only [eA, eB, eC, Act.put, eD, eE, eF]
        refine tkM 7 ?_ rfl (fun w1 hl => ?_) ?_
        rotate_left
        · obtain ⟨hbx, c3, _⟩ := HF.out w1 hl; obtain ⟨x0, x1, x2, x3⟩ := hbx.dfa; go_simp; try with_reducible rfl
        simp only [eA, eB, eC, Act.put, eD, eE, eF]
        refine tkM 8 ?_ rfl (fun w1 hl => ?_) ?_
        rotate_left
        · obtain ⟨hbx, c3, _⟩ := HF.out w1 hl; obtain ⟨x0, x1, x2, x3⟩ := hbx.dfa; go_simp; try with_reducible rfl
        simp only [eA, eB, eC, Act.put, eD, eE, eF]
        refine wpM_call (t := 12) (i := 1) (f := ?_) (args := ?_) (v := ?_) rfl (by kernel_rfl) (by kernel_rfl) (by kernel_rfl) (by kernel_rfl) (fun _ _ _ h => h) (by rfl) (fun w1 => ?_) (fun w1 hl => ?_) ?_
        rotate_left 4
        · exact H1.out w1
        rotate_left
        · go_simp
        simp only [eA, eB, eC, Act.put, eD, eE, eF]
        refine tkM 2 ?_ rfl (fun w1 hl => ?_) ?_
        rotate_left
        · obtain ⟨hbx, c3, _⟩ := HF.out w1 hl; obtain ⟨x0, x1, x2, x3⟩ := hbx.dfa; go_simp; try with_reducible rfl
        simp only [eA, eB, eC, Act.put, eD, eE, eF]
        refine tkM 3 ?_ rfl (fun w1 hl => ?_) ?_
        rotate_left
        · obtain ⟨hbx, c3, _⟩ := HF.out w1 hl; obtain ⟨x0, x1, x2, x3⟩ := hbx.dfa; go_simp; try with_reducible rfl
        simp only [eA, eB, eC, Act.put, eD, eE, eF]
        refine wpM_call (t := 12) (i := 9) (f := ?_) (args := ?_) (v := ?_) rfl (by kernel_rfl) (by kernel_rfl) (by kernel_rfl) (by kernel_rfl) (fun _ _ _ h => h) (by rfl) (fun w1 => ?_) (fun w1 hl => ?_) ?_
        rotate_left 4
        · exact H2.out w1
        rotate_left
        · go_simp
        simp only [eA, eB, eC, Act.put, eD, eE, eF]
        refine tkM 10 ?_ rfl (fun w1 hl => ?_) ?_
        rotate_left
        · obtain ⟨hbx, c3, _⟩ := HF.out w1 hl; obtain ⟨x0, x1, x2, x3⟩ := hbx.dfa; go_simp; try with_reducible rfl
        simp only [eA, eB, eC, Act.put, eD, eE, eF]
        refine tkM 11 ?_ rfl (fun w1 hl => ?_) ?_
        rotate_left
        · obtain ⟨hbx, c3, _⟩ := HF.out w1 hl; obtain ⟨x0, x1, x2, x3⟩ := hbx.dfa; go_simp; try with_reducible rfl
        simp only [eA, eB, eC, Act.put, eD, eE, eF]
        refine wpM_done (by kernel_rfl) (fun w1 hl => ?_) _
        obtain ⟨hbx, _, hB⟩ := HF.out w1 hl
        clear hl
        obtain ⟨x0, x1, x2, x3⟩ := hbx.dfa
        go_wp2
        go_loopw [5, 6] (fun v i wr => ∃ q : Nat, q ≤ r ∧ i = .int .i64 q ∧ v = sv (acc q) ∧ Box wr w.heap.size (VDfa.cells ⟨of, (r : Int), some ⟨b5, o5, none⟩, nn, nc, some ⟨b3, o3, none⟩, n, lc, ma, mn, mc⟩) 28 ∧ Below w.heap.size w wr) (fun _ i _ => r - (intOf i).toNat)
        case atStart => exact ⟨0, Nat.zero_le _, rfl, by rw [← HA0.out]; simp, hbx, hB⟩
        case round =>
          clear hbx hB x0 x1 x2 x3
          obtain ⟨q, hq, rfl, rfl, hbx, hB⟩ := hrel
          obtain ⟨x0, x1, x2, x3⟩ := hbx.dfa
          by_cases hlt : q < r
          · have hq2 : q < row.length := by rw [HR.out]; exact hlt
            obtain rfl := HA6.out q hq2
            have c6 := HK6.out q hq2 wr hB
            have c5 := HD.out wr hB
            have hac := HAC.out q hq2
            have hal := HAL.out q (by omega)
            have hsh := H3.out row[q] (List.getElem_mem hq2)
            have hs3 := HS3.out row[q] (List.getElem_mem hq2)
            generalize row[q] = t at *
            generalize hac0 : acc q = a0 at *
            generalize showI t = t3 at *
            have HSH := Lib.hid hsh
            have HAC2 := Lib.hid hac
            have hq0 : (0 : Int) ≤ (q : Int) := by omega
            have hqm : (q : Int) < (r : Int) := by omega
            have m1 : ¬ 9223372036854775807 < a0.length + 1 := by omega
            have m2 : ¬ 9223372036854775807 < a0.length + 1 + t3.length := by omega
            clear hac hsh hac0
            go_wp2_with (go_at_call 38; go_must (refine (HSH.out _).mono ?_; rintro e w5 ⟨rfl, hb5⟩))
            go_roundw
            case rel => exact ⟨q + 1, hlt, by go_num, by rw [HAC2.out]; simp, hbx.kept hb5, hB.trans (hb5.mono hB.size)⟩
            case measure => simp [intOf]; omega
          · obtain rfl : q = r := by omega
            go_wp2
            go_ret
            exact ⟨rfl, hB⟩
      · have e2 : decide ((V.ln : Int) ≤ (k : Int)) = true := by simp; omega
        have e2' : decide (V.ln ≤ k) = true := by simp; omega
        rw [if_neg (by omega)]
        have HRt := Lib.hid hRt
        clear hRt h hR hl hln h1 h2 hof
        go_enter Tryz.func14, Tryz.ntmps14
        go_wp2_with (first | (refine wpList_load_row rfl 28 (.tmp 2) rfl w.heap.size rfl _ _ _ _ hbx Tryz.underlying28 rfl (size_dfa _) ?_) | (go_at_call 9; go_must (refine (HRt.out _ hB0).mono ?_; rintro e w2 ⟨rfl, hB2⟩; have hbx2 := hbx.kept hB2; obtain ⟨x0, x1, x2, x3⟩ := hbx2.dfa)))
        go_ret
        exact ⟨rfl, hB0.trans (hB2.mono (by simp))⟩
  · have hR2 := Bool.eq_false_iff.2 hR
    rw [hR2] at hRt
    rw [if_neg (fun q => hR q.1)]
    have HRt := Lib.hid hRt
    clear hRt h hR hR2 hl hln hof
    go_enter Tryz.func14, Tryz.ntmps14
    go_wp2_with (first | (refine wpList_load_row rfl 28 (.tmp 2) rfl w.heap.size rfl _ _ _ _ hbx Tryz.underlying28 rfl (size_dfa _) ?_) | (go_at_call 9; go_must (refine (HRt.out _ hB0).mono ?_; rintro e w2 ⟨rfl, hB2⟩)))
    go_ret
    exact ⟨rfl, hB0.trans (hB2.mono (by simp))⟩
end Go.Proofs.YtdhmekpgplajmaaGreatDoor
end
section
namespace Go.Proofs.YtdhmekpgplajmaaGreatDoor
open Go.ChangeShapes Go.WideShapes Go.ChangeAt Go.RowKit Go.Deep
theorem sv_of (s : ByteArray) : Value.string s = sv s.data.toList := by
  unfold sv; cases s; rfl
structure DfaTys (P : Program) (tD tA tU tI tN tL tM tS : TypeId) (fs : Array Field) : Prop where
  dfa : P.underlying tD = some (.struct fs)
  flds : fs.map (fun f => (f.type, f.offset)) = #[(tA, 0), (tI, 256), (tN, 257), (tL, 258), (tM, 259)]
  arr : P.underlying tA = some (.array 256 tU)
  u8 : P.underlying tU = some (.int .u8)
  int : P.underlying tI = some (.int .i64)
  rows : P.underlying tN = some (.slice tL)
  ints : P.underlying tL = some (.slice tI)
  strs : P.underlying tM = some (.slice tS)
  str : P.underlying tS = some .string
  cD : P.cellsOf tD = 260
  cA : P.cellsOf tA = 256
  cU : P.cellsOf tU = 1
  cI : P.cellsOf tI = 1
  cN : P.cellsOf tN = 1
  cL : P.cellsOf tL = 1
  cM : P.cellsOf tM = 1
  cS : P.cellsOf tS = 1
section
variable {H : Type} {enc : TypeId × Value → H} {P : Program} {w : World} {base : Nat} {spare : Nat → Bool} {held : Bool}
end
end Go.Proofs.YtdhmekpgplajmaaGreatDoor
end
section
namespace Go.Proofs.YtdhmekpgplajmaaGreatDoor
open Go.RowKit
attribute [local go_sem] Oper.semAt_some
/-- The pieces of a text between the bytes c. -/
def splitL (c : UInt8) : List UInt8 → List (List UInt8)
  | [] => [[]]
  | x :: l => if x = c then [] :: splitL c l else match splitL c l with
    | [] => [[x]]
    | y :: ys => (x :: y) :: ys
theorem splitL_ne (c : UInt8) : ∀ l, splitL c l ≠ []
  | [] => by simp [splitL]
  | x :: l => by
    unfold splitL
    split
    · simp
    · split <;> simp
/-- The first piece, what stands behind, and whether there is more. -/
theorem cut_split (c : UInt8) : ∀ l : List UInt8, (Lib.cut l [c]).1.length ≤ l.length ∧ (Lib.cut l [c]).2.1.length ≤ l.length ∧
    (((Lib.cut l [c]).2.2 = true ∧ splitL c l = (Lib.cut l [c]).1 :: splitL c (Lib.cut l [c]).2.1 ∧ (Lib.cut l [c]).2.1.length < l.length) ∨ ((Lib.cut l [c]).2.2 = false ∧ splitL c l = [(Lib.cut l [c]).1]))
  | [] => by
    have : Lib.cut [] [c] = ([], [], false) := by simp [Lib.cut, Lib.index]
    rw [this]; exact ⟨by simp, by simp, .inr ⟨rfl, rfl⟩⟩
  | x :: l => by
    by_cases h : x = c
    · subst h
      have : Lib.cut (x :: l) [x] = ([], l, true) := by simp [Lib.cut, Lib.index]
      rw [this]
      exact ⟨by simp, by simp, .inl ⟨rfl, by rw [splitL, if_pos rfl], by simp⟩⟩
    · obtain ⟨i1, i2, ih⟩ := cut_split c l
      have hg := Lib.index_ge l [c]
      have hx : Lib.index (x :: l) [c] = if Lib.index l [c] = -1 then -1 else Lib.index l [c] + 1 := by
        rw [Lib.index]
        simp [Ne.symm h]
      by_cases hi : Lib.index l [c] = -1
      · have e1 : Lib.cut l [c] = (l, [], false) := by simp [Lib.cut, hi]
        have e2 : Lib.cut (x :: l) [c] = (x :: l, [], false) := by simp [Lib.cut, hx, hi]
        rw [e1] at ih
        rw [e2]
        rcases ih with ⟨h1, _⟩ | ⟨_, h2⟩
        · cases h1
        · exact ⟨by simp, by simp, .inr ⟨rfl, by rw [splitL, if_neg h, h2]⟩⟩
      · have h0 : 0 ≤ Lib.index l [c] := by omega
        have e1 : Lib.cut l [c] = (l.take (Lib.index l [c]).toNat, l.drop ((Lib.index l [c]).toNat + 1), true) := by simp [Lib.cut, h0]
        have e2 : Lib.cut (x :: l) [c] = (x :: l.take (Lib.index l [c]).toNat, l.drop ((Lib.index l [c]).toNat + 1), true) := by
          have h3 : 0 ≤ Lib.index l [c] + 1 := by omega
          have h4 : (Lib.index l [c] + 1).toNat = (Lib.index l [c]).toNat + 1 := by omega
          simp [Lib.cut, hx, hi, h3, h4]
        rw [e1] at ih i1 i2
        rw [e2]
        rcases ih with ⟨_, h2, h3⟩ | ⟨h1, _⟩
        · refine ⟨by simpa using i1, by simp at i2 ⊢; omega, .inl ⟨rfl, ?_, by simp at h3 ⊢; omega⟩⟩
          rw [splitL, if_neg h, h2]
        · cases h1
theorem list_pieces (s by' : List UInt8) (w : World) : Calls Tryz.prog 19 #[sv s, sv by'] w fun e w' =>
    e = .returned (.func (.func 45) #[] #[.pointer (some ⟨w.heap.size, 0, none⟩), .pointer (some ⟨w.heap.size + 1, 0, none⟩)]) ∧ w' = (w.alloc (.cells #[sv s] 9)).alloc (.cells #[sv by'] 9) := by
  go_enter Tryz.func19, Tryz.ntmps19
  go_wp2
  go_ret
  exact ⟨rfl, rfl⟩
/-- The library's variable lies where it is. -/
def MaxL (w : World) : Prop := ∃ m, w.cell? ⟨0, 0, none⟩ = some (.int .i64 m)
theorem MaxL.kept {w w' : World} (h : MaxL w) (hb : Below w.heap.size w w') : MaxL w' := by
  obtain ⟨m, hm⟩ := h
  obtain ⟨o, ho, _⟩ := cells_of_cell hm
  exact ⟨m, (World.cell?_of_block (hb.block 0 (Array.getElem?_eq_some_iff.1 ho).1)).trans hm⟩
theorem MaxL.same {w w' : World} (h : MaxL w) (hb : w'.heap[0]? = w.heap[0]?) : MaxL w' := by
  obtain ⟨m, hm⟩ := h
  exact ⟨m, (World.cell?_of_block hb).trans hm⟩
def PiecesRel (c : UInt8) (J : List (List UInt8) → World → Prop) (all : List (List UInt8)) (N sB bB : Nat) (i : Value) (wr : World) : Prop :=
  ∃ (pre : List (List UInt8)) (rest : List UInt8) (more : Bool), i = .bool more ∧ pre ++ (if more then splitL c rest else []) = all ∧ rest.length ≤ N ∧ J pre wr ∧ Box wr sB #[sv rest] 9 ∧ Box wr bB #[sv [c]] 9 ∧ MaxL wr
def PiecesM (sB : Nat) (i : Value) (w : World) : Nat := match i, w.cell? ⟨sB, 0, none⟩ with
  | .bool true, some (.string s) => s.size + 1
  | _, _ => 0
set_option maxRecDepth 100000 in
set_option maxHeartbeats 2000000 in
theorem pieces_in (l sB bB : Nat) (c : UInt8) (J : List (List UInt8) → World → Prop) (Jp : List PanicEntry → World → Prop) (s : List UInt8) (hs : s.length < 4294967281) (h0 : sB ≠ 0) (hbs : bB ≠ sB)
    (hJ : ∀ s A B, J s A → A.grownBy B (some sB) → J s B) (hJp : ∀ c A B, Jp c A → A.grownBy B (some sB) → Jp c B)
    (hY : ∀ pre x post W1, splitL c s = pre ++ x :: post → J pre W1 → YieldAt Fence.wide 0 Tryz.prog l #[sv x] W1 fun e W' => (e = .returned (.bool true) ∧ J (pre ++ [x]) W' ∧ W1.heap.size ≤ W'.heap.size ∧ ∀ k ∈ [0, sB, bB], W'.heap[k]? = W1.heap[k]?) ∨ (∃ c, e = .panicked c ∧ Jp c W'))
    (W : World) (hM : MaxL W) (hBs : Box W sB #[sv s] 9) (hBb : Box W bB #[sv [c]] 9) (hj : J [] W) :
    CallsIn Fence.wide 0 Tryz.prog 45 #[.func (.yield l) #[] #[], .pointer (some ⟨sB, 0, none⟩), .pointer (some ⟨bB, 0, none⟩)] W fun e W' => (∃ v, e = .returned v ∧ J (splitL c s) W') ∨ (∃ c, e = .panicked c ∧ Jp c W') := by
  refine callsIn_of_wp Tryz.func45 rfl trivial ?_ rfl
  simp only [Tryz.ntmps45, List.size_toArray, List.length_cons, List.length_nil, Nat.reduceAdd, Nat.reduceSub, Array.replicate_succ, Array.replicate_zero, List.push_toArray, List.append_toArray, List.nil_append, List.cons_append]
  gi_wp2
  gi_loopw [4] (fun i wr => PiecesRel c J (splitL c s) s.length sB bB i wr) (fun i wr => PiecesM sB i wr)
  case atStart => exact ⟨[], s, true, rfl, by simp, Nat.le_refl _, hj, hBs, hBb, hM⟩
  case round =>
    obtain ⟨pre, rest, more, rfl, hall, hlen, hJr, hb1, hb2, hMr⟩ := hrel
    cases more with
    | false =>
      simp only [Bool.false_eq_true, if_false, List.append_nil] at hall
      subst hall
      gi_wp2
      go_end0
      exact .inl ⟨_, rfl, hJr⟩
    | true =>
      simp only [if_true] at hall
      obtain ⟨hq1, hq2, hor⟩ := cut_split c rest
      have hcut := fun (w : World) (m : Int) (hm : w.cell? ⟨0, 0, none⟩ = some (.int .i64 m)) => Tryz.strings_Cut ⟨rest.toArray⟩ ⟨#[c]⟩ m w (by simp [ByteArray.size]; omega) hm
      simp only at hcut
      generalize Lib.cut rest [c] = q at *
      obtain ⟨x, r2, m2⟩ := q
      simp only at hcut hq1 hq2 hor
      have HC := Lib.hid hcut
      obtain ⟨m, hm⟩ := hMr
      have hsp : splitL c rest = x :: (if m2 then splitL c r2 else []) := by
        rcases hor with ⟨rfl, h1, _⟩ | ⟨rfl, h1⟩
        · simpa using h1
        · simpa using h1
      rw [hsp] at hall
      have k1 := hb1.cell 0
      have k2 := hb2.cell 0
      have f1 := hb1.free 0
      have hdd : ∀ k : Nat, (Fence.wide.depth.isSome = true → 1 ≤ k) := fun k h => by cases h
      have hgrow : ∀ nd, wr.grownBy ((wr.drewN nd).setCell ⟨sB, 0, none⟩ (.string ⟨r2.toArray⟩)) (some sB) := fun nd =>
        ⟨rfl, rfl, rfl, by simp [World.setCell], fun k _ hk => Below.heap_setCell _ _ _ _ (fun e => hk (by rw [e]))⟩
      have hb1' := fun nd => (hb1.drewN (n := nd)).set 0 (.string ⟨r2.toArray⟩)
      have hb2' := fun nd => (hb2.drewN (n := nd)).other ⟨sB, 0, none⟩ (.string ⟨r2.toArray⟩) hbs
      have hm' := fun nd => MaxL.same ⟨m, hm⟩ ((hgrow nd).block 0 (by obtain ⟨o, ho, _⟩ := cells_of_cell hm; exact (Array.getElem?_eq_some_iff.1 ho).1) (by intro e; cases e; exact h0 rfl))
      have hYY := fun nd => hY pre x _ _ hall.symm (hJ pre _ _ hJr (hgrow nd))
      have HY := Lib.hid hYY
      have HB1 := Lib.hid hb1'
      have HB2 := Lib.hid hb2'
      have HM := Lib.hid hm'
      have HA := Lib.hid hall
      have HO := Lib.hid hor
      clear hYY hb1' hb2' hm' hgrow hall hor hY hsp
      gi_wp2_with (first | (refine ⟨trivial, rfl, ?_⟩; gi_at_call 46; go_must (refine (callsIn_wide.2 (HC.out _ m hm)).mono ?_; rintro e w1 ⟨rfl, nd, rfl⟩; obtain ⟨fn, tmps, assign, body, hy, hR⟩ := HY.out nd)) | (refine ⟨rfl, ?_⟩; refine hR.mono ?_; clear hR; rintro e W3 (⟨rfl, hJ3, hsz, hk3⟩ | ⟨ch, rfl, hp3⟩)))
      · have hx1 : Box W3 sB #[sv r2] 9 := by unfold Box; rw [hk3 sB (by simp)]; exact HB1.out nd
        have hx2 : Box W3 bB #[sv [c]] 9 := by unfold Box; rw [hk3 bB (by simp)]; exact HB2.out nd
        refine ⟨⟨pre ++ [x], r2, m2, rfl, ?_, Nat.le_trans hq2 hlen, hJ3, hx1, hx2, (HM.out nd).same (hk3 0 (by simp))⟩, ?_⟩
        · rw [← HA.out]; simp
        · unfold PiecesM
          rw [hx1.cell 0, k1]
          rcases HO.out with ⟨rfl, _, h3⟩ | ⟨rfl, _⟩
          · simpa [sv, ByteArray.size] using h3
          · simp [sv]
      · exact ⟨rfl, .inr ⟨ch, rfl, hp3⟩⟩
theorem pieces_seq (sB bB : Nat) (c : UInt8) (s : List UInt8) (hs : s.length < 4294967281) (h0 : sB ≠ 0) (hbs : bB ≠ sB) (w : World) (hM : MaxL w) (hBs : Box w sB #[sv s] 9) (hBb : Box w bB #[sv [c]] 9) :
    SeqP Tryz.prog 45 #[.pointer (some ⟨sB, 0, none⟩), .pointer (some ⟨bB, 0, none⟩)] (fun x => #[sv x]) (splitL c s) sB [0, sB, bB] w := fun l J Jp W hW hJ hJp hY hj =>
  pieces_in l sB bB c J Jp s hs h0 hbs hJ hJp hY W (hM.kept hW) (hBs.kept hW) (hBb.kept hW) hj
end Go.Proofs.YtdhmekpgplajmaaGreatDoor
end
section
namespace Go.Proofs.YtdhmekpgplajmaaGreatDoor
open Go.RowKit
/-- A reader's cells: the machine so far, and the bytes that were there. -/
def rcells (V : VDfa) (t : BSet) : Array Value := V.cells ++ setC t
theorem rcells_size (V : VDfa) (t : BSet) : (rcells V t).size = 264 := by unfold rcells; rw [Array.size_append, VDfa.size]; rfl
theorem rcells_low (V : VDfa) (t : BSet) {i : Nat} (h : i < 260) : (rcells V t)[i]? = V.cells[i]? := by
  unfold rcells; rw [Array.getElem?_append_left (by rw [VDfa.size]; exact h)]
theorem rcells_there (V : VDfa) (t : BSet) : (rcells V t)[260]? = some (.int .u64 (word t 0 : Nat)) ∧ (rcells V t)[261]? = some (.int .u64 (word t 1 : Nat)) ∧ (rcells V t)[262]? = some (.int .u64 (word t 2 : Nat)) ∧ (rcells V t)[263]? = some (.int .u64 (word t 3 : Nat)) := by
  unfold rcells
  refine ⟨?_, ?_, ?_, ?_⟩ <;> rw [Array.getElem?_append_right (by rw [VDfa.size]; decide), VDfa.size] <;> rfl
theorem rcells_ext {A : Array Value} {V : VDfa} {t : BSet} (hs : A.size = 264) (h0 : ∀ i, i < 256 → A[i]? = some (.int .u8 (V.of i : Nat))) (h1 : A[256]? = some (.int .i64 V.width)) (h2 : A[257]? = some (.slice V.na V.nn V.nc))
    (h3 : A[258]? = some (.slice V.la V.ln V.lc)) (h4 : A[259]? = some (.slice V.ma V.mn V.mc)) (h5 : A[260]? = some (.int .u64 (word t 0 : Nat))) (h6 : A[261]? = some (.int .u64 (word t 1 : Nat))) (h7 : A[262]? = some (.int .u64 (word t 2 : Nat))) (h8 : A[263]? = some (.int .u64 (word t 3 : Nat))) : A = rcells V t := by
  obtain ⟨r0, r1, r2, r3⟩ := rcells_there V t
  refine Array.ext_getElem? fun i => ?_
  rcases Nat.lt_or_ge i 256 with h | h
  · rw [h0 i h, rcells_low _ _ (by omega), V.get_of i h]
  · rcases Nat.lt_or_ge i 264 with hh | hh
    · have : i = 256 ∨ i = 257 ∨ i = 258 ∨ i = 259 ∨ i = 260 ∨ i = 261 ∨ i = 262 ∨ i = 263 := by omega
      rcases this with rfl | rfl | rfl | rfl | rfl | rfl | rfl | rfl
      · rw [h1, rcells_low _ _ (by omega), V.get_width]
      · rw [h2, rcells_low _ _ (by omega), V.get_next]
      · rw [h3, rcells_low _ _ (by omega), V.get_label]
      · rw [h4, rcells_low _ _ (by omega), V.get_names]
      · rw [h5, r0]
      · rw [h6, r1]
      · rw [h7, r2]
      · rw [h8, r3]
    · rw [Array.getElem?_eq_none (by omega), Array.getElem?_eq_none (by rw [rcells_size]; exact hh)]
theorem rcells_gets (V : VDfa) (t : BSet) : (rcells V t)[256]? = some (.int .i64 V.width) ∧ (rcells V t)[257]? = some (.slice V.na V.nn V.nc) ∧ (rcells V t)[258]? = some (.slice V.la V.ln V.lc) ∧ (rcells V t)[259]? = some (.slice V.ma V.mn V.mc) :=
  ⟨by rw [rcells_low _ _ (by omega), V.get_width], by rw [rcells_low _ _ (by omega), V.get_next], by rw [rcells_low _ _ (by omega), V.get_label], by rw [rcells_low _ _ (by omega), V.get_names]⟩
theorem rcells_of (V : VDfa) (t : BSet) {b : Nat} (hb : b < 256) (k : Nat) : (rcells V t).setIfInBounds b (.int .u8 (k : Nat)) = rcells { V with of := fun x => if x = b then k else V.of x } t := by
  obtain ⟨r0, r1, r2, r3⟩ := rcells_there V t
  obtain ⟨g0, g1, g2, g3⟩ := rcells_gets V t
  refine rcells_ext (by simp [rcells_size]) (fun i hi => ?_) ?_ ?_ ?_ ?_ ?_ ?_ ?_ ?_
  · rw [Array.getElem?_setIfInBounds]
    by_cases h : b = i
    · subst h; simp [rcells_size]; omega
    · rw [if_neg h, rcells_low _ _ (by omega), V.get_of i hi]; simp [Ne.symm h]
  all_goals (rw [Array.getElem?_setIfInBounds, if_neg (by omega)]; assumption)
theorem rcells_width (V : VDfa) (t : BSet) (x : Int) : (rcells V t).setIfInBounds 256 (.int .i64 x) = rcells { V with width := x } t := by
  obtain ⟨r0, r1, r2, r3⟩ := rcells_there V t
  obtain ⟨g0, g1, g2, g3⟩ := rcells_gets V t
  refine rcells_ext (by simp [rcells_size]) (fun i hi => ?_) ?_ ?_ ?_ ?_ ?_ ?_ ?_ ?_
  · rw [Array.getElem?_setIfInBounds, if_neg (by omega), rcells_low _ _ (by omega), V.get_of i hi]
  · simp [rcells_size]
  all_goals (rw [Array.getElem?_setIfInBounds, if_neg (by omega)]; assumption)
theorem rcells_next (V : VDfa) (t : BSet) (a : Option Addr) (n c : Nat) : (rcells V t).setIfInBounds 257 (.slice a n c) = rcells { V with na := a, nn := n, nc := c } t := by
  obtain ⟨r0, r1, r2, r3⟩ := rcells_there V t
  obtain ⟨g0, g1, g2, g3⟩ := rcells_gets V t
  refine rcells_ext (by simp [rcells_size]) (fun i hi => ?_) ?_ ?_ ?_ ?_ ?_ ?_ ?_ ?_
  · rw [Array.getElem?_setIfInBounds, if_neg (by omega), rcells_low _ _ (by omega), V.get_of i hi]
  · rw [Array.getElem?_setIfInBounds, if_neg (by omega)]; assumption
  · simp [rcells_size]
  all_goals (rw [Array.getElem?_setIfInBounds, if_neg (by omega)]; assumption)
theorem rcells_label (V : VDfa) (t : BSet) (a : Option Addr) (n c : Nat) : (rcells V t).setIfInBounds 258 (.slice a n c) = rcells { V with la := a, ln := n, lc := c } t := by
  obtain ⟨r0, r1, r2, r3⟩ := rcells_there V t
  obtain ⟨g0, g1, g2, g3⟩ := rcells_gets V t
  refine rcells_ext (by simp [rcells_size]) (fun i hi => ?_) ?_ ?_ ?_ ?_ ?_ ?_ ?_ ?_
  · rw [Array.getElem?_setIfInBounds, if_neg (by omega), rcells_low _ _ (by omega), V.get_of i hi]
  · rw [Array.getElem?_setIfInBounds, if_neg (by omega)]; assumption
  · rw [Array.getElem?_setIfInBounds, if_neg (by omega)]; assumption
  · simp [rcells_size]
  all_goals (rw [Array.getElem?_setIfInBounds, if_neg (by omega)]; assumption)
theorem rcells_names (V : VDfa) (t : BSet) (a : Option Addr) (n c : Nat) : (rcells V t).setIfInBounds 259 (.slice a n c) = rcells { V with ma := a, mn := n, mc := c } t := by
  obtain ⟨r0, r1, r2, r3⟩ := rcells_there V t
  obtain ⟨g0, g1, g2, g3⟩ := rcells_gets V t
  refine rcells_ext (by simp [rcells_size]) (fun i hi => ?_) ?_ ?_ ?_ ?_ ?_ ?_ ?_ ?_
  · rw [Array.getElem?_setIfInBounds, if_neg (by omega), rcells_low _ _ (by omega), V.get_of i hi]
  · rw [Array.getElem?_setIfInBounds, if_neg (by omega)]; assumption
  · rw [Array.getElem?_setIfInBounds, if_neg (by omega)]; assumption
  · rw [Array.getElem?_setIfInBounds, if_neg (by omega)]; assumption
  · simp [rcells_size]
  all_goals (rw [Array.getElem?_setIfInBounds, if_neg (by omega)]; assumption)
theorem rcells_set (V : VDfa) (t u : BSet) : ((((rcells V t).setIfInBounds 260 (.int .u64 (word u 0 : Nat))).setIfInBounds 261 (.int .u64 (word u 1 : Nat))).setIfInBounds 262 (.int .u64 (word u 2 : Nat))).setIfInBounds 263 (.int .u64 (word u 3 : Nat)) = rcells V u := by
  obtain ⟨g0, g1, g2, g3⟩ := rcells_gets V t
  refine rcells_ext (by simp [rcells_size]) (fun i hi => ?_) ?_ ?_ ?_ ?_ ?_ ?_ ?_ ?_
  · rw [Array.getElem?_setIfInBounds, if_neg (by omega), Array.getElem?_setIfInBounds, if_neg (by omega), Array.getElem?_setIfInBounds, if_neg (by omega), Array.getElem?_setIfInBounds, if_neg (by omega), rcells_low _ _ (by omega), V.get_of i hi]
  · rw [Array.getElem?_setIfInBounds, if_neg (by omega), Array.getElem?_setIfInBounds, if_neg (by omega), Array.getElem?_setIfInBounds, if_neg (by omega), Array.getElem?_setIfInBounds, if_neg (by omega)]; exact g0
  · rw [Array.getElem?_setIfInBounds, if_neg (by omega), Array.getElem?_setIfInBounds, if_neg (by omega), Array.getElem?_setIfInBounds, if_neg (by omega), Array.getElem?_setIfInBounds, if_neg (by omega)]; exact g1
  · rw [Array.getElem?_setIfInBounds, if_neg (by omega), Array.getElem?_setIfInBounds, if_neg (by omega), Array.getElem?_setIfInBounds, if_neg (by omega), Array.getElem?_setIfInBounds, if_neg (by omega)]; exact g2
  · rw [Array.getElem?_setIfInBounds, if_neg (by omega), Array.getElem?_setIfInBounds, if_neg (by omega), Array.getElem?_setIfInBounds, if_neg (by omega), Array.getElem?_setIfInBounds, if_neg (by omega)]; exact g3
  all_goals simp [rcells_size]
attribute [irreducible] rcells
/-- What lies in a reader's block. -/
theorem Box.reader {w : World} {b E : Nat} {V : VDfa} {t : BSet} (h : Box w b (rcells V t) E) : w.cell? ⟨b, 256, none⟩ = some (.int .i64 V.width) ∧ w.cell? ⟨b, 257, none⟩ = some (.slice V.na V.nn V.nc) ∧ w.cell? ⟨b, 258, none⟩ = some (.slice V.la V.ln V.lc) ∧ w.cell? ⟨b, 259, none⟩ = some (.slice V.ma V.mn V.mc) := by
  obtain ⟨g0, g1, g2, g3⟩ := rcells_gets V t
  exact ⟨(h.cell _).trans g0, (h.cell _).trans g1, (h.cell _).trans g2, (h.cell _).trans g3⟩
theorem Box.readerT {w : World} {b E : Nat} {V : VDfa} {t : BSet} (h : Box w b (rcells V t) E) : w.cell? ⟨b, 260, none⟩ = some (.int .u64 (word t 0 : Nat)) ∧ w.cell? ⟨b, 261, none⟩ = some (.int .u64 (word t 1 : Nat)) ∧ w.cell? ⟨b, 262, none⟩ = some (.int .u64 (word t 2 : Nat)) ∧ w.cell? ⟨b, 263, none⟩ = some (.int .u64 (word t 3 : Nat)) := by
  obtain ⟨g0, g1, g2, g3⟩ := rcells_there V t
  exact ⟨(h.cell _).trans g0, (h.cell _).trans g1, (h.cell _).trans g2, (h.cell _).trans g3⟩
/-! ### Its slices -/
abbrev encR (x : Option Addr × Nat × Nat) : List Value := [.slice x.1 x.2.1 x.2.2]
theorem encR_ok : EncOK encR 1 := ⟨fun _ => rfl, fun x u hu => by simp [encR] at hu; subst hu; rfl⟩
theorem elem_int : ElemOK Tryz.prog 25 3 (.int .i64 0) 1 8 := ⟨Tryz.underlying25, info_parts (by kernel_rfl), rfl, by decide⟩
theorem elem_ints : ElemOK Tryz.prog 24 25 (.slice none 0 0) 1 24 := ⟨Tryz.underlying24, info_parts (by kernel_rfl), rfl, by decide⟩
def VDfa.lv (V : VDfa) : Value := .slice V.la V.ln V.lc
abbrev rowV (x : Option Addr × Nat × Nat) : Value := .slice x.1 x.2.1 x.2.2
/-- The rows: slices of their own, none over the labels' block. -/
def RowsR (w : World) (base : Nat) (V : VDfa) (next : List (List Int)) : Prop :=
  ∃ rows : List (Option Addr × Nat × Nat), Own w base 25 1 encR (.slice V.na V.nn V.nc) rows ∧ rows.length = next.length ∧
    ∀ i (h1 : i < rows.length) (h2 : i < next.length), Own w base 3 1 encI (rowV rows[i]) next[i] ∧ ∀ k, (rowV rows[i]).ownBlock = some k → V.lv.ownBlock ≠ some k
structure RdR (w : World) (r base : Nat) (V : VDfa) (t : BSet) (D : PDfa) : Prop where
  box : Box w r (rcells V t) 45
  of : V.of = D.of
  width : V.width = D.width
  lab : Own w base 3 1 encI V.lv D.label
  nam : Own w base 9 1 encT (.slice V.ma V.mn V.mc) D.names
  nxt : RowsR w base V D.next
theorem RowsR.kept {w w' : World} {base : Nat} {V : VDfa} {next : List (List Int)} (h : RowsR w base V next) (hb : Below w.heap.size w w') : RowsR w' base V next := by
  obtain ⟨rows, h1, h2, h3⟩ := h
  exact ⟨rows, h1.kept hb, h2, fun i a b => ⟨((h3 i a b).1).kept hb, (h3 i a b).2⟩⟩
theorem RdR.kept {w w' : World} {r base : Nat} {V : VDfa} {t : BSet} {D : PDfa} (h : RdR w r base V t D) (hb : Below w.heap.size w w') : RdR w' r base V t D :=
  ⟨h.box.kept hb, h.of, h.width, h.lab.kept hb, h.nam.kept hb, h.nxt.kept hb⟩
theorem slice_map {α β : Type} {w : World} {v : Value} {f : α → Value} {g : β → Value} {m : α → β} {xs : List α} (h : SliceR w v 1 (fun x => [f x]) xs) (hm : ∀ x, g (m x) = f x) : SliceR w v 1 (fun x => [g x]) (xs.map m) := by
  obtain ⟨a, b, o, cap, hv, h1, h2, h3, h4⟩ := h
  refine ⟨a, b, o, cap, by rw [List.length_map]; exact hv, by rw [List.length_map]; exact h1, h2, ?_, fun i hi j u hu => ?_⟩
  · rcases h3 with h3 | ⟨rfl, h3⟩
    · exact .inl h3
    · exact .inr ⟨rfl, h3⟩
  · have hi' : i < xs.length := by simpa using hi
    simp only [List.getElem_map, hm] at hu
    exact h4 i hi' j u hu
theorem RdR.reads {w : World} {r base : Nat} {V : VDfa} {t : BSet} {D : PDfa} (h : RdR w r base V t D) : ReadsD w V D := by
  obtain ⟨rows, h1, h2, h3⟩ := h.nxt
  refine ⟨h.of, h.width, h.lab.slice encI_ok, h.nam.slice encT_ok, rows.map rowV, slice_map (m := rowV) (f := rowV) (g := fun v => v) (h1.slice encR_ok) (fun _ => rfl), by rw [List.length_map]; exact h2, fun i a b => ?_⟩
  have ha : i < rows.length := by simpa using a
  obtain ⟨h4, _⟩ := h3 i ha b
  obtain ⟨a', c', hv⟩ := h4.form
  refine ⟨a', c', by rw [List.getElem_map]; exact hv, ?_⟩
  rw [← hv]
  exact h4.slice encI_ok
theorem RowsR.other {w : World} {base : Nat} {V : VDfa} {next : List (List Int)} (h : RowsR w base V next) (a : Addr) (u : Value) (hne : a.block < base) : RowsR (w.setCell a u) base V next := by
  obtain ⟨rows, h1, h2, h3⟩ := h
  exact ⟨rows, h1.other a u hne, h2, fun i x y => ⟨((h3 i x y).1).other a u hne, (h3 i x y).2⟩⟩
theorem RdR.of_set {w : World} {r base : Nat} {V : VDfa} {t : BSet} {D : PDfa} (h : RdR w r base V t D) (hr : r < base) {b : Nat} (hb : b < 256) (k : Nat) :
    RdR (w.setCell ⟨r, b, none⟩ (.int .u8 (k : Nat))) r base { V with of := fun x => if x = b then k else V.of x } t { D with of := fun x => if x = b then k else D.of x } :=
  ⟨by rw [← rcells_of V t hb]; exact h.box.set b _, by simp only [h.of], h.width, h.lab.other _ _ hr, h.nam.other _ _ hr, h.nxt.other _ _ hr⟩
theorem RdR.width_set {w : World} {r base : Nat} {V : VDfa} {t : BSet} {D : PDfa} (h : RdR w r base V t D) (hr : r < base) (x : Int) :
    RdR (w.setCell ⟨r, 256, none⟩ (.int .i64 x)) r base { V with width := x } t { D with width := x } :=
  ⟨by rw [← rcells_width V t x]; exact h.box.set 256 _, h.of, rfl, h.lab.other _ _ hr, h.nam.other _ _ hr, h.nxt.other _ _ hr⟩
theorem RdR.there_set {w : World} {r base : Nat} {V : VDfa} {t : BSet} {D : PDfa} (h : RdR w r base V t D) (hr : r < base) (u : BSet) :
    RdR ((((w.setCell ⟨r, 260, none⟩ (.int .u64 (word u 0 : Nat))).setCell ⟨r, 261, none⟩ (.int .u64 (word u 1 : Nat))).setCell ⟨r, 262, none⟩ (.int .u64 (word u 2 : Nat))).setCell ⟨r, 263, none⟩ (.int .u64 (word u 3 : Nat))) r base V u D :=
  ⟨by rw [← rcells_set V t u]; exact (((h.box.set 260 _).set 261 _).set 262 _).set 263 _, h.of, h.width, (((h.lab.other _ _ hr).other _ _ hr).other _ _ hr).other _ _ hr, (((h.nam.other _ _ hr).other _ _ hr).other _ _ hr).other _ _ hr, (((h.nxt.other _ _ hr).other _ _ hr).other _ _ hr).other _ _ hr⟩
/-- What a reader's method keeps: all blocks of cells but the reader's and those behind base; all that is no cells. -/
structure KeptR (r base : Nat) (w w' : World) : Prop where
  low : Below r w w'
  cells : KeepC (fun k => k = r ∨ base ≤ k) w w'
  others : KeepsOthers w w'
theorem KeptR.refl (r base : Nat) (w : World) : KeptR r base w w := ⟨Below.refl _ _, KeepC.refl _ _, KeepsOthers.refl _⟩
theorem KeptR.trans {r base : Nat} {a b c : World} (h : KeptR r base a b) (k : KeptR r base b c) : KeptR r base a c := ⟨h.low.trans k.low, h.cells.trans k.cells, h.others.trans k.others⟩
theorem others_below {w w' : World} (h : Below w.heap.size w w') : KeepsOthers w w' := ⟨h.size, fun k _ hk _ => (h.block k (Array.getElem?_eq_some_iff.1 hk).1).trans hk⟩
theorem KeptR.below {r base : Nat} {w w' : World} (hr : r ≤ w.heap.size) (h : Below w.heap.size w w') : KeptR r base w w' := ⟨h.mono hr, KeepC.below h, others_below h⟩
theorem KeptR.set {r base : Nat} (w : World) (i : Nat) (v : Value) : KeptR r base w (w.setCell ⟨r, i, none⟩ v) := ⟨(Below.refl r w).setCell (by simp) v, KeepC.set w _ v (.inl rfl), KeepsOthers.setCell w _ v⟩
end Go.Proofs.YtdhmekpgplajmaaGreatDoor
end
section
namespace Go.Proofs.YtdhmekpgplajmaaGreatDoor
open Go.RowKit
def setOf (l : List Nat) (k : Nat) (of : Nat → Nat) : Nat → Nat := fun b => if b ∈ l then k else of b
/-- A class's line: its number and its text. -/
def classL (D : PDfa) (t : BSet) (k : Nat) (s : List UInt8) : Option (PDfa × BSet) :=
  match readR s with
  | .inl _ => none
  | .inr (f, j) => if j = s.length ∧ k < 256 ∧ f &&& t = 0 then some ({ D with of := setOf (elems f) k D.of }, t ||| f) else none
theorem readR_prefix {s : List UInt8} (h : Lib.hasPrefix s [91] = false) : readR s = .inl (1, 0) := by
  have : hereB s 0 91 = false := by
    cases s with
    | nil => rfl
    | cons x l =>
      simp only [Lib.hasPrefix, List.isPrefixOf, Bool.and_true] at h
      unfold hereB
      simp only [List.length_cons, List.getD_cons_zero]
      have : (x == 91) = false := by
        rw [beq_eq_false_iff_ne] at h ⊢; exact fun e => h e.symm
      rw [this]; simp
  unfold readR
  rw [this]; rfl
theorem loopR_ne {l : List UInt8} {fr kd ps : Nat} : ∀ (n : Nat) (s : BSet) (i : Nat), loopR l fr n s i = .inl (kd, ps) → kd ≠ 0
  | 0, _, _, h => by rw [loopR] at h; cases h; decide
  | n + 1, s, i, h => by
    rw [loopR_succ] at h
    split at h
    · cases h
    · split at h
      · rename_i hq
        cases h
        exact itemR_ne hq
      · exact loopR_ne n _ _ h
theorem readR_ne {l : List UInt8} {kd ps : Nat} (h : readR l = .inl (kd, ps)) : kd ≠ 0 := by
  unfold readR firstR at h
  repeat' split at h
  all_goals first | (cases h; decide) | skip
  · rename_i hq
    split at hq
    · rename_i h2
      cases h
      cases hq
      exact itemR_ne h2
    · cases h
      exact loopR_ne _ _ _ hq
  all_goals cases h
/-- A class reader's results, both ways at once. -/
theorem retR_form (s : List UInt8) : ∃ (f : BSet) (j kd ps : Nat), retR (readR s) = .tuple #[.agg (setC f), .int .i64 j, .agg #[.int .i64 kd, .int .i64 ps]] ∧ ((kd = 0 ∧ readR s = .inr (f, j)) ∨ (kd ≠ 0 ∧ ∃ q, readR s = .inl q)) := by
  cases h : readR s with
  | inl q => exact ⟨0, 0, q.1, q.2, rfl, .inr ⟨readR_ne (kd := q.1) (ps := q.2) h, q, rfl⟩⟩
  | inr q => exact ⟨q.1, q.2, 0, 0, rfl, .inl ⟨rfl, rfl⟩⟩
theorem setC_four (f : BSet) : setC f = #[.int .u64 (word f 0 : Nat), .int .u64 (word f 1 : Nat), .int .u64 (word f 2 : Nat), .int .u64 (word f 3 : Nat)] := rfl
/-- A class's line, under way. -/
structure RC (w W : World) (r base : Nat) (V : VDfa) (t : BSet) (D : PDfa) (b : Nat) (f : BSet) (kd ps : Nat) : Prop where
  set : Box W b (setC f) 43
  bad : Box W (b + 1) #[.int .i64 kd, .int .i64 ps] 80
  rd : RdR W r base V t D
  below : Below w.heap.size w W
  tab : Tab W
theorem RC.kept {w W W' : World} {r base b kd ps : Nat} {V : VDfa} {t f : BSet} {D : PDfa} (h : RC w W r base V t D b f kd ps) (hb : Below W.heap.size W W') : RC w W' r base V t D b f kd ps :=
  ⟨h.set.kept hb, h.bad.kept hb, h.rd.kept hb, h.below.trans (hb.mono h.below.size), h.tab.kept hb⟩
theorem setOf_nil (k : Nat) (of : Nat → Nat) : setOf [] k of = of := by funext x; simp [setOf]
theorem setOf_snoc (l : List Nat) (b k : Nat) (of : Nat → Nat) : (fun x => if x = b then k else setOf l k of x) = setOf (l ++ [b]) k of := by
  funext x
  unfold setOf
  by_cases h1 : x = b <;> by_cases h2 : x ∈ l <;> simp [h1, h2]
def RCLoop (w : World) (r base : Nat) (V : VDfa) (t : BSet) (D : PDfa) (k : Nat) (L : List Nat) (a : Option Addr) (cap B : Nat) (i : Value) (wr : World) : Prop :=
  ∃ j : Nat, j ≤ L.length ∧ i = .int .i64 j ∧ RdR wr r base { V with of := setOf (L.take j) k V.of } t { D with of := setOf (L.take j) k D.of } ∧ Own wr B 5 1 encB (.slice a L.length cap) L ∧ KeptR r base w wr
end Go.Proofs.YtdhmekpgplajmaaGreatDoor
end
