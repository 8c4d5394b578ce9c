/- Joined by tools/merge.py: ListRow, Builder. -/
import Derived.Test.YtdhmekpgplajmaaGreatDoorR17
import Derived.Test.YtdhmekpgplajmaaGreatDoorR8
import Derived.Shelf.Strings.BuilderK
section
namespace Go.Proofs.YtdhmekpgplajmaaGreatDoor
open Go.RowKit
theorem Own.fresh {α : Type} {enc : α → List Value} {size : Nat} (he : EncOK enc size) (w : World) (base E : Nat) (xs : List α) (hm : xs.length ≤ maxLen) (hb : base ≤ w.heap.size) :
    Own (w.alloc (.cells (xs.flatMap enc).toArray E)) base E size enc (.slice (some ⟨w.heap.size, 0, none⟩) xs.length xs.length) xs :=
  ⟨_, xs.length, rfl, Nat.le_refl _, hm, .inr ⟨w.heap.size, _, rfl, hb, Box.new _ _ _, by simp [flatMap_length he.len], fun i hi j hj => by
    simpa using flatMap_get he.len xs i j hi hj⟩⟩
theorem rightD_facts {D : PDfa} (h : rightD D = true) : 1 ≤ D.label.length ∧ D.label.length ≤ 65536 ∧ D.next.length = D.label.length ∧ D.names.length ≤ 64 ∧ 0 ≤ D.width ∧ D.width ≤ 256 ∧
    (∀ s (h1 : s < D.next.length) (h2 : s < D.label.length), ((D.next[s].length : Nat) : Int) = D.width ∧ 0 ≤ D.label[s] ∧ D.label[s] ≤ (D.names.length : Nat) ∧ ∀ t ∈ D.next[s], 0 ≤ t ∧ t < (D.label.length : Nat)) := by
  unfold rightD at h
  simp only [Bool.and_eq_true, decide_eq_true_eq, beq_iff_eq] at h
  obtain ⟨⟨h1, h2, h3⟩, ⟨_, h4⟩, h5, h6⟩ := h
  have hw := widR_le (Kern (keyN D.of))
  unfold namesOK at h5
  simp only [Bool.and_eq_true, decide_eq_true_eq] at h5
  refine ⟨h1, h2, h3, h5.1, by omega, by omega, fun s k1 k2 => ?_⟩
  have h7 := List.all_eq_true.1 h6 s (by simpa using k1)
  have := @rowOK_at D.of D.width D.next D.label D.names _ _ rfl rfl s k1 k2
  rw [show (⟨D.of, D.width, D.next, D.label, D.names⟩ : PDfa) = D from rfl] at this
  rw [this] at h7
  simp only [Bool.and_eq_true, decide_eq_true_eq, List.all_eq_true] at h7
  exact ⟨h7.1.1, h7.1.2.1, h7.1.2.2, h7.2⟩
theorem ReadsD.row {w : World} {V : VDfa} {D : PDfa} (h : ReadsD w V D) (s : Nat) (h1 : s < D.next.length) (h2 : s < D.label.length) : ∃ (b3 o3 b5 o5 : Nat) (ra : Option Addr) (rc : Nat), V.la = some ⟨b3, o3, none⟩ ∧ V.na = some ⟨b5, o5, none⟩ ∧
    ∀ w', Below w.heap.size w w' → w'.cell? ⟨b3, o3 + s, none⟩ = some (.int .i64 D.label[s]) ∧ w'.cell? ⟨b5, o5 + s, none⟩ = some (.slice ra D.next[s].length rc) ∧ SliceR w' (.slice ra D.next[s].length rc) 1 encI D.next[s] := by
  obtain ⟨_, _, h3, _, rows, h5, h6, h7⟩ := h
  obtain ⟨b5, o5, e5, _, _, a5, k5⟩ := h5.cells1
  obtain ⟨b3, o3, e3, _, _, a3, k3⟩ := h3.cells1
  have h8 : s < rows.length := by omega
  obtain ⟨ra, rc, hr, hs⟩ := h7 s h8 h1
  refine ⟨b3, o3, b5, o5, ra, rc, a3 s h2, a5 s h8, fun w' hb => ⟨k3 s h2 w' hb, ?_, hs.kept hb⟩⟩
  have := k5 s h8 w' hb
  rwa [hr] at this
/-- A state's words, and its line. -/
def rowWords (D : PDfa) (s : Nat) : List (List UInt8) := [115, 116, 97, 116, 101] :: showI s :: showI (D.label.getD s 0) :: (D.next.getD s []).map showI
def rowT (D : PDfa) (s : Nat) : List UInt8 := Lib.join (rowWords D s) [32]
theorem join_length : ∀ (l : List (List UInt8)) (d : Nat), (∀ x ∈ l, x.length ≤ d) → (Lib.join l [32]).length ≤ l.length * (d + 1)
  | [], _, _ => by rw [Lib.join_nil]; simp
  | x :: r, d, h => by
    rw [Lib.join_cons]
    have h2 : (Lib.joinTail [32] r).length ≤ r.length * (d + 1) := by
      have h3 : ∀ y ∈ r, y.length ≤ d := fun y hy => h y (by simp [hy])
      clear h x
      unfold Lib.joinTail
      induction r with
      | nil => simp
      | cons y r ih =>
        rw [List.map_cons, List.flatten_cons, List.length_append, List.length_cons, Nat.succ_mul]
        have := ih (fun z hz => h3 z (by simp [hz]))
        have := h3 y (by simp)
        simp only [List.length_append, List.length_cons, List.length_nil] at *
        omega
    rw [List.length_append, List.length_cons, Nat.succ_mul]
    have := h x (by simp)
    omega
theorem elem_str : ElemOK Tryz.prog 26 9 (.string ⟨#[]⟩) 1 16 := ⟨Tryz.underlying26, info_parts (by kernel_rfl), rfl, by decide⟩
/-- strings.Join with a blank between, of a slice of texts. -/
theorem join_words (a : Option Addr) (cap n : Nat) (l : List (List UInt8)) (w : World) (h : SliceR w (.slice a n cap) 1 encT l) (hl : l ≠ []) (h1 : l.length ≤ 140737488355328) (h2 : (Lib.join l [32]).length ≤ 140737488355328) :
    Calls Tryz.prog 31 #[.slice a n cap, .string ⟨#[32]⟩] w (Ret w (sv (Lib.join l [32]))) := by
  obtain ⟨b, o, hn, hc, _, ha, hk⟩ := h.cells1
  have h0 : 0 < l.length := by rcases l with _ | ⟨x, r⟩; exact absurd rfl hl; simp
  obtain rfl := ha 0 h0
  subst hn
  have e : (l.map bs).map (·.data.toList) = l := by rw [List.map_map]; conv => rhs; rw [← List.map_id l]
                                                    exact List.map_congr_left fun _ _ => rfl
  have c0 := hk 0 h0 w (Below.refl _ _)
  have := Tryz.strings_Join b o cap (l.map bs) (bs [32]) w (fun j x hx => by
    rw [List.getElem?_map] at hx
    have hj : j < l.length := by
      rcases Nat.lt_or_ge j l.length with h | h
      · exact h
      · rw [List.getElem?_eq_none h] at hx; cases hx
    rw [List.getElem?_eq_getElem hj] at hx
    rw [hk j hj w (Below.refl _ _)]
    exact congrArg some (congrArg Value.string (Option.some.inj hx))) (World.block_lt_of_cell? w _ c0) (by rw [List.length_map]; exact h1) (by rw [List.length_map]; exact hc) (by rw [e]; exact h2)
  rw [e, List.length_map] at this
  exact this
set_option maxRecDepth 20000 in
set_option maxHeartbeats 1600000 in
theorem list_row (V : VDfa) (D : PDfa) (s : Nat) (w : World) (h : ReadsD w V D) (hR : rightD D = true) (hs : s < D.label.length) : Calls Tryz.prog 36 #[.agg V.cells, .int .i64 s] w (Ret w (sv (rowT D s))) := by
  obtain ⟨f1, f2, f3, f4, f5, f6, f7⟩ := rightD_facts hR
  have hs2 : s < D.next.length := by omega
  obtain ⟨g1, g2, g3, g4⟩ := f7 s hs2 hs
  obtain ⟨b3, o3, b5, o5, ra, rc, hla, hna, hrow⟩ := h.row s hs2 hs
  obtain ⟨hln, hmn, hnn⟩ := h.lens
  obtain ⟨of, wd, na, nn, nc, la, ln, lc, ma, mn, mc⟩ := V
  dsimp only at hla hna hln hmn hnn
  subst hla hna
  have ew : rowWords D s = ([115, 116, 97, 116, 101] :: showI s :: showI D.label[s] :: D.next[s].map showI) := by
    unfold rowWords; simp only [List.getD_eq_getElem?_getD, List.getElem?_eq_getElem hs2, List.getElem?_eq_getElem hs, Option.getD_some]
  have et : rowT D s = Lib.join ([115, 116, 97, 116, 101] :: showI s :: showI D.label[s] :: D.next[s].map showI) [32] := by rw [rowT, ew]
  rw [et]
  clear ew et hR f7
  generalize D.label[s] = lab at *
  generalize D.next[s] = row at *
  obtain ⟨r, hr⟩ : ∃ r, row.length = r := ⟨_, rfl⟩
  rw [hr] at hrow g1
  have hsl := (hrow w (Below.refl _ _)).2.2
  obtain ⟨b6, o6, _, h61, h62, a6, k6⟩ := hsl.cells1
  have hrb : r ≤ 256 := by omega
  have hsb : (s : Int) ≤ 65536 := by omega
  have hlab : lab ≤ 65536 := by omega
  have hsn : (s : Int) < (ln : Int) := by omega
  have hsn2 : (s : Int) < (nn : Int) := by omega
  have hs0 : (0 : Int) ≤ (s : Int) := by omega
  have hsh := fun w => num_Show (s : Int) w (by omega) (by omega)
  have hsh2 := fun w => num_Show lab w (by omega) (by omega)
  have hsh3 : ∀ (q : Nat) (hq : q < row.length) (w : World), Calls Tryz.prog 33 #[.int .i64 row[q]] w (Ret w (sv (showI row[q]))) := fun q hq w => num_Show row[q] w (by have := g4 _ (List.getElem_mem hq); omega) (by have := g4 _ (List.getElem_mem hq); omega)
  have hws : ∀ x ∈ ([115, 116, 97, 116, 101] :: showI s :: showI lab :: row.map showI), x.length ≤ 19 := by
    intro x hx
    simp only [List.mem_cons, List.mem_map] at hx
    rcases hx with rfl | rfl | rfl | ⟨y, hy, rfl⟩
    · decide
    · exact showI_length _ (by omega)
    · exact showI_length _ (by omega)
    · have := g4 y hy; exact showI_length _ (by omega)
  have hjl := join_length _ 19 hws
  have hwl : ([115, 116, 97, 116, 101] :: showI s :: showI lab :: row.map showI).length = r + 3 := by simp [hr]
  rw [hwl] at hjl
  generalize showI (s : Int) = t1 at *
  generalize showI lab = t2 at *
  have hbx := Box.new w (VDfa.cells ⟨of, wd, some ⟨b5, o5, none⟩, nn, nc, some ⟨b3, o3, none⟩, ln, lc, ma, mn, mc⟩) 28
  have hB0 := later_alloc w (.cells (VDfa.cells ⟨of, wd, some ⟨b5, o5, none⟩, nn, nc, some ⟨b3, o3, none⟩, ln, lc, ma, mn, mc⟩) 28)
  have HF : Hid (∀ v, Later (w.alloc (.cells (VDfa.cells ⟨of, wd, some ⟨b5, o5, none⟩, nn, nc, some ⟨b3, o3, none⟩, ln, lc, ma, mn, mc⟩) 28)).drew v → Box v w.heap.size (VDfa.cells ⟨of, wd, some ⟨b5, o5, none⟩, nn, nc, some ⟨b3, o3, none⟩, ln, lc, ma, mn, mc⟩) 28 ∧ v.cell? ⟨b3, o3 + s, none⟩ = some (.int .i64 lab) ∧ v.cell? ⟨b5, o5 + s, none⟩ = some (.slice ra r rc) ∧ Below w.heap.size w v) := Lib.hid fun v hl => by
    have hB : Below w.heap.size w v := hB0.drew.trans (Below.mono hl (by simp))
    exact ⟨hbx.drew.kept hl, (hrow v hB).1, (hrow v hB).2.1, hB⟩
  have H1 := Lib.hid hsh
  have H2 := Lib.hid hsh2
  have H3 := Lib.hid hsh3
  have HR := Lib.hid hr
  have HA6 := Lib.hid a6
  have HK6 := Lib.hid k6
  have HWL := Lib.hid hwl
  have hrc : r ≤ rc := by omega
  clear hsh hsh2 hsh3 hr a6 k6 hbx hB0 hrow hws hsl g1 g2 g3 g4 f1 f2 f3 f4 f5 f6 hs hs2 h hln hmn hnn hwl h61 h62
  have hrc2 : r ≤ 9223372036854775807 := by omega
  go_enter Tryz.func36, Tryz.ntmps36
  go_wp2_with fail
  refine wp_region_M (R := Later) 10 (by kernel_rfl) ?_
  refine tkM 0 ?_ rfl (fun w1 hl => ?_) ?_
  rotate_left
  · obtain ⟨hbx, c3, c5, _⟩ := HF.out w1 hl; obtain ⟨x0, x1, x2, x3⟩ := hbx.dfa; dsimp only at x0 x1 x2 x3; go_simp; try with_reducible rfl
  simp only [eA, eB, Act.put, eD, eE, eF]
  refine tkM 2 ?_ rfl (fun w1 hl => ?_) ?_
  rotate_left
  · obtain ⟨hbx, c3, c5, _⟩ := HF.out w1 hl; obtain ⟨x0, x1, x2, x3⟩ := hbx.dfa; dsimp only at x0 x1 x2 x3; go_simp; try with_reducible rfl
  simp only [eA, eB, eC, Act.put, eD, eE, eF]
  refine tkM 3 ?_ rfl (fun w1 hl => ?_) ?_
  rotate_left
  · obtain ⟨hbx, c3, c5, _⟩ := HF.out w1 hl; obtain ⟨x0, x1, x2, x3⟩ := hbx.dfa; dsimp only at x0 x1 x2 x3; go_simp; try with_reducible rfl
  simp only [eA, eB, eC, Act.put, eD, eE, eF]
  refine tkM 4 ?_ rfl (fun w1 hl => ?_) ?_
  rotate_left
  · obtain ⟨hbx, c3, c5, _⟩ := HF.out w1 hl; obtain ⟨x0, x1, x2, x3⟩ := hbx.dfa; dsimp only at x0 x1 x2 x3; go_simp; try with_reducible rfl
  simp only [eA, eB, eC, Act.put, eD, eE, eF]
  refine tkM 5 ?_ rfl (fun w1 hl => ?_) ?_
  rotate_left
  · obtain ⟨hbx, c3, c5, _⟩ := HF.out w1 hl; obtain ⟨x0, x1, x2, x3⟩ := hbx.dfa; dsimp only at x0 x1 x2 x3; go_simp; try with_reducible rfl
  simp only [eA, eB, eC, Act.put, eD, eE, eF]
  refine tkM 6 ?_ rfl (fun w1 hl => ?_) ?_
  rotate_left
  · obtain ⟨hbx, c3, c5, _⟩ := HF.out w1 hl; obtain ⟨x0, x1, x2, x3⟩ := hbx.dfa; dsimp only at x0 x1 x2 x3; go_simp; try with_reducible rfl
  simp only [eA, eB, eC, Act.put, eD, eE, eF]
  refine wpM_call (t := 10) (i := 1) (f := ?_) (args := ?_) (v := ?_) rfl (by kernel_rfl) (by kernel_rfl) (by kernel_rfl) (by kernel_rfl) (fun _ _ _ h => h) (by rfl) (fun w1 => ?_) (fun w1 hl => ?_) ?_
  rotate_left 4
  · exact H1.out w1
  rotate_left
  · go_simp
  simp only [eA, eB, eC, Act.put, eD, eE, eF]
  refine wpM_call (t := 10) (i := 7) (f := ?_) (args := ?_) (v := ?_) rfl (by kernel_rfl) (by kernel_rfl) (by kernel_rfl) (by kernel_rfl) (fun _ _ _ h => h) (by rfl) (fun w1 => ?_) (fun w1 hl => ?_) ?_
  rotate_left 4
  · exact H2.out w1
  rotate_left
  · go_simp
  simp only [eA, eB, eC, Act.put, eD, eE, eF]
  refine wpM_one (t := 10) (i := 8) (by kernel_rfl) rfl (fun w1 hl K hK => ?_)
  go_simp
  refine hK.out _ _ (fun _ => later_alloc _ _) ?_
  have ho : Own (w1.alloc (.cells #[.string ⟨#[115, 116, 97, 116, 101]⟩, sv t1, sv t2] 9)) w1.heap.size 9 1 encT (.slice (some ⟨w1.heap.size, 0, none⟩) 3 3) [[115, 116, 97, 116, 101], t1, t2] := Own.fresh encT_ok w1 w1.heap.size 9 [[115, 116, 97, 116, 101], t1, t2] (by simp [maxLen]) (Nat.le_refl _)
  have HF2 : Hid (∀ v, Later (w1.alloc (.cells #[.string ⟨#[115, 116, 97, 116, 101]⟩, sv t1, sv t2] 9)) v → _) := Lib.hid fun v h2 => HF.out v (Later.trans _ _ _ (Later.trans _ _ _ hl (later_alloc _ _)) h2)
  have hwb := (HF.out w1 hl).2.2.2.size
  clear hK K
  refine tkM 9 ?_ rfl (fun w1 hl => ?_) ?_
  rotate_left
  · skip; go_simp; try with_reducible rfl
  simp only [eA, eB, eC, Act.put, eD, eE, eF]
  refine wpM_done (by kernel_rfl) (fun w1 hl => ?_) _
  have ho1 := ho.kept hl
  obtain ⟨hbx, c3, c5, hB⟩ := HF2.out w1 hl
  obtain ⟨x0, x1, x2, x3⟩ := hbx.dfa
  dsimp only at x0 x1 x2 x3
  have ho2 := ho1.mono hwb
  have HB := Lib.hid hB
  clear ho ho1 HF hB hwb
  go_wp2
  clear x0 x1 x2 x3 hbx c3 c5 HF2 hl
  go_loopw [5, 23] (fun v i wr => ∃ (q m : Nat) (a : Option Addr) (cap : Nat), q ≤ r ∧ i = .int .i64 q ∧ v = .slice a m cap ∧ Own wr w.heap.size 9 1 encT (.slice a m cap) ([115, 116, 97, 116, 101] :: t1 :: t2 :: (row.take q).map showI) ∧ Below w.heap.size w wr) (fun _ i _ => r - (intOf i).toNat)
  case atStart => exact ⟨0, 3, _, 3, Nat.zero_le _, rfl, rfl, ho2, HB.out⟩
  case round =>
    clear ho2
    obtain ⟨q, m, a, cap, hq, rfl, rfl, hown, hB⟩ := hrel
    by_cases hlt : q < r
    · have hq2 : q < row.length := by rw [HR.out]; exact hlt
      obtain rfl := HA6.out q hq2
      have c6 := HK6.out q hq2 wr hB
      have hsh := H3.out q hq2
      have htk : ([115, 116, 97, 116, 101] :: t1 :: t2 :: (row.take (q + 1)).map showI) = ([115, 116, 97, 116, 101] :: t1 :: t2 :: (row.take q).map showI) ++ [showI row[q]] := by
        rw [List.take_succ_eq_append_getElem hq2, List.map_append]; rfl
      have hm := hown.open.1
      have hml : ([115, 116, 97, 116, 101] :: t1 :: t2 :: (row.take q).map showI).length ≤ q + 3 := by simp; omega
      generalize row[q] = tt at *
      generalize ([115, 116, 97, 116, 101] :: t1 :: t2 :: (row.take q).map showI) = ws at *
      have hmb : m ≤ 300 := by omega
      have hwsb : ws.length ≤ 300 := by omega
      generalize showI tt = t3 at *
      have HSH := Lib.hid hsh
      have HTK := Lib.hid htk
      have hq0 : (0 : Int) ≤ (q : Int) := by omega
      have hqm : (q : Int) < (r : Int) := by omega
      clear hsh htk hm hml
      go_wp2_with (first | (go_at_call 33; go_must (refine (HSH.out _).mono ?_; rintro e w5 ⟨rfl, hb5⟩; have hown5 := hown.kept hb5)) | (at_builtin; go_must (refine wpList_append1 rfl _ _ 26 rfl elem_str encT_ok rfl (hown5.alloc _) ⟨w5.heap.size, 0, none⟩ 1 t3 rfl (new_cells w5 [sv t3] _) (by simp [maxLen]; omega) (by omega) (by have := hb5.size; have := hB.size; simp at *; omega) ?_; intro a2 cap2 W' hown' hg)))
      go_roundw
      case rel =>
        have h6 := hB.trans (hb5.mono hB.size)
        have h7 := h6.alloc h6.size (.cells #[sv t3] 9)
        exact ⟨q + 1, _, a2, cap2, hlt, by go_num, rfl, by rw [HTK.out]; exact hown', below_grown h7 (hown5.alloc _) hg (Nat.le_refl _) h7.size⟩
      case measure => simp [intOf]; omega
    · obtain rfl : q = r := by omega
      have htk : row.take q = row := List.take_of_length_le (by rw [HR.out]; exact Nat.le_refl _)
      rw [htk] at hown
      have hj := fun w1 (hb : Below wr.heap.size wr w1) => join_words a cap m _ w1 ((hown.kept hb).slice encT_ok) (by simp) (by rw [HWL.out]; omega) (by omega)
      have HJ := Lib.hid (hj wr (Below.refl _ _))
      generalize Lib.join ([115, 116, 97, 116, 101] :: t1 :: t2 :: List.map showI row) [32] = res at *
      clear hj hown htk
      go_wp2_with (go_at_call 31; go_must (refine HJ.out.mono ?_; rintro e w9 ⟨rfl, hB9⟩))
      go_ret
      exact ⟨rfl, hB.trans (hB9.mono hB.size)⟩
end Go.Proofs.YtdhmekpgplajmaaGreatDoor
end
section
namespace Go.Proofs.YtdhmekpgplajmaaGreatDoor
open Go.RowKit
theorem lays_WriteString : Go.Proofs.Lays.n166 Tryz.prog Tryz.lays156_ren := { Tryz.lays156 with }
def ren167 : Go.Shelf.Ren := ⟨fun | 167 => 32 | n => Tryz.lays156_ren.f n, Tryz.lays156_ren.t, Tryz.lays156_ren.g⟩
theorem lays_WriteByte : Go.Proofs.Lays.n167 Tryz.prog ren167 := {
  mixed := Tryz.lays156.mixed
  f167 := Tryz.func32.trans (congrArg some (by kernel_rfl))
  f240 := Tryz.func57.trans (congrArg some (by kernel_rfl))
  f276 := Tryz.func85.trans (congrArg some (by kernel_rfl))
  t0 := Tryz.lays156.t0, a0 := Tryz.lays156.a0, z0 := Tryz.lays156.z0, v0 := Tryz.lays156.v0
  t4 := Tryz.lays156.t4, a4 := Tryz.lays156.a4, z4 := Tryz.lays156.z4, v4 := Tryz.lays156.v4
  t5 := Tryz.Builder_Extra_156.t5, a5 := Tryz.Builder_Extra_156.a5, z5 := Tryz.Builder_Extra_156.z5, v5 := Tryz.Builder_Extra_156.v5
  t9 := Tryz.lays156.t9, a9 := Tryz.lays156.a9, z9 := Tryz.lays156.z9, v9 := Tryz.lays156.v9
  t20 := Tryz.lays156.t20, a20 := Tryz.lays156.a20, z20 := Tryz.lays156.z20, v20 := Tryz.lays156.v20
  t37 := Tryz.lays156.t37, a37 := Tryz.lays156.a37, z37 := Tryz.lays156.z37, v37 := Tryz.lays156.v37
  t70 := Tryz.lays156.t70, a70 := Tryz.lays156.a70, z70 := Tryz.lays156.z70, v70 := Tryz.lays156.v70
  t72 := Tryz.lays156.t72, a72 := Tryz.lays156.a72, z72 := Tryz.lays156.z72, v72 := Tryz.lays156.v72
  t75 := Tryz.lays156.t75, a75 := Tryz.lays156.a75, z75 := Tryz.lays156.z75, v75 := Tryz.lays156.v75
  t164 := Tryz.lays156.t164, a164 := Tryz.lays156.a164, z164 := Tryz.lays156.z164, v164 := Tryz.lays156.v164 }
theorem extra_WriteByte : Go.Proofs.Builder.Extra Tryz.prog ren167 := {
  sizeBuilder := by kernel_rfl
  liesBuilder := by kernel_rfl
  t5 := Tryz.Builder_Extra_156.t5, a5 := Tryz.Builder_Extra_156.a5, z5 := Tryz.Builder_Extra_156.z5, v5 := Tryz.Builder_Extra_156.v5
  infoByte := by kernel_rfl
  cellsByte := by kernel_rfl
  sizeByte := by kernel_rfl
  neB5 := by decide }
/-- A builder in block b, its bytes from base B on; it holds l. -/
def Bld (B b : Nat) (l : List UInt8) (w : World) : Prop := Lib.IsBuilderF 58 5 B b (Lib.byteCells l) w
/-- What stands beside a builder stands as it stood. -/
def Beside (b : Nat) (w w' : World) : Prop := Lib.OthersKept 5 (some b) w w'
theorem Beside.box {b g E : Nat} {c : Array Value} {w w' : World} (h : Beside b w w') (hb : Box w g c E) (hg : g ≠ b) (hE : E ≠ 5) : Box w' g c E :=
  h g _ hb (fun e => hg (Option.some.inj e)) (fun c' fz e => hE (by cases e; rfl))
theorem Bld.block {B b : Nat} {l : List UInt8} {w : World} (h : Bld B b l w) : ∃ c, Box w b c 58 := by
  rcases h with ⟨_, v, hv, _⟩ | ⟨_, v, hv, _⟩ <;> exact ⟨_, hv⟩
theorem Beside.own {α : Type} {B b base E size : Nat} {enc : α → List Value} {v : Value} {xs : List α} {l : List UInt8} {w w' : World} (h : Beside b w w') (hB : Bld B b l w) (ho : Own w base E size enc v xs) (h1 : E ≠ 5) (h2 : E ≠ 58) : Own w' base E size enc v xs := by
  obtain ⟨a, cap, hv, hle, hm, hh⟩ := ho
  refine ⟨a, cap, hv, hle, hm, ?_⟩
  rcases hh with hh | ⟨g, cur, ha, hbg, hgb, hr⟩
  · exact .inl hh
  · refine .inr ⟨g, cur, ha, hbg, h.box hgb (fun e => ?_) h1, hr⟩
    subst e
    obtain ⟨c, hc⟩ := hB.block
    exact h2 (hgb.type_eq hc)
theorem Bld.kept {B b : Nat} {l : List UInt8} {w w' : World} (h : Bld B b l w) (hb : Below w.heap.size w w') : Bld B b l w' := by
  have key : ∀ p, Lib.BuilderAtF 58 5 B b p (Lib.byteCells l) w → Lib.BuilderAtF 58 5 B b p (Lib.byteCells l) w' := by
    rintro p ⟨h1, v, h2, h3, h4⟩
    refine ⟨h1, v, (show Box w b _ _ from h2).kept hb, ?_, h4⟩
    obtain ⟨e, h5⟩ := h3
    refine ⟨e, ?_⟩
    rcases h5 with h5 | ⟨g, cap, cur, fz, e1, e2, e3, e4⟩
    · exact .inl h5
    · exact .inr ⟨g, cap, cur, fz, e1, e2, (hb.block g (Array.getElem?_eq_some_iff.1 e3).1).trans e3, e4⟩
  exact h.imp (key _) (key _)
theorem Bld.fresh {B : Nat} {w : World} (hB : B ≤ w.heap.size) : Bld B w.heap.size [] (w.alloc (.cells #[.pointer none, .slice none 0 0] 58)) :=
  .inl ⟨hB, _, Box.new w _ _, ⟨rfl, .inl ⟨rfl, rfl⟩⟩, by simp [Value.ownBlock]⟩
theorem Bld.at {B b : Nat} {l : List UInt8} {w : World} (h : Bld B b l w) : B ≤ b ∧ b < w.heap.size := by
  rcases h with ⟨h1, v, hv, _⟩ | ⟨h1, v, hv, _⟩ <;> exact ⟨h1, (show Box w b _ _ from hv).lt⟩
/-- Behind a write. -/
def Wrote (B b : Nat) (l : List UInt8) (r : Value) (w : World) (e : Ending) (w' : World) : Prop := e = .returned r ∧ Bld B b l w' ∧ Below B w w' ∧ Beside b w w'
theorem b_WriteString (B b : Nat) (l s : List UInt8) (w : World) (h : Bld B b l w) (hlen : l.length + s.length ≤ 140737488355328) (hBw : B ≤ w.heap.size) :
    Calls Tryz.prog 30 #[.pointer (some ⟨b, 0, none⟩), sv s] w (Wrote B b (l ++ s) (.tuple #[.int .i64 s.length, .nilIface]) w) := by
  refine (Any.Builder_WriteString_k lays_WriteString Tryz.Builder_Extra_156 B b (Lib.byteCells l) (bs s) w h (by rw [sv_size]; simpa [Lib.byteCells] using hlen) hBw).mono ?_
  rintro e w' ⟨rfl, h1, h2, h3⟩
  refine ⟨by rw [sv_size], ?_, h2, h3⟩
  have : Lib.byteCells (l ++ s) = Lib.byteCells l ++ Lib.strCells (bs s) := by simp [Lib.byteCells, Lib.strCells]
  unfold Bld; rw [this]; exact .inr h1
theorem b_WriteByte (B b : Nat) (l : List UInt8) (c : UInt8) (w : World) (h : Bld B b l w) (hlen : l.length + 1 ≤ 140737488355328) (hBw : B ≤ w.heap.size) :
    Calls Tryz.prog 32 #[.pointer (some ⟨b, 0, none⟩), .int .u8 (c.toNat : Nat)] w (Wrote B b (l ++ [c]) .nilIface w) := by
  refine (Any.Builder_WriteByte_k lays_WriteByte extra_WriteByte B b (Lib.byteCells l) (c.toNat : Nat) w h (by simpa [Lib.byteCells] using hlen) hBw).mono ?_
  rintro e w' ⟨rfl, h1, h2, h3⟩
  refine ⟨rfl, ?_, h2, h3⟩
  have : Lib.byteCells (l ++ [c]) = Lib.byteCells l ++ [.int .u8 (c.toNat : Nat)] := by simp [Lib.byteCells]
  unfold Bld; rw [this]; exact .inr h1
theorem b_String (B b : Nat) (l : List UInt8) (w : World) (h : Bld B b l w) (hBw : B ≤ w.heap.size) :
    Calls Tryz.prog 37 #[.pointer (some ⟨b, 0, none⟩)] w (Wrote B b l (sv l) w) := by
  refine (Any.Builder_String_any_k Tryz.lays169 Tryz.Builder_Extra_169 B b l w h hBw).mono ?_
  rintro e w' ⟨rfl, h1, h2, h3⟩
  exact ⟨rfl, h1, h2, h3⟩
theorem text_line (B b : Nat) (l : List UInt8) (a : Option Addr) (cap n : Nat) (ws : List (List UInt8)) (w : World) (h : Bld B b l w) (hs : SliceR w (.slice a n cap) 1 encT ws) (hne : ws ≠ []) (h1 : ws.length ≤ 140737488355328) (h2 : l.length + (Lib.join ws [32]).length + 1 ≤ 140737488355328) (hBw : B ≤ w.heap.size) :
    Calls Tryz.prog 29 #[.slice a n cap, .pointer (some ⟨b, 0, none⟩)] w (Wrote B b (l ++ (Lib.join ws [32] ++ [10])) (.tuple #[]) w) := by
  have hj := join_words a cap n ws w hs hne h1 (by omega)
  generalize Lib.join ws [32] = s at *
  have HJ := Lib.hid hj
  have HB := Lib.hid h
  clear hj hs h
  go_enter Tryz.func29, Tryz.ntmps29
  go_wp2_with (first | (go_at_call 31; go_must (refine HJ.out.mono ?_; rintro e w1 ⟨rfl, hB1⟩)) | (go_at_call 30; go_must (refine (b_WriteString B b l s _ (HB.out.kept hB1) (by omega) (Nat.le_trans hBw hB1.size)).mono ?_; rintro e w2 ⟨rfl, hb2, hB2, ho2⟩)) | (go_at_call 32; go_must (refine (b_WriteByte B b (l ++ s) 10 _ hb2 (by simp; omega) (by have := hB1.size; have := hB2.size; omega)).mono ?_; rintro e w3 ⟨rfl, hb3, hB3, ho3⟩)))
  go_end0
  refine ⟨rfl, by rw [← List.append_assoc]; exact hb3, ((hB1.mono hBw).trans hB2).trans hB3, ?_⟩
  have hk1 : Beside b w w1 := fun k o hk _ _ => (hB1.block k (Array.getElem?_eq_some_iff.1 hk).1).trans hk
  exact (hk1.trans ho2).trans ho3
end Go.Proofs.YtdhmekpgplajmaaGreatDoor
end
