/- Joined by tools/merge.py: DfaRight, ListRow, Builder, OpenD. -/
import Derived.Test.YtdhmekpgplajmaaDoorJ16
import Derived.Test.YtdhmekpgplajmaaDoorJ3
import Derived.Test.YtdhmekpgplajmaaDoorJ9
import Derived.Shelf.Strings.BuilderK
import Derived.Test.YtdhmekpgplajmaaDoorJ4
section
namespace Go.Proofs.YtdhmekpgplajmaaDoor
open Go.RowKit
set_option maxRecDepth 20000 in
set_option maxHeartbeats 1600000 in
theorem dfa_Right (V : VDfa) (D : PDfa) (w : World) (h : ReadsD w V D) (hl : ∀ x ∈ D.names, x.length ≤ 9223372036854775807) : Calls Tryd.prog 8 #[.agg V.cells] w (Ret w (.bool (rightD D))) := by
  have hbx := Box.new w V.cells 27
  have hB0 := later_alloc w (.cells V.cells 27)
  obtain ⟨x0, x1, x2, x3⟩ := hbx.dfa
  obtain ⟨e1, e2, e3⟩ := h.lens
  have hk := fun w1 (hb : Below w.heap.size w w1) => h.kept hb
  have hpr := fun w1 => parts_Right V.of V.width w1
  have hnm := fun w1 (hb : Below w.heap.size w w1) => dfa_names V.ma V.mc V.mn D.names w1 (by have := h.2.2.2.1; rw [← e2] at *; exact this.kept hb) hl
  have hrw := fun w1 (hb : Below w.heap.size w w1) hnl => dfa_rows V D w1 (h.kept hb) hnl
  have hnb : V.ln ≤ 9223372036854775807 := by obtain ⟨_, _, _, c3, c3', _⟩ := h.2.2.1.cells1; omega
  have hnb2 : V.nn ≤ 9223372036854775807 := by obtain ⟨_, h5, _, _⟩ := h.2.2.2.2; obtain ⟨_, _, _, c3, c3', _⟩ := h5.cells1; omega
  have hr : rightD D = ((decide (1 ≤ V.ln) && (decide (V.ln ≤ 65536) && decide (V.nn = V.ln))) && ((sameArr (numR (Kern (keyN V.of))) V.of && ((widR (Kern (keyN V.of)) : Nat) == V.width)) && (namesOK D.names && rowsTo D D.next.length))) := by
    rw [e1, e3, h.1, h.2.1]; rfl
  have hnl2 : V.nn = V.ln → D.next.length = D.label.length := fun e => by omega
  rw [hr]
  have hnl3 := Lib.hid hnl2
  have HPR := Lib.hid hpr
  have HNM := Lib.hid hnm
  clear hk hpr hnm hr hnl2 e1 e2 e3
  generalize hp : (sameArr (numR (Kern (keyN V.of))) V.of && ((widR (Kern (keyN V.of)) : Nat) == V.width)) = p at *
  generalize namesOK D.names = nm at *
  generalize rowsTo D D.next.length = rw at *
  clear hp h hl
  by_cases b1 : 1 ≤ V.ln
  · have e1 : decide (1 ≤ (V.ln : Int)) = true := by simp; omega
    by_cases b2 : V.ln ≤ 65536
    · have e2 : decide ((V.ln : Int) ≤ 65536) = true := by simp; omega
      by_cases b3 : V.nn = V.ln
      · have HRW := Lib.hid (fun w1 hb => hrw w1 hb (hnl3.out b3))
        have q : (decide (1 ≤ V.ln) && (decide (V.ln ≤ 65536) && decide (V.nn = V.ln))) = true := by simp [b1, b2, b3]
        rw [q, Bool.true_and]
        have e3 : ((V.nn : Int) == (V.ln : Int)) = true := by simp [b3]
        have e3' : (V.nn == V.ln) = true := by simp [b3]
        clear b1 b2 b3 q hrw
        cases p with
        | false =>
          go_enter Tryd.func8, Tryd.ntmps8
          go_wp2_with (first | (refine wpList_load_of (by rfl) 22 _ rfl w.heap.size rfl hbx Tryd.underlying22 rfl (size_256 _) ?_) | (go_at_call 26; go_must (refine (HPR.out _).mono ?_; rintro e w1 ⟨rfl, hB1⟩; have hbx1 := hbx.kept hB1; have hB1 := hB0.trans (hB1.mono (by simp)); obtain ⟨y0, y1, y2, y3⟩ := hbx1.dfa)) | (go_at_call 27; go_must (refine (HNM.out _ hB1).mono ?_; rintro e w2 ⟨rfl, hB2⟩; have hbx2 := hbx1.kept hB2; have hB2 := hB1.trans (hB2.mono hB1.size))) | (refine wpList_load_row_g (by rfl) 27 _ rfl w.heap.size rfl _ _ _ _ hbx2 Tryd.underlying27 rfl (size_dfa _) ?_) | (go_at_call 28; go_must (refine (HRW.out _ hB2).mono ?_; rintro e w3 ⟨rfl, hB3⟩)))
          go_ret
          exact ⟨rfl, hB1⟩
        | true =>
          cases nm with
          | false =>
            go_enter Tryd.func8, Tryd.ntmps8
            go_wp2_with (first | (refine wpList_load_of (by rfl) 22 _ rfl w.heap.size rfl hbx Tryd.underlying22 rfl (size_256 _) ?_) | (go_at_call 26; go_must (refine (HPR.out _).mono ?_; rintro e w1 ⟨rfl, hB1⟩; have hbx1 := hbx.kept hB1; have hB1 := hB0.trans (hB1.mono (by simp)); obtain ⟨y0, y1, y2, y3⟩ := hbx1.dfa)) | (go_at_call 27; go_must (refine (HNM.out _ hB1).mono ?_; rintro e w2 ⟨rfl, hB2⟩; have hbx2 := hbx1.kept hB2; have hB2 := hB1.trans (hB2.mono hB1.size))) | (refine wpList_load_row_g (by rfl) 27 _ rfl w.heap.size rfl _ _ _ _ hbx2 Tryd.underlying27 rfl (size_dfa _) ?_) | (go_at_call 28; go_must (refine (HRW.out _ hB2).mono ?_; rintro e w3 ⟨rfl, hB3⟩)))
            go_ret
            exact ⟨rfl, hB2⟩
          | true =>
            go_enter Tryd.func8, Tryd.ntmps8
            go_wp2_with (first | (refine wpList_load_of (by rfl) 22 _ rfl w.heap.size rfl hbx Tryd.underlying22 rfl (size_256 _) ?_) | (go_at_call 26; go_must (refine (HPR.out _).mono ?_; rintro e w1 ⟨rfl, hB1⟩; have hbx1 := hbx.kept hB1; have hB1 := hB0.trans (hB1.mono (by simp)); obtain ⟨y0, y1, y2, y3⟩ := hbx1.dfa)) | (go_at_call 27; go_must (refine (HNM.out _ hB1).mono ?_; rintro e w2 ⟨rfl, hB2⟩; have hbx2 := hbx1.kept hB2; have hB2 := hB1.trans (hB2.mono hB1.size))) | (refine wpList_load_row_g (by rfl) 27 _ rfl w.heap.size rfl _ _ _ _ hbx2 Tryd.underlying27 rfl (size_dfa _) ?_) | (go_at_call 28; go_must (refine (HRW.out _ hB2).mono ?_; rintro e w3 ⟨rfl, hB3⟩)))
            go_ret
            exact ⟨rfl, hB2.trans (hB3.mono hB2.size)⟩
      · have q : (decide (1 ≤ V.ln) && (decide (V.ln ≤ 65536) && decide (V.nn = V.ln))) = false := by simp [b3]
        rw [q, Bool.false_and]
        have e3 : ((V.nn : Int) == (V.ln : Int)) = false := by simp; omega
        have e3' : (V.nn == V.ln) = false := by simp [b3]
        clear b1 b2 b3 q hrw
        go_enter Tryd.func8, Tryd.ntmps8
        go_wp2
        go_ret
        exact ⟨rfl, hB0⟩
    · have q : (decide (1 ≤ V.ln) && (decide (V.ln ≤ 65536) && decide (V.nn = V.ln))) = false := by simp [b2]
      rw [q, Bool.false_and]
      have e2 : decide ((V.ln : Int) ≤ 65536) = false := by simp; omega
      clear b1 b2 q hrw
      go_enter Tryd.func8, Tryd.ntmps8
      go_wp2
      go_ret
      exact ⟨rfl, hB0⟩
  · have q : (decide (1 ≤ V.ln) && (decide (V.ln ≤ 65536) && decide (V.nn = V.ln))) = false := by simp [b1]
    rw [q, Bool.false_and]
    have e1 : decide (1 ≤ (V.ln : Int)) = false := by simp; omega
    clear b1 q hrw
    go_enter Tryd.func8, Tryd.ntmps8
    go_wp2
    go_ret
    exact ⟨rfl, hB0⟩
end Go.Proofs.YtdhmekpgplajmaaDoor
end
section
namespace Go.Proofs.YtdhmekpgplajmaaDoor
open Go.RowKit
theorem Own.fresh {α : Type} {enc : α → List Value} {size : Nat} (he : EncOK enc size) (w : World) (base E : Nat) (xs : List α) (hm : xs.length ≤ maxLen) (hb : base ≤ w.heap.size) :
    Own (w.alloc (.cells (xs.flatMap enc).toArray E)) base E size enc (.slice (some ⟨w.heap.size, 0, none⟩) xs.length xs.length) xs :=
  ⟨_, xs.length, rfl, Nat.le_refl _, hm, .inr ⟨w.heap.size, _, rfl, hb, Box.new _ _ _, by simp [flatMap_length he.len], fun i hi j hj => by
    simpa using flatMap_get he.len xs i j hi hj⟩⟩
theorem rightD_facts {D : PDfa} (h : rightD D = true) : 1 ≤ D.label.length ∧ D.label.length ≤ 65536 ∧ D.next.length = D.label.length ∧ D.names.length ≤ 64 ∧ 0 ≤ D.width ∧ D.width ≤ 256 ∧
    (∀ s (h1 : s < D.next.length) (h2 : s < D.label.length), ((D.next[s].length : Nat) : Int) = D.width ∧ 0 ≤ D.label[s] ∧ D.label[s] ≤ (D.names.length : Nat) ∧ ∀ t ∈ D.next[s], 0 ≤ t ∧ t < (D.label.length : Nat)) := by
  unfold rightD at h
  simp only [Bool.and_eq_true, decide_eq_true_eq, beq_iff_eq] at h
  obtain ⟨⟨h1, h2, h3⟩, ⟨_, h4⟩, h5, h6⟩ := h
  have hw := widR_le (Kern (keyN D.of))
  unfold namesOK at h5
  simp only [Bool.and_eq_true, decide_eq_true_eq] at h5
  refine ⟨h1, h2, h3, h5.1, by omega, by omega, fun s k1 k2 => ?_⟩
  have h7 := List.all_eq_true.1 h6 s (by simpa using k1)
  have := @rowOK_at D.of D.width D.next D.label D.names _ _ rfl rfl s k1 k2
  rw [show (⟨D.of, D.width, D.next, D.label, D.names⟩ : PDfa) = D from rfl] at this
  rw [this] at h7
  simp only [Bool.and_eq_true, decide_eq_true_eq, List.all_eq_true] at h7
  exact ⟨h7.1.1, h7.1.2.1, h7.1.2.2, h7.2⟩
theorem ReadsD.row {w : World} {V : VDfa} {D : PDfa} (h : ReadsD w V D) (s : Nat) (h1 : s < D.next.length) (h2 : s < D.label.length) : ∃ (b3 o3 b5 o5 : Nat) (ra : Option Addr) (rc : Nat), V.la = some ⟨b3, o3, none⟩ ∧ V.na = some ⟨b5, o5, none⟩ ∧
    ∀ w', Below w.heap.size w w' → w'.cell? ⟨b3, o3 + s, none⟩ = some (.int .i64 D.label[s]) ∧ w'.cell? ⟨b5, o5 + s, none⟩ = some (.slice ra D.next[s].length rc) ∧ SliceR w' (.slice ra D.next[s].length rc) 1 encI D.next[s] := by
  obtain ⟨_, _, h3, _, rows, h5, h6, h7⟩ := h
  obtain ⟨b5, o5, e5, _, _, a5, k5⟩ := h5.cells1
  obtain ⟨b3, o3, e3, _, _, a3, k3⟩ := h3.cells1
  have h8 : s < rows.length := by omega
  obtain ⟨ra, rc, hr, hs⟩ := h7 s h8 h1
  refine ⟨b3, o3, b5, o5, ra, rc, a3 s h2, a5 s h8, fun w' hb => ⟨k3 s h2 w' hb, ?_, hs.kept hb⟩⟩
  have := k5 s h8 w' hb
  rwa [hr] at this
/-- A state's words, and its line. -/
def rowWords (D : PDfa) (s : Nat) : List (List UInt8) := [115, 116, 97, 116, 101] :: showI s :: showI (D.label.getD s 0) :: (D.next.getD s []).map showI
def rowT (D : PDfa) (s : Nat) : List UInt8 := Lib.join (rowWords D s) [32]
theorem join_length : ∀ (l : List (List UInt8)) (d : Nat), (∀ x ∈ l, x.length ≤ d) → (Lib.join l [32]).length ≤ l.length * (d + 1)
  | [], _, _ => by rw [Lib.join_nil]; simp
  | x :: r, d, h => by
    rw [Lib.join_cons]
    have h2 : (Lib.joinTail [32] r).length ≤ r.length * (d + 1) := by
      have h3 : ∀ y ∈ r, y.length ≤ d := fun y hy => h y (by simp [hy])
      clear h x
      unfold Lib.joinTail
      induction r with
      | nil => simp
      | cons y r ih =>
        rw [List.map_cons, List.flatten_cons, List.length_append, List.length_cons, Nat.succ_mul]
        have := ih (fun z hz => h3 z (by simp [hz]))
        have := h3 y (by simp)
        simp only [List.length_append, List.length_cons, List.length_nil] at *
        omega
    rw [List.length_append, List.length_cons, Nat.succ_mul]
    have := h x (by simp)
    omega
theorem elem_str : ElemOK Tryd.prog 25 9 (.string ⟨#[]⟩) 1 16 := ⟨Tryd.underlying25, info_parts (by kernel_rfl), rfl, by decide⟩
/-- strings.Join with a blank between, of a slice of texts. -/
theorem join_words (a : Option Addr) (cap n : Nat) (l : List (List UInt8)) (w : World) (h : SliceR w (.slice a n cap) 1 encT l) (hl : l ≠ []) (h1 : l.length ≤ 140737488355328) (h2 : (Lib.join l [32]).length ≤ 140737488355328) :
    Calls Tryd.prog 11 #[.slice a n cap, .string ⟨#[32]⟩] w (Ret w (sv (Lib.join l [32]))) := by
  obtain ⟨b, o, hn, hc, _, ha, hk⟩ := h.cells1
  have h0 : 0 < l.length := by rcases l with _ | ⟨x, r⟩; exact absurd rfl hl; simp
  obtain rfl := ha 0 h0
  subst hn
  have e : (l.map bs).map (·.data.toList) = l := by rw [List.map_map]; conv => rhs; rw [← List.map_id l]
                                                    exact List.map_congr_left fun _ _ => rfl
  have c0 := hk 0 h0 w (Below.refl _ _)
  have := Tryd.strings_Join b o cap (l.map bs) (bs [32]) w (fun j x hx => by
    rw [List.getElem?_map] at hx
    have hj : j < l.length := by
      rcases Nat.lt_or_ge j l.length with h | h
      · exact h
      · rw [List.getElem?_eq_none h] at hx; cases hx
    rw [List.getElem?_eq_getElem hj] at hx
    rw [hk j hj w (Below.refl _ _)]
    exact congrArg some (congrArg Value.string (Option.some.inj hx))) (World.block_lt_of_cell? w _ c0) (by rw [List.length_map]; exact h1) (by rw [List.length_map]; exact hc) (by rw [e]; exact h2)
  rw [e, List.length_map] at this
  exact this
set_option maxRecDepth 20000 in
set_option maxHeartbeats 1600000 in
theorem list_row (V : VDfa) (D : PDfa) (s : Nat) (w : World) (h : ReadsD w V D) (hR : rightD D = true) (hs : s < D.label.length) : Calls Tryd.prog 16 #[.agg V.cells, .int .i64 s] w (Ret w (sv (rowT D s))) := by
  obtain ⟨f1, f2, f3, f4, f5, f6, f7⟩ := rightD_facts hR
  have hs2 : s < D.next.length := by omega
  obtain ⟨g1, g2, g3, g4⟩ := f7 s hs2 hs
  obtain ⟨b3, o3, b5, o5, ra, rc, hla, hna, hrow⟩ := h.row s hs2 hs
  obtain ⟨hln, hmn, hnn⟩ := h.lens
  obtain ⟨of, wd, na, nn, nc, la, ln, lc, ma, mn, mc⟩ := V
  dsimp only at hla hna hln hmn hnn
  subst hla hna
  have ew : rowWords D s = ([115, 116, 97, 116, 101] :: showI s :: showI D.label[s] :: D.next[s].map showI) := by
    unfold rowWords; simp only [List.getD_eq_getElem?_getD, List.getElem?_eq_getElem hs2, List.getElem?_eq_getElem hs, Option.getD_some]
  have et : rowT D s = Lib.join ([115, 116, 97, 116, 101] :: showI s :: showI D.label[s] :: D.next[s].map showI) [32] := by rw [rowT, ew]
  rw [et]
  clear ew et hR f7
  generalize D.label[s] = lab at *
  generalize D.next[s] = row at *
  obtain ⟨r, hr⟩ : ∃ r, row.length = r := ⟨_, rfl⟩
  rw [hr] at hrow g1
  have hsl := (hrow w (Below.refl _ _)).2.2
  obtain ⟨b6, o6, _, h61, h62, a6, k6⟩ := hsl.cells1
  have hrb : r ≤ 256 := by omega
  have hsb : (s : Int) ≤ 65536 := by omega
  have hlab : lab ≤ 65536 := by omega
  have hsn : (s : Int) < (ln : Int) := by omega
  have hsn2 : (s : Int) < (nn : Int) := by omega
  have hs0 : (0 : Int) ≤ (s : Int) := by omega
  have hsh := fun w => num_Show (s : Int) w (by omega) (by omega)
  have hsh2 := fun w => num_Show lab w (by omega) (by omega)
  have hsh3 : ∀ (q : Nat) (hq : q < row.length) (w : World), Calls Tryd.prog 13 #[.int .i64 row[q]] w (Ret w (sv (showI row[q]))) := fun q hq w => num_Show row[q] w (by have := g4 _ (List.getElem_mem hq); omega) (by have := g4 _ (List.getElem_mem hq); omega)
  have hws : ∀ x ∈ ([115, 116, 97, 116, 101] :: showI s :: showI lab :: row.map showI), x.length ≤ 19 := by
    intro x hx
    simp only [List.mem_cons, List.mem_map] at hx
    rcases hx with rfl | rfl | rfl | ⟨y, hy, rfl⟩
    · decide
    · exact showI_length _ (by omega)
    · exact showI_length _ (by omega)
    · have := g4 y hy; exact showI_length _ (by omega)
  have hjl := join_length _ 19 hws
  have hwl : ([115, 116, 97, 116, 101] :: showI s :: showI lab :: row.map showI).length = r + 3 := by simp [hr]
  rw [hwl] at hjl
  generalize showI (s : Int) = t1 at *
  generalize showI lab = t2 at *
  have hbx := Box.new w (VDfa.cells ⟨of, wd, some ⟨b5, o5, none⟩, nn, nc, some ⟨b3, o3, none⟩, ln, lc, ma, mn, mc⟩) 27
  have hB0 := later_alloc w (.cells (VDfa.cells ⟨of, wd, some ⟨b5, o5, none⟩, nn, nc, some ⟨b3, o3, none⟩, ln, lc, ma, mn, mc⟩) 27)
  have HF : Hid (∀ v, Later (w.alloc (.cells (VDfa.cells ⟨of, wd, some ⟨b5, o5, none⟩, nn, nc, some ⟨b3, o3, none⟩, ln, lc, ma, mn, mc⟩) 27)).drew v → Box v w.heap.size (VDfa.cells ⟨of, wd, some ⟨b5, o5, none⟩, nn, nc, some ⟨b3, o3, none⟩, ln, lc, ma, mn, mc⟩) 27 ∧ v.cell? ⟨b3, o3 + s, none⟩ = some (.int .i64 lab) ∧ v.cell? ⟨b5, o5 + s, none⟩ = some (.slice ra r rc) ∧ Below w.heap.size w v) := Lib.hid fun v hl => by
    have hB : Below w.heap.size w v := hB0.drew.trans (Below.mono hl (by simp))
    exact ⟨hbx.drew.kept hl, (hrow v hB).1, (hrow v hB).2.1, hB⟩
  have H1 := Lib.hid hsh
  have H2 := Lib.hid hsh2
  have H3 := Lib.hid hsh3
  have HR := Lib.hid hr
  have HA6 := Lib.hid a6
  have HK6 := Lib.hid k6
  have HWL := Lib.hid hwl
  have hrc : r ≤ rc := by omega
  clear hsh hsh2 hsh3 hr a6 k6 hbx hB0 hrow hws hsl g1 g2 g3 g4 f1 f2 f3 f4 f5 f6 hs hs2 h hln hmn hnn hwl h61 h62
  have hrc2 : r ≤ 9223372036854775807 := by omega
  go_enter Tryd.func16, Tryd.ntmps16
  go_wp2_with fail
  refine wp_region_M (R := Later) 10 (by kernel_rfl) ?_
  refine wpM_take (t := 10) (i := 0) (v := ?_) rfl (by kernel_rfl) (by kernel_rfl) (by kernel_rfl) (by kernel_rfl) (fun _ _ _ h => h) (by rfl) (fun w1 hl => ?_) ?_
  rotate_left
  · obtain ⟨hbx, c3, c5, _⟩ := HF.out w1 hl; obtain ⟨x0, x1, x2, x3⟩ := hbx.dfa; dsimp only at x0 x1 x2 x3; go_simp; try with_reducible rfl
  simp only [List.getElem_toArray, List.getElem_cons_zero, Act.put, List.setIfInBounds_toArray, List.set_cons_zero, List.set_cons_succ]
  refine wpM_take (t := 10) (i := 2) (v := ?_) rfl (by kernel_rfl) (by kernel_rfl) (by kernel_rfl) (by kernel_rfl) (fun _ _ _ h => h) (by rfl) (fun w1 hl => ?_) ?_
  rotate_left
  · obtain ⟨hbx, c3, c5, _⟩ := HF.out w1 hl; obtain ⟨x0, x1, x2, x3⟩ := hbx.dfa; dsimp only at x0 x1 x2 x3; go_simp; try with_reducible rfl
  simp only [List.getElem_toArray, List.getElem_cons_zero, List.getElem_cons_succ, Act.put, List.setIfInBounds_toArray, List.set_cons_zero, List.set_cons_succ]
  refine wpM_take (t := 10) (i := 3) (v := ?_) rfl (by kernel_rfl) (by kernel_rfl) (by kernel_rfl) (by kernel_rfl) (fun _ _ _ h => h) (by rfl) (fun w1 hl => ?_) ?_
  rotate_left
  · obtain ⟨hbx, c3, c5, _⟩ := HF.out w1 hl; obtain ⟨x0, x1, x2, x3⟩ := hbx.dfa; dsimp only at x0 x1 x2 x3; go_simp; try with_reducible rfl
  simp only [List.getElem_toArray, List.getElem_cons_zero, List.getElem_cons_succ, Act.put, List.setIfInBounds_toArray, List.set_cons_zero, List.set_cons_succ]
  refine wpM_take (t := 10) (i := 4) (v := ?_) rfl (by kernel_rfl) (by kernel_rfl) (by kernel_rfl) (by kernel_rfl) (fun _ _ _ h => h) (by rfl) (fun w1 hl => ?_) ?_
  rotate_left
  · obtain ⟨hbx, c3, c5, _⟩ := HF.out w1 hl; obtain ⟨x0, x1, x2, x3⟩ := hbx.dfa; dsimp only at x0 x1 x2 x3; go_simp; try with_reducible rfl
  simp only [List.getElem_toArray, List.getElem_cons_zero, List.getElem_cons_succ, Act.put, List.setIfInBounds_toArray, List.set_cons_zero, List.set_cons_succ]
  refine wpM_take (t := 10) (i := 5) (v := ?_) rfl (by kernel_rfl) (by kernel_rfl) (by kernel_rfl) (by kernel_rfl) (fun _ _ _ h => h) (by rfl) (fun w1 hl => ?_) ?_
  rotate_left
  · obtain ⟨hbx, c3, c5, _⟩ := HF.out w1 hl; obtain ⟨x0, x1, x2, x3⟩ := hbx.dfa; dsimp only at x0 x1 x2 x3; go_simp; try with_reducible rfl
  simp only [List.getElem_toArray, List.getElem_cons_zero, List.getElem_cons_succ, Act.put, List.setIfInBounds_toArray, List.set_cons_zero, List.set_cons_succ]
  refine wpM_take (t := 10) (i := 6) (v := ?_) rfl (by kernel_rfl) (by kernel_rfl) (by kernel_rfl) (by kernel_rfl) (fun _ _ _ h => h) (by rfl) (fun w1 hl => ?_) ?_
  rotate_left
  · obtain ⟨hbx, c3, c5, _⟩ := HF.out w1 hl; obtain ⟨x0, x1, x2, x3⟩ := hbx.dfa; dsimp only at x0 x1 x2 x3; go_simp; try with_reducible rfl
  simp only [List.getElem_toArray, List.getElem_cons_zero, List.getElem_cons_succ, Act.put, List.setIfInBounds_toArray, List.set_cons_zero, List.set_cons_succ]
  refine wpM_call (t := 10) (i := 1) (f := ?_) (args := ?_) (v := ?_) rfl (by kernel_rfl) (by kernel_rfl) (by kernel_rfl) (by kernel_rfl) (fun _ _ _ h => h) (by rfl) (fun w1 => ?_) (fun w1 hl => ?_) ?_
  rotate_left 4
  · exact H1.out w1
  rotate_left
  · go_simp
  simp only [List.getElem_toArray, List.getElem_cons_zero, List.getElem_cons_succ, Act.put, List.setIfInBounds_toArray, List.set_cons_zero, List.set_cons_succ]
  refine wpM_call (t := 10) (i := 7) (f := ?_) (args := ?_) (v := ?_) rfl (by kernel_rfl) (by kernel_rfl) (by kernel_rfl) (by kernel_rfl) (fun _ _ _ h => h) (by rfl) (fun w1 => ?_) (fun w1 hl => ?_) ?_
  rotate_left 4
  · exact H2.out w1
  rotate_left
  · go_simp
  simp only [List.getElem_toArray, List.getElem_cons_zero, List.getElem_cons_succ, Act.put, List.setIfInBounds_toArray, List.set_cons_zero, List.set_cons_succ]
  refine wpM_one (t := 10) (i := 8) (by kernel_rfl) rfl (fun w1 hl K hK => ?_)
  go_simp
  refine hK.out _ _ (fun _ => later_alloc _ _) ?_
  have ho : Own (w1.alloc (.cells #[.string ⟨#[115, 116, 97, 116, 101]⟩, sv t1, sv t2] 9)) w1.heap.size 9 1 encT (.slice (some ⟨w1.heap.size, 0, none⟩) 3 3) [[115, 116, 97, 116, 101], t1, t2] := Own.fresh encT_ok w1 w1.heap.size 9 [[115, 116, 97, 116, 101], t1, t2] (by simp [maxLen]) (Nat.le_refl _)
  have HF2 : Hid (∀ v, Later (w1.alloc (.cells #[.string ⟨#[115, 116, 97, 116, 101]⟩, sv t1, sv t2] 9)) v → _) := Lib.hid fun v h2 => HF.out v (Later.trans _ _ _ (Later.trans _ _ _ hl (later_alloc _ _)) h2)
  have hwb := (HF.out w1 hl).2.2.2.size
  clear hK K
  refine wpM_take (t := 10) (i := 9) (v := ?_) rfl (by kernel_rfl) (by kernel_rfl) (by kernel_rfl) (by kernel_rfl) (fun _ _ _ h => h) (by rfl) (fun w1 hl => ?_) ?_
  rotate_left
  · skip; go_simp; try with_reducible rfl
  simp only [List.getElem_toArray, List.getElem_cons_zero, List.getElem_cons_succ, Act.put, List.setIfInBounds_toArray, List.set_cons_zero, List.set_cons_succ]
  refine wpM_done (by kernel_rfl) (fun w1 hl => ?_) _
  have ho1 := ho.kept hl
  obtain ⟨hbx, c3, c5, hB⟩ := HF2.out w1 hl
  obtain ⟨x0, x1, x2, x3⟩ := hbx.dfa
  dsimp only at x0 x1 x2 x3
  have ho2 := ho1.mono hwb
  have HB := Lib.hid hB
  clear ho ho1 HF hB hwb
  go_wp2
  clear x0 x1 x2 x3 hbx c3 c5 HF2 hl
  go_loopw [5, 23] (fun v i wr => ∃ (q m : Nat) (a : Option Addr) (cap : Nat), q ≤ r ∧ i = .int .i64 q ∧ v = .slice a m cap ∧ Own wr w.heap.size 9 1 encT (.slice a m cap) ([115, 116, 97, 116, 101] :: t1 :: t2 :: (row.take q).map showI) ∧ Below w.heap.size w wr) (fun _ i _ => r - (intOf i).toNat)
  case atStart => exact ⟨0, 3, _, 3, Nat.zero_le _, rfl, rfl, ho2, HB.out⟩
  case round =>
    clear ho2
    obtain ⟨q, m, a, cap, hq, rfl, rfl, hown, hB⟩ := hrel
    by_cases hlt : q < r
    · have hq2 : q < row.length := by rw [HR.out]; exact hlt
      obtain rfl := HA6.out q hq2
      have c6 := HK6.out q hq2 wr hB
      have hsh := H3.out q hq2
      have htk : ([115, 116, 97, 116, 101] :: t1 :: t2 :: (row.take (q + 1)).map showI) = ([115, 116, 97, 116, 101] :: t1 :: t2 :: (row.take q).map showI) ++ [showI row[q]] := by
        rw [List.take_succ_eq_append_getElem hq2, List.map_append]; rfl
      have hm := hown.open.1
      have hml : ([115, 116, 97, 116, 101] :: t1 :: t2 :: (row.take q).map showI).length ≤ q + 3 := by simp; omega
      generalize row[q] = tt at *
      generalize ([115, 116, 97, 116, 101] :: t1 :: t2 :: (row.take q).map showI) = ws at *
      have hmb : m ≤ 300 := by omega
      have hwsb : ws.length ≤ 300 := by omega
      generalize showI tt = t3 at *
      have HSH := Lib.hid hsh
      have HTK := Lib.hid htk
      have hq0 : (0 : Int) ≤ (q : Int) := by omega
      have hqm : (q : Int) < (r : Int) := by omega
      clear hsh htk hm hml
      go_wp2_with (first | (go_at_call 13; go_must (refine (HSH.out _).mono ?_; rintro e w5 ⟨rfl, hb5⟩; have hown5 := hown.kept hb5)) | (at_builtin; go_must (refine wpList_append1 rfl _ _ 25 rfl elem_str encT_ok rfl (hown5.alloc _) ⟨w5.heap.size, 0, none⟩ 1 t3 rfl (new_cells w5 [sv t3] _) (by simp [maxLen]; omega) (by omega) (by have := hb5.size; have := hB.size; simp at *; omega) ?_; intro a2 cap2 W' hown' hg)))
      go_roundw
      case rel =>
        have h6 := hB.trans (hb5.mono hB.size)
        have h7 := h6.alloc h6.size (.cells #[sv t3] 9)
        exact ⟨q + 1, _, a2, cap2, hlt, by go_num, rfl, by rw [HTK.out]; exact hown', below_grown h7 (hown5.alloc _) hg (Nat.le_refl _) h7.size⟩
      case measure => simp [intOf]; omega
    · obtain rfl : q = r := by omega
      have htk : row.take q = row := List.take_of_length_le (by rw [HR.out]; exact Nat.le_refl _)
      rw [htk] at hown
      have hj := fun w1 (hb : Below wr.heap.size wr w1) => join_words a cap m _ w1 ((hown.kept hb).slice encT_ok) (by simp) (by rw [HWL.out]; omega) (by omega)
      have HJ := Lib.hid (hj wr (Below.refl _ _))
      generalize Lib.join ([115, 116, 97, 116, 101] :: t1 :: t2 :: List.map showI row) [32] = res at *
      clear hj hown htk
      go_wp2_with (go_at_call 11; go_must (refine HJ.out.mono ?_; rintro e w9 ⟨rfl, hB9⟩))
      go_ret
      exact ⟨rfl, hB.trans (hB9.mono hB.size)⟩
end Go.Proofs.YtdhmekpgplajmaaDoor
end
section
namespace Go.Proofs.YtdhmekpgplajmaaDoor
open Go.RowKit
theorem lays_WriteString : Go.Proofs.Lays.n166 Tryd.prog Tryd.lays156_ren := { Tryd.lays156 with }
def ren167 : Go.Shelf.Ren := ⟨fun | 167 => 12 | n => Tryd.lays156_ren.f n, Tryd.lays156_ren.t, Tryd.lays156_ren.g⟩
theorem lays_WriteByte : Go.Proofs.Lays.n167 Tryd.prog ren167 := {
  mixed := Tryd.lays156.mixed
  f167 := Tryd.func12.trans (congrArg some (by kernel_rfl))
  f240 := Tryd.func29.trans (congrArg some (by kernel_rfl))
  f276 := Tryd.func45.trans (congrArg some (by kernel_rfl))
  t0 := Tryd.lays156.t0, a0 := Tryd.lays156.a0, z0 := Tryd.lays156.z0, v0 := Tryd.lays156.v0
  t4 := Tryd.lays156.t4, a4 := Tryd.lays156.a4, z4 := Tryd.lays156.z4, v4 := Tryd.lays156.v4
  t5 := Tryd.Builder_Extra_156.t5, a5 := Tryd.Builder_Extra_156.a5, z5 := Tryd.Builder_Extra_156.z5, v5 := Tryd.Builder_Extra_156.v5
  t9 := Tryd.lays156.t9, a9 := Tryd.lays156.a9, z9 := Tryd.lays156.z9, v9 := Tryd.lays156.v9
  t20 := Tryd.lays156.t20, a20 := Tryd.lays156.a20, z20 := Tryd.lays156.z20, v20 := Tryd.lays156.v20
  t37 := Tryd.lays156.t37, a37 := Tryd.lays156.a37, z37 := Tryd.lays156.z37, v37 := Tryd.lays156.v37
  t70 := Tryd.lays156.t70, a70 := Tryd.lays156.a70, z70 := Tryd.lays156.z70, v70 := Tryd.lays156.v70
  t72 := Tryd.lays156.t72, a72 := Tryd.lays156.a72, z72 := Tryd.lays156.z72, v72 := Tryd.lays156.v72
  t75 := Tryd.lays156.t75, a75 := Tryd.lays156.a75, z75 := Tryd.lays156.z75, v75 := Tryd.lays156.v75
  t164 := Tryd.lays156.t164, a164 := Tryd.lays156.a164, z164 := Tryd.lays156.z164, v164 := Tryd.lays156.v164 }
theorem extra_WriteByte : Go.Proofs.Builder.Extra Tryd.prog ren167 := {
  sizeBuilder := by kernel_rfl
  liesBuilder := by kernel_rfl
  t5 := Tryd.Builder_Extra_156.t5, a5 := Tryd.Builder_Extra_156.a5, z5 := Tryd.Builder_Extra_156.z5, v5 := Tryd.Builder_Extra_156.v5
  infoByte := by kernel_rfl
  cellsByte := by kernel_rfl
  sizeByte := by kernel_rfl
  neB5 := by decide }
/-- A builder in block b, its bytes from base B on; it holds l. -/
def Bld (B b : Nat) (l : List UInt8) (w : World) : Prop := Lib.IsBuilderF 40 5 B b (Lib.byteCells l) w
/-- What stands beside a builder stands as it stood. -/
def Beside (b : Nat) (w w' : World) : Prop := Lib.OthersKept 5 (some b) w w'
theorem Beside.box {b g E : Nat} {c : Array Value} {w w' : World} (h : Beside b w w') (hb : Box w g c E) (hg : g ≠ b) (hE : E ≠ 5) : Box w' g c E :=
  h g _ hb (fun e => hg (Option.some.inj e)) (fun c' fz e => hE (by cases e; rfl))
theorem Bld.block {B b : Nat} {l : List UInt8} {w : World} (h : Bld B b l w) : ∃ c, Box w b c 40 := by
  rcases h with ⟨_, v, hv, _⟩ | ⟨_, v, hv, _⟩ <;> exact ⟨_, hv⟩
theorem Beside.own {α : Type} {B b base E size : Nat} {enc : α → List Value} {v : Value} {xs : List α} {l : List UInt8} {w w' : World} (h : Beside b w w') (hB : Bld B b l w) (ho : Own w base E size enc v xs) (h1 : E ≠ 5) (h2 : E ≠ 40) : Own w' base E size enc v xs := by
  obtain ⟨a, cap, hv, hle, hm, hh⟩ := ho
  refine ⟨a, cap, hv, hle, hm, ?_⟩
  rcases hh with hh | ⟨g, cur, ha, hbg, hgb, hr⟩
  · exact .inl hh
  · refine .inr ⟨g, cur, ha, hbg, h.box hgb (fun e => ?_) h1, hr⟩
    subst e
    obtain ⟨c, hc⟩ := hB.block
    exact h2 (hgb.type_eq hc)
theorem Bld.kept {B b : Nat} {l : List UInt8} {w w' : World} (h : Bld B b l w) (hb : Below w.heap.size w w') : Bld B b l w' := by
  have key : ∀ p, Lib.BuilderAtF 40 5 B b p (Lib.byteCells l) w → Lib.BuilderAtF 40 5 B b p (Lib.byteCells l) w' := by
    rintro p ⟨h1, v, h2, h3, h4⟩
    refine ⟨h1, v, (show Box w b _ _ from h2).kept hb, ?_, h4⟩
    obtain ⟨e, h5⟩ := h3
    refine ⟨e, ?_⟩
    rcases h5 with h5 | ⟨g, cap, cur, fz, e1, e2, e3, e4⟩
    · exact .inl h5
    · exact .inr ⟨g, cap, cur, fz, e1, e2, (hb.block g (Array.getElem?_eq_some_iff.1 e3).1).trans e3, e4⟩
  exact h.imp (key _) (key _)
theorem Bld.fresh {B : Nat} {w : World} (hB : B ≤ w.heap.size) : Bld B w.heap.size [] (w.alloc (.cells #[.pointer none, .slice none 0 0] 40)) :=
  .inl ⟨hB, _, Box.new w _ _, ⟨rfl, .inl ⟨rfl, rfl⟩⟩, by simp [Value.ownBlock]⟩
theorem Bld.at {B b : Nat} {l : List UInt8} {w : World} (h : Bld B b l w) : B ≤ b ∧ b < w.heap.size := by
  rcases h with ⟨h1, v, hv, _⟩ | ⟨h1, v, hv, _⟩ <;> exact ⟨h1, (show Box w b _ _ from hv).lt⟩
/-- Behind a write. -/
def Wrote (B b : Nat) (l : List UInt8) (r : Value) (w : World) (e : Ending) (w' : World) : Prop := e = .returned r ∧ Bld B b l w' ∧ Below B w w' ∧ Beside b w w'
theorem b_WriteString (B b : Nat) (l s : List UInt8) (w : World) (h : Bld B b l w) (hlen : l.length + s.length ≤ 140737488355328) (hBw : B ≤ w.heap.size) :
    Calls Tryd.prog 10 #[.pointer (some ⟨b, 0, none⟩), sv s] w (Wrote B b (l ++ s) (.tuple #[.int .i64 s.length, .nilIface]) w) := by
  refine (Any.Builder_WriteString_k lays_WriteString Tryd.Builder_Extra_156 B b (Lib.byteCells l) (bs s) w h (by rw [sv_size]; simpa [Lib.byteCells] using hlen) hBw).mono ?_
  rintro e w' ⟨rfl, h1, h2, h3⟩
  refine ⟨by rw [sv_size], ?_, h2, h3⟩
  have : Lib.byteCells (l ++ s) = Lib.byteCells l ++ Lib.strCells (bs s) := by simp [Lib.byteCells, Lib.strCells]
  unfold Bld; rw [this]; exact .inr h1
theorem b_WriteByte (B b : Nat) (l : List UInt8) (c : UInt8) (w : World) (h : Bld B b l w) (hlen : l.length + 1 ≤ 140737488355328) (hBw : B ≤ w.heap.size) :
    Calls Tryd.prog 12 #[.pointer (some ⟨b, 0, none⟩), .int .u8 (c.toNat : Nat)] w (Wrote B b (l ++ [c]) .nilIface w) := by
  refine (Any.Builder_WriteByte_k lays_WriteByte extra_WriteByte B b (Lib.byteCells l) (c.toNat : Nat) w h (by simpa [Lib.byteCells] using hlen) hBw).mono ?_
  rintro e w' ⟨rfl, h1, h2, h3⟩
  refine ⟨rfl, ?_, h2, h3⟩
  have : Lib.byteCells (l ++ [c]) = Lib.byteCells l ++ [.int .u8 (c.toNat : Nat)] := by simp [Lib.byteCells]
  unfold Bld; rw [this]; exact .inr h1
theorem b_String (B b : Nat) (l : List UInt8) (w : World) (h : Bld B b l w) (hBw : B ≤ w.heap.size) :
    Calls Tryd.prog 17 #[.pointer (some ⟨b, 0, none⟩)] w (Wrote B b l (sv l) w) := by
  refine (Any.Builder_String_any_k Tryd.lays169 Tryd.Builder_Extra_169 B b l w h hBw).mono ?_
  rintro e w' ⟨rfl, h1, h2, h3⟩
  exact ⟨rfl, h1, h2, h3⟩
theorem text_line (B b : Nat) (l : List UInt8) (a : Option Addr) (cap n : Nat) (ws : List (List UInt8)) (w : World) (h : Bld B b l w) (hs : SliceR w (.slice a n cap) 1 encT ws) (hne : ws ≠ []) (h1 : ws.length ≤ 140737488355328) (h2 : l.length + (Lib.join ws [32]).length + 1 ≤ 140737488355328) (hBw : B ≤ w.heap.size) :
    Calls Tryd.prog 9 #[.slice a n cap, .pointer (some ⟨b, 0, none⟩)] w (Wrote B b (l ++ (Lib.join ws [32] ++ [10])) (.tuple #[]) w) := by
  have hj := join_words a cap n ws w hs hne h1 (by omega)
  generalize Lib.join ws [32] = s at *
  have HJ := Lib.hid hj
  have HB := Lib.hid h
  clear hj hs h
  go_enter Tryd.func9, Tryd.ntmps9
  go_wp2_with (first | (go_at_call 11; go_must (refine HJ.out.mono ?_; rintro e w1 ⟨rfl, hB1⟩)) | (go_at_call 10; go_must (refine (b_WriteString B b l s _ (HB.out.kept hB1) (by omega) (Nat.le_trans hBw hB1.size)).mono ?_; rintro e w2 ⟨rfl, hb2, hB2, ho2⟩)) | (go_at_call 12; go_must (refine (b_WriteByte B b (l ++ s) 10 _ hb2 (by simp; omega) (by have := hB1.size; have := hB2.size; omega)).mono ?_; rintro e w3 ⟨rfl, hb3, hB3, ho3⟩)))
  go_end0
  refine ⟨rfl, by rw [← List.append_assoc]; exact hb3, ((hB1.mono hBw).trans hB2).trans hB3, ?_⟩
  have hk1 : Beside b w w1 := fun k o hk _ _ => (hB1.block k (Array.getElem?_eq_some_iff.1 hk).1).trans hk
  exact (hk1.trans ho2).trans ho3
end Go.Proofs.YtdhmekpgplajmaaDoor
end
section
namespace Go.Proofs.YtdhmekpgplajmaaDoor
open Go.ChangeShapes Go.WideShapes Go.ChangeAt Go.RowKit Go.Deep
/-- The machine of the witnesses. -/
def zDfa : Value := .agg (Array.replicate 256 (.int .u8 0) ++ #[.int .i64 0, .slice none 0 0, .slice none 0 0, .slice none 0 0])
theorem sv_of (s : ByteArray) : Value.string s = sv s.data.toList := by
  unfold sv; cases s; rfl
theorem choose_ltA {α : Type} [Inhabited α] {n : Nat} {Q : Nat → α → Prop} (h : ∀ i, i < n → ∃ x, Q i x) : ∃ f : Nat → α, ∀ i, i < n → Q i (f i) :=
  ⟨fun i => if hi : i < n then (h i hi).choose else default, fun i hi => by simp only [hi, dif_pos]; exact (h i hi).choose_spec⟩
structure DfaTys (P : Program) (tD tA tU tI tN tL tM tS : TypeId) (fs : Array Field) : Prop where
  dfa : P.underlying tD = some (.struct fs)
  flds : fs.map (fun f => (f.type, f.offset)) = #[(tA, 0), (tI, 256), (tN, 257), (tL, 258), (tM, 259)]
  arr : P.underlying tA = some (.array 256 tU)
  u8 : P.underlying tU = some (.int .u8)
  int : P.underlying tI = some (.int .i64)
  rows : P.underlying tN = some (.slice tL)
  ints : P.underlying tL = some (.slice tI)
  strs : P.underlying tM = some (.slice tS)
  str : P.underlying tS = some .string
  cD : P.cellsOf tD = 260
  cA : P.cellsOf tA = 256
  cU : P.cellsOf tU = 1
  cI : P.cellsOf tI = 1
  cN : P.cellsOf tN = 1
  cL : P.cellsOf tL = 1
  cM : P.cellsOf tM = 1
  cS : P.cellsOf tS = 1
theorem dfaTys : ∃ fs, DfaTys Tryd.prog 27 22 5 3 23 24 25 9 fs :=
  ⟨_, Tryd.underlying27, by kernel_rfl, Tryd.underlying22, Tryd.underlying5, Tryd.underlying3, Tryd.underlying23, Tryd.underlying24, Tryd.underlying25, Tryd.underlying9,
    by kernel_rfl, by kernel_rfl, by kernel_rfl, by kernel_rfl, by kernel_rfl, by kernel_rfl, by kernel_rfl, by kernel_rfl⟩
section
variable {H : Type} {enc : TypeId × Value → H} {P : Program} {w : World} {base : Nat} {spare : Nat → Bool} {held : Bool}
/-- A slice whose elements have one cell each. -/
theorem trod_slice1 {α : Type} [Inhabited α] {f : α → Value} {Ok : α → Prop} {t e : TypeId} (hs : P.underlying t = some (.slice e)) (hc : P.cellsOf e = 1) (fuel : Nat)
    (ih : ∀ m c x, DataW.trod enc P w base spare held m e [c] = some x → ∃ y : α, c = f y ∧ Ok y)
    {c : Value} {x : DataW H × List MemPlace} (h : DataW.trod enc P w base spare held fuel t [c] = some x) :
    ∃ (a : Option Addr) (cap : Nat) (l : List α), c = .slice a l.length cap ∧ SliceR w (.slice a l.length cap) 1 (fun x => [f x]) l ∧ ∀ i (h : i < l.length), Ok l[i] := by
  rcases DataW.trod_slice hs h with ⟨h0, _⟩ | ⟨a', len, cap, elems, rest, n, hf, h0, _, _, hle, hm, _, hel, _⟩
  · simp at h0
    exact ⟨none, 0, [], h0, ⟨none, 0, 0, 0, rfl, Nat.le_refl _, by simp [maxLen], .inr ⟨rfl, fun _ => rfl⟩, fun i hi => by simp at hi⟩, fun i hi => by simp at hi⟩
  · simp at h0
    subst h0
    have key : ∀ i, i < len → ∃ y : α, w.cell? (a'.add i) = some (f y) ∧ Ok y := fun i hi => by
      have h1 := hel i hi
      rw [hc, Nat.mul_one, List.getElem?_eq_getElem (show i < elems.length by omega)] at h1
      obtain ⟨cs', h2, h3⟩ := Option.bind_eq_some_iff.1 h1
      obtain ⟨h5, _, h4⟩ := World.cells?_some h2
      match cs', h5, h3, h4 with
      | [c], _, h3, h4 =>
        obtain ⟨y, rfl, hy⟩ := ih n _ _ h3
        refine ⟨y, ?_, hy⟩
        have := h4 0 (by simp)
        simpa [Addr.add] using this
    obtain ⟨g, hg⟩ := choose_ltA key
    have hspot : 0 < len → a'.spot = none := fun h0 => by
      have := World.cell?_spot (hg 0 h0).1
      simpa [Addr.add] using this
    obtain ⟨b, o, spot⟩ := a'
    refine ⟨some ⟨b, o, spot⟩, cap, (List.range len).map g, by simp, ⟨some ⟨b, o, spot⟩, b, o, cap, by simp, by simpa using hle, hm, ?_, fun i hi j u hu => ?_⟩, fun i hi => ?_⟩
    · by_cases h0 : len = 0
      · exact .inr ⟨by simp [h0], fun h => by cases h⟩
      · have h1 := hspot (by omega)
        simp only at h1
        exact .inl (by rw [h1])
    · have hi' : i < len := by simpa using hi
      have := (hg i hi').1
      have hs2 : spot = none := hspot (by omega)
      subst hs2
      rw [Addr.add_mid] at this
      have hj : j = 0 := by have := (List.getElem?_eq_some_iff.1 hu).1; simpa using this
      subst hj
      simp at hu
      rw [← hu, Nat.mul_one, Nat.add_zero]; exact this
    · have hi' : i < len := by simpa using hi
      simpa using (hg i hi').2
/-- A machine that comes in. -/
theorem trod_dfa {tD tA tU tI tN tL tM tS : TypeId} {fs : Array Field} (N : DfaTys P tD tA tU tI tN tL tM tS fs) {fuel : Nat} {cs : List Value} {x : DataW H × List MemPlace} (h : DataW.trod enc P w base spare held fuel tD cs = some x) :
    ∃ (V : VDfa) (D : PDfa), cs = V.cells.toList ∧ ReadsD w V D ∧ (∀ b, V.of b < 256) ∧ (∀ x ∈ D.names, x.length ≤ 9223372036854775807) ∧ (Lit.int .i64 D.width).wf = true ∧ (∀ x ∈ D.label, (Lit.int .i64 x).wf = true) ∧ ∀ r ∈ D.next, ∀ x ∈ r, (Lit.int .i64 x).wf = true := by
  obtain ⟨xs, n, hfu, _, hl, hxl, hf⟩ := DataW.trod_struct N.dfa h
  rw [N.cD] at hl
  have fl := N.flds
  obtain ⟨f0, f1, f2, f3, f4, rfl⟩ : ∃ a b c d e, fs = #[a, b, c, d, e] := by
    obtain ⟨l⟩ := fs
    have : l.length = 5 := by have := congrArg Array.size fl; simpa using this
    match l, this with
    | [a, b, c, d, e], _ => exact ⟨a, b, c, d, e, rfl⟩
  simp only [List.map_toArray, List.map_cons, List.map_nil, Array.mk.injEq, List.cons.injEq, Prod.mk.injEq, and_true] at fl
  obtain ⟨⟨t0, o0⟩, ⟨t1, o1⟩, ⟨t2, o2⟩, ⟨t3, o3⟩, ⟨t4, o4⟩⟩ := fl
  have e0 := hf 0 f0 rfl; have e1 := hf 1 f1 rfl; have e2 := hf 2 f2 rfl; have e3 := hf 3 f3 rfl; have e4 := hf 4 f4 rfl
  rw [t0, o0, N.cA] at e0; rw [t1, o1, N.cI] at e1; rw [t2, o2, N.cN] at e2; rw [t3, o3, N.cL] at e3; rw [t4, o4, N.cM] at e4
  simp only [List.size_toArray, List.length_cons, List.length_nil] at hxl
  rw [List.getElem?_eq_getElem (by omega)] at e0 e1 e2 e3 e4
  have one : ∀ k, k < 260 → (cs.drop k).take 1 = [cs.getD k default] := fun k hk => by
    rw [List.drop_eq_getElem_cons (by omega), List.take_succ_cons, List.take_zero]
    simp [List.getD, List.getElem?_eq_getElem (show k < cs.length by omega)]
  rw [one 256 (by decide)] at e1; rw [one 257 (by decide)] at e2; rw [one 258 (by decide)] at e3; rw [one 259 (by decide)] at e4
  rw [List.drop_zero] at e0
  obtain ⟨of, c0, hof⟩ := trod_arr8 N.arr N.u8 N.cU N.cA e0
  obtain ⟨wd, c1, _, hwd⟩ := DataW.trod_int N.int e1
  have ints : ∀ m c x, DataW.trod enc P w base spare held m tI [c] = some x → ∃ y : Int, c = .int .i64 y ∧ (Lit.int .i64 y).wf = true := fun m c x h => by
    obtain ⟨z, h1, _, h2⟩ := DataW.trod_int N.int h
    simp at h1
    exact ⟨z, h1, h2⟩
  have rows : ∀ m c x, DataW.trod enc P w base spare held m tL [c] = some x → ∃ y : Value, c = y ∧ ∃ (r : List Int) (a : Option Addr) (cap : Nat), y = .slice a r.length cap ∧ SliceR w (.slice a r.length cap) 1 encI r ∧ ∀ x ∈ r, (Lit.int .i64 x).wf = true := fun m c x h => by
    obtain ⟨a, cap, l, h1, h2, h3⟩ := trod_slice1 (f := Value.int .i64) N.ints N.cI m ints h
    exact ⟨c, rfl, l, a, cap, h1, h2, fun x hx => by obtain ⟨i, hi, rfl⟩ := List.getElem_of_mem hx; exact h3 i hi⟩
  have strs : ∀ m c x, DataW.trod enc P w base spare held m tS [c] = some x → ∃ y : List UInt8, c = sv y ∧ y.length ≤ 9223372036854775807 := fun m c x h => by
    obtain ⟨s, h1, _, h2⟩ := DataW.trod_string N.str h
    simp at h1
    refine ⟨s.data.toList, by rw [h1, sv_of], ?_⟩
    rw [Array.length_toList]; exact h2
  obtain ⟨na, nc, vrows, c2, n1, n2⟩ := trod_slice1 (f := id) N.rows N.cL _ rows e2
  obtain ⟨la, lc, lab, c3, l1, l2⟩ := trod_slice1 (f := Value.int .i64) N.ints N.cI _ ints e3
  obtain ⟨ma, mc, nms, c4, m1, m2⟩ := trod_slice1 (f := sv) N.strs N.cS _ strs e4
  obtain ⟨g, hg⟩ := choose_ltA (n := vrows.length) (Q := fun i (r : List Int) => ∃ (a : Option Addr) (cap : Nat), vrows.getD i default = .slice a r.length cap ∧ SliceR w (.slice a r.length cap) 1 encI r ∧ ∀ x ∈ r, (Lit.int .i64 x).wf = true) (fun i hi => by
    obtain ⟨r, a, cap, h1, h2⟩ := n2 i hi
    exact ⟨r, a, cap, by simpa [List.getD, List.getElem?_eq_getElem hi] using h1, h2⟩)
  refine ⟨⟨of, wd, na, vrows.length, nc, la, lab.length, lc, ma, nms.length, mc⟩, ⟨of, wd, (List.range vrows.length).map g, lab, nms⟩, ?_, ⟨rfl, rfl, l1, m1, vrows, n1, by simp, fun i h1 h2 => ?_⟩, hof, fun x hx => ?_, hwd, fun x hx => ?_, fun r hr => ?_⟩
  · have : cs = cs.take 256 ++ [cs.getD 256 default, cs.getD 257 default, cs.getD 258 default, cs.getD 259 default] := by
      conv => lhs; rw [← List.take_append_drop 256 cs]
      congr 1
      apply List.ext_getElem?
      intro i
      rw [List.getElem?_drop]
      match i with
      | 0 => simp [List.getD, List.getElem?_eq_getElem (show 256 < cs.length by omega)]
      | 1 => simp [List.getD, List.getElem?_eq_getElem (show 257 < cs.length by omega)]
      | 2 => simp [List.getD, List.getElem?_eq_getElem (show 258 < cs.length by omega)]
      | 3 => simp [List.getD, List.getElem?_eq_getElem (show 259 < cs.length by omega)]
      | i + 4 => rw [List.getElem?_eq_none (by omega)]; simp
    simp only [List.cons.injEq, and_true] at c1
    rw [this, c0, c1, c2, c3, c4]
    simp [VDfa.cells]
  · obtain ⟨a, cap, h3, h4, _⟩ := hg i h1
    rw [List.getD, List.getElem?_eq_getElem h1] at h3
    refine ⟨a, cap, ?_, ?_⟩
    · simpa using h3
    · simpa using h4
  · obtain ⟨i, hi, rfl⟩ := List.getElem_of_mem hx; exact m2 i hi
  · obtain ⟨i, hi, rfl⟩ := List.getElem_of_mem hx; exact l2 i hi
  · obtain ⟨i, hi, rfl⟩ := List.mem_map.1 hr
    obtain ⟨_, _, _, _, h⟩ := hg i (by simpa using hi)
    exact h
end
end Go.Proofs.YtdhmekpgplajmaaDoor
end
