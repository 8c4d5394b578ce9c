/- The chapter's example of sets. -/
import Derived.Test.YtinlfbacfmmfpaaDoorRefSpans
import Derived.Test.YtinlfbacfmmfpaaDoorCount
import Derived.Test.YtinlfbacfmmfpaaDoorLeast
namespace Go.Proofs.YtinlfbacfmmfpaaDoor
open Go.RowKit

def kx1 : BSet := ofP fun b => decide (97 ≤ b) && decide (b ≤ 99)
def kx2 : BSet := ofL [120]
def kx : BSet := [kx1, kx2].foldl (· ||| ·) 0
theorem kx_elems : elems kx = [97, 98, 99, 120] := by decide +kernel
theorem kx_spans : spansL (elems kx) = [(97, 99), (120, 120)] := by decide +kernel
theorem least_zero : leastOf 0 = -1 := by decide +kernel
theorem run_eqQ {P : Program} {t e : TypeId} (hu : P.underlying t = some (.array 2 e)) (he : P.underlying e = some (.int .u8)) (hi : (P.info? e).map (fun i => i.size) = some 1) (p q : Nat × Nat) (w : World) :
    (Op.equalIn 10000 t (.agg (encQ p).toArray) (.agg (encQ q).toArray)).run P w = .ok (decide (p = q)) w := by
  cases hq : P.info? e with
  | none => simp [hq] at hi
  | some i =>
    have hs : i.size = 1 := by simpa [hq] using hi
    have hc : P.cellsOf e = 1 := by simp [Program.cellsOf, hq, hs]
    have := run_equalIn_ints (P := P) 9998 (q := .u8) hu he hq hc [(p.1 : Nat), (p.2 : Nat)] [(q.1 : Nat), (q.2 : Nat)] rfl rfl w
    refine this.trans ?_
    congr 1
    rw [decide_eq_decide]
    obtain ⟨a, b⟩ := p
    obtain ⟨c, d⟩ := q
    simp only [List.cons.injEq, and_true, Int.natCast_inj, Prod.mk.injEq]
set_option maxRecDepth 20000 in
set_option maxHeartbeats 1600000 in
theorem knows02 (w : World) (hT : Tab w) : Calls Tryd.prog 24 #[] w (Ret w (.bool true)) := by
  have h1 : ∀ w, Calls Tryd.prog 21 #[.int .u8 97, .int .u8 99] w (Ret w (setV kx1)) := fun w => sets_Span 97 99 w (by decide) (by decide)
  have h2 : ∀ (a : Option Addr) (cap : Nat) (w : World), SliceR w (.slice a 1 cap) 1 encB [120] → Calls Tryd.prog 19 #[.slice a 1 cap] w (Ret w (setV kx2)) := fun a cap w h => sets_Of a cap [120] w h (by decide)
  have h3 : ∀ (a : Option Addr) (cap : Nat) (w : World), SliceR w (.slice a 2 cap) 4 encS [kx1, kx2] → Calls Tryd.prog 35 #[.slice a 2 cap] w (Ret w (setV kx)) := fun a cap w h => sets_Union a cap [kx1, kx2] w h
  have h4 : ∀ w, Tab w → Calls Tryd.prog 26 #[.agg (setC kx)] w (RetOwn w 45 2 encQ [(97, 99), (120, 120)]) := fun w h => by have := sets_Spans kx w h; rwa [kx_spans] at this
  have h5 : ∀ w, Calls Tryd.prog 29 #[.agg (setC kx)] w (Ret w (.int .i64 4)) := fun w => by have := sets_Count kx w; rwa [kx_elems] at this
  have h6 : ∀ w, Tab w → Calls Tryd.prog 30 #[.agg #[.int .u64 0, .int .u64 0, .int .u64 0, .int .u64 0]] w (Ret w (.int .i64 (-1))) := fun w h => by have := sets_Least 0 w h; rwa [least_zero, setC_zero] at this
  have H1 := Lib.hid h1
  have H2 := Lib.hid h2
  have H3 := Lib.hid h3
  have H4 := Lib.hid h4
  have H5 := Lib.hid h5
  have H6 := Lib.hid h6
  have HT := Lib.hid hT
  clear h1 h2 h3 h4 h5 h6 hT
  generalize kx = s at *
  generalize kx1 = s1 at *
  generalize kx2 = s2 at *
  go_enter Tryd.func24, Tryd.ntmps24
  go_wp2_with fail
  refine (H1.out _).mono ?_
  rintro e w1 ⟨rfl, hB1⟩
  go_wp2_with fail
  refine (H2.out _ _ _ ?_).mono ?_
  · refine ⟨_, w1.heap.size, 0, 1, rfl, by decide, by simp [maxLen], .inl rfl, fun i hi j u hu => ?_⟩
    have hlt : i < 1 := hi
    obtain rfl : i = 0 := by omega
    match j with
    | 0 => simpa using hu
    | k + 1 => simp at hu
  rintro e w2 ⟨rfl, hB2⟩
  have hB3 : Below w.heap.size w w2 := (hB1.alloc hB1.size _).trans (hB2.mono (by have := hB1.size; simp; omega))
  go_wp2_with fail
  refine (H3.out _ _ _ ?_).mono ?_
  · refine ⟨_, w2.heap.size, 0, 2, rfl, Nat.le_refl _, by simp [maxLen], .inl rfl, fun i hi j u hu => ?_⟩
    have hlt : i < 2 := hi
    match i, hlt with
    | 0, _ => 
      match j with
      | 0 | 1 | 2 | 3 => simpa using hu
      | k + 4 => simp at hu
    | 1, _ =>
      match j with
      | 0 | 1 | 2 | 3 => simpa using hu
      | k + 4 => simp at hu
  rintro e w3 ⟨rfl, hB4⟩
  have hB5 : Below w.heap.size w w3 := (hB3.alloc hB3.size _).trans (hB4.mono (by have := hB3.size; simp; omega))
  go_wp2_with fail
  have hB6 := hB5.alloc hB5.size (.cells (setC s) 34)
  have hs3 := Box.new w3 (setC s) 34
  refine (H4.out _ (HT.out.kept hB6)).mono ?_
  rintro e w4 ⟨a, cap, rfl, hown, hB7⟩
  have hB8 := hB6.trans (hB7.mono hB6.size)
  have hs4 := hs3.kept hB7
  obtain ⟨⟨p0, p1, p2, p3⟩, _⟩ := hs4.set4
  obtain ⟨g, rfl, hg1, hg2⟩ := hown.addr (by decide)
  obtain ⟨q0, _⟩ := hown.cellAt (i := 0) (j := 0) (by decide) (by decide)
  obtain ⟨q1, _⟩ := hown.cellAt (i := 0) (j := 1) (by decide) (by decide)
  obtain ⟨q2, _⟩ := hown.cellAt (i := 1) (j := 0) (by decide) (by decide)
  obtain ⟨q3, _⟩ := hown.cellAt (i := 1) (j := 1) (by decide) (by decide)
  clear hown hs3
  have e1 : ∀ w, (Op.equalIn 10000 45 (.agg #[.int .u8 97, .int .u8 99]) (.agg #[.int .u8 97, .int .u8 99])).run Tryd.prog w = .ok true w := fun w =>
    run_eqQ (P := Tryd.prog) (t := 45) (e := 5) Tryd.underlying45 Tryd.underlying5 (by kernel_rfl) (97, 99) (97, 99) w
  have e2 : ∀ w, (Op.equalIn 10000 45 (.agg #[.int .u8 120, .int .u8 120]) (.agg #[.int .u8 120, .int .u8 120])).run Tryd.prog w = .ok true w := fun w =>
    run_eqQ (P := Tryd.prog) (t := 45) (e := 5) Tryd.underlying45 Tryd.underlying5 (by kernel_rfl) (120, 120) (120, 120) w
  go_wp2_with (first | (go_at_call 29; go_must (refine (H5.out _).mono ?_; rintro e w5 ⟨rfl, hB9⟩; have hB10 := hB8.trans (hB9.mono hB8.size))) | (go_at_call 30; go_must (refine (H6.out _ (HT.out.kept hB10)).mono ?_; rintro e w6 ⟨rfl, hB11⟩)))
  go_ret
  exact ⟨rfl, hB10.trans (hB11.mono hB10.size)⟩

end Go.Proofs.YtinlfbacfmmfpaaDoor
