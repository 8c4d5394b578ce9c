/- Joined by tools/merge.py: ConvB, Text, Names, Hex, NumRead, Must. -/
import Derived.Test.YtdhmekpgplajmaaGreatDoorR1
import Derived.Laws.BytesArg
import Derived.Shelf.Bytes.SlSmallAll
import Derived.Laws.MakeOwn
import Derived.Test.YtdhmekpgplajmaaGreatDoorProg
import Derived.Test.YtdhmekpgplajmaaGreatDoorR2
import Derived.Laws.IdiomStrings
section
namespace Go.Proofs.YtdhmekpgplajmaaGreatDoor
open Go.RowKit
/-- The string of a list of bytes. -/
def strB (l : List Nat) : ByteArray := strOfNums (l.map fun (x : Nat) => (x : Int))
theorem conv_strB {P : Program} {w : World} {src dst e : TypeId} (hs : P.underlying src = some (.slice e)) (he : P.underlying e = some (.int .u8)) (hd : P.underlying dst = some .string) {a : Option Addr} {cap n : Nat} {xs : List Nat} (hn : n = xs.length) (h : SliceR w (.slice a n cap) 1 encB xs) :
    (convert src dst (.slice a n cap)).run P w = .ok (.string (strB xs)) w := by
  subst hn
  obtain ⟨a', b, o, cap', hv, hl, hc, ha, hx⟩ := h
  obtain ⟨rfl, _, rfl⟩ := Value.slice.inj hv
  rcases ha with rfl | ⟨rfl, _⟩
  · refine run_convert_bytes_arg w src e hs he b o xs.length cap (xs.map fun (x : Nat) => (x : Int)) (by simp) (fun i hi => ?_) dst hd
    have := hx i hi 0 _ rfl
    rw [Nat.mul_one, Nat.add_zero] at this
    rw [this]
    simp [List.getD, hi]
  · exact run_convert_bytes_zero w src e hs he a cap dst hd
/-- A whole array (or struct) read out of a block. -/
theorem run_load_box {P : Program} {o : Oper} {a : Act} {w : World} (ty : TypeId) (x : Operand) (ho : o.op = .load ty x) (g : Nat) (hx : a.eval x = .pointer (some ⟨g, 0, none⟩)) {cs : Array Value} {E : Nat} (hb : Box w g cs E)
    {d : TypeDesc} (hu : P.underlying ty = some d) (hd : (match d with | .struct _ | .array _ _ => true | _ => false) = true) (hi : (P.info? ty).map (·.size) = some cs.size) : (execOp a.eval o).run P w = .ok (.value (.agg cs)) w := by
  unfold execOp
  simp only [ho, hx, Instr.loadAt, Instr.sureAddr, Sem.run_bind, Sem.run_pure, Result.andThen_ok, run_loadVar_row w g E ty cs (0, 0) d hb hu hd hi]
end Go.Proofs.YtdhmekpgplajmaaGreatDoor
end
section
namespace Go.Proofs.YtdhmekpgplajmaaGreatDoor
open Go.RowKit
/-- A string of bytes. -/
abbrev sv (l : List UInt8) : Value := .string ⟨l.toArray⟩
abbrev encU (x : UInt8) : List Value := [.int .u8 (x.toNat : Nat)]
abbrev encI (n : Int) : List Value := [.int .i64 n]
abbrev encT (l : List UInt8) : List Value := [sv l]
abbrev encV (v : Value) : List Value := [v]
theorem encU_ok : EncOK encU 1 := ⟨fun _ => rfl, fun x u hu => by simp [encU] at hu; subst hu; rfl⟩
theorem encI_ok : EncOK encI 1 := ⟨fun _ => rfl, fun x u hu => by simp [encI] at hu; subst hu; rfl⟩
theorem encT_ok : EncOK encT 1 := ⟨fun _ => rfl, fun x u hu => by simp [encT] at hu; subst hu; rfl⟩
theorem sv_append (a b : List UInt8) : (⟨a.toArray⟩ : ByteArray) ++ ⟨b.toArray⟩ = ⟨(a ++ b).toArray⟩ := by
  apply ByteArray.ext; simp
theorem sv_size (a : List UInt8) : (⟨a.toArray⟩ : ByteArray).size = a.length := by simp [ByteArray.size]
theorem sliceU_B {w : World} {v : Value} {xs : List UInt8} (h : SliceR w v 1 encU xs) : SliceR w v 1 encB (xs.map fun x => x.toNat) := by
  obtain ⟨a, b, o, cap, hv, hl, hc, ha, hx⟩ := h
  refine ⟨a, b, o, cap, by rw [List.length_map]; exact hv, by rw [List.length_map]; exact hl, hc, ha.imp id (fun ⟨h1, h2⟩ => ⟨by simp [h1], h2⟩), fun i hi j u hu => ?_⟩
  rw [List.length_map] at hi
  refine hx i hi j u ?_
  rw [List.getElem_map] at hu
  exact hu
theorem strB_toNat (xs : List UInt8) : strB (xs.map fun x => x.toNat) = ⟨xs.toArray⟩ := by
  unfold strB strOfNums
  simp only [List.map_map]
  congr 1
  congr 1
  conv => rhs; rw [← List.map_id xs]
  exact List.map_congr_left fun x _ => by simp
/-- A string out of a slice of bytes. -/
theorem conv_strU {P : Program} {w : World} {src dst e : TypeId} (hs : P.underlying src = some (.slice e)) (he : P.underlying e = some (.int .u8)) (hd : P.underlying dst = some .string) {a : Option Addr} {cap n : Nat} {xs : List UInt8} (hn : n = xs.length) (h : SliceR w (.slice a n cap) 1 encU xs) :
    (convert src dst (.slice a n cap)).run P w = .ok (sv xs) w := by
  have := conv_strB hs he hd (xs := xs.map fun x => x.toNat) (by rw [List.length_map]; exact hn) (sliceU_B h)
  rwa [strB_toNat] at this
/-- A slice of one cell an element, opened. -/
theorem SliceR.cells1 {α : Type} {f : α → Value} {w : World} {a : Option Addr} {n cap : Nat} {xs : List α} (h : SliceR w (.slice a n cap) 1 (fun x => [f x]) xs) :
    ∃ b o, n = xs.length ∧ xs.length ≤ cap ∧ cap ≤ 9223372036854775807 ∧ (∀ i, i < xs.length → a = some ⟨b, o, none⟩) ∧
      ∀ i (h : i < xs.length) (w' : World), Below w.heap.size w w' → w'.cell? ⟨b, o + i, none⟩ = some (f xs[i]) := by
  obtain ⟨b, o, h1, h2, h3, h4, h5⟩ := h.open
  refine ⟨b, o, h1, h2, h3, h4, fun i hi w' hB => ?_⟩
  have := h5 i hi 0 _ rfl
  rw [Nat.mul_one, Nat.add_zero] at this
  rw [hB.cell (World.block_lt_of_cell? w _ this)]; exact this
/-- A slice that is made empty, with room. -/
theorem wpList_makeO0 {α : Type} {enc : α → List Value} {size : Nat} {P : Program} {ops : Array Oper} {rest : List Oper} {o : Oper} {a : Act} {w : World} {Q : Exit → Act → World → Prop} (hgd : o.guard = none) (t : TypeId) (x y : Operand) (ho : o.op = .makeSlice t x y)
    {E : TypeId} {z : Value} {bytes : Nat} (hE : ElemOK P t E z size bytes) (he : EncOK enc size) (c : Nat) (hx : a.eval x = .int .i64 0) (hy : a.eval y = .int .i64 c) (hbytes : bytes * c ≤ 281474976710656) (h63 : c ≤ maxLen) (base : Nat) (hb : base ≤ w.heap.size)
    (h : ∀ w1, Own w1 base E size enc (.slice (some ⟨w.heap.size, 0, none⟩) 0 c) ([] : List α) → w.grownBy w1 none → wpList P ops Q rest (a.put o.dst (.slice (some ⟨w.heap.size, 0, none⟩) 0 c)) w1) : wpList P ops Q (o :: rest) a w := by
  obtain ⟨i, hi, hiz, his, hib⟩ := hE.info
  subst hib
  refine wpList_plain hgd fun K hK => ?_
  obtain ⟨w1, hr, hown, hg⟩ := run_make_own (P := P) w base t E i z size hE.slice hi hiz his .i64 .i64 c hbytes h63 hb
  unfold Oper.wp execOp
  simp only [ho, hx, hy, Sem.run_bind, Sem.run_pure, Result.andThen_ok, hr, Oper.upon]
  exact hK _ _ (h _ (Own.ofRow (xs := ([] : List α)) hown he) hg)
/-! ### Digits -/
def dig (d : Nat) : UInt8 := UInt8.ofNat (48 + d)
theorem dig_toNat (d : Nat) (h : d < 10) : (dig d).toNat = 48 + d := by
  unfold dig; simp; omega
/-- The digits of a number. -/
def showN (n : Nat) : List UInt8 := if n < 10 then [dig n] else showN (n / 10) ++ [dig (n % 10)]
termination_by n
decreasing_by omega
theorem showN_small {n : Nat} (h : n < 10) : showN n = [dig n] := by rw [showN, if_pos h]
theorem showN_big {n : Nat} (h : ¬ n < 10) : showN n = showN (n / 10) ++ [dig (n % 10)] := by rw [showN, if_neg h]
/-- The last j digits of a number. -/
def digs (k : Nat) : Nat → List UInt8
  | 0 => []
  | j + 1 => dig ((k / 10 ^ j) % 10) :: digs k j
theorem digs_length (k : Nat) : ∀ j, (digs k j).length = j
  | 0 => rfl
  | j + 1 => by rw [digs, List.length_cons, digs_length]
theorem digs_snoc (k : Nat) : ∀ j, digs k (j + 1) = digs (k / 10) j ++ [dig (k % 10)]
  | 0 => by simp [digs]
  | j + 1 => by
    rw [digs, digs_snoc k j, digs]
    rw [Nat.div_div_eq_div_mul, ← Nat.pow_succ', List.cons_append]
theorem digs_show : ∀ (j k : Nat), k / 10 ^ (j + 1) = 0 → (j = 0 ∨ k / 10 ^ j ≠ 0) → digs k (j + 1) = showN k
  | 0, k, h, _ => by
    have : k < 10 := by
      simp at h; omega
    rw [showN_small this, digs, digs, Nat.pow_zero, Nat.div_one, Nat.mod_eq_of_lt this]
  | j + 1, k, h, h2 => by
    have h3 : k / 10 ^ (j + 1) ≠ 0 := by rcases h2 with h2 | h2; omega; exact h2
    have hk : ¬ k < 10 := fun hk => h3 (by rw [Nat.pow_succ', ← Nat.div_div_eq_div_mul, Nat.div_eq_of_lt hk, Nat.zero_div])
    rw [showN_big hk, digs_snoc, digs_show j (k / 10)]
    · rw [Nat.div_div_eq_div_mul, ← Nat.pow_succ']; exact h
    · right; rw [Nat.div_div_eq_div_mul, ← Nat.pow_succ']; exact h3
theorem digs_get (k : Nat) : ∀ (j i : Nat) (h : i < (digs k j).length), (digs k j)[i] = dig ((k / 10 ^ (j - 1 - i)) % 10)
  | 0, i, h => by simp [digs] at h
  | j + 1, 0, h => by simp [digs]
  | j + 1, i + 1, h => by
    have h' := h
    rw [digs, List.length_cons] at h'
    have hl := digs_length k j
    simp only [digs, List.getElem_cons_succ]
    rw [digs_get k j i (by omega)]
    rw [show j + 1 - 1 - (i + 1) = j - 1 - i by omega]
/-- A number's text. -/
def showI (n : Int) : List UInt8 := if n < 0 then [] else showN n.toNat
theorem showI_nat (n : Nat) : showI n = showN n := by rw [showI, if_neg (by omega)]; simp
theorem showN_ne (n : Nat) : showN n ≠ [] := by
  rw [showN]; split <;> simp
theorem showN_length : ∀ (d n : Nat), n < 10 ^ (d + 1) → (showN n).length ≤ d + 1
  | 0, n, h => by rw [showN_small (by simpa using h)]; simp
  | d + 1, n, h => by
    by_cases hn : n < 10
    · rw [showN_small hn]; simp
    · rw [showN_big hn, List.length_append]
      have := showN_length d (n / 10) (by rw [Nat.div_lt_iff_lt_mul (by decide)]; rw [← Nat.pow_succ]; exact h)
      simp; omega
theorem showI_length (n : Int) (h : n ≤ 9223372036854775807) : (showI n).length ≤ 19 := by
  unfold showI
  split
  · simp
  · exact showN_length 18 _ (by omega)
end Go.Proofs.YtdhmekpgplajmaaGreatDoor
end
section
namespace Go.Proofs.YtdhmekpgplajmaaGreatDoor
open Go.RowKit
theorem ret_b {w : World} {a b : Bool} (h : a = b) : Ret w (.bool a) (.returned (.bool b)) w := ⟨by rw [h], Below.refl _ _⟩
theorem eq_b {a b : Bool} (h : a = b) : Ending.returned (.bool b) = .returned (.bool a) := by rw [h]
/-- Is a byte a letter, as names have them? -/
def letterN (x : Nat) : Bool := x == 95 || (decide (97 ≤ x) && decide (x ≤ 122)) || (decide (65 ≤ x) && decide (x ≤ 90))
def digitN (x : Nat) : Bool := decide (48 ≤ x) && decide (x ≤ 57)
/-- May a byte stand in a name, at its beginning, or behind? -/
def mayN (x : Nat) (first : Bool) : Bool := letterN x || (!first && digitN x)
theorem or32 : ∀ x : Nat, x < 256 → ∃ y : Nat, bits BinOp.or IntKind.u8 (x : Int) 32 = (y : Int) ∧ letterN x = (x == 95 || (decide (97 ≤ y) && decide (y ≤ 122))) ∧ y < 256 := by
  have h : (List.range 256).all (fun (x : Nat) => bits BinOp.or IntKind.u8 (x : Int) 32 == ((bits BinOp.or IntKind.u8 (x : Int) 32).toNat : Int) && (letterN x == (x == 95 || (decide (97 ≤ (bits BinOp.or IntKind.u8 (x : Int) 32).toNat) && decide ((bits BinOp.or IntKind.u8 (x : Int) 32).toNat ≤ 122)))) && decide ((bits BinOp.or IntKind.u8 (x : Int) 32).toNat < 256)) = true := by decide +kernel
  intro x hx
  have h2 := List.all_eq_true.1 h x (by simpa using hx)
  simp only [Bool.and_eq_true, beq_iff_eq, decide_eq_true_eq] at h2
  exact ⟨_, h2.1.1, h2.1.2, h2.2⟩
theorem letter_digit (x : Nat) (h : digitN x = true) : letterN x = false := by
  unfold digitN at h
  unfold letterN
  rw [Bool.eq_false_iff]
  simp at h ⊢
  omega
/-- How many bytes ahead could stand in a name. -/
def runFrom : Bool → List UInt8 → Nat
  | _, [] => 0
  | first, c :: r => if mayN c.toNat first then runFrom false r + 1 else 0
theorem runFrom_le : ∀ (b : Bool) (l : List UInt8), runFrom b l ≤ l.length
  | _, [] => Nat.le_refl _
  | b, c :: r => by
    rw [runFrom]; split
    · have := runFrom_le false r; simp; exact this
    · simp
/-- May a text be a name? -/
def nameT (s : List UInt8) : Bool := !s.isEmpty && decide (s.length ≤ 32) && (runFrom true s == s.length)
theorem spec_letter (x : Nat) (w : World) (hx : x < 256) : Calls Tryz.prog 121 #[.int .u8 x] w (Ret w (.bool (letterN x))) := by
  obtain ⟨y, hy, hl, hy2⟩ := or32 x hx
  rw [hl]
  by_cases h0 : x = 95
  · subst h0
    clear hl hy
    go_enter Tryz.func121, Tryz.ntmps121
    go_wp2
    go_ret
    exact ⟨rfl, Below.refl _ _⟩
  · have e0 : ((x : Int) == 95) = false := by simp; omega
    have e1 : (x == 95) = false := by simp; omega
    rw [e1, Bool.false_or]
    clear e1 hl
    by_cases h1 : 97 ≤ y
    · have e2 : decide (97 ≤ (y : Int)) = true := by simp; omega
      go_enter Tryz.func121, Tryz.ntmps121
      go_wp2
      go_ret
      exact ret_b (by rw [Bool.eq_iff_iff]; simp; omega)
    · have e2 : decide (97 ≤ (y : Int)) = false := by simp; omega
      go_enter Tryz.func121, Tryz.ntmps121
      go_wp2
      go_ret
      exact ret_b (by rw [Bool.eq_iff_iff]; simp; omega)
theorem ref09_May (x : Nat) (first : Bool) (w : World) (hx : x < 256) : Calls Tryz.prog 53 #[.int .u8 x, .bool first] w (Ret w (.bool (mayN x first))) := by
  cases hd : digitN x with
  | true =>
    have hl := letter_digit x hd
    have e : mayN x first = !first := by unfold mayN; rw [hl, hd]; simp
    rw [e]
    unfold digitN at hd
    simp only [Bool.and_eq_true, decide_eq_true_eq] at hd
    obtain ⟨d1, d2⟩ := hd
    have e1 : decide (48 ≤ (x : Int)) = true := by simp; omega
    have e2 : decide ((x : Int) ≤ 57) = true := by simp; omega
    clear e hl
    go_enter Tryz.func53, Tryz.ntmps53
    go_wp2
    go_ret
    exact ⟨rfl, Below.refl _ _⟩
  | false =>
    have e : mayN x first = letterN x := by unfold mayN; rw [hd]; simp
    rw [e]
    unfold digitN at hd
    simp only [Bool.and_eq_false_iff, decide_eq_false_iff_not] at hd
    have hd' : x < 48 ∨ 57 < x := by omega
    clear e hd
    unfold letterN
    by_cases a1 : 97 ≤ x
    · have e1 : decide (97 ≤ (x : Int)) = true := by simp; omega
      have e2 : decide (48 ≤ (x : Int)) = true := by simp; omega
      have e3 : decide ((x : Int) ≤ 57) = false := by simp; omega
      by_cases a2 : x ≤ 122
      · have e4 : decide ((x : Int) ≤ 122) = true := by simp; omega
        clear hd'
        go_enter Tryz.func53, Tryz.ntmps53
        go_wp2
        go_ret
        exact ret_b (by rw [Bool.eq_iff_iff]; simp; omega)
      · have e4 : decide ((x : Int) ≤ 122) = false := by simp; omega
        have e5 : decide (65 ≤ (x : Int)) = true := by simp; omega
        have e6 : decide ((x : Int) ≤ 90) = false := by simp; omega
        clear hd'
        go_enter Tryz.func53, Tryz.ntmps53
        go_wp2
        go_ret
        exact ret_b (by rw [Bool.eq_iff_iff]; simp; omega)
    · have e1 : decide (97 ≤ (x : Int)) = false := by simp; omega
      have key : ∀ b : Bool, b = (decide (48 ≤ (x : Int)) && decide ((x : Int) ≤ 57)) → b = false := fun b hb => by rw [hb, Bool.eq_false_iff]; simp; omega
      clear key
      by_cases a2 : 65 ≤ x
      · have e2 : decide (48 ≤ (x : Int)) = true := by simp; omega
        have e3 : decide ((x : Int) ≤ 57) = false := by simp; omega
        have e5 : decide (65 ≤ (x : Int)) = true := by simp; omega
        by_cases a3 : x ≤ 90
        · have e6 : decide ((x : Int) ≤ 90) = true := by simp; omega
          clear hd'
          go_enter Tryz.func53, Tryz.ntmps53
          go_wp2
          go_ret
          exact ret_b (by rw [Bool.eq_iff_iff]; simp; omega)
        · have e6 : decide ((x : Int) ≤ 90) = false := by simp; omega
          clear hd'
          go_enter Tryz.func53, Tryz.ntmps53
          go_wp2
          go_ret
          exact ret_b (by rw [Bool.eq_iff_iff]; simp; omega)
      · have e5 : decide (65 ≤ (x : Int)) = false := by simp; omega
        by_cases a3 : 48 ≤ x
        · have e2 : decide (48 ≤ (x : Int)) = true := by simp; omega
          have e3 : decide ((x : Int) ≤ 57) = false := by simp; omega
          clear hd'
          go_enter Tryz.func53, Tryz.ntmps53
          go_wp2
          go_ret
          exact ret_b (by rw [Bool.eq_iff_iff]; simp; omega)
        · have e2 : decide (48 ≤ (x : Int)) = false := by simp; omega
          clear hd'
          go_enter Tryz.func53, Tryz.ntmps53
          go_wp2
          go_ret
          exact ret_b (by rw [Bool.eq_iff_iff]; simp; omega)
/-- All bytes may stand where they do. -/
def allMay : Bool → List UInt8 → Bool
  | _, [] => true
  | first, c :: r => mayN c.toNat first && allMay false r
theorem runFrom_all : ∀ (b : Bool) (l : List UInt8), (runFrom b l == l.length) = allMay b l
  | _, [] => by simp [runFrom, allMay]
  | b, c :: r => by
    have ih := runFrom_all false r
    rw [runFrom, allMay]
    cases mayN c.toNat b with
    | true => rw [if_pos rfl, Bool.true_and, ← ih]; simp [Bool.beq_eq_decide_eq]
    | false => rw [if_neg (by simp)]; simp
theorem nameT_all (s : List UInt8) : nameT s = (allMay true s && (decide (1 ≤ s.length) && decide (s.length ≤ 32))) := by
  unfold nameT
  rw [runFrom_all]
  cases s with
  | nil => simp
  | cons a r => cases h : allMay true (a :: r) <;> simp
theorem drop_at {α : Type} (l : List α) (k : Nat) (h : k < l.length) : l.drop k = l[k] :: l.drop (k + 1) := (List.getElem_cons_drop h).symm
set_option maxHeartbeats 400000 in
theorem ref09_Name (s : List UInt8) (w : World) (hs : s.length ≤ 9223372036854775807) : Calls Tryz.prog 27 #[sv s] w (Ret w (.bool (nameT s))) := by
  obtain ⟨n, hn⟩ : ∃ n, s.length = n := ⟨_, rfl⟩
  have hix : ∀ (k : Nat) (h : k < (⟨s.toArray⟩ : ByteArray).size) (h2 : k < s.length), (⟨s.toArray⟩ : ByteArray)[k] = s[k] := fun k h h2 => rfl
  have e := nameT_all s
  rw [hn] at e
  have hsz : (⟨s.toArray⟩ : ByteArray).size = n := by rw [sv_size, hn]
  have HE := Lib.hid e
  have HIX := Lib.hid hix
  have HN := Lib.hid hn
  rw [hn] at hs
  clear e hix
  go_enter Tryz.func27, Tryz.ntmps27
  go_wp2
  go_loopw [3] (fun i wr => ∃ k : Nat, k ≤ n ∧ i = .int .i64 k ∧ allMay true s = allMay (k == 0) (s.drop k) ∧ Below w.heap.size w wr) (fun i _ => n - (intOf i).toNat)
  case atStart => exact ⟨0, Nat.zero_le _, rfl, rfl, Below.refl _ _⟩
  case round =>
    obtain ⟨k, hk, rfl, ha, hB⟩ := hrel
    by_cases hlt : k < n
    · have hk2 : k < s.length := by rw [HN.out]; exact hlt
      rw [drop_at s k hk2, allMay] at ha
      have hi := fun h => HIX.out k h hk2
      have hm := fun w => ref09_May s[k].toNat (k == 0) w s[k].toNat_lt
      have hk0 : ((k : Int) == 0) = (k == 0) := by rw [Bool.eq_iff_iff]; simp
      generalize s[k] = c at *
      generalize hf : (k == 0) = f at *
      cases hmy : mayN c.toNat f with
      | true =>
        rw [hmy] at hm
        rw [hmy, Bool.true_and] at ha
        have HM := Lib.hid hm
        have HA := Lib.hid ha
        clear hm ha hmy hf
        go_wp2_with (go_at_call 53; go_must (refine (HM.out _).mono ?_; rintro e w1 ⟨rfl, hB1⟩))
        go_roundw
        case rel => exact ⟨k + 1, hlt, by go_num, by rw [HA.out]; rfl, hB.trans (hB1.mono hB.size)⟩
        case measure => simp [intOf]; omega
      | false =>
        rw [hmy] at hm
        rw [hmy, Bool.false_and] at ha
        have HM := Lib.hid hm
        have HA := Lib.hid ha
        clear hm ha hmy hf
        go_wp2_with (go_at_call 53; go_must (refine (HM.out _).mono ?_; rintro e w1 ⟨rfl, hB1⟩))
        go_ret
        exact ⟨by rw [HE.out, HA.out]; rfl, hB.trans (hB1.mono hB.size)⟩
    · obtain rfl : k = n := by omega
      rw [List.drop_eq_nil_of_le (by rw [HN.out]; exact Nat.le_refl _), allMay] at ha
      have HA := Lib.hid ha
      clear ha
      by_cases h1 : 1 ≤ k
      · have e1 : decide (1 ≤ (k : Int)) = true := by simp; omega
        go_wp2
        go_ret
        exact ⟨by rw [HE.out, HA.out]; exact eq_b (by rw [Bool.eq_iff_iff]; simp; omega), hB⟩
      · have e1 : decide (1 ≤ (k : Int)) = false := by simp; omega
        go_wp2
        go_ret
        exact ⟨by rw [HE.out, HA.out]; exact eq_b (by rw [Bool.eq_iff_iff]; simp; omega), hB⟩
set_option maxHeartbeats 800000 in
theorem spec_run (s : List UInt8) (w : World) (hs : s.length ≤ 9223372036854775807) : Calls Tryz.prog 103 #[sv s] w (Ret w (.int .i64 (runFrom true s : Nat))) := by
  obtain ⟨n, hn⟩ : ∃ n, s.length = n := ⟨_, rfl⟩
  have hix : ∀ (k : Nat) (h : k < (⟨s.toArray⟩ : ByteArray).size) (h2 : k < s.length), (⟨s.toArray⟩ : ByteArray)[k] = s[k] := fun k h h2 => rfl
  have hsz : (⟨s.toArray⟩ : ByteArray).size = n := by rw [sv_size, hn]
  have HIX := Lib.hid hix
  have HN := Lib.hid hn
  rw [hn] at hs
  clear hix
  go_enter Tryz.func103, Tryz.ntmps103
  go_wp2
  go_loopw [3] (fun i wr => ∃ k : Nat, k ≤ n ∧ i = .int .i64 k ∧ runFrom true s = k + runFrom (k == 0) (s.drop k) ∧ Below w.heap.size w wr) (fun i _ => n - (intOf i).toNat)
  case atStart => exact ⟨0, Nat.zero_le _, rfl, by simp, Below.refl _ _⟩
  case round =>
    obtain ⟨k, hk, rfl, ha, hB⟩ := hrel
    by_cases hlt : k < n
    · have hk2 : k < s.length := by rw [HN.out]; exact hlt
      rw [drop_at s k hk2, runFrom] at ha
      have hi := fun h => HIX.out k h hk2
      have hm := fun w => spec_letter s[k].toNat w s[k].toNat_lt
      have hc256 := s[k].toNat_lt
      generalize s[k] = c at *
      by_cases hl : letterN c.toNat = true
      · rw [hl] at hm
        have hmy : mayN c.toNat (k == 0) = true := by unfold mayN; rw [hl]; rfl
        rw [hmy, if_pos rfl] at ha
        have HM := Lib.hid hm
        have HA := Lib.hid ha
        clear hm ha hmy hl
        go_wp2_with (go_at_call 121; go_must (refine (HM.out _).mono ?_; rintro e w1 ⟨rfl, hB1⟩))
        go_roundw
        case rel => exact ⟨k + 1, hlt, by go_num, by rw [HA.out]; simp; omega, hB.trans (hB1.mono hB.size)⟩
        case measure => simp [intOf]; omega
      · have hl := Bool.eq_false_iff.2 hl
        rw [hl] at hm
        have hmy : mayN c.toNat (k == 0) = (!(k == 0) && digitN c.toNat) := by unfold mayN; rw [hl]; rfl
        rw [hmy] at ha
        have HM := Lib.hid hm
        unfold digitN at ha
        clear hm hmy hl
        by_cases h0 : k = 0
        · subst h0
          have HA := Lib.hid ha
          clear ha
          go_wp2_with (go_at_call 121; go_must (refine (HM.out _).mono ?_; rintro e w1 ⟨rfl, hB1⟩))
          go_ret
          exact ⟨by rw [HA.out]; rfl, hB.trans (hB1.mono hB.size)⟩
        · have e0 : decide (0 < (k : Int)) = true := by simp; omega
          have e00 : (0 < k) := by omega
          have hkb : (k == 0) = false := by simp; omega
          rw [hkb] at ha
          by_cases d1 : 48 ≤ c.toNat
          · have e1 : decide (48 ≤ (c.toNat : Int)) = true := by simp; omega
            by_cases d2 : c.toNat ≤ 57
            · have e2 : decide ((c.toNat : Int) ≤ 57) = true := by simp; omega
              rw [if_pos (by simp [d1, d2])] at ha
              have HA := Lib.hid ha
              clear ha hkb h0
              go_wp2_with (go_at_call 121; go_must (refine (HM.out _).mono ?_; rintro e w1 ⟨rfl, hB1⟩))
              go_roundw
              case rel => exact ⟨k + 1, hlt, by go_num, by rw [HA.out]; simp; omega, hB.trans (hB1.mono hB.size)⟩
              case measure => simp [intOf]; omega
            · have e2 : decide ((c.toNat : Int) ≤ 57) = false := by simp; omega
              rw [if_neg (by simp [d1, d2])] at ha
              have HA := Lib.hid ha
              clear ha hkb h0
              go_wp2_with (go_at_call 121; go_must (refine (HM.out _).mono ?_; rintro e w1 ⟨rfl, hB1⟩))
              go_ret
              exact ⟨by rw [HA.out]; rfl, hB.trans (hB1.mono hB.size)⟩
          · have e1 : decide (48 ≤ (c.toNat : Int)) = false := by simp; omega
            rw [if_neg (by simp [d1])] at ha
            have HA := Lib.hid ha
            clear ha hkb h0
            go_wp2_with (go_at_call 121; go_must (refine (HM.out _).mono ?_; rintro e w1 ⟨rfl, hB1⟩))
            go_ret
            exact ⟨by rw [HA.out]; rfl, hB.trans (hB1.mono hB.size)⟩
    · obtain rfl : k = n := by omega
      rw [List.drop_eq_nil_of_le (by rw [HN.out]; exact Nat.le_refl _), runFrom] at ha
      have HA := Lib.hid ha
      clear ha
      go_wp2
      go_ret
      exact ⟨by rw [HA.out]; rfl, hB⟩
theorem spec_Name (s : List UInt8) (w : World) (hs : s.length ≤ 9223372036854775807) : Calls Tryz.prog 83 #[sv s] w (Ret w (.bool (nameT s))) := by
  have hr := fun w => spec_run s w hs
  have hle := runFrom_le true s
  unfold nameT
  generalize runFrom true s = r at *
  have HR := Lib.hid hr
  clear hr
  cases s with
  | nil =>
    go_enter Tryz.func83, Tryz.ntmps83
    go_wp2_with (go_at_call 103; go_must (refine (HR.out _).mono ?_; rintro e w1 ⟨rfl, hB1⟩))
    go_ret
    exact ⟨rfl, Below.refl _ _⟩
  | cons a l =>
    have e0 : ((!(a :: l).isEmpty && decide ((a :: l).length ≤ 32) && r == (a :: l).length) : Bool) = (decide (l.length + 1 ≤ 32) && r == l.length + 1) := rfl
    rw [e0]
    rw [List.length_cons] at hle hs
    generalize hm : l.length = m at *
    have HM := Lib.hid hm
    have hle2 : (r : Int) ≤ (m : Int) + 1 := by omega
    by_cases h1 : m + 1 ≤ 32
    · have e1 : decide ((m : Int) + 1 ≤ 32) = true := by simp; omega
      go_enter Tryz.func83, Tryz.ntmps83
      go_wp2_with (go_at_call 103; go_must (refine (HR.out _).mono ?_; rintro e w1 ⟨rfl, hB1⟩))
      go_ret
      exact ⟨eq_b (by rw [Bool.eq_iff_iff]; simp; omega), hB1⟩
    · have e1 : decide ((m : Int) + 1 ≤ 32) = false := by simp; omega
      go_enter Tryz.func83, Tryz.ntmps83
      go_wp2_with (go_at_call 103; go_must (refine (HR.out _).mono ?_; rintro e w1 ⟨rfl, hB1⟩))
      go_ret
      exact ⟨eq_b (by rw [Bool.eq_iff_iff]; simp; omega), Below.refl _ _⟩
end Go.Proofs.YtdhmekpgplajmaaGreatDoor
end
section
namespace Go.Proofs.YtdhmekpgplajmaaGreatDoor
open Go.RowKit
/-- A hex digit's value. -/
def hexV (x : Nat) : Option Nat := if digitN x then some (x - 48) else if 97 ≤ x ∧ x ≤ 102 then some (x - 87) else none
def hexI (x : Nat) : Int := match hexV x with | some v => v | none => -1
theorem hexV_lt {x v : Nat} (h : hexV x = some v) : v < 16 := by
  unfold hexV digitN at h
  split at h
  · rename_i h1; simp at h1; simp at h; omega
  · split at h
    · rename_i h1; simp at h; omega
    · cases h
theorem hexI_or (x : Nat) : (hexI x = -1 ∧ hexV x = none) ∨ ∃ v : Nat, hexI x = v ∧ hexV x = some v ∧ v < 16 := by
  unfold hexI
  cases h : hexV x with
  | none => exact .inl ⟨rfl, rfl⟩
  | some v => exact .inr ⟨v, rfl, rfl, hexV_lt h⟩
theorem quote_Value (x : Nat) (w : World) (hx : x < 256) : Calls Tryz.prog 128 #[.int .u8 x] w (Ret w (.int .i64 (hexI x))) := by
  unfold hexI hexV digitN
  by_cases a1 : 48 ≤ x
  · have e1 : decide (48 ≤ (x : Int)) = true := by simp; omega
    by_cases a2 : x ≤ 57
    · have e2 : decide ((x : Int) ≤ 57) = true := by simp; omega
      rw [if_pos (by simp [a1, a2])]
      have hw8 : IntKind.u8.wrap ((x : Int) - 48) = ((x - 48 : Nat) : Int) := by rw [IntKind.wrap_u8']; omega
      have hw0 : IntKind.i64.wrap ((x - 48 : Nat) : Int) = ((x - 48 : Nat) : Int) := IntWalk.i64_in _ (by omega)
      go_enter Tryz.func128, Tryz.ntmps128
      go_wp2
      go_ret
      exact ⟨rfl, Below.refl _ _⟩
    · have e2 : decide ((x : Int) ≤ 57) = false := by simp; omega
      rw [if_neg (by simp; omega)]
      by_cases a3 : 97 ≤ x
      · have e3 : decide (97 ≤ (x : Int)) = true := by simp; omega
        by_cases a4 : x ≤ 102
        · have e4 : decide ((x : Int) ≤ 102) = true := by simp; omega
          rw [if_pos ⟨a3, a4⟩]
          have hw8 : IntKind.u8.wrap ((x : Int) - 97) = ((x - 97 : Nat) : Int) := by rw [IntKind.wrap_u8']; omega
          have hw0 : IntKind.i64.wrap ((x - 97 : Nat) : Int) = ((x - 97 : Nat) : Int) := IntWalk.i64_in _ (by omega)
          have hw1 : IntKind.i64.wrap (((x - 97 : Nat) : Int) + 10) = ((x - 87 : Nat) : Int) := by rw [IntWalk.i64_in _ (by omega)]; omega
          go_enter Tryz.func128, Tryz.ntmps128
          go_wp2
          go_ret
          exact ⟨rfl, Below.refl _ _⟩
        · have e4 : decide ((x : Int) ≤ 102) = false := by simp; omega
          rw [if_neg (by omega)]
          go_enter Tryz.func128, Tryz.ntmps128
          go_wp2
          go_ret
          exact ⟨rfl, Below.refl _ _⟩
      · have e3 : decide (97 ≤ (x : Int)) = false := by simp; omega
        rw [if_neg (by omega)]
        go_enter Tryz.func128, Tryz.ntmps128
        go_wp2
        go_ret
        exact ⟨rfl, Below.refl _ _⟩
  · have e1 : decide (48 ≤ (x : Int)) = false := by simp; omega
    have e3 : decide (97 ≤ (x : Int)) = false := by simp; omega
    rw [if_neg (by simp; omega), if_neg (by omega)]
    go_enter Tryz.func128, Tryz.ntmps128
    go_wp2
    go_ret
    exact ⟨rfl, Below.refl _ _⟩
/-- Is a byte a letter, or a digit? -/
def alnumN (x : Nat) : Bool := digitN x || ((decide (97 ≤ x) && decide (x ≤ 122)) || (decide (65 ≤ x) && decide (x ≤ 90)))
theorem or32b : ∀ x : Nat, x < 256 → ∃ y : Nat, bits BinOp.or IntKind.u8 (x : Int) 32 = (y : Int) ∧ ((decide (97 ≤ x) && decide (x ≤ 122)) || (decide (65 ≤ x) && decide (x ≤ 90))) = (decide (97 ≤ y) && decide (y ≤ 122)) ∧ y < 256 := by
  have h : (List.range 256).all (fun (x : Nat) => bits BinOp.or IntKind.u8 (x : Int) 32 == ((bits BinOp.or IntKind.u8 (x : Int) 32).toNat : Int) && ((((decide (97 ≤ x) && decide (x ≤ 122)) || (decide (65 ≤ x) && decide (x ≤ 90)))) == (decide (97 ≤ (bits BinOp.or IntKind.u8 (x : Int) 32).toNat) && decide ((bits BinOp.or IntKind.u8 (x : Int) 32).toNat ≤ 122))) && decide ((bits BinOp.or IntKind.u8 (x : Int) 32).toNat < 256)) = true := by decide +kernel
  intro x hx
  have h2 := List.all_eq_true.1 h x (by simpa using hx)
  simp only [Bool.and_eq_true, beq_iff_eq, decide_eq_true_eq] at h2
  exact ⟨_, h2.1.1, h2.1.2, h2.2⟩
theorem class_letter (x : Nat) (w : World) (hx : x < 256) : Calls Tryz.prog 129 #[.int .u8 x] w (Ret w (.bool (alnumN x))) := by
  obtain ⟨y, hy, hl, hy2⟩ := or32b x hx
  unfold alnumN
  rw [hl]
  clear hl
  unfold digitN
  have rest : (decide (48 ≤ x) && decide (x ≤ 57)) = false → Calls Tryz.prog 129 #[.int .u8 x] w (Ret w (.bool (decide (97 ≤ y) && decide (y ≤ 122)))) := by
    intro hn
    simp only [Bool.and_eq_false_iff, decide_eq_false_iff_not] at hn
    by_cases a1 : 48 ≤ x
    · have e1 : decide (48 ≤ (x : Int)) = true := by simp; omega
      have e2 : decide ((x : Int) ≤ 57) = false := by simp; omega
      by_cases h1 : 97 ≤ y
      · have e3 : decide (97 ≤ (y : Int)) = true := by simp; omega
        clear hn
        go_enter Tryz.func129, Tryz.ntmps129
        go_wp2
        go_ret
        exact ret_b (by rw [Bool.eq_iff_iff]; simp; omega)
      · have e3 : decide (97 ≤ (y : Int)) = false := by simp; omega
        clear hn
        go_enter Tryz.func129, Tryz.ntmps129
        go_wp2
        go_ret
        exact ret_b (by rw [Bool.eq_iff_iff]; simp; omega)
    · have e1 : decide (48 ≤ (x : Int)) = false := by simp; omega
      by_cases h1 : 97 ≤ y
      · have e3 : decide (97 ≤ (y : Int)) = true := by simp; omega
        clear hn
        go_enter Tryz.func129, Tryz.ntmps129
        go_wp2
        go_ret
        exact ret_b (by rw [Bool.eq_iff_iff]; simp; omega)
      · have e3 : decide (97 ≤ (y : Int)) = false := by simp; omega
        clear hn
        go_enter Tryz.func129, Tryz.ntmps129
        go_wp2
        go_ret
        exact ret_b (by rw [Bool.eq_iff_iff]; simp; omega)
  cases hd : (decide (48 ≤ x) && decide (x ≤ 57)) with
  | false => exact rest hd
  | true =>
    simp only [Bool.and_eq_true, decide_eq_true_eq] at hd
    have e1 : decide (48 ≤ (x : Int)) = true := by simp; omega
    have e2 : decide ((x : Int) ≤ 57) = true := by simp; omega
    clear hd rest
    go_enter Tryz.func129, Tryz.ntmps129
    go_wp2
    go_ret
    exact ⟨rfl, Below.refl _ _⟩
end Go.Proofs.YtdhmekpgplajmaaGreatDoor
end
section
namespace Go.Proofs.YtdhmekpgplajmaaGreatDoor
open Go.RowKit
/-- '[]byte(s)': a slice of its own. -/
theorem bytes_of {P : Program} (w : World) {src dst e : TypeId} (hs : P.underlying src = some .string) (hd : P.underlying dst = some (.slice e)) (he : P.underlying e = some (.int .u8)) (l : List UInt8) (hl : l.length ≤ 9223372036854775807) :
    ∃ cap w', (convert src dst (sv l)).run P w = .ok (.slice (some ⟨w.heap.size, 0, none⟩) l.length cap) w' ∧ Below w.heap.size w w' ∧ SliceR w' (.slice (some ⟨w.heap.size, 0, none⟩) l.length cap) 1 encU l := by
  have h := run_bytes_of_string w src dst e ⟨l.toArray⟩ hs hd he
  rw [sv_size] at h
  refine ⟨_, _, h, (((Below.refl _ w).drew).alloc (by simp) _), _, w.heap.size, 0, _, rfl, grownCap_ge _ _ _ _, grownCap_le_maxLen _ _ _ _ hl, .inl rfl, fun i hi j u hu => ?_⟩
  cases j with
  | succ j => simp [encU] at hu
  | zero =>
    simp only [encU, List.getElem?_cons_zero, Option.some.injEq] at hu
    subst hu
    rw [Nat.mul_one, Nat.zero_add, Nat.add_zero]
    have := bytesRow_at ⟨l.toArray⟩ (grownCap w l.length 0 e) i (by simpa using hi)
    rw [show w.heap.size = w.drew.heap.size from rfl, World.cell?_alloc_mark, Nat.add_zero, this]
    simp
/-- How many digits stand ahead. -/
def runD : List UInt8 → Nat
  | [] => 0
  | c :: r => if digitN c.toNat then runD r + 1 else 0
theorem runD_le : ∀ l : List UInt8, runD l ≤ l.length
  | [] => Nat.le_refl _
  | c :: r => by
    rw [runD]; split
    · have := runD_le r; simp; exact this
    · simp
theorem SliceR.cellsA {α : Type} {f : α → Value} {w : World} {b o n cap : Nat} {xs : List α} (h : SliceR w (.slice (some ⟨b, o, none⟩) n cap) 1 (fun x => [f x]) xs) :
    n = xs.length ∧ xs.length ≤ cap ∧ cap ≤ 9223372036854775807 ∧ ∀ i (h : i < xs.length) (w' : World), Below w.heap.size w w' → w'.cell? ⟨b, o + i, none⟩ = some (f xs[i]) := by
  obtain ⟨b', o', h1, h2, h3, h4, h5⟩ := h.cells1
  refine ⟨h1, h2, h3, fun i hi w' hb => ?_⟩
  obtain ⟨rfl, rfl⟩ : b = b' ∧ o = o' := by have := h4 i hi; simpa using this
  exact h5 i hi w' hb
set_option maxHeartbeats 400000 in
theorem num_run (b o cap n : Nat) (l : List UInt8) (w : World) (h : SliceR w (.slice (some ⟨b, o, none⟩) n cap) 1 encU l) :
    Calls Tryz.prog 96 #[.slice (some ⟨b, o, none⟩) n cap, .int .i64 0] w (Ret w (.int .i64 (runD l : Nat))) := by
  obtain ⟨hlen, hcap, hcap', hcell⟩ := h.cellsA
  have hnn : n ≤ 9223372036854775807 := by omega
  have hcc : n ≤ cap := by omega
  have HC := Lib.hid hcell
  have HL := Lib.hid hlen
  clear hlen hcell h hcap
  go_enter Tryz.func96, Tryz.ntmps96
  go_wp2
  go_loopw [5, 12] (fun v i wr => ∃ k : Nat, k ≤ n ∧ v = .int .i64 k ∧ i = .int .i64 k ∧ runD l = k + runD (l.drop k) ∧ Below w.heap.size w wr) (fun _ i _ => n - (intOf i).toNat)
  case atStart => exact ⟨0, Nat.zero_le _, rfl, rfl, by simp, Below.refl _ _⟩
  case round =>
    obtain ⟨k, hk, rfl, rfl, hr, hB⟩ := hrel
    by_cases hlt : k < n
    · have hk2 : k < l.length := by rw [← HL.out]; exact hlt
      have c0 := HC.out k hk2 wr hB
      rw [drop_at l k hk2, runD] at hr
      generalize l[k] = c at *
      have hc256 := c.toNat_lt
      unfold digitN at hr
      by_cases d1 : c.toNat < 48
      · have e1 : decide ((c.toNat : Int) < 48) = true := by simp; omega
        rw [if_neg (by simp; omega)] at hr
        have HR := Lib.hid hr
        clear hr
        go_wp2
        go_ret
        exact ⟨by rw [HR.out]; rfl, hB⟩
      · have e1 : decide ((c.toNat : Int) < 48) = false := by simp; omega
        by_cases d2 : 57 < c.toNat
        · have e2 : decide (57 < (c.toNat : Int)) = true := by simp; omega
          rw [if_neg (by simp; omega)] at hr
          have HR := Lib.hid hr
          clear hr
          go_wp2
          go_ret
          exact ⟨by rw [HR.out]; rfl, hB⟩
        · have e2 : decide (57 < (c.toNat : Int)) = false := by simp; omega
          rw [if_pos (by simp; omega)] at hr
          have HR := Lib.hid hr
          clear hr
          go_wp2
          go_roundw
          case rel => exact ⟨k + 1, hlt, by go_num, by go_num, by rw [HR.out]; omega, hB⟩
          case measure => simp [intOf]; omega
    · obtain rfl : k = n := by omega
      rw [List.drop_eq_nil_of_le (by rw [← HL.out]; exact Nat.le_refl _), runD] at hr
      have HR := Lib.hid hr
      clear hr
      go_wp2
      go_ret
      exact ⟨by rw [HR.out]; rfl, hB⟩
/-- The number that digits say, most at most. -/
def valD (most : Nat) : Nat → List UInt8 → Option Nat
  | v, [] => some v
  | v, c :: r => if (most - (c.toNat - 48)) / 10 < v then none else valD most (v * 10 + (c.toNat - 48)) r
theorem valD_le (most : Nat) : ∀ (l : List UInt8) (v x : Nat), (∀ c ∈ l, digitN c.toNat = true) → v ≤ most → 9 ≤ most → valD most v l = some x → x ≤ most
  | [], v, x, _, h, _, e => by simp [valD] at e; omega
  | c :: r, v, x, hd, h, h9, e => by
    rw [valD] at e
    split at e
    · cases e
    · have hc := hd c (by simp)
      unfold digitN at hc
      simp only [Bool.and_eq_true, decide_eq_true_eq] at hc
      exact valD_le most r _ x (fun y hy => hd y (by simp [hy])) (by omega) h9 e
set_option maxHeartbeats 400000 in
theorem num_value (b o cap n most : Nat) (l : List UInt8) (w : World) (h : SliceR w (.slice (some ⟨b, o, none⟩) n cap) 1 encU l) (hd : ∀ c ∈ l, digitN c.toNat = true) (hm : 9 ≤ most) (hm2 : most ≤ 9223372036854775807) :
    Calls Tryz.prog 97 #[.slice (some ⟨b, o, none⟩) n cap, .int .i64 most] w (Ret w (match valD most 0 l with | some x => .tuple #[.int .i64 (x : Nat), .bool true] | none => .tuple #[.int .i64 0, .bool false])) := by
  obtain ⟨hlen, hcap, hcap', hcell⟩ := h.cellsA
  have hnn : n ≤ 9223372036854775807 := by omega
  have HC := Lib.hid hcell
  have HL := Lib.hid hlen
  have HD := Lib.hid hd
  clear hlen hcell h hcap hd
  generalize hg : (match valD most 0 l with | some x => Value.tuple #[.int .i64 (x : Nat), .bool true] | none => .tuple #[.int .i64 0, .bool false]) = res
  have HG := Lib.hid hg
  clear hg
  go_enter Tryz.func97, Tryz.ntmps97
  go_wp2
  go_loopw [6, 12] (fun v i wr => ∃ k x : Nat, k ≤ n ∧ x ≤ most ∧ v = .int .i64 x ∧ i = .int .i64 k ∧ valD most 0 l = valD most x (l.drop k) ∧ Below w.heap.size w wr) (fun _ i _ => n - (intOf i).toNat)
  case atStart => exact ⟨0, 0, Nat.zero_le _, Nat.zero_le _, rfl, rfl, by simp, Below.refl _ _⟩
  case round =>
    obtain ⟨k, x, hk, hx, rfl, rfl, hr, hB⟩ := hrel
    by_cases hlt : k < n
    · have hk2 : k < l.length := by rw [← HL.out]; exact hlt
      have c0 := HC.out k hk2 wr hB
      have hdc := HD.out _ (List.getElem_mem hk2)
      rw [drop_at l k hk2, valD] at hr
      generalize l[k] = c at *
      unfold digitN at hdc
      simp only [Bool.and_eq_true, decide_eq_true_eq] at hdc
      obtain ⟨d, hdd⟩ : ∃ d, c.toNat = d + 48 := ⟨c.toNat - 48, by omega⟩
      rw [hdd] at c0 hr hdc
      have hw8 : IntKind.u8.wrap (((d + 48 : Nat) : Int) - 48) = (d : Int) := by rw [IntKind.wrap_u8']; omega
      have hw0 : IntKind.i64.wrap (d : Int) = (d : Int) := IntWalk.i64_in _ (by omega)
      have hw1 : IntKind.i64.wrap ((most : Int) - (d : Int)) = ((most - d : Nat) : Int) := by rw [IntWalk.i64_in _ (by omega)]; omega
      have hw2 : IntKind.i64.wrap (((most - d : Nat) : Int)) = ((most - d : Nat) : Int) := IntWalk.i64_in _ (by omega)
      have hq1 : ((most - d : Nat) : Int).tdiv 10 = (((most - d) / 10 : Nat) : Int) := by rw [Int.tdiv_eq_ediv_of_nonneg (by omega)]; omega
      have hq2 : ((most - d : Nat) : Int) / 10 = (((most - d) / 10 : Nat) : Int) := by omega
      have hw3 : IntKind.i64.wrap (((most - d) / 10 : Nat) : Int) = (((most - d) / 10 : Nat) : Int) := IntWalk.i64_in _ (by omega)
      have e3 : decide ((most : Int) < (d : Int)) = false := by simp; omega
      rw [show d + 48 - 48 = d by omega] at hr
      generalize hqq : (most - d) / 10 = q at *
      by_cases d1 : q < x
      · have e1 : decide ((q : Int) < (x : Int)) = true := by simp; omega
        rw [if_pos d1] at hr
        have HR := Lib.hid hr
        have HQ := Lib.hid hqq
        clear hr hqq hdd
        go_wp2
        go_ret2
        exact ⟨by rw [← HG.out, HR.out]; rfl, hB⟩
      · have e1 : decide ((q : Int) < (x : Int)) = false := by simp; omega
        rw [if_neg d1] at hr
        have hle : x * 10 + d ≤ most := by omega
        have hw4 : IntKind.i64.wrap ((x : Int) * 10) = (x : Int) * 10 := IntWalk.i64_in _ (by omega)
        have hw5 : IntKind.i64.wrap ((x : Int) * 10 + (d : Int)) = ((x * 10 + d : Nat) : Int) := by rw [IntWalk.i64_in _ (by omega)]; omega
        have HR := Lib.hid hr
        have HLE := Lib.hid hle
        have HQ := Lib.hid hqq
        clear hr hqq hdd hle
        go_wp2
        go_roundw
        case rel => exact ⟨k + 1, x * 10 + d, hlt, HLE.out, by go_num, by go_num, HR.out, hB⟩
        case measure => simp [intOf]; omega
    · obtain rfl : k = n := by omega
      rw [List.drop_eq_nil_of_le (by rw [← HL.out]; exact Nat.le_refl _), valD] at hr
      have HR := Lib.hid hr
      clear hr
      go_wp2
      go_ret2
      exact ⟨by rw [← HG.out, HR.out]; rfl, hB⟩
/-- The number of digits, most at most: or 3 (no number), or 2 (above). -/
def formD (s : List UInt8) : Bool := !(runD s == 0) && (!decide (runD s < s.length) && !(s.getD 0 0 == 48 && decide (1 < runD s)))
theorem formD_digits {s : List UInt8} (h : formD s = true) : ∀ c ∈ s, digitN c.toNat = true := by
  have key : ∀ l : List UInt8, runD l = l.length → ∀ c ∈ l, digitN c.toNat = true := by
    intro l
    induction l with
    | nil => simp
    | cons a r ih =>
      intro h c hc
      rw [runD] at h
      split at h
      · rename_i ha
        rcases List.mem_cons.1 hc with rfl | hc
        · exact ha
        · exact ih (by simpa using h) c hc
      · simp at h
  unfold formD at h
  simp only [Bool.and_eq_true, Bool.not_eq_true', decide_eq_false_iff_not] at h
  exact key s (by have := runD_le s; omega)
def readN (most : Nat) (s : List UInt8) : Value := if formD s then (match valD most 0 s with | some x => .tuple #[.int .i64 (x : Nat), .int .i64 0] | none => .tuple #[.int .i64 0, .int .i64 2]) else .tuple #[.int .i64 0, .int .i64 3]
set_option maxHeartbeats 400000 in
theorem num_Read (s : List UInt8) (most : Nat) (w : World) (hs : s.length ≤ 9223372036854775807) (hm : 9 ≤ most) (hm2 : most ≤ 9223372036854775807) : Calls Tryz.prog 71 #[sv s, .int .i64 most] w (Ret w (readN most s)) := by
  obtain ⟨cap, w2, hcv, hb2, hsl⟩ := bytes_of (P := Tryz.prog) (src := 9) (dst := 56) w Tryz.underlying9 Tryz.underlying56 Tryz.underlying5 s hs
  obtain ⟨hlen, hcap, hcap', hcell⟩ := hsl.cellsA
  have hrun := fun w3 hb3 => num_run _ _ _ _ s w3 (hsl.kept (w' := w3) hb3)
  have hval := fun hd w3 hb3 => num_value _ _ _ _ most s w3 (hsl.kept (w' := w3) hb3) hd hm hm2
  have hle := runD_le s
  have hfd := @formD_digits s
  unfold readN
  unfold formD at hfd ⊢
  obtain ⟨n, hn⟩ : ∃ n, s.length = n := ⟨_, rfl⟩
  rw [hn] at hcv hrun hval hle hcap hs hfd ⊢
  generalize runD s = r at *
  have HRUN := Lib.hid hrun
  have HVAL := Lib.hid hval
  have hg0 : ∀ h : 0 < s.length, s.getD 0 0 = s[0] := fun h => by simp [List.getD_eq_getElem?_getD, h]
  have HC := Lib.hid hcell
  have HG := Lib.hid hg0
  have HN := Lib.hid hn
  have HFD := Lib.hid hfd
  clear hrun hval hsl hcell hg0 hlen hfd hn
  by_cases h0 : r = 0
  · subst h0
    rw [if_neg (by simp)]
    clear hm
    go_enter Tryz.func71, Tryz.ntmps71
    go_wp2_with (go_at_call 96; go_must (refine (HRUN.out _ (Below.refl _ _)).mono ?_; rintro e w3 ⟨rfl, hB3⟩))
    go_ret2
    exact ⟨rfl, hb2.trans (hB3.mono hb2.size)⟩
  · have e0 : ((r : Int) == 0) = false := by simp; omega
    have e0' : (r == 0) = false := by simp; omega
    by_cases h1 : r < n
    · have e1 : decide ((r : Int) < (n : Int)) = true := by simp; omega
      rw [if_neg (by simp [h1])]
      clear hm
      go_enter Tryz.func71, Tryz.ntmps71
      go_wp2_with (go_at_call 96; go_must (refine (HRUN.out _ (Below.refl _ _)).mono ?_; rintro e w3 ⟨rfl, hB3⟩))
      go_ret2
      exact ⟨rfl, hb2.trans (hB3.mono hb2.size)⟩
    · have e1 : decide ((r : Int) < (n : Int)) = false := by simp; omega
      have hn0 : 0 < s.length := by rw [HN.out]; omega
      have c0 := fun w3 hb3 => HC.out 0 hn0 w3 hb3
      have hgd := HG.out hn0
      rw [hgd] at HFD ⊢
      rw [Nat.add_zero] at c0
      generalize s[0] = c at *
      have C0 := Lib.hid c0
      clear c0 hgd hm
      have hcb : (c == 48) = ((c.toNat : Int) == 48) := by
        rw [Bool.eq_iff_iff]; simp only [beq_iff_eq]
        constructor
        · rintro rfl; rfl
        · intro h; exact UInt8.toNat_inj.1 (by simpa using Int.ofNat_inj.1 h)
      rw [hcb] at HFD ⊢
      clear hcb
      cases hc : ((c.toNat : Int) == 48) with
      | false =>
        have hd := HFD.out (by rw [hc]; simp; omega)
        have hval := HVAL.out hd
        rw [if_pos (by simp; omega)]
        generalize valD most 0 s = v at *
        have HV := Lib.hid hval
        clear hd hval HFD
        cases v with
        | none =>
          go_enter Tryz.func71, Tryz.ntmps71
          go_wp2_with (first | (go_at_call 96; go_must (refine (HRUN.out _ (Below.refl _ _)).mono ?_; rintro e w3 ⟨rfl, hB3⟩; have c0 := C0.out _ hB3)) | (go_at_call 97; go_must (refine (HV.out _ hB3).mono ?_; rintro e w4 ⟨rfl, hB4⟩; have hB5 := hB3.trans (hB4.mono hB3.size))))
          go_ret2
          exact ⟨rfl, hb2.trans (hB5.mono hb2.size)⟩
        | some x =>
          go_enter Tryz.func71, Tryz.ntmps71
          go_wp2_with (first | (go_at_call 96; go_must (refine (HRUN.out _ (Below.refl _ _)).mono ?_; rintro e w3 ⟨rfl, hB3⟩; have c0 := C0.out _ hB3)) | (go_at_call 97; go_must (refine (HV.out _ hB3).mono ?_; rintro e w4 ⟨rfl, hB4⟩; have hB5 := hB3.trans (hB4.mono hB3.size))))
          go_ret2
          exact ⟨rfl, hb2.trans (hB5.mono hb2.size)⟩
      | true =>
        by_cases h2 : 1 < r
        · have e2 : decide (1 < (r : Int)) = true := by simp; omega
          rw [if_neg (by simp [h2])]
          clear HFD
          go_enter Tryz.func71, Tryz.ntmps71
          go_wp2_with (first | (go_at_call 96; go_must (refine (HRUN.out _ (Below.refl _ _)).mono ?_; rintro e w3 ⟨rfl, hB3⟩; have c0 := C0.out _ hB3)) | (go_at_call 97; go_must (refine (HV.out _ hB3).mono ?_; rintro e w4 ⟨rfl, hB4⟩; have hB5 := hB3.trans (hB4.mono hB3.size))))
          go_ret2
          exact ⟨rfl, hb2.trans (hB3.mono hb2.size)⟩
        · have e2 : decide (1 < (r : Int)) = false := by simp; omega
          have hd := HFD.out (by rw [hc]; simp; omega)
          have hval := HVAL.out hd
          rw [if_pos (by simp; omega)]
          generalize valD most 0 s = v at *
          have HV := Lib.hid hval
          clear hd hval HFD
          cases v with
          | none =>
            go_enter Tryz.func71, Tryz.ntmps71
            go_wp2_with (first | (go_at_call 96; go_must (refine (HRUN.out _ (Below.refl _ _)).mono ?_; rintro e w3 ⟨rfl, hB3⟩; have c0 := C0.out _ hB3)) | (go_at_call 97; go_must (refine (HV.out _ hB3).mono ?_; rintro e w4 ⟨rfl, hB4⟩; have hB5 := hB3.trans (hB4.mono hB3.size))))
            go_ret2
            exact ⟨rfl, hb2.trans (hB5.mono hb2.size)⟩
          | some x =>
            go_enter Tryz.func71, Tryz.ntmps71
            go_wp2_with (first | (go_at_call 96; go_must (refine (HRUN.out _ (Below.refl _ _)).mono ?_; rintro e w3 ⟨rfl, hB3⟩; have c0 := C0.out _ hB3)) | (go_at_call 97; go_must (refine (HV.out _ hB3).mono ?_; rintro e w4 ⟨rfl, hB4⟩; have hB5 := hB3.trans (hB4.mono hB3.size))))
            go_ret2
            exact ⟨rfl, hb2.trans (hB5.mono hb2.size)⟩
end Go.Proofs.YtdhmekpgplajmaaGreatDoor
end
section
namespace Go.Proofs.YtdhmekpgplajmaaGreatDoor
open Go.RowKit
/-- The reader is left. -/
def Left (w : World) (e : Ending) (w' : World) : Prop := e = .panicked [{ v := .iface 73 (.agg #[]), recovered := false }] ∧ Below w.heap.size w w'
theorem must_yes (w : World) : Calls Tryz.prog 17 #[.bool true] w (Ret w (.tuple #[])) := by
  go_enter Tryz.func17, Tryz.ntmps17
  go_wp2
  go_end0
  exact ⟨rfl, Below.refl _ _⟩
theorem must_no (w : World) : Calls Tryz.prog 17 #[.bool false] w (Left w) := by
  go_enter Tryz.func17, Tryz.ntmps17
  go_wp2
  exact ⟨rfl, rfl, Below.refl _ _⟩
/-- The number that a word says, or none. -/
def numT (s : List UInt8) : Option Nat := if formD s then valD 65536 0 s else none
/-- It is handed back, or the reader is left. -/
def RetNum (w : World) (v : Option Nat) : Ending → World → Prop := match v with | some x => Ret w (.int .i64 (x : Nat)) | none => Left w
theorem list_number (s : List UInt8) (w : World) (hs : s.length ≤ 9223372036854775807) : Calls Tryz.prog 47 #[sv s] w (RetNum w (numT s)) := by
  have hr := fun w => num_Read s 65536 w hs (by decide) (by decide)
  unfold readN at hr
  unfold numT
  have HY := Lib.hid must_yes
  have HX := Lib.hid must_no
  cases hf : formD s with
  | false =>
    rw [hf] at hr
    have HR := Lib.hid hr
    clear hr hf
    go_enter Tryz.func47, Tryz.ntmps47
    go_wp2_with (first | (go_at_call 71; go_must (refine (HR.out _).mono ?_; rintro e w3 ⟨rfl, hB3⟩)) | (go_at_call 17; go_must (refine (HX.out _).mono ?_; rintro e w4 ⟨rfl, hB4⟩)))
    exact ⟨rfl, rfl, hB3.trans (hB4.mono hB3.size)⟩
  | true =>
    rw [hf] at hr
    generalize valD 65536 0 s = v at *
    cases v with
    | none =>
      have HR := Lib.hid hr
      clear hr hf
      go_enter Tryz.func47, Tryz.ntmps47
      go_wp2_with (first | (go_at_call 71; go_must (refine (HR.out _).mono ?_; rintro e w3 ⟨rfl, hB3⟩)) | (go_at_call 17; go_must (refine (HX.out _).mono ?_; rintro e w4 ⟨rfl, hB4⟩)))
      exact ⟨rfl, rfl, hB3.trans (hB4.mono hB3.size)⟩
    | some x =>
      have HR := Lib.hid hr
      clear hr hf
      go_enter Tryz.func47, Tryz.ntmps47
      go_wp2_with (first | (go_at_call 71; go_must (refine (HR.out _).mono ?_; rintro e w3 ⟨rfl, hB3⟩)) | (go_at_call 17; go_must (refine (HY.out _).mono ?_; rintro e w4 ⟨rfl, hB4⟩)))
      go_ret
      exact ⟨rfl, hB3.trans (hB4.mono hB3.size)⟩
end Go.Proofs.YtdhmekpgplajmaaGreatDoor
end
