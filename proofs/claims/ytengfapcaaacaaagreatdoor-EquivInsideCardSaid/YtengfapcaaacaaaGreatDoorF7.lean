/- The texts of E7, in few letters (mini.py). -/
import Derived.Test.YtengfapcaaacaaaGreatDoorF5
import Derived.RangeFuncNested
import Derived.RangeFuncBound
import Derived.Shelf.RegionOpen
import Derived.OwnWalkIn
import Derived.LoopNIn
import Derived.LoopIn
set_option linter.unusedVariables false
set_option linter.unusedSimpArgs false
set_option maxHeartbeats 1600000
set_option maxRecDepth 20000
namespace Go.Proofs.YtengfapcaaacaaaGreatDoor
section
open Go.RowKit
theorem Z7(x a1 b1 a2 b2 c r:Nat)(w:World)
  (ha1:bits BinOp.and IntKind.u64 ((x:Int) / 2) 6148914691236517205=(a1:Int)) (hb1:bits BinOp.and IntKind.u64 (x:Int) 6148914691236517205=(b1:Int)) (h1:a1+b1<18446744073709551616)
  (ha2:bits BinOp.and IntKind.u64 (((a1:Int)+(b1:Int)) / 4) 3689348814741910323=(a2:Int)) (hb2:bits BinOp.and IntKind.u64 ((a1:Int)+(b1:Int)) 3689348814741910323=(b2:Int)) (h2:(a2+b2) / 16+(a2+b2)<18446744073709551616)
  (hc:bits BinOp.and IntKind.u64 (((a2:Int)+(b2:Int)) / 16+((a2:Int)+(b2:Int))) 1085102592571150095=(c:Int)) (h3:c≤578721382704613384)
  (hr:bits BinOp.and IntKind.i64 ((c:Int)+(c:Int) / 256+((c:Int)+(c:Int) / 256) / 65536+((c:Int)+(c:Int) / 256+((c:Int)+(c:Int) / 256) / 65536) / 4294967296) 127=(r:Int)) :
  Calls Tryz.prog 182 #[.int .u64 x] w fun e w'=>e=.returned (.int .i64 r)∧w'=w:=by
 go_enter Tryz.func182,Tryz.ntmps182
 go_wp2
 go_ret
 exact⟨rfl,rfl⟩
theorem VT(x d M:Nat)(hx:x<18446744073709551616)(hM:M<18446744073709551616):bits BinOp.and IntKind.u64 ((x:Int) / (d:Int)) (M:Int)=((x / d &&& M:Nat):Int):=by
 rw[←Int.natCast_ediv];exact bits_and_u64_nat _ _ (Nat.lt_of_le_of_lt (Nat.div_le_self _ _) hx) hM
theorem ahF(x:Nat)(hx:x<18446744073709551616)(w:World) :
  Calls Tryz.prog 182 #[.int .u64 x] w fun e w'=>e=.returned (.int .i64 ((jL x).length:Nat))∧w'=w:=by
 obtain⟨h3,hs⟩:=acL x
 have hp1:x / 2 &&& 6148914691236517205≤6148914691236517205:=Nat.and_le_right
 have hp2:x &&& 6148914691236517205≤6148914691236517205:=Nat.and_le_right
 have hq1:jC x / 4 &&& 3689348814741910323≤3689348814741910323:=Nat.and_le_right
 have hq2:jC x &&& 3689348814741910323≤3689348814741910323:=Nat.and_le_right
 have hb1:jC x<18446744073709551616:=by unfold jC;omega
 have hb2:mZ (jC x) / 16+mZ (jC x)<18446744073709551616:=by unfold mZ;omega
 have c1:(((x / 2 &&& 6148914691236517205:Nat):Int)+((x &&& 6148914691236517205:Nat):Int))=((jC x:Nat):Int):=by unfold jC;omega
 have c2:(((jC x / 4 &&& 3689348814741910323:Nat):Int)+((jC x &&& 3689348814741910323:Nat):Int))=((mZ (jC x):Nat):Int):=by unfold mZ;omega
 refine Z7 x (x / 2 &&& 6148914691236517205) (x &&& 6148914691236517205) (jC x / 4 &&& 3689348814741910323) (jC x &&& 3689348814741910323) (wO (mZ (jC x))) _ w
  (VT x 2 6148914691236517205 hx (by decide)) (bits_and_u64_nat x 6148914691236517205 hx (by decide)) hb1 ?_ ?_ hb2 ?_ h3 ?_
 ·rw[c1];exact VT _ 4 3689348814741910323 hb1 (by decide)
 ·rw[c1];exact bits_and_u64_nat _ 3689348814741910323 hb1 (by decide)
 ·rw[c2,show((mZ (jC x):Nat):Int) / 16+((mZ (jC x):Nat):Int)=((mZ (jC x) / 16+mZ (jC x):Nat):Int) by omega]
  exact bits_and_u64_nat _ 1085102592571150095 hb2 (by decide)
 ·rw[i64_and127,←hs]
  generalize wO (mZ (jC x))=c
  omega
def Fb(s:aF):Nat→Nat
 | 0=>0
 | j+1=>Fb s j+(jL (word s j)).length
theorem VU(s:aF):∀ j,Fb s j≤64*j
 | 0=>Nat.le_refl _
 | j+1=>by
  have h:=VU s j
  have h2:(jL (word s j)).length≤64:=by have:=List.length_filter_le (fun i=>(word s j).testBit i) (List.range 64);simpa [jL] using this
  simp only[Fb];omega
theorem XV(s:aF):Fb s 4=(elems s).length:=by
 rw[Hr];simp[Fb,zh,kN];omega
theorem Kw(s:aF)(w:World):Calls Tryz.prog 135 #[.agg (dZ s)] w (bF w (.int .i64 ((elems s).length:Nat))):=by
 rw[←XV]
 go_enter Tryz.func135,Tryz.ntmps135
 go_wp2
 go_loopw [3,7] (fun n i wr=>∃ j:Nat,j≤4∧i=.int .i64 j∧n=.int .i64 (Fb s j:Nat)∧Below w.heap.size w wr) (fun _ i _=>4 - (intOf i).toNat)
 case atStart=>exact⟨0,Nat.zero_le _,rfl,rfl,by go_grown⟩
 case round =>
  obtain⟨j,hj,rfl,rfl,hB⟩:=hrel
  by_cases hlt:j<4
  ·have gw:=E5 s j hlt
   have hle:=VU s j
   have hO:=ahF (word s j) (word_lt s j)
   have hst:Fb s (j+1)=Fb s j+(jL (word s j)).length:=rfl
   have hle2:(jL (word s j)).length≤64:=by have:=List.length_filter_le (fun i=>(word s j).testBit i) (List.range 64);simpa [jL] using this
   have HO:=ah hO
   clear hO
   generalize (jL (word s j)).length=m at *
   go_wp2_with (go_at_call 182;go_must (refine(HO.out _).mono ?_;rintro e w1 ⟨rfl,rfl⟩))
   go_roundw
   case rel=>exact⟨j+1,hlt,by go_num,by rw[hst];go_num,hB⟩
   case measure=>simp[intOf];omega
  ·obtain rfl:j=4:=by omega
   go_wp2
   go_ret
   exact⟨rfl,hB⟩
end
section
open Go.RowKit
def dH(n:Nat):Nat:=(n+63) / 64
def sS(m S:Nat):Array Value:=((jq m S).map fun x=>Value.int .u64 (x:Nat)).toArray
theorem pq(m S k:Nat)(h:k<m):(sS m S)[k]?=some (.int .u64 (fA S k:Nat)):=by simp[sS,jq,h]
theorem U5(m S:Nat):(sS m S).size=m:=by simp[sS,jq]
theorem XW(m S i:Nat):sS m (S ||| 1 <<< i)=(sS m S).setIfInBounds (i / 64) (.int .u64 ((fA S (i / 64) ||| 1 <<< (i % 64):Nat):Nat)):=by
 unfold sS
 rw[XG,List.setIfInBounds_toArray,List.map_set]
structure gG(w:World)(p g n S:Nat):Prop where
 box:Box w p #[.int .i64 n,.slice (some ⟨g,0,none⟩) (dH n) (dH n)] 341
 words:Box w g (sS (dH n) S) 111
 lt:S<2 ^ n
 ne:p≠g
theorem gG.kept{w w':World}{p g n S:Nat}(h:gG w p g n S)(hb:Below w.heap.size w w'):gG w' p g n S:=⟨h.box.kept hb,h.words.kept hb,h.lt,h.ne⟩
theorem Oy(n:Nat):bits BinOp.and IntKind.i64 (n:Int) 63=((n % 64:Nat):Int):=by
 have h63:(BitVec.ofInt 64 63).toNat=2 ^ 6 - 1:=by decide
 have key:(BitVec.ofInt 64 (n:Int) &&& BitVec.ofInt 64 63).toNat=((n:Int) % ((2 ^ 64:Nat):Int)).toNat % 2 ^ 6:=by
  rw[BitVec.toNat_and,BitVec.toNat_ofInt,h63,Nat.and_two_pow_sub_one_eq_mod]
 show IntKind.i64.wrap ((BitVec.ofInt 64 (n:Int) &&& BitVec.ofInt 64 63).toNat:Nat)=_
 rw[key,IntKind.wrap_i64]
 omega
theorem ac9:dI Tryz.prog 339 111 (.int .u64 0) 1 8:=⟨Tryz.underlying339,info_parts (by kernel_rfl),rfl,by decide⟩
def ahG(x:Nat):List Value:=[.int .u64 (x:Nat)]
theorem agL:dX ahG 1:=⟨fun _=>rfl,fun x u hu=>by simp[ahG] at hu;subst hu;rfl⟩
theorem XY(m:Nat):madeCells #[Value.int .u64 0] (m*1)=sS m 0:=by
 apply Array.ext_getElem?
 intro i
 by_cases h:i<m
 ·rw[yL _ _ _ (by omega) (by simp),pq _ _ _ h,show fA 0 i=0 by simp[fA]]
  simp[Nat.mod_one]
 ·rw[Array.getElem?_eq_none (by rw[size_madeCells];omega),Array.getElem?_eq_none (by rw[U5];omega)]
theorem Ky(n:Nat)(w:World)(hn:n≤1048576):Calls Tryz.prog 238 #[.int .i64 n] w fun e w'=>e=.returned (.tuple #[.pointer (some ⟨w.heap.size+1,0,none⟩),.int .i64 0])∧gG w' (w.heap.size+1) w.heap.size n 0∧w'.heap.size=w.heap.size+2∧Below w.heap.size w w':=by
 have h1:decide ((n:Int)<0)=false:=decide_eq_false (by omega)
 have h2:decide ((1048576:Int)<(n:Int))=false:=by simp;omega
 have hq:((n:Int)+63) / 64=((dH n:Nat):Int):=by unfold dH;omega
 have hm:dH n≤16384:=by unfold dH;omega
 have HQ:=ah hq
 clear hq
 go_enter Tryz.func238,Tryz.ntmps238
 go_wp2_with (refine zG rfl 339 _ _ rfl ac9 agL 0 rfl (dH n) (congrArg (Value.int .i64) HQ.out) (congrArg (Value.int .i64) HQ.out) (by omega) (by simp[maxLen];omega) w.heap.size (Nat.le_refl _) ?_;intro w1 ho hw1;have hs1:w1.heap.size=w.heap.size+1:=(by rw[hw1];simp))
 go_ret2
 have e:=XY (dH n)
 rw[Nat.mul_one] at e
 rw[e]
 have hB1:=aj w (.cells (sS (dH n) 0) 111)
 exact⟨rfl,⟨Box.new' (by simp) _ _,(Box.new w _ _).alloc _,Nat.pos_of_ne_zero (by simp),by omega⟩,by simp,hB1.alloc hB1.size _⟩
theorem Hz(n i:Nat)(w:World):Calls Tryz.prog 259 #[.int .i64 n,.int .i64 i] w fun e w'=>e=.returned (.bool (decide (i<n)))∧w'=w:=by
 have h1:decide ((0:Int)≤(i:Int))=true:=by simp
 have h2:decide ((i:Int)<(n:Int))=decide (i<n):=by simp
 go_enter Tryz.func259,Tryz.ntmps259
 go_wp2
 go_ret
 exact⟨rfl,rfl⟩
theorem ada(p g n S i:Nat)(w:World)(h:gG w p g n S)(hi:i≤1099511627776):Calls Tryz.prog 260 #[.pointer (some ⟨p,0,none⟩),.int .i64 i] w fun e w'=>e=.returned (.bool (decide (i<n)&&S.testBit i))∧w'=w:=by
 have hf:=fun u=>Hz n i u
 have x0:w.cell? ⟨p,0,none⟩=some (.int .i64 n):=h.box.cell 0
 have x1:w.cell? ⟨p,1,none⟩=some (.slice (some ⟨g,0,none⟩) (dH n) (dH n)):=h.box.cell 1
 have h63:=Oy i
 by_cases hin:i<n
 ·rw[decide_eq_true hin] at hf
  have hk:i / 64<dH n:=by unfold dH;omega
  have hz:=DR S (i / 64)
  have x2:w.cell? ⟨g,i / 64,none⟩=some (.int .u64 (fA S (i / 64):Nat)):=(h.words.cell _).trans (pq _ _ _ hk)
  rw[decide_eq_true hin,Bool.true_and]
  have hb:(fA S (i / 64)).testBit (i % 64)=S.testBit i:=by
   rw[uO,decide_eq_true (Nat.mod_lt _ (by decide)),Bool.true_and,show 64*(i / 64)+i % 64=i by omega]
  have ha:=and_one _ (i % 64) hz
  rw[hb] at ha
  have h64:i % 64<64:=Nat.mod_lt _ (by decide)
  have HF:=ah hf;have HA:=ah ha;have H63:=ah h63
  clear hf h hb ha h63
  generalize fA S (i / 64)=z at *
  go_enter Tryz.func260,Tryz.ntmps260
  go_wp2_with (first | (go_at_call 259;go_must (refine(HF.out _).mono ?_;rintro e w2 ⟨rfl,rfl⟩)) | (simp only[H63.out]))
  go_ret
  exact⟨congrArg (fun b=>Ending.returned (.bool b)) HA.out,rfl⟩
 ·rw[decide_eq_false hin] at hf ⊢
  have HF:=ah hf
  clear hf h h63
  go_enter Tryz.func260,Tryz.ntmps260
  go_wp2_with (go_at_call 259;go_must (refine(HF.out _).mono ?_;rintro e w2 ⟨rfl,rfl⟩))
  go_ret
  exact⟨rfl,rfl⟩
theorem gG.put{w:World}{p g n S i:Nat}(h:gG w p g n S)(hi:i<n):gG (w.setCell ⟨g,i / 64,none⟩ (.int .u64 ((fA S (i / 64) ||| 1 <<< (i % 64):Nat):Nat))) p g n (S ||| 1 <<< i) :=
 ⟨h.box.other _ _ h.ne,by rw[XW];exact h.words.set _ _,ZA n S i hi h.lt,h.ne⟩
structure iL(g:Nat)(w w':World):Prop where
 os:w'.os=w.os
 tape:w'.tape=w.tape
 output:w'.output=w.output
 size:w.heap.size≤w'.heap.size
 block:∀ b,b<w.heap.size→b≠g→w'.heap[b]?=w.heap[b]?
theorem iL.below{g:Nat}{w w':World}(h:Below w.heap.size w w'):iL g w w':=⟨h.os,h.tape,h.output,h.size,fun b hb _=>h.block b hb⟩
theorem iL.refl(g:Nat)(w:World):iL g w w:=.below (Below.refl _ _)
theorem iL.trans{g:Nat}{a b c:World}(h:iL g a b)(k:iL g b c):iL g a c :=
 ⟨k.os.trans h.os,k.tape.trans h.tape,k.output.trans h.output,Nat.le_trans h.size k.size,fun x hx hn=>(k.block x (Nat.lt_of_lt_of_le hx h.size) hn).trans (h.block x hx hn)⟩
theorem iL.set{g:Nat}{w w':World}(h:iL g w w')(i:Nat)(u:Value):iL g w (w'.setCell ⟨g,i,none⟩ u) :=
 ⟨h.os,h.tape,h.output,(by rw[World.size_setCell];exact h.size),fun b hb h1=>(heap_setCell_other w' ⟨g,i,none⟩ b u h1).trans (h.block b hb h1)⟩
theorem iL.box{g:Nat}{w w':World}{b:Nat}{c:Array Value}{E:TypeId}(h:iL g w w')(hx:Box w b c E)(hn:b≠g):Box w' b c E:=(h.block b hx.lt hn).trans hx
theorem iL.toBelow{g:Nat}{w0 w w':World}(h:iL g w w')(hb:Below w0.heap.size w0 w)(hg:w0.heap.size≤g):Below w0.heap.size w0 w' :=
 ⟨h.os.trans hb.os,h.tape.trans hb.tape,h.output.trans hb.output,Nat.le_trans hb.size h.size,fun b hb'=>(h.block b (Nat.lt_of_lt_of_le hb' hb.size) (by omega)).trans (hb.block b hb')⟩
def oD(p g n S i:Nat)(w:World)(e:Ending)(w':World):Prop :=
 if i<n∧S.testBit i=false then e=.returned (.bool true)∧gG w' p g n (S ||| 1 <<< i)∧iL g w w' else e=.returned (.bool false)∧w'=w
theorem Q7(p g n S i:Nat)(w:World)(h:gG w p g n S)(hi:i≤1099511627776):Calls Tryz.prog 239 #[.pointer (some ⟨p,0,none⟩),.int .i64 i] w (oD p g n S i w):=by
 have hf:=fun u=>Hz n i u
 have hh:=ada p g n S i w h hi
 have x0:w.cell? ⟨p,0,none⟩=some (.int .i64 n):=h.box.cell 0
 have x1:w.cell? ⟨p,1,none⟩=some (.slice (some ⟨g,0,none⟩) (dH n) (dH n)):=h.box.cell 1
 have h63:=Oy i
 by_cases hin:i<n
 ·rw[decide_eq_true hin] at hf hh
  have hk:i / 64<dH n:=by unfold dH;omega
  have hz:=DR S (i / 64)
  have x2:w.cell? ⟨g,i / 64,none⟩=some (.int .u64 (fA S (i / 64):Nat)):=(h.words.cell _).trans (pq _ _ _ hk)
  have f2:=h.words.free (i / 64)
  cases hb:S.testBit i with
  | true =>
   have hR:∀ e w',e=.returned (.bool false)∧w'=w→oD p g n S i w e w':=fun e w' h=>by unfold oD;rw[if_neg (by simp[hb])];exact h
   generalize oD p g n S i w=R at *
   rw[hb] at hh
   have HF:=ah hf;have HH:=ah hh;have HR:=ah hR
   clear hf h hh hR h63 x2 f2 hb
   go_enter Tryz.func239,Tryz.ntmps239
   go_wp2_with (first | (go_at_call 259;go_must (refine(HF.out _).mono ?_;rintro e w2 ⟨rfl,rfl⟩)) | (go_at_call 260;go_must (refine HH.out.mono ?_;rintro e w3 ⟨rfl,rfl⟩)))
   exact HR.out _ _ ⟨rfl,rfl⟩
  | false =>
   have hR:∀ e w',e=.returned (.bool true)∧gG w' p g n (S ||| 1 <<< i)∧iL g w w'→oD p g n S i w e w':=fun e w' h=>by unfold oD;rw[if_pos ⟨hin,hb⟩];exact h
   generalize oD p g n S i w=R at *
   rw[hb] at hh
   have hor:=or_bit _ (i % 64) hz (Nat.mod_lt _ (by decide))
   rw[←Nat.one_shiftLeft] at hor
   have h64:i % 64<64:=Nat.mod_lt _ (by decide)
   have HF:=ah hf;have HH:=ah hh;have HR:=ah hR;have HO:=ah hor;have H63:=ah h63
   clear hf hh hR hb hor h63
   have hput:=fun u (hu:gG u p g n S)=>hu.put hin
   have HF2:Hid (∀ u,Later w.drew u→gG u p g n S∧u.cell? ⟨g,i / 64,none⟩=some (.int .u64 (fA S (i / 64):Nat))):=ah fun u hl=>⟨⟨h.box.drew.kept hl,h.words.drew.kept hl,h.lt,h.ne⟩,((h.words.drew.kept hl).cell _).trans (pq _ _ _ hk)⟩
   have HP:=ah hput
   have hg0:(0:Int)≤(i:Int) / 64:=by omega
   have hg1:(i:Int) / 64<((dH n:Nat):Int):=by omega
   have hg2:((i:Int) / 64).toNat=i / 64:=by omega
   have hg3:((i:Int) % 64).toNat=i % 64:=by omega
   have HG:=ah (And.intro hg0 (And.intro hg1 (And.intro hg2 hg3)))
   clear hput hg0 hg1 hg2 hg3
   generalize fA S (i / 64)=z at *
   go_enter Tryz.func239,Tryz.ntmps239
   go_wp2_with (first | (go_at_call 259;go_must (refine(HF.out _).mono ?_;rintro e w2 ⟨rfl,rfl⟩)) | (go_at_call 260;go_must (refine HH.out.mono ?_;rintro e w3 ⟨rfl,rfl⟩)))
   clear h x0 x1 x2 f2
   refine aO (R:=Later) 13 (by kernel_rfl) ?_
   refine pl [0,1,2,3,4,5,6,7,8,9,10,11,12] ?_
   repeat
    refine dR ?_ rfl (fun w1 hl=>?_) ?_
    rotate_left
    ·obtain⟨hS,x2⟩:=HF2.out w1 hl;have x0:=hS.box.cell 0;have x1:=hS.box.cell 1;have h63:=H63.out;have ho:=HO.out;obtain⟨hg0,hg1,hg2,hg3⟩:=HG.out;go_simp;try with_reducible rfl
    simp only[eA,eB,eC,Act.put,eD,eE,eF]
   refine bV ?_
   refine bg (t:=13) (i:=13) (by kernel_rfl) rfl (fun w1 hl K hK=>?_)
   obtain⟨hS,x2⟩:=HF2.out w1 hl
   have f2:=hS.words.free (i / 64)
   go_simp
   refine hK.out _ _ (fun h=>absurd rfl h) ?_
   clear hK K
   have CQ:=HP.out w1 hS
   have hON:iL g w3 (w1.setCell ⟨g,i / 64,none⟩ (.int .u64 ((z ||| 1 <<< (i % 64):Nat):Nat))):=(iL.below ((Below.refl w3.heap.size w3).drew.trans hl)).set _ _
   clear hl hS x2 f2 HF2
   refine aV (by kernel_rfl) (fun w1 hl=>?_) _
   have an2:=CQ.kept hl
   have an3:=hON.trans (.below hl)
   clear hl CQ hON
   go_wp2
   trace_state
   exact HR.out _ _ ⟨rfl,an2,an3⟩
 ·rw[decide_eq_false hin] at hf
  have hR:∀ e w',e=.returned (.bool false)∧w'=w→oD p g n S i w e w':=fun e w' h=>by unfold oD;rw[if_neg (by omega)];exact h
  generalize oD p g n S i w=R at *
  have HF:=ah hf;have HR:=ah hR
  clear hf h hh hR h63
  go_enter Tryz.func239,Tryz.ntmps239
  go_wp2_with (go_at_call 259;go_must (refine(HF.out _).mono ?_;rintro e w2 ⟨rfl,rfl⟩))
  exact HR.out _ _ ⟨rfl,rfl⟩
end
section
open Go.RowKit
abbrev Q8:Value:=.agg #[.int .i64 0,.int .u64 0,.int .u64 0,.int .u64 0,.int .u64 0,.slice none 0 0,.int .i64 0,.int .i64 0]
abbrev bJ:Array Value:=#[.int .i64 0,.int .u64 0,.int .u64 0,.int .u64 0,.int .u64 0,.slice none 0 0,.int .i64 0,.int .i64 0]
theorem Fe:dI Tryz.prog 109 115 Q8 8 80 :=
 ⟨Tryz.underlying109,info_parts (by kernel_rfl),rfl,by decide⟩
theorem Z8(w:World):au w (.slice none 0 0) 8 Vt.cells ([]:List Vt):=⟨none,0,0,0,rfl,Nat.le_refl _,by simp[maxLen],.inr ⟨rfl,fun _=>rfl⟩,fun i h=>by simp at h⟩
theorem Z9(w:World)(k:Int)(s:aF)(hk:I64 k):Lies w (.mk k s none 0 [] 0 0):=.mk k s none 0 [] 0 0 hk (by decide) (by decide) (Z8 w) (fun i h=>by simp at h)
theorem agM(S:Nat→Prop)(k:Int)(s:aF):On S (.mk k s none 0 [] 0 0):=.mk k s none 0 [] 0 0 (fun h=>by simp at h) (fun i h=>by simp at h)
abbrev Ql(k:Int)(s:aF):Tr:=.mk k s [] 0 0
theorem agN(k:Int)(s:aF):(Vt.mk k s none 0 [] 0 0).tr=Ql k s:=by rw[Vt.jU];rfl
theorem Q9{w w':World}(k:Int)(s:aF)(hk:I64 k)(hb:Below w.heap.size w w'):QJ w (Ql k s) (.returned (.agg (aI k s none 0 0 0 0).toArray)) w' :=
 ⟨.mk k s none 0 [] 0 0,rfl,agN k s,Z9 w' k s hk,agM _ k s,hb⟩
theorem Kz(s:aF)(w:World):Calls Tryz.prog 136 #[mY s] w (QJ w (Ql 3 s)):=by
 go_enter Tryz.func136,Tryz.ntmps136
 go_wp2
 exact eH Tryz.results136 rfl (cs:=(aI 3 s none 0 0 0 0).toArray) (Box.new' (World.size_alloc _ _).symm _ _) Tryz.underlying115 rfl (by kernel_rfl) rfl (Q9 3 s (by decide) (by go_grown))
theorem U6(w:World):Calls Tryz.prog 257 #[] w (bF w (.agg (aI 2 0 none 0 0 0 0).toArray)):=by
 have hz:aI 2 0 none 0 0 0 0=[.int .i64 2,.int .u64 0,.int .u64 0,.int .u64 0,.int .u64 0,.slice none 0 0,.int .i64 0,.int .i64 0]:=by simp only[aI,qG];rfl
 go_enter Tryz.func257,Tryz.ntmps257
 go_wp2
 exact eH Tryz.results257 rfl (cs:=(aI 2 0 none 0 0 0 0).toArray) (by rw[hz];exact Box.new' rfl _ _) Tryz.underlying115 rfl (by kernel_rfl) rfl ⟨rfl,by go_grown⟩
theorem XZ(w:World):Calls Tryz.prog 257 #[] w (QJ w (Ql 2 0)):=(U6 w).mono fun e w' h=>by
 obtain⟨rfl,hb⟩:=h
 exact Q9 2 0 (by decide) hb
end
section
open Go.RowKit
theorem adb{P:Program}{t e:TypeId}(hu:P.underlying t=some (.array 4 e))(he:P.underlying e=some (.int .u64))(hi:(P.info? e).map (fun i=>i.size)=some 1)(s u:aF)(w:World) :
  (Op.equalIn 10000 t (mY s) (mY u)).run P w=.ok (decide (s=u)) w:=by
 cases hq:P.info? e with
 | none=>simp[hq] at hi
 | some i =>
  have hs:i.size=1:=by simpa [hq] using hi
  have hc:P.cellsOf e=1:=by simp[Program.cellsOf,hq,hs]
  have:=mO (P:=P) 9998 (q:=.u64) hu he hq hc [(word s 0:Nat),(word s 1:Nat),(word s 2:Nat),(word s 3:Nat)] [(word u 0:Nat),(word u 1:Nat),(word u 2:Nat),(word u 3:Nat)] rfl rfl w
  refine this.trans ?_
  congr 1
  rw[decide_eq_decide]
  constructor
  ·intro h
   simp only[List.cons.injEq,and_true,Int.natCast_inj] at h
   obtain⟨h0,h1,h2,h3⟩:=h
   refine word_inj fun i hi=>?_
   match i,hi with
   | 0,_=>exact h0
   | 1,_=>exact h1
   | 2,_=>exact h2
   | 3,_=>exact h3
  ·rintro rfl;rfl
end
section
open Go.RowKit
theorem room_of_none{F:Fence}(hd:F.depth=none)(k:Nat):F.room k:=fun d h=>by rw[hd] at h;cases h
theorem aac{F:Fence}(hd:F.depth=none){m m':Nat}{P:Program}{l:Nat}{f:FuncId}{tmps:Array Value}{assign body:Code}{w:World}{R:Ending→World→Prop}
  (h:RoundIn F m P l f tmps assign body w R):RoundIn F m' P l f tmps assign body w R:=⟨h.1,fun c cs _=>h.2 c cs (room_of_none hd _)⟩
theorem aad{F:Fence}(hd:F.depth=none){m:Nat}(m':Nat){P:Program}{l:Nat}{args:Array Value}{W:World}{R:Ending→World→Prop}(h:YieldAt F m P l args W R):YieldAt F m' P l args W R:=by
 obtain⟨fn,tmps,assign,body,hy,hR⟩:=h
 exact⟨fn,tmps,assign,body,hy,aac hd hR⟩
structure aX(X:Nat→Prop)(W W':World):Prop where
 size:W.heap.size≤W'.heap.size
 same:∀ b,¬ X b→∀ (c:Array Value) (E:Nat) (fr:Nat×Nat),W.heap[b]?=some (.cells c E fr)→W'.heap[b]?=some (.cells c E fr)
section
variable {X:Nat→Prop} {A B C W W':World}
theorem aX.refl(X:Nat→Prop)(W:World):aX X W W:=⟨Nat.le_refl _,fun _ _ _ _ _ h=>h⟩
theorem aX.trans(h:aX X A B)(k:aX X B C):aX X A C:=⟨Nat.le_trans h.size k.size,fun b hb c E fr e=>k.same b hb c E fr (h.same b hb c E fr e)⟩
theorem aX.below(h:Below W.heap.size W W'):aX X W W':=⟨h.size,fun b _ _ _ _ e=>(h.block b (Array.getElem?_eq_some_iff.1 e).1).trans e⟩
theorem aX.set(W:World)(a:Addr)(v:Value)(h:X a.block):aX X W (W.setCell a v) :=
 ⟨by simp[World.setCell],fun b hb _ _ _ e=>(heap_setCell_other W a b v (fun e=>hb (e▸h))).trans e⟩
theorem aX.put{l:Nat}{o o':Obj}(h:W.heap[l]?=some o)(hc:o.isCells=false):aX X W (W.putObj l o') :=
 ⟨by simp,fun b _ _ _ _ e=>(World.putObj_heap_other (fun e2=>by subst e2;rw[h] at e;cases e;cases hc)).trans e⟩
theorem aX.cell(h:aX X W W'){a:Addr}{v:Value}(ha:¬ X a.block)(hv:W.cell? a=some v):W'.cell? a=some v:=by
 obtain⟨o,ho,hc⟩:=cells_of_cell hv
 cases o with
 | cells _ _ _=>rw[←hv];exact World.cell?_of_block ((h.same _ ha _ _ _ ho).trans ho.symm)
 | _=>cases hc
theorem aX.box(h:aX X W W'){b E:Nat}{c:Array Value}(hb:¬ X b)(hx:Box W b c E):Box W' b c E:=h.same b hb c E (0,0) hx
theorem aX.slice(h:aX X W W'){α:Type}{a:Option Addr}{n cap size:Nat}{enc:α→List Value}{xs:List α}(hs:au W (.slice a n cap) size enc xs)(ha:0<xs.length→∀ ad,a=some ad→¬ X ad.block):au W' (.slice a n cap) size enc xs:=by
 obtain⟨a',b,o,cap',hv,hl,hc,ha',hx⟩:=hs
 obtain⟨rfl,rfl,rfl⟩:=Value.slice.inj hv
 refine⟨a,b,o,cap,rfl,hl,hc,ha',fun i hi j u hu=>?_⟩
 rcases ha' with rfl | ⟨rfl,_⟩
 ·exact h.cell (a:=⟨b,o+i*size+j,none⟩) (ha (by omega) ⟨b,o,none⟩ rfl) (hx i hi j u hu)
 ·simp at hi
end
theorem GK{X:Nat→Prop}{w:World}(W:World)(l:Nat)(o o':Obj)(_:w.heap.size≤l)(h:W.heap[l]?=some o)(hc:o.isCells=false)(_:o.isWalk=false):aX X W (W.putObj l o'):=aX.put h hc
theorem Fg{β:Type}{B:Nat}{J:β→World→Prop}(h:AbidesFrom B J){s:β}{W W':World}(hs:J s W)(hb:Below W.heap.size W W'):J s W' :=
 h s W W' none hs ⟨hb.os,hb.tape,hb.output,hb.size,fun k hk _=>hb.block k hk⟩ (fun r e=>by cases e)
theorem iO{β:Type}(B b E:Nat)(f:β→Array Value):OwnFrom B (fun(s:β) W=>Box W b (f s) E):=fun s W W' row hs hg hr=>by
 refine(hg.block b hs.lt fun e=>?_).trans hs
 obtain⟨_,o,ho,hc⟩:=hr b e.symm
 rw[show W.heap[b]?=_ from hs] at ho
 cases ho;cases hc
theorem PZ{β:Type}(B:Nat):OwnFrom B (fun(_:β) (_:World)=>False):=fun _ _ _ _ h _ _=>h
end
section
open Go.RowKit
theorem Jh{α:Type}{w:World}{base E size:Nat}{enc:α→List Value}{v:Value}{xs:List α}{F:Fence}{n:Nat}{P:Program}{ops:Array Oper}{rest:List Oper}{o:Oper}{a:Act}{Q:Exit→Act→World→Prop}(hgd:o.guard=none)(s x:Operand)(t:TypeId)
  (ho:o.op=.call { callee:=.builtin .append,args:=#[s,x],argTypes:=#[t,t] }) {z:Value} {bytes:Nat} (hE:dI P t E z size bytes) (he:dX enc size)
  (hs:a.eval s=v) (hown:Own w base E size enc v xs) (ad:Addr) (c:Nat) (y:α) (hx:a.eval x=.slice (some ad) 1 c) (hnews:∀ j u,(enc y)[j]?=some u→w.cell? (ad.add j)=some u)
  (h63:xs.length+1≤maxLen) (hbytes:(xs.length+1)*bytes≤140737488355328) (hbase:base≤w.heap.size)
  (h:∀ a' cap' w',Own w' base E size enc (.slice a' (xs.length+1) cap') (xs++[y])→w.grownBy w' v.ownBlock→wpListIn F n P ops Q rest (a.put o.dst (.slice a' (xs.length+1) cap')) w'):wpListIn F n P ops Q (o::rest) a w:=by
 obtain⟨i,hi,hz,hsz,hby⟩:=hE.info
 refine wpListIn_append_own w hgd s x t ho base E i z size bytes hE.slice hi hz hsz hby hE.Dx hE.pos v xs.length (xs.flatMap enc) hs (hown.uj he) ad 1 c (enc y) hx (by rw[he.len,Nat.one_mul]) hnews (he.one y) h63 hbytes hbase ?_
 intro v' w' hr hg _
 have hr':Own w' base E size enc v' (xs++[y]):=by
  refine Own.ofRow ?_ he
  rw[List.length_append,List.flatMap_append]
  simpa using hr
 obtain⟨a',cap',rfl⟩:=hr'.form
 have e:(xs++[y]).length=xs.length+1:=by simp
 rw[e] at hr' ⊢
 exact h a' cap' w' hr' hg
theorem Own.block{α:Type}{w:World}{base E size:Nat}{enc:α→List Value}{v:Value}{xs:List α}(h:Own w base E size enc v xs)(g:Nat)(hg:v.ownBlock=some g):base≤g∧∃ cur,Box w g cur E:=by
 obtain⟨a,cap,rfl,_,_,hh⟩:=h
 rcases hh with⟨rfl,_⟩ | ⟨g',cur,rfl,hb,hg',_⟩
 ·simp[Value.ownBlock] at hg
 ·simp[Value.ownBlock] at hg;subst hg;exact⟨hb,cur,hg'⟩
theorem H6{α β:Type}(B base E size:Nat)(enc:α→List Value)(v:β→Value)(xs:β→List α):OwnFrom B (fun(s:β) W=>Own W base E size enc (v s) (xs s)):=fun s W W' row hs hg hr=>by
 obtain⟨a,cap,hv,hle,hm,hh⟩:=hs
 refine⟨a,cap,hv,hle,hm,?_⟩
 rcases hh with hh | ⟨g,cur,ha,hb,hg',hc⟩
 ·exact .inl hh
 ·exact .inr ⟨g,cur,ha,hb,iO B g E (fun _:Unit=>cur) () W W' row hg' hg hr,hc⟩
theorem aX.grown{α:Type}{X:Nat→Prop}{w w':World}{base E size:Nat}{enc:α→List Value}{v:Value}{xs:List α}(h:Own w base E size enc v xs)(hg:w.grownBy w' v.ownBlock)(hX:∀ b,base≤b→X b):aX X w w' :=
 ⟨hg.size,fun b hb _ _ _ e=>(hg.block b (Array.getElem?_eq_some_iff.1 e).1 fun e2=>hb (hX b (h.block b e2.symm).1)).trans e⟩
theorem KeepsOthers.Rf{α:Type}{w w':World}{base E size:Nat}{enc:α→List Value}{v:Value}{xs:List α}(h:Own w base E size enc v xs)(hg:w.grownBy w' v.ownBlock):KeepsOthers w w' :=
 KeepsOthers.of_grownBy hg fun j o e ho=>by
  obtain⟨_,cur,hb⟩:=h.block j e
  rw[show w.heap[j]?=_ from hb] at ho
  cases ho;rfl
end
section
open Go.RowKit
theorem zL{P:Program}{w:World}{base t ty e size bytes n m c:Nat}{i:TypeInfo}{z v:Value}{xs news:List Value}{a:Addr}(ht:P.underlying t=some (.slice e))(hi:P.info? e=some i)(hz:i.zero=some z)
  (hsize:i.size=size) (hby:i.bytes=bytes) (hown:w.ownsRow base e size v n xs) (hl:news.length=m*size) (hnews:∀ j u,news[j]?=some u→w.cell? (a.add j)=some u) (h1:∀ u∈news,u.oneCell'=true) (hm:0<m)
  (h63:n+m≤maxLen) (hbytes:(n+m)*bytes≤140737488355328) {v':Value} {w':World} (hr:(Builtin.append_ #[t,t] ty #[v,.slice (some a) m c]).run P w=.ok v' w') :
  v'.ownBlock=v.ownBlock∨v'.ownBlock=some w.heap.size:=by
 subst hsize
 subst hby
 have hsm:n+m≤9223372036854775807:=h63
 rcases hown.2 with⟨rfl,rfl⟩ | ⟨g,cap,cur,rfl,hbg,hg,hnc,hcm,hcs,htake⟩
 ·rw[run_append_nil (P:=P) w t ty e i z ht hi hz a m c news hl hnews hm (by omega) (by rw[Nat.zero_add] at hbytes;omega)] at hr
  cases hr
  exact .inr rfl
 ·by_cases hroom:n+m≤cap
  ·rw[run_append_room (P:=P) w t ty e i ht hi g n cap cur hg a m c news hl hnews h1 hroom (by rw[hl,hcs,←Nat.add_mul];exact Nat.mul_le_mul_right _ hroom)] at hr
   cases hr
   exact .inl rfl
  ·have hx:xs.length=n*i.size:=hown.1
   rw[run_append_grow (P:=P) w t ty e i z ht hi hz ⟨g,0,none⟩ n cap xs hx (hown.cells (g:=g) rfl) a m c news hl hnews (by omega) (by omega) (growslice_fits (by omega) hbytes)] at hr
   cases hr
   exact .inr rfl
theorem nX{α:Type}{w:World}{base E size:Nat}{enc:α→List Value}{v:Value}{xs:List α}{P:Program}{o:Oper}{a:Act}{K:Act→World→Prop}{Q:Exit→Act→World→Prop}(s x:Operand)(t:TypeId)
  (ho:o.op=.call { callee:=.builtin .append,args:=#[s,x],argTypes:=#[t,t] }) {z:Value} {bytes:Nat} (hE:dI P t E z size bytes) (he:dX enc size)
  (hs:a.eval s=v) (hown:Own w base E size enc v xs) (ad:Addr) (c:Nat) (y:α) (hx:a.eval x=.slice (some ad) 1 c) (hnews:∀ j u,(enc y)[j]?=some u→w.cell? (ad.add j)=some u)
  (h63:xs.length+1≤maxLen) (hbytes:(xs.length+1)*bytes≤140737488355328) (hbase:base≤w.heap.size)
  (h:∀ a' cap' w',Own w' base E size enc (.slice a' (xs.length+1) cap') (xs++[y])→w.grownBy w' v.ownBlock→((Value.slice a' (xs.length+1) cap').ownBlock=v.ownBlock∨(Value.slice a' (xs.length+1) cap').ownBlock=some w.heap.size)→K (a.put o.dst (.slice a' (xs.length+1) cap')) w'):Oper.wp P o a w K Q:=by
 obtain⟨i,hi,hz,hsz,hby⟩:=hE.info
 obtain⟨v',w',hr,h2,h3,_⟩:=run_append_own (P:=P) w base t o.type E i z size bytes hE.slice hi hz hsz hby hE.Dx hE.pos v xs.length (xs.flatMap enc) (hown.uj he) ad 1 c (enc y) (by rw[he.len,Nat.one_mul]) hnews (he.one y) h63 hbytes hbase
 have hb:=zL (c:=c) hE.slice hi hz hsz hby (hown.uj he) (by rw[he.len,Nat.one_mul]) hnews (he.one y) (Nat.succ_pos 0) h63 hbytes hr
 have hr':Own w' base E size enc v' (xs++[y]):=by
  refine Own.ofRow ?_ he
  rw[List.length_append,List.flatMap_append]
  simpa using h2
 obtain⟨a',cap',rfl⟩:=hr'.form
 have e:(xs++[y]).length=xs.length+1:=by simp
 rw[e] at hr' hb hr
 have hk:=h a' cap' w' hr' h3 hb
 unfold Oper.wp execOp
 simp only[ho,resolve,invoke,builtin,Sem.run_bind,Sem.run_pure,Result.andThen_ok,List.map_toArray,List.map_cons,List.map_nil,hs,hx,hr]
 exact hk
theorem eX{α:Type}{w:World}{base E size:Nat}{enc:α→List Value}{v:Value}{xs:List α}{P:Program}{ops:Array Oper}{rest:List Oper}{o:Oper}{a:Act}{Q:Exit→Act→World→Prop}(hgd:o.guard=none)(s x:Operand)(t:TypeId)
  (ho:o.op=.call { callee:=.builtin .append,args:=#[s,x],argTypes:=#[t,t] }) {z:Value} {bytes:Nat} (hE:dI P t E z size bytes) (he:dX enc size)
  (hs:a.eval s=v) (hown:Own w base E size enc v xs) (ad:Addr) (c:Nat) (y:α) (hx:a.eval x=.slice (some ad) 1 c) (hnews:∀ j u,(enc y)[j]?=some u→w.cell? (ad.add j)=some u)
  (h63:xs.length+1≤maxLen) (hbytes:(xs.length+1)*bytes≤140737488355328) (hbase:base≤w.heap.size)
  (h:∀ a' cap' w',Own w' base E size enc (.slice a' (xs.length+1) cap') (xs++[y])→w.grownBy w' v.ownBlock→((Value.slice a' (xs.length+1) cap').ownBlock=v.ownBlock∨(Value.slice a' (xs.length+1) cap').ownBlock=some w.heap.size)→wpList P ops Q rest (a.put o.dst (.slice a' (xs.length+1) cap')) w'):wpList P ops Q (o::rest) a w :=
 wpList_plain hgd fun _ hK=>nX s x t ho hE he hs hown ad c y hx hnews h63 hbytes hbase fun a' cap' w' h2 h3 h4=>hK _ _ (h a' cap' w' h2 h3 h4)
theorem Own.CU{α:Type}{w w':World}{base E size:Nat}{enc:α→List Value}{v:Value}{xs:List α}{row:Option Nat}(h:Own w base E size enc v xs)(hg:w.grownBy w' row)(hne:∀ k,v.ownBlock=some k→row≠some k):Own w' base E size enc v xs:=by
 obtain⟨a,cap,rfl,hle,hm,hh⟩:=h
 refine⟨a,cap,rfl,hle,hm,?_⟩
 rcases hh with hh | ⟨g,cur,rfl,hbg,hb,hr⟩
 ·exact .inl hh
 ·exact .inr ⟨g,cur,rfl,hbg,(hg.block g hb.lt (fun e=>hne g rfl e.symm)).trans hb,hr⟩
theorem Own.cu{α β:Type}{w w':World}{base ale E E2 size size2:Nat}{enc:α→List Value}{enc2:β→List Value}{v v2:Value}{xs:List α}{ys:List β}(h:Own w base E size enc v xs)(h2:Own w ale E2 size2 enc2 v2 ys)(hg:w.grownBy w' v2.ownBlock)(hE:E≠E2):Own w' base E size enc v xs :=
 h.CU hg fun k h1 h3=>by
  obtain⟨_,c1,b1⟩:=h.block k h1
  obtain⟨_,c2,b2⟩:=h2.block k h3
  exact hE (b1.iD b2)
end
section
open Go.RowKit
structure dD(r base:Nat)(w w':World):Prop where
 low:Below r w w'
 cells:aX (fun k=>k=r∨base≤k) w w'
 others:KeepsOthers w w'
theorem dD.refl(r base:Nat)(w:World):dD r base w w:=⟨Below.refl _ _,aX.refl _ _,KeepsOthers.refl _⟩
theorem dD.trans{r base:Nat}{a b c:World}(h:dD r base a b)(k:dD r base b c):dD r base a c:=⟨h.low.trans k.low,h.cells.trans k.cells,h.others.trans k.others⟩
theorem Rh{w w':World}(h:Below w.heap.size w w'):KeepsOthers w w':=⟨h.size,fun k _ hk _=>(h.block k (Array.getElem?_eq_some_iff.1 hk).1).trans hk⟩
theorem dD.below{r base:Nat}{w w':World}(hr:r≤w.heap.size)(h:Below w.heap.size w w'):dD r base w w':=⟨h.mono hr,aX.below h,Rh h⟩
theorem dD.set{r base:Nat}(w:World)(i:Nat)(v:Value):dD r base w (w.setCell ⟨r,i,none⟩ v):=⟨(Below.refl r w).setCell (by simp) v,aX.set w _ v (.inl rfl),KeepsOthers.setCell w _ v⟩
theorem CV{α:Type}{enc:α→List Value}{w:World}{b c size:Nat}{y:α}(h:au w (.slice (some ⟨b,0,none⟩) 1 c) size enc [y]):∀ j u,(enc y)[j]?=some u→w.cell? ((⟨b,0,none⟩:Addr).add j)=some u:=fun j u hu=>by
 obtain⟨a,b',o,cap,hv,_,_,ha,hx⟩:=h
 obtain⟨rfl,_,_⟩:=Value.slice.inj hv
 have e:(⟨b,0,none⟩:Addr).add j=⟨b,j,none⟩:=by rw[Addr.add_lit];simp
 rcases ha with ha | ⟨ha,_⟩
 ·simp only[Option.some.injEq,Addr.mk.injEq] at ha
  obtain⟨rfl,rfl,_⟩:=ha
  have:=hx 0 (by simp) j u hu
  rw[e]
  simpa using this
 ·cases ha
theorem dD.grown{α:Type}{r base E size:Nat}{w w':World}{enc:α→List Value}{v:Value}{xs:List α}(h:Own w base E size enc v xs)(hg:w.grownBy w' v.ownBlock)(hr:r≤base)(hw:r≤w.heap.size):dD r base w w' :=
 ⟨below_grown (Below.refl _ _) h hg hr hw,aX.grown h hg (fun _ hb=>.inr hb),KeepsOthers.Rf h hg⟩
theorem eY{b:Bool}{A B:Prop}(hb:b=true)(h:A):if b=true then A else B:=by rw[if_pos hb];exact h
end
section
open Go.RowKit
abbrev jr(k:Int):Value:=.int .i64 k
def valOf(kl:List (Int×Value))(s:Nat):Value:=(look (s:Int) kl).getD (.slice none 0 0)
structure fM{α:Type}(w:World)(mb base E size:Nat)(enc:α→List Value)(grp:Nat→List α)(kl:List (Int×Value)):Prop where
 mp:aP w mb jr kl
 own:∀ s,Own w base E size enc (valOf kl s) (grp s)
 oQ:∀ s t,s≠t→∀ g,(valOf kl s).ownBlock=some g→(valOf kl t).ownBlock≠some g
 lt:mb<base
structure dO(base mb:Nat)(w w':World):Prop where
 os:w'.os=w.os
 tape:w'.tape=w.tape
 output:w'.output=w.output
 size:w.heap.size≤w'.heap.size
 block:∀ b,b<base→b≠mb→w'.heap[b]?=w.heap[b]?
section
variable {α:Type} {w w' w'':World} {mb base E size:Nat} {enc:α→List Value} {grp:Nat→List α} {kl:List (Int×Value)}
theorem dO.below(h:Below w.heap.size w w')(hb:base≤w.heap.size):dO base mb w w':=⟨h.os,h.tape,h.output,h.size,fun b hb' _=>h.block b (by omega)⟩
theorem dO.refl(base mb:Nat)(w:World):dO base mb w w:=⟨rfl,rfl,rfl,Nat.le_refl _,fun _ _ _=>rfl⟩
theorem dO.trans(h:dO base mb w w')(k:dO base mb w' w''):dO base mb w w'' :=
 ⟨k.os.trans h.os,k.tape.trans h.tape,k.output.trans h.output,Nat.le_trans h.size k.size,fun b hb hn=>(k.block b hb hn).trans (h.block b hb hn)⟩
theorem dO.box(h:dO base mb w w'){b T:Nat}{c:Array Value}(hx:Box w b c T)(hb:b<base)(hn:b≠mb):Box w' b c T:=(h.block b hb hn).trans hx
theorem dO.map(h:dO base mb w w'){b:Nat}{kl:List (Int×Value)}(hx:aP w b jr kl)(hb:b<base)(hn:b≠mb):aP w' b jr kl:=hx.same (h.block b hb hn)
theorem dO.toBelow{w0:World}(h:dO base mb w w')(hb:Below w0.heap.size w0 w)(h1:w0.heap.size≤base)(h2:w0.heap.size≤mb):Below w0.heap.size w0 w' :=
 ⟨h.os.trans hb.os,h.tape.trans hb.tape,h.output.trans hb.output,Nat.le_trans hb.size h.size,fun b hb'=>(h.block b (by omega) (by omega)).trans (hb.block b hb')⟩
theorem dO.grown{v:Value}{xs:List α}(h:dO base mb w w')(hown:Own w' base E size enc v xs)(hg:w'.grownBy w'' v.ownBlock)(hb:base≤w'.heap.size):dO base mb w w'' :=
 h.trans ⟨hg.os,hg.tape,hg.output,hg.size,fun b hb' _=>hg.block b (by omega) (by
  obtain⟨a,cap,rfl,_,_,hh⟩:=hown
  rcases hh with⟨rfl,_⟩ | ⟨g,cur,rfl,hbg,_⟩
  ·simp[Value.ownBlock]
  ·simp[Value.ownBlock];omega)⟩
theorem dO.put(h:dO base mb w w')(ho:∀ i,i≠mb→w''.heap[i]?=w'.heap[i]?)(hs:w''.heap.size=w'.heap.size)(hB:∀ B,B≤mb→Below B w' w''):dO base mb w w'' :=
 h.trans ⟨(hB 0 (Nat.zero_le _)).os,(hB 0 (Nat.zero_le _)).tape,(hB 0 (Nat.zero_le _)).output,Nat.le_of_eq hs.symm,fun b _ hn=>ho b hn⟩
theorem fM.kept(h:fM w mb base E size enc grp kl)(hb:Below w.heap.size w w'):fM w' mb base E size enc grp kl:=⟨h.mp.kept hb,fun s=>(h.own s).kept hb,h.oQ,h.lt⟩
theorem fM.new(w:World)(mb base E size:Nat)(enc:α→List Value)(hm:aP w mb jr [])(hb:mb<base):fM w mb base E size enc (fun _=>[]) [] :=
 ⟨hm,fun s=>Own.nil _ _ _ _ _,fun s t _ g hg=>by simp[valOf,look,Value.ownBlock] at hg,hb⟩
theorem Own.same{v:Value}{xs:List α}(h:Own w base E size enc v xs)(hb:∀ g,v.ownBlock=some g→w'.heap[g]?=w.heap[g]?):Own w' base E size enc v xs:=by
 obtain⟨a,cap,hv,hle,hm,hh⟩:=h
 refine⟨a,cap,hv,hle,hm,?_⟩
 rcases hh with hh | ⟨g,cur,ha,hbg,hg,hr⟩
 ·exact .inl hh
 ·refine .inr ⟨g,cur,ha,hbg,(hb g ?_).trans hg,hr⟩
  rw[hv,ha];rfl
theorem Own.blk{v:Value}{xs:List α}(h:Own w base E size enc v xs){g:Nat}(hg:v.ownBlock=some g):base≤g∧g<w.heap.size:=by
 obtain⟨a,cap,rfl,_,_,hh⟩:=h
 rcases hh with⟨rfl,_⟩ | ⟨g',cur,rfl,hbg,hx,_⟩
 ·cases hg
 ·cases hg;exact⟨hbg,hx.lt⟩
theorem fM.put(h:fM w mb base E size enc grp kl)(s:Nat)(y:α){v':Value}(ho:Own w' base E size enc v' (grp s++[y]))(hg:w.grownBy w' (valOf kl s).ownBlock)(hf:v'.ownBlock=(valOf kl s).ownBlock∨v'.ownBlock=some w.heap.size)
  (hm:aP w'' mb jr (mW (s:Int) v' kl)) (hs:∀ i,i≠mb→w''.heap[i]?=w'.heap[i]?):fM w'' mb base E size enc (fun t=>if t=s then grp s++[y] else grp t) (mW (s:Int) v' kl):=by
 have hv:∀ t,valOf (mW (s:Int) v' kl) t=if t=s then v' else valOf kl t:=fun t=>by
  unfold valOf
  rw[DC]
  by_cases e:t=s
  ·rw[if_pos (by omega),if_pos e];rfl
  ·rw[if_neg (by omega),if_neg e]
 have hlt:=h.lt
 refine⟨hm,fun t=>?_,fun t u hne g hg1 hg2=>?_,h.lt⟩
 ·rw[hv]
  by_cases e:t=s
  ·rw[if_pos e,if_pos e]
   exact ho.same fun g hgg=>hs g (by have:=(ho.blk hgg).1;omega)
  ·rw[if_neg e,if_neg e]
   have h1:=h.own t
   have h2:Own w' base E size enc (valOf kl t) (grp t):=h1.same fun g hgg=>hg.block g (h1.blk hgg).2 fun e2=>h.oQ t s e g hgg e2.symm
   exact h2.same fun g hgg=>hs g (by have:=(h2.blk hgg).1;omega)
 ·rw[hv] at hg1 hg2
  have fresh:∀ t,t≠s→∀ g,v'.ownBlock=some g→(valOf kl t).ownBlock≠some g:=fun t ht g h1 h2=>by
   rcases hf with e | e
   ·exact h.oQ t s ht g h2 (e▸h1)
   ·rw[e] at h1
    cases h1
    have:=((h.own t).blk h2).2
    omega
  by_cases e1:t=s
  ·rw[if_pos e1] at hg1
   rw[if_neg (fun e=>hne (e1.trans e.symm))] at hg2
   exact fresh u (fun e=>hne (e1.trans e.symm)) g hg1 hg2
  ·rw[if_neg e1] at hg1
   by_cases e2:u=s
   ·rw[if_pos e2] at hg2
    exact fresh t e1 g hg2 hg1
   ·rw[if_neg e2] at hg2
    exact h.oQ t u hne g hg1 hg2
theorem fM.others{β:Type}{mb' E' size':Nat}{enc':β→List Value}{v:Value}{xs:List β}(h:fM w mb base E size enc grp kl)(hown:Own w base E' size' enc' v xs)(hg:w.grownBy w' v.ownBlock)(hne:E'≠E)(hs:∀ i,i≠mb'→w''.heap[i]?=w'.heap[i]?)(hmb:mb'<base)(hmm:mb≠mb') :
  fM w'' mb base E size enc grp kl:=by
 have hvb:∀ g,v.ownBlock=some g→base≤g:=fun g hgg=>(hown.blk hgg).1
 refine⟨h.mp.same ((hs mb hmm).trans (hg.block mb h.mp.lt fun e=>by have:=hvb _ e.symm;have:=h.lt;omega)),fun s=>?_,h.oQ,h.lt⟩
 have h1:=(h.own s).cu hown hg hne.symm
 exact h1.same fun g hgg=>hs g (by have:=(h1.blk hgg).1;omega)
end
end
section
open Go.RowKit
theorem X0{α:Type}{P:Program}{w:World}{base E size:Nat}{enc:α→List Value}{v:Value}{xs:List α}{t ty:TypeId}{z:Value}{bytes:Nat}(hE:dI P t E z size bytes)(he:dX enc size)
  (hown:Own w base E size enc v xs) (ad:Addr) (c:Nat) (y:α) (hnews:∀ j u,(enc y)[j]?=some u→w.cell? (ad.add j)=some u)
  (h63:xs.length+1≤maxLen) (hbytes:(xs.length+1)*bytes≤140737488355328) {v':Value} {w':World} (hr:(Builtin.append_ #[t,t] ty #[v,.slice (some ad) 1 c]).run P w=.ok v' w'):Own w' base E size enc v xs:=by
 obtain⟨i,hi,hz,hsz,hby⟩:=hE.info
 subst hsz
 have hl:(enc y).length=1*i.size:=by rw[he.len,Nat.one_mul]
 have hsmall:xs.length+1≤9223372036854775807:=by simp only[maxLen] at h63;omega
 have hown0:=hown
 obtain⟨a,cap,rfl,hle,hm,hh⟩:=hown
 rcases hh with⟨rfl,rfl⟩ | ⟨g,cur,rfl,hbg,hg,hcs,hx⟩
 ·have hn:xs.length=0:=by omega
  rw[hn] at hr
  rw[run_append_nil (P:=P) w t ty E i z hE.slice hi hz ad 1 c (enc y) hl hnews (by omega) (by omega) (by rw[hby];rw[hn] at hbytes;omega)] at hr
  cases hr
  exact hown0.kept ((Below.refl _ w).drew.alloc (Nat.le_refl _) _)
 ·by_cases hroom:xs.length+1≤cap
  ·have hfit:xs.length*i.size+(enc y).length≤cur.size:=by rw[hl,hcs,←Nat.add_mul];exact Nat.mul_le_mul_right _ hroom
   rw[run_append_room (P:=P) w t ty E i hE.slice hi g xs.length cap cur hg ad 1 c (enc y) hl hnews (he.one y) hroom hfit] at hr
   cases hr
   refine⟨_,cap,rfl,hle,hm,.inr ⟨g,_,rfl,hbg,setRow_heap w g cur _ E _ hg,?_,fun j hj k hk=>?_⟩⟩
   ·simp only[List.size_toArray,List.length_append,List.length_take,List.length_drop,Array.length_toList]
    omega
   ·have h1:j*i.size+k<xs.length*i.size:=by
     have:(j+1)*i.size≤xs.length*i.size:=Nat.mul_le_mul_right _ hj
     rw[Nat.succ_mul] at this;omega
    have h2:xs.length*i.size≤cur.size:=by omega
    have hlen:(cur.toList.take (xs.length*i.size)).length=xs.length*i.size:=by rw[List.length_take,Array.length_toList];exact Nat.min_eq_left h2
    rw[←hx j hj k hk,List.getElem?_toArray,List.append_assoc,List.getElem?_append_left (by rw[hlen];exact h1),List.getElem?_take,if_pos h1,Array.getElem?_toList]
  ·have holds:=(hown0.uj he).cells (g:=g) rfl
   rw[run_append_grow (P:=P) w t ty E i z hE.slice hi hz ⟨g,0,none⟩ xs.length cap (xs.flatMap enc) (by rw[iC he.len]) holds ad 1 c (enc y) hl hnews (by omega) (by omega) (growslice_fits (by omega) (by rw[hby];exact hbytes))] at hr
   cases hr
   exact hown0.kept ((Below.refl _ w).drew.alloc (Nat.le_refl _) _)
theorem U7{α:Type}{P:Program}{w:World}{base E size:Nat}{enc:α→List Value}{v v2:Value}{xs:List α}{t ty:TypeId}{z:Value}{bytes:Nat}(hE:dI P t E z size bytes)(he:dX enc size)
  (hown:Own w base E size enc v xs) (ad:Addr) (c:Nat) (y:α) (hown2:Own w base E size enc v2 (xs++[y])) (hnews:∀ j u,(enc y)[j]?=some u→w.cell? (ad.add j)=some u)
  (h63:xs.length+1≤maxLen) (hbytes:(xs.length+1)*bytes≤140737488355328) {v':Value} {w':World} (hr:(Builtin.append_ #[t,t] ty #[v,.slice (some ad) 1 c]).run P w=.ok v' w'):Own w' base E size enc v2 (xs++[y]):=by
 obtain⟨i,hi,hz,hsz,hby⟩:=hE.info
 subst hsz
 have hl:(enc y).length=1*i.size:=by rw[he.len,Nat.one_mul]
 have hsmall:xs.length+1≤9223372036854775807:=by simp only[maxLen] at h63;omega
 have hown0:=hown
 obtain⟨a,cap,rfl,hle,hm,hh⟩:=hown
 rcases hh with⟨rfl,rfl⟩ | ⟨g,cur,rfl,hbg,hg,hcs,hx⟩
 ·have hn:xs.length=0:=by omega
  rw[hn] at hr
  rw[run_append_nil (P:=P) w t ty E i z hE.slice hi hz ad 1 c (enc y) hl hnews (by omega) (by omega) (by rw[hby];rw[hn] at hbytes;omega)] at hr
  cases hr
  exact hown2.kept ((Below.refl _ w).drew.alloc (Nat.le_refl _) _)
 ·by_cases hroom:xs.length+1≤cap
  ·have hfit:xs.length*i.size+(enc y).length≤cur.size:=by rw[hl,hcs,←Nat.add_mul];exact Nat.mul_le_mul_right _ hroom
   rw[run_append_room (P:=P) w t ty E i hE.slice hi g xs.length cap cur hg ad 1 c (enc y) hl hnews (he.one y) hroom hfit] at hr
   cases hr
   obtain⟨a2,cap2,rfl,hle2,hm2,hh2⟩:=hown2
   refine⟨a2,cap2,rfl,hle2,hm2,?_⟩
   rcases hh2 with hh2 | ⟨g2,Ri,ha2,ahI,hg2,hcs2,hx2⟩
   ·exact .inl hh2
   ·by_cases hgg:g2=g
    ·subst hgg
     have hcc:Ri=cur:=by have h1:w.heap[g2]?=_:=hg2;have h2:w.heap[g2]?=_:=hg;rw[h1] at h2;simpa using h2
     subst hcc
     refine .inr ⟨g2,_,ha2,ahI,setRow_heap w g2 Ri _ E _ hg2,?_,fun j hj k hk=>?_⟩
     ·simp only[List.size_toArray,List.length_append,List.length_take,List.length_drop,Array.length_toList]
      omega
     ·have h2:xs.length*i.size≤Ri.size:=by omega
      have hlen:(Ri.toList.take (xs.length*i.size)).length=xs.length*i.size:=by rw[List.length_take,Array.length_toList];exact Nat.min_eq_left h2
      rw[List.length_append,List.length_singleton] at hj
      rw[List.getElem?_toArray,List.append_assoc]
      by_cases hjn:j<xs.length
      ·have h1:j*i.size+k<xs.length*i.size:=by
        have:(j+1)*i.size≤xs.length*i.size:=Nat.mul_le_mul_right _ hjn
        rw[Nat.succ_mul] at this;omega
       rw[←hx2 j (by rw[List.length_append,List.length_singleton];omega) k hk,List.getElem?_append_left (by rw[hlen];exact h1),List.getElem?_take,if_pos h1,Array.getElem?_toList]
      ·obtain rfl:j=xs.length:=by omega
       rw[List.getElem?_append_right (by rw[hlen];omega),hlen,List.getElem?_append_left (by rw[hl];omega)]
       rw[show xs.length*i.size+k - xs.length*i.size=k by omega]
       congr 2
       simp
    ·exact .inr ⟨g2,Ri,ha2,ahI,(setRow_other w g g2 _ hgg).trans hg2,hcs2,hx2⟩
  ·have holds:=(hown0.uj he).cells (g:=g) rfl
   rw[run_append_grow (P:=P) w t ty E i z hE.slice hi hz ⟨g,0,none⟩ xs.length cap (xs.flatMap enc) (by rw[iC he.len]) holds ad 1 c (enc y) hl hnews (by omega) (by omega) (growslice_fits (by omega) (by rw[hby];exact hbytes))] at hr
   cases hr
   exact hown2.kept ((Below.refl _ w).drew.alloc (Nat.le_refl _) _)
structure jv{α:Type}(base E size:Nat)(enc:α→List Value)(v:Value)(xs:List α)(y:α)(w w':World):Prop where
 os:w'.os=w.os
 tape:w'.tape=w.tape
 output:w'.output=w.output
 grow:w.heap.size≤w'.heap.size
 block:∀ b,b<w.heap.size→v.ownBlock≠some b→w'.heap[b]?=w.heap[b]?
 own:Own w base E size enc v xs→Own w' base E size enc v xs
 Np:∀ v2,Own w base E size enc v2 (xs++[y])→Own w' base E size enc v2 (xs++[y])
instance lC {α:Type} (base E size:Nat) (enc:α→List Value) (v:Value) (xs:List α) (y:α):jI (jv base E size enc v xs y) :=
 ⟨fun _=>⟨rfl,rfl,rfl,Nat.le_refl _,fun _ _ _=>rfl,id,fun _=>id⟩,
  fun _ _ _ h k=>⟨k.os.trans h.os,k.tape.trans h.tape,k.output.trans h.output,Nat.le_trans h.grow k.grow,fun b hb hn=>(k.block b (Nat.lt_of_lt_of_le hb h.grow) hn).trans (h.block b hb hn),fun ho=>k.own (h.own ho),fun v2 ho=>k.Np v2 (h.Np v2 ho)⟩,
  fun _ _ h=>⟨h.os,h.tape,h.output,h.size,fun b hb _=>h.block b hb,fun ho=>ho.kept h,fun _ ho=>ho.kept h⟩⟩
theorem H8{α:Type}{w:World}{base E size:Nat}{enc:α→List Value}{v:Value}{xs:List α}{P:Program}{o:Oper}{a:Act}{K:Act→World→Prop}{Q:Exit→Act→World→Prop}(s x:Operand)(t:TypeId)
  (ho:o.op=.call { callee:=.builtin .append,args:=#[s,x],argTypes:=#[t,t] }) {z:Value} {bytes:Nat} (hE:dI P t E z size bytes) (he:dX enc size)
  (hs:a.eval s=v) (hown:Own w base E size enc v xs) (ad:Addr) (c:Nat) (y:α) (hx:a.eval x=.slice (some ad) 1 c) (hnews:∀ j u,(enc y)[j]?=some u→w.cell? (ad.add j)=some u)
  (h63:xs.length+1≤maxLen) (hbytes:(xs.length+1)*bytes≤140737488355328) (hbase:base≤w.heap.size)
  (h:∀ a' cap' w',Own w' base E size enc (.slice a' (xs.length+1) cap') (xs++[y])→w.grownBy w' v.ownBlock→((Value.slice a' (xs.length+1) cap').ownBlock=v.ownBlock∨(Value.slice a' (xs.length+1) cap').ownBlock=some w.heap.size)→jv base E size enc v xs y w w'→K (a.put o.dst (.slice a' (xs.length+1) cap')) w'):Oper.wp P o a w K Q:=by
 obtain⟨i,hi,hz,hsz,hby⟩:=hE.info
 obtain⟨v',w',hr,h2,h3,_⟩:=run_append_own (P:=P) w base t o.type E i z size bytes hE.slice hi hz hsz hby hE.Dx hE.pos v xs.length (xs.flatMap enc) (hown.uj he) ad 1 c (enc y) (by rw[he.len,Nat.one_mul]) hnews (he.one y) h63 hbytes hbase
 have hb:=zL (c:=c) hE.slice hi hz hsz hby (hown.uj he) (by rw[he.len,Nat.one_mul]) hnews (he.one y) (Nat.succ_pos 0) h63 hbytes hr
 have hold:=X0 hE he hown ad c y hnews h63 hbytes hr
 have alf:=fun v2 ho2=>U7 (v2:=v2) hE he hown ad c y ho2 hnews h63 hbytes hr
 have hr':Own w' base E size enc v' (xs++[y]):=by
  refine Own.ofRow ?_ he
  rw[List.length_append,List.flatMap_append]
  simpa using h2
 obtain⟨a',cap',rfl⟩:=hr'.form
 have e:(xs++[y]).length=xs.length+1:=by simp
 rw[e] at hr' hb hr
 have hk:=h a' cap' w' hr' h3 hb ⟨h3.os,h3.tape,h3.output,h3.size,fun b hb hn=>h3.block b hb fun e=>hn e.symm,fun _=>hold,alf⟩
 unfold Oper.wp execOp
 simp only[ho,resolve,invoke,builtin,Sem.run_bind,Sem.run_pure,Result.andThen_ok,List.map_toArray,List.map_cons,List.map_nil,hs,hx,hr]
 exact hk
section
variable {α:Type} {base E size:Nat} {enc:α→List Value} {v:Value} {xs:List α} {y:α} {w w':World}
theorem jv.box(h:jv base E size enc v xs y w w'){b T:Nat}{c:Array Value}(hx:Box w b c T)(hn:v.ownBlock≠some b):Box w' b c T:=(h.block b hx.lt hn).trans hx
theorem jv.map(h:jv base E size enc v xs y w w'){b:Nat}{kl:List (Int×Value)}(hx:aP w b jr kl)(hn:v.ownBlock≠some b):aP w' b jr kl:=hx.same (h.block b hx.lt hn)
theorem fM.GL{mb:Nat}{grp:Nat→List α}{kl:List (Int×Value)}{s:Nat}(h:fM w mb base E size enc grp kl)(k:jv base E size enc (valOf kl s) (grp s) y w w'):fM w' mb base E size enc grp kl:=by
 have hlt:=h.lt
 refine⟨k.map h.mp fun e=>by have:=((h.own s).blk e).1;omega,fun t=>?_,h.oQ,h.lt⟩
 by_cases e:t=s
 ·subst e;exact k.own (h.own t)
 ·exact(h.own t).same fun g hg=>k.block g ((h.own t).blk hg).2 fun e2=>h.oQ t s e g hg e2
theorem jv.ae9{mb:Nat}{w0:World}{grp:Nat→List α}{kl:List (Int×Value)}{s:Nat}(k:jv base E size enc (valOf kl s) (grp s) y w w')(h0:fM w0 mb base E size enc grp kl)(hb:base≤w.heap.size):dO base mb w w' :=
 ⟨k.os,k.tape,k.output,k.grow,fun b hb' _=>k.block b (by omega) fun e=>by have:=((h0.own s).blk e).1;omega⟩
theorem jv.grownBy(k:jv base E size enc v xs y w w'):w.grownBy w' v.ownBlock:=⟨k.os,k.tape,k.output,k.grow,fun b hb hn=>k.block b hb fun e=>hn e.symm⟩
theorem fM.afa{β:Type}{mb E' size':Nat}{enc':β→List Value}{grp:Nat→List β}{kl:List (Int×Value)}(h:fM w mb base E' size' enc' grp kl)(ho:Own w base E size enc v xs)(k:jv base E size enc v xs y w w')(hne:E'≠E):fM w' mb base E' size' enc' grp kl:=by
 have hlt:=h.lt
 refine⟨k.map h.mp fun e=>by have:=(ho.blk e).1;omega,fun t=>?_,h.oQ,h.lt⟩
 refine(h.own t).same fun g hg=>k.block g ((h.own t).blk hg).2 fun e2=>?_
 obtain⟨_,c1,b1⟩:=(h.own t).block g hg
 obtain⟨_,c2,b2⟩:=ho.block g e2
 exact hne (b1.iD b2)
theorem fM.agO{β:Type}{mb mb' E' size':Nat}{enc':β→List Value}{grp:Nat→List β}{kl:List (Int×Value)}(h:fM w mb base E' size' enc' grp kl)(ho:∀ i,i≠mb'→w'.heap[i]?=w.heap[i]?)(hb:mb'<base)(hne:mb≠mb'):fM w' mb base E' size' enc' grp kl :=
 ⟨h.mp.same (ho mb hne),fun t=>(h.own t).same fun g hg=>ho g (by have:=((h.own t).blk hg).1;omega),h.oQ,h.lt⟩
theorem fM.Fh{mb:Nat}{w0:World}{grp:Nat→List α}{kl:List (Int×Value)}{s:Nat}{v':Value}(h0:fM w0 mb base E size enc grp kl)(h:fM w mb base E size enc (fun t=>if t=s then grp s++[y] else grp t) (mW (s:Int) v' kl))(k:jv base E size enc (valOf kl s) (grp s) y w w') :
  fM w' mb base E size enc (fun t=>if t=s then grp s++[y] else grp t) (mW (s:Int) v' kl):=by
 have hlt:=h0.lt
 refine⟨k.map h.mp fun e=>by have:=((h0.own s).blk e).1;omega,fun t=>?_,h.oQ,h.lt⟩
 by_cases e:t=s
 ·have h1:=h.own t
  rw[if_pos e] at h1 ⊢
  exact k.Np _ h1
 ·have h1:=h.own t
  refine h1.same fun g hg=>k.block g (h1.blk hg).2 fun e2=>?_
  have hv:valOf (mW (s:Int) v' kl) t=valOf kl t:=by unfold valOf;rw[DC,if_neg (by omega)]
  rw[hv] at hg
  exact h0.oQ t s e g hg e2
end
end
section
open Go.RowKit
structure alg(X X':Nat→Prop)(A B:World)(row:Option Nat):Prop where
 grown:A.grownBy B row
 own:∀ r,row=some r→X r
 new:∀ b,X' b→X b∨(A.heap.size≤b∧b<B.heap.size)
end
end Go.Proofs.YtengfapcaaacaaaGreatDoor
