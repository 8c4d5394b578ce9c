/- The texts of S1, in few letters (mini.py). -/
import Derived.Handy
import Derived.BigQuiet
import Derived.WalkLawsBesides
import Derived.WalkSpells
import Derived.Lib.Hide
import Derived.Deep.RegionHeld3
import Derived.Deep.WholeRow
import Derived.StillTailTactics
set_option linter.unusedVariables false
set_option linter.unusedSimpArgs false
namespace Go.Proofs.YtbemonecmmnlcaaGreatDoor
theorem ah{p:Prop}(h:p):Go.RowKit.Hid p:=h
end Go.Proofs.YtbemonecmmnlcaaGreatDoor
namespace Go.Proofs.YtbemonecmmnlcaaGreatDoor
section
open Go.RowKit
def Box(w:World)(b:Nat)(c:Array Value)(E:Nat):Prop:=w.heap[b]?=some (.cells c E (0,0))
theorem Box.lt{w:World}{b E:Nat}{c:Array Value}(h:Box w b c E):b<w.heap.size:=(Array.getElem?_eq_some_iff.1 h).1
theorem Box.cell{w:World}{b E:Nat}{c:Array Value}(h:Box w b c E)(i:Nat):w.cell? ⟨b,i,none⟩=c[i]?:=cell_of_row w b i c E (0,0) h
theorem Box.free{w:World}{b E:Nat}{c:Array Value}(h:Box w b c E)(i:Nat):w.frozen? ⟨b,i,none⟩=false:=by simp[World.frozen?,show w.heap[b]?=_ from h]
theorem Box.set{w:World}{b E:Nat}{c:Array Value}(h:Box w b c E)(i:Nat)(v:Value):Box (w.setCell ⟨b,i,none⟩ v) b (c.setIfInBounds i v) E:=heap_setCell_same w b i c E v h
theorem Box.other{w:World}{b E:Nat}{c:Array Value}(h:Box w b c E)(a:Addr)(v:Value)(hne:b≠a.block):Box (w.setCell a v) b c E:=(heap_setCell_other w a b v hne).trans h
theorem Box.alloc{w:World}{b E:Nat}{c:Array Value}(h:Box w b c E)(o:Obj):Box (w.alloc o) b c E:=(Below.heap_alloc w o b h.lt).trans h
theorem Box.new(w:World)(c:Array Value)(E:Nat):Box (w.alloc (.cells c E)) w.heap.size c E:=heap_alloc_new w _
theorem Box.new'{w:World}{b:Nat}(h:b=w.heap.size)(c:Array Value)(E:Nat):Box (w.alloc (.cells c E)) b c E:=h▸Box.new w c E
theorem Box.drew{w:World}{b E:Nat}{c:Array Value}(h:Box w b c E):Box w.drew b c E:=h
theorem Box.drewN{w:World}{b E n:Nat}{c:Array Value}(h:Box w b c E):Box (w.drewN n) b c E:=h
theorem Box.below{w w':World}{B b E:Nat}{c:Array Value}(h:Box w b c E)(hb:Below B w w')(hlt:b<B):Box w' b c E:=(hb.block b hlt).trans h
theorem Box.kept{w w':World}{b E:Nat}{c:Array Value}(h:Box w b c E)(hb:Below w.heap.size w w'):Box w' b c E:=h.below hb h.lt
theorem Box.setRow{w:World}{b E:Nat}{c:Array Value}(h:Box w b c E)(c':Array Value):Box (w.setRow b c') b c' E:=setRow_heap w b c c' E (0,0) h
theorem Box.setRow_other{w:World}{b E g:Nat}{c:Array Value}(h:Box w b c E)(c':Array Value)(hne:b≠g):Box (w.setRow g c') b c E:=by
 unfold Box;rw[Go.setRow_other w g b c' hne];exact h
theorem Box.turn{w w':World}{b E m:Nat}{c:Array Value}(h:Box w b c E)(ho:∀ i,i≠m→w'.heap[i]?=w.heap[i]?)(hne:b≠m):Box w' b c E:=(ho b hne).trans h
theorem below_setRow{B:Nat}{a w:World}(h:Below B a w){g:Nat}(hg:B≤g)(c:Array Value):Below B a (w.setRow g c) :=
 h.trans ⟨rfl,rfl,rfl,by simp,fun k hk=>setRow_other w g k c (by omega)⟩
theorem Box.zS{w:World}{b E:Nat}{c:Array Value}(h:Box w b c E)(hc:c.size=4)(v0 v1 v2 v3:Value) :
  Box ((((w.setCell ⟨b,0,none⟩ v0).setCell ⟨b,1,none⟩ v1).setCell ⟨b,2,none⟩ v2).setCell ⟨b,3,none⟩ v3) b #[v0,v1,v2,v3] E:=by
 have:=(((h.set 0 v0).set 1 v1).set 2 v2).set 3 v3
 have e:(((c.setIfInBounds 0 v0).setIfInBounds 1 v1).setIfInBounds 2 v2).setIfInBounds 3 v3=#[v0,v1,v2,v3]:=by
  obtain⟨l⟩:=c
  match l,hc with
  | [_,_,_,_],_=>rfl
 rw[e] at this;exact this
theorem Box.adF{w:World}{b b' E:Nat}{c:Array Value}(h:Box w b c E)(hne:b≠b')(v0 v1 v2 v3:Value) :
  Box ((((w.setCell ⟨b',0,none⟩ v0).setCell ⟨b',1,none⟩ v1).setCell ⟨b',2,none⟩ v2).setCell ⟨b',3,none⟩ v3) b c E :=
 (((h.other _ _ hne).other _ _ hne).other _ _ hne).other _ _ hne
theorem eU{P:Program}{fn:Func}{R:Ending→World→Prop}{a:Act}{w:World}{p:Tmp}{ty b E:Nat}{cs:Array Value}{d:TypeDesc}
  (hr:fn.results=#[.cell p ty]) (hp:a.tmps.getD p undef=.pointer (some ⟨b,0,none⟩)) (hb:Box w b cs E)
  (hu:P.underlying ty=some d) (hd:(match d with | .struct _ | .array _ _=>true | _=>false)=true) (hi:(P.info? ty).map (·.size)=some cs.size)
  (hdf:a.defers=[]) (hR:R (.returned (.agg cs)) w):bodyPost P fn R .ret a w :=
 ⟨hdf,_,results_cell_row hr a.tmps w b E cs (0,0) d hp hb hu hd hi,hR⟩
theorem gI{P:Program}{fn:Func}{R:Ending→World→Prop}{a:Act}{w:World}{p u:Tmp}{ty b E:Nat}{cs:Array Value}{d:TypeDesc}{v:Value}
  (hr:fn.results=#[.cell p ty,.tmp u]) (hp:a.tmps.getD p undef=.pointer (some ⟨b,0,none⟩)) (hv:a.tmps.getD u undef=v) (hb:Box w b cs E)
  (hu:P.underlying ty=some d) (hd:(match d with | .struct _ | .array _ _=>true | _=>false)=true) (hi:(P.info? ty).map (·.size)=some cs.size)
  (hdf:a.defers=[]) (hR:R (.returned (.tuple #[.agg cs,v])) w):bodyPost P fn R .ret a w :=
 ⟨hdf,_,by
  have hp':a.tmps[p]?.getD undef=.pointer (some ⟨b,0,none⟩):=by simpa using hp
  have hv':a.tmps[u]?.getD undef=v:=by simpa using hv
  simp[results,hr,hp',hv',asAddr,run_loadVar_row w b E ty cs (0,0) d hb hu hd hi],hR⟩
def bV(w:World)(v:Value)(e:Ending)(w':World):Prop:=e=.returned v∧Below w.heap.size w w'
def ak{α:Type}(w:World)(v:Value)(size:Nat)(enc:α→List Value)(xs:List α):Prop :=
 ∃ (a:Option Addr) (b o cap:Nat),v=.slice a xs.length cap∧xs.length≤cap∧cap≤maxLen∧(a=some ⟨b,o,none⟩∨(xs=[]∧(a=none→cap=0) )) ∧
  ∀ i (h:i<xs.length),∀ j u,(enc xs[i])[j]?=some u→w.cell? ⟨b,o+i*size+j,none⟩=some u
theorem ak.open{α:Type}{w:World}{a:Option Addr}{n cap size:Nat}{enc:α→List Value}{xs:List α}(h:ak w (.slice a n cap) size enc xs) :
  ∃ b o,n=xs.length∧xs.length≤cap∧cap≤9223372036854775807∧(∀ i,i<xs.length→a=some ⟨b,o,none⟩) ∧
   ∀ i (h:i<xs.length),∀ j u,(enc xs[i])[j]?=some u→w.cell? ⟨b,o+i*size+j,none⟩=some u:=by
 obtain⟨a',b,o,cap',hv,hl,hc,ha,hx⟩:=h
 obtain⟨rfl,rfl,rfl⟩:=Value.slice.inj hv
 refine⟨b,o,rfl,hl,hc,fun i hi=>?_,hx⟩
 rcases ha with ha | ⟨rfl,_⟩
 ·exact ha
 ·simp at hi
theorem ak.kept{α:Type}{w w':World}{v:Value}{size:Nat}{enc:α→List Value}{xs:List α}(h:ak w v size enc xs)(hb:Below w.heap.size w w'):ak w' v size enc xs:=by
 obtain⟨a',b,o,cap',hv,hl,hc,ha,hx⟩:=h
 exact⟨a',b,o,cap',hv,hl,hc,ha,fun i hi j u hu=>by have:=hx i hi j u hu;rw[hb.cell (World.block_lt_of_cell? w _ this)];exact this⟩
abbrev ay:=BitVec 256
def word(s:ay)(i:Nat):Nat:=s.toNat / 2 ^ (64*i) % 2 ^ 64
def mem(s:ay)(b:Nat):Bool:=s.getLsbD b
abbrev dX(s:ay):Array Value:=#[.int .u64 (word s 0:Nat),.int .u64 (word s 1:Nat),.int .u64 (word s 2:Nat),.int .u64 (word s 3:Nat)]
abbrev oH(s:ay):Value:=.agg (dX s)
theorem word_lt(s:ay)(i:Nat):word s i<2 ^ 64:=Nat.mod_lt _ (by decide)
theorem jy(s:ay)(i j:Nat):(word s i).testBit j=(decide (j<64)&&mem s (64*i+j)):=by
 unfold word mem
 rw[Nat.testBit_mod_two_pow,Nat.testBit_div_two_pow,BitVec.getLsbD]
 rw[Nat.add_comm]
theorem FX(s:ay)(b:Nat):mem s b=(word s (b / 64)).testBit (b % 64):=by
 rw[jy];have:b % 64<64:=Nat.mod_lt _ (by decide)
 simp[this,Nat.div_add_mod]
theorem zT{s t:ay}(h:∀ b,b<256→mem s b=mem t b):s=t:=BitVec.eq_of_getLsbD_eq h
theorem CJ(s:ay)(i:Nat)(h:i<4):[Value.int .u64 (word s 0:Nat),Value.int .u64 (word s 1:Nat),Value.int .u64 (word s 2:Nat),Value.int .u64 (word s 3:Nat)][i]?=some (.int .u64 (word s i:Nat)):=by
 match i,h with
 | 0,_=>rfl
 | 1,_=>rfl
 | 2,_=>rfl
 | 3,_=>rfl
theorem Box.aiM{w:World}{b E i:Nat}{s:ay}(h:Box w b (dX s) E)(hi:i<4):w.cell? ⟨b,i,none⟩=some (.int .u64 (word s i:Nat)):=by
 rw[h.cell];simpa using CJ s i hi
def wZ(a b c d:Nat):ay:=BitVec.ofNat 256 (a % 2 ^ 64+2 ^ 64*(b % 2 ^ 64)+2 ^ 128*(c % 2 ^ 64)+2 ^ 192*(d % 2 ^ 64))
theorem Nk(a b c d:Nat):word (wZ a b c d) 0=a % 2 ^ 64∧word (wZ a b c d) 1=b % 2 ^ 64∧word (wZ a b c d) 2=c % 2 ^ 64∧word (wZ a b c d) 3=d % 2 ^ 64:=by
 unfold word wZ
 simp only[BitVec.toNat_ofNat]
 refine⟨?_,?_,?_,?_⟩ <;> omega
theorem oI(i:Nat):word 0 i=0:=by unfold word;simp
theorem mJ:dX 0=#[.int .u64 0,.int .u64 0,.int .u64 0,.int .u64 0]:=by simp only[dX,oI];rfl
theorem Box.FY{w:World}{b E:Nat}{s:ay}(h:Box w b (dX s) E) :
  (w.cell? ⟨b,0,none⟩=some (.int .u64 (word s 0:Nat))∧w.cell? ⟨b,1,none⟩=some (.int .u64 (word s 1:Nat))∧w.cell? ⟨b,2,none⟩=some (.int .u64 (word s 2:Nat))∧w.cell? ⟨b,3,none⟩=some (.int .u64 (word s 3:Nat))) ∧
  (w.frozen? ⟨b,0,none⟩=false∧w.frozen? ⟨b,1,none⟩=false∧w.frozen? ⟨b,2,none⟩=false∧w.frozen? ⟨b,3,none⟩=false) :=
 ⟨⟨h.cell 0,h.cell 1,h.cell 2,h.cell 3⟩,⟨h.free 0,h.free 1,h.free 2,h.free 3⟩⟩
theorem word_inj{s t:ay}(h:∀ i,i<4→word s i=word t i):s=t:=by
 refine zT fun b hb=>?_
 rw[FX,FX,h (b / 64) (by omega)]
theorem He(s t:ay)(b:Nat):mem (s ||| t) b=(mem s b||mem t b):=BitVec.getLsbD_or
theorem acE(s t:ay)(i:Nat):word (s ||| t) i=word s i ||| word t i:=by
 refine Nat.eq_of_testBit_eq fun j=>?_
 rw[Nat.testBit_or,jy,jy,jy,He]
 cases decide (j<64) <;> simp
def one(b:Nat):ay:=BitVec.ofNat 256 (2 ^ b)
theorem acF(b c:Nat)(hb:b<256):mem (one b) c=decide (b=c):=by
 unfold mem one
 rw[BitVec.getLsbD_ofNat,Nat.testBit_two_pow]
 by_cases h:b=c
 ·subst h;simp[hb]
 ·simp[h]
def wK(s:ay)(b:Nat):ay:=s ||| one b
theorem KD(s:ay)(b c:Nat)(hb:b<256):mem (wK s b) c=(mem s c||decide (b=c)):=by
 unfold wK;rw[He,acF b c hb]
theorem wL(s:ay)(b i:Nat)(hb:b<256):word (wK s b) i=if i=b / 64 then word s i ||| 2 ^ (b % 64) else word s i:=by
 refine Nat.eq_of_testBit_eq fun j=>?_
 have key:(word (wK s b) i).testBit j=(decide (j<64)&&(mem s (64*i+j)||decide (b=64*i+j))):=by rw[jy,KD _ _ _ hb]
 rw[key]
 split
 ·rename_i h;rw[Nat.testBit_or,jy,Nat.testBit_two_pow]
  by_cases hj:j<64
  ·have:decide (b=64*i+j)=decide (b % 64=j):=by rw[decide_eq_decide];omega
   simp[hj,this]
  ·simp[hj];omega
 ·rename_i h;rw[jy]
  by_cases hj:j<64
  ·have:¬ b=64*i+j:=by omega
   simp[this]
  ·simp[hj]
theorem Tm(s:ay)(b:Nat)(hb:b<256):(dX s).setIfInBounds (b / 64) (.int .u64 ((word s (b / 64) ||| 2 ^ (b % 64):Nat):Int))=dX (wK s b):=by
 have e0:=wL s b 0 hb;have e1:=wL s b 1 hb;have e2:=wL s b 2 hb;have e3:=wL s b 3 hb
 have hlt:b / 64<4:=by omega
 generalize 2 ^ (b % 64)=z at *
 generalize b / 64=q at *
 unfold dX
 rw[e0,e1,e2,e3]
 match q,hlt with
 | 0,_=>rfl
 | 1,_=>rfl
 | 2,_=>rfl
 | 3,_=>rfl
theorem CO(n:Nat)(hn:n<64):(2 ^ n:Nat)<18446744073709551616:=Nat.pow_lt_pow_right (by decide) hn
theorem wrap_two_pow(n:Nat)(hn:n<64):IntKind.u64.wrap (2 ^ n)=((2 ^ n:Nat):Int):=by
 have:=CO n hn
 rw[IntKind.wrap_u64,show(2:Int) ^ n=((2 ^ n:Nat):Int) by simp]
 exact Int.emod_eq_of_lt (Int.natCast_nonneg _) (Int.ofNat_lt.2 this)
theorem or_bit(a n:Nat)(ha:a<2 ^ 64)(hn:n<64):bits BinOp.or IntKind.u64 (a:Int) (IntKind.u64.wrap (2 ^ n))=((a ||| 2 ^ n:Nat):Int):=by
 rw[wrap_two_pow n hn];exact u64_or_nat a (2 ^ n) (by omega) (CO n hn)
theorem and_one(a n:Nat)(ha:a<2 ^ 64):(bits BinOp.and IntKind.u64 ((a:Int) / 2 ^ n) 1==1)=a.testBit n:=by
 have e:(a:Int) / 2 ^ n=((a / 2 ^ n:Nat):Int):=by simp
 have h:a / 2 ^ n<18446744073709551616:=Nat.lt_of_le_of_lt (Nat.div_le_self _ _) (by omega)
 rw[e,show(1:Int)=((1:Nat):Int) from rfl,u64_and_nat _ 1 h (by decide),nat_mask1,Nat.testBit_eq_decide_div_mod_eq]
 rw[Bool.eq_iff_iff]
 simp only[beq_iff_eq,decide_eq_true_eq]
 omega
def qW(l:List Nat):ay:=l.foldl wK 0
theorem YJ(l:List Nat)(b:Nat):qW (l++[b])=wK (qW l) b:=by unfold qW;rw[List.foldl_append];rfl
theorem Nl(b:Nat):mem 0 b=false:=BitVec.getLsbD_zero
theorem Hf(l:List Nat)(s:ay)(c:Nat)(hl:∀ x∈l,x<256):mem (l.foldl wK s) c=(mem s c||decide (c∈l)):=by
 induction l generalizing s with
 | nil=>simp
 | cons a l ih =>
  rw[List.foldl_cons,ih _ (fun x hx=>hl x (by simp[hx])),KD _ _ _ (hl a (by simp))]
  by_cases h:a=c
  ·subst h;simp
  ·have h2:¬ c=a:=fun e=>h e.symm
   simp[h,h2]
theorem Ro(l:List Nat)(c:Nat)(hl:∀ x∈l,x<256):mem (qW l) c=decide (c∈l):=by
 unfold qW;rw[Hf l 0 c hl,Nl];simp
def ofP(p:Nat→Bool):ay:=qW ((List.range 256).filter p)
theorem acG(p:Nat→Bool)(b:Nat):mem (ofP p) b=(decide (b<256)&&p b):=by
 unfold ofP
 rw[Ro _ _ (fun x hx=>by simp at hx;exact hx.1),Bool.eq_iff_iff]
 simp
theorem YK(s t:ay)(k:Nat)(hk:k<4)(h:∀ j,j<4→j≠k→word s j=word t j):(dX s).setIfInBounds k (.int .u64 (word t k:Nat))=dX t:=by
 have h0:=h 0;have h1:=h 1;have h2:=h 2;have h3:=h 3
 unfold dX
 match k,hk with
 | 0,_=>rw[h1 (by decide) (by decide),h2 (by decide) (by decide),h3 (by decide) (by decide)];rfl
 | 1,_=>rw[h0 (by decide) (by decide),h2 (by decide) (by decide),h3 (by decide) (by decide)];rfl
 | 2,_=>rw[h0 (by decide) (by decide),h1 (by decide) (by decide),h3 (by decide) (by decide)];rfl
 | 3,_=>rw[h0 (by decide) (by decide),h1 (by decide) (by decide),h2 (by decide) (by decide)];rfl
def leastOf(s:ay):Int:=match (List.range 256).find? (mem s) with | some k=>(k:Int) | none=>-1
theorem MC(s:ay)(k:Nat)(hk:k<256)(h:mem s k=true)(hno:∀ c,c<k→mem s c=false):leastOf s=k:=by
 unfold leastOf
 have:(List.range 256).find? (mem s)=some k:=by
  rw[List.find?_range_eq_some]
  exact⟨h,by simpa using hk,fun j hj=>by simp[hno j hj]⟩
 rw[this]
theorem nK(n:Nat)(h:n<256):IntKind.u8.wrap (n:Int)=(n:Int):=by rw[IntKind.wrap_u8'];omega
abbrev encS(s:ay):List Value:=[.int .u64 (word s 0:Nat),.int .u64 (word s 1:Nat),.int .u64 (word s 2:Nat),.int .u64 (word s 3:Nat)]
abbrev gX(x:Nat):List Value:=[.int .u8 x]
theorem ak.sets{w:World}{a:Option Addr}{n cap:Nat}{l:List ay}(h:ak w (.slice a n cap) 4 encS l) :
  ∃ b o,n=l.length∧l.length≤cap∧cap≤9223372036854775807∧(∀ i,i<l.length→a=some ⟨b,o,none⟩)∧(0<l.length→b<w.heap.size) ∧
   ∀ i (h:i<l.length) (w':World),Below w.heap.size w w'→w'.cell? ⟨b,o+i*4,none⟩=some (.int .u64 (word l[i] 0:Nat))∧w'.cell? ⟨b,o+i*4+1,none⟩=some (.int .u64 (word l[i] 1:Nat)) ∧
    w'.cell? ⟨b,o+i*4+2,none⟩=some (.int .u64 (word l[i] 2:Nat))∧w'.cell? ⟨b,o+i*4+3,none⟩=some (.int .u64 (word l[i] 3:Nat)):=by
 obtain⟨b,o,h1,h2,h3,h4,h5⟩:=h.open
 refine⟨b,o,h1,h2,h3,h4,fun h0=>World.block_lt_of_cell? w _ (h5 0 h0 0 _ rfl),fun i hi w' hB=>?_⟩
 have key:∀ j u,(encS l[i])[j]?=some u→w'.cell? ⟨b,o+i*4+j,none⟩=some u:=fun j u hu=>by
  have:=h5 i hi j u hu
  rw[hB.cell (World.block_lt_of_cell? w _ this)];exact this
 exact⟨key 0 _ rfl,key 1 _ rfl,key 2 _ rfl,key 3 _ rfl⟩
theorem ak.bytes{w:World}{a:Option Addr}{n cap:Nat}{l:List Nat}(h:ak w (.slice a n cap) 1 gX l) :
  ∃ b o,n=l.length∧l.length≤cap∧cap≤9223372036854775807∧(∀ i,i<l.length→a=some ⟨b,o,none⟩)∧(0<l.length→b<w.heap.size) ∧
   ∀ i (h:i<l.length) (w':World),Below w.heap.size w w'→w'.cell? ⟨b,o+i,none⟩=some (.int .u8 (l[i]:Nat)):=by
 obtain⟨b,o,h1,h2,h3,h4,h5⟩:=h.open
 refine⟨b,o,h1,h2,h3,h4,fun h0=>World.block_lt_of_cell? w _ (h5 0 h0 0 _ rfl),fun i hi w' hB=>?_⟩
 have:=h5 i hi 0 _ rfl
 rw[hB.cell (p:=⟨b,o+i,none⟩) (by simpa using World.block_lt_of_cell? w _ this)];simpa using this
theorem Cb{w:World}{b E:Nat}{c:Array Value}(h:b=w.heap.size)(c':Array Value):(w.alloc (.cells c E)).setRow b c'=w.alloc (.cells c' E):=by
 subst h;exact World.setRow_alloc_new w c c' E
theorem jk{P:Program}{ops:Array Oper}{rest:List Oper}{o:Oper}{a:Act}{w0:World}{Q:Exit→Act→World→Prop}(hgd:o.guard=none)(ty:TypeId)(x y:Operand)(ho:o.op=.store ty x y)
  (g:Nat) (cells:Array Value) (hx:a.eval x=.pointer (some ⟨g,0,none⟩)) (hy:a.eval y=.agg cells)
  {t:TypeId} {old:Array Value} (hg:g=w0.heap.size) (hi:(P.info? ty).map (·.size)=some cells.size) (hold:old.size=cells.size) (h1:cells.all (·.oneCell')=true)
  (h:wpList P ops Q rest (a.put o.dst undef) (w0.alloc (.cells cells t))):wpList P ops Q (o::rest) a (w0.alloc (.cells old t)) :=
 wpList_store_row hgd ty x y ho g cells hx hy t old (Box.new' hg old t) hi hold h1 (by rw[Cb hg];exact h)
theorem cZ(w:World)(l:List Value)(E:Nat):∀ j u,l[j]?=some u→(w.alloc (.cells l.toArray E)).cell? ((⟨w.heap.size,0,none⟩:Addr).add j)=some u:=fun j u hu=>by
 rw[Addr.add_mid,(Box.new w l.toArray E).cell,Nat.zero_add];simpa using hu
end
section
open Go.RowKit
structure dQ(P:Program)(t E:TypeId)(z:Value)(size bytes:Nat):Prop where
 slice:P.underlying t=some (.slice E)
 info:∃ i,P.info? E=some i∧i.zero=some z∧i.size=size∧i.bytes=bytes
 Hg:z.cells.size=size
 pos:0<size
structure eH{α:Type}(enc:α→List Value)(size:Nat):Prop where
 len:∀ x,(enc x).length=size
 one:∀ x,∀ u∈enc x,u.oneCell'=true
theorem qF{α:Type}{enc:α→List Value}{size:Nat}(he:∀ x,(enc x).length=size):∀ (xs:List α) (i j:Nat) (h:i<xs.length),j<size→(xs.flatMap enc)[i*size+j]?=(enc xs[i])[j]?
 | [],i,j,h,_=>by simp at h
 | x::xs,0,j,_,hj=>by
  rw[List.flatMap_cons,Nat.zero_mul,Nat.zero_add,List.getElem?_append_left (by rw[he];exact hj)];rfl
 | x::xs,i+1,j,h,hj=>by
  rw[List.flatMap_cons,Nat.succ_mul,List.getElem?_append_right (by rw[he];omega),he,show i*size+size+j - size=i*size+j by omega]
  exact qF he xs i j (by simpa using h) hj
theorem pR{α:Type}{enc:α→List Value}{size:Nat}(he:∀ x,(enc x).length=size)(xs:List α):(xs.flatMap enc).length=xs.length*size:=by
 induction xs with
 | nil=>simp
 | cons x xs ih=>rw[List.flatMap_cons,List.length_append,he,ih,List.length_cons,Nat.succ_mul];omega
def Own{α:Type}(w:World)(base E size:Nat)(enc:α→List Value)(v:Value)(xs:List α):Prop :=
 ∃ (a:Option Addr) (cap:Nat),v=.slice a xs.length cap∧xs.length≤cap∧cap≤maxLen∧((a=none∧cap=0) ∨
  ∃ g cur,a=some ⟨g,0,none⟩∧base≤g∧Box w g cur E∧cur.size=cap*size∧∀ i (h:i<xs.length) j,j<size→cur[i*size+j]?=(enc xs[i])[j]?)
section
variable {α:Type} {w:World} {base E size:Nat} {enc:α→List Value} {v:Value} {xs:List α}
theorem Own.form(h:Own w base E size enc v xs):∃ a cap,v=.slice a xs.length cap:=by obtain⟨a,cap,hv,_⟩:=h;exact⟨a,cap,hv⟩
theorem Own.pU(h:Own w base E size enc v xs)(he:eH enc size):w.ownsRow base E size v xs.length (xs.flatMap enc):=by
 obtain⟨a,cap,rfl,hle,hm,hh⟩:=h
 refine⟨pR he.len xs,?_⟩
 rcases hh with⟨rfl,rfl⟩ | ⟨g,cur,rfl,hb,hg,hs,hx⟩
 ·have:xs.length=0:=by omega
  exact .inl ⟨by rw[this],this⟩
 ·refine .inr ⟨g,cap,cur,rfl,hb,hg,hle,hm,hs,?_⟩
  have hsz:xs.length*size≤cur.size:=by rw[hs];exact Nat.mul_le_mul_right _ hle
  apply List.ext_getElem?
  intro k
  by_cases hk:k<xs.length*size
  ·have hpos:0<size:=by rcases Nat.eq_zero_or_pos size with h | h;simp[h] at hk;exact h
   have h1:k / size<xs.length:=Nat.div_lt_of_lt_mul (by rw[Nat.mul_comm];exact hk)
   have h2:k % size<size:=Nat.mod_lt _ hpos
   have h3:k / size*size+k % size=k:=by rw[Nat.mul_comm];exact Nat.div_add_mod k size
   rw[List.getElem?_take,if_pos hk]
   have:=hx (k / size) h1 (k % size) h2
   rw[h3] at this
   have h4:=qF he.len xs (k / size) (k % size) h1 h2
   rw[h3] at h4
   rw[h4,←this];simp
  ·rw[List.getElem?_take,if_neg hk,List.getElem?_eq_none]
   rw[pR he.len];omega
theorem Own.ofRow(h:w.ownsRow base E size v xs.length (xs.flatMap enc))(he:eH enc size):Own w base E size enc v xs:=by
 obtain⟨hl,h⟩:=h
 rcases h with⟨rfl,hn⟩ | ⟨g,cap,cur,rfl,hb,hg,hle,hm,hs,ht⟩
 ·exact⟨none,0,by rw[hn],by omega,by simp[maxLen],.inl ⟨rfl,rfl⟩⟩
 ·refine⟨_,cap,rfl,hle,hm,.inr ⟨g,cur,rfl,hb,hg,hs,fun i hi j hj=>?_⟩⟩
  rw[←qF he.len xs i j hi hj,←ht,List.getElem?_take,if_pos]
  ·simp
  ·have:(i+1)*size≤xs.length*size:=Nat.mul_le_mul_right _ hi
   rw[Nat.succ_mul] at this;omega
theorem Own.nil(w:World)(base E size:Nat)(enc:α→List Value):Own w base E size enc (.slice none 0 0) []:=⟨none,0,rfl,Nat.le_refl _,by simp[maxLen],.inl ⟨rfl,rfl⟩⟩
theorem Own.empty(w:World)(base E size:Nat)(enc:α→List Value)(hb:base≤w.heap.size):Own (w.alloc (.cells #[] E)) base E size enc (.slice (some ⟨w.heap.size,0,none⟩) 0 0) [] :=
 ⟨_,0,rfl,Nat.le_refl _,by simp[maxLen],.inr ⟨w.heap.size,#[],rfl,hb,Box.new _ _ _,by simp,fun i h=>by simp at h⟩⟩
theorem Own.kept{w':World}(h:Own w base E size enc v xs)(hb:Below w.heap.size w w'):Own w' base E size enc v xs:=by
 obtain⟨a,cap,hv,hle,hm,hh⟩:=h
 refine⟨a,cap,hv,hle,hm,?_⟩
 rcases hh with hh | ⟨g,cur,ha,hbg,hg,hr⟩
 ·exact .inl hh
 ·exact .inr ⟨g,cur,ha,hbg,hg.kept hb,hr⟩
theorem Own.alloc(h:Own w base E size enc v xs)(o:Obj):Own (w.alloc o) base E size enc v xs:=h.kept ((Below.refl _ w).alloc (Nat.le_refl _) o)
theorem Own.mono{base':Nat}(h:Own w base E size enc v xs)(hb:base'≤base):Own w base' E size enc v xs:=by
 obtain⟨a,cap,hv,hle,hm,hh⟩:=h
 refine⟨a,cap,hv,hle,hm,?_⟩
 rcases hh with hh | ⟨g,cur,ha,hbg,hg,hr⟩
 ·exact .inl hh
 ·exact .inr ⟨g,cur,ha,Nat.le_trans hb hbg,hg,hr⟩
theorem Own.other(h:Own w base E size enc v xs)(a:Addr)(u:Value)(hne:a.block<base):Own (w.setCell a u) base E size enc v xs:=by
 obtain⟨a',cap,hv,hle,hm,hh⟩:=h
 refine⟨a',cap,hv,hle,hm,?_⟩
 rcases hh with hh | ⟨g,cur,ha,hbg,hg,hr⟩
 ·exact .inl hh
 ·exact .inr ⟨g,cur,ha,hbg,hg.other a u (by omega),hr⟩
theorem Own.slice(h:Own w base E size enc v xs)(he:eH enc size):ak w v size enc xs:=by
 obtain⟨a,cap,rfl,hle,hm,hh⟩:=h
 rcases hh with⟨rfl,rfl⟩ | ⟨g,cur,rfl,hb,hg,hs,hx⟩
 ·have:xs.length=0:=by omega
  exact⟨none,0,0,0,rfl,hle,hm,.inr ⟨List.eq_nil_of_length_eq_zero this,fun _=>rfl⟩,fun i hi=>by omega⟩
 ·refine⟨_,g,0,cap,rfl,hle,hm,.inl rfl,fun i hi j u hu=>?_⟩
  have hj:j<size:=by have:=(List.getElem?_eq_some_iff.1 hu).1;rwa[he.len] at this
  rw[hg.cell,Nat.zero_add,hx i hi j hj,hu]
theorem Own.open{a:Option Addr}{n cap:Nat}(h:Own w base E size enc (.slice a n cap) xs) :
  n=xs.length∧xs.length≤cap∧cap≤9223372036854775807∧∃ g cur,(∀ i,i<xs.length→a=some ⟨g,0,none⟩)∧(0<xs.length→base≤g∧Box w g cur E∧cur.size=cap*size∧∀ i (h:i<xs.length) j,j<size→cur[i*size+j]?=(enc xs[i])[j]?):=by
 obtain⟨a',cap',hv,hle,hm,hh⟩:=h
 obtain⟨rfl,rfl,rfl⟩:=Value.slice.inj hv
 refine⟨rfl,hle,hm,?_⟩
 rcases hh with⟨_,rfl⟩ | ⟨g,cur,ha,hb,hg,hs,hx⟩
 ·exact⟨0,#[],fun i hi=>by omega,fun h=>by omega⟩
 ·exact⟨g,cur,fun _ _=>ha,fun _=>⟨hb,hg,hs,hx⟩⟩
theorem fJ{P:Program}{ops:Array Oper}{rest:List Oper}{o:Oper}{a:Act}{Q:Exit→Act→World→Prop}(hgd:o.guard=none)(s x:Operand)(t:TypeId)
  (ho:o.op=.call { callee:=.builtin .append,args:=#[s,x],argTypes:=#[t,t] }) {z:Value} {bytes:Nat} (hE:dQ P t E z size bytes) (he:eH enc size)
  (hs:a.eval s=v) (hown:Own w base E size enc v xs) (ad:Addr) (c:Nat) (y:α) (hx:a.eval x=.slice (some ad) 1 c) (hnews:∀ j u,(enc y)[j]?=some u→w.cell? (ad.add j)=some u)
  (h63:xs.length+1≤maxLen) (hbytes:(xs.length+1)*bytes≤140737488355328) (hbase:base≤w.heap.size)
  (h:∀ a' cap' w',Own w' base E size enc (.slice a' (xs.length+1) cap') (xs++[y])→w.grownBy w' v.ownBlock→wpList P ops Q rest (a.put o.dst (.slice a' (xs.length+1) cap')) w'):wpList P ops Q (o::rest) a w:=by
 obtain⟨i,hi,hz,hsz,hby⟩:=hE.info
 refine wpList_append_own w hgd s x t ho base E i z size bytes hE.slice hi hz hsz hby hE.Hg hE.pos v xs.length (xs.flatMap enc) hs (hown.pU he) ad 1 c (enc y) hx (by rw[he.len,Nat.one_mul]) hnews (he.one y) h63 hbytes hbase ?_
 intro v' w' hr hg _
 have hr':Own w' base E size enc v' (xs++[y]):=by
  refine Own.ofRow ?_ he
  rw[List.length_append,List.flatMap_append]
  simpa using hr
 obtain⟨a',cap',rfl⟩:=hr'.form
 have e:(xs++[y]).length=xs.length+1:=by simp
 rw[e] at hr' ⊢
 exact h a' cap' w' hr' hg
end
theorem below_grown{α:Type}{w0 w w':World}{base B E size:Nat}{enc:α→List Value}{v:Value}{xs:List α}(hB:Below B w0 w)(hown:Own w base E size enc v xs)(hg:w.grownBy w' v.ownBlock)(hb:B≤base)(hs:B≤w.heap.size):Below B w0 w':=by
 refine hB.grown hg hs fun k hk=>?_
 obtain⟨a,cap,rfl,_,_,hh⟩:=hown
 rcases hh with⟨rfl,_⟩ | ⟨g,cur,rfl,hbg,_⟩
 ·simp[Value.ownBlock] at hk
 ·simp[Value.ownBlock] at hk;omega
theorem Box.grown{α:Type}{w w':World}{b base E E' size:Nat}{enc:α→List Value}{v:Value}{xs:List α}{c:Array Value}(h:Box w b c E')(hown:Own w base E size enc v xs)(hg:w.grownBy w' v.ownBlock)(hb:b<base):Box w' b c E':=by
 refine(hg.block b h.lt ?_).trans h
 obtain⟨a,cap,rfl,_,_,hh⟩:=hown
 rcases hh with⟨rfl,_⟩ | ⟨g,cur,rfl,hbg,_⟩
 ·simp[Value.ownBlock]
 ·simp[Value.ownBlock];omega
theorem Box.jC{w:World}{b E E':Nat}{c c':Array Value}(h:Box w b c E)(h':Box w b c' E'):E=E':=by
 unfold Box at h h';rw[h] at h';simp at h';exact h'.2
theorem Box.iG{α:Type}{w w':World}{b base E E' size:Nat}{enc:α→List Value}{v:Value}{xs:List α}{c:Array Value}(h:Box w b c E')(hown:Own w base E size enc v xs)(hg:w.grownBy w' v.ownBlock)(hne:E≠E'):Box w' b c E':=by
 refine(hg.block b h.lt ?_).trans h
 obtain⟨a,cap,rfl,_,_,hh⟩:=hown
 rcases hh with⟨rfl,_⟩ | ⟨g,cur,rfl,hbg,hbx,_⟩
 ·simp[Value.ownBlock]
 ·simp[Value.ownBlock]
  rintro rfl;exact hne (hbx.jC h)
theorem Own.xC{α:Type}{w:World}{base E E' size b:Nat}{enc:α→List Value}{v:Value}{xs:List α}{c:Array Value}(h:Own w base E size enc v xs)(hb:Box w b c E')(hne:E≠E')(i:Nat)(u:Value):Own (w.setCell ⟨b,i,none⟩ u) base E size enc v xs:=by
 obtain⟨a',cap,hv,hle,hm,hh⟩:=h
 refine⟨a',cap,hv,hle,hm,?_⟩
 rcases hh with hh | ⟨g,cur,ha,hbg,hg,hr⟩
 ·exact .inl hh
 ·exact .inr ⟨g,cur,ha,hbg,hg.other _ u (by rintro rfl;exact hne (hg.jC hb)),hr⟩
def gu{α:Type}(w:World)(E size:Nat)(enc:α→List Value)(L:List α)(e:Ending)(w':World):Prop :=
 ∃ (a:Option Addr) (cap:Nat),e=.returned (.slice a L.length cap)∧Own w' w.heap.size E size enc (.slice a L.length cap) L∧Below w.heap.size w w'
theorem zU:eH encS 4:=⟨fun _=>rfl,fun x u hu=>by simp[encS] at hu;rcases hu with rfl | rfl | rfl | rfl <;> rfl⟩
theorem JF:eH gX 1:=⟨fun _=>rfl,fun x u hu=>by simp[gX] at hu;subst hu;rfl⟩
theorem Own.zS{w:World}{base E:Nat}{a:Option Addr}{n cap:Nat}{xs:List ay}(h:Own w base E 4 encS (.slice a n cap) xs){i g:Nat}(hi:i<xs.length)(ha:a=some ⟨g,0,none⟩)(y:ay) :
  Own ((((w.setCell ⟨g,i*4,none⟩ (.int .u64 (word y 0:Nat))).setCell ⟨g,i*4+1,none⟩ (.int .u64 (word y 1:Nat))).setCell ⟨g,i*4+2,none⟩ (.int .u64 (word y 2:Nat))).setCell ⟨g,i*4+3,none⟩ (.int .u64 (word y 3:Nat)))
   base E 4 encS (.slice a n cap) (xs.set i y):=by
 obtain⟨a',cap',hv,hle,hm,hh⟩:=h
 obtain⟨rfl,rfl,rfl⟩:=Value.slice.inj hv
 rcases hh with⟨rfl,_⟩ | ⟨g',cur,ha',hb,hg,hs,hx⟩
 ·cases ha
 ·obtain rfl:g'=g:=by rw[ha] at ha';simpa using ha'.symm
  refine⟨a,cap,by rw[List.length_set],by rw[List.length_set];exact hle,hm,.inr ⟨g',_,ha,hb,(((hg.set _ _).set _ _).set _ _).set _ _,by simpa using hs,fun k hk j hj=>?_⟩⟩
  have hk':=hk
  rw[List.length_set] at hk
  have hcs:i*4+3<cur.size:=by have:(i+1)*4≤cap*4:=Nat.mul_le_mul_right _ (by omega);rw[hs];omega
  simp only[Array.getElem?_setIfInBounds,Array.size_setIfInBounds]
  by_cases hki:k=i
  ·subst hki
   have e:(xs.set k y)[k]'hk'=y:=by simp
   rw[e]
   match j,hj with
   | 0,_=>simp;omega
   | 1,_=>simp;omega
   | 2,_=>simp;omega
   | 3,_=>simp;omega
  ·have e:(xs.set i y)[k]'hk'=xs[k]:=by rw[List.getElem_set_ne (fun e=>hki e.symm)]
   rw[e,←hx k hk j hj]
   rw[if_neg (by omega),if_neg (by omega),if_neg (by omega),if_neg (by omega)]
theorem Own.cells4{w:World}{base E g n cap:Nat}{xs:List ay}(h:Own w base E 4 encS (.slice (some ⟨g,0,none⟩) n cap) xs){i:Nat}(hi:i<xs.length) :
  (w.cell? ⟨g,i*4,none⟩=some (.int .u64 (word xs[i] 0:Nat))∧w.cell? ⟨g,i*4+1,none⟩=some (.int .u64 (word xs[i] 1:Nat))∧w.cell? ⟨g,i*4+2,none⟩=some (.int .u64 (word xs[i] 2:Nat))∧w.cell? ⟨g,i*4+3,none⟩=some (.int .u64 (word xs[i] 3:Nat))) ∧
  (w.frozen? ⟨g,i*4,none⟩=false∧w.frozen? ⟨g,i*4+1,none⟩=false∧w.frozen? ⟨g,i*4+2,none⟩=false∧w.frozen? ⟨g,i*4+3,none⟩=false):=by
 obtain⟨_,_,_,g',cur,ha,hx⟩:=h.open
 obtain rfl:g=g':=by simpa using ha i hi
 obtain⟨_,hb,_,hc⟩:=hx (by omega)
 have k:=hc i hi
 exact⟨⟨(hb.cell _).trans (k 0 (by decide)),(hb.cell _).trans (k 1 (by decide)),(hb.cell _).trans (k 2 (by decide)),(hb.cell _).trans (k 3 (by decide))⟩,hb.free _,hb.free _,hb.free _,hb.free _⟩
theorem Own.addr{α:Type}{w:World}{base E size n cap:Nat}{enc:α→List Value}{a:Option Addr}{xs:List α}(h:Own w base E size enc (.slice a n cap) xs)(hn:0<n):∃ g,a=some ⟨g,0,none⟩∧base≤g∧g<w.heap.size:=by
 obtain⟨rfl,_,_,g,cur,ha,hx⟩:=h.open
 obtain⟨hb,hg,_⟩:=hx hn
 exact⟨g,ha 0 hn,hb,hg.lt⟩
end
section
open Go.RowKit
theorem ny{α:Type}{enc:α→List Value}{size:Nat}(he:eH enc size)(w:World)(E:Nat)(xs:List α)(hm:xs.length≤maxLen):ak (w.alloc (.cells (xs.flatMap enc).toArray E)) (.slice (some ⟨w.heap.size,0,none⟩) xs.length xs.length) size enc xs:=by
 refine⟨_,w.heap.size,0,_,rfl,Nat.le_refl _,hm,.inl rfl,fun i hi j u hu=>?_⟩
 have hj:j<size:=by have:=(List.getElem?_eq_some_iff.1 hu).1;rwa[he.len] at this
 rw[(Box.new w _ E).cell,Nat.zero_add]
 simpa [qF he.len xs i j hi hj] using hu
theorem acH(w:World)(a b:ay)(E:Nat):ak (w.alloc (.cells #[.int .u64 (word a 0:Nat),.int .u64 (word a 1:Nat),.int .u64 (word a 2:Nat),.int .u64 (word a 3:Nat),.int .u64 (word b 0:Nat),.int .u64 (word b 1:Nat),.int .u64 (word b 2:Nat),.int .u64 (word b 3:Nat)] E)) (.slice (some ⟨w.heap.size,0,none⟩) 2 2) 4 encS [a,b] :=
 ny zU w E [a,b] (by simp[maxLen])
theorem Np(w:World)(x:Nat)(E:Nat):ak (w.alloc (.cells #[.int .u8 (x:Nat)] E)) (.slice (some ⟨w.heap.size,0,none⟩) 1 1) 1 gX [x] :=
 ny JF w E [x] (by simp[maxLen])
theorem aj(w:World)(o:Obj):Below w.heap.size w (w.alloc o):=(Below.refl _ _).alloc (Nat.le_refl _) _
theorem adG(a b:ay):[a,b].foldl (· ||| ·) 0=a ||| b:=zT fun c _=>by simp[He]
theorem Box.YL{w:World}{b g i E:Nat}{c:Array Value}(h:Box w b c E)(hne:b≠g)(v0 v1 v2 v3:Value) :
  Box ((((w.setCell ⟨g,i,none⟩ v0).setCell ⟨g,i+1,none⟩ v1).setCell ⟨g,i+2,none⟩ v2).setCell ⟨g,i+3,none⟩ v3) b c E :=
 (((h.other _ _ hne).other _ _ hne).other _ _ hne).other _ _ hne
theorem Nq{B g i:Nat}{a w:World}(h:Below B a w)(hg:B≤g)(v0 v1 v2 v3:Value) :
  Below B a ((((w.setCell ⟨g,i,none⟩ v0).setCell ⟨g,i+1,none⟩ v1).setCell ⟨g,i+2,none⟩ v2).setCell ⟨g,i+3,none⟩ v3) :=
 (((h.setCell (by simpa using hg) _).setCell (by simpa using hg) _).setCell (by simpa using hg) _).setCell (by simpa using hg) _
end
section
open Go.RowKit
section
variable {P:Program} {ops:Array Oper} {Q:Exit→Act→World→Prop} {md:Region.Mode} {R:World→World→Prop} {t:Nat}
def jI(P:Program)(md:Region.Mode)(ops:Array Oper)(Q:Exit→Act→World→Prop)(R:World→World→Prop)(t:Nat):Nat→Array Bool→Act→World→Prop
 | 0,listed,a,w=>∀ w1,R w w1→Region.ready md ops listed=[]∧Q .normal a w1
 | fuel+1,listed,a,w=>∀ w1,R w w1→(Region.ready md ops listed=[]→Q .normal a w1) ∧
   ∀ i∈Region.ready md ops listed,wpOp P ops Q i (fun a' w'=>(i≠t→R w1 w')∧jI P md ops Q R t fuel (listed.setIfInBounds i true) a' w') a w1
def Cl(md:Region.Mode)(ops:Array Oper)(listed:Array Bool):Prop:=∀ k o,ops[k]?=some o→listed.getD k false=true→∀ e∈o.after,Region.binds md e=true→listed.getD e.on false=true
def qX(md:Region.Mode)(ops:Array Oper)(listed:Array Bool):Bool:=(List.range ops.size).all fun k=>!listed.getD k false||((ops[k]?).map fun o=>o.after.all fun e=>!Region.binds md e||listed.getD e.on false).getD true
theorem Cl.ofB{listed:Array Bool}(h:qX md ops listed=true):Cl md ops listed:=fun k o ho hk e he hb=>by
 have hlt:k<ops.size:=(Array.getElem?_eq_some_iff.1 ho).1
 have:=List.all_eq_true.1 h k (List.mem_range.2 hlt)
 rw[hk,ho] at this
 simp only[Bool.not_true,Bool.false_or,Option.map_some,Option.getD_some] at this
 have:=(Array.all_eq_true_iff_forall_mem.1 this) e he
 rw[hb] at this
 simpa using this
def needs(md:Region.Mode)(ops:Array Oper)(i:Nat):Nat→Nat→Bool
 | 0,_=>false
 | f+1,t=>((ops[t]?).map fun o=>o.after.any fun e=>Region.binds md e&&(e.on==i||needs md ops i f e.on)).getD false
theorem xE{listed:Array Bool}(hc:Cl md ops listed){i:Nat}:∀ (f t:Nat) (o:Oper),ops[t]?=some o→(∀ e∈o.after,Region.binds md e=true→listed.getD e.on false=true)→needs md ops i f t=true→listed.getD i false=true
 | 0,_,_,_,_,h=>by cases h
 | f+1,t,o,ho,hl,h=>by
  unfold needs at h
  rw[ho] at h
  simp only[Option.map_some,Option.getD_some] at h
  obtain⟨e,he,h2⟩:=Array.any_eq_true'.1 h
  simp only[Bool.and_eq_true,Bool.or_eq_true,beq_iff_eq] at h2
  obtain⟨hb,h3⟩:=h2
  have hon:=hl e he hb
  rcases h3 with rfl | h3
  ·exact hon
  ·cases hoe:ops[e.on]? with
   | none =>
    cases f with
    | zero=>cases h3
    | succ f=>unfold needs at h3;rw[hoe] at h3;cases h3
   | some o2=>exact xE hc f e.on o2 hoe (fun e2 he2 hb2=>hc _ _ hoe hon e2 he2 hb2) h3
theorem Cl.step{listed:Array Bool}(hc:Cl md ops listed){j:Nat}(hj:j∈Region.ready md ops listed):Cl md ops (listed.setIfInBounds j true):=fun k o ho hk e he hb=>by
 by_cases hkj:k=j
 ·subst hkj
  obtain⟨_,o',ho',hall⟩:=mem_ready.1 hj
  rw[ho] at ho'
  cases ho'
  exact getD_set_true (hall e he hb)
 ·rw[getD_set_ne false (fun h=>hkj h.symm)] at hk
  exact getD_set_true (hc k o ho hk e he hb)
theorem jI.later(ht:∀ a b c,R a b→R b c→R a c):∀ {fuel:Nat} {listed:Array Bool} {a:Act} {w w':World},jI P md ops Q R t fuel listed a w→R w w'→jI P md ops Q R t fuel listed a w'
 | 0,_,_,_,_,h,hr=>fun w1 h1=>h w1 (ht _ _ _ hr h1)
 | _+1,_,_,_,_,h,hr=>fun w1 h1=>h w1 (ht _ _ _ hr h1)
theorem Hl(hr:∀ a,R a a):∀ (fuel:Nat) (listed:Array Bool) (a:Act) (w:World),jI P md ops Q R t fuel listed a w→wpAny P md ops Q fuel listed a w
 | 0,_,_,w,h=>h w (hr w)
 | fuel+1,_,_,w,h=>⟨(h w (hr w)).1,fun i hi=>wpOp_mono (fun a' w' h'=>Hl hr fuel _ a' w' h'.2) ((h w (hr w)).2 i hi)⟩
def Rq(P:Program)(R:World→World→Prop)(o:Oper)(v:Value)(a:Act)(w1:World):Prop :=
 (execOp a.eval o).run P w1=.ok (.value v) w1∨∃ f args,(execOp a.eval o).run P w1=.ok (.enter f args) w1∧Calls P f args w1 fun e w2=>e=.returned v∧R w1 w2
def Gives(P:Program)(ops:Array Oper)(R:World→World→Prop)(o:Oper)(v:Value)(a:Act)(w:World):Prop :=
 (Region.wanted o (yielded ops a.tmps)=true∧∀ w1,R w w1→Rq P R o v a w1)∨(Region.wanted o (yielded ops a.tmps)=false∧v=undef)
theorem Gives.wpOp(hrefl:∀ a,R a a){i:Nat}{o:Oper}{v:Value}{a:Act}(hi:ops[i]?=some o){w w1:World}(hy:Gives P ops R o v a w)(hR:R w w1){K:Act→World→Prop}
  (h:∀ w2,R w1 w2→K (a.put o.dst v) w2):wpOp P ops Q i K a w1:=by
 unfold Go.wpOp
 simp only[hi]
 rcases hy with⟨hw,hv⟩ | ⟨hw,rfl⟩
 ·simp only[hw,if_true]
  refine .inl ?_
  unfold Oper.wp
  rcases hv w1 hR with he | ⟨f,args,he,hc⟩
  ·simp only[he,Oper.upon];exact h _ (hrefl _)
  ·simp only[he,Oper.upon]
   refine Calls.mono hc fun e w2 ⟨h1,h2⟩=>?_
   subst h1
   exact h _ h2
 ·simp only[hw,Bool.false_eq_true,if_false];exact h _ (hrefl _)
theorem Gives.of_same{o:Oper}{v:Value}{a a':Act}{w:World}(hy:Gives P ops R o v a w)(he:execOp a'.eval o=execOp a.eval o)
  (hw:Region.wanted o (yielded ops a'.tmps)=Region.wanted o (yielded ops a.tmps)):Gives P ops R o v a' w:=by
 unfold Gives Rq at *
 rw[he,hw]
 exact hy
theorem Gives.later(ht:∀ a b c,R a b→R b c→R a c){o:Oper}{v:Value}{a:Act}{w w':World}(hy:Gives P ops R o v a w)(hR:R w w'):Gives P ops R o v a w' :=
 hy.imp (fun⟨h1,h2⟩=>⟨h1,fun w1 h=>h2 w1 (ht _ _ _ hR h)⟩) id
theorem KE{j:Nat}{oi oj:Oper}{v:Value}(hj:ops[j]?=some oj)(hap:oi.apart ops oj=true)(hsi:∀ cs b,oi.op≠.select cs b)(hsj:∀ cs b,oj.op≠.select cs b)
  (hQ:∀ c a w,Q (.panic c) (a.put oi.dst v) w→Q (.panic c) a w) {K:Act→World→Prop} {a:Act} {w:World} (h:wpOp P ops Q j K (a.put oi.dst v) w) :
  wpOp P ops Q j (fun a' w'=>(∀ w0,Gives P ops R oi v a w0→Gives P ops R oi v a' w0)∧K (a'.put oi.dst v) w') a w:=by
 obtain⟨h1,h2,h3⟩:=Oper.apart_spec hap
 have keep:∀ u w0,Gives P ops R oi v a w0→Gives P ops R oi v (a.put oj.dst u) w0:=fun u w0 hy=>hy.of_same (execOp_put oi hsi a oj.dst u h3) (wanted_put oi a oj.dst u h3)
 have keepD:∀ d u w0,Gives P ops R oi v a w0→Gives P ops R oi v (({ a with defers:=d::a.defers }:Act).put oj.dst u) w0:=fun d u w0 hy =>
  (hy.of_same (a':={ a with defers:=d::a.defers }) rfl rfl).of_same (execOp_put oi hsi _ oj.dst u h3) (wanted_put oi _ oj.dst u h3)
 unfold wpOp at *
 simp only[hj] at *
 rw[wanted_put oj a oi.dst v h1] at h
 by_cases hw:Region.wanted oj (yielded ops a.tmps)=true
 ·simp only[hw,if_true] at h ⊢
  rcases h with h | ⟨hasks,hlets⟩
  case inr=>exact .inr ⟨by unfold Oper.asks at *;rw[execOp_put oj hsj a oi.dst v h1] at hasks;exact hasks,hlets⟩
  refine .inl ?_
  unfold Oper.wp at *
  rw[execOp_put oj hsj a oi.dst v h1] at h
  generalize (execOp a.eval oj).run P w=r at *
  cases r with
  | ok n w' =>
   cases n <;> simp only[Oper.upon] at h ⊢
   case value u=>exact⟨keep u,by rw[←Act.put_comm a v u h2];exact h⟩
   case skip=>exact⟨keep _,by rw[←Act.put_comm a v undef h2];exact h⟩
   case defer d=>exact⟨keepD d _,by rw[←Act.put_comm _ v undef h2,←Act.put_defers];exact h⟩
   case enter f args =>
    refine Calls.mono h fun e w'' he=>?_
    cases e with
    | returned u=>exact⟨keep u,by rw[←Act.put_comm a v u h2];exact he⟩
    | panicked c=>exact hQ _ _ _ he
    | outgrown=>exact he
   case row row args=>exact Rows.mono h fun u w'' he=>⟨keep u,by rw[←Act.put_comm a v u h2];exact he⟩
  | halt x w' =>
   cases x <;> simp only[Oper.upon] at h ⊢
   case panic u=>exact hQ _ _ _ h
 ·simp only[hw,Bool.false_eq_true,if_false] at h ⊢
  exact⟨keep _,by rw[←Act.put_comm a v undef h2];exact h⟩
theorem CP(hrefl:∀ a,R a a)(ht:∀ a b c,R a b→R b c→R a c){i:Nat}{oi:Oper}{v:Value}(hi:ops[i]?=some oi)(hsel:∀ (j:Nat) (o:Oper) cs b,ops[j]?=some o→o.op≠.select cs b)
  (hQ:∀ c a w,Q (.panic c) (a.put oi.dst v) w→Q (.panic c) a w) (hit:i≠t) (hn:ops.size≤t∨needs md ops i ops.size t=true):∀ (fuel:Nat) (listed:Array Bool) (a:Act) (w:World),Cl md ops listed →
   (∀ j oj,ops[j]?=some oj→j≠i→listed.getD j true=false→(∀ e∈oj.after,Region.binds md e=true→e.on≠i)→oi.apart ops oj=true) →
   i∈Region.ready md ops listed→Gives P ops R oi v a w →
   jI P md ops Q R t fuel (listed.setIfInBounds i true) (a.put oi.dst v) w→jI P md ops Q R t (fuel+1) listed a w:=by
 intro fuel
 induction fuel with
 | zero =>
  intro listed a w _ _ hr hy H w1 hw1
  refine⟨fun h=>(by rw[h] at hr;cases hr),fun j hj=>?_⟩
  by_cases hji:j=i
  ·subst hji
   exact hy.wpOp hrefl hi hw1 fun w2 h2=>⟨fun _=>h2,fun w3 h3=>H w3 (ht _ _ _ hw1 (ht _ _ _ h2 h3))⟩
  ·have:=ready_mono hj hji
   rw[(H w (hrefl _)).1] at this
   cases this
 | succ fuel ih =>
  intro listed a w hcl hfree hr hy H w1 hw1
  refine⟨fun h=>(by rw[h] at hr;cases hr),fun j hj=>?_⟩
  by_cases hji:j=i
  ·subst hji
   exact hy.wpOp hrefl hi hw1 fun w2 h2=>⟨fun _=>h2,jI.later ht H (ht _ _ _ hw1 h2)⟩
  ·have h1:=(H w1 hw1).2 j (ready_mono hj hji)
   obtain⟨hjun,oj,hoj,hall⟩:=mem_ready.1 hj
   have hjt:j≠t:=fun h=>by
    subst h
    rcases hn with hn | hn
    ·have:=(Array.getElem?_eq_some_iff.1 hoj).1;omega
    ·have h5:=xE hcl _ _ _ hoj hall hn
     have h6:=(mem_ready.1 hr).1
     rcases Nat.lt_or_ge i listed.size with h' | h'
     ·simp[h'] at h5 h6;rw[h6] at h5;cases h5
     ·simp[Array.getElem?_eq_none h'] at h5
   have hnot:∀ e∈oj.after,Region.binds md e=true→e.on≠i:=fun e he hb heq=>by
    have h1:=hall e he hb
    have h0:=(mem_ready.1 hr).1
    rw[heq] at h1
    rcases Nat.lt_or_ge i listed.size with h' | h'
    ·simp[h'] at h0 h1;rw[h0] at h1;cases h1
    ·simp[Array.getElem?_eq_none h'] at h1
   have h2:=KE (R:=R) hoj (hfree j oj hoj hji hjun hnot) (fun cs b=>hsel i oi cs b hi) (fun cs b=>hsel j oj cs b hoj) hQ h1
   have hfree':∀ k ok,ops[k]?=some ok→k≠i→(listed.setIfInBounds j true).getD k true=false →
     (∀ e∈ok.after,Region.binds md e=true→e.on≠i)→oi.apart ops ok=true:=fun k ok hk hki hun hno=>by
    refine hfree k ok hk hki ?_ hno
    by_cases hjk:j=k
    ·subst hjk;exact hjun
    ·rw[getD_set_ne true hjk] at hun;exact hun
   refine wpOp_mono (fun a' w' h3=>⟨h3.2.1,ih (listed.setIfInBounds j true) a' w' (hcl.step hj) hfree' (ready_mono hr (Ne.symm hji)) (h3.1 _ (hy.later ht (ht _ _ _ hw1 (h3.2.1 hjt)))) ?_⟩) h2
   rw[Array.setIfInBounds_comm _ _ hji]
   exact h3.2.2
end
def Later(w w':World):Prop:=Below w.heap.size w w'
theorem Later.refl(w:World):Later w w:=Below.refl _ _
theorem Later.trans(a b c:World)(h:Later a b)(k:Later b c):Later a c:=Below.trans h (Below.mono k h.size)
class iT (R:World→World→Prop):Prop where
 refl:∀ a,R a a
 trans:∀ a b c,R a b→R b c→R a c
 later:∀ a b,Later a b→R a b
instance aiN:iT Later:=⟨Later.refl,Later.trans,fun _ _ h=>h⟩
section
variable {P:Program} {ops:Array Oper} {Q:Exit→Act→World→Prop} {md:Region.Mode} {t:Nat} {R:World→World→Prop}
theorem JG{listed:Array Bool}{i:Nat}(hc:(qX md ops listed&&(decide (ops.size≤t)||needs md ops i ops.size t)&&decide (i≠t))=true):i≠t:=by
 simp only[Bool.and_eq_true,decide_eq_true_eq] at hc;exact hc.2
theorem AP{listed:Array Bool}{i:Nat}(hc:(qX md ops listed&&(decide (ops.size≤t)||needs md ops i ops.size t)&&decide (i≠t))=true):ops.size≤t∨needs md ops i ops.size t=true:=by
 simp only[Bool.and_eq_true,Bool.or_eq_true,decide_eq_true_eq] at hc;exact hc.1.2
theorem JH{listed:Array Bool}{i:Nat}(hc:(qX md ops listed&&(decide (ops.size≤t)||needs md ops i ops.size t)&&decide (i≠t))=true):Cl md ops listed:=by
 simp only[Bool.and_eq_true] at hc;exact Cl.ofB hc.1.1
theorem FZ[hR:iT R]{i:Nat}{oi:Oper}{v:Value}{fuel:Nat}{listed:Array Bool}{a:Act}{w:World}(hi:ops[i]?=some oi)
  (hs:Region.noSelect ops=true) (hf:Region.free md ops listed i=true) (hr:(Region.ready md ops listed).contains i=true) (hc:(qX md ops listed&&(decide (ops.size≤t)||needs md ops i ops.size t)&&decide (i≠t))=true)
  (hQ:∀ c a w,Q (.panic c) (a.put oi.dst v) w→Q (.panic c) a w) (hw:Region.wanted oi (yielded ops a.tmps)=true) (hy:∀ w1,R w w1→(execOp a.eval oi).run P w1=.ok (.value v) w1)
  (h:jI P md ops Q R t fuel (listed.setIfInBounds i true) (a.put oi.dst v) w):jI P md ops Q R t (fuel+1) listed a w :=
 CP hR.refl hR.trans hi (Region.noSelect_spec hs) hQ (JG hc) (AP hc) fuel listed a w (JH hc) (Region.free_spec hi hf) (by simpa using hr) (.inl ⟨hw,fun w1 h1=>.inl (hy w1 h1)⟩) h
theorem YM[hR:iT R]{i:Nat}{oi:Oper}{fuel:Nat}{listed:Array Bool}{a:Act}{w:World}(hi:ops[i]?=some oi)
  (hs:Region.noSelect ops=true) (hf:Region.free md ops listed i=true) (hr:(Region.ready md ops listed).contains i=true) (hc:(qX md ops listed&&(decide (ops.size≤t)||needs md ops i ops.size t)&&decide (i≠t))=true)
  (hQ:∀ c a w,Q (.panic c) (a.put oi.dst undef) w→Q (.panic c) a w) (hw:Region.wanted oi (yielded ops a.tmps)=false)
  (h:jI P md ops Q R t fuel (listed.setIfInBounds i true) (a.put oi.dst undef) w):jI P md ops Q R t (fuel+1) listed a w :=
 CP hR.refl hR.trans hi (Region.noSelect_spec hs) hQ (JG hc) (AP hc) fuel listed a w (JH hc) (Region.free_spec hi hf) (by simpa using hr) (.inr ⟨hw,rfl⟩) h
theorem YN[hR:iT R]{i:Nat}{oi:Oper}{v:Value}{fuel:Nat}{listed:Array Bool}{a:Act}{w:World}{f:FuncId}{args:Array Value}(hi:ops[i]?=some oi)
  (hs:Region.noSelect ops=true) (hf:Region.free md ops listed i=true) (hr:(Region.ready md ops listed).contains i=true) (hc:(qX md ops listed&&(decide (ops.size≤t)||needs md ops i ops.size t)&&decide (i≠t))=true)
  (hQ:∀ c a w,Q (.panic c) (a.put oi.dst v) w→Q (.panic c) a w) (hw:Region.wanted oi (yielded ops a.tmps)=true) (he:∀ w1,(execOp a.eval oi).run P w1=.ok (.enter f args) w1)
  (hy:∀ w1,R w w1→Calls P f args w1 (bV w1 v))
  (h:jI P md ops Q R t fuel (listed.setIfInBounds i true) (a.put oi.dst v) w):jI P md ops Q R t (fuel+1) listed a w :=
 CP hR.refl hR.trans hi (Region.noSelect_spec hs) hQ (JG hc) (AP hc) fuel listed a w (JH hc) (Region.free_spec hi hf) (by simpa using hr) (.inl ⟨hw,fun w1 h1=>.inr ⟨f,args,he w1,(hy w1 h1).mono fun _ _ k=>⟨k.1,hR.later _ _ k.2⟩⟩⟩) h
theorem aQ{i:Nat}{oi:Oper}{fuel:Nat}{listed:Array Bool}{a:Act}{w:World}(hr:Region.ready md ops listed=[i])(hi:ops[i]?=some oi)
  (h:∀ w1,R w w1→∀ K:Act→World→Prop,Shut (∀ a' w',(i≠t→R w1 w')→jI P md ops Q R t fuel (listed.setIfInBounds i true) a' w'→K a' w')→if Region.wanted oi (yielded ops a.tmps)=true then Oper.wp P oi a w1 K Q else K (a.put oi.dst undef) w1) :
  jI P md ops Q R t (fuel+1) listed a w:=fun w1 h1=>by
 refine⟨fun h0=>(by rw[hr] at h0;cases h0),fun j hj=>?_⟩
 rw[hr,List.mem_singleton] at hj
 subst hj
 exact wpOp_step hi (fun K' hK=>h w1 h1 K' (fun a' w' k1 k2=>hK a' w' ⟨k1,k2⟩))
theorem Eu{i j:Nat}{oi oj:Oper}{fuel:Nat}{listed:Array Bool}{a:Act}{w:World}(hr:Region.ready md ops listed=[i,j])(hi:ops[i]?=some oi)(hj:ops[j]?=some oj)
  (h1:∀ w1,R w w1→∀ K:Act→World→Prop,Shut (∀ a' w',(i≠t→R w1 w')→jI P md ops Q R t fuel (listed.setIfInBounds i true) a' w'→K a' w')→if Region.wanted oi (yielded ops a.tmps)=true then Oper.wp P oi a w1 K Q else K (a.put oi.dst undef) w1)
  (h2:∀ w1,R w w1→∀ K:Act→World→Prop,Shut (∀ a' w',(j≠t→R w1 w')→jI P md ops Q R t fuel (listed.setIfInBounds j true) a' w'→K a' w')→if Region.wanted oj (yielded ops a.tmps)=true then Oper.wp P oj a w1 K Q else K (a.put oj.dst undef) w1) :
  jI P md ops Q R t (fuel+1) listed a w:=fun w1 hw1=>by
 refine⟨fun h0=>(by rw[hr] at h0;cases h0),fun k hk=>?_⟩
 rw[hr,List.mem_cons,List.mem_singleton] at hk
 rcases hk with rfl | rfl
 ·exact wpOp_step hi (fun K' hK=>h1 w1 hw1 K' (fun a' w' k1 k2=>hK a' w' ⟨k1,k2⟩))
 ·exact wpOp_step hj (fun K' hK=>h2 w1 hw1 K' (fun a' w' k1 k2=>hK a' w' ⟨k1,k2⟩))
theorem bC{listed:Array Bool}{a:Act}{w:World}(hr:Region.ready md ops listed=[])(h:∀ w1,R w w1→Q .normal a w1):∀ fuel,jI P md ops Q R t fuel listed a w
 | 0=>fun w1 h1=>⟨hr,h w1 h1⟩
 | _+1=>fun w1 h1=>⟨fun _=>h w1 h1,by rw[hr];simp⟩
theorem aW[hR:iT R](t:Nat){id:Nat}{a:Act}{w:World}(hm:P.follows .mixedOrders=true)
  (h:jI P .any ops Q R t ops.size (Array.replicate ops.size false) a w.drew):(Code.region id ops true).wp P Q a w :=
 wp_region_any hm (Hl hR.refl _ _ _ _ h)
theorem kP[hR:iT R](i:Nat){oi:Oper}(v:Value){fuel:Nat}{listed:Array Bool}{a:Act}{w:World}(hi:ops[i]?=some oi)(hy:∀ w1,R w w1→(execOp a.eval oi).run P w1=.ok (.value v) w1)
  (h:jI P md ops Q R t fuel (listed.setIfInBounds i true) (a.put oi.dst v) w) (hw:Region.wanted oi (yielded ops a.tmps)=true:=by rfl)
  (hc:(Region.noSelect ops&&(Region.free md ops listed i&&((Region.ready md ops listed).contains i&&(qX md ops listed&&(decide (ops.size≤t)||needs md ops i ops.size t)&&decide (i≠t)))))=true:=by kernel_rfl)
  (hQ:∀ c a w,Q (.panic c) (a.put oi.dst v) w→Q (.panic c) a w:=by exact fun _ _ _ h=>h):jI P md ops Q R t (fuel+1) listed a w:=by
 rw[Bool.and_eq_true,Bool.and_eq_true,Bool.and_eq_true] at hc
 exact FZ hi hc.1 hc.2.1 hc.2.2.1 hc.2.2.2 hQ hw hy h
theorem oq[hR:iT R](i:Nat){oi:Oper}{fuel:Nat}{listed:Array Bool}{a:Act}{w:World}(hi:ops[i]?=some oi)
  (h:jI P md ops Q R t fuel (listed.setIfInBounds i true) (a.put oi.dst undef) w) (hw:Region.wanted oi (yielded ops a.tmps)=false:=by rfl)
  (hc:(Region.noSelect ops&&(Region.free md ops listed i&&((Region.ready md ops listed).contains i&&(qX md ops listed&&(decide (ops.size≤t)||needs md ops i ops.size t)&&decide (i≠t)))))=true:=by kernel_rfl)
  (hQ:∀ c a w,Q (.panic c) (a.put oi.dst undef) w→Q (.panic c) a w:=by exact fun _ _ _ h=>h):jI P md ops Q R t (fuel+1) listed a w:=by
 rw[Bool.and_eq_true,Bool.and_eq_true,Bool.and_eq_true] at hc
 exact YM hi hc.1 hc.2.1 hc.2.2.1 hc.2.2.2 hQ hw h
def Pl(_:List Nat)(p:Prop):Prop:=p
theorem pl(l:List Nat){p:Prop}(h:Pl l p):p:=h
theorem eX{p:Prop}(h:p):Pl [] p:=h
theorem jW[hR:iT R]{i:Nat}{l:List Nat}{oi:Oper}(v:Value){fuel:Nat}{listed:Array Bool}{a:Act}{w:World}(hi:ops[i]?=some oi)(hy:∀ w1,R w w1→(execOp a.eval oi).run P w1=.ok (.value v) w1)
  (h:Pl l (jI P md ops Q R t fuel (listed.setIfInBounds i true) (a.put oi.dst v) w)) (hw:Region.wanted oi (yielded ops a.tmps)=true:=by rfl)
  (hc:(Region.noSelect ops&&(Region.free md ops listed i&&((Region.ready md ops listed).contains i&&(qX md ops listed&&(decide (ops.size≤t)||needs md ops i ops.size t)&&decide (i≠t)))))=true:=by kernel_rfl)
  (hQ:∀ c a w,Q (.panic c) (a.put oi.dst v) w→Q (.panic c) a w:=by exact fun _ _ _ h=>h):Pl (i::l) (jI P md ops Q R t (fuel+1) listed a w) :=
 kP i v hi hy h hw hc hQ
theorem clM[hR:iT R](i:Nat){oi:Oper}(f:FuncId)(args:Array Value)(v:Value){fuel:Nat}{listed:Array Bool}{a:Act}{w:World}(hi:ops[i]?=some oi)
  (he:∀ w1,(execOp a.eval oi).run P w1=.ok (.enter f args) w1) (hy:∀ w1,R w w1→Calls P f args w1 (bV w1 v))
  (h:jI P md ops Q R t fuel (listed.setIfInBounds i true) (a.put oi.dst v) w) (hw:Region.wanted oi (yielded ops a.tmps)=true:=by rfl)
  (hc:(Region.noSelect ops&&(Region.free md ops listed i&&((Region.ready md ops listed).contains i&&(qX md ops listed&&(decide (ops.size≤t)||needs md ops i ops.size t)&&decide (i≠t)))))=true:=by kernel_rfl)
  (hQ:∀ c a w,Q (.panic c) (a.put oi.dst v) w→Q (.panic c) a w:=by exact fun _ _ _ h=>h):jI P md ops Q R t (fuel+1) listed a w:=by
 rw[Bool.and_eq_true,Bool.and_eq_true,Bool.and_eq_true] at hc
 exact YN hi hc.1 hc.2.1 hc.2.2.1 hc.2.2.2 hQ hw he hy h
theorem eA{α:Type}{l:List α}{i:Nat}(h:i<l.toArray.size):l.toArray[i]=l[i]'(by simpa using h):=List.getElem_toArray h
theorem eB{α:Type}{a:α}{l:List α}(w:0<(a::l).length):(a::l)[0]=a:=rfl
theorem eC{α:Type}{a:α}{l:List α}{i:Nat}(w:i+1<(a::l).length):(a::l)[i+1]=l[i]'(Nat.lt_of_succ_lt_succ w):=rfl
theorem eD{α:Type}{l:List α}{i:Nat}{a:α}:l.toArray.setIfInBounds i a=(l.set i a).toArray:=List.setIfInBounds_toArray l i a
theorem eE{α:Type}{a b:α}{l:List α}:(a::l).set 0 b=b::l:=List.set_cons_zero
theorem eF{α:Type}{a b:α}{l:List α}{n:Nat}:(a::l).set (n+1) b=a::l.set n b:=List.set_cons_succ
end
attribute [irreducible] Pl
end
end Go.Proofs.YtbemonecmmnlcaaGreatDoor
