/- The texts of N1, in few letters (mini.py). -/
import Derived.Handy
import Derived.BigQuiet
import Derived.WalkLawsBesides
import Derived.WalkSpells
import Derived.Lib.Hide
import Derived.Deep.RegionHeld3
import Derived.Deep.WholeRow
import Derived.StillTailTactics
set_option linter.unusedVariables false
set_option linter.unusedSimpArgs false
namespace Go.Proofs.YtengfapcaaacaaaGreatDoor
theorem ah{p:Prop}(h:p):Go.RowKit.Hid p:=h
end Go.Proofs.YtengfapcaaacaaaGreatDoor
namespace Go.Proofs.YtengfapcaaacaaaGreatDoor
section
open Go.RowKit
def Box(w:World)(b:Nat)(c:Array Value)(E:Nat):Prop:=w.heap[b]?=some (.cells c E (0,0))
theorem Box.lt{w:World}{b E:Nat}{c:Array Value}(h:Box w b c E):b<w.heap.size:=(Array.getElem?_eq_some_iff.1 h).1
theorem Box.cell{w:World}{b E:Nat}{c:Array Value}(h:Box w b c E)(i:Nat):w.cell? ⟨b,i,none⟩=c[i]?:=cell_of_row w b i c E (0,0) h
theorem Box.free{w:World}{b E:Nat}{c:Array Value}(h:Box w b c E)(i:Nat):w.frozen? ⟨b,i,none⟩=false:=by simp[World.frozen?,show w.heap[b]?=_ from h]
theorem Box.set{w:World}{b E:Nat}{c:Array Value}(h:Box w b c E)(i:Nat)(v:Value):Box (w.setCell ⟨b,i,none⟩ v) b (c.setIfInBounds i v) E:=heap_setCell_same w b i c E v h
theorem Box.other{w:World}{b E:Nat}{c:Array Value}(h:Box w b c E)(a:Addr)(v:Value)(hne:b≠a.block):Box (w.setCell a v) b c E:=(heap_setCell_other w a b v hne).trans h
theorem Box.alloc{w:World}{b E:Nat}{c:Array Value}(h:Box w b c E)(o:Obj):Box (w.alloc o) b c E:=(Below.heap_alloc w o b h.lt).trans h
theorem Box.new(w:World)(c:Array Value)(E:Nat):Box (w.alloc (.cells c E)) w.heap.size c E:=heap_alloc_new w _
theorem Box.new'{w:World}{b:Nat}(h:b=w.heap.size)(c:Array Value)(E:Nat):Box (w.alloc (.cells c E)) b c E:=h▸Box.new w c E
theorem Box.drew{w:World}{b E:Nat}{c:Array Value}(h:Box w b c E):Box w.drew b c E:=h
theorem Box.drewN{w:World}{b E n:Nat}{c:Array Value}(h:Box w b c E):Box (w.drewN n) b c E:=h
theorem Box.below{w w':World}{B b E:Nat}{c:Array Value}(h:Box w b c E)(hb:Below B w w')(hlt:b<B):Box w' b c E:=(hb.block b hlt).trans h
theorem Box.kept{w w':World}{b E:Nat}{c:Array Value}(h:Box w b c E)(hb:Below w.heap.size w w'):Box w' b c E:=h.below hb h.lt
theorem Box.setRow{w:World}{b E:Nat}{c:Array Value}(h:Box w b c E)(c':Array Value):Box (w.setRow b c') b c' E:=setRow_heap w b c c' E (0,0) h
theorem Box.setRow_other{w:World}{b E g:Nat}{c:Array Value}(h:Box w b c E)(c':Array Value)(hne:b≠g):Box (w.setRow g c') b c E:=by
 unfold Box;rw[Go.setRow_other w g b c' hne];exact h
theorem Box.turn{w w':World}{b E m:Nat}{c:Array Value}(h:Box w b c E)(ho:∀ i,i≠m→w'.heap[i]?=w.heap[i]?)(hne:b≠m):Box w' b c E:=(ho b hne).trans h
theorem below_setRow{B:Nat}{a w:World}(h:Below B a w){g:Nat}(hg:B≤g)(c:Array Value):Below B a (w.setRow g c) :=
 h.trans ⟨rfl,rfl,rfl,by simp,fun k hk=>setRow_other w g k c (by omega)⟩
theorem Box.eG{w:World}{b E:Nat}{c:Array Value}(h:Box w b c E)(hc:c.size=4)(v0 v1 v2 v3:Value) :
  Box ((((w.setCell ⟨b,0,none⟩ v0).setCell ⟨b,1,none⟩ v1).setCell ⟨b,2,none⟩ v2).setCell ⟨b,3,none⟩ v3) b #[v0,v1,v2,v3] E:=by
 have:=(((h.set 0 v0).set 1 v1).set 2 v2).set 3 v3
 have e:(((c.setIfInBounds 0 v0).setIfInBounds 1 v1).setIfInBounds 2 v2).setIfInBounds 3 v3=#[v0,v1,v2,v3]:=by
  obtain⟨l⟩:=c
  match l,hc with
  | [_,_,_,_],_=>rfl
 rw[e] at this;exact this
theorem Box.C9{w:World}{b b' E:Nat}{c:Array Value}(h:Box w b c E)(hne:b≠b')(v0 v1 v2 v3:Value) :
  Box ((((w.setCell ⟨b',0,none⟩ v0).setCell ⟨b',1,none⟩ v1).setCell ⟨b',2,none⟩ v2).setCell ⟨b',3,none⟩ v3) b c E :=
 (((h.other _ _ hne).other _ _ hne).other _ _ hne).other _ _ hne
theorem cZ{P:Program}{fn:Func}{R:Ending→World→Prop}{a:Act}{w:World}{p:Tmp}{ty b E:Nat}{cs:Array Value}{d:TypeDesc}
  (hr:fn.results=#[.cell p ty]) (hp:a.tmps.getD p undef=.pointer (some ⟨b,0,none⟩)) (hb:Box w b cs E)
  (hu:P.underlying ty=some d) (hd:(match d with | .struct _ | .array _ _=>true | _=>false)=true) (hi:(P.info? ty).map (·.size)=some cs.size)
  (hdf:a.defers=[]) (hR:R (.returned (.agg cs)) w):bodyPost P fn R .ret a w :=
 ⟨hdf,_,results_cell_row hr a.tmps w b E cs (0,0) d hp hb hu hd hi,hR⟩
theorem fP{P:Program}{fn:Func}{R:Ending→World→Prop}{a:Act}{w:World}{p u:Tmp}{ty b E:Nat}{cs:Array Value}{d:TypeDesc}{v:Value}
  (hr:fn.results=#[.cell p ty,.tmp u]) (hp:a.tmps.getD p undef=.pointer (some ⟨b,0,none⟩)) (hv:a.tmps.getD u undef=v) (hb:Box w b cs E)
  (hu:P.underlying ty=some d) (hd:(match d with | .struct _ | .array _ _=>true | _=>false)=true) (hi:(P.info? ty).map (·.size)=some cs.size)
  (hdf:a.defers=[]) (hR:R (.returned (.tuple #[.agg cs,v])) w):bodyPost P fn R .ret a w :=
 ⟨hdf,_,by
  have hp':a.tmps[p]?.getD undef=.pointer (some ⟨b,0,none⟩):=by simpa using hp
  have hv':a.tmps[u]?.getD undef=v:=by simpa using hv
  simp[results,hr,hp',hv',asAddr,run_loadVar_row w b E ty cs (0,0) d hb hu hd hi],hR⟩
def aY(w:World)(v:Value)(e:Ending)(w':World):Prop:=e=.returned v∧Below w.heap.size w w'
def ak{α:Type}(w:World)(v:Value)(size:Nat)(enc:α→List Value)(xs:List α):Prop :=
 ∃ (a:Option Addr) (b o cap:Nat),v=.slice a xs.length cap∧xs.length≤cap∧cap≤maxLen∧(a=some ⟨b,o,none⟩∨(xs=[]∧(a=none→cap=0) )) ∧
  ∀ i (h:i<xs.length),∀ j u,(enc xs[i])[j]?=some u→w.cell? ⟨b,o+i*size+j,none⟩=some u
theorem ak.open{α:Type}{w:World}{a:Option Addr}{n cap size:Nat}{enc:α→List Value}{xs:List α}(h:ak w (.slice a n cap) size enc xs) :
  ∃ b o,n=xs.length∧xs.length≤cap∧cap≤9223372036854775807∧(∀ i,i<xs.length→a=some ⟨b,o,none⟩) ∧
   ∀ i (h:i<xs.length),∀ j u,(enc xs[i])[j]?=some u→w.cell? ⟨b,o+i*size+j,none⟩=some u:=by
 obtain⟨a',b,o,cap',hv,hl,hc,ha,hx⟩:=h
 obtain⟨rfl,rfl,rfl⟩:=Value.slice.inj hv
 refine⟨b,o,rfl,hl,hc,fun i hi=>?_,hx⟩
 rcases ha with ha | ⟨rfl,_⟩
 ·exact ha
 ·simp at hi
theorem ak.kept{α:Type}{w w':World}{v:Value}{size:Nat}{enc:α→List Value}{xs:List α}(h:ak w v size enc xs)(hb:Below w.heap.size w w'):ak w' v size enc xs:=by
 obtain⟨a',b,o,cap',hv,hl,hc,ha,hx⟩:=h
 exact⟨a',b,o,cap',hv,hl,hc,ha,fun i hi j u hu=>by have:=hx i hi j u hu;rw[hb.cell (World.block_lt_of_cell? w _ this)];exact this⟩
abbrev au:=BitVec 256
def word(s:au)(i:Nat):Nat:=s.toNat / 2 ^ (64*i) % 2 ^ 64
def mem(s:au)(b:Nat):Bool:=s.getLsbD b
abbrev bT(s:au):Array Value:=#[.int .u64 (word s 0:Nat),.int .u64 (word s 1:Nat),.int .u64 (word s 2:Nat),.int .u64 (word s 3:Nat)]
abbrev iK(s:au):Value:=.agg (bT s)
theorem word_lt(s:au)(i:Nat):word s i<2 ^ 64:=Nat.mod_lt _ (by decide)
theorem gq(s:au)(i j:Nat):(word s i).testBit j=(decide (j<64)&&mem s (64*i+j)):=by
 unfold word mem
 rw[Nat.testBit_mod_two_pow,Nat.testBit_div_two_pow,BitVec.getLsbD]
 rw[Nat.add_comm]
theorem DK(s:au)(b:Nat):mem s b=(word s (b / 64)).testBit (b % 64):=by
 rw[gq];have:b % 64<64:=Nat.mod_lt _ (by decide)
 simp[this,Nat.div_add_mod]
theorem rU{s t:au}(h:∀ b,b<256→mem s b=mem t b):s=t:=BitVec.eq_of_getLsbD_eq h
theorem yu(s:au)(i:Nat)(h:i<4):[Value.int .u64 (word s 0:Nat),Value.int .u64 (word s 1:Nat),Value.int .u64 (word s 2:Nat),Value.int .u64 (word s 3:Nat)][i]?=some (.int .u64 (word s i:Nat)):=by
 match i,h with
 | 0,_=>rfl
 | 1,_=>rfl
 | 2,_=>rfl
 | 3,_=>rfl
theorem Box.agr{w:World}{b E i:Nat}{s:au}(h:Box w b (bT s) E)(hi:i<4):w.cell? ⟨b,i,none⟩=some (.int .u64 (word s i:Nat)):=by
 rw[h.cell];simpa using yu s i hi
def zI(a b c d:Nat):au:=BitVec.ofNat 256 (a % 2 ^ 64+2 ^ 64*(b % 2 ^ 64)+2 ^ 128*(c % 2 ^ 64)+2 ^ 192*(d % 2 ^ 64))
theorem Qk(a b c d:Nat):word (zI a b c d) 0=a % 2 ^ 64∧word (zI a b c d) 1=b % 2 ^ 64∧word (zI a b c d) 2=c % 2 ^ 64∧word (zI a b c d) 3=d % 2 ^ 64:=by
 unfold word zI
 simp only[BitVec.toNat_ofNat]
 refine⟨?_,?_,?_,?_⟩ <;> omega
theorem qK(i:Nat):word 0 i=0:=by unfold word;simp
theorem gG:bT 0=#[.int .u64 0,.int .u64 0,.int .u64 0,.int .u64 0]:=by simp only[bT,qK];rfl
theorem Box.jv{w:World}{b E:Nat}{s:au}(h:Box w b (bT s) E) :
  (w.cell? ⟨b,0,none⟩=some (.int .u64 (word s 0:Nat))∧w.cell? ⟨b,1,none⟩=some (.int .u64 (word s 1:Nat))∧w.cell? ⟨b,2,none⟩=some (.int .u64 (word s 2:Nat))∧w.cell? ⟨b,3,none⟩=some (.int .u64 (word s 3:Nat))) ∧
  (w.frozen? ⟨b,0,none⟩=false∧w.frozen? ⟨b,1,none⟩=false∧w.frozen? ⟨b,2,none⟩=false∧w.frozen? ⟨b,3,none⟩=false) :=
 ⟨⟨h.cell 0,h.cell 1,h.cell 2,h.cell 3⟩,⟨h.free 0,h.free 1,h.free 2,h.free 3⟩⟩
theorem word_inj{s t:au}(h:∀ i,i<4→word s i=word t i):s=t:=by
 refine rU fun b hb=>?_
 rw[DK,DK,h (b / 64) (by omega)]
theorem J5(s t:au)(b:Nat):mem (s ||| t) b=(mem s b||mem t b):=BitVec.getLsbD_or
theorem afs(s:au)(b:Nat)(h:b<256):mem (~~~s) b=!mem s b:=by simp[mem,h]
theorem aft(s t:au)(i:Nat):word (s ||| t) i=word s i ||| word t i:=by
 refine Nat.eq_of_testBit_eq fun j=>?_
 rw[Nat.testBit_or,gq,gq,gq,J5]
 cases decide (j<64) <;> simp
theorem abx(s:au)(i:Nat)(hi:i<4):word (~~~s) i=18446744073709551615 - word s i:=by
 refine Nat.eq_of_testBit_eq fun j=>?_
 have hs:word s i<2 ^ 64:=word_lt s i
 have e:(18446744073709551615 - word s i).testBit j=(decide (j<64)&&!(word s i).testBit j):=by
  have:=Nat.testBit_two_pow_sub_succ hs j
  rw[show 18446744073709551615 - word s i=2 ^ 64 - (word s i+1) by omega];exact this
 rw[e,gq,gq]
 by_cases hj:j<64
 ·simp[hj,afs s (64*i+j) (by omega)]
 ·simp[hj]
def one(b:Nat):au:=BitVec.ofNat 256 (2 ^ b)
theorem afu(b c:Nat)(hb:b<256):mem (one b) c=decide (b=c):=by
 unfold mem one
 rw[BitVec.getLsbD_ofNat,Nat.testBit_two_pow]
 by_cases h:b=c
 ·subst h;simp[hb]
 ·simp[h]
def nP(s:au)(b:Nat):au:=s ||| one b
theorem E5(s:au)(b c:Nat)(hb:b<256):mem (nP s b) c=(mem s c||decide (b=c)):=by
 unfold nP;rw[J5,afu b c hb]
theorem zq(s:au)(b i:Nat)(hb:b<256):word (nP s b) i=if i=b / 64 then word s i ||| 2 ^ (b % 64) else word s i:=by
 refine Nat.eq_of_testBit_eq fun j=>?_
 have key:(word (nP s b) i).testBit j=(decide (j<64)&&(mem s (64*i+j)||decide (b=64*i+j))):=by rw[gq,E5 _ _ _ hb]
 rw[key]
 split
 ·rename_i h;rw[Nat.testBit_or,gq,Nat.testBit_two_pow]
  by_cases hj:j<64
  ·have:decide (b=64*i+j)=decide (b % 64=j):=by rw[decide_eq_decide];omega
   simp[hj,this]
  ·simp[hj];omega
 ·rename_i h;rw[gq]
  by_cases hj:j<64
  ·have:¬ b=64*i+j:=by omega
   simp[this]
  ·simp[hj]
theorem J6(s:au)(b:Nat)(hb:b<256):(bT s).setIfInBounds (b / 64) (.int .u64 ((word s (b / 64) ||| 2 ^ (b % 64):Nat):Int))=bT (nP s b):=by
 have e0:=zq s b 0 hb;have e1:=zq s b 1 hb;have e2:=zq s b 2 hb;have e3:=zq s b 3 hb
 have hlt:b / 64<4:=by omega
 generalize 2 ^ (b % 64)=z at *
 generalize b / 64=q at *
 unfold bT
 rw[e0,e1,e2,e3]
 match q,hlt with
 | 0,_=>rfl
 | 1,_=>rfl
 | 2,_=>rfl
 | 3,_=>rfl
theorem zN(n:Nat)(hn:n<64):(2 ^ n:Nat)<18446744073709551616:=Nat.pow_lt_pow_right (by decide) hn
theorem wrap_two_pow(n:Nat)(hn:n<64):IntKind.u64.wrap (2 ^ n)=((2 ^ n:Nat):Int):=by
 have:=zN n hn
 rw[IntKind.wrap_u64,show(2:Int) ^ n=((2 ^ n:Nat):Int) by simp]
 exact Int.emod_eq_of_lt (Int.natCast_nonneg _) (Int.ofNat_lt.2 this)
theorem or_bit(a n:Nat)(ha:a<2 ^ 64)(hn:n<64):bits BinOp.or IntKind.u64 (a:Int) (IntKind.u64.wrap (2 ^ n))=((a ||| 2 ^ n:Nat):Int):=by
 rw[wrap_two_pow n hn];exact u64_or_nat a (2 ^ n) (by omega) (zN n hn)
theorem and_one(a n:Nat)(ha:a<2 ^ 64):(bits BinOp.and IntKind.u64 ((a:Int) / 2 ^ n) 1==1)=a.testBit n:=by
 have e:(a:Int) / 2 ^ n=((a / 2 ^ n:Nat):Int):=by simp
 have h:a / 2 ^ n<18446744073709551616:=Nat.lt_of_le_of_lt (Nat.div_le_self _ _) (by omega)
 rw[e,show(1:Int)=((1:Nat):Int) from rfl,u64_and_nat _ 1 h (by decide),nat_mask1,Nat.testBit_eq_decide_div_mod_eq]
 rw[Bool.eq_iff_iff]
 simp only[beq_iff_eq,decide_eq_true_eq]
 omega
def nM(l:List Nat):au:=l.foldl nP 0
theorem aby(l:List Nat)(b:Nat):nM (l++[b])=nP (nM l) b:=by unfold nM;rw[List.foldl_append];rfl
theorem zO(b:Nat):mem 0 b=false:=BitVec.getLsbD_zero
theorem J7(l:List Nat)(s:au)(c:Nat)(hl:∀ x∈l,x<256):mem (l.foldl nP s) c=(mem s c||decide (c∈l)):=by
 induction l generalizing s with
 | nil=>simp
 | cons a l ih =>
  rw[List.foldl_cons,ih _ (fun x hx=>hl x (by simp[hx])),E5 _ _ _ (hl a (by simp))]
  by_cases h:a=c
  ·subst h;simp
  ·have h2:¬ c=a:=fun e=>h e.symm
   simp[h,h2]
theorem Vk(l:List Nat)(c:Nat)(hl:∀ x∈l,x<256):mem (nM l) c=decide (c∈l):=by
 unfold nM;rw[J7 l 0 c hl,zO];simp
def nX(p:Nat→Bool):au:=nM ((List.range 256).filter p)
theorem pO(p:Nat→Bool)(b:Nat):mem (nX p) b=(decide (b<256)&&p b):=by
 unfold nX
 rw[Vk _ _ (fun x hx=>by simp at hx;exact hx.1),Bool.eq_iff_iff]
 simp
theorem AX{p q:Nat→Bool}(h:∀ b,b<256→p b=q b):nX p=nX q :=
 rU fun b hb=>by rw[pO,pO,h b hb]
theorem Ql(s:au)(p:Nat→Bool)(h:∀ b,b<256→mem s b=p b):s=nX p :=
 rU fun b hb=>by rw[pO,h b hb];simp[hb]
theorem YE(p:Nat→Bool)(b:Nat)(hb:b<256):nP (nX p) b=nX (fun c=>p c||decide (b=c)) :=
 rU fun c hc=>by rw[E5 _ _ _ hb,pO,pO];simp[hc]
theorem Qm(s t:au)(k:Nat)(hk:k<4)(h:∀ j,j<4→j≠k→word s j=word t j):(bT s).setIfInBounds k (.int .u64 (word t k:Nat))=bT t:=by
 have h0:=h 0;have h1:=h 1;have h2:=h 2;have h3:=h 3
 unfold bT
 match k,hk with
 | 0,_=>rw[h1 (by decide) (by decide),h2 (by decide) (by decide),h3 (by decide) (by decide)];rfl
 | 1,_=>rw[h0 (by decide) (by decide),h2 (by decide) (by decide),h3 (by decide) (by decide)];rfl
 | 2,_=>rw[h0 (by decide) (by decide),h1 (by decide) (by decide),h3 (by decide) (by decide)];rfl
 | 3,_=>rw[h0 (by decide) (by decide),h1 (by decide) (by decide),h2 (by decide) (by decide)];rfl
theorem E8(s:au)(i x:Nat)(hx:x<2 ^ 64)(h:∀ j,j<64→x.testBit j=mem s (64*i+j)):x=word s i:=by
 refine Nat.eq_of_testBit_eq fun j=>?_
 rw[gq]
 by_cases hlt:j<64
 ·simp[hlt,h j hlt]
 ·simp only[hlt,decide_false,Bool.false_and]
  exact Nat.testBit_lt_two_pow (Nat.lt_of_lt_of_le hx (Nat.pow_le_pow_right (by decide) (by omega)))
theorem Qn(n:Nat)(h:n≤64):2 ^ n - 1<2 ^ 64:=by
 have:=Nat.pow_le_pow_right (n:=2) (by decide) h
 have h2:0<2 ^ n:=Nat.two_pow_pos n
 omega
theorem Qo(f t:Nat)(hf:f≤64)(ht:t≤64) :
  ∃ x:Nat,bits BinOp.andNot IntKind.u64 ((2 ^ t - 1:Nat):Int) ((2 ^ f - 1:Nat):Int)=(x:Int)∧x<2 ^ 64∧∀ j,j<64→x.testBit j=(decide (j<t)&&decide (f≤j)):=by
 have h1:=Qn f hf
 have h2:=Qn t ht
 refine⟨_,u64_andNot_nat (2 ^ t - 1) (2 ^ f - 1) (by omega) (by omega),?_,fun j hj=>?_⟩
 ·exact Nat.lt_of_le_of_lt Nat.and_le_left (by omega)
 ·rw[Nat.testBit_and,Nat.testBit_two_pow_sub_one]
  have:=Nat.testBit_two_pow_sub_succ h1 j
  rw[show 18446744073709551615 - (2 ^ f - 1)=2 ^ 64 - ((2 ^ f - 1)+1) by omega,this,Nat.testBit_two_pow_sub_one]
  by_cases hjf:j<f
  ·have h3:¬ f≤j:=by omega
   simp[hjf,h3]
  ·have h3:f≤j:=by omega
   simp[hjf,hj,h3]
theorem WB(s:au)(b:Nat)(hb:b<256) :
  [Value.int .u64 (word s 0:Nat),Value.int .u64 (word s 1:Nat),Value.int .u64 (word s 2:Nat),Value.int .u64 (word s 3:Nat)].set (b / 64) (.int .u64 (bits BinOp.or IntKind.u64 (word s (b / 64):Nat) (IntKind.u64.wrap (2 ^ (b % 64))))) =
  [Value.int .u64 (word (nP s b) 0:Nat),Value.int .u64 (word (nP s b) 1:Nat),Value.int .u64 (word (nP s b) 2:Nat),Value.int .u64 (word (nP s b) 3:Nat)]:=by
 rw[or_bit _ _ (word_lt _ _) (Nat.mod_lt _ (by decide))]
 have:=congrArg Array.toList (J6 s b hb)
 rw[Array.toList_setIfInBounds] at this
 exact this
def leastOf(s:au):Int:=match (List.range 256).find? (mem s) with | some k=>(k:Int) | none=>-1
theorem Py(s:au)(k:Nat)(hk:k<256)(h:mem s k=true)(hno:∀ c,c<k→mem s c=false):leastOf s=k:=by
 unfold leastOf
 have:(List.range 256).find? (mem s)=some k:=by
  rw[List.find?_range_eq_some]
  exact⟨h,by simpa using hk,fun j hj=>by simp[hno j hj]⟩
 rw[this]
theorem nH(n:Nat)(h:n<256):IntKind.u8.wrap (n:Int)=(n:Int):=by rw[IntKind.wrap_u8'];omega
abbrev encS(s:au):List Value:=[.int .u64 (word s 0:Nat),.int .u64 (word s 1:Nat),.int .u64 (word s 2:Nat),.int .u64 (word s 3:Nat)]
abbrev gY(x:Nat):List Value:=[.int .u8 x]
theorem ak.sets{w:World}{a:Option Addr}{n cap:Nat}{l:List au}(h:ak w (.slice a n cap) 4 encS l) :
  ∃ b o,n=l.length∧l.length≤cap∧cap≤9223372036854775807∧(∀ i,i<l.length→a=some ⟨b,o,none⟩)∧(0<l.length→b<w.heap.size) ∧
   ∀ i (h:i<l.length) (w':World),Below w.heap.size w w'→w'.cell? ⟨b,o+i*4,none⟩=some (.int .u64 (word l[i] 0:Nat))∧w'.cell? ⟨b,o+i*4+1,none⟩=some (.int .u64 (word l[i] 1:Nat)) ∧
    w'.cell? ⟨b,o+i*4+2,none⟩=some (.int .u64 (word l[i] 2:Nat))∧w'.cell? ⟨b,o+i*4+3,none⟩=some (.int .u64 (word l[i] 3:Nat)):=by
 obtain⟨b,o,h1,h2,h3,h4,h5⟩:=h.open
 refine⟨b,o,h1,h2,h3,h4,fun h0=>World.block_lt_of_cell? w _ (h5 0 h0 0 _ rfl),fun i hi w' hB=>?_⟩
 have key:∀ j u,(encS l[i])[j]?=some u→w'.cell? ⟨b,o+i*4+j,none⟩=some u:=fun j u hu=>by
  have:=h5 i hi j u hu
  rw[hB.cell (World.block_lt_of_cell? w _ this)];exact this
 exact⟨key 0 _ rfl,key 1 _ rfl,key 2 _ rfl,key 3 _ rfl⟩
theorem ak.bytes{w:World}{a:Option Addr}{n cap:Nat}{l:List Nat}(h:ak w (.slice a n cap) 1 gY l) :
  ∃ b o,n=l.length∧l.length≤cap∧cap≤9223372036854775807∧(∀ i,i<l.length→a=some ⟨b,o,none⟩)∧(0<l.length→b<w.heap.size) ∧
   ∀ i (h:i<l.length) (w':World),Below w.heap.size w w'→w'.cell? ⟨b,o+i,none⟩=some (.int .u8 (l[i]:Nat)):=by
 obtain⟨b,o,h1,h2,h3,h4,h5⟩:=h.open
 refine⟨b,o,h1,h2,h3,h4,fun h0=>World.block_lt_of_cell? w _ (h5 0 h0 0 _ rfl),fun i hi w' hB=>?_⟩
 have:=h5 i hi 0 _ rfl
 rw[hB.cell (p:=⟨b,o+i,none⟩) (by simpa using World.block_lt_of_cell? w _ this)];simpa using this
theorem EH{w:World}{b E:Nat}{c:Array Value}(h:b=w.heap.size)(c':Array Value):(w.alloc (.cells c E)).setRow b c'=w.alloc (.cells c' E):=by
 subst h;exact World.setRow_alloc_new w c c' E
theorem eX{P:Program}{ops:Array Oper}{rest:List Oper}{o:Oper}{a:Act}{w0:World}{Q:Exit→Act→World→Prop}(hgd:o.guard=none)(ty:TypeId)(x y:Operand)(ho:o.op=.store ty x y)
  (g:Nat) (cells:Array Value) (hx:a.eval x=.pointer (some ⟨g,0,none⟩)) (hy:a.eval y=.agg cells)
  {t:TypeId} {old:Array Value} (hg:g=w0.heap.size) (hi:(P.info? ty).map (·.size)=some cells.size) (hold:old.size=cells.size) (h1:cells.all (·.oneCell')=true)
  (h:wpList P ops Q rest (a.put o.dst undef) (w0.alloc (.cells cells t))):wpList P ops Q (o::rest) a (w0.alloc (.cells old t)) :=
 wpList_store_row hgd ty x y ho g cells hx hy t old (Box.new' hg old t) hi hold h1 (by rw[EH hg];exact h)
theorem dD(w:World)(l:List Value)(E:Nat):∀ j u,l[j]?=some u→(w.alloc (.cells l.toArray E)).cell? ((⟨w.heap.size,0,none⟩:Addr).add j)=some u:=fun j u hu=>by
 rw[Addr.add_mid,(Box.new w l.toArray E).cell,Nat.zero_add];simpa using hu
end
section
open Go.RowKit
structure dQ(P:Program)(t E:TypeId)(z:Value)(size bytes:Nat):Prop where
 slice:P.underlying t=some (.slice E)
 info:∃ i,P.info? E=some i∧i.zero=some z∧i.size=size∧i.bytes=bytes
 Hl:z.cells.size=size
 pos:0<size
structure fB{α:Type}(enc:α→List Value)(size:Nat):Prop where
 len:∀ x,(enc x).length=size
 one:∀ x,∀ u∈enc x,u.oneCell'=true
theorem tq{α:Type}{enc:α→List Value}{size:Nat}(he:∀ x,(enc x).length=size):∀ (xs:List α) (i j:Nat) (h:i<xs.length),j<size→(xs.flatMap enc)[i*size+j]?=(enc xs[i])[j]?
 | [],i,j,h,_=>by simp at h
 | x::xs,0,j,_,hj=>by
  rw[List.flatMap_cons,Nat.zero_mul,Nat.zero_add,List.getElem?_append_left (by rw[he];exact hj)];rfl
 | x::xs,i+1,j,h,hj=>by
  rw[List.flatMap_cons,Nat.succ_mul,List.getElem?_append_right (by rw[he];omega),he,show i*size+size+j - size=i*size+j by omega]
  exact tq he xs i j (by simpa using h) hj
theorem nY{α:Type}{enc:α→List Value}{size:Nat}(he:∀ x,(enc x).length=size)(xs:List α):(xs.flatMap enc).length=xs.length*size:=by
 induction xs with
 | nil=>simp
 | cons x xs ih=>rw[List.flatMap_cons,List.length_append,he,ih,List.length_cons,Nat.succ_mul];omega
def Own{α:Type}(w:World)(qB E size:Nat)(enc:α→List Value)(v:Value)(xs:List α):Prop :=
 ∃ (a:Option Addr) (cap:Nat),v=.slice a xs.length cap∧xs.length≤cap∧cap≤maxLen∧((a=none∧cap=0) ∨
  ∃ g cur,a=some ⟨g,0,none⟩∧qB≤g∧Box w g cur E∧cur.size=cap*size∧∀ i (h:i<xs.length) j,j<size→cur[i*size+j]?=(enc xs[i])[j]?)
section
variable {α:Type} {w:World} {qB E size:Nat} {enc:α→List Value} {v:Value} {xs:List α}
theorem Own.form(h:Own w qB E size enc v xs):∃ a cap,v=.slice a xs.length cap:=by obtain⟨a,cap,hv,_⟩:=h;exact⟨a,cap,hv⟩
theorem Own.rV(h:Own w qB E size enc v xs)(he:fB enc size):w.ownsRow qB E size v xs.length (xs.flatMap enc):=by
 obtain⟨a,cap,rfl,hle,hm,hh⟩:=h
 refine⟨nY he.len xs,?_⟩
 rcases hh with⟨rfl,rfl⟩ | ⟨g,cur,rfl,hb,hg,hs,hx⟩
 ·have:xs.length=0:=by omega
  exact .inl ⟨by rw[this],this⟩
 ·refine .inr ⟨g,cap,cur,rfl,hb,hg,hle,hm,hs,?_⟩
  have hsz:xs.length*size≤cur.size:=by rw[hs];exact Nat.mul_le_mul_right _ hle
  apply List.ext_getElem?
  intro k
  by_cases hk:k<xs.length*size
  ·have hpos:0<size:=by rcases Nat.eq_zero_or_pos size with h | h;simp[h] at hk;exact h
   have h1:k / size<xs.length:=Nat.div_lt_of_lt_mul (by rw[Nat.mul_comm];exact hk)
   have h2:k % size<size:=Nat.mod_lt _ hpos
   have h3:k / size*size+k % size=k:=by rw[Nat.mul_comm];exact Nat.div_add_mod k size
   rw[List.getElem?_take,if_pos hk]
   have:=hx (k / size) h1 (k % size) h2
   rw[h3] at this
   have h4:=tq he.len xs (k / size) (k % size) h1 h2
   rw[h3] at h4
   rw[h4,←this];simp
  ·rw[List.getElem?_take,if_neg hk,List.getElem?_eq_none]
   rw[nY he.len];omega
theorem Own.ofRow(h:w.ownsRow qB E size v xs.length (xs.flatMap enc))(he:fB enc size):Own w qB E size enc v xs:=by
 obtain⟨hl,h⟩:=h
 rcases h with⟨rfl,hn⟩ | ⟨g,cap,cur,rfl,hb,hg,hle,hm,hs,ht⟩
 ·exact⟨none,0,by rw[hn],by omega,by simp[maxLen],.inl ⟨rfl,rfl⟩⟩
 ·refine⟨_,cap,rfl,hle,hm,.inr ⟨g,cur,rfl,hb,hg,hs,fun i hi j hj=>?_⟩⟩
  rw[←tq he.len xs i j hi hj,←ht,List.getElem?_take,if_pos]
  ·simp
  ·have:(i+1)*size≤xs.length*size:=Nat.mul_le_mul_right _ hi
   rw[Nat.succ_mul] at this;omega
theorem Own.nil(w:World)(qB E size:Nat)(enc:α→List Value):Own w qB E size enc (.slice none 0 0) []:=⟨none,0,rfl,Nat.le_refl _,by simp[maxLen],.inl ⟨rfl,rfl⟩⟩
theorem Own.empty(w:World)(qB E size:Nat)(enc:α→List Value)(hb:qB≤w.heap.size):Own (w.alloc (.cells #[] E)) qB E size enc (.slice (some ⟨w.heap.size,0,none⟩) 0 0) [] :=
 ⟨_,0,rfl,Nat.le_refl _,by simp[maxLen],.inr ⟨w.heap.size,#[],rfl,hb,Box.new _ _ _,by simp,fun i h=>by simp at h⟩⟩
theorem Own.kept{w':World}(h:Own w qB E size enc v xs)(hb:Below w.heap.size w w'):Own w' qB E size enc v xs:=by
 obtain⟨a,cap,hv,hle,hm,hh⟩:=h
 refine⟨a,cap,hv,hle,hm,?_⟩
 rcases hh with hh | ⟨g,cur,ha,hbg,hg,hr⟩
 ·exact .inl hh
 ·exact .inr ⟨g,cur,ha,hbg,hg.kept hb,hr⟩
theorem Own.alloc(h:Own w qB E size enc v xs)(o:Obj):Own (w.alloc o) qB E size enc v xs:=h.kept ((Below.refl _ w).alloc (Nat.le_refl _) o)
theorem Own.mono{qB':Nat}(h:Own w qB E size enc v xs)(hb:qB'≤qB):Own w qB' E size enc v xs:=by
 obtain⟨a,cap,hv,hle,hm,hh⟩:=h
 refine⟨a,cap,hv,hle,hm,?_⟩
 rcases hh with hh | ⟨g,cur,ha,hbg,hg,hr⟩
 ·exact .inl hh
 ·exact .inr ⟨g,cur,ha,Nat.le_trans hb hbg,hg,hr⟩
theorem Own.other(h:Own w qB E size enc v xs)(a:Addr)(u:Value)(hne:a.block<qB):Own (w.setCell a u) qB E size enc v xs:=by
 obtain⟨a',cap,hv,hle,hm,hh⟩:=h
 refine⟨a',cap,hv,hle,hm,?_⟩
 rcases hh with hh | ⟨g,cur,ha,hbg,hg,hr⟩
 ·exact .inl hh
 ·exact .inr ⟨g,cur,ha,hbg,hg.other a u (by omega),hr⟩
theorem Own.slice(h:Own w qB E size enc v xs)(he:fB enc size):ak w v size enc xs:=by
 obtain⟨a,cap,rfl,hle,hm,hh⟩:=h
 rcases hh with⟨rfl,rfl⟩ | ⟨g,cur,rfl,hb,hg,hs,hx⟩
 ·have:xs.length=0:=by omega
  exact⟨none,0,0,0,rfl,hle,hm,.inr ⟨List.eq_nil_of_length_eq_zero this,fun _=>rfl⟩,fun i hi=>by omega⟩
 ·refine⟨_,g,0,cap,rfl,hle,hm,.inl rfl,fun i hi j u hu=>?_⟩
  have hj:j<size:=by have:=(List.getElem?_eq_some_iff.1 hu).1;rwa[he.len] at this
  rw[hg.cell,Nat.zero_add,hx i hi j hj,hu]
theorem Own.open{a:Option Addr}{n cap:Nat}(h:Own w qB E size enc (.slice a n cap) xs) :
  n=xs.length∧xs.length≤cap∧cap≤9223372036854775807∧∃ g cur,(∀ i,i<xs.length→a=some ⟨g,0,none⟩)∧(0<xs.length→qB≤g∧Box w g cur E∧cur.size=cap*size∧∀ i (h:i<xs.length) j,j<size→cur[i*size+j]?=(enc xs[i])[j]?):=by
 obtain⟨a',cap',hv,hle,hm,hh⟩:=h
 obtain⟨rfl,rfl,rfl⟩:=Value.slice.inj hv
 refine⟨rfl,hle,hm,?_⟩
 rcases hh with⟨_,rfl⟩ | ⟨g,cur,ha,hb,hg,hs,hx⟩
 ·exact⟨0,#[],fun i hi=>by omega,fun h=>by omega⟩
 ·exact⟨g,cur,fun _ _=>ha,fun _=>⟨hb,hg,hs,hx⟩⟩
theorem fJ{P:Program}{ops:Array Oper}{rest:List Oper}{o:Oper}{a:Act}{Q:Exit→Act→World→Prop}(hgd:o.guard=none)(s x:Operand)(t:TypeId)
  (ho:o.op=.call { callee:=.builtin .append,args:=#[s,x],argTypes:=#[t,t] }) {z:Value} {bytes:Nat} (hE:dQ P t E z size bytes) (he:fB enc size)
  (hs:a.eval s=v) (hown:Own w qB E size enc v xs) (ad:Addr) (c:Nat) (y:α) (hx:a.eval x=.slice (some ad) 1 c) (hnews:∀ j u,(enc y)[j]?=some u→w.cell? (ad.add j)=some u)
  (h63:xs.length+1≤maxLen) (hbytes:(xs.length+1)*bytes≤140737488355328) (hbase:qB≤w.heap.size)
  (h:∀ a' cap' w',Own w' qB E size enc (.slice a' (xs.length+1) cap') (xs++[y])→w.grownBy w' v.ownBlock→wpList P ops Q rest (a.put o.dst (.slice a' (xs.length+1) cap')) w'):wpList P ops Q (o::rest) a w:=by
 obtain⟨i,hi,hz,hsz,hby⟩:=hE.info
 refine wpList_append_own w hgd s x t ho qB E i z size bytes hE.slice hi hz hsz hby hE.Hl hE.pos v xs.length (xs.flatMap enc) hs (hown.rV he) ad 1 c (enc y) hx (by rw[he.len,Nat.one_mul]) hnews (he.one y) h63 hbytes hbase ?_
 intro v' w' hr hg _
 have hr':Own w' qB E size enc v' (xs++[y]):=by
  refine Own.ofRow ?_ he
  rw[List.length_append,List.flatMap_append]
  simpa using hr
 obtain⟨a',cap',rfl⟩:=hr'.form
 have e:(xs++[y]).length=xs.length+1:=by simp
 rw[e] at hr' ⊢
 exact h a' cap' w' hr' hg
theorem Nc{P:Program}{ops:Array Oper}{rest:List Oper}{o:Oper}{a:Act}{Q:Exit→Act→World→Prop}(hgd:o.guard=none)(s x:Operand)(t:TypeId)
  (ho:o.op=.call { callee:=.builtin .append,args:=#[s,x],argTypes:=#[t,t] }) {z:Value} {bytes:Nat} (hE:dQ P t E z size bytes) (he:fB enc size)
  (hs:a.eval s=v) (hown:Own w qB E size enc v xs) (ad:Addr) (c:Nat) (ys:List α) (hx:a.eval x=.slice (some ad) ys.length c) (hnews:∀ j u,(ys.flatMap enc)[j]?=some u→w.cell? (ad.add j)=some u)
  (h63:xs.length+ys.length≤maxLen) (hbytes:(xs.length+ys.length)*bytes≤140737488355328) (hbase:qB≤w.heap.size)
  (h:∀ a' cap' w',Own w' qB E size enc (.slice a' (xs.length+ys.length) cap') (xs++ys)→w.grownBy w' v.ownBlock→wpList P ops Q rest (a.put o.dst (.slice a' (xs.length+ys.length) cap')) w'):wpList P ops Q (o::rest) a w:=by
 obtain⟨i,hi,hz,hsz,hby⟩:=hE.info
 refine wpList_append_own w hgd s x t ho qB E i z size bytes hE.slice hi hz hsz hby hE.Hl hE.pos v xs.length (xs.flatMap enc) hs (hown.rV he) ad ys.length c (ys.flatMap enc) hx (nY he.len ys) hnews (fun u hu=>by
  obtain⟨y,_,hy⟩:=List.mem_flatMap.1 hu;exact he.one y u hy) h63 hbytes hbase ?_
 intro v' w' hr hg _
 have hr':Own w' qB E size enc v' (xs++ys):=by
  refine Own.ofRow ?_ he
  rw[List.length_append,List.flatMap_append]
  exact hr
 obtain⟨a',cap',rfl⟩:=hr'.form
 have e:(xs++ys).length=xs.length+ys.length:=by simp
 rw[e] at hr' ⊢
 exact h a' cap' w' hr' hg
end
theorem below_grown{α:Type}{w0 w w':World}{qB B E size:Nat}{enc:α→List Value}{v:Value}{xs:List α}(hB:Below B w0 w)(hown:Own w qB E size enc v xs)(hg:w.grownBy w' v.ownBlock)(hb:B≤qB)(hs:B≤w.heap.size):Below B w0 w':=by
 refine hB.grown hg hs fun k hk=>?_
 obtain⟨a,cap,rfl,_,_,hh⟩:=hown
 rcases hh with⟨rfl,_⟩ | ⟨g,cur,rfl,hbg,_⟩
 ·simp[Value.ownBlock] at hk
 ·simp[Value.ownBlock] at hk;omega
theorem Box.grown{α:Type}{w w':World}{b qB E E' size:Nat}{enc:α→List Value}{v:Value}{xs:List α}{c:Array Value}(h:Box w b c E')(hown:Own w qB E size enc v xs)(hg:w.grownBy w' v.ownBlock)(hb:b<qB):Box w' b c E':=by
 refine(hg.block b h.lt ?_).trans h
 obtain⟨a,cap,rfl,_,_,hh⟩:=hown
 rcases hh with⟨rfl,_⟩ | ⟨g,cur,rfl,hbg,_⟩
 ·simp[Value.ownBlock]
 ·simp[Value.ownBlock];omega
theorem Box.lM{w:World}{b E E':Nat}{c c':Array Value}(h:Box w b c E)(h':Box w b c' E'):E=E':=by
 unfold Box at h h';rw[h] at h';simp at h';exact h'.2
theorem Box.lS{α:Type}{w w':World}{b qB E E' size:Nat}{enc:α→List Value}{v:Value}{xs:List α}{c:Array Value}(h:Box w b c E')(hown:Own w qB E size enc v xs)(hg:w.grownBy w' v.ownBlock)(hne:E≠E'):Box w' b c E':=by
 refine(hg.block b h.lt ?_).trans h
 obtain⟨a,cap,rfl,_,_,hh⟩:=hown
 rcases hh with⟨rfl,_⟩ | ⟨g,cur,rfl,hbg,hbx,_⟩
 ·simp[Value.ownBlock]
 ·simp[Value.ownBlock]
  rintro rfl;exact hne (hbx.lM h)
theorem Own.J8{α:Type}{w:World}{qB E E' size b:Nat}{enc:α→List Value}{v:Value}{xs:List α}{c:Array Value}(h:Own w qB E size enc v xs)(hb:Box w b c E')(hne:E≠E')(i:Nat)(u:Value):Own (w.setCell ⟨b,i,none⟩ u) qB E size enc v xs:=by
 obtain⟨a',cap,hv,hle,hm,hh⟩:=h
 refine⟨a',cap,hv,hle,hm,?_⟩
 rcases hh with hh | ⟨g,cur,ha,hbg,hg,hr⟩
 ·exact .inl hh
 ·exact .inr ⟨g,cur,ha,hbg,hg.other _ u (by rintro rfl;exact hne (hg.lM hb)),hr⟩
def iU{α:Type}(w:World)(E size:Nat)(enc:α→List Value)(L:List α)(e:Ending)(w':World):Prop :=
 ∃ (a:Option Addr) (cap:Nat),e=.returned (.slice a L.length cap)∧Own w' w.heap.size E size enc (.slice a L.length cap) L∧Below w.heap.size w w'
theorem wX:fB encS 4:=⟨fun _=>rfl,fun x u hu=>by simp[encS] at hu;rcases hu with rfl | rfl | rfl | rfl <;> rfl⟩
theorem Nh:fB gY 1:=⟨fun _=>rfl,fun x u hu=>by simp[gY] at hu;subst hu;rfl⟩
theorem Own.eG{w:World}{qB E:Nat}{a:Option Addr}{n cap:Nat}{xs:List au}(h:Own w qB E 4 encS (.slice a n cap) xs){i g:Nat}(hi:i<xs.length)(ha:a=some ⟨g,0,none⟩)(y:au) :
  Own ((((w.setCell ⟨g,i*4,none⟩ (.int .u64 (word y 0:Nat))).setCell ⟨g,i*4+1,none⟩ (.int .u64 (word y 1:Nat))).setCell ⟨g,i*4+2,none⟩ (.int .u64 (word y 2:Nat))).setCell ⟨g,i*4+3,none⟩ (.int .u64 (word y 3:Nat)))
   qB E 4 encS (.slice a n cap) (xs.set i y):=by
 obtain⟨a',cap',hv,hle,hm,hh⟩:=h
 obtain⟨rfl,rfl,rfl⟩:=Value.slice.inj hv
 rcases hh with⟨rfl,_⟩ | ⟨g',cur,ha',hb,hg,hs,hx⟩
 ·cases ha
 ·obtain rfl:g'=g:=by rw[ha] at ha';simpa using ha'.symm
  refine⟨a,cap,by rw[List.length_set],by rw[List.length_set];exact hle,hm,.inr ⟨g',_,ha,hb,(((hg.set _ _).set _ _).set _ _).set _ _,by simpa using hs,fun k hk j hj=>?_⟩⟩
  have hk':=hk
  rw[List.length_set] at hk
  have hcs:i*4+3<cur.size:=by have:(i+1)*4≤cap*4:=Nat.mul_le_mul_right _ (by omega);rw[hs];omega
  simp only[Array.getElem?_setIfInBounds,Array.size_setIfInBounds]
  by_cases hki:k=i
  ·subst hki
   have e:(xs.set k y)[k]'hk'=y:=by simp
   rw[e]
   match j,hj with
   | 0,_=>simp;omega
   | 1,_=>simp;omega
   | 2,_=>simp;omega
   | 3,_=>simp;omega
  ·have e:(xs.set i y)[k]'hk'=xs[k]:=by rw[List.getElem_set_ne (fun e=>hki e.symm)]
   rw[e,←hx k hk j hj]
   rw[if_neg (by omega),if_neg (by omega),if_neg (by omega),if_neg (by omega)]
theorem Own.cells4{w:World}{qB E g n cap:Nat}{xs:List au}(h:Own w qB E 4 encS (.slice (some ⟨g,0,none⟩) n cap) xs){i:Nat}(hi:i<xs.length) :
  (w.cell? ⟨g,i*4,none⟩=some (.int .u64 (word xs[i] 0:Nat))∧w.cell? ⟨g,i*4+1,none⟩=some (.int .u64 (word xs[i] 1:Nat))∧w.cell? ⟨g,i*4+2,none⟩=some (.int .u64 (word xs[i] 2:Nat))∧w.cell? ⟨g,i*4+3,none⟩=some (.int .u64 (word xs[i] 3:Nat))) ∧
  (w.frozen? ⟨g,i*4,none⟩=false∧w.frozen? ⟨g,i*4+1,none⟩=false∧w.frozen? ⟨g,i*4+2,none⟩=false∧w.frozen? ⟨g,i*4+3,none⟩=false):=by
 obtain⟨_,_,_,g',cur,ha,hx⟩:=h.open
 obtain rfl:g=g':=by simpa using ha i hi
 obtain⟨_,hb,_,hc⟩:=hx (by omega)
 have k:=hc i hi
 exact⟨⟨(hb.cell _).trans (k 0 (by decide)),(hb.cell _).trans (k 1 (by decide)),(hb.cell _).trans (k 2 (by decide)),(hb.cell _).trans (k 3 (by decide))⟩,hb.free _,hb.free _,hb.free _,hb.free _⟩
theorem Own.addr{α:Type}{w:World}{qB E size n cap:Nat}{enc:α→List Value}{a:Option Addr}{xs:List α}(h:Own w qB E size enc (.slice a n cap) xs)(hn:0<n):∃ g,a=some ⟨g,0,none⟩∧qB≤g∧g<w.heap.size:=by
 obtain⟨rfl,_,_,g,cur,ha,hx⟩:=h.open
 obtain⟨hb,hg,_⟩:=hx hn
 exact⟨g,ha 0 hn,hb,hg.lt⟩
end
section
open Go.RowKit
theorem qL{α:Type}{enc:α→List Value}{size:Nat}(he:fB enc size)(w:World)(E:Nat)(xs:List α)(hm:xs.length≤maxLen):ak (w.alloc (.cells (xs.flatMap enc).toArray E)) (.slice (some ⟨w.heap.size,0,none⟩) xs.length xs.length) size enc xs:=by
 refine⟨_,w.heap.size,0,_,rfl,Nat.le_refl _,hm,.inl rfl,fun i hi j u hu=>?_⟩
 have hj:j<size:=by have:=(List.getElem?_eq_some_iff.1 hu).1;rwa[he.len] at this
 rw[(Box.new w _ E).cell,Nat.zero_add]
 simpa [tq he.len xs i j hi hj] using hu
theorem Nj(w:World)(a b:au)(E:Nat):ak (w.alloc (.cells #[.int .u64 (word a 0:Nat),.int .u64 (word a 1:Nat),.int .u64 (word a 2:Nat),.int .u64 (word a 3:Nat),.int .u64 (word b 0:Nat),.int .u64 (word b 1:Nat),.int .u64 (word b 2:Nat),.int .u64 (word b 3:Nat)] E)) (.slice (some ⟨w.heap.size,0,none⟩) 2 2) 4 encS [a,b] :=
 qL wX w E [a,b] (by simp[maxLen])
theorem DL(w:World)(x:Nat)(E:Nat):ak (w.alloc (.cells #[.int .u8 (x:Nat)] E)) (.slice (some ⟨w.heap.size,0,none⟩) 1 1) 1 gY [x] :=
 qL Nh w E [x] (by simp[maxLen])
theorem aj(w:World)(o:Obj):Below w.heap.size w (w.alloc o):=(Below.refl _ _).alloc (Nat.le_refl _) _
theorem Qp(a b:au):[a,b].foldl (· ||| ·) 0=a ||| b:=rU fun c _=>by simp[J5]
theorem Box.abz{w:World}{b g i E:Nat}{c:Array Value}(h:Box w b c E)(hne:b≠g)(v0 v1 v2 v3:Value) :
  Box ((((w.setCell ⟨g,i,none⟩ v0).setCell ⟨g,i+1,none⟩ v1).setCell ⟨g,i+2,none⟩ v2).setCell ⟨g,i+3,none⟩ v3) b c E :=
 (((h.other _ _ hne).other _ _ hne).other _ _ hne).other _ _ hne
theorem Fa{B g i:Nat}{a w:World}(h:Below B a w)(hg:B≤g)(v0 v1 v2 v3:Value) :
  Below B a ((((w.setCell ⟨g,i,none⟩ v0).setCell ⟨g,i+1,none⟩ v1).setCell ⟨g,i+2,none⟩ v2).setCell ⟨g,i+3,none⟩ v3) :=
 (((h.setCell (by simpa using hg) _).setCell (by simpa using hg) _).setCell (by simpa using hg) _).setCell (by simpa using hg) _
end
end Go.Proofs.YtengfapcaaacaaaGreatDoor
