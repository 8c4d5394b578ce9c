/- The texts of S9, in few letters (mini.py). -/
import Derived.Test.YtbemonecmmnlcaaGreatDoorM8
import Derived.Test.YtbemonecmmnlcaaGreatDoorM7
import Derived.Deep.DeepCutAuto
set_option linter.unusedVariables false
set_option linter.unusedSimpArgs false
set_option maxRecDepth 20000
set_option maxHeartbeats 2000000
namespace Go.Proofs.YtbemonecmmnlcaaGreatDoor
section
open Go.RowKit
def jL(xs:List Nat):List Value:=xs.map fun n:Nat=>Value.int .i64 n
def iW(w:World)(base E:Nat)(v:Value)(xs:List Nat):Prop :=
 ∃ (a:Option Addr) (cap:Nat),v=.slice a xs.length cap∧xs.length≤cap∧cap≤maxLen∧((a=none∧cap=0) ∨
  ∃ g cur,a=some ⟨g,0,none⟩∧base≤g∧Box w g cur E∧cap≤cur.size∧cur.toList.take xs.length=jL xs)
section
variable {w:World} {base E:Nat} {v:Value} {xs:List Nat}
theorem iW.form(h:iW w base E v xs):∃ a cap,v=.slice a xs.length cap:=by obtain⟨a,cap,hv,_⟩:=h;exact⟨a,cap,hv⟩
theorem iW.nil(w:World)(base E:Nat):iW w base E (.slice none 0 0) []:=⟨none,0,rfl,Nat.le_refl _,by simp[maxLen],.inl ⟨rfl,rfl⟩⟩
theorem iW.same{w':World}(h:iW w base E v xs)(hb:∀ b,base≤b→b<w.heap.size→w'.heap[b]?=w.heap[b]?):iW w' base E v xs:=by
 obtain⟨a,cap,hv,hle,hm,hh⟩:=h
 refine⟨a,cap,hv,hle,hm,hh.imp id ?_⟩
 rintro⟨g,cur,ha,hbg,hg,hr⟩
 exact⟨g,cur,ha,hbg,(hb g hbg hg.lt).trans hg,hr⟩
theorem iW.kept{w':World}(h:iW w base E v xs)(hb:Below w.heap.size w w'):iW w' base E v xs:=h.same fun b _ hl=>hb.block b hl
theorem iW.other(h:iW w base E v xs)(a:Addr)(u:Value)(hne:a.block<base):iW (w.setCell a u) base E v xs:=h.same fun b hb _=>heap_setCell_other w a b u (by omega)
theorem iW.cell{a:Option Addr}{n cap:Nat}(h:iW w base E (.slice a n cap) xs):n=xs.length∧xs.length≤cap∧cap≤9223372036854775807∧∃ g,(∀ i,i<xs.length→a=some ⟨g,0,none⟩)∧∀ i (h:i<xs.length),w.cell? ⟨g,i,none⟩=some (.int .i64 (xs[i]:Nat)):=by
 obtain⟨a',cap',hv,hle,hm,hh⟩:=h
 obtain⟨rfl,rfl,rfl⟩:=Value.slice.inj hv
 refine⟨rfl,hle,hm,?_⟩
 rcases hh with⟨_,rfl⟩ | ⟨g,cur,ha,hb,hg,hs,hx⟩
 ·exact⟨0,fun i hi=>by omega,fun i hi=>by omega⟩
 ·refine⟨g,fun _ _=>ha,fun i hi=>?_⟩
  have:=congrArg (fun l=>l[i]?) hx
  simp only[List.getElem?_take,if_pos hi] at this
  rw[hg.cell,←Array.getElem?_toList,this]
  simp[jL,hi]
theorem iW.cut{a:Option Addr}{n cap:Nat}{ys:List Nat}{x:Nat}(h:iW w base E (.slice a n cap) (ys++[x])):iW w base E (.slice a ys.length ys.length) ys:=by
 obtain⟨a',cap',hv,hle,hm,hh⟩:=h
 obtain⟨rfl,rfl,rfl⟩:=Value.slice.inj hv
 rw[List.length_append,List.length_singleton] at *
 refine⟨a,_,rfl,Nat.le_refl _,by omega,?_⟩
 rcases hh with⟨_,rfl⟩ | ⟨g,cur,ha,hb,hg,hs,hx⟩
 ·omega
 ·refine .inr ⟨g,cur,ha,hb,hg,by omega,?_⟩
  have:=congrArg (List.take ys.length) hx
  rw[List.take_take,Nat.min_eq_left (by omega)] at this
  rw[this,jL,List.map_append,List.take_append_of_le_length (by simp),List.take_of_length_le (by simp)];rfl
theorem iW.row(h:iW w base E v xs)(g:Nat)(hg:v.ownBlock=some g):base≤g∧g<w.heap.size:=by
 obtain⟨a,cap,rfl,hle,hm,hh⟩:=h
 rcases hh with⟨rfl,_⟩ | ⟨g',cur,rfl,hb,hx,_⟩
 ·cases hg
 ·cases hg;exact⟨hb,hx.lt⟩
theorem iW.box{w':World}{b E':Nat}{c:Array Value}(h:iW w base E v xs)(hx:Box w b c E')(hg:w.grownBy w' v.ownBlock)(hb:b<base):Box w' b c E' :=
 (hg.block b hx.lt fun e=>by have:=(h.row b e.symm).1;omega).trans hx
theorem QK{P:Program}(t ty:TypeId)(hE:dQ P t E (.int .i64 0) 1 8)(h:iW w base E v xs)(hbase:base≤w.heap.size)(ad:Addr)(c y:Nat)(hy:w.cell? ad=some (.int .i64 y))(hn:xs.length+1≤1099511627776) :
  ∃ a' cap' w',(Builtin.append_ #[t,t] ty #[v,.slice (some ad) 1 c]).run P w=.ok (.slice a' (xs.length+1) cap') w'∧iW w' base E (.slice a' (xs.length+1) cap') (xs++[y])∧w.grownBy w' v.ownBlock:=by
 obtain⟨i,hi,hz,hsz,hby⟩:=hE.info
 obtain⟨a,cap,rfl,hle,hm,hh⟩:=h
 have hnews:∀ j u,[Value.int .i64 (y:Nat)][j]?=some u→w.cell? (ad.add j)=some u:=fun j u hu=>by
  cases j with
  | zero=>simp at hu;rw[←hu];simpa [Addr.add] using hy
  | succ j=>simp at hu
 have hm63:xs.length+1≤maxLen:=by simp only[maxLen];omega
 have hl:((xs++[y]).length)=xs.length+1:=by simp
 have grown:∀ (old:Nat) (row:Option Nat),
   iW (w.drew.alloc (.cells ((jL xs).toArray++#[Value.int .i64 (y:Nat)]++Builtin.zeroCells #[Value.int .i64 0] (grownCap w (xs.length+1) old E - (xs.length+1))) E)) base E (.slice (some ⟨w.heap.size,0,none⟩) (xs.length+1) (grownCap w (xs.length+1) old E)) (xs++[y]) ∧
   w.grownBy (w.drew.alloc (.cells ((jL xs).toArray++#[Value.int .i64 (y:Nat)]++Builtin.zeroCells #[Value.int .i64 0] (grownCap w (xs.length+1) old E - (xs.length+1))) E)) row:=by
  intro old row
  have hge:=grownCap_ge w (xs.length+1) old E
  have hcm:=grownCap_le_maxLen w (xs.length+1) old E hm63
  refine⟨⟨_,_,by rw[hl],by rw[hl];exact hge,hcm,.inr ⟨w.heap.size,_,rfl,hbase,heap_alloc_new w.drew _,?_,?_⟩⟩,⟨rfl,rfl,rfl,by simp,fun k hk _=>Below.heap_alloc w.drew _ k hk⟩⟩
  ·simp[jL,Builtin.zeroCells];omega
  ·rw[hl]
   have hi:(jL (xs++[y])).length=xs.length+1:=by simp[jL]
   have e:∀ Z:List Value,List.take (xs.length+1) (jL (xs++[y])++Z)=jL (xs++[y]):=fun Z=>by rw[←hi,List.take_left]
   rw[←e (Builtin.zeroCells #[Value.int .i64 0] (grownCap w (xs.length+1) old E - (xs.length+1))).toList]
   simp[jL]
 rcases hh with⟨rfl,rfl⟩ | ⟨g,cur,rfl,hb,hg,hs,hx⟩
 ·obtain rfl:xs=[]:=List.eq_nil_of_length_eq_zero (by omega)
  have hr:=run_append_nil (P:=P) w t ty E i (.int .i64 0) hE.slice hi hz ad 1 c [Value.int .i64 (y:Nat)] (by simp[hsz]) hnews (by omega) (by omega) (by rw[hby];omega)
  have hgr:=grown 0 (Value.ownBlock (.slice none 0 0))
  exact⟨_,_,_,hr,hgr.1,hgr.2⟩
 ·by_cases hroom:xs.length+1≤cap
  ·have hr:=run_append_room (P:=P) w t ty E i hE.slice hi g xs.length cap cur hg ad 1 c [Value.int .i64 (y:Nat)] (by simp[hsz]) hnews (by intro u hu;simp at hu;subst hu;rfl) hroom (by rw[hsz];simp;omega)
   refine⟨_,_,_,hr,⟨_,cap,by rw[hl],by rw[hl];exact hroom,hm,.inr ⟨g,_,rfl,hb,setRow_heap w g cur _ E _ hg,?_,?_⟩⟩,⟨rfl,rfl,rfl,by simp,fun k _ hk=>setRow_other w g k _ (fun e=>hk (by simp[Value.ownBlock,e]))⟩⟩
   ·simp;omega
   ·rw[hl,hsz,Nat.mul_one,hx]
    have hi:(jL xs).length=xs.length:=by simp[jL]
    simp only[List.append_assoc]
    rw[←List.append_assoc,show xs.length+1=((jL xs)++[Value.int .i64 (y:Nat)]).length by rw[List.length_append,hi];rfl]
    show List.take _ (_++_)=_
    rw[List.take_left]
    simp[jL]
  ·have holds:∀ j u,(jL xs)[j]?=some u→w.cell? ((⟨g,0,none⟩:Addr).add j)=some u:=fun j u hu=>by
    have hj:j<xs.length:=by have:=(List.getElem?_eq_some_iff.1 hu).1;simpa [jL] using this
    have:=congrArg (fun l=>l[j]?) hx
    simp only[List.getElem?_take,if_pos hj] at this
    rw[show(⟨g,0,none⟩:Addr).add j=⟨g,j,none⟩ by rw[Addr.add_lit,Nat.zero_add],hg.cell,←Array.getElem?_toList,this,hu]
   have hr:=run_append_grow (P:=P) w t ty E i (.int .i64 0) hE.slice hi hz ⟨g,0,none⟩ xs.length cap (jL xs) (by simp[jL,hsz]) holds ad 1 c [Value.int .i64 (y:Nat)] (by simp[hsz]) hnews (by omega) (by omega) (growslice_fits (by omega) (by rw[hby];omega))
   have hgr:=grown cap (Value.ownBlock (.slice (some ⟨g,0,none⟩) xs.length cap))
   exact⟨_,_,_,hr,hgr.1,hgr.2⟩
theorem JV{P:Program}{ops:Array Oper}{rest:List Oper}{o:Oper}{a:Act}{Q:Exit→Act→World→Prop}(hgd:o.guard=none)(s x:Operand)(t:TypeId)
  (ho:o.op=.call { callee:=.builtin .append,args:=#[s,x],argTypes:=#[t,t] }) (hE:dQ P t E (.int .i64 0) 1 8) (hs:a.eval s=v) (h:iW w base E v xs) (hbase:base≤w.heap.size) (ad:Addr) (c y:Nat) (hx:a.eval x=.slice (some ad) 1 c) (hy:w.cell? ad=some (.int .i64 y)) (hn:xs.length+1≤1099511627776)
  (K:∀ a' cap' w',iW w' base E (.slice a' (xs.length+1) cap') (xs++[y])→w.grownBy w' v.ownBlock→wpList P ops Q rest (a.put o.dst (.slice a' (xs.length+1) cap')) w'):wpList P ops Q (o::rest) a w:=by
 obtain⟨a',cap',w',hr,h1,h2⟩:=QK (P:=P) t o.type hE h hbase ad c y hy hn
 refine wpList_plain hgd fun _ hK=>?_
 unfold Oper.wp execOp
 simp only[ho,resolve,invoke,builtin,Sem.run_bind,Sem.run_pure,Result.andThen_ok,List.map_toArray,List.map_cons,List.map_nil,hs,hx,hr]
 exact hK _ _ (K a' cap' w' h1 h2)
end
end
section
open Go.RowKit
def Only(b:Nat)(w w':World):Prop:=Below b w w'∧aJ (·=b) w w'
theorem Only.refl(b:Nat)(w:World):Only b w w:=⟨Below.refl _ _,aJ.refl _ _⟩
theorem Only.trans{b:Nat}{w w1 w2:World}(h:Only b w w1)(k:Only b w1 w2):Only b w w2:=⟨h.1.trans k.1,h.2.trans k.2⟩
theorem Only.below{b:Nat}{w w':World}(h:Below w.heap.size w w')(hb:b≤w.heap.size):Only b w w':=⟨h.mono hb,aJ.below h⟩
theorem Only.box{b g E:Nat}{c:Array Value}{w w':World}(h:Only b w w')(hb:Box w g c E)(hg:g≠b):Box w' g c E:=h.2.box hg hb
theorem Only.slice{α:Type}{b:Nat}{g:Nat×Nat}{n cap size:Nat}{enc:α→List Value}{xs:List α}{w w':World}(h:Only b w w')(hs:ak w (.slice (some ⟨g.1,g.2,none⟩) n cap) size enc xs)(hg:g.1≠b):ak w' (.slice (some ⟨g.1,g.2,none⟩) n cap) size enc xs :=
 h.2.slice hs (fun _ ad e=>by cases e;exact hg)
theorem Only.set{b:Nat}(w:World)(i:Nat)(v:Value):Only b w (w.setCell ⟨b,i,none⟩ v):=⟨Below.setCell (Below.refl b w) (p:=⟨b,i,none⟩) (Nat.le_refl _) v,aJ.set w _ v rfl⟩
def rdC(g:Nat×Nat)(n cap at' fr k p:Nat):Array Value:=#[.slice (some ⟨g.1,g.2,none⟩) n cap,.int .i64 at',.int .i64 fr,.int .i64 k,.int .i64 p]
structure oW(w:World)(b:Nat)(g:Nat×Nat)(n cap at' fr k p:Nat)(l:List UInt8):Prop where
 box:Box w b (rdC g n cap at' fr k p) 390
 sl:ak w (.slice (some ⟨g.1,g.2,none⟩) n cap) 1 bT l
 ne:g.1≠b
theorem oW.kept{w w':World}{b:Nat}{g:Nat×Nat}{n cap at' fr k p:Nat}{l:List UInt8}(h:oW w b g n cap at' fr k p l)(hb:Below w.heap.size w w'):oW w' b g n cap at' fr k p l:=⟨h.box.kept hb,h.sl.kept hb,h.ne⟩
theorem oW.cells{w:World}{b:Nat}{g:Nat×Nat}{n cap at' fr k p:Nat}{l:List UInt8}(h:oW w b g n cap at' fr k p l) :
  w.cell? ⟨b,0,none⟩=some (.slice (some ⟨g.1,g.2,none⟩) n cap)∧w.cell? ⟨b,1,none⟩=some (.int .i64 at')∧w.cell? ⟨b,2,none⟩=some (.int .i64 fr)∧w.cell? ⟨b,3,none⟩=some (.int .i64 k)∧w.cell? ⟨b,4,none⟩=some (.int .i64 p) :=
 ⟨h.box.cell 0,h.box.cell 1,h.box.cell 2,h.box.cell 3,h.box.cell 4⟩
def yL(l:List UInt8)(i:Nat)(c:UInt8):Bool:=decide (i<l.length)&&(l.getD i 0==c)
end
section
open Go.RowKit
def Ih(b:Nat)(g:Nat×Nat)(n cap:Nat)(fr:Nat)(l:List UInt8)(w:World)(v:Value)(i k p:Nat)(e:Ending)(w':World):Prop:=e=.returned v∧oW w' b g n cap i fr k p l∧Only b w w'
theorem oW.set{w:World}{b:Nat}{g:Nat×Nat}{n cap i fr k p:Nat}{l:List UInt8}(h:oW w b g n cap i fr k p l)(j:Nat):oW (w.setCell ⟨b,1,none⟩ (.int .i64 (j:Nat))) b g n cap j fr k p l :=
 ⟨h.box.set 1 _,(Only.set w 1 _).slice h.sl h.ne,h.ne⟩
theorem oW.fault{w:World}{b:Nat}{g:Nat×Nat}{n cap i fr k p:Nat}{l:List UInt8}(h:oW w b g n cap i fr k p l)(k' p':Nat):oW ((w.setCell ⟨b,3,none⟩ (.int .i64 (k':Nat))).setCell ⟨b,4,none⟩ (.int .i64 (p':Nat))) b g n cap i fr k' p' l :=
 ⟨(h.box.set 3 _).set 4 _,(Only.set _ 4 _).slice ((Only.set w 3 _).slice h.sl h.ne) h.ne,h.ne⟩
end
section
open Go.RowKit
def Ol(b:Nat)(g:Nat×Nat)(n cap fr p:Nat)(l:List UInt8)(w:World)(r:Sum (Nat×Nat) (Nat×Nat))(e:Ending)(w':World):Prop :=
 match r with
 | .inr (c,j)=>c<256∧j≤n∧Ih b g n cap fr l w (.int .u8 c) j 0 p e w'
 | .inl (kd,ps)=>∃ c j:Nat,c<256∧j≤n∧Ih b g n cap fr l w (.int .u8 c) j kd ps e w'
end
section
open Go.RowKit
def lW(lo hi:Int)(n:Nat):Nat:=if n=0 then 0 else if hi<0 then addN (addN (mulN lo.toNat n) n) 1 else if lo<hi then addN (addN (mulN lo.toNat n) (mulN (hi - lo).toNat n)) 1 else mulN lo.toNat n
theorem WJ(k:Int)(s:ay)(a:Option Addr)(len cap:Nat)(lo hi:Int)(n:Nat)(w:World)(h1:0≤lo∧lo≤1000)(h2:-1≤hi∧hi≤1000)(hn:n≤aC) :
  Calls Tryz.prog 231 #[.agg (aA k s a len cap lo hi).toArray,.int .i64 n] w (bV w (.int .i64 (lW lo hi n:Nat))):=by
 obtain⟨l,rfl⟩:∃ l:Nat,lo=(l:Int):=⟨lo.toNat,by omega⟩
 have hB0:=aj w (.cells (aA k s a len cap l hi).toArray 151)
 have hx0:=Box.new w (aA k s a len cap l hi).toArray 151
 have htop:(1:Nat)≤aC:=by unfold aC;omega
 by_cases hn0:n=0
 ·have e:lW l hi n=0:=by unfold lW;rw[if_pos hn0]
  rw[e]
  have e1:((n:Int)==0)=true:=by rw[hn0];rfl
  clear hx0 hn0 e
  go_enter Tryz.func231,Tryz.ntmps231
  go_wp2
  go_ret
  exact⟨rfl,hB0⟩
 have e1:((n:Int)==0)=false:=by rw[beq_eq_false_iff_ne];omega
 have hmx:max (l:Int) 0=(l:Int):=by omega
 have hl0:(0:Int)≤(l:Int):=by omega
 have hm1:=RH (w.alloc (.cells (aA k s a len cap l hi).toArray 151)).heap.size 0 2 2 [l,n] ((w.alloc (.cells (aA k s a len cap l hi).toArray 151)).alloc (.cells #[.int .i64 (l:Nat),.int .i64 (n:Nat)] 3)) (nO _ [l,n] (by simp)) (by intro y hy;simp at hy;unfold aC at hn;rcases hy with rfl | rfl <;> omega) (by simp)
 rw[World.size_alloc] at hm1
 have Zq:mulN l n≤aC:=Ae
 rw[mul_two] at hm1
 obtain⟨p,hp⟩:∃ p,mulN l n=p:=⟨_,rfl⟩
 rw[hp] at hm1 Zq
 have Af:=ah hm1
 by_cases h3:hi<0
 ·have e:lW l hi n=addN (addN p n) 1:=by unfold lW;rw[if_neg hn0,if_pos h3,Int.toNat_natCast,hp]
  have ha:=fun u=>uG u.heap.size 0 3 3 [p,n,1] (u.alloc (.cells #[.int .i64 (p:Nat),.int .i64 (n:Nat),.int .i64 1] 3)) (nO u [p,n,1] (by simp)) (by intro y hy;simp at hy;rcases hy with rfl | rfl | rfl <;> assumption)
  rw[Ig Zq,←e] at ha
  have HA:=ah ha
  unfold aC at Af HA
  clear ha hm1 e hp hn0
  generalize lW l hi n=ans at *
  go_enter Tryz.func231,Tryz.ntmps231
  go_wp2_with (first | (go_at_call 281;go_must (refine Af.out.mono ?_;rintro e w2 ⟨rfl,hb2⟩;have hx2:=(hx0.alloc (.cells #[.int .i64 (l:Nat),.int .i64 (n:Nat)] 3)).kept hb2;have z6:w2.cell? ⟨w.heap.size,6,none⟩=some (.int .i64 l):=hx2.cell 6;have z7:w2.cell? ⟨w.heap.size,7,none⟩=some (.int .i64 hi):=hx2.cell 7;have hsz:=hx2.lt)) | (go_at_call 182;go_must (refine(HA.out _).mono ?_;rintro e w4 ⟨rfl,hb4⟩)))
  go_ret
  have hB1:=hB0.trans ((aj _ (.cells #[.int .i64 (l:Nat),.int .i64 (n:Nat)] 3)).mono hB0.size)
  have hB2:=hB1.trans (hb2.mono hB1.size)
  have hB3:=hB2.trans ((aj w2 (.cells #[.int .i64 (p:Nat),.int .i64 (n:Nat),.int .i64 1] 3)).mono hB2.size)
  exact⟨rfl,hB3.trans (hb4.mono hB3.size)⟩
 by_cases h4:(l:Int)<hi
 ·obtain⟨d,hd⟩:∃ d:Nat,hi=(l:Int)+(d:Int):=⟨(hi - l).toNat,by omega⟩
  have hdt:(hi - (l:Int)).toNat=d:=by omega
  have hm2:=fun u=>RH u.heap.size 0 2 2 [d,n] (u.alloc (.cells #[.int .i64 (d:Nat),.int .i64 (n:Nat)] 3)) (nO u [d,n] (by simp)) (by intro y hy;simp at hy;unfold aC at hn;rcases hy with rfl | rfl <;> omega) (by simp)
  have aiX:mulN d n≤aC:=Ae
  rw[mul_two] at hm2
  obtain⟨q,hq⟩:∃ q,mulN d n=q:=⟨_,rfl⟩
  rw[hq] at hm2 aiX
  have e:lW l hi n=addN (addN p q) 1:=by unfold lW;rw[if_neg hn0,if_neg h3,if_pos h4,hdt,Int.toNat_natCast,hp,hq]
  have ha:=fun u=>uG u.heap.size 0 3 3 [p,q,1] (u.alloc (.cells #[.int .i64 (p:Nat),.int .i64 (q:Nat),.int .i64 1] 3)) (nO u [p,q,1] (by simp)) (by intro y hy;simp at hy;rcases hy with rfl | rfl | rfl <;> assumption)
  rw[Ig Zq,←e] at ha
  have hsub:hi - (l:Int)=(d:Int):=by omega
  have HA:=ah ha
  have Ii:=ah hm2
  unfold aC at Af HA Ii
  clear ha hm1 hm2 e hp hq hn0 hd hdt
  generalize lW l hi n=ans at *
  go_enter Tryz.func231,Tryz.ntmps231
  go_wp2_with fail
  refine Af.out.mono ?_
  rintro e w2 ⟨rfl,hb2⟩
  have hx2:=(hx0.alloc (.cells #[.int .i64 (l:Nat),.int .i64 (n:Nat)] 3)).kept hb2
  have z6:w2.cell? ⟨w.heap.size,6,none⟩=some (.int .i64 l):=hx2.cell 6
  have z7:w2.cell? ⟨w.heap.size,7,none⟩=some (.int .i64 hi):=hx2.cell 7
  have hsz:=hx2.lt
  go_wp2_with (first | (go_at_call 281;go_must (refine(Ii.out _).mono ?_;rintro e w3 ⟨rfl,hb3⟩)) | (go_at_call 182;go_must (refine(HA.out _).mono ?_;rintro e w4 ⟨rfl,hb4⟩)))
  go_ret
  have hB1:=hB0.trans ((aj _ (.cells #[.int .i64 (l:Nat),.int .i64 (n:Nat)] 3)).mono hB0.size)
  have hB2:=hB1.trans (hb2.mono hB1.size)
  have hB3:=hB2.trans ((aj w2 (.cells #[.int .i64 (d:Nat),.int .i64 (n:Nat)] 3)).mono hB2.size)
  have hB4:=hB3.trans (hb3.mono hB3.size)
  have dw:=hB4.trans ((aj w3 (.cells #[.int .i64 (p:Nat),.int .i64 (q:Nat),.int .i64 1] 3)).mono hB4.size)
  exact⟨rfl,dw.trans (hb4.mono dw.size)⟩
 ·have e:lW l hi n=p:=by unfold lW;rw[if_neg hn0,if_neg h3,if_neg h4,Int.toNat_natCast,hp]
  rw[e]
  clear hm1 e hp hn0
  unfold aC at Af
  go_enter Tryz.func231,Tryz.ntmps231
  go_wp2_with (go_at_call 281;go_must (refine Af.out.mono ?_;rintro e w2 ⟨rfl,hb2⟩;have hx2:=(hx0.alloc (.cells #[.int .i64 (l:Nat),.int .i64 (n:Nat)] 3)).kept hb2;have z6:w2.cell? ⟨w.heap.size,6,none⟩=some (.int .i64 l):=hx2.cell 6;have z7:w2.cell? ⟨w.heap.size,7,none⟩=some (.int .i64 hi):=hx2.cell 7))
  go_ret
  have hB1:=hB0.trans ((aj _ (.cells #[.int .i64 (l:Nat),.int .i64 (n:Nat)] 3)).mono hB0.size)
  exact⟨rfl,hB1.trans (hb2.mono hB1.size)⟩
end
section
open Go.RowKit
theorem Ij(k:Int)(s:ay)(kids:List Tr)(lo hi:Int):aS (.mk k s kids lo hi)=if k=2∨k=4 then bD 0 kids else if k=9 then lW lo hi (bD 0 kids) else addN (bD 0 kids) 1:=by
 rw[aS];rfl
theorem Dk:∀ (l:List Tr),sG l=true→∀ i (h:i<l.length),allT l[i]=true
 | [],_,i,h=>by simp at h
 | x::l,hl,i,h=>by
  rw[sG,Bool.and_eq_true] at hl
  cases i with
  | zero=>exact hl.1
  | succ i=>exact Dk l hl.2 i (by simpa using h)
theorem Ik:∀ (V:Vt) (w:World),Lies w V→allT V.tr=true→Calls Tryz.prog 185 #[.agg V.cells.toArray] w (bV w (.int .i64 (aS V.tr:Nat))):=by
 refine Vt.ind fun k s a cap kids lo hi ih=>?_
 intro w hL hall
 rw[Vt.jd] at hall ⊢
 rw[Ij]
 rw[allT,Bool.and_eq_true] at hall
 obtain⟨hk,hlo,hhi,hs,hkids⟩:=hL.open
 have hB0:=aj w (.cells (aA k s a kids.length cap lo hi).toArray 151)
 have hx0:=Box.new w (aA k s a kids.length cap lo hi).toArray 151
 have hsum:=Ue kids a cap _ (hs.kept hB0) (fun i hi2=>(hkids i hi2).kept hB0) (fun i hi2 u hu=>ih i hi2 u hu (by
  have:=Dk _ hall.2 i (by simpa using hi2)
  rwa[List.getElem_map] at this))
 have hone:=hall.1
 have Zr:bD 0 (kids.map Vt.tr)≤aC:=uV _ _ (by simp[aC])
 have Il:k=9→vP lo hi=true:=fun e=>by
  unfold dI at hone
  rw[Bool.and_eq_true,Bool.and_eq_true,if_pos e] at hone
  exact hone.1.2
 generalize bD 0 (kids.map Vt.tr)=n at *
 have HS:=ah hsum
 show Calls Tryz.prog 185 #[.agg (aA k s a kids.length cap lo hi).toArray] w _
 clear hsum ih hall hone hL hs hkids
 generalize kids.length=len at *
 have SUM:True:=trivial
 by_cases h2:k=2∨k=4
 ·rw[if_pos h2]
  have e2:(k==2)=true∨((k==2)=false∧(k==4)=true):=by
   rcases h2 with rfl | rfl
   ·exact .inl rfl
   ·exact .inr ⟨rfl,rfl⟩
  clear h2 Il
  rcases e2 with e2 | ⟨e2,e4⟩
  all_goals
   go_enter Tryz.func185,Tryz.ntmps185
   go_wp2_with (go_at_call 183;go_must (refine HS.out.mono ?_;rintro e w2 ⟨rfl,hb2⟩;have hx2:=hx0.kept hb2;have z0:w2.cell? ⟨w.heap.size,0,none⟩=some (.int .i64 k):=hx2.cell 0))
   go_ret
   exact⟨rfl,hB0.trans (hb2.mono hB0.size)⟩
 rw[if_neg h2]
 have e2:(k==2)=false:=by rw[beq_eq_false_iff_ne];omega
 have e4:(k==4)=false:=by rw[beq_eq_false_iff_ne];omega
 by_cases h9:k=9
 ·rw[if_pos h9]
  have ht:=Il h9
  unfold vP at ht
  simp only[Bool.and_eq_true,Bool.or_eq_true,decide_eq_true_eq] at ht
  have Ag:=fun u=>WJ k s a len cap lo hi n u ⟨by omega,by omega⟩ ⟨by omega,by omega⟩ Zr
  have HT:=ah Ag
  subst h9
  clear ht Ag Il h2
  go_enter Tryz.func185,Tryz.ntmps185
  go_wp2_with (first | (go_at_call 183;go_must (refine HS.out.mono ?_;rintro e w2 ⟨rfl,hb2⟩;have hx2:=hx0.kept hb2;have z0:w2.cell? ⟨w.heap.size,0,none⟩=some (.int .i64 9):=hx2.cell 0;have z1:w2.cell? ⟨w.heap.size,1,none⟩=some (.int .u64 (word s 0:Nat)):=hx2.cell 1;have z2:w2.cell? ⟨w.heap.size,2,none⟩=some (.int .u64 (word s 1:Nat)):=hx2.cell 2;have z3:w2.cell? ⟨w.heap.size,3,none⟩=some (.int .u64 (word s 2:Nat)):=hx2.cell 3;have z4:w2.cell? ⟨w.heap.size,4,none⟩=some (.int .u64 (word s 3:Nat)):=hx2.cell 4;have z5:w2.cell? ⟨w.heap.size,5,none⟩=some (.slice a len cap):=hx2.cell 5;have z6:w2.cell? ⟨w.heap.size,6,none⟩=some (.int .i64 lo):=hx2.cell 6;have z7:w2.cell? ⟨w.heap.size,7,none⟩=some (.int .i64 hi):=hx2.cell 7)) | (go_at_call 231;go_must (refine(HT.out _).mono ?_;rintro e w3 ⟨rfl,hb3⟩)))
  go_ret
  have hB2:=hB0.trans (hb2.mono hB0.size)
  exact⟨rfl,hB2.trans (hb3.mono hB2.size)⟩
 ·rw[if_neg h9]
  have e9:(k==9)=false:=by rw[beq_eq_false_iff_ne];exact h9
  have ha:=fun u=>uG u.heap.size 0 2 2 [n,1] (u.alloc (.cells #[.int .i64 (n:Nat),.int .i64 1] 3)) (nO u [n,1] (by simp)) (by intro y hy;simp at hy;rcases hy with rfl | rfl;exact Zr;unfold aC;omega)
  rw[xP Zr] at ha
  have HA:=ah ha
  unfold aC at HA
  clear ha h2 h9 Il
  generalize addN n 1=ans at *
  go_enter Tryz.func185,Tryz.ntmps185
  go_wp2_with (first | (go_at_call 183;go_must (refine HS.out.mono ?_;rintro e w2 ⟨rfl,hb2⟩;have hx2:=hx0.kept hb2;have z0:w2.cell? ⟨w.heap.size,0,none⟩=some (.int .i64 k):=hx2.cell 0)) | (go_at_call 182;go_must (refine(HA.out _).mono ?_;rintro e w4 ⟨rfl,hb4⟩)))
  go_ret
  have hB2:=hB0.trans (hb2.mono hB0.size)
  have hB3:=hB2.trans ((aj w2 (.cells #[.int .i64 (n:Nat),.int .i64 1] 3)).mono hB2.size)
  exact⟨rfl,hB3.trans (hb4.mono hB3.size)⟩
end
section
open Go.RowKit
def Ci(x:Tr):Nat:=addN (aS x) 1
def oZ(a:Nat)(l:List Tr):Nat:=l.foldl (fun a x=>addN a (Ci x)) a
theorem ad6(x:Tr):Ci x≤aC:=qg (wR x)
theorem JW:∀ (l:List Tr) (a:Nat),a≤aC→oZ a l≤aC
 | [],_,h=>h
 | x::l,a,h=>JW l (addN a (Ci x)) (qg h)
theorem WL(l:List Tr)(j:Nat)(h:j<l.length):oZ 0 (l.take (j+1))=addN (oZ 0 (l.take j)) (Ci l[j]):=by
 unfold oZ;rw[List.take_succ_eq_append_getElem h,List.foldl_append];rfl
def oz(l:List Tr):Nat:=addN 1 (oZ 0 l)
theorem Zt(kids:List Vt)(a:Option Addr)(cap:Nat)(w:World)(sA:ak w (.slice a kids.length cap) 8 Vt.cells kids)(lA:∀ i (h:i<kids.length),Lies w kids[i])
  (ih:∀ i (h:i<kids.length) (u:World),Lies u kids[i]→Calls Tryz.prog 184 #[.agg kids[i].cells.toArray] u (bV u (.int .i64 (Ci kids[i].tr:Nat)))) :
  Calls Tryz.prog 183 #[.func (.func 184) #[] #[],.slice a kids.length cap] w (bV w (.int .i64 (oZ 0 (kids.map Vt.tr):Nat))):=by
 obtain⟨b,o,c1,c2,c3,c4,c5⟩:=sA.kids
 clear sA c4
 have HC:=ah c5;have HI:=ah ih;have LA:=ah lA
 clear c5 ih lA
 obtain⟨n,hn⟩:∃ n,kids.length=n:=⟨_,rfl⟩
 have HN:=ah hn
 have h3:∀ i,i<n→a=some ⟨b,o,none⟩:=by rw[←hn];exact c3
 have hnc:n≤cap:=by rw[←hn];exact c1
 rw[hn]
 clear c3 c1 hn
 go_enter Tryz.func183,Tryz.ntmps183
 go_wp2
 go_loopw [5,10] (fun v i wr=>∃ k:Nat,k≤n∧i=.int .i64 k∧v=.int .i64 (oZ 0 ((kids.map Vt.tr).take k):Nat)∧Below w.heap.size w wr) (fun _ i _=>n - (intOf i).toNat)
 case atStart=>exact⟨0,Nat.zero_le _,rfl,rfl,Below.refl _ _⟩
 case round =>
  obtain⟨k,hk,rfl,rfl,hB⟩:=hrel
  by_cases hlt:k<n
  ·have hlk:k<kids.length:=by rw[HN.out];exact hlt
   obtain rfl:=h3 k hlt
   have e1:=HC.out k hlk wr hB
   have hw:=WL (kids.map Vt.tr) k (by simpa using hlk)
   rw[List.getElem_map] at hw
   have hs1:oZ 0 ((kids.map Vt.tr).take k)≤aC:=JW _ _ (by simp[aC])
   have hx1:=ad6 kids[k].tr
   have hlies:=LA.out k hlk
   have hcall:=HI.out k hlk
   generalize kids[k]=V at *
   generalize Ci V.tr=x at *
   generalize oZ 0 ((kids.map Vt.tr).take k)=s at *
   obtain⟨k5,s5,a5,cp5,bI,bJ,hi5⟩:=V
   obtain⟨x0,x1,x2,x3,x4,x5,x6,x7⟩:=oO e1
   have hbl:=World.block_lt_of_cell? wr _ x0
   have hB1:=hB.trans ((aj wr (.cells (aA k5 s5 a5 bI.length cp5 bJ hi5).toArray 151)).mono hB.size)
   have hcl:=hcall _ (hlies.kept hB1)
   have hadd:=fun u=>uG u.heap.size 0 2 2 [s,x] (u.alloc (.cells #[.int .i64 (s:Nat),.int .i64 (x:Nat)] 3)) (nO u [s,x] (by simp)) (by intro y hy;simp at hy;rcases hy with rfl | rfl;exact hs1;exact hx1)
   obtain⟨s2,hs2⟩:∃ s2,oZ 0 ((kids.map Vt.tr).take (k+1))=s2:=⟨_,rfl⟩
   rw[xP hs1,←hw,hs2] at hadd
   have HS2:=ah hs2
   have nD:=ah hcl
   have HAD:=ah hadd
   clear e1 hw hlies hcall hcl hadd hs1 hx1 hs2
   have hki:(k:Int)<(n:Int):=by omega
   have hk0:(0:Int)≤(k:Int):=by omega
   unfold aC at HAD
   go_wp2_with (first | (go_at_call 184;go_must (refine nD.out.mono ?_;rintro e w2 ⟨rfl,hb2⟩;have hB2:=hB1.trans (hb2.mono hB1.size);have hB3:=hB2.trans ((aj w2 (.cells #[.int .i64 (s:Nat),.int .i64 (x:Nat)] 3)).mono hB2.size))) | (go_at_call 182;go_must (refine(HAD.out _).mono ?_;rintro e w4 ⟨rfl,hb4⟩)))
   exact⟨⟨k+1,hlt,by push_cast;rfl,by rw[HS2.out],hB3.trans (hb4.mono hB3.size)⟩,by simp[intOf];omega⟩
  ·obtain rfl:k=n:=by omega
   rw[List.take_of_length_le (by rw[List.length_map,HN.out];exact Nat.le_refl _)]
   go_wp2
   go_ret
   exact⟨rfl,hB⟩
theorem Zu(V:Vt)(w:World)(hL:Lies w V)(hall:allT V.tr=true):Calls Tryz.prog 184 #[.agg V.cells.toArray] w (bV w (.int .i64 (Ci V.tr:Nat))):=by
 have hW:=fun u hu=>Ik V u hu hall
 have hle:=wR V.tr
 unfold Ci
 generalize aS V.tr=x at *
 obtain⟨k,s,a,cap,kids,lo,hi⟩:=V
 have hB0:=aj w (.cells (aA k s a kids.length cap lo hi).toArray 151)
 have hw0:=hW _ (hL.kept hB0)
 have ha:=fun u=>uG u.heap.size 0 2 2 [x,1] (u.alloc (.cells #[.int .i64 (x:Nat),.int .i64 1] 3)) (nO u [x,1] (by simp)) (by intro y hy;simp at hy;rcases hy with rfl | rfl;exact hle;unfold aC;omega)
 rw[xP hle] at ha
 have HA:=ah ha
 have HW:=ah hw0
 unfold aC at HA
 show Calls Tryz.prog 184 #[.agg (aA k s a kids.length cap lo hi).toArray] w _
 clear ha hw0 hW hL hall
 generalize addN x 1=ans at *
 go_enter Tryz.func184,Tryz.ntmps184
 go_wp2_with (first | (go_at_call 185;go_must (refine HW.out.mono ?_;rintro e w2 ⟨rfl,hb2⟩)) | (go_at_call 182;go_must (refine(HA.out _).mono ?_;rintro e w4 ⟨rfl,hb4⟩)))
 go_ret
 have hB2:=hB0.trans (hb2.mono hB0.size)
 have hB3:=hB2.trans ((aj w2 (.cells #[.int .i64 (x:Nat),.int .i64 1] 3)).mono hB2.size)
 exact⟨rfl,hB3.trans (hb4.mono hB3.size)⟩
theorem Zv(l:List Vt)(a:Option Addr)(cap:Nat)(w:World)(sA:ak w (.slice a l.length cap) 8 Vt.cells l)(lA:∀ i (h:i<l.length),Lies w l[i])(hall:∀ i (h:i<l.length),allT l[i].tr=true) :
  Calls Tryz.prog 143 #[.slice a l.length cap] w (bV w (.int .i64 (oz (l.map Vt.tr):Nat))):=by
 have hs:=Zt l a cap w sA lA (fun i h u hu=>Zu l[i] u hu (hall i h))
 have hle:oZ 0 (l.map Vt.tr)≤aC:=JW _ _ (by simp[aC])
 unfold oz
 generalize oZ 0 (l.map Vt.tr)=x at *
 have ha:=fun u=>uG u.heap.size 0 2 2 [1,x] (u.alloc (.cells #[.int .i64 1,.int .i64 (x:Nat)] 3)) (nO u [1,x] (by simp)) (by intro y hy;simp at hy;rcases hy with rfl | rfl;unfold aC;omega;exact hle)
 rw[xP (by unfold aC;omega)] at ha
 have HA:=ah ha
 have HS:=ah hs
 unfold aC at HA
 clear ha hs sA lA hall
 generalize l.length=n at *
 generalize addN 1 x=ans at *
 go_enter Tryz.func143,Tryz.ntmps143
 go_wp2_with (first | (go_at_call 183;go_must (refine HS.out.mono ?_;rintro e w2 ⟨rfl,hb2⟩)) | (go_at_call 182;go_must (refine(HA.out _).mono ?_;rintro e w4 ⟨rfl,hb4⟩)))
 go_ret
 have hB3:=hb2.trans ((aj w2 (.cells #[.int .i64 1,.int .i64 (x:Nat)] 3)).mono hb2.size)
 exact⟨rfl,hB3.trans (hb4.mono hB3.size)⟩
end
section
open Go.RowKit Go.Shelf
attribute [local go_sem] Oper.semAt_some
theorem iJ:dQ Tryz.prog 24 3 (.int .i64 0) 1 8:=⟨Tryz.underlying24,info_parts (by kernel_rfl),rfl,by decide⟩
def aiY(b B0:Nat)(w:World)(pre:List Nat)(W:World):Prop:=(∃ (a:Option Addr) (cap:Nat),Box W b #[.slice a pre.length cap] 24∧Own W B0 3 1 aI (.slice a pre.length cap) pre)∧B0≤W.heap.size∧Below b w W
set_option maxRecDepth 100000 in
theorem QL(Bq p g N S:Nat)(w:World)(hN:N≤1048576)(hT:Tab w)(hq:Box w Bq #[.pointer (some ⟨p,0,none⟩)] 353)(hB:fB w p g N S) :
  Calls Tryz.prog 210 #[.slice none 0 0,.func (.func 329) #[] #[.pointer (some ⟨Bq,0,none⟩)]] w (gu w 3 1 aI (fM N S)):=by
 have hlen:=KI N S
 have hpos:=hT.pos
 have hgl:=hB.words.lt
 obtain⟨W0,hW0⟩:∃ W0,(w.alloc (.cells #[.slice none 0 0] 24))=W0:=⟨_,rfl⟩
 have hB0:Below w.heap.size w W0:=by rw[←hW0];exact aj _ _
 have hsz0:W0.heap.size=w.heap.size+1:=by rw[←hW0];simp
 have hn0:Box W0 w.heap.size #[.slice none 0 0] 24:=by rw[←hW0];exact Box.new _ _ _
 have hst:=JR 5 Bq p g N S (fun b=>b=w.heap.size∨W0.heap.size≤b) W0 hN (by omega) (by omega) (hT.kept hB0) (hq.kept hB0) (hB.kept hB0)
 have HST:=ah hst
 clear hst hq hB
 refine(callsIn_wide (n:=6)).1 ?_
 refine callsIn_of_wp_marks Tryz.func210 rfl trivial ?_ rfl
 simp only[Tryz.ntmps210,List.size_toArray,List.length_cons,List.length_nil,Nat.reduceAdd,Nat.reduceSub,Array.replicate_succ,Array.replicate_zero,List.push_toArray,List.append_toArray,List.nil_append,List.cons_append]
 gi_wp2
 clear hW0
 refine wpIn_rangeFunc_ownF rfl (by decide) (gf:=329) (lb:=#[.pointer (some ⟨Bq,0,none⟩)]) rfl trivial (enters_of Tryz.func329 (by kernel_rfl) rfl)
  HST.out (fun h k=>h.trans k) Ey (Below.refl _ _) (fun _=>rfl)
  (aiY w.heap.size W0.heap.size w) (fun _ _ _=>False)
  (OwnFrom.and (fun pre W W' row ⟨a,cap,h1,h2⟩ hg hr=>⟨a,cap,gJ _ _ _ (fun _:Unit=>#[.slice a pre.length cap]) () W W' row h1 hg hr,zF _ _ _ _ _ (fun _:Unit=>.slice a pre.length cap) (fun _=>pre) () W W' row h2 hg hr⟩)
   (OwnFrom.and (fun _ _ _ _ h hg _=>Nat.le_trans h hg.size) (ownFrom_below (Nat.le_refl _) (by omega))))
  (fun _=>MG _) ⟨⟨none,0,hn0,Own.nil _ _ _ _ _⟩,Nat.le_refl _,hB0⟩
  (fun x=>{ tmps:=#[.slice none 0 0,.func (.func 329) #[] #[.pointer (some ⟨Bq,0,none⟩)],.pointer (some ⟨w.heap.size,0,none⟩),undef,.slice none 0 0,.int .i64 (x:Nat),.func (.func 329) #[] #[.pointer (some ⟨Bq,0,none⟩)],.int .i64 (x:Nat),undef,undef,undef,undef,undef],defers:=[] }) ?assign ?body ?done ?stop
 case assign =>
  intro l x W K hK
  dsimp only[oU]
  go_simp
  gi_wp2
  exact hK
 case body =>
  rintro l pre x W ⟨⟨a,cap,hb,hown⟩,hWs,hB⟩ hlt
  have c0:=hb.cell 0
  have f0:=hb.free 0
  have hle:pre.length+1≤1048576:=by omega
  gi_wp2_with (gi_at_builtin;go_must (refine Gl rfl _ _ 24 rfl iJ dF rfl (hown.alloc _) ⟨W.heap.size,0,none⟩ 1 x rfl (cZ W [.int .i64 (x:Nat)] _) (by simp[maxLen];omega) (by omega) (by simp;omega) ?_;intro a' cap' W' hown' hg;change (W.alloc _).grownBy W' (Value.slice a pre.length cap).ownBlock at hg;have hbs:=(hb.alloc _).grown (hown.alloc _) hg (by omega);have hfs:=hbs.free 0;have hcs:=hbs.cell 0))
  have hlen':(pre++[x]).length=pre.length+1:=by simp
  refine⟨((KeepsOthers.alloc _ _).trans (KeepsOthers.Gm (hown.alloc _) hg)).trans (KeepsOthers.setCell _ _ _),((aJ.below ((Below.refl _ W).alloc (Nat.le_refl _) _)).trans (aJ.grown (hown.alloc _) hg (fun b hb=>.inr hb))).trans (aJ.set _ _ _ (.inl rfl)),⟨a',cap',?_,?_⟩,?_,?_⟩
  ·rw[hlen'];exact hbs.set 0 _
  ·rw[hlen'];exact hown'.other _ _ (by simp;omega)
  ·have:=hg.size;simp at this ⊢;omega
  ·exact(below_grown (hB.alloc hB.size _) (hown.alloc _) hg (by omega) (by simp;omega)).setCell (by simp) _
 case done =>
  rintro D ys W hD rfl ⟨⟨a,cap,hb,hown⟩,hWs,hB⟩ hK
  have c0:=hb.cell 0
  gi_wp2
  refine⟨by simp,.inl ⟨_,_,rfl,run_takeDeferred hK,?_⟩⟩
  refine⟨_,results_tmp rfl _ _ _,a,cap,rfl,?_,hB.trans (belowK_b (w:=w) (Nat.le_refl _) W D _ _ (by omega) hK rfl rfl)⟩
  exact(zF W0.heap.size W0.heap.size 3 1 aI (fun _:Unit=>.slice a (fM N S).length cap) (fun _=>fM N S) () _ _ (some D) hown (grownBy_putObj' _ D (.deferred none)) (fun r e=>by cases e;exact⟨by omega,_,hK,rfl⟩)).mono (by omega)
 case stop =>
  rintro D c pre W _ _ h _
  exact h.elim
theorem Om(Bq p g N S:Nat)(w:World)(hN:N≤1048576)(hT:Tab w)(hq:Box w Bq #[.pointer (some ⟨p,0,none⟩)] 353)(hB:fB w p g N S) :
  Calls Tryz.prog 162 #[.func (.func 329) #[] #[.pointer (some ⟨Bq,0,none⟩)]] w (gu w 3 1 aI (fM N S)):=by
 have H:=ah (QL Bq p g N S w hN hT hq hB)
 clear hT hq hB
 go_enter Tryz.func162,Tryz.ntmps162
 go_wp2_with (go_at_call 210;go_must (refine H.out.mono ?_;rintro e w2 ⟨a,cap,rfl,ho,hb⟩))
 go_ret
 exact⟨a,cap,rfl,ho,hb⟩
theorem Zw(p g N S:Nat)(w:World)(hN:N≤1048576)(hT:Tab w)(hB:fB w p g N S) :
  Calls Tryz.prog 310 #[.pointer (some ⟨p,0,none⟩)] w (gu w 3 1 aI (fM N S)):=by
 have hA:=QG (some ⟨p,0,none⟩) w
 have hB0:=aj w (.cells #[.pointer (some ⟨p,0,none⟩)] 353)
 have H:=ah (Om w.heap.size p g N S _ hN (hT.kept hB0) (Box.new _ _ _) (hB.kept hB0))
 have HA:=ah hA
 clear hT hB hA
 go_enter Tryz.func310,Tryz.ntmps310
 go_wp2_with (first | (go_at_call 321;go_must (refine HA.out.mono ?_;rintro e w2 ⟨rfl,rfl⟩)) | (go_at_call 162;go_must (refine H.out.mono ?_;rintro e w3 ⟨a,cap,rfl,ho,hb⟩)))
 go_ret
 exact⟨a,cap,rfl,ho.mono hB0.size,hB0.trans (hb.mono hB0.size)⟩
end
section
open Go.RowKit
theorem Ol.over{b:Nat}{g:Nat×Nat}{n cap fr p:Nat}{l:List UInt8}{w w1:World}{r:Sum (Nat×Nat) (Nat×Nat)}{e:Ending}{w':World}(ho:Only b w w1)(h:Ol b g n cap fr p l w1 r e w'):Ol b g n cap fr p l w r e w':=by
 cases r with
 | inl q=>obtain⟨c,j,h1,h2,h3,h4,h5⟩:=h;exact⟨c,j,h1,h2,h3,h4,ho.trans h5⟩
 | inr q=>obtain⟨h1,h2,h3,h4,h5⟩:=h;exact⟨h1,h2,h3,h4,ho.trans h5⟩
theorem Ol.val{b:Nat}{g:Nat×Nat}{n cap fr p:Nat}{l:List UInt8}{w:World}{r:Sum (Nat×Nat) (Nat×Nat)}{e:Ending}{w':World}(h:Ol b g n cap fr p l w r e w'):∃ c:Nat,e=.returned (.int .u8 c):=by
 cases r with
 | inl q=>obtain⟨c,j,h1,h2,h3,h4,h5⟩:=h;exact⟨c,h3⟩
 | inr q=>obtain⟨h1,h2,h3,h4,h5⟩:=h;exact⟨_,h3⟩
end
section
open Go.RowKit
def abq(lo hi:Nat):ay:=ofP fun b=>decide (lo≤b)&&decide (b≤hi)
def ad7(b:Nat)(g:Nat×Nat)(n cap fr p:Nat)(l:List UInt8)(w:World)(r:Sum (Nat×Nat) ((Nat×Nat)×Nat))(e:Ending)(w':World):Prop :=
 match r with
 | .inr (q,j)=>j≤n∧Ih b g n cap fr l w (oH (abq q.1 q.2)) j 0 p e w'
 | .inl (kd,ps)=>kd≠0∧∃ (s:ay) (j:Nat),j≤n∧Ih b g n cap fr l w (oH s) j kd ps e w'
theorem ad7.ok{b:Nat}{g:Nat×Nat}{n cap fr p lo hi j:Nat}{l:List UInt8}{w w':World}{e:Ending}(hj:j≤n)(h:Ih b g n cap fr l w (oH (abq lo hi)) j 0 p e w'):ad7 b g n cap fr p l w (.inr ((lo,hi),j)) e w':=⟨hj,h⟩
theorem Only.late{b g i:Nat}{w w':World}(h:Only b w w')(hb:b≤w.heap.size)(hg:w.heap.size≤g)(v:Value):Only b w (w'.setCell ⟨g,i,none⟩ v) :=
 ⟨h.1.setCell (p:=⟨g,i,none⟩) (Nat.le_trans hb hg) v,by simpa [World.setCell] using h.2.size,fun b' hb' c E fr e=>by
  have hlt:b'<w.heap.size:=(Array.getElem?_eq_some_iff.1 e).1
  exact(Below.heap_setCell w' ⟨g,i,none⟩ v b' (fun e2=>by have:b'=g:=e2;omega)).trans (h.2.same b' hb' c E fr e)⟩
end
section
open Go.RowKit
instance aiZ (X:Nat→Prop):iT (aJ X):=⟨aJ.refl X,fun _ _ _ h k=>h.trans k,fun _ _ h=>aJ.below h⟩
def fG(k p:Nat):Value:=.agg #[.int .i64 k,.int .i64 p]
structure CR(w W:World)(g:Nat×Nat)(n cap fr i k p:Nat)(l:List UInt8):Prop where
 x0:Box W w.heap.size (dX 0) 149
 x1:Box W (w.heap.size+1) #[.int .i64 0,.int .i64 0] 88
 rd:oW W (w.heap.size+1+1) g n cap i fr k p l
 below:Below w.heap.size w W
theorem CR.step{w W W':World}{g:Nat×Nat}{n cap fr i k p i' k' p':Nat}{l:List UInt8}(h:CR w W g n cap fr i k p l)(hr:oW W' (w.heap.size+1+1) g n cap i' fr k' p' l)(ho:Only (w.heap.size+1+1) W W'):CR w W' g n cap fr i' k' p' l :=
 ⟨ho.box h.x0 (by omega),ho.box h.x1 (by omega),hr,h.below.trans (ho.1.mono (by omega))⟩
theorem CR.kept{w W W':World}{g:Nat×Nat}{n cap fr i k p:Nat}{l:List UInt8}(h:CR w W g n cap fr i k p l)(hb:Below W.heap.size W W'):CR w W' g n cap fr i k p l :=
 ⟨h.x0.kept hb,h.x1.kept hb,h.rd.kept hb,h.below.trans (hb.mono h.below.size)⟩
theorem CR.only{w W W':World}{g:Nat×Nat}{n cap fr i k p:Nat}{l:List UInt8}(h:CR w W g n cap fr i k p l)(ho:Below W.heap.size W W'):Only (w.heap.size+1+1) W W':=Only.below ho (Nat.le_of_lt h.rd.box.lt)
theorem CR.ends{w W:World}{g:Nat×Nat}{n cap fr i k p:Nat}{l:List UInt8}(h:CR w W g n cap fr i k p l)(v0 v1 v2 v3 u0 u1:Value) :
  Box ((((((W.setCell ⟨w.heap.size,0,none⟩ v0).setCell ⟨w.heap.size,1,none⟩ v1).setCell ⟨w.heap.size,2,none⟩ v2).setCell ⟨w.heap.size,3,none⟩ v3).setCell ⟨w.heap.size+1,0,none⟩ u0).setCell ⟨w.heap.size+1,1,none⟩ u1) w.heap.size #[v0,v1,v2,v3] 149 ∧
  Box ((((((W.setCell ⟨w.heap.size,0,none⟩ v0).setCell ⟨w.heap.size,1,none⟩ v1).setCell ⟨w.heap.size,2,none⟩ v2).setCell ⟨w.heap.size,3,none⟩ v3).setCell ⟨w.heap.size+1,0,none⟩ u0).setCell ⟨w.heap.size+1,1,none⟩ u1) (w.heap.size+1) #[u0,u1] 88 ∧
  Below w.heap.size w ((((((W.setCell ⟨w.heap.size,0,none⟩ v0).setCell ⟨w.heap.size,1,none⟩ v1).setCell ⟨w.heap.size,2,none⟩ v2).setCell ⟨w.heap.size,3,none⟩ v3).setCell ⟨w.heap.size+1,0,none⟩ u0).setCell ⟨w.heap.size+1,1,none⟩ u1) :=
 ⟨((h.x0.zS rfl v0 v1 v2 v3).other _ _ (by simp)).other _ _ (by simp),(((h.x1.adF (by omega) v0 v1 v2 v3).set 0 u0).set 1 u1),
  (((((h.below.setCell (by simp) _).setCell (by simp) _).setCell (by simp) _).setCell (by simp) _).setCell (by simp) _).setCell (by simp) _⟩
section
variable {P:Program} {ops:Array Oper} {Q:Exit→Act→World→Prop} {md:Region.Mode}
end
structure Turns(B E:Nat)(fin:Array Value)(w w':World):Prop where
 keep:aJ (·=B) w w'
 low:B≤w.heap.size→Below B w w'
 box:∀ c,Box w B c E→Box w' B c E∨Box w' B fin E
instance ai0 (B E:Nat) (fin:Array Value):iT (Turns B E fin) where
 refl:=fun _=>⟨aJ.refl _ _,fun _=>Below.refl _ _,fun _ h=>.inl h⟩
 trans:=fun _ _ _ h k=>⟨h.keep.trans k.keep,fun hb=>(h.low hb).trans (k.low (Nat.le_trans hb h.keep.size)),fun c hc=>(h.box c hc).elim (k.box c) (fun h2=>(k.box _ h2).elim .inr .inr)⟩
 later:=fun _ _ h=>⟨aJ.below h,fun hb=>Below.mono h hb,fun _ hc=>.inl (hc.kept h)⟩
theorem Turns.fin{B E:Nat}{fin:Array Value}{w w':World}(h:Turns B E fin w w')(hb:Box w B fin E):Box w' B fin E:=(h.box _ hb).elim id id
theorem yM(B i:Nat)(w:World)(v:Value):aJ (·=B) w (w.setCell ⟨B,i,none⟩ v):=aJ.set w _ v rfl
structure CT(w W:World)(g:Nat×Nat)(n cap fr i k p:Nat)(l:List UInt8)(fin:ay):Prop where
 x0:Box W w.heap.size (dX 0) 149∨Box W w.heap.size (dX fin) 149
 x1:Box W (w.heap.size+1) #[.int .i64 0,.int .i64 0] 88
 rd:oW W (w.heap.size+1+1) g n cap i fr k p l
 below:Below w.heap.size w W
theorem CT.of{w W:World}{g:Nat×Nat}{n cap fr i k p:Nat}{l:List UInt8}(fin:ay)(h:CR w W g n cap fr i k p l):CT w W g n cap fr i k p l fin:=⟨.inl h.x0,h.x1,h.rd,h.below⟩
theorem CT.turn{w W W':World}{g:Nat×Nat}{n cap fr i k p:Nat}{l:List UInt8}{fin:ay}(h:CT w W g n cap fr i k p l fin)(hg:g.1≠w.heap.size)(ht:Turns w.heap.size 149 (dX fin) W W'):CT w W' g n cap fr i k p l fin :=
 ⟨h.x0.elim (ht.box _) (fun h2=>.inr (ht.fin h2)),ht.keep.box (by simp) h.x1,⟨ht.keep.box (by show ¬ _;omega) h.rd.box,ht.keep.slice h.rd.sl (fun _ ad e=>by cases e;exact hg),h.rd.ne⟩,h.below.trans (ht.low h.below.size)⟩
theorem CR.zS{w W:World}{g:Nat×Nat}{n cap fr i k p sB:Nat}{l:List UInt8}(h:CR w W g n cap fr i k p l)(hs:w.heap.size+1+1<sB)(hg:g.1<w.heap.size)(v0 v1 v2 v3:Value) :
  CR w ((((W.setCell ⟨sB,0,none⟩ v0).setCell ⟨sB,1,none⟩ v1).setCell ⟨sB,2,none⟩ v2).setCell ⟨sB,3,none⟩ v3) g n cap fr i k p l :=
 have hk:aJ (·=sB) W ((((W.setCell ⟨sB,0,none⟩ v0).setCell ⟨sB,1,none⟩ v1).setCell ⟨sB,2,none⟩ v2).setCell ⟨sB,3,none⟩ v3):=((yM sB 0 _ _).trans (yM sB 1 _ _)).trans ((yM sB 2 _ _).trans (yM sB 3 _ _))
 ⟨hk.box (by show ¬ _;omega) h.x0,hk.box (by show ¬ _;omega) h.x1,⟨hk.box (by show ¬ _;omega) h.rd.box,hk.slice h.rd.sl (fun _ ad e=>by cases e;show ¬ _;simp;omega),h.rd.ne⟩,
  (((h.below.setCell (by simp;omega) _).setCell (by simp;omega) _).setCell (by simp;omega) _).setCell (by simp;omega) _⟩
end
section
open Go.RowKit
structure Lx where
 kind:Nat
 at':Nat
 set:ay
 lo:Int
 hi:Int
def kV(c:Nat):Nat:=if c=40 then 2 else if c=41 then 3 else if c=124 then 4 else if c=42 then 5 else if c=43 then 6 else if c=63 then 7 else 0
def kW(l:List UInt8)(i:Nat):Sum (Nat×Nat) (Lx×Nat) :=
 let c:=(l.getD i 0).toNat
 if c=92∨c=91∨c=123∨c=46 then .inl (3,i)
 else if c=93∨c=125∨c=10 then .inl (3,i)
 else if kV c=0 then .inr (⟨1,i,qW [c],0,0⟩,i+1) else .inr (⟨kV c,i,0,0,0⟩,i+1)
def E8(l:List UInt8):Prop:=∀ b∈l,b.toNat≠92∧b.toNat≠91∧b.toNat≠123∧b.toNat≠46
theorem E8.of{l m:List UInt8}(h:E8 l)(hm:∀ b∈m,b∈l):E8 m:=fun b hb=>h b (hm b hb)
def lexFrom(l:List UInt8):Nat→Nat→List Lx→Sum (Nat×Nat) (List Lx)
 | 0,_,acc=>.inr acc
 | n+1,i,acc=>if i<l.length then (match kW l i with | .inl q=>.inl q | .inr (x,j)=>lexFrom l n j (acc++[x])) else .inr acc
def jh(l:List UInt8):Sum (Nat×Nat) (List Lx):=if 65536<l.length then .inl (4,65536) else lexFrom l (l.length+1) 0 []
def yN(k:Int):List Tr→Tr
 | [x]=>x
 | l=>.mk k 0 l 0 0
def dB:List Lx→Tr→Tr×List Lx
 | [],x=>(x,[])
 | a::r,x=>if a.kind=5 then dB r (.mk 6 0 [x] 0 0) else if a.kind=6 then dB r (.mk 7 0 [x] 0 0) else if a.kind=7 then dB r (.mk 8 0 [x] 0 0)
  else if a.kind=8 then dB r (.mk 9 0 [x] a.lo a.hi) else (x,a::r)
mutual
def iF:Nat→Nat→List Tr→List Lx→Option (Sum (Nat×Nat) (Tr×List Lx))
 | 0,_,_,_=>none
 | n+1,d,parts,L=>match je n d [] L with
  | none=>none
  | some (.inl q)=>some (.inl q)
  | some (.inr (x,r))=>match r with
   | a::r'=>if a.kind=4 then iF n d (parts++[x]) r' else some (.inr (yN 5 (parts++[x]),a::r'))
   | []=>some (.inr (yN 5 (parts++[x]),[]))
def je:Nat→Nat→List Tr→List Lx→Option (Sum (Nat×Nat) (Tr×List Lx))
 | 0,_,_,_=>none
 | n+1,d,pieces,L=>match jM n d L with
  | none=>none
  | some (.inl q)=>some (.inl q)
  | some (.inr (some (x,r)))=>je n d (pieces++[(dB r x).1]) (dB r x).2
  | some (.inr none)=>some (.inr (if pieces.length=0 then .mk 2 0 [] 0 0 else yN 4 pieces,L))
def jM:Nat→Nat→List Lx→Option (Sum (Nat×Nat) (Option (Tr×List Lx)))
 | 0,_,_=>none
 | n+1,d,L=>match L with
  | []=>some (.inr none)
  | a::r =>
   if a.kind=1 then some (.inr (some (.mk 3 a.set [] 0 0,r)))
   else if a.kind=2 then
    (if d=64 then some (.inl (17,a.at')) else match iF n (d+1) [] r with
     | none=>none
     | some (.inl q)=>some (.inl q)
     | some (.inr (x,b::r'))=>if b.kind=3 then some (.inr (some (x,r'))) else some (.inl (11,a.at'))
     | some (.inr (_,[]))=>some (.inl (11,a.at')))
   else if a.kind=5∨a.kind=6∨a.kind=7∨a.kind=8 then some (.inl (5,a.at'))
   else if a.kind=3∧d=0 then some (.inl (12,a.at'))
   else some (.inr none)
end
def qI(n:Nat)(l:List UInt8):Option (Sum (Nat×Nat) Tr) :=
 match jh l with
 | .inl q=>some (.inl q)
 | .inr L=>if 1024<L.length then some (.inl (4,(L.getD 1024 ⟨0,0,0,0,0⟩).at')) else (iF n 0 [] L).map fun r=>match r with | .inl q=>.inl q | .inr (x,_)=>.inr x
def wU(n:Nat)(have':List (List UInt8))(s:List UInt8):Option (Sum (Nat×Nat) (List UInt8×Tr)) :=
 let k:=runFrom true s
 if have'.length=64 then some (.inl (18,0)) else if k=0 then some (.inl (9,0)) else if 32<k then some (.inl (9,32))
 else if yL s k 58=false then some (.inl (10,k))
 else if have'.contains (s.take k) then some (.inl (8,0))
 else (qI n (s.drop (k+1))).map fun r=>match r with | .inl q=>.inl (q.1,q.2+(k+1)) | .inr x=>.inr (s.take k,x)
end
end Go.Proofs.YtbemonecmmnlcaaGreatDoor
