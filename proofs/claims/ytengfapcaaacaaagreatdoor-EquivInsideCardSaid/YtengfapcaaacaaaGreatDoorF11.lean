/- The texts of E11, in few letters (mini.py). -/
import Derived.Test.YtengfapcaaacaaaGreatDoorF10
import Derived.Test.YtengfapcaaacaaaGreatDoorF9
import Derived.Deep.DeepCutAuto
set_option linter.unusedVariables false
set_option linter.unusedSimpArgs false
set_option maxRecDepth 20000
set_option maxHeartbeats 2000000
namespace Go.Proofs.YtengfapcaaacaaaGreatDoor
section
open Go.RowKit
theorem iW:dX bG 1:=⟨fun _=>rfl,fun x u hu=>by simp[bG] at hu;subst hu;rfl⟩
theorem xH:∀ (l:List Tr) (a:Nat),a≤aJ→bQ a l≤aJ
 | [],a,h=>by rw[bQ];exact h
 | x::l,a,h=>by rw[bQ];exact xH l _ (rO h)
theorem zk(x:Tr):bD x≤aJ:=by
 obtain⟨k,s,kids,lo,hi⟩:=x
 rw[bD]
 have h0:=xH kids 0 (by simp[aJ])
 split
 ·exact h0
 ·split
  ·dsimp only
   split
   ·simp[aJ]
   ·split
    ·exact rO (rO CY)
    ·split
     ·exact rO (rO CY)
     ·exact CY
  ·exact rO h0
theorem FB{a:Nat}(h:a≤aJ):addN 0 a=a:=by unfold addN;rw[if_neg (by omega)];omega
theorem zQ{a b:Nat}(h:a≤aJ):zO [a,b]=addN a b:=by
 show addN (addN 0 a) b=_
 rw[FB h]
theorem KF{a b c:Nat}(h:a≤aJ):zO [a,b,c]=addN (addN a b) c:=by
 show addN (addN (addN 0 a) b) c=_
 rw[FB h]
theorem P5(l:List Tr)(j:Nat)(h:j<l.length):bQ 0 (l.take (j+1))=addN (bQ 0 (l.take j)) (bD l[j]):=by
 have:∀ (l m:List Tr) (a:Nat),bQ a (l++m)=bQ (bQ a l) m:=by
  intro l m
  induction l with
  | nil=>intro a;rw[List.nil_append,bQ]
  | cons x l ih=>intro a;rw[List.cons_append,bQ,bQ,ih]
 rw[List.take_succ_eq_append_getElem h,this,bQ,bQ]
theorem qc(w:World)(l:List Nat)(h:l.length≤9):au (w.alloc (.cells (l.map fun n:Nat=>Value.int .i64 n).toArray 3)) (.slice (some ⟨w.heap.size,0,none⟩) l.length l.length) 1 bG l:=by
 have e:(l.map fun n:Nat=>Value.int .i64 n)=l.flatMap bG:=by
  clear h
  induction l with
  | nil=>rfl
  | cons x l ih=>rw[List.flatMap_cons,List.map_cons,ih];rfl
 rw[e]
 exact oz iW w 3 l (by simp[maxLen];omega)
theorem Yc(kids:List Vt)(a:Option Addr)(cap:Nat)(w:World)(sA:au w (.slice a kids.length cap) 8 Vt.cells kids)(lA:∀ i (h:i<kids.length),Lies w kids[i])
  (ih:∀ i (h:i<kids.length) (u:World),Lies u kids[i]→Calls Tryz.prog 144 #[.agg kids[i].cells.toArray] u (bF u (.int .i64 (bD kids[i].tr:Nat)))) :
  Calls Tryz.prog 142 #[.func (.func 144) #[] #[],.slice a kids.length cap] w (bF w (.int .i64 (bQ 0 (kids.map Vt.tr):Nat))):=by
 obtain⟨b,o,c1,c2,c3,c4,c5⟩:=sA.kids
 clear sA c4
 have HC:=ah c5;have HI:=ah ih;have LA:=ah lA
 clear c5 ih lA
 obtain⟨n,hn⟩:∃ n,kids.length=n:=⟨_,rfl⟩
 have HN:=ah hn
 have h3:∀ i,i<n→a=some ⟨b,o,none⟩:=by rw[←hn];exact c3
 have hnc:n≤cap:=by rw[←hn];exact c1
 rw[hn]
 clear c3 c1 hn
 go_enter Tryz.func142,Tryz.ntmps142
 go_wp2
 go_loopw [5,10] (fun v i wr=>∃ k:Nat,k≤n∧i=.int .i64 k∧v=.int .i64 (bQ 0 ((kids.map Vt.tr).take k):Nat)∧Below w.heap.size w wr) (fun _ i _=>n - (intOf i).toNat)
 case atStart=>exact⟨0,Nat.zero_le _,rfl,rfl,Below.refl _ _⟩
 case round =>
  obtain⟨k,hk,rfl,rfl,hB⟩:=hrel
  by_cases hlt:k<n
  ·have hlk:k<kids.length:=by rw[HN.out];exact hlt
   obtain rfl:=h3 k hlt
   have e1:=HC.out k hlk wr hB
   have hw:=P5 (kids.map Vt.tr) k (by simpa using hlk)
   rw[List.getElem_map] at hw
   have hs1:bQ 0 ((kids.map Vt.tr).take k)≤aJ:=xH _ _ (by simp[aJ])
   have hx1:=zk kids[k].tr
   have hlies:=LA.out k hlk
   have hcall:=HI.out k hlk
   generalize kids[k]=V at *
   generalize bD V.tr=x at *
   generalize bQ 0 ((kids.map Vt.tr).take k)=s at *
   obtain⟨k5,s5,a5,cp5,cZ,dh,hi5⟩:=V
   obtain⟨x0,x1,x2,x3,x4,x5,x6,x7⟩:=qI e1
   have hbl:=World.block_lt_of_cell? wr _ x0
   have hB1:=hB.trans ((aj wr (.cells (aI k5 s5 a5 cZ.length cp5 dh hi5).toArray 115)).mono hB.size)
   have hcl:=hcall _ (hlies.kept hB1)
   have hadd:=fun u=>wQ u.heap.size 0 2 2 [s,x] (u.alloc (.cells #[.int .i64 (s:Nat),.int .i64 (x:Nat)] 3)) (qc u [s,x] (by simp)) (by intro y hy;simp at hy;rcases hy with rfl | rfl;exact hs1;exact hx1)
   obtain⟨s2,hs2⟩:∃ s2,bQ 0 ((kids.map Vt.tr).take (k+1))=s2:=⟨_,rfl⟩
   rw[zQ hs1,←hw,hs2] at hadd
   have HS2:=ah hs2
   have qO:=ah hcl
   have HAD:=ah hadd
   clear e1 hw hlies hcall hcl hadd hs1 hx1 hs2
   have hki:(k:Int)<(n:Int):=by omega
   have hk0:(0:Int)≤(k:Int):=by omega
   unfold aJ at HAD
   go_wp2_with (first | (go_at_call 144;go_must (refine qO.out.mono ?_;rintro e w2 ⟨rfl,hb2⟩;have hB2:=hB1.trans (hb2.mono hB1.size);have hB3:=hB2.trans ((aj w2 (.cells #[.int .i64 (s:Nat),.int .i64 (x:Nat)] 3)).mono hB2.size))) | (go_at_call 141;go_must (refine(HAD.out _).mono ?_;rintro e w4 ⟨rfl,hb4⟩)))
   exact⟨⟨k+1,hlt,by push_cast;rfl,by rw[HS2.out],hB3.trans (hb4.mono hB3.size)⟩,by simp[intOf];omega⟩
  ·obtain rfl:k=n:=by omega
   rw[List.take_of_length_le (by rw[List.length_map,HN.out];exact Nat.le_refl _)]
   go_wp2
   go_ret
   exact⟨rfl,hB⟩
end
section
open Go.RowKit
def lK(xs:List Nat):List Value:=xs.map fun n:Nat=>Value.int .i64 n
def jO(w:World)(base E:Nat)(v:Value)(xs:List Nat):Prop :=
 ∃ (a:Option Addr) (cap:Nat),v=.slice a xs.length cap∧xs.length≤cap∧cap≤maxLen∧((a=none∧cap=0) ∨
  ∃ g cur,a=some ⟨g,0,none⟩∧base≤g∧Box w g cur E∧cap≤cur.size∧cur.toList.take xs.length=lK xs)
section
variable {w:World} {base E:Nat} {v:Value} {xs:List Nat}
theorem jO.form(h:jO w base E v xs):∃ a cap,v=.slice a xs.length cap:=by obtain⟨a,cap,hv,_⟩:=h;exact⟨a,cap,hv⟩
theorem jO.nil(w:World)(base E:Nat):jO w base E (.slice none 0 0) []:=⟨none,0,rfl,Nat.le_refl _,by simp[maxLen],.inl ⟨rfl,rfl⟩⟩
theorem jO.same{w':World}(h:jO w base E v xs)(hb:∀ b,base≤b→b<w.heap.size→w'.heap[b]?=w.heap[b]?):jO w' base E v xs:=by
 obtain⟨a,cap,hv,hle,hm,hh⟩:=h
 refine⟨a,cap,hv,hle,hm,hh.imp id ?_⟩
 rintro⟨g,cur,ha,hbg,hg,hr⟩
 exact⟨g,cur,ha,hbg,(hb g hbg hg.lt).trans hg,hr⟩
theorem jO.kept{w':World}(h:jO w base E v xs)(hb:Below w.heap.size w w'):jO w' base E v xs:=h.same fun b _ hl=>hb.block b hl
theorem jO.other(h:jO w base E v xs)(a:Addr)(u:Value)(hne:a.block<base):jO (w.setCell a u) base E v xs:=h.same fun b hb _=>heap_setCell_other w a b u (by omega)
theorem jO.cell{a:Option Addr}{n cap:Nat}(h:jO w base E (.slice a n cap) xs):n=xs.length∧xs.length≤cap∧cap≤9223372036854775807∧∃ g,(∀ i,i<xs.length→a=some ⟨g,0,none⟩)∧∀ i (h:i<xs.length),w.cell? ⟨g,i,none⟩=some (.int .i64 (xs[i]:Nat)):=by
 obtain⟨a',cap',hv,hle,hm,hh⟩:=h
 obtain⟨rfl,rfl,rfl⟩:=Value.slice.inj hv
 refine⟨rfl,hle,hm,?_⟩
 rcases hh with⟨_,rfl⟩ | ⟨g,cur,ha,hb,hg,hs,hx⟩
 ·exact⟨0,fun i hi=>by omega,fun i hi=>by omega⟩
 ·refine⟨g,fun _ _=>ha,fun i hi=>?_⟩
  have:=congrArg (fun l=>l[i]?) hx
  simp only[List.getElem?_take,if_pos hi] at this
  rw[hg.cell,←Array.getElem?_toList,this]
  simp[lK,hi]
theorem jO.cut{a:Option Addr}{n cap:Nat}{ys:List Nat}{x:Nat}(h:jO w base E (.slice a n cap) (ys++[x])):jO w base E (.slice a ys.length ys.length) ys:=by
 obtain⟨a',cap',hv,hle,hm,hh⟩:=h
 obtain⟨rfl,rfl,rfl⟩:=Value.slice.inj hv
 rw[List.length_append,List.length_singleton] at *
 refine⟨a,_,rfl,Nat.le_refl _,by omega,?_⟩
 rcases hh with⟨_,rfl⟩ | ⟨g,cur,ha,hb,hg,hs,hx⟩
 ·omega
 ·refine .inr ⟨g,cur,ha,hb,hg,by omega,?_⟩
  have:=congrArg (List.take ys.length) hx
  rw[List.take_take,Nat.min_eq_left (by omega)] at this
  rw[this,lK,List.map_append,List.take_append_of_le_length (by simp),List.take_of_length_le (by simp)];rfl
theorem jO.row(h:jO w base E v xs)(g:Nat)(hg:v.ownBlock=some g):base≤g∧g<w.heap.size:=by
 obtain⟨a,cap,rfl,hle,hm,hh⟩:=h
 rcases hh with⟨rfl,_⟩ | ⟨g',cur,rfl,hb,hx,_⟩
 ·cases hg
 ·cases hg;exact⟨hb,hx.lt⟩
theorem jO.box{w':World}{b E':Nat}{c:Array Value}(h:jO w base E v xs)(hx:Box w b c E')(hg:w.grownBy w' v.ownBlock)(hb:b<base):Box w' b c E' :=
 (hg.block b hx.lt fun e=>by have:=(h.row b e.symm).1;omega).trans hx
theorem Vf{P:Program}(t ty:TypeId)(hE:dI P t E (.int .i64 0) 1 8)(h:jO w base E v xs)(hbase:base≤w.heap.size)(ad:Addr)(c y:Nat)(hy:w.cell? ad=some (.int .i64 y))(hn:xs.length+1≤1099511627776) :
  ∃ a' cap' w',(Builtin.append_ #[t,t] ty #[v,.slice (some ad) 1 c]).run P w=.ok (.slice a' (xs.length+1) cap') w'∧jO w' base E (.slice a' (xs.length+1) cap') (xs++[y])∧w.grownBy w' v.ownBlock:=by
 obtain⟨i,hi,hz,hsz,hby⟩:=hE.info
 obtain⟨a,cap,rfl,hle,hm,hh⟩:=h
 have hnews:∀ j u,[Value.int .i64 (y:Nat)][j]?=some u→w.cell? (ad.add j)=some u:=fun j u hu=>by
  cases j with
  | zero=>simp at hu;rw[←hu];simpa [Addr.add] using hy
  | succ j=>simp at hu
 have hm63:xs.length+1≤maxLen:=by simp only[maxLen];omega
 have hl:((xs++[y]).length)=xs.length+1:=by simp
 have grown:∀ (old:Nat) (row:Option Nat),
   jO (w.drew.alloc (.cells ((lK xs).toArray++#[Value.int .i64 (y:Nat)]++Builtin.zeroCells #[Value.int .i64 0] (grownCap w (xs.length+1) old E - (xs.length+1))) E)) base E (.slice (some ⟨w.heap.size,0,none⟩) (xs.length+1) (grownCap w (xs.length+1) old E)) (xs++[y]) ∧
   w.grownBy (w.drew.alloc (.cells ((lK xs).toArray++#[Value.int .i64 (y:Nat)]++Builtin.zeroCells #[Value.int .i64 0] (grownCap w (xs.length+1) old E - (xs.length+1))) E)) row:=by
  intro old row
  have hge:=grownCap_ge w (xs.length+1) old E
  have hcm:=grownCap_le_maxLen w (xs.length+1) old E hm63
  refine⟨⟨_,_,by rw[hl],by rw[hl];exact hge,hcm,.inr ⟨w.heap.size,_,rfl,hbase,heap_alloc_new w.drew _,?_,?_⟩⟩,⟨rfl,rfl,rfl,by simp,fun k hk _=>Below.heap_alloc w.drew _ k hk⟩⟩
  ·simp[lK,Builtin.zeroCells];omega
  ·rw[hl]
   have hi:(lK (xs++[y])).length=xs.length+1:=by simp[lK]
   have e:∀ Z:List Value,List.take (xs.length+1) (lK (xs++[y])++Z)=lK (xs++[y]):=fun Z=>by rw[←hi,List.take_left]
   rw[←e (Builtin.zeroCells #[Value.int .i64 0] (grownCap w (xs.length+1) old E - (xs.length+1))).toList]
   simp[lK]
 rcases hh with⟨rfl,rfl⟩ | ⟨g,cur,rfl,hb,hg,hs,hx⟩
 ·obtain rfl:xs=[]:=List.eq_nil_of_length_eq_zero (by omega)
  have hr:=run_append_nil (P:=P) w t ty E i (.int .i64 0) hE.slice hi hz ad 1 c [Value.int .i64 (y:Nat)] (by simp[hsz]) hnews (by omega) (by omega) (by rw[hby];omega)
  have hgr:=grown 0 (Value.ownBlock (.slice none 0 0))
  exact⟨_,_,_,hr,hgr.1,hgr.2⟩
 ·by_cases hroom:xs.length+1≤cap
  ·have hr:=run_append_room (P:=P) w t ty E i hE.slice hi g xs.length cap cur hg ad 1 c [Value.int .i64 (y:Nat)] (by simp[hsz]) hnews (by intro u hu;simp at hu;subst hu;rfl) hroom (by rw[hsz];simp;omega)
   refine⟨_,_,_,hr,⟨_,cap,by rw[hl],by rw[hl];exact hroom,hm,.inr ⟨g,_,rfl,hb,setRow_heap w g cur _ E _ hg,?_,?_⟩⟩,⟨rfl,rfl,rfl,by simp,fun k _ hk=>setRow_other w g k _ (fun e=>hk (by simp[Value.ownBlock,e]))⟩⟩
   ·simp;omega
   ·rw[hl,hsz,Nat.mul_one,hx]
    have hi:(lK xs).length=xs.length:=by simp[lK]
    simp only[List.append_assoc]
    rw[←List.append_assoc,show xs.length+1=((lK xs)++[Value.int .i64 (y:Nat)]).length by rw[List.length_append,hi];rfl]
    show List.take _ (_++_)=_
    rw[List.take_left]
    simp[lK]
  ·have holds:∀ j u,(lK xs)[j]?=some u→w.cell? ((⟨g,0,none⟩:Addr).add j)=some u:=fun j u hu=>by
    have hj:j<xs.length:=by have:=(List.getElem?_eq_some_iff.1 hu).1;simpa [lK] using this
    have:=congrArg (fun l=>l[j]?) hx
    simp only[List.getElem?_take,if_pos hj] at this
    rw[show(⟨g,0,none⟩:Addr).add j=⟨g,j,none⟩ by rw[Addr.add_lit,Nat.zero_add],hg.cell,←Array.getElem?_toList,this,hu]
   have hr:=run_append_grow (P:=P) w t ty E i (.int .i64 0) hE.slice hi hz ⟨g,0,none⟩ xs.length cap (lK xs) (by simp[lK,hsz]) holds ad 1 c [Value.int .i64 (y:Nat)] (by simp[hsz]) hnews (by omega) (by omega) (growslice_fits (by omega) (by rw[hby];omega))
   have hgr:=grown cap (Value.ownBlock (.slice (some ⟨g,0,none⟩) xs.length cap))
   exact⟨_,_,_,hr,hgr.1,hgr.2⟩
theorem Ns{P:Program}{ops:Array Oper}{rest:List Oper}{o:Oper}{a:Act}{Q:Exit→Act→World→Prop}(hgd:o.guard=none)(s x:Operand)(t:TypeId)
  (ho:o.op=.call { callee:=.builtin .append,args:=#[s,x],argTypes:=#[t,t] }) (hE:dI P t E (.int .i64 0) 1 8) (hs:a.eval s=v) (h:jO w base E v xs) (hbase:base≤w.heap.size) (ad:Addr) (c y:Nat) (hx:a.eval x=.slice (some ad) 1 c) (hy:w.cell? ad=some (.int .i64 y)) (hn:xs.length+1≤1099511627776)
  (K:∀ a' cap' w',jO w' base E (.slice a' (xs.length+1) cap') (xs++[y])→w.grownBy w' v.ownBlock→wpList P ops Q rest (a.put o.dst (.slice a' (xs.length+1) cap')) w'):wpList P ops Q (o::rest) a w:=by
 obtain⟨a',cap',w',hr,h1,h2⟩:=Vf (P:=P) t o.type hE h hbase ad c y hy hn
 refine wpList_plain hgd fun _ hK=>?_
 unfold Oper.wp execOp
 simp only[ho,resolve,invoke,builtin,Sem.run_bind,Sem.run_pure,Result.andThen_ok,List.map_toArray,List.map_cons,List.map_nil,hs,hx,hr]
 exact hK _ _ (K a' cap' w' h1 h2)
end
end
section
open Go.RowKit
def Only(b:Nat)(w w':World):Prop:=Below b w w'∧aX (·=b) w w'
theorem Only.refl(b:Nat)(w:World):Only b w w:=⟨Below.refl _ _,aX.refl _ _⟩
theorem Only.trans{b:Nat}{w w1 w2:World}(h:Only b w w1)(k:Only b w1 w2):Only b w w2:=⟨h.1.trans k.1,h.2.trans k.2⟩
theorem Only.below{b:Nat}{w w':World}(h:Below w.heap.size w w')(hb:b≤w.heap.size):Only b w w':=⟨h.mono hb,aX.below h⟩
theorem Only.box{b g E:Nat}{c:Array Value}{w w':World}(h:Only b w w')(hb:Box w g c E)(hg:g≠b):Box w' g c E:=h.2.box hg hb
theorem Only.slice{α:Type}{b:Nat}{g:Nat×Nat}{n cap size:Nat}{enc:α→List Value}{xs:List α}{w w':World}(h:Only b w w')(hs:au w (.slice (some ⟨g.1,g.2,none⟩) n cap) size enc xs)(hg:g.1≠b):au w' (.slice (some ⟨g.1,g.2,none⟩) n cap) size enc xs :=
 h.2.slice hs (fun _ ad e=>by cases e;exact hg)
theorem Only.set{b:Nat}(w:World)(i:Nat)(v:Value):Only b w (w.setCell ⟨b,i,none⟩ v):=⟨Below.setCell (Below.refl b w) (p:=⟨b,i,none⟩) (Nat.le_refl _) v,aX.set w _ v rfl⟩
def rdC(g:Nat×Nat)(n cap at' fr k p:Nat):Array Value:=#[.slice (some ⟨g.1,g.2,none⟩) n cap,.int .i64 at',.int .i64 fr,.int .i64 k,.int .i64 p]
structure qP(w:World)(b:Nat)(g:Nat×Nat)(n cap at' fr k p:Nat)(l:List UInt8):Prop where
 box:Box w b (rdC g n cap at' fr k p) 354
 sl:au w (.slice (some ⟨g.1,g.2,none⟩) n cap) 1 gI l
 ne:g.1≠b
theorem qP.kept{w w':World}{b:Nat}{g:Nat×Nat}{n cap at' fr k p:Nat}{l:List UInt8}(h:qP w b g n cap at' fr k p l)(hb:Below w.heap.size w w'):qP w' b g n cap at' fr k p l:=⟨h.box.kept hb,h.sl.kept hb,h.ne⟩
theorem qP.cells{w:World}{b:Nat}{g:Nat×Nat}{n cap at' fr k p:Nat}{l:List UInt8}(h:qP w b g n cap at' fr k p l) :
  w.cell? ⟨b,0,none⟩=some (.slice (some ⟨g.1,g.2,none⟩) n cap)∧w.cell? ⟨b,1,none⟩=some (.int .i64 at')∧w.cell? ⟨b,2,none⟩=some (.int .i64 fr)∧w.cell? ⟨b,3,none⟩=some (.int .i64 k)∧w.cell? ⟨b,4,none⟩=some (.int .i64 p) :=
 ⟨h.box.cell 0,h.box.cell 1,h.box.cell 2,h.box.cell 3,h.box.cell 4⟩
def Bc(l:List UInt8)(i:Nat)(c:UInt8):Bool:=decide (i<l.length)&&(l.getD i 0==c)
end
section
open Go.RowKit
def KG(b:Nat)(g:Nat×Nat)(n cap:Nat)(fr:Nat)(l:List UInt8)(w:World)(v:Value)(i k p:Nat)(e:Ending)(w':World):Prop:=e=.returned v∧qP w' b g n cap i fr k p l∧Only b w w'
theorem qP.set{w:World}{b:Nat}{g:Nat×Nat}{n cap i fr k p:Nat}{l:List UInt8}(h:qP w b g n cap i fr k p l)(j:Nat):qP (w.setCell ⟨b,1,none⟩ (.int .i64 (j:Nat))) b g n cap j fr k p l :=
 ⟨h.box.set 1 _,(Only.set w 1 _).slice h.sl h.ne,h.ne⟩
theorem qP.fault{w:World}{b:Nat}{g:Nat×Nat}{n cap i fr k p:Nat}{l:List UInt8}(h:qP w b g n cap i fr k p l)(k' p':Nat):qP ((w.setCell ⟨b,3,none⟩ (.int .i64 (k':Nat))).setCell ⟨b,4,none⟩ (.int .i64 (p':Nat))) b g n cap i fr k' p' l :=
 ⟨(h.box.set 3 _).set 4 _,(Only.set _ 4 _).slice ((Only.set w 3 _).slice h.sl h.ne) h.ne,h.ne⟩
end
section
open Go.RowKit
def RG(b:Nat)(g:Nat×Nat)(n cap fr p:Nat)(l:List UInt8)(w:World)(r:Sum (Nat×Nat) (Nat×Nat))(e:Ending)(w':World):Prop :=
 match r with
 | .inr (c,j)=>c<256∧j≤n∧KG b g n cap fr l w (.int .u8 c) j 0 p e w'
 | .inl (kd,ps)=>∃ c j:Nat,c<256∧j≤n∧KG b g n cap fr l w (.int .u8 c) j kd ps e w'
end
section
open Go.RowKit
def oH(lo hi:Int)(n:Nat):Nat:=if n=0 then 0 else if hi<0 then addN (addN (mulN lo.toNat n) n) 1 else if lo<hi then addN (addN (mulN lo.toNat n) (mulN (hi - lo).toNat n)) 1 else mulN lo.toNat n
theorem aax(k:Int)(s:aF)(a:Option Addr)(len cap:Nat)(lo hi:Int)(n:Nat)(w:World)(h1:0≤lo∧lo≤1000)(h2:-1≤hi∧hi≤1000)(hn:n≤aJ) :
  Calls Tryz.prog 192 #[.agg (aI k s a len cap lo hi).toArray,.int .i64 n] w (bF w (.int .i64 (oH lo hi n:Nat))):=by
 obtain⟨l,rfl⟩:∃ l:Nat,lo=(l:Int):=⟨lo.toNat,by omega⟩
 have hB0:=aj w (.cells (aI k s a len cap l hi).toArray 115)
 have hx0:=Box.new w (aI k s a len cap l hi).toArray 115
 have htop:(1:Nat)≤aJ:=by unfold aJ;omega
 by_cases hn0:n=0
 ·have e:oH l hi n=0:=by unfold oH;rw[if_pos hn0]
  rw[e]
  have e1:((n:Int)==0)=true:=by rw[hn0];rfl
  clear hx0 hn0 e
  go_enter Tryz.func192,Tryz.ntmps192
  go_wp2
  go_ret
  exact⟨rfl,hB0⟩
 have e1:((n:Int)==0)=false:=by rw[beq_eq_false_iff_ne];omega
 have hmx:max (l:Int) 0=(l:Int):=by omega
 have hl0:(0:Int)≤(l:Int):=by omega
 have hm1:=VX (w.alloc (.cells (aI k s a len cap l hi).toArray 115)).heap.size 0 2 2 [l,n] ((w.alloc (.cells (aI k s a len cap l hi).toArray 115)).alloc (.cells #[.int .i64 (l:Nat),.int .i64 (n:Nat)] 3)) (qc _ [l,n] (by simp)) (by intro y hy;simp at hy;unfold aJ at hn;rcases hy with rfl | rfl <;> omega) (by simp)
 rw[World.size_alloc] at hm1
 have adu:mulN l n≤aJ:=CY
 rw[mul_two] at hm1
 obtain⟨p,hp⟩:∃ p,mulN l n=p:=⟨_,rfl⟩
 rw[hp] at hm1 adu
 have OC:=ah hm1
 by_cases h3:hi<0
 ·have e:oH l hi n=addN (addN p n) 1:=by unfold oH;rw[if_neg hn0,if_pos h3,Int.toNat_natCast,hp]
  have ha:=fun u=>wQ u.heap.size 0 3 3 [p,n,1] (u.alloc (.cells #[.int .i64 (p:Nat),.int .i64 (n:Nat),.int .i64 1] 3)) (qc u [p,n,1] (by simp)) (by intro y hy;simp at hy;rcases hy with rfl | rfl | rfl <;> assumption)
  rw[KF adu,←e] at ha
  have HA:=ah ha
  unfold aJ at OC HA
  clear ha hm1 e hp hn0
  generalize oH l hi n=ans at *
  go_enter Tryz.func192,Tryz.ntmps192
  go_wp2_with (first | (go_at_call 236;go_must (refine OC.out.mono ?_;rintro e w2 ⟨rfl,hb2⟩;have hx2:=(hx0.alloc (.cells #[.int .i64 (l:Nat),.int .i64 (n:Nat)] 3)).kept hb2;have z6:w2.cell? ⟨w.heap.size,6,none⟩=some (.int .i64 l):=hx2.cell 6;have z7:w2.cell? ⟨w.heap.size,7,none⟩=some (.int .i64 hi):=hx2.cell 7;have hsz:=hx2.lt)) | (go_at_call 141;go_must (refine(HA.out _).mono ?_;rintro e w4 ⟨rfl,hb4⟩)))
  go_ret
  have hB1:=hB0.trans ((aj _ (.cells #[.int .i64 (l:Nat),.int .i64 (n:Nat)] 3)).mono hB0.size)
  have hB2:=hB1.trans (hb2.mono hB1.size)
  have hB3:=hB2.trans ((aj w2 (.cells #[.int .i64 (p:Nat),.int .i64 (n:Nat),.int .i64 1] 3)).mono hB2.size)
  exact⟨rfl,hB3.trans (hb4.mono hB3.size)⟩
 by_cases h4:(l:Int)<hi
 ·obtain⟨d,hd⟩:∃ d:Nat,hi=(l:Int)+(d:Int):=⟨(hi - l).toNat,by omega⟩
  have hdt:(hi - (l:Int)).toNat=d:=by omega
  have hm2:=fun u=>VX u.heap.size 0 2 2 [d,n] (u.alloc (.cells #[.int .i64 (d:Nat),.int .i64 (n:Nat)] 3)) (qc u [d,n] (by simp)) (by intro y hy;simp at hy;unfold aJ at hn;rcases hy with rfl | rfl <;> omega) (by simp)
  have an7:mulN d n≤aJ:=CY
  rw[mul_two] at hm2
  obtain⟨q,hq⟩:∃ q,mulN d n=q:=⟨_,rfl⟩
  rw[hq] at hm2 an7
  have e:oH l hi n=addN (addN p q) 1:=by unfold oH;rw[if_neg hn0,if_neg h3,if_pos h4,hdt,Int.toNat_natCast,hp,hq]
  have ha:=fun u=>wQ u.heap.size 0 3 3 [p,q,1] (u.alloc (.cells #[.int .i64 (p:Nat),.int .i64 (q:Nat),.int .i64 1] 3)) (qc u [p,q,1] (by simp)) (by intro y hy;simp at hy;rcases hy with rfl | rfl | rfl <;> assumption)
  rw[KF adu,←e] at ha
  have hsub:hi - (l:Int)=(d:Int):=by omega
  have HA:=ah ha
  have HM2:=ah hm2
  unfold aJ at OC HA HM2
  clear ha hm1 hm2 e hp hq hn0 hd hdt
  generalize oH l hi n=ans at *
  go_enter Tryz.func192,Tryz.ntmps192
  go_wp2_with fail
  refine OC.out.mono ?_
  rintro e w2 ⟨rfl,hb2⟩
  have hx2:=(hx0.alloc (.cells #[.int .i64 (l:Nat),.int .i64 (n:Nat)] 3)).kept hb2
  have z6:w2.cell? ⟨w.heap.size,6,none⟩=some (.int .i64 l):=hx2.cell 6
  have z7:w2.cell? ⟨w.heap.size,7,none⟩=some (.int .i64 hi):=hx2.cell 7
  have hsz:=hx2.lt
  go_wp2_with (first | (go_at_call 236;go_must (refine(HM2.out _).mono ?_;rintro e w3 ⟨rfl,hb3⟩)) | (go_at_call 141;go_must (refine(HA.out _).mono ?_;rintro e w4 ⟨rfl,hb4⟩)))
  go_ret
  have hB1:=hB0.trans ((aj _ (.cells #[.int .i64 (l:Nat),.int .i64 (n:Nat)] 3)).mono hB0.size)
  have hB2:=hB1.trans (hb2.mono hB1.size)
  have hB3:=hB2.trans ((aj w2 (.cells #[.int .i64 (d:Nat),.int .i64 (n:Nat)] 3)).mono hB2.size)
  have hB4:=hB3.trans (hb3.mono hB3.size)
  have bI:=hB4.trans ((aj w3 (.cells #[.int .i64 (p:Nat),.int .i64 (q:Nat),.int .i64 1] 3)).mono hB4.size)
  exact⟨rfl,bI.trans (hb4.mono bI.size)⟩
 ·have e:oH l hi n=p:=by unfold oH;rw[if_neg hn0,if_neg h3,if_neg h4,Int.toNat_natCast,hp]
  rw[e]
  clear hm1 e hp hn0
  unfold aJ at OC
  go_enter Tryz.func192,Tryz.ntmps192
  go_wp2_with (go_at_call 236;go_must (refine OC.out.mono ?_;rintro e w2 ⟨rfl,hb2⟩;have hx2:=(hx0.alloc (.cells #[.int .i64 (l:Nat),.int .i64 (n:Nat)] 3)).kept hb2;have z6:w2.cell? ⟨w.heap.size,6,none⟩=some (.int .i64 l):=hx2.cell 6;have z7:w2.cell? ⟨w.heap.size,7,none⟩=some (.int .i64 hi):=hx2.cell 7))
  go_ret
  have hB1:=hB0.trans ((aj _ (.cells #[.int .i64 (l:Nat),.int .i64 (n:Nat)] 3)).mono hB0.size)
  exact⟨rfl,hB1.trans (hb2.mono hB1.size)⟩
end
section
open Go.RowKit
theorem KH(k:Int)(s:aF)(kids:List Tr)(lo hi:Int):bD (.mk k s kids lo hi)=if k=2∨k=4 then bQ 0 kids else if k=9 then oH lo hi (bQ 0 kids) else addN (bQ 0 kids) 1:=by
 rw[bD];rfl
theorem FC:∀ (l:List Tr),vG l=true→∀ i (h:i<l.length),allT l[i]=true
 | [],_,i,h=>by simp at h
 | x::l,hl,i,h=>by
  rw[vG,Bool.and_eq_true] at hl
  cases i with
  | zero=>exact hl.1
  | succ i=>exact FC l hl.2 i (by simpa using h)
theorem KI:∀ (V:Vt) (w:World),Lies w V→allT V.tr=true→Calls Tryz.prog 144 #[.agg V.cells.toArray] w (bF w (.int .i64 (bD V.tr:Nat))):=by
 refine Vt.ind fun k s a cap kids lo hi ih=>?_
 intro w hL hall
 rw[Vt.jU] at hall ⊢
 rw[KH]
 rw[allT,Bool.and_eq_true] at hall
 obtain⟨hk,hlo,hhi,hs,hkids⟩:=hL.open
 have hB0:=aj w (.cells (aI k s a kids.length cap lo hi).toArray 115)
 have hx0:=Box.new w (aI k s a kids.length cap lo hi).toArray 115
 have hsum:=Yc kids a cap _ (hs.kept hB0) (fun i hi2=>(hkids i hi2).kept hB0) (fun i hi2 u hu=>ih i hi2 u hu (by
  have:=FC _ hall.2 i (by simpa using hi2)
  rwa[List.getElem_map] at this))
 have hone:=hall.1
 have adv:bQ 0 (kids.map Vt.tr)≤aJ:=xH _ _ (by simp[aJ])
 have KJ:k=9→yu lo hi=true:=fun e=>by
  unfold fB at hone
  rw[Bool.and_eq_true,Bool.and_eq_true,if_pos e] at hone
  exact hone.1.2
 generalize bQ 0 (kids.map Vt.tr)=n at *
 have HS:=ah hsum
 show Calls Tryz.prog 144 #[.agg (aI k s a kids.length cap lo hi).toArray] w _
 clear hsum ih hall hone hL hs hkids
 generalize kids.length=len at *
 have SUM:True:=trivial
 by_cases h2:k=2∨k=4
 ·rw[if_pos h2]
  have e2:(k==2)=true∨((k==2)=false∧(k==4)=true):=by
   rcases h2 with rfl | rfl
   ·exact .inl rfl
   ·exact .inr ⟨rfl,rfl⟩
  clear h2 KJ
  rcases e2 with e2 | ⟨e2,e4⟩
  all_goals
   go_enter Tryz.func144,Tryz.ntmps144
   go_wp2_with (go_at_call 142;go_must (refine HS.out.mono ?_;rintro e w2 ⟨rfl,hb2⟩;have hx2:=hx0.kept hb2;have z0:w2.cell? ⟨w.heap.size,0,none⟩=some (.int .i64 k):=hx2.cell 0))
   go_ret
   exact⟨rfl,hB0.trans (hb2.mono hB0.size)⟩
 rw[if_neg h2]
 have e2:(k==2)=false:=by rw[beq_eq_false_iff_ne];omega
 have e4:(k==4)=false:=by rw[beq_eq_false_iff_ne];omega
 by_cases h9:k=9
 ·rw[if_pos h9]
  have ht:=KJ h9
  unfold yu at ht
  simp only[Bool.and_eq_true,Bool.or_eq_true,decide_eq_true_eq] at ht
  have CZ:=fun u=>aax k s a len cap lo hi n u ⟨by omega,by omega⟩ ⟨by omega,by omega⟩ adv
  have HT:=ah CZ
  subst h9
  clear ht CZ KJ h2
  go_enter Tryz.func144,Tryz.ntmps144
  go_wp2_with (first | (go_at_call 142;go_must (refine HS.out.mono ?_;rintro e w2 ⟨rfl,hb2⟩;have hx2:=hx0.kept hb2;have z0:w2.cell? ⟨w.heap.size,0,none⟩=some (.int .i64 9):=hx2.cell 0;have z1:w2.cell? ⟨w.heap.size,1,none⟩=some (.int .u64 (word s 0:Nat)):=hx2.cell 1;have z2:w2.cell? ⟨w.heap.size,2,none⟩=some (.int .u64 (word s 1:Nat)):=hx2.cell 2;have z3:w2.cell? ⟨w.heap.size,3,none⟩=some (.int .u64 (word s 2:Nat)):=hx2.cell 3;have z4:w2.cell? ⟨w.heap.size,4,none⟩=some (.int .u64 (word s 3:Nat)):=hx2.cell 4;have z5:w2.cell? ⟨w.heap.size,5,none⟩=some (.slice a len cap):=hx2.cell 5;have z6:w2.cell? ⟨w.heap.size,6,none⟩=some (.int .i64 lo):=hx2.cell 6;have z7:w2.cell? ⟨w.heap.size,7,none⟩=some (.int .i64 hi):=hx2.cell 7)) | (go_at_call 192;go_must (refine(HT.out _).mono ?_;rintro e w3 ⟨rfl,hb3⟩)))
  go_ret
  have hB2:=hB0.trans (hb2.mono hB0.size)
  exact⟨rfl,hB2.trans (hb3.mono hB2.size)⟩
 ·rw[if_neg h9]
  have e9:(k==9)=false:=by rw[beq_eq_false_iff_ne];exact h9
  have ha:=fun u=>wQ u.heap.size 0 2 2 [n,1] (u.alloc (.cells #[.int .i64 (n:Nat),.int .i64 1] 3)) (qc u [n,1] (by simp)) (by intro y hy;simp at hy;rcases hy with rfl | rfl;exact adv;unfold aJ;omega)
  rw[zQ adv] at ha
  have HA:=ah ha
  unfold aJ at HA
  clear ha h2 h9 KJ
  generalize addN n 1=ans at *
  go_enter Tryz.func144,Tryz.ntmps144
  go_wp2_with (first | (go_at_call 142;go_must (refine HS.out.mono ?_;rintro e w2 ⟨rfl,hb2⟩;have hx2:=hx0.kept hb2;have z0:w2.cell? ⟨w.heap.size,0,none⟩=some (.int .i64 k):=hx2.cell 0)) | (go_at_call 141;go_must (refine(HA.out _).mono ?_;rintro e w4 ⟨rfl,hb4⟩)))
  go_ret
  have hB2:=hB0.trans (hb2.mono hB0.size)
  have hB3:=hB2.trans ((aj w2 (.cells #[.int .i64 (n:Nat),.int .i64 1] 3)).mono hB2.size)
  exact⟨rfl,hB3.trans (hb4.mono hB3.size)⟩
end
section
open Go.RowKit
def Es(x:Tr):Nat:=addN (bD x) 1
def qQ(a:Nat)(l:List Tr):Nat:=l.foldl (fun a x=>addN a (Es x)) a
theorem ahW(x:Tr):Es x≤aJ:=rO (zk x)
theorem Nu:∀ (l:List Tr) (a:Nat),a≤aJ→qQ a l≤aJ
 | [],_,h=>h
 | x::l,a,h=>Nu l (addN a (Es x)) (rO h)
theorem aaz(l:List Tr)(j:Nat)(h:j<l.length):qQ 0 (l.take (j+1))=addN (qQ 0 (l.take j)) (Es l[j]):=by
 unfold qQ;rw[List.take_succ_eq_append_getElem h,List.foldl_append];rfl
def qA(l:List Tr):Nat:=addN 1 (qQ 0 l)
theorem adw(kids:List Vt)(a:Option Addr)(cap:Nat)(w:World)(sA:au w (.slice a kids.length cap) 8 Vt.cells kids)(lA:∀ i (h:i<kids.length),Lies w kids[i])
  (ih:∀ i (h:i<kids.length) (u:World),Lies u kids[i]→Calls Tryz.prog 143 #[.agg kids[i].cells.toArray] u (bF u (.int .i64 (Es kids[i].tr:Nat)))) :
  Calls Tryz.prog 142 #[.func (.func 143) #[] #[],.slice a kids.length cap] w (bF w (.int .i64 (qQ 0 (kids.map Vt.tr):Nat))):=by
 obtain⟨b,o,c1,c2,c3,c4,c5⟩:=sA.kids
 clear sA c4
 have HC:=ah c5;have HI:=ah ih;have LA:=ah lA
 clear c5 ih lA
 obtain⟨n,hn⟩:∃ n,kids.length=n:=⟨_,rfl⟩
 have HN:=ah hn
 have h3:∀ i,i<n→a=some ⟨b,o,none⟩:=by rw[←hn];exact c3
 have hnc:n≤cap:=by rw[←hn];exact c1
 rw[hn]
 clear c3 c1 hn
 go_enter Tryz.func142,Tryz.ntmps142
 go_wp2
 go_loopw [5,10] (fun v i wr=>∃ k:Nat,k≤n∧i=.int .i64 k∧v=.int .i64 (qQ 0 ((kids.map Vt.tr).take k):Nat)∧Below w.heap.size w wr) (fun _ i _=>n - (intOf i).toNat)
 case atStart=>exact⟨0,Nat.zero_le _,rfl,rfl,Below.refl _ _⟩
 case round =>
  obtain⟨k,hk,rfl,rfl,hB⟩:=hrel
  by_cases hlt:k<n
  ·have hlk:k<kids.length:=by rw[HN.out];exact hlt
   obtain rfl:=h3 k hlt
   have e1:=HC.out k hlk wr hB
   have hw:=aaz (kids.map Vt.tr) k (by simpa using hlk)
   rw[List.getElem_map] at hw
   have hs1:qQ 0 ((kids.map Vt.tr).take k)≤aJ:=Nu _ _ (by simp[aJ])
   have hx1:=ahW kids[k].tr
   have hlies:=LA.out k hlk
   have hcall:=HI.out k hlk
   generalize kids[k]=V at *
   generalize Es V.tr=x at *
   generalize qQ 0 ((kids.map Vt.tr).take k)=s at *
   obtain⟨k5,s5,a5,cp5,cZ,dh,hi5⟩:=V
   obtain⟨x0,x1,x2,x3,x4,x5,x6,x7⟩:=qI e1
   have hbl:=World.block_lt_of_cell? wr _ x0
   have hB1:=hB.trans ((aj wr (.cells (aI k5 s5 a5 cZ.length cp5 dh hi5).toArray 115)).mono hB.size)
   have hcl:=hcall _ (hlies.kept hB1)
   have hadd:=fun u=>wQ u.heap.size 0 2 2 [s,x] (u.alloc (.cells #[.int .i64 (s:Nat),.int .i64 (x:Nat)] 3)) (qc u [s,x] (by simp)) (by intro y hy;simp at hy;rcases hy with rfl | rfl;exact hs1;exact hx1)
   obtain⟨s2,hs2⟩:∃ s2,qQ 0 ((kids.map Vt.tr).take (k+1))=s2:=⟨_,rfl⟩
   rw[zQ hs1,←hw,hs2] at hadd
   have HS2:=ah hs2
   have qO:=ah hcl
   have HAD:=ah hadd
   clear e1 hw hlies hcall hcl hadd hs1 hx1 hs2
   have hki:(k:Int)<(n:Int):=by omega
   have hk0:(0:Int)≤(k:Int):=by omega
   unfold aJ at HAD
   go_wp2_with (first | (go_at_call 143;go_must (refine qO.out.mono ?_;rintro e w2 ⟨rfl,hb2⟩;have hB2:=hB1.trans (hb2.mono hB1.size);have hB3:=hB2.trans ((aj w2 (.cells #[.int .i64 (s:Nat),.int .i64 (x:Nat)] 3)).mono hB2.size))) | (go_at_call 141;go_must (refine(HAD.out _).mono ?_;rintro e w4 ⟨rfl,hb4⟩)))
   exact⟨⟨k+1,hlt,by push_cast;rfl,by rw[HS2.out],hB3.trans (hb4.mono hB3.size)⟩,by simp[intOf];omega⟩
  ·obtain rfl:k=n:=by omega
   rw[List.take_of_length_le (by rw[List.length_map,HN.out];exact Nat.le_refl _)]
   go_wp2
   go_ret
   exact⟨rfl,hB⟩
theorem adx(V:Vt)(w:World)(hL:Lies w V)(hall:allT V.tr=true):Calls Tryz.prog 143 #[.agg V.cells.toArray] w (bF w (.int .i64 (Es V.tr:Nat))):=by
 have hW:=fun u hu=>KI V u hu hall
 have hle:=zk V.tr
 unfold Es
 generalize bD V.tr=x at *
 obtain⟨k,s,a,cap,kids,lo,hi⟩:=V
 have hB0:=aj w (.cells (aI k s a kids.length cap lo hi).toArray 115)
 have hw0:=hW _ (hL.kept hB0)
 have ha:=fun u=>wQ u.heap.size 0 2 2 [x,1] (u.alloc (.cells #[.int .i64 (x:Nat),.int .i64 1] 3)) (qc u [x,1] (by simp)) (by intro y hy;simp at hy;rcases hy with rfl | rfl;exact hle;unfold aJ;omega)
 rw[zQ hle] at ha
 have HA:=ah ha
 have HW:=ah hw0
 unfold aJ at HA
 show Calls Tryz.prog 143 #[.agg (aI k s a kids.length cap lo hi).toArray] w _
 clear ha hw0 hW hL hall
 generalize addN x 1=ans at *
 go_enter Tryz.func143,Tryz.ntmps143
 go_wp2_with (first | (go_at_call 144;go_must (refine HW.out.mono ?_;rintro e w2 ⟨rfl,hb2⟩)) | (go_at_call 141;go_must (refine(HA.out _).mono ?_;rintro e w4 ⟨rfl,hb4⟩)))
 go_ret
 have hB2:=hB0.trans (hb2.mono hB0.size)
 have hB3:=hB2.trans ((aj w2 (.cells #[.int .i64 (x:Nat),.int .i64 1] 3)).mono hB2.size)
 exact⟨rfl,hB3.trans (hb4.mono hB3.size)⟩
theorem ady(l:List Vt)(a:Option Addr)(cap:Nat)(w:World)(sA:au w (.slice a l.length cap) 8 Vt.cells l)(lA:∀ i (h:i<l.length),Lies w l[i])(hall:∀ i (h:i<l.length),allT l[i].tr=true) :
  Calls Tryz.prog 104 #[.slice a l.length cap] w (bF w (.int .i64 (qA (l.map Vt.tr):Nat))):=by
 have hs:=adw l a cap w sA lA (fun i h u hu=>adx l[i] u hu (hall i h))
 have hle:qQ 0 (l.map Vt.tr)≤aJ:=Nu _ _ (by simp[aJ])
 unfold qA
 generalize qQ 0 (l.map Vt.tr)=x at *
 have ha:=fun u=>wQ u.heap.size 0 2 2 [1,x] (u.alloc (.cells #[.int .i64 1,.int .i64 (x:Nat)] 3)) (qc u [1,x] (by simp)) (by intro y hy;simp at hy;rcases hy with rfl | rfl;unfold aJ;omega;exact hle)
 rw[zQ (by unfold aJ;omega)] at ha
 have HA:=ah ha
 have HS:=ah hs
 unfold aJ at HA
 clear ha hs sA lA hall
 generalize l.length=n at *
 generalize addN 1 x=ans at *
 go_enter Tryz.func104,Tryz.ntmps104
 go_wp2_with (first | (go_at_call 142;go_must (refine HS.out.mono ?_;rintro e w2 ⟨rfl,hb2⟩)) | (go_at_call 141;go_must (refine(HA.out _).mono ?_;rintro e w4 ⟨rfl,hb4⟩)))
 go_ret
 have hB3:=hb2.trans ((aj w2 (.cells #[.int .i64 1,.int .i64 (x:Nat)] 3)).mono hb2.size)
 exact⟨rfl,hB3.trans (hb4.mono hB3.size)⟩
end
section
open Go.RowKit Go.Shelf
attribute [local go_sem] Oper.semAt_some
theorem nJ:dI Tryz.prog 24 3 (.int .i64 0) 1 8:=⟨Tryz.underlying24,info_parts (by kernel_rfl),rfl,by decide⟩
def an8(b B0:Nat)(w:World)(pre:List Nat)(W:World):Prop:=(∃ (a:Option Addr) (cap:Nat),Box W b #[.slice a pre.length cap] 24∧Own W B0 3 1 bG (.slice a pre.length cap) pre)∧B0≤W.heap.size∧Below b w W
set_option maxRecDepth 100000 in
theorem Vg(Bq p g N S:Nat)(w:World)(hN:N≤1048576)(hT:Tab w)(hq:Box w Bq #[.pointer (some ⟨p,0,none⟩)] 315)(hB:gG w p g N S) :
  Calls Tryz.prog 245 #[.slice none 0 0,.func (.func 297) #[] #[.pointer (some ⟨Bq,0,none⟩)]] w (fV w 3 1 bG (iG N S)):=by
 have hlen:=Oq N S
 have hpos:=hT.pos
 have hgl:=hB.words.lt
 obtain⟨W0,hW0⟩:∃ W0,(w.alloc (.cells #[.slice none 0 0] 24))=W0:=⟨_,rfl⟩
 have hB0:Below w.heap.size w W0:=by rw[←hW0];exact aj _ _
 have hsz0:W0.heap.size=w.heap.size+1:=by rw[←hW0];simp
 have hn0:Box W0 w.heap.size #[.slice none 0 0] 24:=by rw[←hW0];exact Box.new _ _ _
 have hst:=Nq 5 Bq p g N S (fun b=>b=w.heap.size∨W0.heap.size≤b) W0 hN (by omega) (by omega) (hT.kept hB0) (hq.kept hB0) (hB.kept hB0)
 have HST:=ah hst
 clear hst hq hB
 refine(callsIn_wide (n:=6)).1 ?_
 refine callsIn_of_wp_marks Tryz.func245 rfl trivial ?_ rfl
 simp only[Tryz.ntmps245,List.size_toArray,List.length_cons,List.length_nil,Nat.reduceAdd,Nat.reduceSub,Array.replicate_succ,Array.replicate_zero,List.push_toArray,List.append_toArray,List.nil_append,List.cons_append]
 gi_wp2
 clear hW0
 refine wpIn_rangeFunc_ownF rfl (by decide) (gf:=297) (lb:=#[.pointer (some ⟨Bq,0,none⟩)]) rfl trivial (enters_of Tryz.func297 (by kernel_rfl) rfl)
  HST.out (fun h k=>h.trans k) GK (Below.refl _ _) (fun _=>rfl)
  (an8 w.heap.size W0.heap.size w) (fun _ _ _=>False)
  (OwnFrom.and (fun pre W W' row ⟨a,cap,h1,h2⟩ hg hr=>⟨a,cap,iO _ _ _ (fun _:Unit=>#[.slice a pre.length cap]) () W W' row h1 hg hr,H6 _ _ _ _ _ (fun _:Unit=>.slice a pre.length cap) (fun _=>pre) () W W' row h2 hg hr⟩)
   (OwnFrom.and (fun _ _ _ _ h hg _=>Nat.le_trans h hg.size) (ownFrom_below (Nat.le_refl _) (by omega))))
  (fun _=>PZ _) ⟨⟨none,0,hn0,Own.nil _ _ _ _ _⟩,Nat.le_refl _,hB0⟩
  (fun x=>{ tmps:=#[.slice none 0 0,.func (.func 297) #[] #[.pointer (some ⟨Bq,0,none⟩)],.pointer (some ⟨w.heap.size,0,none⟩),undef,.slice none 0 0,.int .i64 (x:Nat),.func (.func 297) #[] #[.pointer (some ⟨Bq,0,none⟩)],.int .i64 (x:Nat),undef,undef,undef,undef,undef],defers:=[] }) ?assign ?body ?done ?stop
 case assign =>
  intro l x W K hK
  dsimp only[Fq]
  go_simp
  gi_wp2
  exact hK
 case body =>
  rintro l pre x W ⟨⟨a,cap,hb,hown⟩,hWs,hB⟩ hlt
  have c0:=hb.cell 0
  have f0:=hb.free 0
  have hle:pre.length+1≤1048576:=by omega
  gi_wp2_with (gi_at_builtin;go_must (refine Jh rfl _ _ 24 rfl nJ iW rfl (hown.alloc _) ⟨W.heap.size,0,none⟩ 1 x rfl (bW W [.int .i64 (x:Nat)] _) (by simp[maxLen];omega) (by omega) (by simp;omega) ?_;intro a' cap' W' hown' hg;change (W.alloc _).grownBy W' (Value.slice a pre.length cap).ownBlock at hg;have hbs:=(hb.alloc _).grown (hown.alloc _) hg (by omega);have hfs:=hbs.free 0;have hcs:=hbs.cell 0))
  have hlen':(pre++[x]).length=pre.length+1:=by simp
  refine⟨((KeepsOthers.alloc _ _).trans (KeepsOthers.Rf (hown.alloc _) hg)).trans (KeepsOthers.setCell _ _ _),((aX.below ((Below.refl _ W).alloc (Nat.le_refl _) _)).trans (aX.grown (hown.alloc _) hg (fun b hb=>.inr hb))).trans (aX.set _ _ _ (.inl rfl)),⟨a',cap',?_,?_⟩,?_,?_⟩
  ·rw[hlen'];exact hbs.set 0 _
  ·rw[hlen'];exact hown'.other _ _ (by simp;omega)
  ·have:=hg.size;simp at this ⊢;omega
  ·exact(below_grown (hB.alloc hB.size _) (hown.alloc _) hg (by omega) (by simp;omega)).setCell (by simp) _
 case done =>
  rintro D ys W hD rfl ⟨⟨a,cap,hb,hown⟩,hWs,hB⟩ hK
  have c0:=hb.cell 0
  gi_wp2
  refine⟨by simp,.inl ⟨_,_,rfl,run_takeDeferred hK,?_⟩⟩
  refine⟨_,results_tmp rfl _ _ _,a,cap,rfl,?_,hB.trans (belowK_b (w:=w) (Nat.le_refl _) W D _ _ (by omega) hK rfl rfl)⟩
  exact(H6 W0.heap.size W0.heap.size 3 1 bG (fun _:Unit=>.slice a (iG N S).length cap) (fun _=>iG N S) () _ _ (some D) hown (grownBy_putObj' _ D (.deferred none)) (fun r e=>by cases e;exact⟨by omega,_,hK,rfl⟩)).mono (by omega)
 case stop =>
  rintro D c pre W _ _ h _
  exact h.elim
theorem RH(Bq p g N S:Nat)(w:World)(hN:N≤1048576)(hT:Tab w)(hq:Box w Bq #[.pointer (some ⟨p,0,none⟩)] 315)(hB:gG w p g N S) :
  Calls Tryz.prog 216 #[.func (.func 297) #[] #[.pointer (some ⟨Bq,0,none⟩)]] w (fV w 3 1 bG (iG N S)):=by
 have H:=ah (Vg Bq p g N S w hN hT hq hB)
 clear hT hq hB
 go_enter Tryz.func216,Tryz.ntmps216
 go_wp2_with (go_at_call 245;go_must (refine H.out.mono ?_;rintro e w2 ⟨a,cap,rfl,ho,hb⟩))
 go_ret
 exact⟨a,cap,rfl,ho,hb⟩
theorem adz(p g N S:Nat)(w:World)(hN:N≤1048576)(hT:Tab w)(hB:gG w p g N S) :
  Calls Tryz.prog 262 #[.pointer (some ⟨p,0,none⟩)] w (fV w 3 1 bG (iG N S)):=by
 have hA:=U8 (some ⟨p,0,none⟩) w
 have hB0:=aj w (.cells #[.pointer (some ⟨p,0,none⟩)] 315)
 have H:=ah (RH w.heap.size p g N S _ hN (hT.kept hB0) (Box.new _ _ _) (hB.kept hB0))
 have HA:=ah hA
 clear hT hB hA
 go_enter Tryz.func262,Tryz.ntmps262
 go_wp2_with (first | (go_at_call 283;go_must (refine HA.out.mono ?_;rintro e w2 ⟨rfl,rfl⟩)) | (go_at_call 216;go_must (refine H.out.mono ?_;rintro e w3 ⟨a,cap,rfl,ho,hb⟩)))
 go_ret
 exact⟨a,cap,rfl,ho.mono hB0.size,hB0.trans (hb.mono hB0.size)⟩
end
section
open Go.RowKit
theorem RG.over{b:Nat}{g:Nat×Nat}{n cap fr p:Nat}{l:List UInt8}{w w1:World}{r:Sum (Nat×Nat) (Nat×Nat)}{e:Ending}{w':World}(ho:Only b w w1)(h:RG b g n cap fr p l w1 r e w'):RG b g n cap fr p l w r e w':=by
 cases r with
 | inl q=>obtain⟨c,j,h1,h2,h3,h4,h5⟩:=h;exact⟨c,j,h1,h2,h3,h4,ho.trans h5⟩
 | inr q=>obtain⟨h1,h2,h3,h4,h5⟩:=h;exact⟨h1,h2,h3,h4,ho.trans h5⟩
theorem RG.val{b:Nat}{g:Nat×Nat}{n cap fr p:Nat}{l:List UInt8}{w:World}{r:Sum (Nat×Nat) (Nat×Nat)}{e:Ending}{w':World}(h:RG b g n cap fr p l w r e w'):∃ c:Nat,e=.returned (.int .u8 c):=by
 cases r with
 | inl q=>obtain⟨c,j,h1,h2,h3,h4,h5⟩:=h;exact⟨c,h3⟩
 | inr q=>obtain⟨h1,h2,h3,h4,h5⟩:=h;exact⟨_,h3⟩
end
section
open Go.RowKit
def afc(lo hi:Nat):aF:=oO fun b=>decide (lo≤b)&&decide (b≤hi)
def ahX(b:Nat)(g:Nat×Nat)(n cap fr p:Nat)(l:List UInt8)(w:World)(r:Sum (Nat×Nat) ((Nat×Nat)×Nat))(e:Ending)(w':World):Prop :=
 match r with
 | .inr (q,j)=>j≤n∧KG b g n cap fr l w (mY (afc q.1 q.2)) j 0 p e w'
 | .inl (kd,ps)=>kd≠0∧∃ (s:aF) (j:Nat),j≤n∧KG b g n cap fr l w (mY s) j kd ps e w'
theorem ahX.ok{b:Nat}{g:Nat×Nat}{n cap fr p lo hi j:Nat}{l:List UInt8}{w w':World}{e:Ending}(hj:j≤n)(h:KG b g n cap fr l w (mY (afc lo hi)) j 0 p e w'):ahX b g n cap fr p l w (.inr ((lo,hi),j)) e w':=⟨hj,h⟩
theorem Only.late{b g i:Nat}{w w':World}(h:Only b w w')(hb:b≤w.heap.size)(hg:w.heap.size≤g)(v:Value):Only b w (w'.setCell ⟨g,i,none⟩ v) :=
 ⟨h.1.setCell (p:=⟨g,i,none⟩) (Nat.le_trans hb hg) v,by simpa [World.setCell] using h.2.size,fun b' hb' c E fr e=>by
  have hlt:b'<w.heap.size:=(Array.getElem?_eq_some_iff.1 e).1
  exact(Below.heap_setCell w' ⟨g,i,none⟩ v b' (fun e2=>by have:b'=g:=e2;omega)).trans (h.2.same b' hb' c E fr e)⟩
end
section
open Go.RowKit
instance an9 (X:Nat→Prop):jI (aX X):=⟨aX.refl X,fun _ _ _ h k=>h.trans k,fun _ _ h=>aX.below h⟩
def iw(k p:Nat):Value:=.agg #[.int .i64 k,.int .i64 p]
structure CR(w W:World)(g:Nat×Nat)(n cap fr i k p:Nat)(l:List UInt8):Prop where
 x0:Box W w.heap.size (dZ 0) 113
 x1:Box W (w.heap.size+1) #[.int .i64 0,.int .i64 0] 66
 rd:qP W (w.heap.size+1+1) g n cap i fr k p l
 below:Below w.heap.size w W
theorem CR.step{w W W':World}{g:Nat×Nat}{n cap fr i k p i' k' p':Nat}{l:List UInt8}(h:CR w W g n cap fr i k p l)(hr:qP W' (w.heap.size+1+1) g n cap i' fr k' p' l)(ho:Only (w.heap.size+1+1) W W'):CR w W' g n cap fr i' k' p' l :=
 ⟨ho.box h.x0 (by omega),ho.box h.x1 (by omega),hr,h.below.trans (ho.1.mono (by omega))⟩
theorem CR.kept{w W W':World}{g:Nat×Nat}{n cap fr i k p:Nat}{l:List UInt8}(h:CR w W g n cap fr i k p l)(hb:Below W.heap.size W W'):CR w W' g n cap fr i k p l :=
 ⟨h.x0.kept hb,h.x1.kept hb,h.rd.kept hb,h.below.trans (hb.mono h.below.size)⟩
theorem CR.only{w W W':World}{g:Nat×Nat}{n cap fr i k p:Nat}{l:List UInt8}(h:CR w W g n cap fr i k p l)(ho:Below W.heap.size W W'):Only (w.heap.size+1+1) W W':=Only.below ho (Nat.le_of_lt h.rd.box.lt)
theorem CR.start{g:Nat×Nat}{n cap:Nat}(fr:Nat){l:List UInt8}{w:World}(h:au w (.slice (some ⟨g.1,g.2,none⟩) n cap) 1 gI l)(hg:g.1<w.heap.size) :
  CR w (((w.alloc (.cells #[.int .u64 0,.int .u64 0,.int .u64 0,.int .u64 0] 113)).alloc (.cells #[.int .i64 0,.int .i64 0] 66)).alloc (.cells #[.slice (some ⟨g.1,g.2,none⟩) n cap,.int .i64 fr,.int .i64 fr,.int .i64 0,.int .i64 0] 354)) g n cap fr fr 0 0 l:=by
 have hb:Below w.heap.size w (((w.alloc (.cells #[.int .u64 0,.int .u64 0,.int .u64 0,.int .u64 0] 113)).alloc (.cells #[.int .i64 0,.int .i64 0] 66)).alloc (.cells #[.slice (some ⟨g.1,g.2,none⟩) n cap,.int .i64 fr,.int .i64 fr,.int .i64 0,.int .i64 0] 354)) :=
  (((Below.refl _ w).alloc (Nat.le_refl _) _).alloc (by simp) _).alloc (by simp;omega) _
 refine⟨?_,?_,⟨?_,h.kept hb,by omega⟩,hb⟩
 ·rw[jS];exact((Box.new' rfl _ _).alloc _).alloc _
 ·exact(Box.new' (by simp) _ _).alloc _
 ·exact Box.new' (by simp) _ _
theorem CR.ends{w W:World}{g:Nat×Nat}{n cap fr i k p:Nat}{l:List UInt8}(h:CR w W g n cap fr i k p l)(v0 v1 v2 v3 u0 u1:Value) :
  Box ((((((W.setCell ⟨w.heap.size,0,none⟩ v0).setCell ⟨w.heap.size,1,none⟩ v1).setCell ⟨w.heap.size,2,none⟩ v2).setCell ⟨w.heap.size,3,none⟩ v3).setCell ⟨w.heap.size+1,0,none⟩ u0).setCell ⟨w.heap.size+1,1,none⟩ u1) w.heap.size #[v0,v1,v2,v3] 113 ∧
  Box ((((((W.setCell ⟨w.heap.size,0,none⟩ v0).setCell ⟨w.heap.size,1,none⟩ v1).setCell ⟨w.heap.size,2,none⟩ v2).setCell ⟨w.heap.size,3,none⟩ v3).setCell ⟨w.heap.size+1,0,none⟩ u0).setCell ⟨w.heap.size+1,1,none⟩ u1) (w.heap.size+1) #[u0,u1] 66 ∧
  Below w.heap.size w ((((((W.setCell ⟨w.heap.size,0,none⟩ v0).setCell ⟨w.heap.size,1,none⟩ v1).setCell ⟨w.heap.size,2,none⟩ v2).setCell ⟨w.heap.size,3,none⟩ v3).setCell ⟨w.heap.size+1,0,none⟩ u0).setCell ⟨w.heap.size+1,1,none⟩ u1) :=
 ⟨((h.x0.sO rfl v0 v1 v2 v3).other _ _ (by simp)).other _ _ (by simp),(((h.x1.Zu (by omega) v0 v1 v2 v3).set 0 u0).set 1 u1),
  (((((h.below.setCell (by simp) _).setCell (by simp) _).setCell (by simp) _).setCell (by simp) _).setCell (by simp) _).setCell (by simp) _⟩
section
variable {P:Program} {ops:Array Oper} {Q:Exit→Act→World→Prop} {md:Region.Mode}
end
structure Turns(B E:Nat)(fin:Array Value)(w w':World):Prop where
 keep:aX (·=B) w w'
 low:B≤w.heap.size→Below B w w'
 box:∀ c,Box w B c E→Box w' B c E∨Box w' B fin E
instance aoa (B E:Nat) (fin:Array Value):jI (Turns B E fin) where
 refl:=fun _=>⟨aX.refl _ _,fun _=>Below.refl _ _,fun _ h=>.inl h⟩
 trans:=fun _ _ _ h k=>⟨h.keep.trans k.keep,fun hb=>(h.low hb).trans (k.low (Nat.le_trans hb h.keep.size)),fun c hc=>(h.box c hc).elim (k.box c) (fun h2=>(k.box _ h2).elim .inr .inr)⟩
 later:=fun _ _ h=>⟨aX.below h,fun hb=>Below.mono h hb,fun _ hc=>.inl (hc.kept h)⟩
theorem Turns.fin{B E:Nat}{fin:Array Value}{w w':World}(h:Turns B E fin w w')(hb:Box w B fin E):Box w' B fin E:=(h.box _ hb).elim id id
theorem Bd(B i:Nat)(w:World)(v:Value):aX (·=B) w (w.setCell ⟨B,i,none⟩ v):=aX.set w _ v rfl
structure CT(w W:World)(g:Nat×Nat)(n cap fr i k p:Nat)(l:List UInt8)(fin:aF):Prop where
 x0:Box W w.heap.size (dZ 0) 113∨Box W w.heap.size (dZ fin) 113
 x1:Box W (w.heap.size+1) #[.int .i64 0,.int .i64 0] 66
 rd:qP W (w.heap.size+1+1) g n cap i fr k p l
 below:Below w.heap.size w W
theorem CT.of{w W:World}{g:Nat×Nat}{n cap fr i k p:Nat}{l:List UInt8}(fin:aF)(h:CR w W g n cap fr i k p l):CT w W g n cap fr i k p l fin:=⟨.inl h.x0,h.x1,h.rd,h.below⟩
theorem CT.turn{w W W':World}{g:Nat×Nat}{n cap fr i k p:Nat}{l:List UInt8}{fin:aF}(h:CT w W g n cap fr i k p l fin)(hg:g.1≠w.heap.size)(ht:Turns w.heap.size 113 (dZ fin) W W'):CT w W' g n cap fr i k p l fin :=
 ⟨h.x0.elim (ht.box _) (fun h2=>.inr (ht.fin h2)),ht.keep.box (by simp) h.x1,⟨ht.keep.box (by show ¬ _;omega) h.rd.box,ht.keep.slice h.rd.sl (fun _ ad e=>by cases e;exact hg),h.rd.ne⟩,h.below.trans (ht.low h.below.size)⟩
theorem CR.sO{w W:World}{g:Nat×Nat}{n cap fr i k p sB:Nat}{l:List UInt8}(h:CR w W g n cap fr i k p l)(hs:w.heap.size+1+1<sB)(hg:g.1<w.heap.size)(v0 v1 v2 v3:Value) :
  CR w ((((W.setCell ⟨sB,0,none⟩ v0).setCell ⟨sB,1,none⟩ v1).setCell ⟨sB,2,none⟩ v2).setCell ⟨sB,3,none⟩ v3) g n cap fr i k p l :=
 have hk:aX (·=sB) W ((((W.setCell ⟨sB,0,none⟩ v0).setCell ⟨sB,1,none⟩ v1).setCell ⟨sB,2,none⟩ v2).setCell ⟨sB,3,none⟩ v3):=((Bd sB 0 _ _).trans (Bd sB 1 _ _)).trans ((Bd sB 2 _ _).trans (Bd sB 3 _ _))
 ⟨hk.box (by show ¬ _;omega) h.x0,hk.box (by show ¬ _;omega) h.x1,⟨hk.box (by show ¬ _;omega) h.rd.box,hk.slice h.rd.sl (fun _ ad e=>by cases e;show ¬ _;simp;omega),h.rd.ne⟩,
  (((h.below.setCell (by simp;omega) _).setCell (by simp;omega) _).setCell (by simp;omega) _).setCell (by simp;omega) _⟩
end
section
open Go.RowKit
structure Lx where
 kind:Nat
 at':Nat
 set:aF
 lo:Int
 hi:Int
def nK(c:Nat):Nat:=if c=40 then 2 else if c=41 then 3 else if c=124 then 4 else if c=42 then 5 else if c=43 then 6 else if c=63 then 7 else 0
def nM(l:List UInt8)(i:Nat):Sum (Nat×Nat) (Lx×Nat) :=
 let c:=(l.getD i 0).toNat
 if c=92∨c=91∨c=123∨c=46 then .inl (3,i)
 else if c=93∨c=125∨c=10 then .inl (3,i)
 else if nK c=0 then .inr (⟨1,i,uH [c],0,0⟩,i+1) else .inr (⟨nK c,i,0,0,0⟩,i+1)
def FD(l:List UInt8):Prop:=∀ b∈l,b.toNat≠92∧b.toNat≠91∧b.toNat≠123∧b.toNat≠46
theorem FD.of{l m:List UInt8}(h:FD l)(hm:∀ b∈m,b∈l):FD m:=fun b hb=>h b (hm b hb)
def lexFrom(l:List UInt8):Nat→Nat→List Lx→Sum (Nat×Nat) (List Lx)
 | 0,_,acc=>.inr acc
 | n+1,i,acc=>if i<l.length then (match nM l i with | .inl q=>.inl q | .inr (x,j)=>lexFrom l n j (acc++[x])) else .inr acc
def ku(l:List UInt8):Sum (Nat×Nat) (List Lx):=if 65536<l.length then .inl (4,65536) else lexFrom l (l.length+1) 0 []
def Bf(k:Int):List Tr→Tr
 | [x]=>x
 | l=>.mk k 0 l 0 0
def dU:List Lx→Tr→Tr×List Lx
 | [],x=>(x,[])
 | a::r,x=>if a.kind=5 then dU r (.mk 6 0 [x] 0 0) else if a.kind=6 then dU r (.mk 7 0 [x] 0 0) else if a.kind=7 then dU r (.mk 8 0 [x] 0 0)
  else if a.kind=8 then dU r (.mk 9 0 [x] a.lo a.hi) else (x,a::r)
mutual
def jm:Nat→Nat→List Tr→List Lx→Option (Sum (Nat×Nat) (Tr×List Lx))
 | 0,_,_,_=>none
 | n+1,d,parts,L=>match jV n d [] L with
  | none=>none
  | some (.inl q)=>some (.inl q)
  | some (.inr (x,r))=>match r with
   | a::r'=>if a.kind=4 then jm n d (parts++[x]) r' else some (.inr (Bf 5 (parts++[x]),a::r'))
   | []=>some (.inr (Bf 5 (parts++[x]),[]))
def jV:Nat→Nat→List Tr→List Lx→Option (Sum (Nat×Nat) (Tr×List Lx))
 | 0,_,_,_=>none
 | n+1,d,pieces,L=>match lM n d L with
  | none=>none
  | some (.inl q)=>some (.inl q)
  | some (.inr (some (x,r)))=>jV n d (pieces++[(dU r x).1]) (dU r x).2
  | some (.inr none)=>some (.inr (if pieces.length=0 then .mk 2 0 [] 0 0 else Bf 4 pieces,L))
def lM:Nat→Nat→List Lx→Option (Sum (Nat×Nat) (Option (Tr×List Lx)))
 | 0,_,_=>none
 | n+1,d,L=>match L with
  | []=>some (.inr none)
  | a::r =>
   if a.kind=1 then some (.inr (some (.mk 3 a.set [] 0 0,r)))
   else if a.kind=2 then
    (if d=64 then some (.inl (17,a.at')) else match jm n (d+1) [] r with
     | none=>none
     | some (.inl q)=>some (.inl q)
     | some (.inr (x,b::r'))=>if b.kind=3 then some (.inr (some (x,r'))) else some (.inl (11,a.at'))
     | some (.inr (_,[]))=>some (.inl (11,a.at')))
   else if a.kind=5∨a.kind=6∨a.kind=7∨a.kind=8 then some (.inl (5,a.at'))
   else if a.kind=3∧d=0 then some (.inl (12,a.at'))
   else some (.inr none)
end
def sW(n:Nat)(l:List UInt8):Option (Sum (Nat×Nat) Tr) :=
 match ku l with
 | .inl q=>some (.inl q)
 | .inr L=>if 1024<L.length then some (.inl (4,(L.getD 1024 ⟨0,0,0,0,0⟩).at')) else (jm n 0 [] L).map fun r=>match r with | .inl q=>.inl q | .inr (x,_)=>.inr x
def zn(n:Nat)(have':List (List UInt8))(s:List UInt8):Option (Sum (Nat×Nat) (List UInt8×Tr)) :=
 let k:=runFrom true s
 if have'.length=64 then some (.inl (18,0)) else if k=0 then some (.inl (9,0)) else if 32<k then some (.inl (9,32))
 else if Bc s k 58=false then some (.inl (10,k))
 else if have'.contains (s.take k) then some (.inl (8,0))
 else (sW n (s.drop (k+1))).map fun r=>match r with | .inl q=>.inl (q.1,q.2+(k+1)) | .inr x=>.inr (s.take k,x)
end
end Go.Proofs.YtengfapcaaacaaaGreatDoor
