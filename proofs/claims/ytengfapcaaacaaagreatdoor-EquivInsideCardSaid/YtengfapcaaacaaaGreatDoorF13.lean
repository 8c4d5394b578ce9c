/- The texts of E13, in few letters (mini.py). -/
import Derived.Test.YtengfapcaaacaaaGreatDoorF12
set_option linter.unusedVariables false
set_option linter.unusedSimpArgs false
set_option maxHeartbeats 3200000
set_option maxRecDepth 20000
namespace Go.Proofs.YtengfapcaaacaaaGreatDoor
section
open Go.RowKit
structure dS(w:World)(r base:Nat)(v:Value)(L:List Lx)(ov:Value)(O:List Int):Prop where
 box:Box w r #[v,ov] 275
 sl:au w v 8 gX L
 far:∀ a n c,v=.slice (some a) n c→a.block≠r∧a.block<base
 open':Own w base 3 1 encI ov O
 ok:∀ x∈L,qj x
theorem dS.kept{w w':World}{r base:Nat}{v ov:Value}{L:List Lx}{O:List Int}(h:dS w r base v L ov O)(hb:Below w.heap.size w w'):dS w' r base v L ov O:=⟨h.box.kept hb,h.sl.kept hb,h.far,h.open'.kept hb,h.ok⟩
theorem dS.cells{w:World}{r base:Nat}{v ov:Value}{L:List Lx}{O:List Int}(h:dS w r base v L ov O):w.cell? ⟨r,0,none⟩=some v∧w.cell? ⟨r,1,none⟩=some ov:=⟨h.box.cell 0,h.box.cell 1⟩
def ji:List Lx→Nat
 | []=>0
 | a::_=>a.kind
theorem GR(r base:Nat)(v ov:Value)(L:List Lx)(O:List Int)(w:World)(h:dS w r base v L ov O) :
  Calls Tryz.prog 233 #[.pointer (some ⟨r,0,none⟩)] w (fun e w'=>e=.returned (.int .i64 (ji L))∧Below w.heap.size w w'):=by
 obtain⟨x0,x1⟩:=h.cells
 obtain⟨a,b,o,cap,rfl,hle,hm,ha,hx⟩:=h.sl
 cases L with
 | nil =>
  clear h ha hx
  go_enter Tryz.func233,Tryz.ntmps233
  go_wp2
  go_ret
  exact⟨rfl,Below.refl _ _⟩
 | cons q L =>
  have ha2:a=some ⟨b,o,none⟩:=by
   rcases ha with ha | ⟨ha,_⟩
   ·exact ha
   ·cases ha
  subst ha2
  have y0:=hx 0 (by simp) 0 (.int .i64 q.kind) rfl
  have hn:0<(q::L).length:=by simp
  have e2:(((q::L).length:Int)==0)=false:=by simp;omega
  simp only[Nat.zero_mul,Nat.add_zero] at y0
  clear h ha hx
  generalize (q::L).length=n at *
  go_enter Tryz.func233,Tryz.ntmps233
  go_wp2
  go_ret
  exact⟨rfl,Below.refl _ _⟩
theorem au.tail{α:Type}{w:World}{b o n cap size:Nat}{enc:α→List Value}{x:α}{xs:List α}(h:au w (.slice (some ⟨b,o,none⟩) n cap) size enc (x::xs)) :
  au w (.slice (if cap=1 then some ⟨b,o,none⟩ else some ⟨b,o+size,none⟩) xs.length (cap - 1)) size enc xs:=by
 obtain⟨a',b',o',cap',hv,hle,hm,ha,hx⟩:=h
 obtain⟨rfl,_,rfl⟩:=Value.slice.inj hv
 rw[List.length_cons] at hle
 rcases ha with ha | ⟨ha,_⟩
 ·simp only[Option.some.injEq,Addr.mk.injEq] at ha
  obtain⟨rfl,rfl,_⟩:=ha
  by_cases h1:cap=1
  ·rw[if_pos h1]
   refine⟨_,b,o,_,rfl,by omega,by omega,.inl rfl,fun i hi=>by omega⟩
  ·rw[if_neg h1]
   refine⟨_,b,o+size,_,rfl,by omega,by omega,.inl rfl,fun i hi j u hu=>?_⟩
   have:=hx (i+1) (by simp;omega) j u (by simpa using hu)
   rw[show o+size+i*size+j=o+(i+1)*size+j by rw[Nat.add_mul];omega]
   exact this
 ·cases ha
def afe(r base:Nat)(ov:Value)(L:List Lx)(O:List Int)(w:World)(u:Value)(e:Ending)(w':World):Prop :=
 e=.returned u∧(∃ v,dS w' r base v L ov O)∧aS r ov w w'
theorem dS.frame{w w':World}{r base:Nat}{v ov:Value}{L:List Lx}{O:List Int}(h:dS w r base v L ov O)(hr:r<base)(hb:∀ b,b<base∨ov.ownBlock=some b→w'.heap[b]?=w.heap[b]?):dS w' r base v L ov O:=by
 refine⟨(hb r (.inl hr)).trans h.box,?_,h.far,h.open'.eG fun g hg=>hb g (.inr hg),h.ok⟩
 obtain⟨a,b,o,cap,rfl,_⟩:=id h.sl
 exact h.sl.fK fun _ ad e=>hb _ (.inl (h.far ad _ _ (by rw[e])).2)
theorem dS.set{w:World}{r base:Nat}{v ov:Value}{L:List Lx}{O:List Int}(h:dS w r base v L ov O)(hr:r<base){a:Addr}(ha:base≤a.block)(ho:ov.ownBlock≠some a.block)(u:Value):dS (w.setCell a u) r base v L ov O :=
 h.frame hr fun b hb=>heap_setCell_other w a b u (by rintro rfl;rcases hb with hb | hb;omega;exact ho hb)
theorem dS.ov{w:World}{r base:Nat}{v ov:Value}{L:List Lx}{O:List Int}(h:dS w r base v L ov O)(g:Nat)(hg:ov.ownBlock=some g):base≤g∧g<w.heap.size:=h.open'.je g hg
theorem dS.step{w:World}{r base:Nat}{v ov:Value}{M L:List Lx}{O:List Int}(h:dS w r base v M ov O)(hr:r<base){a':Option Addr}{n c b:Nat}(ha:∀ a,a'=some a→a.block=b)(hb1:b≠r)(hb2:b<base)(hs:au w (.slice a' n c) 8 gX L)(hok:∀ x∈L,qj x) :
  dS (w.setCell ⟨r,0,none⟩ (.slice a' n c)) r base (.slice a' n c) L ov O :=
 ⟨h.box.set 0 _,(dD.set (base:=base) w 0 _).cells.slice hs (fun _ ad e=>by have:=ha ad e;show ¬ (ad.block=r∨base≤ad.block);omega),fun a n' c' e=>by cases e;have:=ha a rfl;omega,h.open'.other _ _ hr,hok⟩
theorem ah3{w:World}{r base:Nat}{v ov:Value}{M L:List Lx}{O:List Int}{u:Value}(h:dS w r base v M ov O)(hr:r<base)(hb:base≤w.heap.size){a':Option Addr}{n c b E:Nat}(cs:Array Value)(ha:∀ a,a'=some a→a.block=b)(hb1:b≠r)(hb2:b<base)(hs:au w (.slice a' n c) 8 gX L)(hok:∀ x∈L,qj x) :
  Box (((w.setCell ⟨r,0,none⟩ (.slice a' n c)).alloc (.cells cs E)).alloc (.cells cs E)) w.heap.size cs E ∧
  afe r base ov L O w u (.returned u) (((w.setCell ⟨r,0,none⟩ (.slice a' n c)).alloc (.cells cs E)).alloc (.cells cs E)):=by
 have h1:=h.step hr ha hb1 hb2 hs hok
 have hB:Below (w.setCell ⟨r,0,none⟩ (.slice a' n c)).heap.size (w.setCell ⟨r,0,none⟩ (.slice a' n c)) (((w.setCell ⟨r,0,none⟩ (.slice a' n c)).alloc (.cells cs E)).alloc (.cells cs E)) :=
  ((Below.refl _ _).alloc (Nat.le_refl _) _).alloc (by simp) _
 refine⟨(Box.new' (by simp) cs E).alloc _,rfl,⟨_,h1.kept hB⟩,(aS.set w 0 _).tr (aS.below (by simp;omega) hB)⟩
theorem uP(r base:Nat)(v ov:Value)(q:Lx)(L:List Lx)(O:List Int)(w:World)(h:dS w r base v (q::L) ov O)(hr:r<base)(hb:base≤w.heap.size) :
  Calls Tryz.prog 234 #[.pointer (some ⟨r,0,none⟩)] w (afe r base ov L O w (.agg (gX q).toArray)):=by
 have h1:=h.kept (aj w (.cells (gX ⟨0,0,0,0,0⟩).toArray 221))
 obtain⟨x0,x1⟩:=h.cells
 obtain⟨a,b,o,cap,rfl,hle,hm,ha,hx⟩:=h.sl
 have ha2:a=some ⟨b,o,none⟩:=by
  rcases ha with ha | ⟨ha,_⟩
  ·exact ha
  ·cases ha
 subst ha2
 have hn:0<(q::L).length:=by simp
 have y:∀ j u,(gX q)[j]?=some u→w.cell? ⟨b,o+j,none⟩=some u:=fun j u hu=>by have:=hx 0 (by simp) j u hu;rwa[Nat.zero_mul,Nat.add_zero] at this
 have y0:=y 0 _ rfl
 have y1:=y 1 _ rfl
 have y2:=y 2 _ rfl
 have y3:=y 3 _ rfl
 have y4:=y 4 _ rfl
 have y5:=y 5 _ rfl
 have y6:=y 6 _ rfl
 have y7:=y 7 _ rfl
 have hT:=h.sl.tail
 have hrl:=h.box.lt
 have hbl:b<w.heap.size:=World.block_lt_of_cell? w _ y0
 have f0:=h.box.free 0
 have hL:(q::L).length - 1=L.length:=by simp
 have ah4:=h.far _ _ _ rfl
 have HF:=ah fun(a':Option Addr) (ha:∀ a:Addr,a'=some a→a.block=b) (hs:au w (.slice a' L.length (cap - 1)) 8 gX L)=>ah3 (u:=.agg (gX q).toArray) (E:=221) (n:=L.length) (c:=cap - 1) h hr hb (gX q).toArray ha ah4.1 ah4.2 hs (fun x hx=>h.ok x (List.mem_cons_of_mem _ hx))
 simp only[Nat.add_zero] at y0
 clear h h1 ha hx y
 generalize hN:(q::L).length=n at *
 go_enter Tryz.func234,Tryz.ntmps234
 go_wp2
 ·have h1:cap=1:=by assumption
  subst h1
  obtain⟨hX,hR⟩:=HF.out (some ⟨b,o,none⟩) (fun a e=>by cases e;rfl) (by rw[if_pos rfl] at hT;exact hT)
  exact eH Tryz.results234 rfl hX Tryz.underlying221 rfl Jo rfl hR
 ·have h1:¬ cap=1:=by assumption
  obtain⟨hX,hR⟩:=HF.out (some ⟨b,o+8,none⟩) (fun a e=>by cases e;rfl) (by rw[if_neg h1] at hT;exact hT)
  exact eH Tryz.results234 rfl hX Tryz.underlying221 rfl Jo rfl hR
end
section
open Go.RowKit
def Yf(k p:Nat)(e:Ending):Prop:=e=.panicked [{ v:=.iface 66 (iw k p),recovered:=false }]
theorem pz(k p:Nat)(w:World):Calls Tryz.prog 281 #[.int .i64 k,.int .i64 p] w (fun e w'=>Yf k p e∧Below w.heap.size w w'):=by
 go_enter Tryz.func281,Tryz.ntmps281
 go_wp2
 exact⟨rfl,rfl,Below.refl _ _⟩
theorem Yg(k:Int)(ps:Nat)(V:Vt)(w:World)(h:Box w ps V.cells.toArray 115) :
  Calls Tryz.prog 282 #[.int .i64 k,.pointer (some ⟨ps,0,none⟩)] w (fun e w'=>e=.returned (.agg (aI k 0 (some ⟨w.heap.size+1,0,none⟩) 1 1 0 0).toArray)∧au w' (.slice (some ⟨w.heap.size+1,0,none⟩) 1 1) 8 Vt.cells [V]∧Below w.heap.size w w'):=by
 have hz:aI k 0 (some ⟨w.heap.size+1,0,none⟩) 1 1 0 0=[.int .i64 k,.int .u64 0,.int .u64 0,.int .u64 0,.int .u64 0,.slice (some ⟨w.heap.size+1,0,none⟩) 1 1,.int .i64 0,.int .i64 0]:=by simp only[aI,qG];rfl
 rw[hz]
 have hS:=fun(w0:World)=>oz DT w0 115 [V] (by simp[maxLen])
 have hlt:=h.lt
 obtain⟨k1,s1,a1,AY,yS,lo1,hi1⟩:=V
 have y0:w.cell? ⟨ps,0,none⟩=some (.int .i64 k1):=h.cell 0
 have y1:w.cell? ⟨ps,1,none⟩=some (.int .u64 (word s1 0:Nat)):=h.cell 1
 have y2:w.cell? ⟨ps,2,none⟩=some (.int .u64 (word s1 1:Nat)):=h.cell 2
 have y3:w.cell? ⟨ps,3,none⟩=some (.int .u64 (word s1 2:Nat)):=h.cell 3
 have y4:w.cell? ⟨ps,4,none⟩=some (.int .u64 (word s1 3:Nat)):=h.cell 4
 have y5:w.cell? ⟨ps,5,none⟩=some (.slice a1 yS.length AY):=h.cell 5
 have y6:w.cell? ⟨ps,6,none⟩=some (.int .i64 lo1):=h.cell 6
 have y7:w.cell? ⟨ps,7,none⟩=some (.int .i64 hi1):=h.cell 7
 have HS:=ah hS
 clear h hz hS
 go_enter Tryz.func282,Tryz.ntmps282
 go_wp2
 exact eH Tryz.results282 rfl (cs:=#[.int .i64 k,.int .u64 0,.int .u64 0,.int .u64 0,.int .u64 0,.slice (some ⟨w.heap.size+1,0,none⟩) 1 1,.int .i64 0,.int .i64 0]) ((Box.new _ _ _).alloc _) Tryz.underlying115 rfl (by kernel_rfl) rfl ⟨rfl,by have:=HS.out (w.alloc (.cells #[.int .i64 k,.int .u64 0,.int .u64 0,.int .u64 0,.int .u64 0,.slice (some ⟨w.heap.size+1,0,none⟩) 1 1,.int .i64 0,.int .i64 0] 115));rw[World.size_alloc] at this;exact this,by go_grown⟩
end
section
open Go.RowKit
structure fH(b:Nat)(w w':World):Prop where
 os:w'.os=w.os
 tape:w'.tape=w.tape
 output:w'.output=w.output
 size:w.heap.size≤w'.heap.size
 block:∀ k,k<w.heap.size→k≠b→w'.heap[k]?=w.heap[k]?
instance kK (b:Nat):jI (fH b):=⟨fun _=>⟨rfl,rfl,rfl,Nat.le_refl _,fun _ _ _=>rfl⟩,fun _ _ _ h k=>⟨k.os.trans h.os,k.tape.trans h.tape,k.output.trans h.output,Nat.le_trans h.size k.size,fun x hx hn=>(k.block x (Nat.lt_of_lt_of_le hx h.size) hn).trans (h.block x hx hn)⟩,fun _ _ h=>⟨h.os,h.tape,h.output,h.size,fun x hx _=>h.block x hx⟩⟩
theorem fH.set{b:Nat}(w:World)(i:Nat)(v:Value):fH b w (w.setCell ⟨b,i,none⟩ v):=⟨rfl,rfl,rfl,by simp,fun k _ hn=>heap_setCell_other w ⟨b,i,none⟩ k v hn⟩
theorem fH.kept{b r:Nat}{ov:Value}{w0 w w':World}(h:fH b w w')(k:aS r ov w0 w)(hb:w0.heap.size≤b)(hr:r≤b)(hs:r≤w.heap.size):aS r ov w0 w' :=
 ⟨k.low.trans ⟨h.os,h.tape,h.output,h.size,fun x hx=>h.block x (by omega) (by omega)⟩,fun x hx h1 h2=>(h.block x (Nat.lt_of_lt_of_le hx k.low.size) (by omega)).trans (k.block x hx h1 h2)⟩
theorem oV{b:Nat}(w:World)(c:Array Value):fH b w (w.setRow b c):=⟨rfl,rfl,rfl,by simp,fun k _ hn=>setRow_other w b k c hn⟩
structure DY(b i:Nat)(x:Value)(w w':World):Prop where
 only:fH b w w'
 turn:∀ c E,Box w b c E→∃ c',Box w' b c' E∧c'.size=c.size∧(∀ j,j≠i→c'[j]?=c[j]?)∧(c[i]?=some x→c'[i]?=some x)
instance RV (b i:Nat) (x:Value):jI (DY b i x) where
 refl:=fun a=>⟨(kK b).refl a,fun c _ h=>⟨c,h,rfl,fun _ _=>rfl,id⟩⟩
 trans:=fun p q r h k=>⟨(kK b).trans p q r h.only k.only,fun c E hc=>by
  obtain⟨c1,h1,h2,h3,h4⟩:=h.turn c E hc
  obtain⟨c2,k1,k2,k3,k4⟩:=k.turn c1 E h1
  exact⟨c2,k1,k2.trans h2,fun j hj=>(k3 j hj).trans (h3 j hj),fun e=>k4 (h4 e)⟩⟩
 later:=fun p q h=>⟨(kK b).later p q h,fun c _ hc=>⟨c,hc.kept h,rfl,fun _ _=>rfl,id⟩⟩
theorem DY.set{b i:Nat}{x:Value}(w:World):DY b i x w (w.setCell ⟨b,i,none⟩ x):=⟨fH.set w i x,fun c' E' h'=>⟨_,h'.set i x,by simp,fun j hj=>by rw[Array.getElem?_setIfInBounds,if_neg (Ne.symm hj)],fun e=>by
 rw[Array.getElem?_setIfInBounds,if_pos rfl,if_pos]
 exact(Array.getElem?_eq_some_iff.1 e).1⟩⟩
theorem adD{c:Array Value}{k:Int}{s:aF}{a:Option Addr}{n cap:Nat}{lo hi lo0 hi0:Int}(h:∀ j,j≠6→j≠7→c[j]?=(aI k s a n cap lo0 hi0)[j]?)(h6:c[6]?=some (.int .i64 lo))(h7:c[7]?=some (.int .i64 hi)):c=(aI k s a n cap lo hi).toArray:=by
 refine Array.ext_getElem? fun j=>?_
 by_cases j6:j=6
 ·subst j6;rw[h6];rfl
 by_cases j7:j=7
 ·subst j7;rw[h7];rfl
 rw[h j j6 j7]
 match j,j6,j7 with
 | 0,_,_=>rfl
 | 1,_,_=>rfl
 | 2,_,_=>rfl
 | 3,_,_=>rfl
 | 4,_,_=>rfl
 | 5,_,_=>rfl
 | j+8,_,_=>rfl
structure lN(w:World)(r base m:Nat)(ov:Value)(O:List Int)(L:List Lx)(V:Vt)(W:World):Prop where
 x:Box W w.heap.size V.cells.toArray 115
 z:Box W (w.heap.size+1) bJ 115
 ps:∃ v,dS W r base v L ov O
 tree:fG W r ov m V
 away:On (fun b=>b≠w.heap.size∧b≠w.heap.size+1) V
 kept:aS r ov w W
 lt:r<base∧base≤w.heap.size∧m≤w.heap.size
 old:∀ g,ov.ownBlock=some g→g<w.heap.size
section
variable {w W W1 W2:World} {r base m:Nat} {ov:Value} {O:List Int} {L:List Lx} {V:Vt}
theorem lN.below(h:lN w r base m ov O L V W)(hb:Below W.heap.size W W1):lN w r base m ov O L V W1:=by
 obtain⟨v,hv⟩:=h.ps
 exact⟨h.x.kept hb,h.z.kept hb,⟨v,hv.kept hb⟩,h.tree.eG hb,h.away,h.kept.tr (aS.below (Nat.le_of_lt hv.box.lt) hb),h.lt,h.old⟩
theorem lN.next(h:lN w r base m ov O L V W){L2:List Lx}{v:Value}(hk:aS r ov W W1)(hp:dS W1 r base v L2 ov O):lN w r base m ov O L2 V W1:=by
 have h1:=h.lt
 have hne:∀ b,w.heap.size≤b→b≠r∧ov.ownBlock≠some b:=fun b hb=>⟨by omega,fun e=>by have:=h.old b e;omega⟩
 exact⟨(hk.block _ h.x.lt (hne _ (by omega)).1 (hne _ (by omega)).2).trans h.x,(hk.block _ h.z.lt (hne _ (by omega)).1 (hne _ (by omega)).2).trans h.z,⟨v,hp⟩,h.tree.kept hk (fC.refl _ _),h.away,h.kept.tr hk,h.lt,h.old⟩
theorem lN.turn(h:lN w r base m ov O L V W)(ho:fH w.heap.size W W1){V':Vt}(hx:Box W1 w.heap.size V'.cells.toArray 115)(hl:Lies W V')(hon:On (fun b=>m≤b∧b≠r∧ov.ownBlock≠some b) V')(haw:On (fun b=>b≠w.heap.size∧b≠w.heap.size+1) V'):lN w r base m ov O L V' W1:=by
 obtain⟨v,hv⟩:=h.ps
 have h1:=h.lt
 have hsz:=h.z.lt
 refine⟨hx,(ho.block _ hsz (by omega)).trans h.z,⟨v,hv.frame h1.1 fun b hb=>?_⟩,⟨hl.fK (haw.and hl.on) fun b hb=>ho.block b hb.2 hb.1.1,hon⟩,haw,ho.kept h.kept (Nat.le_refl _) (by omega) (by omega),h.lt,h.old⟩
 have hbl:b<w.heap.size:=by
  rcases hb with hb | hb
  ·omega
  ·exact h.old b hb
 exact ho.block b (Nat.lt_of_lt_of_le hbl h.kept.low.size) (by omega)
theorem lN.over(h:lN w r base m ov O L V W1)(hb:Below W1.heap.size W1 W2)(k:Int)(hk:I64 k)(hs:au W2 (.slice (some ⟨W1.heap.size+1,0,none⟩) 1 1) 8 Vt.cells [V]) :
  lN w r base m ov O L (.mk k 0 (some ⟨W1.heap.size+1,0,none⟩) 1 [V] 0 0) (W2.setRow w.heap.size (aI k 0 (some ⟨W1.heap.size+1,0,none⟩) 1 1 0 0).toArray):=by
 have h2:=h.below hb
 have h1:=h.lt
 have hz:=h.z.lt
 refine h2.turn (oV _ _) (h2.x.setRow _) (.mk _ _ _ _ _ _ _ hk (by decide) (by decide) hs fun i hi=>?_) (.mk _ _ _ _ _ _ _ (fun _ ad e=>?_) fun i hi=>?_) (.mk _ _ _ _ _ _ _ (fun _ ad e=>?_) fun i hi=>?_)
 ·obtain rfl:i=0:=by simpa using hi
  exact h2.tree.lies
 ·cases e
  exact⟨by show m≤W1.heap.size+1;omega,by show W1.heap.size+1≠r;omega,fun e=>by have:=h.old _ e;simp at this;omega⟩
 ·obtain rfl:i=0:=by simpa using hi
  exact h2.tree.on
 ·cases e
  exact⟨by show W1.heap.size+1≠_;omega,by show W1.heap.size+1≠_;omega⟩
 ·obtain rfl:i=0:=by simpa using hi
  exact h2.away
theorem lN.fin(h:lN w r base m ov O L V W)(ho:fH (w.heap.size+1) W W1):∃ v,dS W1 r base v L ov O∧fG W1 r ov m V∧aS r ov w W1:=by
 obtain⟨v,hv⟩:=h.ps
 have h1:=h.lt
 have hsz:=h.z.lt
 refine⟨v,hv.frame h1.1 fun b hb=>?_,⟨h.tree.lies.fK (h.away.and h.tree.lies.on) fun b hb=>ho.block b hb.2 hb.1.2,h.tree.on⟩,ho.kept h.kept (by omega) (by omega) (by omega)⟩
 have hbl:b<w.heap.size:=by
  rcases hb with hb | hb
  ·omega
  ·exact h.old b hb
 exact ho.block b (Nat.lt_of_lt_of_le hbl h.kept.low.size) (by omega)
theorem lN.nums{k:Int}{s:aF}{a:Option Addr}{cap:Nat}{kids:List Vt}{lo hi:Int}(h:lN w r base m ov O L (.mk k s a cap kids lo hi) W)(ho:fH w.heap.size W W1)(lo' hi':Int)(h1:I64 lo')(h2:I64 hi')
  (hx:Box W1 w.heap.size (aI k s a kids.length cap lo' hi').toArray 115):lN w r base m ov O L (.mk k s a cap kids lo' hi') W1:=by
 obtain⟨q1,q2,q3,q4,q5⟩:=h.tree.lies.open
 have g1:=h.tree.on
 have g2:=h.away
 cases g1 with
 | mk _ _ _ _ _ _ _ g3 g4 =>
  cases g2 with
  | mk _ _ _ _ _ _ _ g5 g6=>exact h.turn ho hx (.mk _ _ _ _ _ _ _ q1 h1 h2 q4 q5) (.mk _ _ _ _ _ _ _ g3 g4) (.mk _ _ _ _ _ _ _ g5 g6)
end
theorem dS.head{W:World}{r base:Nat}{v ov:Value}{q:Lx}{L:List Lx}{O:List Int}(h:dS W r base v (q::L) ov O) :
  ∃ b o cap n,v=.slice (some ⟨b,o,none⟩) n cap∧n=L.length+1∧b<W.heap.size∧(b≠r∧b<base)∧∀ j x,(gX q)[j]?=some x→W.cell? ⟨b,o+j,none⟩=some x:=by
 obtain⟨a,b,o,cap,rfl,hle,hm,ha,hx⟩:=h.sl
 have ha2:a=some ⟨b,o,none⟩:=by
  rcases ha with ha | ⟨ha,_⟩
  ·exact ha
  ·cases ha
 subst ha2
 have y:∀ j u,(gX q)[j]?=some u→W.cell? ⟨b,o+j,none⟩=some u:=fun j u hu=>by have:=hx 0 (by simp) j u hu;rwa[Nat.zero_mul,Nat.add_zero] at this
 exact⟨b,o,cap,_,rfl,by simp,World.block_lt_of_cell? W _ (y 0 _ rfl),h.far _ _ _ rfl,y⟩
def Qn(r:Nat)(W:World):Nat:=match W.cell? ⟨r,0,none⟩ with
 | some (.slice _ n _)=>n
 | _=>0
theorem zS{W:World}{r base:Nat}{v ov:Value}{L:List Lx}{O:List Int}(h:dS W r base v L ov O):Qn r W=L.length:=by
 obtain⟨a,b,o,cap,rfl,_⟩:=id h.sl
 unfold Qn
 rw[h.cells.1]
def Qo(r base m:Nat)(ov:Value)(O:List Int)(w:World)(ans:Tr×List Lx)(e:Ending)(w':World):Prop :=
 ∃ V v,e=.returned (.agg V.cells.toArray)∧V.tr=ans.1∧dS w' r base v ans.2 ov O∧fG w' r ov m V∧aS r ov w w'
def PoI(w:World)(r base m:Nat)(ov:Value)(O:List Int)(ANS:Tr×List Lx)(W:World):Prop:=∃ L V,lN w r base m ov O L V W∧dU L V.tr=ANS
theorem qm(q:Lx)(L:List Lx)(x:Tr):dU (q::L) x=if q.kind=5 then dU L (.mk 6 0 [x] 0 0) else if q.kind=6 then dU L (.mk 7 0 [x] 0 0) else if q.kind=7 then dU L (.mk 8 0 [x] 0 0)
  else if q.kind=8 then dU L (.mk 9 0 [x] q.lo q.hi) else (x,q::L):=by rw[dU]
theorem Vh{L:List Lx}(x:Tr)(h:¬ (ji L=5∨ji L=6∨ji L=7∨ji L=8)):dU L x=(x,L):=by
 cases L with
 | nil=>rw[dU]
 | cons q L =>
  simp only[ji,not_or] at h
  rw[qm,if_neg h.1,if_neg h.2.1,if_neg h.2.2.1,if_neg h.2.2.2]
theorem Vt.all(V:Vt):V.cells.toArray.all (·.oneCell')=true:=by
 rw[List.all_toArray,List.all_eq_true]
 exact fun u hu=>V.cells_one u hu
theorem bP(V:Vt):(Tryz.prog.info? 115).map (·.size)=some V.cells.toArray.size:=by
 rw[List.size_toArray,Vt.bK];kernel_rfl
theorem GU(k:Int)(a:Option Addr)(V:Vt)(lo hi:Int):(Vt.mk k 0 a 1 [V] lo hi).tr=.mk k 0 [V.tr] lo hi:=Vt.jU _ _ _ _ _ _ _
end
section
open Go.RowKit
def Jq(r base:Nat)(ov:Value)(O:List Int)(w:World)(ans:Sum (Nat×Nat) (Tr×List Lx))(e:Ending)(w':World):Prop :=
 match ans with
 | .inl q=>Yf q.1 q.2 e∧aS r ov w w'
 | .inr q=>∃ V v pU,e=.returned (.agg V.cells.toArray)∧V.tr=q.1∧dS w' r base v q.2 pU O∧fG w' r pU w.heap.size V∧aS r ov w w'∧fC w ov pU
def Nv(r base:Nat)(ov:Value)(O:List Int)(L:List Lx)(w:World)(ans:Sum (Nat×Nat) (Option (Tr×List Lx)))(e:Ending)(w':World):Prop :=
 match ans with
 | .inl q=>Yf q.1 q.2 e∧aS r ov w w'
 | .inr none=>e=.returned (.tuple #[Q8,.bool false])∧(∃ v,dS w' r base v L ov O)∧aS r ov w w'
 | .inr (some q)=>∃ V v pU,e=.returned (.tuple #[.agg V.cells.toArray,.bool true])∧V.tr=q.1∧dS w' r base v q.2 pU O∧fG w' r pU w.heap.size V∧aS r ov w w'∧fC w ov pU
def pV(m d:Nat)(a:Lx)(L:List Lx):Option (Sum (Nat×Nat) (Tr×List Lx)) :=
 if d=64 then some (.inl (17,a.at')) else match jm m (d+1) [] L with
  | none=>none
  | some (.inl q)=>some (.inl q)
  | some (.inr (x,b::r'))=>if b.kind=3 then some (.inr (x,r')) else some (.inl (11,a.at'))
  | some (.inr (_,[]))=>some (.inl (11,a.at'))
theorem pF(n d:Nat)(a:Lx)(L:List Lx):lM (n+1) d (a::L)=if a.kind=1 then some (.inr (some (.mk 3 a.set [] 0 0,L))) else if a.kind=2 then (pV n d a L).map (fun s=>s.map id some)
  else if a.kind=5∨a.kind=6∨a.kind=7∨a.kind=8 then some (.inl (5,a.at')) else if a.kind=3∧d=0 then some (.inl (12,a.at')) else some (.inr none):=by
 rw[lM]
 by_cases h1:a.kind=1
 ·rw[if_pos h1,if_pos h1]
 ·rw[if_neg h1,if_neg h1]
  by_cases h2:a.kind=2
  ·rw[if_pos h2,if_pos h2]
   unfold pV
   by_cases h3:d=64
   ·rw[if_pos h3,if_pos h3];rfl
   ·rw[if_neg h3,if_neg h3]
    rcases jm n (d+1) [] L with _ | q | ⟨x,_ | ⟨b,r'⟩⟩
    ·rfl
    ·rfl
    ·rfl
    ·dsimp only
     by_cases h4:b.kind=3
     ·rw[if_pos h4,if_pos h4];rfl
     ·rw[if_neg h4,if_neg h4];rfl
  ·rw[if_neg h2,if_neg h2]
theorem uQ(n d:Nat):lM (n+1) d []=some (.inr none):=by rw[lM]
theorem kP(n d:Nat)(pieces:List Tr)(L:List Lx):jV (n+1) d pieces L=match lM n d L with
  | none=>none
  | some (.inl q)=>some (.inl q)
  | some (.inr (some (x,r)))=>jV n d (pieces++[(dU r x).1]) (dU r x).2
  | some (.inr none)=>some (.inr (if pieces.length=0 then .mk 2 0 [] 0 0 else Bf 4 pieces,L)):=by rw[jV];rfl
def Nw(n d:Nat)(parts:List Tr)(L:List Lx):Option (Sum (Nat×Nat) (Tr×List Lx)):=match L with
 | a::r'=>if a.kind=4 then jm n d parts r' else some (.inr (Bf 5 parts,a::r'))
 | []=>some (.inr (Bf 5 parts,[]))
theorem mg(n d:Nat)(parts:List Tr)(L:List Lx):jm (n+1) d parts L=match jV n d [] L with
  | none=>none
  | some (.inl q)=>some (.inl q)
  | some (.inr (x,r))=>Nw n d (parts++[x]) r:=by
 rw[jm]
 rcases jV n d [] L with _ | q | ⟨x,_ | ⟨b,r'⟩⟩ <;> rfl
section
variable {W W':World} {r base:Nat} {v ov:Value} {L:List Lx} {O:List Int}
theorem dS.push(h:dS W r base v L ov O)(hr:r<base){a:Option Addr}{n c:Nat}{x:Int}(ho:Own W' base 3 1 encI (.slice a n c) (O++[x]))(hg:W.grownBy W' ov.ownBlock)(hb:(Value.slice a n c).ownBlock=ov.ownBlock∨(Value.slice a n c).ownBlock=some W.heap.size) :
  dS (W'.setCell ⟨r,1,none⟩ (.slice a n c)) r base v L (.slice a n c) (O++[x])∧aS r ov W (W'.setCell ⟨r,1,none⟩ (.slice a n c))∧fC W ov (.slice a n c):=by
 have hrl:=h.box.lt
 have hne:some r≠ov.ownBlock:=fun e=>by have:=h.ov r e.symm;omega
 have hk:aS r ov W W':=aS.grown hg (Nat.le_of_lt hrl) fun g hg=>by have:=h.ov g hg;omega
 have hbx:Box W' r #[v,ov] 275:=(hg.block r hrl hne).trans h.box
 refine⟨⟨hbx.set 1 _,?_,h.far,ho.other _ _ hr,h.ok⟩,hk.tr (aS.set _ _ _),fun g e=>?_⟩
 ·obtain⟨a',b',o',cap',rfl,_⟩:=id h.sl
  refine h.sl.fK fun h0 ad e=>?_
  have h1:=h.far ad _ _ (by rw[e])
  have h2:=h.sl
  rw[e] at h2
  have h3:=h2.blk h0 (by rw[wR.len];decide)
  rw[heap_setCell_other W' ⟨r,1,none⟩ _ _ h1.1]
  exact hg.block _ h3 fun e=>by have:=h.ov _ e.symm;omega
 ·rcases hb with hb | hb
  ·exact .inl (hb▸e)
  ·rw[hb] at e;exact .inr (by have:=Option.some.inj e;omega)
theorem dS.pop{a:Option Addr}{n c:Nat}{x:Int}(h:dS W r base v L (.slice a n c) (O++[x]))(hr:r<base) :
  dS (W.setCell ⟨r,1,none⟩ (.slice a O.length c)) r base v L (.slice a O.length c) O∧aS r (.slice a n c) W (W.setCell ⟨r,1,none⟩ (.slice a O.length c))∧fC W (.slice a n c) (.slice a O.length c):=by
 refine⟨⟨h.box.set 1 _,?_,h.far,h.open'.less.other _ _ hr,h.ok⟩,aS.set _ _ _,fun g e=>.inl (by cases a <;> exact e)⟩
 obtain⟨a',b',o',cap',rfl,_⟩:=id h.sl
 refine h.sl.fK fun h0 ad e=>?_
 exact heap_setCell_other W ⟨r,1,none⟩ _ _ (h.far ad _ _ (by rw[e])).1
theorem dS.only(h:dS W r base v L ov O)(hr:r<base){w:World}(hk:aS r ov w W)(hw:base≤w.heap.size)(ho:fH w.heap.size W W')(hov:ov.ownBlock≠some w.heap.size):dS W' r base v L ov O∧aS r ov w W':=by
 have hs:=hk.low.size
 have hrl:=h.box.lt
 refine⟨h.frame hr fun b hb=>?_,ho.kept hk (Nat.le_refl _) (by omega) (by omega)⟩
 have hbl:b<W.heap.size:=by
  rcases hb with hb | hb
  ·omega
  ·exact(h.ov b hb).2
 exact ho.block b hbl (by rintro rfl;rcases hb with hb | hb;omega;exact hov hb)
end
theorem FQ:dI Tryz.prog 24 3 (.int .i64 0) 1 8:=⟨Tryz.underlying24,info_parts (by kernel_rfl),rfl,by decide⟩
theorem aS.box{r:Nat}{ov:Value}{w w':World}(h:aS r ov w w'){b E:Nat}{c:Array Value}(hb:Box w b c E)(h1:b≠r)(h2:ov.ownBlock≠some b):Box w' b c E:=(h.block b hb.lt h1 h2).trans hb
theorem Yh(k a:Int)(s0 s1 s2 s3:Int)(lo hi:Int)(w:World):(Instr.field 221 (.agg #[.int .i64 k,.int .i64 a,.int .u64 s0,.int .u64 s1,.int .u64 s2,.int .u64 s3,.int .i64 lo,.int .i64 hi]) 1).run Tryz.prog w=.ok (.int .i64 a) w:=by kernel_rfl
theorem Yi(k a:Int)(s0 s1 s2 s3:Int)(lo hi:Int)(w:World):(Instr.field 221 (.agg #[.int .i64 k,.int .i64 a,.int .u64 s0,.int .u64 s1,.int .u64 s2,.int .u64 s3,.int .i64 lo,.int .i64 hi]) 2).run Tryz.prog w=.ok (.agg #[.int .u64 s0,.int .u64 s1,.int .u64 s2,.int .u64 s3]) w:=by kernel_rfl
def adE(r base n:Nat):Prop:=∀ (v ov:Value) (L:List Lx) (O:List Int) (ans:Sum (Nat×Nat) (Tr×List Lx)) (w:World),dS w r base v L ov O→r<base→base≤w.heap.size→O.length≤64→jm n O.length [] L=some ans →
 Calls Tryz.prog 185 #[.pointer (some ⟨r,0,none⟩)] w (Jq r base ov O w ans)
def Yj(r base n:Nat):Prop:=∀ (v ov:Value) (L:List Lx) (O:List Int) (ans:Sum (Nat×Nat) (Tr×List Lx)) (w:World),dS w r base v L ov O→r<base→base≤w.heap.size→O.length≤64→jV n O.length [] L=some ans →
 Calls Tryz.prog 232 #[.pointer (some ⟨r,0,none⟩)] w (Jq r base ov O w ans)
def Yk(r base n:Nat):Prop:=∀ (v ov:Value) (L:List Lx) (O:List Int) (ans:Sum (Nat×Nat) (Option (Tr×List Lx))) (w:World),dS w r base v L ov O→r<base→base≤w.heap.size→O.length≤64→lM n O.length L=some ans →
 Calls Tryz.prog 255 #[.pointer (some ⟨r,0,none⟩)] w (Nv r base ov O L w ans)
def aaJ(r base m:Nat):Prop:=∀ (v ov:Value) (q:Lx) (L:List Lx) (O:List Int) (ans:Sum (Nat×Nat) (Tr×List Lx)) (w:World),dS w r base v (q::L) ov O→r<base→base≤w.heap.size→O.length≤64→pV m O.length q L=some ans →
 Calls Tryz.prog 280 #[.pointer (some ⟨r,0,none⟩)] w (Jq r base ov O w ans)
end
section
open Go.RowKit
structure lQ(W0:World)(r base:Nat)(rZ:Value)(O:List Int)(a:Option Addr)(cap:Nat)(vs:List Vt)(v ov:Value)(L:List Lx)(W:World):Prop where
 ps:dS W r base v L ov O
 fresh:fC W0 rZ ov
 ne:∀ g,ov.ownBlock=some g→(Value.slice a vs.length cap).ownBlock≠some g
 trees:∀ i (h:i<vs.length),fG W r ov W0.heap.size vs[i]
 own:vw W W0.heap.size 115 (.slice a vs.length cap) vs
 kept:aS r rZ W0 W
 lt:r<base∧base≤W0.heap.size
section
variable {W0 W W':World} {r base:Nat} {rZ:Value} {O:List Int} {a:Option Addr} {cap:Nat} {vs:List Vt} {v ov:Value} {L R:List Lx}
theorem lQ.nil(h:dS W0 r base v L ov O)(hr:r<base)(hb:base≤W0.heap.size):lQ W0 r base ov O none 0 [] v ov L W0 :=
 ⟨h,fC.refl _ _,fun g _ e=>(by cases e),fun i hi=>(by simp at hi),vw.nil _ _ _,aS.refl _ _ _,hr,hb⟩
theorem lQ.lS(h:lQ W0 r base rZ O a cap vs v ov L W)(g:Nat)(hg:(Value.slice a vs.length cap).ownBlock=some g):W0.heap.size≤g∧g<W.heap.size:=h.own.1.je g hg
theorem lQ.mid(h:lQ W0 r base rZ O a cap vs v ov L W)(k:aS r ov W W'){v' pU:Value}(f:fC W ov pU)(hp:dS W' r base v' R pU O):lQ W0 r base rZ O a cap vs v' pU R W':=by
 have hlt:=h.lt
 refine⟨hp,h.fresh.trans h.kept.low.size f,fun g hg e=>?_,fun i hi=>(h.trees i hi).kept k f,⟨h.own.1.eG fun g hg=>?_,fun i hi=>((h.trees i hi).kept k f).lies,h.own.2.2⟩,h.kept.trans h.fresh k,hlt⟩
 ·have h2:=h.lS g e
  rcases f g hg with h1 | h1
  ·exact h.ne g h1 e
  ·omega
 ·have h2:=h.lS g hg
  exact k.block g h2.2 (by omega) fun e=>h.ne g e hg
theorem lQ.below(h:lQ W0 r base rZ O a cap vs v ov L W)(hb:Below W.heap.size W W'):lQ W0 r base rZ O a cap vs v ov L W':=h.mid (aS.below (Nat.le_of_lt h.ps.box.lt) hb) (fC.refl _ _) (h.ps.kept hb)
theorem lQ.snoc(h:lQ W0 r base rZ O a cap vs v ov L W){y:Vt}{m:Nat}(hy:fG W r ov m y)(hm:W0.heap.size≤m)(hoy:On (fun b=>(Value.slice a vs.length cap).ownBlock≠some b) y){a':Option Addr}{cap':Nat}
  (ho:Own W' W0.heap.size 115 8 Vt.cells (.slice a' (vs.length+1) cap') (vs++[y])) (hg:W.grownBy W' (Value.slice a vs.length cap).ownBlock) (hb:(Value.slice a' (vs.length+1) cap').ownBlock=(Value.slice a vs.length cap).ownBlock∨(Value.slice a' (vs.length+1) cap').ownBlock=some W.heap.size) :
  lQ W0 r base rZ O a' cap' (vs++[y]) v ov L W':=by
 have hlt:=h.lt
 have hl:(vs++[y]).length=vs.length+1:=by simp
 have hs:=h.kept.low.size
 have ho2:=h.own.appended hy.lies hoy ho hg hb
 have hrl:=h.ps.box.lt
 refine⟨h.ps.frame hlt.1 fun b hb2=>?_,h.fresh,fun g hg2 e=>?_,fun i hi=>⟨ho2.2.1 i hi,?_⟩,by rw[hl];exact ho2,h.kept.FP hg (Nat.le_of_lt hrl) fun g e=>by have:=h.lS g e;omega,hlt⟩
 ·refine hg.block b ?_ fun e=>?_
  ·rcases hb2 with hb2 | hb2
   ·omega
   ·exact(h.ps.ov b hb2).2
  ·rcases hb2 with hb2 | hb2
   ·have:=h.lS b e.symm;omega
   ·exact h.ne b hb2 e.symm
 ·rw[hl] at e
  rcases hb with hb | hb
  ·exact h.ne g hg2 (hb▸e)
  ·rw[hb] at e;have:=(h.ps.ov g hg2).2;have:=Option.some.inj e;omega
 ·by_cases hlt2:i<vs.length
  ·rw[List.getElem_append_left hlt2];exact(h.trees i hlt2).on
  ·have:i=vs.length:=by rw[hl] at hi;omega
   subst this;simpa using (hy.mono hm).on
theorem lQ.one{y:Vt}(h:dS W r base v L ov O)(k:aS r rZ W0 W)(f:fC W0 rZ ov)(hr:r<base)(hb:base≤W0.heap.size)(hy:fG W r ov W0.heap.size y) :
  lQ W0 r base rZ O (some ⟨W.heap.size,0,none⟩) 1 [y] v ov L (W.alloc (.cells y.cells.toArray 115)):=by
 have hB:=aj W (.cells y.cells.toArray 115)
 have hs:=k.low.size
 refine⟨h.kept hB,f,fun g hg e=>?_,fun i hi=>?_,⟨⟨_,1,rfl,Nat.le_refl _,by simp[maxLen],.inr ⟨W.heap.size,_,rfl,hs,Box.new _ _ _,by rw[List.size_toArray,Vt.bK],fun i hi j _=>?_⟩⟩,fun i hi=>?_,fun i hi=>?_⟩,k.trans f (aS.below (Nat.le_of_lt h.box.lt) hB),hr,hb⟩
 ·have h1:=(h.ov g hg).2
  have:W.heap.size=g:=Option.some.inj e
  omega
 ·obtain rfl:i=0:=by simpa using hi
  exact hy.eG hB
 ·obtain rfl:i=0:=by simpa using hi
  simp
 ·obtain rfl:i=0:=by simpa using hi
  exact hy.lies.kept hB
 ·obtain rfl:i=0:=by simpa using hi
  refine(hy.lies.on).mono fun b hb=>?_
  intro e
  have:W.heap.size=b:=Option.some.inj e
  omega
theorem lQ.flat(h:lQ W0 r base rZ O a cap vs v ov L W)(k:Int)(hk:I64 k):fG W r ov W0.heap.size (qE k a cap vs):=by
 have hlt:=h.lt
 have key:fG W r ov W0.heap.size (.mk k 0 a cap vs 0 0):=by
  refine⟨.mk _ _ _ _ _ _ _ hk (by decide) (by decide) h.own.slice fun i hi=>(h.trees i hi).lies,.mk _ _ _ _ _ _ _ (fun _ ad e=>?_) fun i hi=>(h.trees i hi).on⟩
  subst e
  have h1:=h.lS ad.block rfl
  exact⟨h1.1,by omega,fun e=>h.ne _ e rfl⟩
 match vs,h.trees,key with
 | [],_,key=>exact key
 | [x],ht,_=>exact ht 0 (by simp)
 | _::_::_,_,key=>exact key
theorem lQ.ret{w:World}(hK0:aS r rZ w W0)(hW0:W0.heap.size=w.heap.size+1)(hO:∀ g,rZ.ownBlock=some g→g<w.heap.size)(hb:base≤w.heap.size)(h:lQ W0 r base rZ O a cap vs v ov L W){V:Vt}{x:Tr}(ht:fG W r ov W0.heap.size V)(hx:V.tr=x)(ho:fH w.heap.size W W') :
  Jq r base rZ O w (.inr (x,L)) (.returned (.agg V.cells.toArray)) W':=by
 have hlt:=h.lt
 have hs:=h.kept.low.size
 have hov:ov.ownBlock≠some w.heap.size:=fun e=>by
  rcases h.fresh _ e with h1 | h1
  ·have:=hO _ h1;omega
  ·omega
 refine⟨V,v,ov,rfl,hx,h.ps.frame hlt.1 fun b hb2=>ho.block b ?_ ?_,⟨ht.lies.fK (ht.on.and ht.lies.on) fun b hb2=>ho.block b hb2.2 (by have:=hb2.1.1;omega),(ht.mono (by omega)).on⟩,ho.kept (hK0.tr h.kept) (Nat.le_refl _) (by omega) (by omega),(fC.refl _ _).trans (by omega) h.fresh⟩
 ·rcases hb2 with hb2 | hb2
  ·omega
  ·exact(h.ps.ov b hb2).2
 ·rintro rfl
  rcases hb2 with hb2 | hb2
  ·omega
  ·exact hov hb2
end
theorem Qo.open{r base m:Nat}{ov:Value}{O:List Int}{w w':World}{ans:Tr×List Lx}{e:Ending}(h:Qo r base m ov O w ans e w'):∃ k s a cap kids lo hi v,e=.returned (.agg (aI k s a (List.length kids) cap lo hi).toArray)∧(Vt.mk k s a cap kids lo hi).tr=ans.1∧dS w' r base v ans.2 ov O∧fG w' r ov m (.mk k s a cap kids lo hi)∧aS r ov w w':=by
 obtain⟨⟨k,s,a,cap,kids,lo,hi⟩,v,h⟩:=h
 exact⟨k,s,a,cap,kids,lo,hi,v,h⟩
def aff(W0:World)(r base N:Nat)(rZ:Value)(O:List Int)(ans:Sum (Nat×Nat) (Tr×List Lx))(p:Value)(W:World):Prop :=
 ∃ (m:Nat) (a:Option Addr) (cap:Nat) (vs:List Vt) (v ov:Value) (L:List Lx),p=.slice a vs.length cap∧m+vs.length=N∧lQ W0 r base rZ O a cap vs v ov L W∧jV m O.length (vs.map Vt.tr) L=some ans
def ah5(W0:World)(r base N:Nat)(rZ:Value)(O:List Int)(ans:Sum (Nat×Nat) (Tr×List Lx))(p:Value)(W:World):Prop :=
 ∃ (m:Nat) (a:Option Addr) (cap:Nat) (vs:List Vt) (v ov:Value) (L:List Lx),p=.slice a vs.length cap∧m+vs.length=N∧lQ W0 r base rZ O a cap vs v ov L W∧Nw m O.length (vs.map Vt.tr) L=some ans
def lenOf:Value→Nat
 | .slice _ n _=>n
 | _=>0
end
section
open Go.RowKit
theorem adF(r base m:Nat)(IH:adE r base m):aaJ r base m:=by
 intro v ov q L O ans w h hr hb hO hans
 have hB0:=aj w (.cells bJ 115)
 have h0:=h.kept hB0
 have hg0:=Box.new w bJ 115
 have hW0:(w.alloc (.cells bJ 115)).heap.size=w.heap.size+1:=by simp
 have hnx:=uP r base v ov q L O _ h0 hr (by omega)
 have zT:=fun g hg=>(h.ov g hg).2
 obtain⟨qk,qa,qs,ql,qh⟩:=q
 obtain⟨ao,co,rfl⟩:=h.open'.form
 have hK0:aS r (.slice ao O.length co) w (w.alloc (.cells bJ 115)):=aS.below (Nat.le_of_lt h.box.lt) hB0
 have HN:=ah hnx
 have HI:=ah IH
 have HO:=ah zT
 clear hnx h0 h IH zT hB0
 unfold gX at HN
 unfold pV at hans
 have hfl:=Yh
 by_cases hd:O.length=64
 ·rw[if_pos hd] at hans
  obtain rfl:=Option.some.inj hans
  have e64:((O.length:Int)==64)=true:=by rw[hd];rfl
  clear hd
  go_enter Tryz.func280,Tryz.ntmps280
  go_wp2_with (first | (go_at_call 234;go_must (refine HN.out.mono ?_;rintro e w1 ⟨rfl,⟨v1,h1⟩,hk1⟩;obtain⟨x0,x1⟩:=h1.cells;have hrl:=h1.box.lt)) | (go_at_call 281;go_must (refine(pz 17 qa _).mono ?_;rintro e w2 ⟨hl,hb2⟩;obtain rfl:e=_:=hl)))
  exact⟨rfl,rfl,(hK0.tr hk1).tr (aS.below (Nat.le_of_lt hrl) hb2)⟩
 ·rw[if_neg hd] at hans
  have e64:((O.length:Int)==64)=false:=by rw[beq_eq_false_iff_ne];omega
  have hlen:(O++[(qa:Int)]).length=O.length+1:=by simp
  have asy:O.length+1≤64:=by omega
  cases hA:jm m (O.length+1) [] L with
  | none=>rw[hA] at hans;cases hans
  | some A =>
   rw[hA] at hans
   rw[←hlen] at hA
   have HA:=ah hA
   have lT:=ah hans
   have HL:=ah hlen
   clear hA hans hlen hd
   go_enter Tryz.func280,Tryz.ntmps280
   go_wp2_with (first | (go_at_call 234;go_must (refine HN.out.mono ?_;rintro e w1 ⟨rfl,⟨v1,h1⟩,hk1⟩;obtain⟨x0,x1⟩:=h1.cells;have hrl:=h1.box.lt;have hK1:=hK0.tr hk1;have hp1:=h1.kept (aj w1 (.cells #[.int .i64 qa] 3));have hsz1:=hK1.low.size)) | (at_builtin;go_must (refine eX rfl _ _ 24 rfl FQ kJ rfl hp1.open' ⟨w1.heap.size,0,none⟩ 1 (qa:Int) rfl (bW w1 [.int .i64 (qa:Nat)] _) (by simp[maxLen];omega) (by omega) (by simp;omega) ?_;intro a3 c3 w3 ho3 hg3 hf3;have hpush:=hp1.push hr ho3 hg3 hf3;have hb3:Box w3 r _ _:=(hg3.block r (by have:=hp1.box.lt;omega) (fun e=>by have:=hp1.ov r e.symm;omega)).trans hp1.box;have x3:=hb3.cell 1;have f3:=hb3.free 1)))
   obtain⟨h3,hk3,hf3⟩:=hpush
   have adG:=aS.below (ov:=.slice ao O.length co) (Nat.le_of_lt hrl) (aj w1 (.cells #[.int .i64 qa] 3))
   have kz3:=(hk1.tr adG).tr hk3
   have fz3:fC (w.alloc (.cells bJ 115)) (.slice ao O.length co) (.slice a3 (O.length+1) c3):=(fC.refl _ _).trans (hk1.tr adG).low.size hf3
   have hs3:=kz3.low.size
   refine(HI.out v1 (.slice a3 (O.length+1) c3) L (O++[(qa:Int)]) A _ h3 hr (by omega) (by rw[HL.out];omega) HA.out).mono ?_
   intro e w4 hres
   clear x0 x1 x3 f3 hb3 hg3 ho3 adG hp1 h1
   have hans:=lT.out
   cases A with
   | inl p =>
    obtain⟨hl,hk4⟩:=hres
    obtain rfl:e=_:=hl
    obtain rfl:=Option.some.inj hans
    exact⟨rfl,rfl,hK0.tr (kz3.trans fz3 hk4)⟩
   | inr p =>
    obtain⟨x,R⟩:=p
    obtain⟨V,v4,ov4,rfl,hV,h4,wF,hk4,hf4⟩:=hres
    have kz4:=kz3.trans fz3 hk4
    have KP:=fz3.trans hs3 hf4
    have bI:Below w4.heap.size w4 ((w4.alloc (.cells bJ 115)).setRow w4.heap.size V.cells.toArray):=below_setRow (aj _ _) (Nat.le_refl _) _
    have h5:=h4.kept bI
    have wG:=Box.new w4 bJ 115
    have hx5:=wG.setRow V.cells.toArray
    have hpk:=GR r base v4 ov4 R (O++[(qa:Int)]) _ h5
    have hr4:=h4.box.lt
    have aoe:ov4.ownBlock≠some w4.heap.size:=fun e=>by have:=(h4.ov _ e).2;omega
    have HP:=ah hpk
    clear hpk
    by_cases Ny:ji R=3
    ·obtain⟨b,R,rfl⟩:∃ b R',R=b::R':=by
      cases R with
      | nil=>cases Ny
      | cons b R=>exact⟨b,R,rfl⟩
     have hbk:b.kind=3:=Ny
     have gV:Option.some ans=some (.inr (x,R)):=by rw[←hans];exact if_pos hbk
     obtain rfl:=Option.some.inj gV
     rw[Ny] at HP
     have hnx:=fun u v' hu=>uP r base v' ov4 b R (O++[(qa:Int)]) u hu hr
     have KQ:=ah hnx
     have H5:=ah h5
     clear hans gV hbk Ny hnx h5 h4 h3
     go_wp2_with (first | (refine wpList_store_row rfl 115 (.tmp 4) (.tmp _) rfl w4.heap.size _ rfl rfl _ _ wG (bP V) (by show 8=V.cells.toArray.size;rw[List.size_toArray,Vt.bK]) V.all ?_) | (go_at_call 233;go_must (refine HP.out.mono ?_;rintro e w6 ⟨rfl,hb6⟩;have h6:=H5.out.kept hb6;have hx6:=hx5.kept hb6;have hs6:=hb6.size;rw[size_setRow,World.size_alloc] at hs6)) | (go_at_call 234;go_must (refine(KQ.out _ _ h6 (by have:=kz4.low.size;omega)).mono ?_;rintro e w7 ⟨rfl,⟨v7,h7⟩,hk7⟩)))
     have oI:=HO.out
     have kz5:=kz4.trans KP (aS.below (ov:=ov4) (Nat.le_of_lt hr4) (bI.trans (hb6.mono bI.size)))
     have kz7:=kz5.trans KP hk7
     have hs5:=kz5.low.size
     have hs4:=kz4.low.size
     have adH:∀ g,w.heap.size≤g→g<(w.alloc (.cells bJ 115)).heap.size→g≠r∧Value.ownBlock (.slice ao O.length co)≠some g:=fun g h1 h2=>⟨by omega,fun e=>by have:=HO.out g e;omega⟩
     have hz7:=kz7.box hg0 (adH _ (Nat.le_refl _) (by omega)).1 (adH _ (Nat.le_refl _) (by omega)).2
     have hx7:=hk7.box hx6 (by omega) aoe
     have OG:=(wF.eG (bI.trans (hb6.mono bI.size))).kept hk7 (fC.refl _ _)
     obtain⟨a4,c4,rfl⟩:=h7.open'.form
     rw[HL.out] at h7 OG KP
     have asz:O.length+1≤c4:=by
      obtain⟨a',c',hv',hle',_⟩:=h7.open'
      rw[HL.out] at hv' hle'
      obtain⟨_,_,rfl⟩:=Value.slice.inj hv'
      exact hle'
     have hw4:IntKind.i64.wrap ((O.length:Nat):Int)=((O.length:Nat):Int):=by rw[IntWalk.i64_in _ (by omega)]
     have hc0:(0:Int)≤((O.length:Nat):Int):=by omega
     have hc4:((O.length:Nat):Int)≤((c4:Nat):Int):=by omega
     have hc5:O.length≤c4:=by omega
     have hz8:=hz7.lt
     have KR:=hx7.lt
     have HF:Hid (∀ u,Later w7.drew u→dS u r base v7 R (.slice a4 (O.length+1) c4) (O++[(qa:Int)])∧Box u w.heap.size bJ 115∧Box u w4.heap.size V.cells.toArray 115∧fG u r (.slice a4 (O.length+1) c4) (w.heap.size+1) V∧aS r (.slice ao O.length co) (w.alloc (.cells bJ 115)) u):=ah fun u hl =>
      ⟨(h7.kept (Below.refl _ _).drew).kept hl,(hz7.drew).kept hl,(hx7.drew).kept hl,((OG.eG (Below.refl _ _).drew).eG hl).mono (by omega),(kz7.trans KP (aS.below (Nat.le_of_lt h7.box.lt) (Below.refl _ _).drew)).trans KP (aS.below (Nat.le_of_lt h7.box.lt) hl)⟩
     have asA:=h7.box.lt
     clear h7 hz7 hx7 OG kz7 kz5 kz4 kz3 hk7 hx6 h6 H5 KQ HP hx5 wG hk4 wF hk3 hK1 hk1 hb6 bI lT HI HN
     refine aO (R:=Later) 14 (by kernel_rfl) ?_
     refine pl [0,1,2,3,4,5,6,7,8,9,10,11,12,13] ?_
     repeat
      refine dR ?_ rfl (fun w1 hl=>?_) ?_
      rotate_left
      ·obtain⟨hP,_⟩:=HF.out w1 hl;obtain⟨x0,x1⟩:=hP.cells;go_simp;try with_reducible rfl
      simp only[eA,eB,eC,Act.put,eD,eE,eF]
     refine bV ?_
     refine bg (t:=14) (i:=14) (by kernel_rfl) rfl (fun w1 hl K hK=>?_)
     obtain⟨hP,hZ,hX,hT,hK9⟩:=HF.out w1 hl
     obtain⟨x0,x1⟩:=hP.cells
     have f1:=hP.box.free 1
     go_simp
     refine hK.out _ _ (fun h=>absurd rfl h) ?_
     clear hK K
     obtain⟨KT,hk9,OH⟩:=hP.pop hr
     have hZ9:=hZ.other ⟨r,1,none⟩ (.slice a4 O.length c4) (by show w.heap.size≠r;omega)
     have zU:=hX.other ⟨r,1,none⟩ (.slice a4 O.length c4) (by show w4.heap.size≠r;omega)
     have hT9:=hT.kept hk9 OH
     have fz9:=KP.trans hK9.low.size OH
     have hK10:=hK9.trans KP hk9
     clear x0 x1 f1 hP hZ hX hT hK9 hk9 OH hl HF
     refine aV (by kernel_rfl) (fun w1 hl=>?_) _
     have hPd:=KT.kept hl
     have hZd:=hZ9.kept hl
     have hXd:=zU.kept hl
     have hTd:=hT9.eG hl
     have hKd:=hK0.tr (hK10.trans fz9 (aS.below (Nat.le_of_lt KT.box.lt) hl))
     have fzd:fC w (.slice ao O.length co) (.slice a4 O.length c4):=(fC.refl _ _).trans (by omega) fz9
     have aof:(Value.slice a4 O.length c4).ownBlock≠some w.heap.size:=fun e=>by
      rcases fz9 _ e with h | h
      ·exact absurd h (adH _ (by omega) (by omega)).2
      ·omega
     clear KT hZ9 zU hT9 hK10 fz9 hl KP
     have yx:=oV (b:=w.heap.size) w1 V.cells.toArray
     have hrd:=hPd.box.lt
     have hzl:=hZd.lt
     have Et:=hPd.frame hr (fun b hb=>yx.block b (by rcases hb with hb | hb;omega;exact(hPd.ov b hb).2) (by rintro rfl;rcases hb with hb | hb;omega;exact aof hb))
     have hTF:fG (w1.setRow w.heap.size V.cells.toArray) r (.slice a4 O.length c4) w.heap.size V:=⟨hTd.lies.fK (hTd.on.and hTd.lies.on) fun b hb=>yx.block b hb.2 (by have:=hb.1.1;omega),(hTd.mono (by omega)).on⟩
     have hKF:=yx.kept hKd (Nat.le_refl _) (by omega) (by omega)
     have HPF:=ah Et
     clear hPd hTd hKd yx Et
     go_wp2_with (first | (refine wpList_load_row rfl 115 (.tmp 4) rfl w4.heap.size rfl 115 _ (0,0) _ hXd Tryz.underlying115 rfl (bP V) ?_) | (refine wpList_store_row rfl 115 (.tmp 2) (.tmp _) rfl w.heap.size _ rfl rfl _ _ hZd (bP V) (by show 8=V.cells.toArray.size;rw[List.size_toArray,Vt.bK]) V.all ?_))
     exact eH Tryz.results280 rfl (cs:=V.cells.toArray) (hZd.setRow _) Tryz.underlying115 rfl (bP V) rfl (show Jq r base (.slice ao O.length co) O w (.inr (x,R)) _ _ from⟨V,v7,.slice a4 O.length c4,rfl,hV,HPF.out,hTF,hKF,fzd⟩)
    ·have gV:ans=.inl (11,qa):=by
      cases R with
      | nil=>exact(Option.some.inj hans).symm
      | cons b R=>exact(Option.some.inj ((if_neg Ny).symm.trans hans)).symm
     subst gV
     have n3:((ji R:Int) != 3)=true:=by rw[bne_iff_ne];omega
     clear Ny hans h5 h4 h3
     generalize ji R=pk at *
     go_wp2_with (first | (refine wpList_store_row rfl 115 (.tmp 4) (.tmp _) rfl w4.heap.size _ rfl rfl _ _ wG (bP V) (by show 8=V.cells.toArray.size;rw[List.size_toArray,Vt.bK]) V.all ?_) | (go_at_call 233;go_must (refine HP.out.mono ?_;rintro e w6 ⟨rfl,hb6⟩)) | (go_at_call 281;go_must (refine(pz 11 qa _).mono ?_;rintro e w7 ⟨hl,hb7⟩;obtain rfl:e=_:=hl)))
     have fF:=bI.trans (hb6.mono bI.size)
     exact⟨rfl,rfl,hK0.tr (kz4.trans KP (aS.below (Nat.le_of_lt hr4) (fF.trans (hb7.mono fF.size))))⟩
end
end Go.Proofs.YtengfapcaaacaaaGreatDoor
