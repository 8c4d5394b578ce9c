/- The texts of T12, in few letters (mini.py). -/
import Derived.Test.YtbemonecmmnlcaaGreatDoorU11
set_option linter.unusedVariables false
set_option linter.unusedSimpArgs false
set_option maxHeartbeats 3200000
set_option maxRecDepth 20000
namespace Go.Proofs.YtbemonecmmnlcaaGreatDoor
section
open Go.RowKit
def qx(x:Lx):Prop:=(x.kind=1∧x.lo=0∧x.hi=0)∨(2≤x.kind∧x.kind<8∧x.set=0∧x.lo=0∧x.hi=0)∨(x.kind=8∧x.set=0∧0≤x.lo∧x.lo≤1000∧(x.hi=-1∨x.lo≤x.hi∧x.hi≤1000))
structure aO(r:Nat)(ov:Value)(w w':World):Prop where
 low:Below r w w'
 block:∀ b,b<w.heap.size→b≠r→ov.ownBlock≠some b→w'.heap[b]?=w.heap[b]?
def eU(w:World)(ov pW:Value):Prop:=∀ g,pW.ownBlock=some g→ov.ownBlock=some g∨w.heap.size≤g
theorem eU.refl(w:World)(ov:Value):eU w ov ov:=fun _ h=>.inl h
theorem eU.trans{w w1:World}{ov yI FP:Value}(f:eU w ov yI)(hs:w.heap.size≤w1.heap.size)(k:eU w1 yI FP):eU w ov FP:=fun g hg=>by
 rcases k g hg with h | h
 ·exact f g h
 ·exact .inr (by omega)
theorem eU.ne{w:World}{ov pW:Value}{b:Nat}(f:eU w ov pW)(hb:b<w.heap.size)(h:ov.ownBlock≠some b):pW.ownBlock≠some b:=fun e=>by
 rcases f b e with h1 | h1
 ·exact h h1
 ·omega
theorem aO.refl(r:Nat)(ov:Value)(w:World):aO r ov w w:=⟨Below.refl _ _,fun _ _ _ _=>rfl⟩
theorem aO.trans{r:Nat}{ov yI:Value}{a b c:World}(h:aO r ov a b)(f:eU a ov yI)(k:aO r yI b c):aO r ov a c :=
 ⟨h.low.trans k.low,fun x hx hr hg=>by rw[k.block x (Nat.lt_of_lt_of_le hx h.low.size) hr (f.ne hx hg),h.block x hx hr hg]⟩
theorem aO.tr{r:Nat}{ov:Value}{a b c:World}(h:aO r ov a b)(k:aO r ov b c):aO r ov a c:=h.trans (eU.refl _ _) k
theorem aO.below{r:Nat}{ov:Value}{w w':World}(hr:r≤w.heap.size)(h:Below w.heap.size w w'):aO r ov w w':=⟨h.mono hr,fun b hb _ _=>h.block b hb⟩
theorem aO.set{r:Nat}{ov:Value}(w:World)(i:Nat)(v:Value):aO r ov w (w.setCell ⟨r,i,none⟩ v):=⟨(Below.refl r w).setCell (by simp) v,fun b _ hr _=>heap_setCell_other w ⟨r,i,none⟩ b v hr⟩
theorem aO.later{r:Nat}{ov:Value}{w w':World}(h:aO r ov w w'){a:Addr}(ha:w.heap.size≤a.block)(hr:r≤a.block)(v:Value):aO r ov w (w'.setCell a v) :=
 ⟨h.low.setCell hr v,fun b hb h1 h2=>(heap_setCell_other w' a b v (by omega)).trans (h.block b hb h1 h2)⟩
theorem aO.alloc{r:Nat}{ov:Value}{w w':World}(h:aO r ov w w')(hr:r≤w'.heap.size)(o:Obj):aO r ov w (w'.alloc o):=h.tr (aO.below hr ((Below.refl _ _).alloc (Nat.le_refl _) o))
theorem aO.grown{r:Nat}{ov:Value}{w w':World}(hg:w.grownBy w' ov.ownBlock)(hr:r≤w.heap.size)(h:∀ g,ov.ownBlock=some g→r≤g):aO r ov w w' :=
 ⟨⟨hg.os,hg.tape,hg.output,hg.size,fun k hk=>hg.block k (by omega) fun e=>by have:=h k e.symm;omega⟩,fun b hb _ h2=>hg.block b hb fun e=>h2 e.symm⟩
theorem aO.FQ{r:Nat}{ov:Value}{w0 w w':World}(h:aO r ov w0 w){row:Option Nat}(hg:w.grownBy w' row)(hr:r≤w.heap.size)(hn:∀ g,row=some g→r≤g∧w0.heap.size≤g):aO r ov w0 w' :=
 ⟨h.low.trans ⟨hg.os,hg.tape,hg.output,hg.size,fun k hk=>hg.block k (by omega) fun e=>by have:=hn k e.symm;omega⟩,
  fun b hb h1 h2=>by rw[hg.block b (Nat.lt_of_lt_of_le hb h.low.size) fun e=>by have:=hn b e.symm;omega];exact h.block b hb h1 h2⟩
theorem Own.bW{α:Type}{w w':World}{base E size:Nat}{enc:α→List Value}{v:Value}{xs:List α}(h:Own w base E size enc v xs)(hb:∀ g,v.ownBlock=some g→w'.heap[g]?=w.heap[g]?):Own w' base E size enc v xs:=by
 obtain⟨a,cap,rfl,hle,hm,hh⟩:=h
 refine⟨a,cap,rfl,hle,hm,?_⟩
 rcases hh with hh | ⟨g,cur,rfl,hbg,hg,hr⟩
 ·exact .inl hh
 ·exact .inr ⟨g,cur,rfl,hbg,(hb g rfl).trans hg,hr⟩
theorem Own.bC{α:Type}{w:World}{base E size:Nat}{enc:α→List Value}{v:Value}{xs:List α}(h:Own w base E size enc v xs)(g:Nat)(hg:v.ownBlock=some g):base≤g∧g<w.heap.size:=by
 obtain⟨a,cap,rfl,_,_,hh⟩:=h
 rcases hh with⟨rfl,_⟩ | ⟨g',cur,rfl,hb,hg',_⟩
 ·simp[Value.ownBlock] at hg
 ·simp[Value.ownBlock] at hg;subst hg;exact⟨hb,hg'.lt⟩
structure fB(w:World)(r:Nat)(ov:Value)(m:Nat)(V:Vt):Prop where
 lies:Lies w V
 on:On (fun b=>m≤b∧b≠r∧ov.ownBlock≠some b) V
theorem fB.kept{w w':World}{r m:Nat}{ov pW:Value}{V:Vt}(h:fB w r ov m V)(k:aO r ov w w')(f:eU w ov pW):fB w' r pW m V :=
 ⟨h.lies.fJ (h.on.and h.lies.on) fun b ⟨⟨_,h1,h2⟩,h3⟩=>k.block b h3 h1 h2,(h.on.and h.lies.on).mono fun _ ⟨⟨h0,h1,h2⟩,h3⟩=>⟨h0,h1,f.ne h3 h2⟩⟩
theorem fB.bW{w w':World}{r m:Nat}{ov:Value}{V:Vt}(h:fB w r ov m V)(hb:Below w.heap.size w w'):fB w' r ov m V:=⟨h.lies.kept hb,h.on⟩
theorem fB.mono{w:World}{r m m':Nat}{ov:Value}{V:Vt}(h:fB w r ov m V)(hm:m'≤m):fB w r ov m' V:=⟨h.lies,h.on.mono fun _ ⟨h0,h1,h2⟩=>⟨by omega,h1,h2⟩⟩
theorem fB.new{w w':World}{r m:Nat}{ov:Value}{V:Vt}(hl:Lies w' V)(ho:On (fun b=>w.heap.size≤b) V)(hr:r<w.heap.size)(hm:m≤w.heap.size)(hov:∀ g,ov.ownBlock=some g→g<w.heap.size):fB w' r ov m V :=
 ⟨hl,ho.mono fun _ hb=>⟨by omega,by omega,fun e=>by have:=hov _ e;omega⟩⟩
end
section
open Go.RowKit
structure dQ(w:World)(r base:Nat)(v:Value)(L:List Lx)(ov:Value)(O:List Int):Prop where
 box:Box w r #[v,ov] 309
 sl:ak w v 8 gJ L
 far:∀ a n c,v=.slice (some a) n c→a.block≠r∧a.block<base
 open':Own w base 3 1 encI ov O
 ok:∀ x∈L,qx x
theorem dQ.kept{w w':World}{r base:Nat}{v ov:Value}{L:List Lx}{O:List Int}(h:dQ w r base v L ov O)(hb:Below w.heap.size w w'):dQ w' r base v L ov O:=⟨h.box.kept hb,h.sl.kept hb,h.far,h.open'.kept hb,h.ok⟩
theorem dQ.cells{w:World}{r base:Nat}{v ov:Value}{L:List Lx}{O:List Int}(h:dQ w r base v L ov O):w.cell? ⟨r,0,none⟩=some v∧w.cell? ⟨r,1,none⟩=some ov:=⟨h.box.cell 0,h.box.cell 1⟩
def iV:List Lx→Nat
 | []=>0
 | a::_=>a.kind
theorem Hw(r base:Nat)(v ov:Value)(L:List Lx)(O:List Int)(w:World)(h:dQ w r base v L ov O) :
  Calls Tryz.prog 278 #[.pointer (some ⟨r,0,none⟩)] w (fun e w'=>e=.returned (.int .i64 (iV L))∧Below w.heap.size w w'):=by
 obtain⟨x0,x1⟩:=h.cells
 obtain⟨a,b,o,cap,rfl,hle,hm,ha,hx⟩:=h.sl
 cases L with
 | nil =>
  clear h ha hx
  go_enter Tryz.func278,Tryz.ntmps278
  go_wp2
  go_ret
  exact⟨rfl,Below.refl _ _⟩
 | cons q L =>
  have ha2:a=some ⟨b,o,none⟩:=by
   rcases ha with ha | ⟨ha,_⟩
   ·exact ha
   ·cases ha
  subst ha2
  have y0:=hx 0 (by simp) 0 (.int .i64 q.kind) rfl
  have hn:0<(q::L).length:=by simp
  have e2:(((q::L).length:Int)==0)=false:=by simp;omega
  simp only[Nat.zero_mul,Nat.add_zero] at y0
  clear h ha hx
  generalize (q::L).length=n at *
  go_enter Tryz.func278,Tryz.ntmps278
  go_wp2
  go_ret
  exact⟨rfl,Below.refl _ _⟩
theorem ak.tail{α:Type}{w:World}{b o n cap size:Nat}{enc:α→List Value}{x:α}{xs:List α}(h:ak w (.slice (some ⟨b,o,none⟩) n cap) size enc (x::xs)) :
  ak w (.slice (if cap=1 then some ⟨b,o,none⟩ else some ⟨b,o+size,none⟩) xs.length (cap - 1)) size enc xs:=by
 obtain⟨a',b',o',cap',hv,hle,hm,ha,hx⟩:=h
 obtain⟨rfl,_,rfl⟩:=Value.slice.inj hv
 rw[List.length_cons] at hle
 rcases ha with ha | ⟨ha,_⟩
 ·simp only[Option.some.injEq,Addr.mk.injEq] at ha
  obtain⟨rfl,rfl,_⟩:=ha
  by_cases h1:cap=1
  ·rw[if_pos h1]
   refine⟨_,b,o,_,rfl,by omega,by omega,.inl rfl,fun i hi=>by omega⟩
  ·rw[if_neg h1]
   refine⟨_,b,o+size,_,rfl,by omega,by omega,.inl rfl,fun i hi j u hu=>?_⟩
   have:=hx (i+1) (by simp;omega) j u (by simpa using hu)
   rw[show o+size+i*size+j=o+(i+1)*size+j by rw[Nat.add_mul];omega]
   exact this
 ·cases ha
def afi(r base:Nat)(ov:Value)(L:List Lx)(O:List Int)(w:World)(u:Value)(e:Ending)(w':World):Prop :=
 e=.returned u∧(∃ v,dQ w' r base v L ov O)∧aO r ov w w'
theorem dQ.frame{w w':World}{r base:Nat}{v ov:Value}{L:List Lx}{O:List Int}(h:dQ w r base v L ov O)(hr:r<base)(hb:∀ b,b<base∨ov.ownBlock=some b→w'.heap[b]?=w.heap[b]?):dQ w' r base v L ov O:=by
 refine⟨(hb r (.inl hr)).trans h.box,?_,h.far,h.open'.bW fun g hg=>hb g (.inr hg),h.ok⟩
 obtain⟨a,b,o,cap,rfl,_⟩:=id h.sl
 exact h.sl.fJ fun _ ad e=>hb _ (.inl (h.far ad _ _ (by rw[e])).2)
theorem dQ.set{w:World}{r base:Nat}{v ov:Value}{L:List Lx}{O:List Int}(h:dQ w r base v L ov O)(hr:r<base){a:Addr}(ha:base≤a.block)(ho:ov.ownBlock≠some a.block)(u:Value):dQ (w.setCell a u) r base v L ov O :=
 h.frame hr fun b hb=>heap_setCell_other w a b u (by rintro rfl;rcases hb with hb | hb;omega;exact ho hb)
theorem dQ.ov{w:World}{r base:Nat}{v ov:Value}{L:List Lx}{O:List Int}(h:dQ w r base v L ov O)(g:Nat)(hg:ov.ownBlock=some g):base≤g∧g<w.heap.size:=h.open'.bC g hg
theorem dQ.step{w:World}{r base:Nat}{v ov:Value}{M L:List Lx}{O:List Int}(h:dQ w r base v M ov O)(hr:r<base){a':Option Addr}{n c b:Nat}(ha:∀ a,a'=some a→a.block=b)(hb1:b≠r)(hb2:b<base)(hs:ak w (.slice a' n c) 8 gJ L)(hok:∀ x∈L,qx x) :
  dQ (w.setCell ⟨r,0,none⟩ (.slice a' n c)) r base (.slice a' n c) L ov O :=
 ⟨h.box.set 0 _,(dn.set (base:=base) w 0 _).cells.slice hs (fun _ ad e=>by have:=ha ad e;show ¬ (ad.block=r∨base≤ad.block);omega),fun a n' c' e=>by cases e;have:=ha a rfl;omega,h.open'.other _ _ hr,hok⟩
theorem ahP{w:World}{r base:Nat}{v ov:Value}{M L:List Lx}{O:List Int}{u:Value}(h:dQ w r base v M ov O)(hr:r<base)(hb:base≤w.heap.size){a':Option Addr}{n c b E:Nat}(cs:Array Value)(ha:∀ a,a'=some a→a.block=b)(hb1:b≠r)(hb2:b<base)(hs:ak w (.slice a' n c) 8 gJ L)(hok:∀ x∈L,qx x) :
  Box (((w.setCell ⟨r,0,none⟩ (.slice a' n c)).alloc (.cells cs E)).alloc (.cells cs E)) w.heap.size cs E ∧
  afi r base ov L O w u (.returned u) (((w.setCell ⟨r,0,none⟩ (.slice a' n c)).alloc (.cells cs E)).alloc (.cells cs E)):=by
 have h1:=h.step hr ha hb1 hb2 hs hok
 have hB:Below (w.setCell ⟨r,0,none⟩ (.slice a' n c)).heap.size (w.setCell ⟨r,0,none⟩ (.slice a' n c)) (((w.setCell ⟨r,0,none⟩ (.slice a' n c)).alloc (.cells cs E)).alloc (.cells cs E)) :=
  ((Below.refl _ _).alloc (Nat.le_refl _) _).alloc (by simp) _
 refine⟨(Box.new' (by simp) cs E).alloc _,rfl,⟨_,h1.kept hB⟩,(aO.set w 0 _).tr (aO.below (by simp;omega) hB)⟩
theorem uZ(r base:Nat)(v ov:Value)(q:Lx)(L:List Lx)(O:List Int)(w:World)(h:dQ w r base v (q::L) ov O)(hr:r<base)(hb:base≤w.heap.size) :
  Calls Tryz.prog 279 #[.pointer (some ⟨r,0,none⟩)] w (afi r base ov L O w (.agg (gJ q).toArray)):=by
 have h1:=h.kept (aj w (.cells (gJ ⟨0,0,0,0,0⟩).toArray 257))
 obtain⟨x0,x1⟩:=h.cells
 obtain⟨a,b,o,cap,rfl,hle,hm,ha,hx⟩:=h.sl
 have ha2:a=some ⟨b,o,none⟩:=by
  rcases ha with ha | ⟨ha,_⟩
  ·exact ha
  ·cases ha
 subst ha2
 have hn:0<(q::L).length:=by simp
 have y:∀ j u,(gJ q)[j]?=some u→w.cell? ⟨b,o+j,none⟩=some u:=fun j u hu=>by have:=hx 0 (by simp) j u hu;rwa[Nat.zero_mul,Nat.add_zero] at this
 have y0:=y 0 _ rfl
 have y1:=y 1 _ rfl
 have y2:=y 2 _ rfl
 have y3:=y 3 _ rfl
 have y4:=y 4 _ rfl
 have y5:=y 5 _ rfl
 have y6:=y 6 _ rfl
 have y7:=y 7 _ rfl
 have hT:=h.sl.tail
 have hrl:=h.box.lt
 have hbl:b<w.heap.size:=World.block_lt_of_cell? w _ y0
 have f0:=h.box.free 0
 have hL:(q::L).length - 1=L.length:=by simp
 have ahQ:=h.far _ _ _ rfl
 have HF:=ah fun(a':Option Addr) (ha:∀ a:Addr,a'=some a→a.block=b) (hs:ak w (.slice a' L.length (cap - 1)) 8 gJ L)=>ahP (u:=.agg (gJ q).toArray) (E:=257) (n:=L.length) (c:=cap - 1) h hr hb (gJ q).toArray ha ahQ.1 ahQ.2 hs (fun x hx=>h.ok x (List.mem_cons_of_mem _ hx))
 simp only[Nat.add_zero] at y0
 clear h h1 ha hx y
 generalize hN:(q::L).length=n at *
 go_enter Tryz.func279,Tryz.ntmps279
 go_wp2
 ·have h1:cap=1:=by assumption
  subst h1
  obtain⟨hX,hR⟩:=HF.out (some ⟨b,o,none⟩) (fun a e=>by cases e;rfl) (by rw[if_pos rfl] at hT;exact hT)
  exact fU Tryz.results279 rfl hX Tryz.underlying257 rfl JK rfl hR
 ·have h1:¬ cap=1:=by assumption
  obtain⟨hX,hR⟩:=HF.out (some ⟨b,o+8,none⟩) (fun a e=>by cases e;rfl) (by rw[if_neg h1] at hT;exact hT)
  exact fU Tryz.results279 rfl hX Tryz.underlying257 rfl JK rfl hR
end
section
open Go.RowKit
def X8(k p:Nat)(e:Ending):Prop:=e=.panicked [{ v:=.iface 88 (gQ k p),recovered:=false }]
theorem pI(k p:Nat)(w:World):Calls Tryz.prog 319 #[.int .i64 k,.int .i64 p] w (fun e w'=>X8 k p e∧Below w.heap.size w w'):=by
 go_enter Tryz.func319,Tryz.ntmps319
 go_wp2
 exact⟨rfl,rfl,Below.refl _ _⟩
theorem X9(k:Int)(ps:Nat)(V:Vt)(w:World)(h:Box w ps V.cells.toArray 151) :
  Calls Tryz.prog 320 #[.int .i64 k,.pointer (some ⟨ps,0,none⟩)] w (fun e w'=>e=.returned (.agg (aC k 0 (some ⟨w.heap.size+1,0,none⟩) 1 1 0 0).toArray)∧ak w' (.slice (some ⟨w.heap.size+1,0,none⟩) 1 1) 8 Vt.cells [V]∧Below w.heap.size w w'):=by
 have hz:aC k 0 (some ⟨w.heap.size+1,0,none⟩) 1 1 0 0=[.int .i64 k,.int .u64 0,.int .u64 0,.int .u64 0,.int .u64 0,.slice (some ⟨w.heap.size+1,0,none⟩) 1 1,.int .i64 0,.int .i64 0]:=by simp only[aC,qQ];rfl
 rw[hz]
 have hS:=fun(w0:World)=>pR DZ w0 151 [V] (by simp[maxLen])
 have hlt:=h.lt
 obtain⟨k1,s1,a1,Bd,zh,lo1,hi1⟩:=V
 have y0:w.cell? ⟨ps,0,none⟩=some (.int .i64 k1):=h.cell 0
 have y1:w.cell? ⟨ps,1,none⟩=some (.int .u64 (word s1 0:Nat)):=h.cell 1
 have y2:w.cell? ⟨ps,2,none⟩=some (.int .u64 (word s1 1:Nat)):=h.cell 2
 have y3:w.cell? ⟨ps,3,none⟩=some (.int .u64 (word s1 2:Nat)):=h.cell 3
 have y4:w.cell? ⟨ps,4,none⟩=some (.int .u64 (word s1 3:Nat)):=h.cell 4
 have y5:w.cell? ⟨ps,5,none⟩=some (.slice a1 zh.length Bd):=h.cell 5
 have y6:w.cell? ⟨ps,6,none⟩=some (.int .i64 lo1):=h.cell 6
 have y7:w.cell? ⟨ps,7,none⟩=some (.int .i64 hi1):=h.cell 7
 have HS:=ah hS
 clear h hz hS
 go_enter Tryz.func320,Tryz.ntmps320
 go_wp2
 exact fU Tryz.results320 rfl (cs:=#[.int .i64 k,.int .u64 0,.int .u64 0,.int .u64 0,.int .u64 0,.slice (some ⟨w.heap.size+1,0,none⟩) 1 1,.int .i64 0,.int .i64 0]) ((Box.new _ _ _).alloc _) Tryz.underlying151 rfl (by kernel_rfl) rfl ⟨rfl,by have:=HS.out (w.alloc (.cells #[.int .i64 k,.int .u64 0,.int .u64 0,.int .u64 0,.int .u64 0,.slice (some ⟨w.heap.size+1,0,none⟩) 1 1,.int .i64 0,.int .i64 0] 151));rw[World.size_alloc] at this;exact this,by go_grown⟩
end
section
open Go.RowKit
structure fE(b:Nat)(w w':World):Prop where
 os:w'.os=w.os
 tape:w'.tape=w.tape
 output:w'.output=w.output
 size:w.heap.size≤w'.heap.size
 block:∀ k,k<w.heap.size→k≠b→w'.heap[k]?=w.heap[k]?
instance jT (b:Nat):jv (fE b):=⟨fun _=>⟨rfl,rfl,rfl,Nat.le_refl _,fun _ _ _=>rfl⟩,fun _ _ _ h k=>⟨k.os.trans h.os,k.tape.trans h.tape,k.output.trans h.output,Nat.le_trans h.size k.size,fun x hx hn=>(k.block x (Nat.lt_of_lt_of_le hx h.size) hn).trans (h.block x hx hn)⟩,fun _ _ h=>⟨h.os,h.tape,h.output,h.size,fun x hx _=>h.block x hx⟩⟩
theorem fE.set{b:Nat}(w:World)(i:Nat)(v:Value):fE b w (w.setCell ⟨b,i,none⟩ v):=⟨rfl,rfl,rfl,by simp,fun k _ hn=>heap_setCell_other w ⟨b,i,none⟩ k v hn⟩
theorem fE.kept{b r:Nat}{ov:Value}{w0 w w':World}(h:fE b w w')(k:aO r ov w0 w)(hb:w0.heap.size≤b)(hr:r≤b)(hs:r≤w.heap.size):aO r ov w0 w' :=
 ⟨k.low.trans ⟨h.os,h.tape,h.output,h.size,fun x hx=>h.block x (by omega) (by omega)⟩,fun x hx h1 h2=>(h.block x (Nat.lt_of_lt_of_le hx k.low.size) (by omega)).trans (k.block x hx h1 h2)⟩
theorem pq{b:Nat}(w:World)(c:Array Value):fE b w (w.setRow b c):=⟨rfl,rfl,rfl,by simp,fun k _ hn=>setRow_other w b k c hn⟩
structure D9(b i:Nat)(x:Value)(w w':World):Prop where
 only:fE b w w'
 turn:∀ c E,Box w b c E→∃ c',Box w' b c' E∧c'.size=c.size∧(∀ j,j≠i→c'[j]?=c[j]?)∧(c[i]?=some x→c'[i]?=some x)
instance RY (b i:Nat) (x:Value):jv (D9 b i x) where
 refl:=fun a=>⟨(jT b).refl a,fun c _ h=>⟨c,h,rfl,fun _ _=>rfl,id⟩⟩
 trans:=fun p q r h k=>⟨(jT b).trans p q r h.only k.only,fun c E hc=>by
  obtain⟨c1,h1,h2,h3,h4⟩:=h.turn c E hc
  obtain⟨c2,k1,k2,k3,k4⟩:=k.turn c1 E h1
  exact⟨c2,k1,k2.trans h2,fun j hj=>(k3 j hj).trans (h3 j hj),fun e=>k4 (h4 e)⟩⟩
 later:=fun p q h=>⟨(jT b).later p q h,fun c _ hc=>⟨c,hc.kept h,rfl,fun _ _=>rfl,id⟩⟩
theorem D9.set{b i:Nat}{x:Value}(w:World):D9 b i x w (w.setCell ⟨b,i,none⟩ x):=⟨fE.set w i x,fun c' E' h'=>⟨_,h'.set i x,by simp,fun j hj=>by rw[Array.getElem?_setIfInBounds,if_neg (Ne.symm hj)],fun e=>by
 rw[Array.getElem?_setIfInBounds,if_pos rfl,if_pos]
 exact(Array.getElem?_eq_some_iff.1 e).1⟩⟩
theorem adx{c:Array Value}{k:Int}{s:aA}{a:Option Addr}{n cap:Nat}{lo hi lo0 hi0:Int}(h:∀ j,j≠6→j≠7→c[j]?=(aC k s a n cap lo0 hi0)[j]?)(h6:c[6]?=some (.int .i64 lo))(h7:c[7]?=some (.int .i64 hi)):c=(aC k s a n cap lo hi).toArray:=by
 refine Array.ext_getElem? fun j=>?_
 by_cases j6:j=6
 ·subst j6;rw[h6];rfl
 by_cases j7:j=7
 ·subst j7;rw[h7];rfl
 rw[h j j6 j7]
 match j,j6,j7 with
 | 0,_,_=>rfl
 | 1,_,_=>rfl
 | 2,_,_=>rfl
 | 3,_,_=>rfl
 | 4,_,_=>rfl
 | 5,_,_=>rfl
 | j+8,_,_=>rfl
structure kZ(w:World)(r base m:Nat)(ov:Value)(O:List Int)(L:List Lx)(V:Vt)(W:World):Prop where
 x:Box W w.heap.size V.cells.toArray 151
 z:Box W (w.heap.size+1) bI 151
 ps:∃ v,dQ W r base v L ov O
 tree:fB W r ov m V
 away:On (fun b=>b≠w.heap.size∧b≠w.heap.size+1) V
 kept:aO r ov w W
 lt:r<base∧base≤w.heap.size∧m≤w.heap.size
 old:∀ g,ov.ownBlock=some g→g<w.heap.size
section
variable {w W W1 W2:World} {r base m:Nat} {ov:Value} {O:List Int} {L:List Lx} {V:Vt}
theorem kZ.below(h:kZ w r base m ov O L V W)(hb:Below W.heap.size W W1):kZ w r base m ov O L V W1:=by
 obtain⟨v,hv⟩:=h.ps
 exact⟨h.x.kept hb,h.z.kept hb,⟨v,hv.kept hb⟩,h.tree.bW hb,h.away,h.kept.tr (aO.below (Nat.le_of_lt hv.box.lt) hb),h.lt,h.old⟩
theorem kZ.next(h:kZ w r base m ov O L V W){L2:List Lx}{v:Value}(hk:aO r ov W W1)(hp:dQ W1 r base v L2 ov O):kZ w r base m ov O L2 V W1:=by
 have h1:=h.lt
 have hne:∀ b,w.heap.size≤b→b≠r∧ov.ownBlock≠some b:=fun b hb=>⟨by omega,fun e=>by have:=h.old b e;omega⟩
 exact⟨(hk.block _ h.x.lt (hne _ (by omega)).1 (hne _ (by omega)).2).trans h.x,(hk.block _ h.z.lt (hne _ (by omega)).1 (hne _ (by omega)).2).trans h.z,⟨v,hp⟩,h.tree.kept hk (eU.refl _ _),h.away,h.kept.tr hk,h.lt,h.old⟩
theorem kZ.turn(h:kZ w r base m ov O L V W)(ho:fE w.heap.size W W1){V':Vt}(hx:Box W1 w.heap.size V'.cells.toArray 151)(hl:Lies W V')(hon:On (fun b=>m≤b∧b≠r∧ov.ownBlock≠some b) V')(haw:On (fun b=>b≠w.heap.size∧b≠w.heap.size+1) V'):kZ w r base m ov O L V' W1:=by
 obtain⟨v,hv⟩:=h.ps
 have h1:=h.lt
 have hsz:=h.z.lt
 refine⟨hx,(ho.block _ hsz (by omega)).trans h.z,⟨v,hv.frame h1.1 fun b hb=>?_⟩,⟨hl.fJ (haw.and hl.on) fun b hb=>ho.block b hb.2 hb.1.1,hon⟩,haw,ho.kept h.kept (Nat.le_refl _) (by omega) (by omega),h.lt,h.old⟩
 have hbl:b<w.heap.size:=by
  rcases hb with hb | hb
  ·omega
  ·exact h.old b hb
 exact ho.block b (Nat.lt_of_lt_of_le hbl h.kept.low.size) (by omega)
theorem kZ.over(h:kZ w r base m ov O L V W1)(hb:Below W1.heap.size W1 W2)(k:Int)(hk:I64 k)(hs:ak W2 (.slice (some ⟨W1.heap.size+1,0,none⟩) 1 1) 8 Vt.cells [V]) :
  kZ w r base m ov O L (.mk k 0 (some ⟨W1.heap.size+1,0,none⟩) 1 [V] 0 0) (W2.setRow w.heap.size (aC k 0 (some ⟨W1.heap.size+1,0,none⟩) 1 1 0 0).toArray):=by
 have h2:=h.below hb
 have h1:=h.lt
 have hz:=h.z.lt
 refine h2.turn (pq _ _) (h2.x.setRow _) (.mk _ _ _ _ _ _ _ hk (by decide) (by decide) hs fun i hi=>?_) (.mk _ _ _ _ _ _ _ (fun _ ad e=>?_) fun i hi=>?_) (.mk _ _ _ _ _ _ _ (fun _ ad e=>?_) fun i hi=>?_)
 ·obtain rfl:i=0:=by simpa using hi
  exact h2.tree.lies
 ·cases e
  exact⟨by show m≤W1.heap.size+1;omega,by show W1.heap.size+1≠r;omega,fun e=>by have:=h.old _ e;simp at this;omega⟩
 ·obtain rfl:i=0:=by simpa using hi
  exact h2.tree.on
 ·cases e
  exact⟨by show W1.heap.size+1≠_;omega,by show W1.heap.size+1≠_;omega⟩
 ·obtain rfl:i=0:=by simpa using hi
  exact h2.away
theorem kZ.fin(h:kZ w r base m ov O L V W)(ho:fE (w.heap.size+1) W W1):∃ v,dQ W1 r base v L ov O∧fB W1 r ov m V∧aO r ov w W1:=by
 obtain⟨v,hv⟩:=h.ps
 have h1:=h.lt
 have hsz:=h.z.lt
 refine⟨v,hv.frame h1.1 fun b hb=>?_,⟨h.tree.lies.fJ (h.away.and h.tree.lies.on) fun b hb=>ho.block b hb.2 hb.1.2,h.tree.on⟩,ho.kept h.kept (by omega) (by omega) (by omega)⟩
 have hbl:b<w.heap.size:=by
  rcases hb with hb | hb
  ·omega
  ·exact h.old b hb
 exact ho.block b (Nat.lt_of_lt_of_le hbl h.kept.low.size) (by omega)
theorem kZ.nums{k:Int}{s:aA}{a:Option Addr}{cap:Nat}{kids:List Vt}{lo hi:Int}(h:kZ w r base m ov O L (.mk k s a cap kids lo hi) W)(ho:fE w.heap.size W W1)(lo' hi':Int)(h1:I64 lo')(h2:I64 hi')
  (hx:Box W1 w.heap.size (aC k s a kids.length cap lo' hi').toArray 151):kZ w r base m ov O L (.mk k s a cap kids lo' hi') W1:=by
 obtain⟨q1,q2,q3,q4,q5⟩:=h.tree.lies.open
 have g1:=h.tree.on
 have g2:=h.away
 cases g1 with
 | mk _ _ _ _ _ _ _ g3 g4 =>
  cases g2 with
  | mk _ _ _ _ _ _ _ g5 g6=>exact h.turn ho hx (.mk _ _ _ _ _ _ _ q1 h1 h2 q4 q5) (.mk _ _ _ _ _ _ _ g3 g4) (.mk _ _ _ _ _ _ _ g5 g6)
end
theorem dQ.head{W:World}{r base:Nat}{v ov:Value}{q:Lx}{L:List Lx}{O:List Int}(h:dQ W r base v (q::L) ov O) :
  ∃ b o cap n,v=.slice (some ⟨b,o,none⟩) n cap∧n=L.length+1∧b<W.heap.size∧(b≠r∧b<base)∧∀ j x,(gJ q)[j]?=some x→W.cell? ⟨b,o+j,none⟩=some x:=by
 obtain⟨a,b,o,cap,rfl,hle,hm,ha,hx⟩:=h.sl
 have ha2:a=some ⟨b,o,none⟩:=by
  rcases ha with ha | ⟨ha,_⟩
  ·exact ha
  ·cases ha
 subst ha2
 have y:∀ j u,(gJ q)[j]?=some u→W.cell? ⟨b,o+j,none⟩=some u:=fun j u hu=>by have:=hx 0 (by simp) j u hu;rwa[Nat.zero_mul,Nat.add_zero] at this
 exact⟨b,o,cap,_,rfl,by simp,World.block_lt_of_cell? W _ (y 0 _ rfl),h.far _ _ _ rfl,y⟩
def Qx(r:Nat)(W:World):Nat:=match W.cell? ⟨r,0,none⟩ with
 | some (.slice _ n _)=>n
 | _=>0
theorem Af{W:World}{r base:Nat}{v ov:Value}{L:List Lx}{O:List Int}(h:dQ W r base v L ov O):Qx r W=L.length:=by
 obtain⟨a,b,o,cap,rfl,_⟩:=id h.sl
 unfold Qx
 rw[h.cells.1]
def Qy(r base m:Nat)(ov:Value)(O:List Int)(w:World)(ans:Tr×List Lx)(e:Ending)(w':World):Prop :=
 ∃ V v,e=.returned (.agg V.cells.toArray)∧V.tr=ans.1∧dQ w' r base v ans.2 ov O∧fB w' r ov m V∧aO r ov w w'
def PoI(w:World)(r base m:Nat)(ov:Value)(O:List Int)(ANS:Tr×List Lx)(W:World):Prop:=∃ L V,kZ w r base m ov O L V W∧dR L V.tr=ANS
theorem qy(q:Lx)(L:List Lx)(x:Tr):dR (q::L) x=if q.kind=5 then dR L (.mk 6 0 [x] 0 0) else if q.kind=6 then dR L (.mk 7 0 [x] 0 0) else if q.kind=7 then dR L (.mk 8 0 [x] 0 0)
  else if q.kind=8 then dR L (.mk 9 0 [x] q.lo q.hi) else (x,q::L):=by rw[dR]
theorem Vj{L:List Lx}(x:Tr)(h:¬ (iV L=5∨iV L=6∨iV L=7∨iV L=8)):dR L x=(x,L):=by
 cases L with
 | nil=>rw[dR]
 | cons q L =>
  simp only[iV,not_or] at h
  rw[qy,if_neg h.1,if_neg h.2.1,if_neg h.2.2.1,if_neg h.2.2.2]
theorem Vt.all(V:Vt):V.cells.toArray.all (·.oneCell')=true:=by
 rw[List.all_toArray,List.all_eq_true]
 exact fun u hu=>V.cells_one u hu
theorem bP(V:Vt):(Tryz.prog.info? 151).map (·.size)=some V.cells.toArray.size:=by
 rw[List.size_toArray,Vt.bK];kernel_rfl
theorem Hy(k:Int)(a:Option Addr)(V:Vt)(lo hi:Int):(Vt.mk k 0 a 1 [V] lo hi).tr=.mk k 0 [V.tr] lo hi:=Vt.jI _ _ _ _ _ _ _
end
section
open Go.RowKit
def JM(r base:Nat)(ov:Value)(O:List Int)(w:World)(ans:Sum (Nat×Nat) (Tr×List Lx))(e:Ending)(w':World):Prop :=
 match ans with
 | .inl q=>X8 q.1 q.2 e∧aO r ov w w'
 | .inr q=>∃ V v pW,e=.returned (.agg V.cells.toArray)∧V.tr=q.1∧dQ w' r base v q.2 pW O∧fB w' r pW w.heap.size V∧aO r ov w w'∧eU w ov pW
def NZ(r base:Nat)(ov:Value)(O:List Int)(L:List Lx)(w:World)(ans:Sum (Nat×Nat) (Option (Tr×List Lx)))(e:Ending)(w':World):Prop :=
 match ans with
 | .inl q=>X8 q.1 q.2 e∧aO r ov w w'
 | .inr none=>e=.returned (.tuple #[Rh,.bool false])∧(∃ v,dQ w' r base v L ov O)∧aO r ov w w'
 | .inr (some q)=>∃ V v pW,e=.returned (.tuple #[.agg V.cells.toArray,.bool true])∧V.tr=q.1∧dQ w' r base v q.2 pW O∧fB w' r pW w.heap.size V∧aO r ov w w'∧eU w ov pW
def pX(m d:Nat)(a:Lx)(L:List Lx):Option (Sum (Nat×Nat) (Tr×List Lx)) :=
 if d=64 then some (.inl (17,a.at')) else match jc m (d+1) [] L with
  | none=>none
  | some (.inl q)=>some (.inl q)
  | some (.inr (x,b::r'))=>if b.kind=3 then some (.inr (x,r')) else some (.inl (11,a.at'))
  | some (.inr (_,[]))=>some (.inl (11,a.at'))
theorem pJ(n d:Nat)(a:Lx)(L:List Lx):kY (n+1) d (a::L)=if a.kind=1 then some (.inr (some (.mk 3 a.set [] 0 0,L))) else if a.kind=2 then (pX n d a L).map (fun s=>s.map id some)
  else if a.kind=5∨a.kind=6∨a.kind=7∨a.kind=8 then some (.inl (5,a.at')) else if a.kind=3∧d=0 then some (.inl (12,a.at')) else some (.inr none):=by
 rw[kY]
 by_cases h1:a.kind=1
 ·rw[if_pos h1,if_pos h1]
 ·rw[if_neg h1,if_neg h1]
  by_cases h2:a.kind=2
  ·rw[if_pos h2,if_pos h2]
   unfold pX
   by_cases h3:d=64
   ·rw[if_pos h3,if_pos h3];rfl
   ·rw[if_neg h3,if_neg h3]
    rcases jc n (d+1) [] L with _ | q | ⟨x,_ | ⟨b,r'⟩⟩
    ·rfl
    ·rfl
    ·rfl
    ·dsimp only
     by_cases h4:b.kind=3
     ·rw[if_pos h4,if_pos h4];rfl
     ·rw[if_neg h4,if_neg h4];rfl
  ·rw[if_neg h2,if_neg h2]
theorem vg(n d:Nat):kY (n+1) d []=some (.inr none):=by rw[kY]
theorem jY(n d:Nat)(pieces:List Tr)(L:List Lx):jJ (n+1) d pieces L=match kY n d L with
  | none=>none
  | some (.inl q)=>some (.inl q)
  | some (.inr (some (x,r)))=>jJ n d (pieces++[(dR r x).1]) (dR r x).2
  | some (.inr none)=>some (.inr (if pieces.length=0 then .mk 2 0 [] 0 0 else Bl 4 pieces,L)):=by rw[jJ];rfl
def N7(n d:Nat)(parts:List Tr)(L:List Lx):Option (Sum (Nat×Nat) (Tr×List Lx)):=match L with
 | a::r'=>if a.kind=4 then jc n d parts r' else some (.inr (Bl 5 parts,a::r'))
 | []=>some (.inr (Bl 5 parts,[]))
theorem lQ(n d:Nat)(parts:List Tr)(L:List Lx):jc (n+1) d parts L=match jJ n d [] L with
  | none=>none
  | some (.inl q)=>some (.inl q)
  | some (.inr (x,r))=>N7 n d (parts++[x]) r:=by
 rw[jc]
 rcases jJ n d [] L with _ | q | ⟨x,_ | ⟨b,r'⟩⟩ <;> rfl
section
variable {W W':World} {r base:Nat} {v ov:Value} {L:List Lx} {O:List Int}
theorem dQ.push(h:dQ W r base v L ov O)(hr:r<base){a:Option Addr}{n c:Nat}{x:Int}(ho:Own W' base 3 1 encI (.slice a n c) (O++[x]))(hg:W.grownBy W' ov.ownBlock)(hb:(Value.slice a n c).ownBlock=ov.ownBlock∨(Value.slice a n c).ownBlock=some W.heap.size) :
  dQ (W'.setCell ⟨r,1,none⟩ (.slice a n c)) r base v L (.slice a n c) (O++[x])∧aO r ov W (W'.setCell ⟨r,1,none⟩ (.slice a n c))∧eU W ov (.slice a n c):=by
 have hrl:=h.box.lt
 have hne:some r≠ov.ownBlock:=fun e=>by have:=h.ov r e.symm;omega
 have hk:aO r ov W W':=aO.grown hg (Nat.le_of_lt hrl) fun g hg=>by have:=h.ov g hg;omega
 have hbx:Box W' r #[v,ov] 309:=(hg.block r hrl hne).trans h.box
 refine⟨⟨hbx.set 1 _,?_,h.far,ho.other _ _ hr,h.ok⟩,hk.tr (aO.set _ _ _),fun g e=>?_⟩
 ·obtain⟨a',b',o',cap',rfl,_⟩:=id h.sl
  refine h.sl.fJ fun h0 ad e=>?_
  have h1:=h.far ad _ _ (by rw[e])
  have h2:=h.sl
  rw[e] at h2
  have h3:=h2.blk h0 (by rw[xC.len];decide)
  rw[heap_setCell_other W' ⟨r,1,none⟩ _ _ h1.1]
  exact hg.block _ h3 fun e=>by have:=h.ov _ e.symm;omega
 ·rcases hb with hb | hb
  ·exact .inl (hb▸e)
  ·rw[hb] at e;exact .inr (by have:=Option.some.inj e;omega)
theorem dQ.pop{a:Option Addr}{n c:Nat}{x:Int}(h:dQ W r base v L (.slice a n c) (O++[x]))(hr:r<base) :
  dQ (W.setCell ⟨r,1,none⟩ (.slice a O.length c)) r base v L (.slice a O.length c) O∧aO r (.slice a n c) W (W.setCell ⟨r,1,none⟩ (.slice a O.length c))∧eU W (.slice a n c) (.slice a O.length c):=by
 refine⟨⟨h.box.set 1 _,?_,h.far,h.open'.less.other _ _ hr,h.ok⟩,aO.set _ _ _,fun g e=>.inl (by cases a <;> exact e)⟩
 obtain⟨a',b',o',cap',rfl,_⟩:=id h.sl
 refine h.sl.fJ fun h0 ad e=>?_
 exact heap_setCell_other W ⟨r,1,none⟩ _ _ (h.far ad _ _ (by rw[e])).1
theorem dQ.only(h:dQ W r base v L ov O)(hr:r<base){w:World}(hk:aO r ov w W)(hw:base≤w.heap.size)(ho:fE w.heap.size W W')(hov:ov.ownBlock≠some w.heap.size):dQ W' r base v L ov O∧aO r ov w W':=by
 have hs:=hk.low.size
 have hrl:=h.box.lt
 refine⟨h.frame hr fun b hb=>?_,ho.kept hk (Nat.le_refl _) (by omega) (by omega)⟩
 have hbl:b<W.heap.size:=by
  rcases hb with hb | hb
  ·omega
  ·exact(h.ov b hb).2
 exact ho.block b hbl (by rintro rfl;rcases hb with hb | hb;omega;exact hov hb)
end
theorem FT:eu Tryz.prog 24 3 (.int .i64 0) 1 8:=⟨Tryz.underlying24,info_parts (by kernel_rfl),rfl,by decide⟩
theorem aO.box{r:Nat}{ov:Value}{w w':World}(h:aO r ov w w'){b E:Nat}{c:Array Value}(hb:Box w b c E)(h1:b≠r)(h2:ov.ownBlock≠some b):Box w' b c E:=(h.block b hb.lt h1 h2).trans hb
theorem Ya(k a:Int)(s0 s1 s2 s3:Int)(lo hi:Int)(w:World):(Instr.field 257 (.agg #[.int .i64 k,.int .i64 a,.int .u64 s0,.int .u64 s1,.int .u64 s2,.int .u64 s3,.int .i64 lo,.int .i64 hi]) 1).run Tryz.prog w=.ok (.int .i64 a) w:=by kernel_rfl
theorem Yb(k a:Int)(s0 s1 s2 s3:Int)(lo hi:Int)(w:World):(Instr.field 257 (.agg #[.int .i64 k,.int .i64 a,.int .u64 s0,.int .u64 s1,.int .u64 s2,.int .u64 s3,.int .i64 lo,.int .i64 hi]) 2).run Tryz.prog w=.ok (.agg #[.int .u64 s0,.int .u64 s1,.int .u64 s2,.int .u64 s3]) w:=by kernel_rfl
def ady(r base n:Nat):Prop:=∀ (v ov:Value) (L:List Lx) (O:List Int) (ans:Sum (Nat×Nat) (Tr×List Lx)) (w:World),dQ w r base v L ov O→r<base→base≤w.heap.size→O.length≤64→jc n O.length [] L=some ans →
 Calls Tryz.prog 224 #[.pointer (some ⟨r,0,none⟩)] w (JM r base ov O w ans)
def Yc(r base n:Nat):Prop:=∀ (v ov:Value) (L:List Lx) (O:List Int) (ans:Sum (Nat×Nat) (Tr×List Lx)) (w:World),dQ w r base v L ov O→r<base→base≤w.heap.size→O.length≤64→jJ n O.length [] L=some ans →
 Calls Tryz.prog 277 #[.pointer (some ⟨r,0,none⟩)] w (JM r base ov O w ans)
def Yd(r base n:Nat):Prop:=∀ (v ov:Value) (L:List Lx) (O:List Int) (ans:Sum (Nat×Nat) (Option (Tr×List Lx))) (w:World),dQ w r base v L ov O→r<base→base≤w.heap.size→O.length≤64→kY n O.length L=some ans →
 Calls Tryz.prog 303 #[.pointer (some ⟨r,0,none⟩)] w (NZ r base ov O L w ans)
def aax(r base m:Nat):Prop:=∀ (v ov:Value) (q:Lx) (L:List Lx) (O:List Int) (ans:Sum (Nat×Nat) (Tr×List Lx)) (w:World),dQ w r base v (q::L) ov O→r<base→base≤w.heap.size→O.length≤64→pX m O.length q L=some ans →
 Calls Tryz.prog 318 #[.pointer (some ⟨r,0,none⟩)] w (JM r base ov O w ans)
end
section
open Go.RowKit
structure lg(W0:World)(r base:Nat)(tZ:Value)(O:List Int)(a:Option Addr)(cap:Nat)(vs:List Vt)(v ov:Value)(L:List Lx)(W:World):Prop where
 ps:dQ W r base v L ov O
 fresh:eU W0 tZ ov
 ne:∀ g,ov.ownBlock=some g→(Value.slice a vs.length cap).ownBlock≠some g
 trees:∀ i (h:i<vs.length),fB W r ov W0.heap.size vs[i]
 own:vU W W0.heap.size 151 (.slice a vs.length cap) vs
 kept:aO r tZ W0 W
 lt:r<base∧base≤W0.heap.size
section
variable {W0 W W':World} {r base:Nat} {tZ:Value} {O:List Int} {a:Option Addr} {cap:Nat} {vs:List Vt} {v ov:Value} {L R:List Lx}
theorem lg.nil(h:dQ W0 r base v L ov O)(hr:r<base)(hb:base≤W0.heap.size):lg W0 r base ov O none 0 [] v ov L W0 :=
 ⟨h,eU.refl _ _,fun g _ e=>(by cases e),fun i hi=>(by simp at hi),vU.nil _ _ _,aO.refl _ _ _,hr,hb⟩
theorem lg.lu(h:lg W0 r base tZ O a cap vs v ov L W)(g:Nat)(hg:(Value.slice a vs.length cap).ownBlock=some g):W0.heap.size≤g∧g<W.heap.size:=h.own.1.bC g hg
theorem lg.mid(h:lg W0 r base tZ O a cap vs v ov L W)(k:aO r ov W W'){v' pW:Value}(f:eU W ov pW)(hp:dQ W' r base v' R pW O):lg W0 r base tZ O a cap vs v' pW R W':=by
 have hlt:=h.lt
 refine⟨hp,h.fresh.trans h.kept.low.size f,fun g hg e=>?_,fun i hi=>(h.trees i hi).kept k f,⟨h.own.1.bW fun g hg=>?_,fun i hi=>((h.trees i hi).kept k f).lies,h.own.2.2⟩,h.kept.trans h.fresh k,hlt⟩
 ·have h2:=h.lu g e
  rcases f g hg with h1 | h1
  ·exact h.ne g h1 e
  ·omega
 ·have h2:=h.lu g hg
  exact k.block g h2.2 (by omega) fun e=>h.ne g e hg
theorem lg.below(h:lg W0 r base tZ O a cap vs v ov L W)(hb:Below W.heap.size W W'):lg W0 r base tZ O a cap vs v ov L W':=h.mid (aO.below (Nat.le_of_lt h.ps.box.lt) hb) (eU.refl _ _) (h.ps.kept hb)
theorem lg.snoc(h:lg W0 r base tZ O a cap vs v ov L W){y:Vt}{m:Nat}(hy:fB W r ov m y)(hm:W0.heap.size≤m)(hoy:On (fun b=>(Value.slice a vs.length cap).ownBlock≠some b) y){a':Option Addr}{cap':Nat}
  (ho:Own W' W0.heap.size 151 8 Vt.cells (.slice a' (vs.length+1) cap') (vs++[y])) (hg:W.grownBy W' (Value.slice a vs.length cap).ownBlock) (hb:(Value.slice a' (vs.length+1) cap').ownBlock=(Value.slice a vs.length cap).ownBlock∨(Value.slice a' (vs.length+1) cap').ownBlock=some W.heap.size) :
  lg W0 r base tZ O a' cap' (vs++[y]) v ov L W':=by
 have hlt:=h.lt
 have hl:(vs++[y]).length=vs.length+1:=by simp
 have hs:=h.kept.low.size
 have ho2:=h.own.appended hy.lies hoy ho hg hb
 have hrl:=h.ps.box.lt
 refine⟨h.ps.frame hlt.1 fun b hb2=>?_,h.fresh,fun g hg2 e=>?_,fun i hi=>⟨ho2.2.1 i hi,?_⟩,by rw[hl];exact ho2,h.kept.FQ hg (Nat.le_of_lt hrl) fun g e=>by have:=h.lu g e;omega,hlt⟩
 ·refine hg.block b ?_ fun e=>?_
  ·rcases hb2 with hb2 | hb2
   ·omega
   ·exact(h.ps.ov b hb2).2
  ·rcases hb2 with hb2 | hb2
   ·have:=h.lu b e.symm;omega
   ·exact h.ne b hb2 e.symm
 ·rw[hl] at e
  rcases hb with hb | hb
  ·exact h.ne g hg2 (hb▸e)
  ·rw[hb] at e;have:=(h.ps.ov g hg2).2;have:=Option.some.inj e;omega
 ·by_cases hlt2:i<vs.length
  ·rw[List.getElem_append_left hlt2];exact(h.trees i hlt2).on
  ·have:i=vs.length:=by rw[hl] at hi;omega
   subst this;simpa using (hy.mono hm).on
theorem lg.one{y:Vt}(h:dQ W r base v L ov O)(k:aO r tZ W0 W)(f:eU W0 tZ ov)(hr:r<base)(hb:base≤W0.heap.size)(hy:fB W r ov W0.heap.size y) :
  lg W0 r base tZ O (some ⟨W.heap.size,0,none⟩) 1 [y] v ov L (W.alloc (.cells y.cells.toArray 151)):=by
 have hB:=aj W (.cells y.cells.toArray 151)
 have hs:=k.low.size
 refine⟨h.kept hB,f,fun g hg e=>?_,fun i hi=>?_,⟨⟨_,1,rfl,Nat.le_refl _,by simp[maxLen],.inr ⟨W.heap.size,_,rfl,hs,Box.new _ _ _,by rw[List.size_toArray,Vt.bK],fun i hi j _=>?_⟩⟩,fun i hi=>?_,fun i hi=>?_⟩,k.trans f (aO.below (Nat.le_of_lt h.box.lt) hB),hr,hb⟩
 ·have h1:=(h.ov g hg).2
  have:W.heap.size=g:=Option.some.inj e
  omega
 ·obtain rfl:i=0:=by simpa using hi
  exact hy.bW hB
 ·obtain rfl:i=0:=by simpa using hi
  simp
 ·obtain rfl:i=0:=by simpa using hi
  exact hy.lies.kept hB
 ·obtain rfl:i=0:=by simpa using hi
  refine(hy.lies.on).mono fun b hb=>?_
  intro e
  have:W.heap.size=b:=Option.some.inj e
  omega
theorem lg.flat(h:lg W0 r base tZ O a cap vs v ov L W)(k:Int)(hk:I64 k):fB W r ov W0.heap.size (qM k a cap vs):=by
 have hlt:=h.lt
 have key:fB W r ov W0.heap.size (.mk k 0 a cap vs 0 0):=by
  refine⟨.mk _ _ _ _ _ _ _ hk (by decide) (by decide) h.own.slice fun i hi=>(h.trees i hi).lies,.mk _ _ _ _ _ _ _ (fun _ ad e=>?_) fun i hi=>(h.trees i hi).on⟩
  subst e
  have h1:=h.lu ad.block rfl
  exact⟨h1.1,by omega,fun e=>h.ne _ e rfl⟩
 match vs,h.trees,key with
 | [],_,key=>exact key
 | [x],ht,_=>exact ht 0 (by simp)
 | _::_::_,_,key=>exact key
theorem lg.ret{w:World}(hK0:aO r tZ w W0)(hW0:W0.heap.size=w.heap.size+1)(hO:∀ g,tZ.ownBlock=some g→g<w.heap.size)(hb:base≤w.heap.size)(h:lg W0 r base tZ O a cap vs v ov L W){V:Vt}{x:Tr}(ht:fB W r ov W0.heap.size V)(hx:V.tr=x)(ho:fE w.heap.size W W') :
  JM r base tZ O w (.inr (x,L)) (.returned (.agg V.cells.toArray)) W':=by
 have hlt:=h.lt
 have hs:=h.kept.low.size
 have hov:ov.ownBlock≠some w.heap.size:=fun e=>by
  rcases h.fresh _ e with h1 | h1
  ·have:=hO _ h1;omega
  ·omega
 refine⟨V,v,ov,rfl,hx,h.ps.frame hlt.1 fun b hb2=>ho.block b ?_ ?_,⟨ht.lies.fJ (ht.on.and ht.lies.on) fun b hb2=>ho.block b hb2.2 (by have:=hb2.1.1;omega),(ht.mono (by omega)).on⟩,ho.kept (hK0.tr h.kept) (Nat.le_refl _) (by omega) (by omega),(eU.refl _ _).trans (by omega) h.fresh⟩
 ·rcases hb2 with hb2 | hb2
  ·omega
  ·exact(h.ps.ov b hb2).2
 ·rintro rfl
  rcases hb2 with hb2 | hb2
  ·omega
  ·exact hov hb2
end
theorem Qy.open{r base m:Nat}{ov:Value}{O:List Int}{w w':World}{ans:Tr×List Lx}{e:Ending}(h:Qy r base m ov O w ans e w'):∃ k s a cap kids lo hi v,e=.returned (.agg (aC k s a (List.length kids) cap lo hi).toArray)∧(Vt.mk k s a cap kids lo hi).tr=ans.1∧dQ w' r base v ans.2 ov O∧fB w' r ov m (.mk k s a cap kids lo hi)∧aO r ov w w':=by
 obtain⟨⟨k,s,a,cap,kids,lo,hi⟩,v,h⟩:=h
 exact⟨k,s,a,cap,kids,lo,hi,v,h⟩
def afj(W0:World)(r base N:Nat)(tZ:Value)(O:List Int)(ans:Sum (Nat×Nat) (Tr×List Lx))(p:Value)(W:World):Prop :=
 ∃ (m:Nat) (a:Option Addr) (cap:Nat) (vs:List Vt) (v ov:Value) (L:List Lx),p=.slice a vs.length cap∧m+vs.length=N∧lg W0 r base tZ O a cap vs v ov L W∧jJ m O.length (vs.map Vt.tr) L=some ans
def ahR(W0:World)(r base N:Nat)(tZ:Value)(O:List Int)(ans:Sum (Nat×Nat) (Tr×List Lx))(p:Value)(W:World):Prop :=
 ∃ (m:Nat) (a:Option Addr) (cap:Nat) (vs:List Vt) (v ov:Value) (L:List Lx),p=.slice a vs.length cap∧m+vs.length=N∧lg W0 r base tZ O a cap vs v ov L W∧N7 m O.length (vs.map Vt.tr) L=some ans
def lenOf:Value→Nat
 | .slice _ n _=>n
 | _=>0
end
section
open Go.RowKit
theorem adz(r base m:Nat)(IH:ady r base m):aax r base m:=by
 intro v ov q L O ans w h hr hb hO hans
 have hB0:=aj w (.cells bI 151)
 have h0:=h.kept hB0
 have hg0:=Box.new w bI 151
 have hW0:(w.alloc (.cells bI 151)).heap.size=w.heap.size+1:=by simp
 have hnx:=uZ r base v ov q L O _ h0 hr (by omega)
 have Ag:=fun g hg=>(h.ov g hg).2
 obtain⟨qk,qa,qs,ql,qh⟩:=q
 obtain⟨ao,co,rfl⟩:=h.open'.form
 have hK0:aO r (.slice ao O.length co) w (w.alloc (.cells bI 151)):=aO.below (Nat.le_of_lt h.box.lt) hB0
 have HN:=ah hnx
 have HI:=ah IH
 have HO:=ah Ag
 clear hnx h0 h IH Ag hB0
 unfold gJ at HN
 unfold pX at hans
 have hfl:=Ya
 by_cases hd:O.length=64
 ·rw[if_pos hd] at hans
  obtain rfl:=Option.some.inj hans
  have e64:((O.length:Int)==64)=true:=by rw[hd];rfl
  clear hd
  go_enter Tryz.func318,Tryz.ntmps318
  go_wp2_with (first | (go_at_call 279;go_must (refine HN.out.mono ?_;rintro e w1 ⟨rfl,⟨v1,h1⟩,hk1⟩;obtain⟨x0,x1⟩:=h1.cells;have hrl:=h1.box.lt)) | (go_at_call 319;go_must (refine(pI 17 qa _).mono ?_;rintro e w2 ⟨hl,hb2⟩;obtain rfl:e=_:=hl)))
  exact⟨rfl,rfl,(hK0.tr hk1).tr (aO.below (Nat.le_of_lt hrl) hb2)⟩
 ·rw[if_neg hd] at hans
  have e64:((O.length:Int)==64)=false:=by rw[beq_eq_false_iff_ne];omega
  have hlen:(O++[(qa:Int)]).length=O.length+1:=by simp
  have ari:O.length+1≤64:=by omega
  cases hA:jc m (O.length+1) [] L with
  | none=>rw[hA] at hans;cases hans
  | some A =>
   rw[hA] at hans
   rw[←hlen] at hA
   have HA:=ah hA
   have lC:=ah hans
   have HL:=ah hlen
   clear hA hans hlen hd
   go_enter Tryz.func318,Tryz.ntmps318
   go_wp2_with (first | (go_at_call 279;go_must (refine HN.out.mono ?_;rintro e w1 ⟨rfl,⟨v1,h1⟩,hk1⟩;obtain⟨x0,x1⟩:=h1.cells;have hrl:=h1.box.lt;have hK1:=hK0.tr hk1;have hp1:=h1.kept (aj w1 (.cells #[.int .i64 qa] 3));have hsz1:=hK1.low.size)) | (at_builtin;go_must (refine dB rfl _ _ 24 rfl FT oD rfl hp1.open' ⟨w1.heap.size,0,none⟩ 1 (qa:Int) rfl (cu w1 [.int .i64 (qa:Nat)] _) (by simp[maxLen];omega) (by omega) (by simp;omega) ?_;intro a3 c3 w3 ho3 hg3 hf3;have hpush:=hp1.push hr ho3 hg3 hf3;have hb3:Box w3 r _ _:=(hg3.block r (by have:=hp1.box.lt;omega) (fun e=>by have:=hp1.ov r e.symm;omega)).trans hp1.box;have x3:=hb3.cell 1;have f3:=hb3.free 1)))
   obtain⟨h3,hk3,hf3⟩:=hpush
   have adA:=aO.below (ov:=.slice ao O.length co) (Nat.le_of_lt hrl) (aj w1 (.cells #[.int .i64 qa] 3))
   have kz3:=(hk1.tr adA).tr hk3
   have fz3:eU (w.alloc (.cells bI 151)) (.slice ao O.length co) (.slice a3 (O.length+1) c3):=(eU.refl _ _).trans (hk1.tr adA).low.size hf3
   have hs3:=kz3.low.size
   refine(HI.out v1 (.slice a3 (O.length+1) c3) L (O++[(qa:Int)]) A _ h3 hr (by omega) (by rw[HL.out];omega) HA.out).mono ?_
   intro e w4 hres
   clear x0 x1 x3 f3 hb3 hg3 ho3 adA hp1 h1
   have hans:=lC.out
   cases A with
   | inl p =>
    obtain⟨hl,hk4⟩:=hres
    obtain rfl:e=_:=hl
    obtain rfl:=Option.some.inj hans
    exact⟨rfl,rfl,hK0.tr (kz3.trans fz3 hk4)⟩
   | inr p =>
    obtain⟨x,R⟩:=p
    obtain⟨V,v4,ov4,rfl,hV,h4,oI,hk4,hf4⟩:=hres
    have kz4:=kz3.trans fz3 hk4
    have LC:=fz3.trans hs3 hf4
    have dG:Below w4.heap.size w4 ((w4.alloc (.cells bI 151)).setRow w4.heap.size V.cells.toArray):=below_setRow (aj _ _) (Nat.le_refl _) _
    have h5:=h4.kept dG
    have wV:=Box.new w4 bI 151
    have hx5:=wV.setRow V.cells.toArray
    have hpk:=Hw r base v4 ov4 R (O++[(qa:Int)]) _ h5
    have hr4:=h4.box.lt
    have anf:ov4.ownBlock≠some w4.heap.size:=fun e=>by have:=(h4.ov _ e).2;omega
    have HP:=ah hpk
    clear hpk
    by_cases N8:iV R=3
    ·obtain⟨b,R,rfl⟩:∃ b R',R=b::R':=by
      cases R with
      | nil=>cases N8
      | cons b R=>exact⟨b,R,rfl⟩
     have hbk:b.kind=3:=N8
     have gB:Option.some ans=some (.inr (x,R)):=by rw[←hans];exact if_pos hbk
     obtain rfl:=Option.some.inj gB
     rw[N8] at HP
     have hnx:=fun u v' hu=>uZ r base v' ov4 b R (O++[(qa:Int)]) u hu hr
     have IK:=ah hnx
     have H5:=ah h5
     clear hans gB hbk N8 hnx h5 h4 h3
     go_wp2_with (first | (refine wpList_store_row rfl 151 (.tmp 4) (.tmp _) rfl w4.heap.size _ rfl rfl _ _ wV (bP V) (by show 8=V.cells.toArray.size;rw[List.size_toArray,Vt.bK]) V.all ?_) | (go_at_call 278;go_must (refine HP.out.mono ?_;rintro e w6 ⟨rfl,hb6⟩;have h6:=H5.out.kept hb6;have hx6:=hx5.kept hb6;have hs6:=hb6.size;rw[size_setRow,World.size_alloc] at hs6)) | (go_at_call 279;go_must (refine(IK.out _ _ h6 (by have:=kz4.low.size;omega)).mono ?_;rintro e w7 ⟨rfl,⟨v7,h7⟩,EL⟩)))
     have nP:=HO.out
     have kz5:=kz4.trans LC (aO.below (ov:=ov4) (Nat.le_of_lt hr4) (dG.trans (hb6.mono dG.size)))
     have kz7:=kz5.trans LC EL
     have hs5:=kz5.low.size
     have hs4:=kz4.low.size
     have adB:∀ g,w.heap.size≤g→g<(w.alloc (.cells bI 151)).heap.size→g≠r∧Value.ownBlock (.slice ao O.length co)≠some g:=fun g h1 h2=>⟨by omega,fun e=>by have:=HO.out g e;omega⟩
     have Bv:=kz7.box hg0 (adB _ (Nat.le_refl _) (by omega)).1 (adB _ (Nat.le_refl _) (by omega)).2
     have hx7:=EL.box hx6 (by omega) anf
     have IL:=(oI.bW (dG.trans (hb6.mono dG.size))).kept EL (eU.refl _ _)
     obtain⟨a4,c4,rfl⟩:=h7.open'.form
     rw[HL.out] at h7 IL LC
     have arj:O.length+1≤c4:=by
      obtain⟨a',c',hv',hle',_⟩:=h7.open'
      rw[HL.out] at hv' hle'
      obtain⟨_,_,rfl⟩:=Value.slice.inj hv'
      exact hle'
     have hw4:IntKind.i64.wrap ((O.length:Nat):Int)=((O.length:Nat):Int):=by rw[IntWalk.i64_in _ (by omega)]
     have hc0:(0:Int)≤((O.length:Nat):Int):=by omega
     have hc4:((O.length:Nat):Int)≤((c4:Nat):Int):=by omega
     have hc5:O.length≤c4:=by omega
     have IQ:=Bv.lt
     have EM:=hx7.lt
     have HF:Hid (∀ u,Later w7.drew u→dQ u r base v7 R (.slice a4 (O.length+1) c4) (O++[(qa:Int)])∧Box u w.heap.size bI 151∧Box u w4.heap.size V.cells.toArray 151∧fB u r (.slice a4 (O.length+1) c4) (w.heap.size+1) V∧aO r (.slice ao O.length co) (w.alloc (.cells bI 151)) u):=ah fun u hl =>
      ⟨(h7.kept (Below.refl _ _).drew).kept hl,(Bv.drew).kept hl,(hx7.drew).kept hl,((IL.bW (Below.refl _ _).drew).bW hl).mono (by omega),(kz7.trans LC (aO.below (Nat.le_of_lt h7.box.lt) (Below.refl _ _).drew)).trans LC (aO.below (Nat.le_of_lt h7.box.lt) hl)⟩
     have ark:=h7.box.lt
     clear h7 Bv hx7 IL kz7 kz5 kz4 kz3 EL hx6 h6 H5 IK HP hx5 wV hk4 oI hk3 hK1 hk1 hb6 dG lC HI HN
     refine aH (R:=Later) 14 (by kernel_rfl) ?_
     refine pl [0,1,2,3,4,5,6,7,8,9,10,11,12,13] ?_
     repeat
      refine gU ?_ rfl (fun w1 hl=>?_) ?_
      rotate_left
      ·obtain⟨hP,_⟩:=HF.out w1 hl;obtain⟨x0,x1⟩:=hP.cells;go_simp;try with_reducible rfl
      simp only[eA,eB,eC,Act.put,eD,eE,eF]
     refine dI ?_
     refine aW (t:=14) (i:=14) (by kernel_rfl) rfl (fun w1 hl K hK=>?_)
     obtain⟨hP,hZ,hX,hT,hK9⟩:=HF.out w1 hl
     obtain⟨x0,x1⟩:=hP.cells
     have f1:=hP.box.free 1
     go_simp
     refine hK.out _ _ (fun h=>absurd rfl h) ?_
     clear hK K
     obtain⟨Wn,hk9,hf9⟩:=hP.pop hr
     have hZ9:=hZ.other ⟨r,1,none⟩ (.slice a4 O.length c4) (by show w.heap.size≠r;omega)
     have hX9:=hX.other ⟨r,1,none⟩ (.slice a4 O.length c4) (by show w4.heap.size≠r;omega)
     have hT9:=hT.kept hk9 hf9
     have fz9:=LC.trans hK9.low.size hf9
     have hK10:=hK9.trans LC hk9
     clear x0 x1 f1 hP hZ hX hT hK9 hk9 hf9 hl HF
     refine aQ (by kernel_rfl) (fun w1 hl=>?_) _
     have hPd:=Wn.kept hl
     have hZd:=hZ9.kept hl
     have hXd:=hX9.kept hl
     have hTd:=hT9.bW hl
     have hKd:=hK0.tr (hK10.trans fz9 (aO.below (Nat.le_of_lt Wn.box.lt) hl))
     have fzd:eU w (.slice ao O.length co) (.slice a4 O.length c4):=(eU.refl _ _).trans (by omega) fz9
     have ang:(Value.slice a4 O.length c4).ownBlock≠some w.heap.size:=fun e=>by
      rcases fz9 _ e with h | h
      ·exact absurd h (adB _ (by omega) (by omega)).2
      ·omega
     clear Wn hZ9 hX9 hT9 hK10 fz9 hl LC
     have yJ:=pq (b:=w.heap.size) w1 V.cells.toArray
     have hrd:=hPd.box.lt
     have hzl:=hZd.lt
     have EN:=hPd.frame hr (fun b hb=>yJ.block b (by rcases hb with hb | hb;omega;exact(hPd.ov b hb).2) (by rintro rfl;rcases hb with hb | hb;omega;exact ang hb))
     have hTF:fB (w1.setRow w.heap.size V.cells.toArray) r (.slice a4 O.length c4) w.heap.size V:=⟨hTd.lies.fJ (hTd.on.and hTd.lies.on) fun b hb=>yJ.block b hb.2 (by have:=hb.1.1;omega),(hTd.mono (by omega)).on⟩
     have hKF:=yJ.kept hKd (Nat.le_refl _) (by omega) (by omega)
     have HPF:=ah EN
     clear hPd hTd hKd yJ EN
     go_wp2_with (first | (refine wpList_load_row rfl 151 (.tmp 4) rfl w4.heap.size rfl 151 _ (0,0) _ hXd Tryz.underlying151 rfl (bP V) ?_) | (refine wpList_store_row rfl 151 (.tmp 2) (.tmp _) rfl w.heap.size _ rfl rfl _ _ hZd (bP V) (by show 8=V.cells.toArray.size;rw[List.size_toArray,Vt.bK]) V.all ?_))
     exact fU Tryz.results318 rfl (cs:=V.cells.toArray) (hZd.setRow _) Tryz.underlying151 rfl (bP V) rfl (show JM r base (.slice ao O.length co) O w (.inr (x,R)) _ _ from⟨V,v7,.slice a4 O.length c4,rfl,hV,HPF.out,hTF,hKF,fzd⟩)
    ·have gB:ans=.inl (11,qa):=by
      cases R with
      | nil=>exact(Option.some.inj hans).symm
      | cons b R=>exact(Option.some.inj ((if_neg N8).symm.trans hans)).symm
     subst gB
     have n3:((iV R:Int) != 3)=true:=by rw[bne_iff_ne];omega
     clear N8 hans h5 h4 h3
     generalize iV R=pk at *
     go_wp2_with (first | (refine wpList_store_row rfl 151 (.tmp 4) (.tmp _) rfl w4.heap.size _ rfl rfl _ _ wV (bP V) (by show 8=V.cells.toArray.size;rw[List.size_toArray,Vt.bK]) V.all ?_) | (go_at_call 278;go_must (refine HP.out.mono ?_;rintro e w6 ⟨rfl,hb6⟩)) | (go_at_call 319;go_must (refine(pI 11 qa _).mono ?_;rintro e w7 ⟨hl,hb7⟩;obtain rfl:e=_:=hl)))
     have ni:=dG.trans (hb6.mono dG.size)
     exact⟨rfl,rfl,hK0.tr (kz4.trans LC (aO.below (Nat.le_of_lt hr4) (ni.trans (hb7.mono ni.size))))⟩
end
end Go.Proofs.YtbemonecmmnlcaaGreatDoor
