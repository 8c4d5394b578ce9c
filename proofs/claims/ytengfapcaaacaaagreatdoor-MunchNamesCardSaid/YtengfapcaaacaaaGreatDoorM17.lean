/- The texts of N17, in few letters (mini.py). -/
import Derived.Test.YtengfapcaaacaaaGreatDoorM16
set_option linter.unusedVariables false
set_option linter.unusedSimpArgs false
set_option maxRecDepth 20000
set_option maxHeartbeats 3200000
namespace Go.Proofs.YtengfapcaaacaaaGreatDoor
section
open Go.RowKit
structure dY(b:Nat)(w w':World):Prop where
 os:w'.os=w.os
 tape:w'.tape=w.tape
 output:w'.output=w.output
 size:w.heap.size≤w'.heap.size
 block:∀ k,k<w.heap.size→k≠b→w'.heap[k]?=w.heap[k]?
instance jS (b:Nat):jw (dY b):=⟨fun _=>⟨rfl,rfl,rfl,Nat.le_refl _,fun _ _ _=>rfl⟩,fun _ _ _ h k=>⟨k.os.trans h.os,k.tape.trans h.tape,k.output.trans h.output,Nat.le_trans h.size k.size,fun x hx hn=>(k.block x (Nat.lt_of_lt_of_le hx h.size) hn).trans (h.block x hx hn)⟩,fun _ _ h=>⟨h.os,h.tape,h.output,h.size,fun x hx _=>h.block x hx⟩⟩
theorem dY.set{b:Nat}(w:World)(i:Nat)(v:Value):dY b w (w.setCell ⟨b,i,none⟩ v):=⟨rfl,rfl,rfl,by simp,fun k _ hn=>heap_setCell_other w ⟨b,i,none⟩ k v hn⟩
theorem dY.kept{b r:Nat}{ov:Value}{w0 w w':World}(h:dY b w w')(k:aK r ov w0 w)(hb:w0.heap.size≤b)(hr:r≤b)(hs:r≤w.heap.size):aK r ov w0 w' :=
 ⟨k.low.trans ⟨h.os,h.tape,h.output,h.size,fun x hx=>h.block x (by omega) (by omega)⟩,fun x hx h1 h2=>(h.block x (Nat.lt_of_lt_of_le hx k.low.size) (by omega)).trans (k.block x hx h1 h2)⟩
theorem oU{b:Nat}(w:World)(c:Array Value):dY b w (w.setRow b c):=⟨rfl,rfl,rfl,by simp,fun k _ hn=>setRow_other w b k c hn⟩
structure Ee(b i:Nat)(x:Value)(w w':World):Prop where
 only:dY b w w'
 turn:∀ c E,Box w b c E→∃ c',Box w' b c' E∧c'.size=c.size∧(∀ j,j≠i→c'[j]?=c[j]?)∧(c[i]?=some x→c'[i]?=some x)
instance RS (b i:Nat) (x:Value):jw (Ee b i x) where
 refl:=fun a=>⟨(jS b).refl a,fun c _ h=>⟨c,h,rfl,fun _ _=>rfl,id⟩⟩
 trans:=fun p q r h k=>⟨(jS b).trans p q r h.only k.only,fun c E hc=>by
  obtain⟨c1,h1,h2,h3,h4⟩:=h.turn c E hc
  obtain⟨c2,k1,k2,k3,k4⟩:=k.turn c1 E h1
  exact⟨c2,k1,k2.trans h2,fun j hj=>(k3 j hj).trans (h3 j hj),fun e=>k4 (h4 e)⟩⟩
 later:=fun p q h=>⟨(jS b).later p q h,fun c _ hc=>⟨c,hc.kept h,rfl,fun _ _=>rfl,id⟩⟩
theorem Ee.set{b i:Nat}{x:Value}(w:World):Ee b i x w (w.setCell ⟨b,i,none⟩ x):=⟨dY.set w i x,fun c' E' h'=>⟨_,h'.set i x,by simp,fun j hj=>by rw[Array.getElem?_setIfInBounds,if_neg (Ne.symm hj)],fun e=>by
 rw[Array.getElem?_setIfInBounds,if_pos rfl,if_pos]
 exact(Array.getElem?_eq_some_iff.1 e).1⟩⟩
theorem acK{c:Array Value}{k:Int}{s:au}{a:Option Addr}{n cap:Nat}{lo hi lo0 hi0:Int}(h:∀ j,j≠6→j≠7→c[j]?=(aC k s a n cap lo0 hi0)[j]?)(h6:c[6]?=some (.int .i64 lo))(h7:c[7]?=some (.int .i64 hi)):c=(aC k s a n cap lo hi).toArray:=by
 refine Array.ext_getElem? fun j=>?_
 by_cases j6:j=6
 ·subst j6;rw[h6];rfl
 by_cases j7:j=7
 ·subst j7;rw[h7];rfl
 rw[h j j6 j7]
 match j,j6,j7 with
 | 0,_,_=>rfl
 | 1,_,_=>rfl
 | 2,_,_=>rfl
 | 3,_,_=>rfl
 | 4,_,_=>rfl
 | 5,_,_=>rfl
 | j+8,_,_=>rfl
structure kY(w:World)(r qB m:Nat)(ov:Value)(O:List Int)(L:List Lx)(V:Vt)(W:World):Prop where
 x:Box W w.heap.size V.cells.toArray 115
 z:Box W (w.heap.size+1) bG 115
 ps:∃ v,dJ W r qB v L ov O
 tree:dX W r ov m V
 away:On (fun b=>b≠w.heap.size∧b≠w.heap.size+1) V
 kept:aK r ov w W
 lt:r<qB∧qB≤w.heap.size∧m≤w.heap.size
 old:∀ g,ov.ownBlock=some g→g<w.heap.size
section
variable {w W W1 W2:World} {r qB m:Nat} {ov:Value} {O:List Int} {L:List Lx} {V:Vt}
theorem kY.below(h:kY w r qB m ov O L V W)(hb:Below W.heap.size W W1):kY w r qB m ov O L V W1:=by
 obtain⟨v,hv⟩:=h.ps
 exact⟨h.x.kept hb,h.z.kept hb,⟨v,hv.kept hb⟩,h.tree.fC hb,h.away,h.kept.tr (aK.below (Nat.le_of_lt hv.box.lt) hb),h.lt,h.old⟩
theorem kY.next(h:kY w r qB m ov O L V W){L2:List Lx}{v:Value}(hk:aK r ov W W1)(hp:dJ W1 r qB v L2 ov O):kY w r qB m ov O L2 V W1:=by
 have h1:=h.lt
 have hne:∀ b,w.heap.size≤b→b≠r∧ov.ownBlock≠some b:=fun b hb=>⟨by omega,fun e=>by have:=h.old b e;omega⟩
 exact⟨(hk.block _ h.x.lt (hne _ (by omega)).1 (hne _ (by omega)).2).trans h.x,(hk.block _ h.z.lt (hne _ (by omega)).1 (hne _ (by omega)).2).trans h.z,⟨v,hp⟩,h.tree.kept hk (dW.refl _ _),h.away,h.kept.tr hk,h.lt,h.old⟩
theorem kY.turn(h:kY w r qB m ov O L V W)(ho:dY w.heap.size W W1){V':Vt}(hx:Box W1 w.heap.size V'.cells.toArray 115)(hl:Lies W V')(hon:On (fun b=>m≤b∧b≠r∧ov.ownBlock≠some b) V')(haw:On (fun b=>b≠w.heap.size∧b≠w.heap.size+1) V'):kY w r qB m ov O L V' W1:=by
 obtain⟨v,hv⟩:=h.ps
 have h1:=h.lt
 have hsz:=h.z.lt
 refine⟨hx,(ho.block _ hsz (by omega)).trans h.z,⟨v,hv.frame h1.1 fun b hb=>?_⟩,⟨hl.eH (haw.and hl.on) fun b hb=>ho.block b hb.2 hb.1.1,hon⟩,haw,ho.kept h.kept (Nat.le_refl _) (by omega) (by omega),h.lt,h.old⟩
 have hbl:b<w.heap.size:=by
  rcases hb with hb | hb
  ·omega
  ·exact h.old b hb
 exact ho.block b (Nat.lt_of_lt_of_le hbl h.kept.low.size) (by omega)
theorem kY.over(h:kY w r qB m ov O L V W1)(hb:Below W1.heap.size W1 W2)(k:Int)(hk:I64 k)(hs:ak W2 (.slice (some ⟨W1.heap.size+1,0,none⟩) 1 1) 8 Vt.cells [V]) :
  kY w r qB m ov O L (.mk k 0 (some ⟨W1.heap.size+1,0,none⟩) 1 [V] 0 0) (W2.setRow w.heap.size (aC k 0 (some ⟨W1.heap.size+1,0,none⟩) 1 1 0 0).toArray):=by
 have h2:=h.below hb
 have h1:=h.lt
 have hz:=h.z.lt
 refine h2.turn (oU _ _) (h2.x.setRow _) (.mk _ _ _ _ _ _ _ hk (by decide) (by decide) hs fun i hi=>?_) (.mk _ _ _ _ _ _ _ (fun _ ad e=>?_) fun i hi=>?_) (.mk _ _ _ _ _ _ _ (fun _ ad e=>?_) fun i hi=>?_)
 ·obtain rfl:i=0:=by simpa using hi
  exact h2.tree.lies
 ·cases e
  exact⟨by show m≤W1.heap.size+1;omega,by show W1.heap.size+1≠r;omega,fun e=>by have:=h.old _ e;simp at this;omega⟩
 ·obtain rfl:i=0:=by simpa using hi
  exact h2.tree.on
 ·cases e
  exact⟨by show W1.heap.size+1≠_;omega,by show W1.heap.size+1≠_;omega⟩
 ·obtain rfl:i=0:=by simpa using hi
  exact h2.away
theorem kY.fin(h:kY w r qB m ov O L V W)(ho:dY (w.heap.size+1) W W1):∃ v,dJ W1 r qB v L ov O∧dX W1 r ov m V∧aK r ov w W1:=by
 obtain⟨v,hv⟩:=h.ps
 have h1:=h.lt
 have hsz:=h.z.lt
 refine⟨v,hv.frame h1.1 fun b hb=>?_,⟨h.tree.lies.eH (h.away.and h.tree.lies.on) fun b hb=>ho.block b hb.2 hb.1.2,h.tree.on⟩,ho.kept h.kept (by omega) (by omega) (by omega)⟩
 have hbl:b<w.heap.size:=by
  rcases hb with hb | hb
  ·omega
  ·exact h.old b hb
 exact ho.block b (Nat.lt_of_lt_of_le hbl h.kept.low.size) (by omega)
theorem kY.nums{k:Int}{s:au}{a:Option Addr}{cap:Nat}{kids:List Vt}{lo hi:Int}(h:kY w r qB m ov O L (.mk k s a cap kids lo hi) W)(ho:dY w.heap.size W W1)(lo' hi':Int)(h1:I64 lo')(h2:I64 hi')
  (hx:Box W1 w.heap.size (aC k s a kids.length cap lo' hi').toArray 115):kY w r qB m ov O L (.mk k s a cap kids lo' hi') W1:=by
 obtain⟨q1,q2,q3,q4,q5⟩:=h.tree.lies.open
 have g1:=h.tree.on
 have g2:=h.away
 cases g1 with
 | mk _ _ _ _ _ _ _ g3 g4 =>
  cases g2 with
  | mk _ _ _ _ _ _ _ g5 g6=>exact h.turn ho hx (.mk _ _ _ _ _ _ _ q1 h1 h2 q4 q5) (.mk _ _ _ _ _ _ _ g3 g4) (.mk _ _ _ _ _ _ _ g5 g6)
end
theorem dJ.head{W:World}{r qB:Nat}{v ov:Value}{q:Lx}{L:List Lx}{O:List Int}(h:dJ W r qB v (q::L) ov O) :
  ∃ b o cap n,v=.slice (some ⟨b,o,none⟩) n cap∧n=L.length+1∧b<W.heap.size∧(b≠r∧b<qB)∧∀ j x,(fV q)[j]?=some x→W.cell? ⟨b,o+j,none⟩=some x:=by
 obtain⟨a,b,o,cap,rfl,hle,hm,ha,hx⟩:=h.sl
 have ha2:a=some ⟨b,o,none⟩:=by
  rcases ha with ha | ⟨ha,_⟩
  ·exact ha
  ·cases ha
 subst ha2
 have y:∀ j u,(fV q)[j]?=some u→W.cell? ⟨b,o+j,none⟩=some u:=fun j u hu=>by have:=hx 0 (by simp) j u hu;rwa[Nat.zero_mul,Nat.add_zero] at this
 exact⟨b,o,cap,_,rfl,by simp,World.block_lt_of_cell? W _ (y 0 _ rfl),h.far _ _ _ rfl,y⟩
def Qb(r:Nat)(W:World):Nat:=match W.cell? ⟨r,0,none⟩ with
 | some (.slice _ n _)=>n
 | _=>0
theorem Ah{W:World}{r qB:Nat}{v ov:Value}{L:List Lx}{O:List Int}(h:dJ W r qB v L ov O):Qb r W=L.length:=by
 obtain⟨a,b,o,cap,rfl,_⟩:=id h.sl
 unfold Qb
 rw[h.cells.1]
def Qc(r qB m:Nat)(ov:Value)(O:List Int)(w:World)(ans:Tr×List Lx)(e:Ending)(w':World):Prop :=
 ∃ V v,e=.returned (.agg V.cells.toArray)∧V.tr=ans.1∧dJ w' r qB v ans.2 ov O∧dX w' r ov m V∧aK r ov w w'
def PoI(w:World)(r qB m:Nat)(ov:Value)(O:List Int)(ANS:Tr×List Lx)(W:World):Prop:=∃ L V,kY w r qB m ov O L V W∧dL L V.tr=ANS
theorem qc(q:Lx)(L:List Lx)(x:Tr):dL (q::L) x=if q.kind=5 then dL L (.mk 6 0 [x] 0 0) else if q.kind=6 then dL L (.mk 7 0 [x] 0 0) else if q.kind=7 then dL L (.mk 8 0 [x] 0 0)
  else if q.kind=8 then dL L (.mk 9 0 [x] q.lo q.hi) else (x,q::L):=by rw[dL]
theorem UR{L:List Lx}(x:Tr)(h:¬ (iZ L=5∨iZ L=6∨iZ L=7∨iZ L=8)):dL L x=(x,L):=by
 cases L with
 | nil=>rw[dL]
 | cons q L =>
  simp only[iZ,not_or] at h
  rw[qc,if_neg h.1,if_neg h.2.1,if_neg h.2.2.1,if_neg h.2.2.2]
theorem Vt.all(V:Vt):V.cells.toArray.all (·.oneCell')=true:=by
 rw[List.all_toArray,List.all_eq_true]
 exact fun u hu=>V.cells_one u hu
theorem bP(V:Vt):(Tryz.prog.info? 115).map (·.size)=some V.cells.toArray.size:=by
 rw[List.size_toArray,Vt.bI];kernel_rfl
theorem Ib(k:Int)(a:Option Addr)(V:Vt)(lo hi:Int):(Vt.mk k 0 a 1 [V] lo hi).tr=.mk k 0 [V.tr] lo hi:=Vt.jJ _ _ _ _ _ _ _
end
section
open Go.RowKit
def Jy(r qB:Nat)(ov:Value)(O:List Int)(w:World)(ans:Sum (Nat×Nat) (Tr×List Lx))(e:Ending)(w':World):Prop :=
 match ans with
 | .inl q=>Xw q.1 q.2 e∧aK r ov w w'
 | .inr q=>∃ V v pI,e=.returned (.agg V.cells.toArray)∧V.tr=q.1∧dJ w' r qB v q.2 pI O∧dX w' r pI w.heap.size V∧aK r ov w w'∧dW w ov pI
def NJ(r qB:Nat)(ov:Value)(O:List Int)(L:List Lx)(w:World)(ans:Sum (Nat×Nat) (Option (Tr×List Lx)))(e:Ending)(w':World):Prop :=
 match ans with
 | .inl q=>Xw q.1 q.2 e∧aK r ov w w'
 | .inr none=>e=.returned (.tuple #[QN,.bool false])∧(∃ v,dJ w' r qB v L ov O)∧aK r ov w w'
 | .inr (some q)=>∃ V v pI,e=.returned (.tuple #[.agg V.cells.toArray,.bool true])∧V.tr=q.1∧dJ w' r qB v q.2 pI O∧dX w' r pI w.heap.size V∧aK r ov w w'∧dW w ov pI
def pJ(m d:Nat)(a:Lx)(L:List Lx):Option (Sum (Nat×Nat) (Tr×List Lx)) :=
 if d=64 then some (.inl (17,a.at')) else match jd m (d+1) [] L with
  | none=>none
  | some (.inl q)=>some (.inl q)
  | some (.inr (x,b::r'))=>if b.kind=3 then some (.inr (x,r')) else some (.inl (11,a.at'))
  | some (.inr (_,[]))=>some (.inl (11,a.at'))
theorem pq(n d:Nat)(a:Lx)(L:List Lx):kX (n+1) d (a::L)=if a.kind=1 then some (.inr (some (.mk 3 a.set [] 0 0,L))) else if a.kind=2 then (pJ n d a L).map (fun s=>s.map id some)
  else if a.kind=5∨a.kind=6∨a.kind=7∨a.kind=8 then some (.inl (5,a.at')) else if a.kind=3∧d=0 then some (.inl (12,a.at')) else some (.inr none):=by
 rw[kX]
 by_cases h1:a.kind=1
 ·rw[if_pos h1,if_pos h1]
 ·rw[if_neg h1,if_neg h1]
  by_cases h2:a.kind=2
  ·rw[if_pos h2,if_pos h2]
   unfold pJ
   by_cases h3:d=64
   ·rw[if_pos h3,if_pos h3];rfl
   ·rw[if_neg h3,if_neg h3]
    rcases jd n (d+1) [] L with _ | q | ⟨x,_ | ⟨b,r'⟩⟩
    ·rfl
    ·rfl
    ·rfl
    ·dsimp only
     by_cases h4:b.kind=3
     ·rw[if_pos h4,if_pos h4];rfl
     ·rw[if_neg h4,if_neg h4];rfl
  ·rw[if_neg h2,if_neg h2]
theorem uP(n d:Nat):kX (n+1) d []=some (.inr none):=by rw[kX]
theorem jV(n d:Nat)(pieces:List Tr)(L:List Lx):jK (n+1) d pieces L=match kX n d L with
  | none=>none
  | some (.inl q)=>some (.inl q)
  | some (.inr (some (x,r)))=>jK n d (pieces++[(dL r x).1]) (dL r x).2
  | some (.inr none)=>some (.inr (if pieces.length=0 then .mk 2 0 [] 0 0 else Bl 4 pieces,L)):=by rw[jK];rfl
def NK(n d:Nat)(parts:List Tr)(L:List Lx):Option (Sum (Nat×Nat) (Tr×List Lx)):=match L with
 | a::r'=>if a.kind=4 then jd n d parts r' else some (.inr (Bl 5 parts,a::r'))
 | []=>some (.inr (Bl 5 parts,[]))
theorem lJ(n d:Nat)(parts:List Tr)(L:List Lx):jd (n+1) d parts L=match jK n d [] L with
  | none=>none
  | some (.inl q)=>some (.inl q)
  | some (.inr (x,r))=>NK n d (parts++[x]) r:=by
 rw[jd]
 rcases jK n d [] L with _ | q | ⟨x,_ | ⟨b,r'⟩⟩ <;> rfl
section
variable {W W':World} {r qB:Nat} {v ov:Value} {L:List Lx} {O:List Int}
theorem dJ.push(h:dJ W r qB v L ov O)(hr:r<qB){a:Option Addr}{n c:Nat}{x:Int}(ho:Own W' qB 3 1 encI (.slice a n c) (O++[x]))(hg:W.grownBy W' ov.ownBlock)(hb:(Value.slice a n c).ownBlock=ov.ownBlock∨(Value.slice a n c).ownBlock=some W.heap.size) :
  dJ (W'.setCell ⟨r,1,none⟩ (.slice a n c)) r qB v L (.slice a n c) (O++[x])∧aK r ov W (W'.setCell ⟨r,1,none⟩ (.slice a n c))∧dW W ov (.slice a n c):=by
 have hrl:=h.box.lt
 have hne:some r≠ov.ownBlock:=fun e=>by have:=h.ov r e.symm;omega
 have hk:aK r ov W W':=aK.grown hg (Nat.le_of_lt hrl) fun g hg=>by have:=h.ov g hg;omega
 have hbx:Box W' r #[v,ov] 275:=(hg.block r hrl hne).trans h.box
 refine⟨⟨hbx.set 1 _,?_,h.far,ho.other _ _ hr,h.ok⟩,hk.tr (aK.set _ _ _),fun g e=>?_⟩
 ·obtain⟨a',b',o',cap',rfl,_⟩:=id h.sl
  refine h.sl.eH fun h0 ad e=>?_
  have h1:=h.far ad _ _ (by rw[e])
  have h2:=h.sl
  rw[e] at h2
  have h3:=h2.blk h0 (by rw[xC.len];decide)
  rw[heap_setCell_other W' ⟨r,1,none⟩ _ _ h1.1]
  exact hg.block _ h3 fun e=>by have:=h.ov _ e.symm;omega
 ·rcases hb with hb | hb
  ·exact .inl (hb▸e)
  ·rw[hb] at e;exact .inr (by have:=Option.some.inj e;omega)
theorem dJ.pop{a:Option Addr}{n c:Nat}{x:Int}(h:dJ W r qB v L (.slice a n c) (O++[x]))(hr:r<qB) :
  dJ (W.setCell ⟨r,1,none⟩ (.slice a O.length c)) r qB v L (.slice a O.length c) O∧aK r (.slice a n c) W (W.setCell ⟨r,1,none⟩ (.slice a O.length c))∧dW W (.slice a n c) (.slice a O.length c):=by
 refine⟨⟨h.box.set 1 _,?_,h.far,h.open'.less.other _ _ hr,h.ok⟩,aK.set _ _ _,fun g e=>.inl (by cases a <;> exact e)⟩
 obtain⟨a',b',o',cap',rfl,_⟩:=id h.sl
 refine h.sl.eH fun h0 ad e=>?_
 exact heap_setCell_other W ⟨r,1,none⟩ _ _ (h.far ad _ _ (by rw[e])).1
theorem dJ.only(h:dJ W r qB v L ov O)(hr:r<qB){w:World}(hk:aK r ov w W)(hw:qB≤w.heap.size)(ho:dY w.heap.size W W')(hov:ov.ownBlock≠some w.heap.size):dJ W' r qB v L ov O∧aK r ov w W':=by
 have hs:=hk.low.size
 have hrl:=h.box.lt
 refine⟨h.frame hr fun b hb=>?_,ho.kept hk (Nat.le_refl _) (by omega) (by omega)⟩
 have hbl:b<W.heap.size:=by
  rcases hb with hb | hb
  ·omega
  ·exact(h.ov b hb).2
 exact ho.block b hbl (by rintro rfl;rcases hb with hb | hb;omega;exact hov hb)
end
theorem F8:dQ Tryz.prog 24 3 (.int .i64 0) 1 8:=⟨Tryz.underlying24,info_parts (by kernel_rfl),rfl,by decide⟩
theorem aK.box{r:Nat}{ov:Value}{w w':World}(h:aK r ov w w'){b E:Nat}{c:Array Value}(hb:Box w b c E)(h1:b≠r)(h2:ov.ownBlock≠some b):Box w' b c E:=(h.block b hb.lt h1 h2).trans hb
theorem Xy(k a:Int)(s0 s1 s2 s3:Int)(lo hi:Int)(w:World):(Instr.field 221 (.agg #[.int .i64 k,.int .i64 a,.int .u64 s0,.int .u64 s1,.int .u64 s2,.int .u64 s3,.int .i64 lo,.int .i64 hi]) 1).run Tryz.prog w=.ok (.int .i64 a) w:=by kernel_rfl
theorem Xz(k a:Int)(s0 s1 s2 s3:Int)(lo hi:Int)(w:World):(Instr.field 221 (.agg #[.int .i64 k,.int .i64 a,.int .u64 s0,.int .u64 s1,.int .u64 s2,.int .u64 s3,.int .i64 lo,.int .i64 hi]) 2).run Tryz.prog w=.ok (.agg #[.int .u64 s0,.int .u64 s1,.int .u64 s2,.int .u64 s3]) w:=by kernel_rfl
def acL(r qB n:Nat):Prop:=∀ (v ov:Value) (L:List Lx) (O:List Int) (ans:Sum (Nat×Nat) (Tr×List Lx)) (w:World),dJ w r qB v L ov O→r<qB→qB≤w.heap.size→O.length≤64→jd n O.length [] L=some ans →
 Calls Tryz.prog 185 #[.pointer (some ⟨r,0,none⟩)] w (Jy r qB ov O w ans)
def XA(r qB n:Nat):Prop:=∀ (v ov:Value) (L:List Lx) (O:List Int) (ans:Sum (Nat×Nat) (Tr×List Lx)) (w:World),dJ w r qB v L ov O→r<qB→qB≤w.heap.size→O.length≤64→jK n O.length [] L=some ans →
 Calls Tryz.prog 232 #[.pointer (some ⟨r,0,none⟩)] w (Jy r qB ov O w ans)
def XB(r qB n:Nat):Prop:=∀ (v ov:Value) (L:List Lx) (O:List Int) (ans:Sum (Nat×Nat) (Option (Tr×List Lx))) (w:World),dJ w r qB v L ov O→r<qB→qB≤w.heap.size→O.length≤64→kX n O.length L=some ans →
 Calls Tryz.prog 255 #[.pointer (some ⟨r,0,none⟩)] w (NJ r qB ov O L w ans)
def ZL(r qB m:Nat):Prop:=∀ (v ov:Value) (q:Lx) (L:List Lx) (O:List Int) (ans:Sum (Nat×Nat) (Tr×List Lx)) (w:World),dJ w r qB v (q::L) ov O→r<qB→qB≤w.heap.size→O.length≤64→pJ m O.length q L=some ans →
 Calls Tryz.prog 280 #[.pointer (some ⟨r,0,none⟩)] w (Jy r qB ov O w ans)
end
section
open Go.RowKit
structure kZ(W0:World)(r qB:Nat)(sS:Value)(O:List Int)(a:Option Addr)(cap:Nat)(vs:List Vt)(v ov:Value)(L:List Lx)(W:World):Prop where
 ps:dJ W r qB v L ov O
 fresh:dW W0 sS ov
 ne:∀ g,ov.ownBlock=some g→(Value.slice a vs.length cap).ownBlock≠some g
 trees:∀ i (h:i<vs.length),dX W r ov W0.heap.size vs[i]
 own:vC W W0.heap.size 115 (.slice a vs.length cap) vs
 kept:aK r sS W0 W
 lt:r<qB∧qB≤W0.heap.size
section
variable {W0 W W':World} {r qB:Nat} {sS:Value} {O:List Int} {a:Option Addr} {cap:Nat} {vs:List Vt} {v ov:Value} {L R:List Lx}
theorem kZ.nil(h:dJ W0 r qB v L ov O)(hr:r<qB)(hb:qB≤W0.heap.size):kZ W0 r qB ov O none 0 [] v ov L W0 :=
 ⟨h,dW.refl _ _,fun g _ e=>(by cases e),fun i hi=>(by simp at hi),vC.nil _ _ _,aK.refl _ _ _,hr,hb⟩
theorem kZ.lg(h:kZ W0 r qB sS O a cap vs v ov L W)(g:Nat)(hg:(Value.slice a vs.length cap).ownBlock=some g):W0.heap.size≤g∧g<W.heap.size:=h.own.1.lQ g hg
theorem kZ.mid(h:kZ W0 r qB sS O a cap vs v ov L W)(k:aK r ov W W'){v' pI:Value}(f:dW W ov pI)(hp:dJ W' r qB v' R pI O):kZ W0 r qB sS O a cap vs v' pI R W':=by
 have hlt:=h.lt
 refine⟨hp,h.fresh.trans h.kept.low.size f,fun g hg e=>?_,fun i hi=>(h.trees i hi).kept k f,⟨h.own.1.fC fun g hg=>?_,fun i hi=>((h.trees i hi).kept k f).lies,h.own.2.2⟩,h.kept.trans h.fresh k,hlt⟩
 ·have h2:=h.lg g e
  rcases f g hg with h1 | h1
  ·exact h.ne g h1 e
  ·omega
 ·have h2:=h.lg g hg
  exact k.block g h2.2 (by omega) fun e=>h.ne g e hg
theorem kZ.below(h:kZ W0 r qB sS O a cap vs v ov L W)(hb:Below W.heap.size W W'):kZ W0 r qB sS O a cap vs v ov L W':=h.mid (aK.below (Nat.le_of_lt h.ps.box.lt) hb) (dW.refl _ _) (h.ps.kept hb)
theorem kZ.snoc(h:kZ W0 r qB sS O a cap vs v ov L W){y:Vt}{m:Nat}(hy:dX W r ov m y)(hm:W0.heap.size≤m)(hoy:On (fun b=>(Value.slice a vs.length cap).ownBlock≠some b) y){a':Option Addr}{cap':Nat}
  (ho:Own W' W0.heap.size 115 8 Vt.cells (.slice a' (vs.length+1) cap') (vs++[y])) (hg:W.grownBy W' (Value.slice a vs.length cap).ownBlock) (hb:(Value.slice a' (vs.length+1) cap').ownBlock=(Value.slice a vs.length cap).ownBlock∨(Value.slice a' (vs.length+1) cap').ownBlock=some W.heap.size) :
  kZ W0 r qB sS O a' cap' (vs++[y]) v ov L W':=by
 have hlt:=h.lt
 have hl:(vs++[y]).length=vs.length+1:=by simp
 have hs:=h.kept.low.size
 have ho2:=h.own.appended hy.lies hoy ho hg hb
 have hrl:=h.ps.box.lt
 refine⟨h.ps.frame hlt.1 fun b hb2=>?_,h.fresh,fun g hg2 e=>?_,fun i hi=>⟨ho2.2.1 i hi,?_⟩,by rw[hl];exact ho2,h.kept.F7 hg (Nat.le_of_lt hrl) fun g e=>by have:=h.lg g e;omega,hlt⟩
 ·refine hg.block b ?_ fun e=>?_
  ·rcases hb2 with hb2 | hb2
   ·omega
   ·exact(h.ps.ov b hb2).2
  ·rcases hb2 with hb2 | hb2
   ·have:=h.lg b e.symm;omega
   ·exact h.ne b hb2 e.symm
 ·rw[hl] at e
  rcases hb with hb | hb
  ·exact h.ne g hg2 (hb▸e)
  ·rw[hb] at e;have:=(h.ps.ov g hg2).2;have:=Option.some.inj e;omega
 ·by_cases hlt2:i<vs.length
  ·rw[List.getElem_append_left hlt2];exact(h.trees i hlt2).on
  ·have:i=vs.length:=by rw[hl] at hi;omega
   subst this;simpa using (hy.mono hm).on
theorem kZ.one{y:Vt}(h:dJ W r qB v L ov O)(k:aK r sS W0 W)(f:dW W0 sS ov)(hr:r<qB)(hb:qB≤W0.heap.size)(hy:dX W r ov W0.heap.size y) :
  kZ W0 r qB sS O (some ⟨W.heap.size,0,none⟩) 1 [y] v ov L (W.alloc (.cells y.cells.toArray 115)):=by
 have hB:=aj W (.cells y.cells.toArray 115)
 have hs:=k.low.size
 refine⟨h.kept hB,f,fun g hg e=>?_,fun i hi=>?_,⟨⟨_,1,rfl,Nat.le_refl _,by simp[maxLen],.inr ⟨W.heap.size,_,rfl,hs,Box.new _ _ _,by rw[List.size_toArray,Vt.bI],fun i hi j _=>?_⟩⟩,fun i hi=>?_,fun i hi=>?_⟩,k.trans f (aK.below (Nat.le_of_lt h.box.lt) hB),hr,hb⟩
 ·have h1:=(h.ov g hg).2
  have:W.heap.size=g:=Option.some.inj e
  omega
 ·obtain rfl:i=0:=by simpa using hi
  exact hy.fC hB
 ·obtain rfl:i=0:=by simpa using hi
  simp
 ·obtain rfl:i=0:=by simpa using hi
  exact hy.lies.kept hB
 ·obtain rfl:i=0:=by simpa using hi
  refine(hy.lies.on).mono fun b hb=>?_
  intro e
  have:W.heap.size=b:=Option.some.inj e
  omega
theorem kZ.flat(h:kZ W0 r qB sS O a cap vs v ov L W)(k:Int)(hk:I64 k):dX W r ov W0.heap.size (qI k a cap vs):=by
 have hlt:=h.lt
 have key:dX W r ov W0.heap.size (.mk k 0 a cap vs 0 0):=by
  refine⟨.mk _ _ _ _ _ _ _ hk (by decide) (by decide) h.own.slice fun i hi=>(h.trees i hi).lies,.mk _ _ _ _ _ _ _ (fun _ ad e=>?_) fun i hi=>(h.trees i hi).on⟩
  subst e
  have h1:=h.lg ad.block rfl
  exact⟨h1.1,by omega,fun e=>h.ne _ e rfl⟩
 match vs,h.trees,key with
 | [],_,key=>exact key
 | [x],ht,_=>exact ht 0 (by simp)
 | _::_::_,_,key=>exact key
theorem kZ.ret{w:World}(hK0:aK r sS w W0)(hW0:W0.heap.size=w.heap.size+1)(hO:∀ g,sS.ownBlock=some g→g<w.heap.size)(hb:qB≤w.heap.size)(h:kZ W0 r qB sS O a cap vs v ov L W){V:Vt}{x:Tr}(ht:dX W r ov W0.heap.size V)(hx:V.tr=x)(ho:dY w.heap.size W W') :
  Jy r qB sS O w (.inr (x,L)) (.returned (.agg V.cells.toArray)) W':=by
 have hlt:=h.lt
 have hs:=h.kept.low.size
 have hov:ov.ownBlock≠some w.heap.size:=fun e=>by
  rcases h.fresh _ e with h1 | h1
  ·have:=hO _ h1;omega
  ·omega
 refine⟨V,v,ov,rfl,hx,h.ps.frame hlt.1 fun b hb2=>ho.block b ?_ ?_,⟨ht.lies.eH (ht.on.and ht.lies.on) fun b hb2=>ho.block b hb2.2 (by have:=hb2.1.1;omega),(ht.mono (by omega)).on⟩,ho.kept (hK0.tr h.kept) (Nat.le_refl _) (by omega) (by omega),(dW.refl _ _).trans (by omega) h.fresh⟩
 ·rcases hb2 with hb2 | hb2
  ·omega
  ·exact(h.ps.ov b hb2).2
 ·rintro rfl
  rcases hb2 with hb2 | hb2
  ·omega
  ·exact hov hb2
end
theorem Qc.open{r qB m:Nat}{ov:Value}{O:List Int}{w w':World}{ans:Tr×List Lx}{e:Ending}(h:Qc r qB m ov O w ans e w'):∃ k s a cap kids lo hi v,e=.returned (.agg (aC k s a (List.length kids) cap lo hi).toArray)∧(Vt.mk k s a cap kids lo hi).tr=ans.1∧dJ w' r qB v ans.2 ov O∧dX w' r ov m (.mk k s a cap kids lo hi)∧aK r ov w w':=by
 obtain⟨⟨k,s,a,cap,kids,lo,hi⟩,v,h⟩:=h
 exact⟨k,s,a,cap,kids,lo,hi,v,h⟩
def aen(W0:World)(r qB N:Nat)(sS:Value)(O:List Int)(ans:Sum (Nat×Nat) (Tr×List Lx))(p:Value)(W:World):Prop :=
 ∃ (m:Nat) (a:Option Addr) (cap:Nat) (vs:List Vt) (v ov:Value) (L:List Lx),p=.slice a vs.length cap∧m+vs.length=N∧kZ W0 r qB sS O a cap vs v ov L W∧jK m O.length (vs.map Vt.tr) L=some ans
def ahd(W0:World)(r qB N:Nat)(sS:Value)(O:List Int)(ans:Sum (Nat×Nat) (Tr×List Lx))(p:Value)(W:World):Prop :=
 ∃ (m:Nat) (a:Option Addr) (cap:Nat) (vs:List Vt) (v ov:Value) (L:List Lx),p=.slice a vs.length cap∧m+vs.length=N∧kZ W0 r qB sS O a cap vs v ov L W∧NK m O.length (vs.map Vt.tr) L=some ans
def lenOf:Value→Nat
 | .slice _ n _=>n
 | _=>0
end
section
open Go.RowKit
theorem acM(r qB m:Nat)(IH:acL r qB m):ZL r qB m:=by
 intro v ov q L O ans w h hr hb hO hans
 have hB0:=aj w (.cells bG 115)
 have h0:=h.kept hB0
 have hg0:=Box.new w bG 115
 have hW0:(w.alloc (.cells bG 115)).heap.size=w.heap.size+1:=by simp
 have hnx:=uO r qB v ov q L O _ h0 hr (by omega)
 have Ai:=fun g hg=>(h.ov g hg).2
 obtain⟨qk,qa,qs,ql,qh⟩:=q
 obtain⟨ao,co,rfl⟩:=h.open'.form
 have hK0:aK r (.slice ao O.length co) w (w.alloc (.cells bG 115)):=aK.below (Nat.le_of_lt h.box.lt) hB0
 have HN:=ah hnx
 have HI:=ah IH
 have HO:=ah Ai
 clear hnx h0 h IH Ai hB0
 unfold fV at HN
 unfold pJ at hans
 have hfl:=Xy
 by_cases hd:O.length=64
 ·rw[if_pos hd] at hans
  obtain rfl:=Option.some.inj hans
  have e64:((O.length:Int)==64)=true:=by rw[hd];rfl
  clear hd
  go_enter Tryz.func280,Tryz.ntmps280
  go_wp2_with (first | (go_at_call 234;go_must (refine HN.out.mono ?_;rintro e w1 ⟨rfl,⟨v1,h1⟩,hk1⟩;obtain⟨x0,x1⟩:=h1.cells;have hrl:=h1.box.lt)) | (go_at_call 281;go_must (refine(o9 17 qa _).mono ?_;rintro e w2 ⟨hl,hb2⟩;obtain rfl:e=_:=hl)))
  exact⟨rfl,rfl,(hK0.tr hk1).tr (aK.below (Nat.le_of_lt hrl) hb2)⟩
 ·rw[if_neg hd] at hans
  have e64:((O.length:Int)==64)=false:=by rw[beq_eq_false_iff_ne];omega
  have hlen:(O++[(qa:Int)]).length=O.length+1:=by simp
  have apP:O.length+1≤64:=by omega
  cases hA:jd m (O.length+1) [] L with
  | none=>rw[hA] at hans;cases hans
  | some A =>
   rw[hA] at hans
   rw[←hlen] at hA
   have HA:=ah hA
   have lq:=ah hans
   have HL:=ah hlen
   clear hA hans hlen hd
   go_enter Tryz.func280,Tryz.ntmps280
   go_wp2_with (first | (go_at_call 234;go_must (refine HN.out.mono ?_;rintro e w1 ⟨rfl,⟨v1,h1⟩,hk1⟩;obtain⟨x0,x1⟩:=h1.cells;have hrl:=h1.box.lt;have hK1:=hK0.tr hk1;have hp1:=h1.kept (aj w1 (.cells #[.int .i64 qa] 3));have hsz1:=hK1.low.size)) | (at_builtin;go_must (refine eP rfl _ _ 24 rfl F8 uN rfl hp1.open' ⟨w1.heap.size,0,none⟩ 1 (qa:Int) rfl (dD w1 [.int .i64 (qa:Nat)] _) (by simp[maxLen];omega) (by omega) (by simp;omega) ?_;intro a3 c3 w3 ho3 hg3 hf3;have hpush:=hp1.push hr ho3 hg3 hf3;have hb3:Box w3 r _ _:=(hg3.block r (by have:=hp1.box.lt;omega) (fun e=>by have:=hp1.ov r e.symm;omega)).trans hp1.box;have x3:=hb3.cell 1;have f3:=hb3.free 1)))
   obtain⟨h3,hk3,hf3⟩:=hpush
   have acN:=aK.below (ov:=.slice ao O.length co) (Nat.le_of_lt hrl) (aj w1 (.cells #[.int .i64 qa] 3))
   have kz3:=(hk1.tr acN).tr hk3
   have fz3:dW (w.alloc (.cells bG 115)) (.slice ao O.length co) (.slice a3 (O.length+1) c3):=(dW.refl _ _).trans (hk1.tr acN).low.size hf3
   have hs3:=kz3.low.size
   refine(HI.out v1 (.slice a3 (O.length+1) c3) L (O++[(qa:Int)]) A _ h3 hr (by omega) (by rw[HL.out];omega) HA.out).mono ?_
   intro e w4 hres
   clear x0 x1 x3 f3 hb3 hg3 ho3 acN hp1 h1
   have hans:=lq.out
   cases A with
   | inl p =>
    obtain⟨hl,hk4⟩:=hres
    obtain rfl:e=_:=hl
    obtain rfl:=Option.some.inj hans
    exact⟨rfl,rfl,hK0.tr (kz3.trans fz3 hk4)⟩
   | inr p =>
    obtain⟨x,R⟩:=p
    obtain⟨V,v4,ov4,rfl,hV,h4,wU,hk4,hf4⟩:=hres
    have ZM:=kz3.trans fz3 hk4
    have Le:=fz3.trans hs3 hf4
    have bF:Below w4.heap.size w4 ((w4.alloc (.cells bG 115)).setRow w4.heap.size V.cells.toArray):=below_setRow (aj _ _) (Nat.le_refl _) _
    have h5:=h4.kept bF
    have Aj:=Box.new w4 bG 115
    have hx5:=Aj.setRow V.cells.toArray
    have hpk:=Ia r qB v4 ov4 R (O++[(qa:Int)]) _ h5
    have hr4:=h4.box.lt
    have alT:ov4.ownBlock≠some w4.heap.size:=fun e=>by have:=(h4.ov _ e).2;omega
    have HP:=ah hpk
    clear hpk
    by_cases NM:iZ R=3
    ·obtain⟨b,R,rfl⟩:∃ b R',R=b::R':=by
      cases R with
      | nil=>cases NM
      | cons b R=>exact⟨b,R,rfl⟩
     have hbk:b.kind=3:=NM
     have fQ:Option.some ans=some (.inr (x,R)):=by rw[←hans];exact if_pos hbk
     obtain rfl:=Option.some.inj fQ
     rw[NM] at HP
     have hnx:=fun u v' hu=>uO r qB v' ov4 b R (O++[(qa:Int)]) u hu hr
     have wQ:=ah hnx
     have H5:=ah h5
     clear hans fQ hbk NM hnx h5 h4 h3
     go_wp2_with (first | (refine wpList_store_row rfl 115 (.tmp 4) (.tmp _) rfl w4.heap.size _ rfl rfl _ _ Aj (bP V) (by show 8=V.cells.toArray.size;rw[List.size_toArray,Vt.bI]) V.all ?_) | (go_at_call 233;go_must (refine HP.out.mono ?_;rintro e w6 ⟨rfl,hb6⟩;have h6:=H5.out.kept hb6;have hx6:=hx5.kept hb6;have hs6:=hb6.size;rw[size_setRow,World.size_alloc] at hs6)) | (go_at_call 234;go_must (refine(wQ.out _ _ h6 (by have:=ZM.low.size;omega)).mono ?_;rintro e w7 ⟨rfl,⟨v7,h7⟩,hk7⟩)))
     have ug:=HO.out
     have kz5:=ZM.trans Le (aK.below (ov:=ov4) (Nat.le_of_lt hr4) (bF.trans (hb6.mono bF.size)))
     have kz7:=kz5.trans Le hk7
     have hs5:=kz5.low.size
     have hs4:=ZM.low.size
     have acO:∀ g,w.heap.size≤g→g<(w.alloc (.cells bG 115)).heap.size→g≠r∧Value.ownBlock (.slice ao O.length co)≠some g:=fun g h1 h2=>⟨by omega,fun e=>by have:=HO.out g e;omega⟩
     have ZN:=kz7.box hg0 (acO _ (Nat.le_refl _) (by omega)).1 (acO _ (Nat.le_refl _) (by omega)).2
     have hx7:=hk7.box hx6 (by omega) alT
     have ZO:=(wU.fC (bF.trans (hb6.mono bF.size))).kept hk7 (dW.refl _ _)
     obtain⟨a4,c4,rfl⟩:=h7.open'.form
     rw[HL.out] at h7 ZO Le
     have apQ:O.length+1≤c4:=by
      obtain⟨a',c',hv',hle',_⟩:=h7.open'
      rw[HL.out] at hv' hle'
      obtain⟨_,_,rfl⟩:=Value.slice.inj hv'
      exact hle'
     have hw4:IntKind.i64.wrap ((O.length:Nat):Int)=((O.length:Nat):Int):=by rw[IntWalk.i64_in _ (by omega)]
     have hc0:(0:Int)≤((O.length:Nat):Int):=by omega
     have hc4:((O.length:Nat):Int)≤((c4:Nat):Int):=by omega
     have hc5:O.length≤c4:=by omega
     have hz8:=ZN.lt
     have Lh:=hx7.lt
     have HF:Hid (∀ u,Later w7.drew u→dJ u r qB v7 R (.slice a4 (O.length+1) c4) (O++[(qa:Int)])∧Box u w.heap.size bG 115∧Box u w4.heap.size V.cells.toArray 115∧dX u r (.slice a4 (O.length+1) c4) (w.heap.size+1) V∧aK r (.slice ao O.length co) (w.alloc (.cells bG 115)) u):=ah fun u hl =>
      ⟨(h7.kept (Below.refl _ _).drew).kept hl,(ZN.drew).kept hl,(hx7.drew).kept hl,((ZO.fC (Below.refl _ _).drew).fC hl).mono (by omega),(kz7.trans Le (aK.below (Nat.le_of_lt h7.box.lt) (Below.refl _ _).drew)).trans Le (aK.below (Nat.le_of_lt h7.box.lt) hl)⟩
     have apR:=h7.box.lt
     clear h7 ZN hx7 ZO kz7 kz5 ZM kz3 hk7 hx6 h6 H5 wQ HP hx5 Aj hk4 wU hk3 hK1 hk1 hb6 bF lq HI HN
     refine aA (R:=Later) 14 (by kernel_rfl) ?_
     refine pl [0,1,2,3,4,5,6,7,8,9,10,11,12,13] ?_
     repeat
      refine dI ?_ rfl (fun w1 hl=>?_) ?_
      rotate_left
      ·obtain⟨hP,_⟩:=HF.out w1 hl;obtain⟨x0,x1⟩:=hP.cells;go_simp;try with_reducible rfl
      simp only[eA,eB,eC,Act.put,eD,eE,eF]
     refine bU ?_
     refine aP (t:=14) (i:=14) (by kernel_rfl) rfl (fun w1 hl K hK=>?_)
     obtain⟨hP,hZ,hX,hT,hK9⟩:=HF.out w1 hl
     obtain⟨x0,x1⟩:=hP.cells
     have f1:=hP.box.free 1
     go_simp
     refine hK.out _ _ (fun h=>absurd rfl h) ?_
     clear hK K
     obtain⟨VL,hk9,hf9⟩:=hP.pop hr
     have hZ9:=hZ.other ⟨r,1,none⟩ (.slice a4 O.length c4) (by show w.heap.size≠r;omega)
     have hX9:=hX.other ⟨r,1,none⟩ (.slice a4 O.length c4) (by show w4.heap.size≠r;omega)
     have hT9:=hT.kept hk9 hf9
     have fz9:=Le.trans hK9.low.size hf9
     have hK10:=hK9.trans Le hk9
     clear x0 x1 f1 hP hZ hX hT hK9 hk9 hf9 hl HF
     refine aH (by kernel_rfl) (fun w1 hl=>?_) _
     have hPd:=VL.kept hl
     have hZd:=hZ9.kept hl
     have hXd:=hX9.kept hl
     have hTd:=hT9.fC hl
     have hKd:=hK0.tr (hK10.trans fz9 (aK.below (Nat.le_of_lt VL.box.lt) hl))
     have fzd:dW w (.slice ao O.length co) (.slice a4 O.length c4):=(dW.refl _ _).trans (by omega) fz9
     have alU:(Value.slice a4 O.length c4).ownBlock≠some w.heap.size:=fun e=>by
      rcases fz9 _ e with h | h
      ·exact absurd h (acO _ (by omega) (by omega)).2
      ·omega
     clear VL hZ9 hX9 hT9 hK10 fz9 hl Le
     have yG:=oU (b:=w.heap.size) w1 V.cells.toArray
     have hrd:=hPd.box.lt
     have hzl:=hZd.lt
     have EO:=hPd.frame hr (fun b hb=>yG.block b (by rcases hb with hb | hb;omega;exact(hPd.ov b hb).2) (by rintro rfl;rcases hb with hb | hb;omega;exact alU hb))
     have ZP:dX (w1.setRow w.heap.size V.cells.toArray) r (.slice a4 O.length c4) w.heap.size V:=⟨hTd.lies.eH (hTd.on.and hTd.lies.on) fun b hb=>yG.block b hb.2 (by have:=hb.1.1;omega),(hTd.mono (by omega)).on⟩
     have hKF:=yG.kept hKd (Nat.le_refl _) (by omega) (by omega)
     have HPF:=ah EO
     clear hPd hTd hKd yG EO
     go_wp2_with (first | (refine wpList_load_row rfl 115 (.tmp 4) rfl w4.heap.size rfl 115 _ (0,0) _ hXd Tryz.underlying115 rfl (bP V) ?_) | (refine wpList_store_row rfl 115 (.tmp 2) (.tmp _) rfl w.heap.size _ rfl rfl _ _ hZd (bP V) (by show 8=V.cells.toArray.size;rw[List.size_toArray,Vt.bI]) V.all ?_))
     exact cZ Tryz.results280 rfl (cs:=V.cells.toArray) (hZd.setRow _) Tryz.underlying115 rfl (bP V) rfl (show Jy r qB (.slice ao O.length co) O w (.inr (x,R)) _ _ from⟨V,v7,.slice a4 O.length c4,rfl,hV,HPF.out,ZP,hKF,fzd⟩)
    ·have fQ:ans=.inl (11,qa):=by
      cases R with
      | nil=>exact(Option.some.inj hans).symm
      | cons b R=>exact(Option.some.inj ((if_neg NM).symm.trans hans)).symm
     subst fQ
     have n3:((iZ R:Int) != 3)=true:=by rw[bne_iff_ne];omega
     clear NM hans h5 h4 h3
     generalize iZ R=pk at *
     go_wp2_with (first | (refine wpList_store_row rfl 115 (.tmp 4) (.tmp _) rfl w4.heap.size _ rfl rfl _ _ Aj (bP V) (by show 8=V.cells.toArray.size;rw[List.size_toArray,Vt.bI]) V.all ?_) | (go_at_call 233;go_must (refine HP.out.mono ?_;rintro e w6 ⟨rfl,hb6⟩)) | (go_at_call 281;go_must (refine(o9 11 qa _).mono ?_;rintro e w7 ⟨hl,hb7⟩;obtain rfl:e=_:=hl)))
     have kH:=bF.trans (hb6.mono bF.size)
     exact⟨rfl,rfl,hK0.tr (ZM.trans Le (aK.below (Nat.le_of_lt hr4) (kH.trans (hb7.mono kH.size))))⟩
end
section
open Go.RowKit
theorem xR(k:Int)(ps:Nat)(V:Vt)(w:World)(h:Box w ps V.cells.toArray 115) :
  Calls Tryz.prog 282 #[.int .i64 k,.pointer (some ⟨ps,0,none⟩)] w (fun e w'=>∃ V',e=.returned (.agg V'.cells.toArray)∧Hid (V'=Vt.mk k 0 (some ⟨w.heap.size+1,0,none⟩) 1 [V] 0 0)∧ak w' (.slice (some ⟨w.heap.size+1,0,none⟩) 1 1) 8 Vt.cells [V]∧Below w.heap.size w w') :=
 (Xx k ps V w h).mono fun _ _ ⟨h1,h2,h3⟩=>⟨.mk k 0 (some ⟨w.heap.size+1,0,none⟩) 1 [V] 0 0,h1,ah rfl,h2,h3⟩
theorem acP(r qB m:Nat)(v ov:Value)(L:List Lx)(O:List Int)(V:Vt)(w:World)(h:dJ w r qB v L ov O)(hT:dX w r ov m V)(hr:r<qB)(hb:qB≤w.heap.size)(hm:m≤w.heap.size) :
  Calls Tryz.prog 256 #[.pointer (some ⟨r,0,none⟩),.agg V.cells.toArray] w (Qc r qB m ov O w (dL L V.tr)):=by
 have hB0:Below w.heap.size w ((w.alloc (.cells V.cells.toArray 115)).alloc (.cells bG 115)):=((Below.refl _ w).alloc (Nat.le_refl _) _).alloc (by simp) _
 have Du:PoI w r qB m ov O (dL L V.tr) ((w.alloc (.cells V.cells.toArray 115)).alloc (.cells bG 115)) :=
  ⟨L,V,⟨(Box.new _ _ _).alloc _,Box.new' (by simp) _ _,⟨v,h.kept hB0⟩,hT.fC hB0,hT.lies.on.mono fun b hb=>⟨by omega,by omega⟩,aK.below (by omega) hB0,⟨hr,hb,hm⟩,fun g hg=>(h.ov g hg).2⟩,rfl⟩
 obtain⟨ANS,hA⟩:∃ ANS,dL L V.tr=ANS:=⟨_,rfl⟩
 rw[hA] at Du ⊢
 clear hA hB0 h hT
 obtain⟨k1,s1,a1,Bj,yY,lo1,hi1⟩:=V
 have HQ:=ah Du
 clear Du
 go_enter Tryz.func256,Tryz.ntmps256
 go_wp2
 go_loopw [] (fun wr=>PoI w r qB m ov O ANS wr) (fun wr=>Qb r wr)
 case atStart=>exact HQ.out
 case round =>
  clear HQ
  obtain⟨L,V,hS,hans⟩:=hrel
  obtain⟨v1,hP⟩:=hS.ps
  have hsz:=hS.z.lt
  have hm0:=Ah hP
  have hpk:=Ia r qB v1 ov L O wr hP
  by_cases hstop:iZ L=5∨iZ L=6∨iZ L=7∨iZ L=8
  ·obtain⟨q,L,rfl⟩:∃ q L',L=q::L':=by
    cases L with
    | nil=>simp[iZ] at hstop
    | cons q L=>exact⟨q,L,rfl⟩
   have hok:=hP.ok q (by simp)
   have hml:Qb r wr=L.length+1:=by rw[hm0];rfl
   obtain⟨qk,qa,qs,ql,qh⟩:=q
   have hq:iZ (⟨qk,qa,qs,ql,qh⟩::L)=qk:=rfl
   rw[hq] at hstop hpk
   rcases hstop with rfl | rfl | rfl | rfl
   ·have fQ:dL L (.mk 6 0 [V.tr] 0 0)=ANS:=by rw[←hans,qc];rfl
    have HP:=ah hpk
    have HS:=ah hS
    clear hpk hS hans hP hm0 hok hq
    go_wp2_with (first | (go_at_call 233;go_must (refine HP.out.mono ?_;rintro e w1 ⟨rfl,hb1⟩;have hS1:=HS.out.below hb1;have hx1:=hS1.x;have hsz1:=hS1.z.lt)) | (go_at_call 282;go_must (refine(xR 6 w.heap.size V w1 hx1).mono ?_;rintro e w2 ⟨V2,rfl,hV2,hs2,hb2⟩;have hS3:kY w r qB m ov O (⟨5,qa,qs,ql,qh⟩::L) V2 (w2.setRow w.heap.size V2.cells.toArray):=hV2.out.symm▸hS1.over hb2 6 (by decide) hs2;have hx2:=hx1.kept hb2;obtain⟨v3,hP3⟩:=hS3.ps;have hsz3:=hS3.z.lt)) | (refine wpList_store_row rfl 115 (.tmp 3) (.tmp _) rfl w.heap.size _ rfl rfl _ _ hx2 (bP V2) (by rw[List.size_toArray,List.size_toArray,Vt.bI,Vt.bI]) V2.all ?_) | (go_at_call 234;go_must (refine(uO r qB _ ov _ L O _ hP3 hr (by omega)).mono ?_;rintro e w4 ⟨rfl,⟨v4,iQ⟩,hk4⟩)))
    have hS4:=hS3.next hk4 iQ
    have hm4:=Ah iQ
    clear hS3 hP3 hx2 hx1 hS1 HS HP
    go_wp2
    go_roundw
    case rel=>exact⟨L,V2,hS4,by rw[hV2.out,Ib];exact fQ⟩
    case measure=>rw[hm4,hml];omega
   ·have fQ:dL L (.mk 7 0 [V.tr] 0 0)=ANS:=by rw[←hans,qc];rfl
    have HP:=ah hpk
    have HS:=ah hS
    clear hpk hS hans hP hm0 hok hq
    go_wp2_with (first | (go_at_call 233;go_must (refine HP.out.mono ?_;rintro e w1 ⟨rfl,hb1⟩;have hS1:=HS.out.below hb1;have hx1:=hS1.x;have hsz1:=hS1.z.lt)) | (go_at_call 282;go_must (refine(xR 7 w.heap.size V w1 hx1).mono ?_;rintro e w2 ⟨V2,rfl,hV2,hs2,hb2⟩;have hS3:kY w r qB m ov O (⟨6,qa,qs,ql,qh⟩::L) V2 (w2.setRow w.heap.size V2.cells.toArray):=hV2.out.symm▸hS1.over hb2 7 (by decide) hs2;have hx2:=hx1.kept hb2;obtain⟨v3,hP3⟩:=hS3.ps;have hsz3:=hS3.z.lt)) | (refine wpList_store_row rfl 115 (.tmp 3) (.tmp _) rfl w.heap.size _ rfl rfl _ _ hx2 (bP V2) (by rw[List.size_toArray,List.size_toArray,Vt.bI,Vt.bI]) V2.all ?_) | (go_at_call 234;go_must (refine(uO r qB _ ov _ L O _ hP3 hr (by omega)).mono ?_;rintro e w4 ⟨rfl,⟨v4,iQ⟩,hk4⟩)))
    have hS4:=hS3.next hk4 iQ
    have hm4:=Ah iQ
    clear hS3 hP3 hx2 hx1 hS1 HS HP
    go_wp2
    go_roundw
    case rel=>exact⟨L,V2,hS4,by rw[hV2.out,Ib];exact fQ⟩
    case measure=>rw[hm4,hml];omega
   ·have fQ:dL L (.mk 8 0 [V.tr] 0 0)=ANS:=by rw[←hans,qc];rfl
    have HP:=ah hpk
    have HS:=ah hS
    clear hpk hS hans hP hm0 hok hq
    go_wp2_with (first | (go_at_call 233;go_must (refine HP.out.mono ?_;rintro e w1 ⟨rfl,hb1⟩;have hS1:=HS.out.below hb1;have hx1:=hS1.x;have hsz1:=hS1.z.lt)) | (go_at_call 282;go_must (refine(xR 8 w.heap.size V w1 hx1).mono ?_;rintro e w2 ⟨V2,rfl,hV2,hs2,hb2⟩;have hS3:kY w r qB m ov O (⟨7,qa,qs,ql,qh⟩::L) V2 (w2.setRow w.heap.size V2.cells.toArray):=hV2.out.symm▸hS1.over hb2 8 (by decide) hs2;have hx2:=hx1.kept hb2;obtain⟨v3,hP3⟩:=hS3.ps;have hsz3:=hS3.z.lt)) | (refine wpList_store_row rfl 115 (.tmp 3) (.tmp _) rfl w.heap.size _ rfl rfl _ _ hx2 (bP V2) (by rw[List.size_toArray,List.size_toArray,Vt.bI,Vt.bI]) V2.all ?_) | (go_at_call 234;go_must (refine(uO r qB _ ov _ L O _ hP3 hr (by omega)).mono ?_;rintro e w4 ⟨rfl,⟨v4,iQ⟩,hk4⟩)))
    have hS4:=hS3.next hk4 iQ
    have hm4:=Ah iQ
    clear hS3 hP3 hx2 hx1 hS1 HS HP
    go_wp2
    go_roundw
    case rel=>exact⟨L,V2,hS4,by rw[hV2.out,Ib];exact fQ⟩
    case measure=>rw[hm4,hml];omega
   ·have fQ:dL L (.mk 9 0 [V.tr] ql qh)=ANS:=by rw[←hans,qc];rfl
    have hlo:I64 ql∧I64 qh:=by
     rcases hok with h | h | h
     ·exact absurd (show(8:Nat)=1 from h.1) (by decide)
     ·have:=h.2.1;simp at this
     ·obtain⟨_,_,h1,h2,h3⟩:=h
      simp only at h1 h2 h3
      exact⟨⟨by omega,by omega⟩,by rcases h3 with h3 | h3 <;> exact⟨by omega,by omega⟩⟩
    have HP:=ah hpk
    have HS:=ah hS
    clear hpk hS hans hP hm0 hok hq
    go_wp2_with (first | (go_at_call 233;go_must (refine HP.out.mono ?_;rintro e wp ⟨rfl,hb1⟩;have hS1:=HS.out.below hb1;have hx1:=hS1.x;have hsz1:=hS1.z.lt)) | (go_at_call 282;go_must (refine(xR 9 w.heap.size V wp hx1).mono ?_;rintro e w2 ⟨V2,rfl,hV2,hs2,hb2⟩;have hS3:kY w r qB m ov O (⟨8,qa,qs,ql,qh⟩::L) V2 (w2.setRow w.heap.size V2.cells.toArray):=hV2.out.symm▸hS1.over hb2 9 (by decide) hs2;have hx2:=hx1.kept hb2;have hsz3:=hS3.z.lt)) | (refine wpList_store_row rfl 115 (.tmp 3) (.tmp _) rfl w.heap.size _ rfl rfl _ _ hx2 (bP V2) (by rw[List.size_toArray,List.size_toArray,Vt.bI,Vt.bI]) V2.all ?_))
    obtain⟨v3,hP3⟩:=hS3.ps
    obtain⟨x0,x1⟩:=hP3.cells
    obtain⟨b,o,cap,n,rfl,hn,hbl,hbne,hy⟩:=hP3.head
    have HF:Hid (∀ u,Ee w.heap.size 6 (.int .i64 ql) (w2.setRow w.heap.size V2.cells.toArray).drew u→u.cell? ⟨r,0,none⟩=some (.slice (some ⟨b,o,none⟩) n cap)∧(∀ j x,(fV ⟨8,qa,qs,ql,qh⟩)[j]?=some x→u.cell? ⟨b,o+j,none⟩=some x)∧b<u.heap.size∧r<u.heap.size):=ah fun u hl=>by
     have e1:=hl.only.size
     refine⟨?_,fun j x hx=>?_,Nat.lt_of_lt_of_le hbl e1,Nat.lt_of_lt_of_le hP3.box.lt e1⟩
     ·rw[World.cell?_of_block (hl.only.block r hP3.box.lt (by omega))];exact x0
     ·rw[World.cell?_of_block (a:=⟨b,o+j,none⟩) (hl.only.block b hbl (by omega))];exact hy j x hx
    have hx3:Box (w2.setRow w.heap.size V2.cells.toArray).drew w.heap.size V2.cells.toArray 115:=hS3.x
    have HX:=ah hx3
    clear x0 x1 hx3 hx2 hx1 HS HP hS1 hy
    have H3:=ah hS3
    have hn0:0<n:=by omega
    clear hS3 hP3
    refine aA (R:=Ee w.heap.size 6 (.int .i64 ql)) 17 (by kernel_rfl) ?_
    refine pl [0,1,2,3,4,5,6,7,8,9,10,11,12,13,14] ?_
    repeat
     refine dI ?_ rfl (fun w1 hl=>?_) ?_
     rotate_left
     ·obtain⟨x0,y,hbl,hrl⟩:=HF.out w1 hl;have y3:=y 3 _ rfl;have y4:=y 4 _ rfl;have y5:=y 5 _ rfl;have y6:=y 6 _ rfl;have y7:=y 7 _ rfl;go_simp;try with_reducible rfl
     simp only[eA,eB,eC,Act.put,eD,eE,eF]
    refine bU ?_
    refine aP (t:=17) (i:=15) (by kernel_rfl) rfl (fun w1 hl K hK=>?_)
    obtain⟨c5,hx5,e5,t5,_⟩:=hl.turn _ _ HX.out
    have k5:c5[6]?≠none:=by rw[Ne,Array.getElem?_eq_none_iff,e5,List.size_toArray,Vt.bI];omega
    obtain⟨z5,hz5⟩:=Option.ne_none_iff_exists'.1 k5
    have y6:=(hx5.cell 6).trans hz5
    have f6:=hx5.free 6
    have kR:Ee w.heap.size 6 (.int .i64 ql) w1 _:=Ee.set w1
    have hl5:=(RS _ _ _).trans _ _ _ hl kR
    have hx6:=hx5.set 6 (.int .i64 ql)
    go_simp
    refine hK.out _ _ (fun _=>kR) ?_
    clear hK K y6 f6 kR hl hx5
    refine jM 16 ?_ rfl (fun w1 hl=>?_) ?_
    rotate_left
    ·skip;go_simp;try with_reducible rfl
    simp only[eA,eB,eC,Act.put,eD,eE,eF]
    refine aP (t:=17) (i:=17) (by kernel_rfl) rfl (fun w1 hl K hK=>?_)
    obtain⟨c7,hx7,e7,t7,u7⟩:=hl.turn _ _ hx6
    have F9:=(RS _ _ _).trans _ _ _ hl5 hl
    have k7:c7[7]?≠none:=by rw[Ne,Array.getElem?_eq_none_iff,e7,Array.size_setIfInBounds,e5,List.size_toArray,Vt.bI];omega
    obtain⟨z7,ZN⟩:=Option.ne_none_iff_exists'.1 k7
    have y7:=(hx7.cell 7).trans ZN
    have f7:=hx7.free 7
    have iI:=(jS _).trans _ _ _ F9.only (dY.set w1 7 (.int .i64 qh))
    have Lh:=hx7.set 7 (.int .i64 qh)
    go_simp
    refine hK.out _ _ (fun h=>absurd rfl h) ?_
    clear hK K y7 f7 hx7 F9 hl hl5
    refine aH (by kernel_rfl) (fun w1 hl=>?_) _
    obtain⟨c9,hx9,e9,t9,u9⟩:=hl.turn _ _ Lh
    have ho9:=(jS _).trans _ _ _ iI hl.only
    have hc9:c9=(aC 9 0 (some ⟨wp.heap.size+1,0,none⟩) 1 1 ql qh).toArray:=by
     refine acK (lo0:=0) (hi0:=0) (fun j h6 h7=>?_) (u9 ?_) ?_
     ·rw[t9 j h6,Array.getElem?_setIfInBounds,if_neg (Ne.symm h7),t7 j h6,Array.getElem?_setIfInBounds,if_neg (Ne.symm h6),t5 j h6,hV2.out,List.getElem?_toArray];rfl
     ·rw[Array.getElem?_setIfInBounds,if_neg (by decide)]
      refine u7 ?_
      rw[Array.getElem?_setIfInBounds,if_pos rfl,if_pos]
      rw[e5,List.size_toArray,Vt.bI];omega
     ·rw[t9 7 (by decide),Array.getElem?_setIfInBounds,if_pos rfl,if_pos]
      rw[e7,Array.size_setIfInBounds,e5,List.size_toArray,Vt.bI];omega
    subst hc9
    have hSV:kY w r qB m ov O (⟨8,qa,qs,ql,qh⟩::L) (.mk 9 0 (some ⟨wp.heap.size+1,0,none⟩) 1 [V] 0 0) (w2.setRow w.heap.size V2.cells.toArray):=(congrArg (fun X=>kY w r qB m ov O (⟨8,qa,qs,ql,qh⟩::L) X (w2.setRow w.heap.size V2.cells.toArray)) hV2.out).mp H3.out
    have hS9:=hSV.nums ((jS _).trans _ _ _ ((jS _).later _ _ (Below.refl _ _).drew) ho9) ql qh hlo.1 hlo.2 hx9
    obtain⟨v9,VL⟩:=hS9.ps
    have apS:=hS9.z.lt
    clear t5 t7 t9 u7 u9 e5 e7 e9 iI ho9 hl Lh hx6 HF HX H3 hSV hx9
    go_wp2_with (go_at_call 234;go_must (refine(uO r qB _ ov _ L O _ VL hr (by omega)).mono ?_;rintro e w4 ⟨rfl,⟨v4,iQ⟩,hk4⟩))
    have hS4:=hS9.next hk4 iQ
    have hm4:=Ah iQ
    clear hS9 VL
    go_wp2
    go_roundw
    case rel=>exact⟨L,_,hS4,by rw[Ib];exact fQ⟩
    case measure=>rw[hm4,hml];omega
  ·have fQ:=UR V.tr hstop
   rw[hans] at fQ
   have n5:((iZ L:Int)==5)=false:=by rw[beq_eq_false_iff_ne];omega
   have n6:((iZ L:Int)==6)=false:=by rw[beq_eq_false_iff_ne];omega
   have n7:((iZ L:Int)==7)=false:=by rw[beq_eq_false_iff_ne];omega
   have n8:((iZ L:Int)==8)=false:=by rw[beq_eq_false_iff_ne];omega
   have HP:=ah hpk
   have HS:=ah hS
   have HA:=ah fQ
   clear hpk hS hans hP hm0 fQ hstop
   generalize iZ L=pk at *
   go_wp2_with (first | (go_at_call 233;go_must (refine HP.out.mono ?_;rintro e w1 ⟨rfl,hb1⟩;have hS1:=HS.out.below hb1;have hx1:=hS1.x;have hz1:=hS1.z;have hsz1:=hS1.z.lt)) | (refine wpList_load_row rfl 115 (.tmp 3) rfl w.heap.size rfl 115 _ (0,0) _ hx1 Tryz.underlying115 rfl (bP V) ?_) | (refine wpList_store_row rfl 115 (.tmp 4) (.tmp 9) rfl (w.heap.size+1) _ rfl rfl _ _ hz1 (bP V) (by show 8=V.cells.toArray.size;rw[List.size_toArray,Vt.bI]) V.all ?_))
   obtain⟨v5,g1,g2,g3⟩:=hS1.fin (oU w1 V.cells.toArray)
   exact cZ Tryz.results256 rfl (cs:=V.cells.toArray) (hz1.setRow _) Tryz.underlying115 rfl (bP V) rfl (show Qc r qB m ov O w ANS _ _ from⟨V,v5,rfl,by rw[HA.out],by rw[HA.out];exact g1,g2,g3⟩)
end
end Go.Proofs.YtengfapcaaacaaaGreatDoor
