/- The texts of B17, in few letters (mini.py). -/
import Derived.Test.YtaoinbjjolikhaaGreatDoorM16
set_option linter.unusedVariables false
set_option linter.unusedSimpArgs false
set_option maxRecDepth 20000
set_option maxHeartbeats 3200000
namespace Go.Proofs.YtaoinbjjolikhaaGreatDoor
section
open Go.RowKit
structure eu(b:Nat)(w w':World):Prop where
 os:w'.os=w.os
 tape:w'.tape=w.tape
 output:w'.output=w.output
 size:w.heap.size≤w'.heap.size
 block:∀ k,k<w.heap.size→k≠b→w'.heap[k]?=w.heap[k]?
instance jW (b:Nat):jF (eu b):=⟨fun _=>⟨rfl,rfl,rfl,Nat.le_refl _,fun _ _ _=>rfl⟩,fun _ _ _ h k=>⟨k.os.trans h.os,k.tape.trans h.tape,k.output.trans h.output,Nat.le_trans h.size k.size,fun x hx hn=>(k.block x (Nat.lt_of_lt_of_le hx h.size) hn).trans (h.block x hx hn)⟩,fun _ _ h=>⟨h.os,h.tape,h.output,h.size,fun x hx _=>h.block x hx⟩⟩
theorem eu.set{b:Nat}(w:World)(i:Nat)(v:Value):eu b w (w.setCell ⟨b,i,none⟩ v):=⟨rfl,rfl,rfl,by simp,fun k _ hn=>heap_setCell_other w ⟨b,i,none⟩ k v hn⟩
theorem eu.kept{b r:Nat}{ov:Value}{w0 w w':World}(h:eu b w w')(k:aP r ov w0 w)(hb:w0.heap.size≤b)(hr:r≤b)(hs:r≤w.heap.size):aP r ov w0 w' :=
 ⟨k.low.trans ⟨h.os,h.tape,h.output,h.size,fun x hx=>h.block x (by omega) (by omega)⟩,fun x hx h1 h2=>(h.block x (Nat.lt_of_lt_of_le hx k.low.size) (by omega)).trans (k.block x hx h1 h2)⟩
theorem oW{b:Nat}(w:World)(c:Array Value):eu b w (w.setRow b c):=⟨rfl,rfl,rfl,by simp,fun k _ hn=>setRow_other w b k c hn⟩
structure Eu(b i:Nat)(x:Value)(w w':World):Prop where
 only:eu b w w'
 turn:∀ c E,Box w b c E→∃ c',Box w' b c' E∧c'.size=c.size∧(∀ j,j≠i→c'[j]?=c[j]?)∧(c[i]?=some x→c'[i]?=some x)
instance SV (b i:Nat) (x:Value):jF (Eu b i x) where
 refl:=fun a=>⟨(jW b).refl a,fun c _ h=>⟨c,h,rfl,fun _ _=>rfl,id⟩⟩
 trans:=fun p q r h k=>⟨(jW b).trans p q r h.only k.only,fun c E hc=>by
  obtain⟨c1,h1,h2,h3,h4⟩:=h.turn c E hc
  obtain⟨c2,k1,k2,k3,k4⟩:=k.turn c1 E h1
  exact⟨c2,k1,k2.trans h2,fun j hj=>(k3 j hj).trans (h3 j hj),fun e=>k4 (h4 e)⟩⟩
 later:=fun p q h=>⟨(jW b).later p q h,fun c _ hc=>⟨c,hc.kept h,rfl,fun _ _=>rfl,id⟩⟩
theorem Eu.set{b i:Nat}{x:Value}(w:World):Eu b i x w (w.setCell ⟨b,i,none⟩ x):=⟨eu.set w i x,fun c' E' h'=>⟨_,h'.set i x,by simp,fun j hj=>by rw[Array.getElem?_setIfInBounds,if_neg (Ne.symm hj)],fun e=>by
 rw[Array.getElem?_setIfInBounds,if_pos rfl,if_pos]
 exact(Array.getElem?_eq_some_iff.1 e).1⟩⟩
theorem ac3{c:Array Value}{k:Int}{s:au}{a:Option Addr}{n cap:Nat}{lo hi lo0 hi0:Int}(h:∀ j,j≠6→j≠7→c[j]?=(aF k s a n cap lo0 hi0)[j]?)(h6:c[6]?=some (.int .i64 lo))(h7:c[7]?=some (.int .i64 hi)):c=(aF k s a n cap lo hi).toArray:=by
 refine Array.ext_getElem? fun j=>?_
 by_cases j6:j=6
 ·subst j6;rw[h6];rfl
 by_cases j7:j=7
 ·subst j7;rw[h7];rfl
 rw[h j j6 j7]
 match j,j6,j7 with
 | 0,_,_=>rfl
 | 1,_,_=>rfl
 | 2,_,_=>rfl
 | 3,_,_=>rfl
 | 4,_,_=>rfl
 | 5,_,_=>rfl
 | j+8,_,_=>rfl
structure lq(w:World)(r base m:Nat)(ov:Value)(O:List Int)(L:List Lx)(V:Vt)(W:World):Prop where
 x:Box W w.heap.size V.cells.toArray 101
 z:Box W (w.heap.size+1) bI 101
 ps:∃ v,dN W r base v L ov O
 tree:dZ W r ov m V
 away:On (fun b=>b≠w.heap.size∧b≠w.heap.size+1) V
 kept:aP r ov w W
 lt:r<base∧base≤w.heap.size∧m≤w.heap.size
 old:∀ g,ov.ownBlock=some g→g<w.heap.size
section
variable {w W W1 W2:World} {r base m:Nat} {ov:Value} {O:List Int} {L:List Lx} {V:Vt}
theorem lq.below(h:lq w r base m ov O L V W)(hb:Below W.heap.size W W1):lq w r base m ov O L V W1:=by
 obtain⟨v,hv⟩:=h.ps
 exact⟨h.x.kept hb,h.z.kept hb,⟨v,hv.kept hb⟩,h.tree.fF hb,h.away,h.kept.tr (aP.below (Nat.le_of_lt hv.box.lt) hb),h.lt,h.old⟩
theorem lq.next(h:lq w r base m ov O L V W){L2:List Lx}{v:Value}(hk:aP r ov W W1)(hp:dN W1 r base v L2 ov O):lq w r base m ov O L2 V W1:=by
 have h1:=h.lt
 have hne:∀ b,w.heap.size≤b→b≠r∧ov.ownBlock≠some b:=fun b hb=>⟨by omega,fun e=>by have:=h.old b e;omega⟩
 exact⟨(hk.block _ h.x.lt (hne _ (by omega)).1 (hne _ (by omega)).2).trans h.x,(hk.block _ h.z.lt (hne _ (by omega)).1 (hne _ (by omega)).2).trans h.z,⟨v,hp⟩,h.tree.kept hk (dY.refl _ _),h.away,h.kept.tr hk,h.lt,h.old⟩
theorem lq.turn(h:lq w r base m ov O L V W)(ho:eu w.heap.size W W1){V':Vt}(hx:Box W1 w.heap.size V'.cells.toArray 101)(hl:Lies W V')(hon:On (fun b=>m≤b∧b≠r∧ov.ownBlock≠some b) V')(haw:On (fun b=>b≠w.heap.size∧b≠w.heap.size+1) V'):lq w r base m ov O L V' W1:=by
 obtain⟨v,hv⟩:=h.ps
 have h1:=h.lt
 have hsz:=h.z.lt
 refine⟨hx,(ho.block _ hsz (by omega)).trans h.z,⟨v,hv.frame h1.1 fun b hb=>?_⟩,⟨hl.eY (haw.and hl.on) fun b hb=>ho.block b hb.2 hb.1.1,hon⟩,haw,ho.kept h.kept (Nat.le_refl _) (by omega) (by omega),h.lt,h.old⟩
 have hbl:b<w.heap.size:=by
  rcases hb with hb | hb
  ·omega
  ·exact h.old b hb
 exact ho.block b (Nat.lt_of_lt_of_le hbl h.kept.low.size) (by omega)
theorem lq.over(h:lq w r base m ov O L V W1)(hb:Below W1.heap.size W1 W2)(k:Int)(hk:I64 k)(hs:ak W2 (.slice (some ⟨W1.heap.size+1,0,none⟩) 1 1) 8 Vt.cells [V]) :
  lq w r base m ov O L (.mk k 0 (some ⟨W1.heap.size+1,0,none⟩) 1 [V] 0 0) (W2.setRow w.heap.size (aF k 0 (some ⟨W1.heap.size+1,0,none⟩) 1 1 0 0).toArray):=by
 have h2:=h.below hb
 have h1:=h.lt
 have hz:=h.z.lt
 refine h2.turn (oW _ _) (h2.x.setRow _) (.mk _ _ _ _ _ _ _ hk (by decide) (by decide) hs fun i hi=>?_) (.mk _ _ _ _ _ _ _ (fun _ ad e=>?_) fun i hi=>?_) (.mk _ _ _ _ _ _ _ (fun _ ad e=>?_) fun i hi=>?_)
 ·obtain rfl:i=0:=by simpa using hi
  exact h2.tree.lies
 ·cases e
  exact⟨by show m≤W1.heap.size+1;omega,by show W1.heap.size+1≠r;omega,fun e=>by have:=h.old _ e;simp at this;omega⟩
 ·obtain rfl:i=0:=by simpa using hi
  exact h2.tree.on
 ·cases e
  exact⟨by show W1.heap.size+1≠_;omega,by show W1.heap.size+1≠_;omega⟩
 ·obtain rfl:i=0:=by simpa using hi
  exact h2.away
theorem lq.fin(h:lq w r base m ov O L V W)(ho:eu (w.heap.size+1) W W1):∃ v,dN W1 r base v L ov O∧dZ W1 r ov m V∧aP r ov w W1:=by
 obtain⟨v,hv⟩:=h.ps
 have h1:=h.lt
 have hsz:=h.z.lt
 refine⟨v,hv.frame h1.1 fun b hb=>?_,⟨h.tree.lies.eY (h.away.and h.tree.lies.on) fun b hb=>ho.block b hb.2 hb.1.2,h.tree.on⟩,ho.kept h.kept (by omega) (by omega) (by omega)⟩
 have hbl:b<w.heap.size:=by
  rcases hb with hb | hb
  ·omega
  ·exact h.old b hb
 exact ho.block b (Nat.lt_of_lt_of_le hbl h.kept.low.size) (by omega)
theorem lq.nums{k:Int}{s:au}{a:Option Addr}{cap:Nat}{kids:List Vt}{lo hi:Int}(h:lq w r base m ov O L (.mk k s a cap kids lo hi) W)(ho:eu w.heap.size W W1)(lo' hi':Int)(h1:I64 lo')(h2:I64 hi')
  (hx:Box W1 w.heap.size (aF k s a kids.length cap lo' hi').toArray 101):lq w r base m ov O L (.mk k s a cap kids lo' hi') W1:=by
 obtain⟨q1,q2,q3,q4,q5⟩:=h.tree.lies.open
 have g1:=h.tree.on
 have g2:=h.away
 cases g1 with
 | mk _ _ _ _ _ _ _ g3 g4 =>
  cases g2 with
  | mk _ _ _ _ _ _ _ g5 g6=>exact h.turn ho hx (.mk _ _ _ _ _ _ _ q1 h1 h2 q4 q5) (.mk _ _ _ _ _ _ _ g3 g4) (.mk _ _ _ _ _ _ _ g5 g6)
end
theorem dN.head{W:World}{r base:Nat}{v ov:Value}{q:Lx}{L:List Lx}{O:List Int}(h:dN W r base v (q::L) ov O) :
  ∃ b o cap n,v=.slice (some ⟨b,o,none⟩) n cap∧n=L.length+1∧b<W.heap.size∧(b≠r∧b<base)∧∀ j x,(gG q)[j]?=some x→W.cell? ⟨b,o+j,none⟩=some x:=by
 obtain⟨a,b,o,cap,rfl,hle,hm,ha,hx⟩:=h.sl
 have ha2:a=some ⟨b,o,none⟩:=by
  rcases ha with ha | ⟨ha,_⟩
  ·exact ha
  ·cases ha
 subst ha2
 have y:∀ j u,(gG q)[j]?=some u→W.cell? ⟨b,o+j,none⟩=some u:=fun j u hu=>by have:=hx 0 (by simp) j u hu;rwa[Nat.zero_mul,Nat.add_zero] at this
 exact⟨b,o,cap,_,rfl,by simp,World.block_lt_of_cell? W _ (y 0 _ rfl),h.far _ _ _ rfl,y⟩
def QF(r:Nat)(W:World):Nat:=match W.cell? ⟨r,0,none⟩ with
 | some (.slice _ n _)=>n
 | _=>0
theorem Aw{W:World}{r base:Nat}{v ov:Value}{L:List Lx}{O:List Int}(h:dN W r base v L ov O):QF r W=L.length:=by
 obtain⟨a,b,o,cap,rfl,_⟩:=id h.sl
 unfold QF
 rw[h.cells.1]
def QG(r base m:Nat)(ov:Value)(O:List Int)(w:World)(ans:Tr×List Lx)(e:Ending)(w':World):Prop :=
 ∃ V v,e=.returned (.agg V.cells.toArray)∧V.tr=ans.1∧dN w' r base v ans.2 ov O∧dZ w' r ov m V∧aP r ov w w'
def PoI(w:World)(r base m:Nat)(ov:Value)(O:List Int)(ANS:Tr×List Lx)(W:World):Prop:=∃ L V,lq w r base m ov O L V W∧dP L V.tr=ANS
theorem qx(q:Lx)(L:List Lx)(x:Tr):dP (q::L) x=if q.kind=5 then dP L (.mk 6 0 [x] 0 0) else if q.kind=6 then dP L (.mk 7 0 [x] 0 0) else if q.kind=7 then dP L (.mk 8 0 [x] 0 0)
  else if q.kind=8 then dP L (.mk 9 0 [x] q.lo q.hi) else (x,q::L):=by rw[dP]
theorem Vp{L:List Lx}(x:Tr)(h:¬ (je L=5∨je L=6∨je L=7∨je L=8)):dP L x=(x,L):=by
 cases L with
 | nil=>rw[dP]
 | cons q L =>
  simp only[je,not_or] at h
  rw[qx,if_neg h.1,if_neg h.2.1,if_neg h.2.2.1,if_neg h.2.2.2]
theorem Vt.all(V:Vt):V.cells.toArray.all (·.oneCell')=true:=by
 rw[List.all_toArray,List.all_eq_true]
 exact fun u hu=>V.cells_one u hu
theorem bU(V:Vt):(Tryz.prog.info? 101).map (·.size)=some V.cells.toArray.size:=by
 rw[List.size_toArray,Vt.bM];kernel_rfl
theorem Ir(k:Int)(a:Option Addr)(V:Vt)(lo hi:Int):(Vt.mk k 0 a 1 [V] lo hi).tr=.mk k 0 [V.tr] lo hi:=Vt.jP _ _ _ _ _ _ _
end
section
open Go.RowKit
def JW(r base:Nat)(ov:Value)(O:List Int)(w:World)(ans:Sum (Nat×Nat) (Tr×List Lx))(e:Ending)(w':World):Prop :=
 match ans with
 | .inl q=>X3 q.1 q.2 e∧aP r ov w w'
 | .inr q=>∃ V v pU,e=.returned (.agg V.cells.toArray)∧V.tr=q.1∧dN w' r base v q.2 pU O∧dZ w' r pU w.heap.size V∧aP r ov w w'∧dY w ov pU
def Ot(r base:Nat)(ov:Value)(O:List Int)(L:List Lx)(w:World)(ans:Sum (Nat×Nat) (Option (Tr×List Lx)))(e:Ending)(w':World):Prop :=
 match ans with
 | .inl q=>X3 q.1 q.2 e∧aP r ov w w'
 | .inr none=>e=.returned (.tuple #[Rz,.bool false])∧(∃ v,dN w' r base v L ov O)∧aP r ov w w'
 | .inr (some q)=>∃ V v pU,e=.returned (.tuple #[.agg V.cells.toArray,.bool true])∧V.tr=q.1∧dN w' r base v q.2 pU O∧dZ w' r pU w.heap.size V∧aP r ov w w'∧dY w ov pU
def pV(m d:Nat)(a:Lx)(L:List Lx):Option (Sum (Nat×Nat) (Tr×List Lx)) :=
 if d=64 then some (.inl (17,a.at')) else match jg m (d+1) [] L with
  | none=>none
  | some (.inl q)=>some (.inl q)
  | some (.inr (x,b::r'))=>if b.kind=3 then some (.inr (x,r')) else some (.inl (11,a.at'))
  | some (.inr (_,[]))=>some (.inl (11,a.at'))
theorem pq(n d:Nat)(a:Lx)(L:List Lx):lg (n+1) d (a::L)=if a.kind=1 then some (.inr (some (.mk 3 a.set [] 0 0,L))) else if a.kind=2 then (pV n d a L).map (fun s=>s.map id some)
  else if a.kind=5∨a.kind=6∨a.kind=7∨a.kind=8 then some (.inl (5,a.at')) else if a.kind=3∧d=0 then some (.inl (12,a.at')) else some (.inr none):=by
 rw[lg]
 by_cases h1:a.kind=1
 ·rw[if_pos h1,if_pos h1]
 ·rw[if_neg h1,if_neg h1]
  by_cases h2:a.kind=2
  ·rw[if_pos h2,if_pos h2]
   unfold pV
   by_cases h3:d=64
   ·rw[if_pos h3,if_pos h3];rfl
   ·rw[if_neg h3,if_neg h3]
    rcases jg n (d+1) [] L with _ | q | ⟨x,_ | ⟨b,r'⟩⟩
    ·rfl
    ·rfl
    ·rfl
    ·dsimp only
     by_cases h4:b.kind=3
     ·rw[if_pos h4,if_pos h4];rfl
     ·rw[if_neg h4,if_neg h4];rfl
  ·rw[if_neg h2,if_neg h2]
theorem uS(n d:Nat):lg (n+1) d []=some (.inr none):=by rw[lg]
theorem jZ(n d:Nat)(pieces:List Tr)(L:List Lx):jQ (n+1) d pieces L=match lg n d L with
  | none=>none
  | some (.inl q)=>some (.inl q)
  | some (.inr (some (x,r)))=>jQ n d (pieces++[(dP r x).1]) (dP r x).2
  | some (.inr none)=>some (.inr (if pieces.length=0 then .mk 2 0 [] 0 0 else BJ 4 pieces,L)):=by rw[jQ];rfl
def Ou(n d:Nat)(parts:List Tr)(L:List Lx):Option (Sum (Nat×Nat) (Tr×List Lx)):=match L with
 | a::r'=>if a.kind=4 then jg n d parts r' else some (.inr (BJ 5 parts,a::r'))
 | []=>some (.inr (BJ 5 parts,[]))
theorem lN(n d:Nat)(parts:List Tr)(L:List Lx):jg (n+1) d parts L=match jQ n d [] L with
  | none=>none
  | some (.inl q)=>some (.inl q)
  | some (.inr (x,r))=>Ou n d (parts++[x]) r:=by
 rw[jg]
 rcases jQ n d [] L with _ | q | ⟨x,_ | ⟨b,r'⟩⟩ <;> rfl
section
variable {W W':World} {r base:Nat} {v ov:Value} {L:List Lx} {O:List Int}
theorem dN.push(h:dN W r base v L ov O)(hr:r<base){a:Option Addr}{n c:Nat}{x:Int}(ho:Own W' base 3 1 encI (.slice a n c) (O++[x]))(hg:W.grownBy W' ov.ownBlock)(hb:(Value.slice a n c).ownBlock=ov.ownBlock∨(Value.slice a n c).ownBlock=some W.heap.size) :
  dN (W'.setCell ⟨r,1,none⟩ (.slice a n c)) r base v L (.slice a n c) (O++[x])∧aP r ov W (W'.setCell ⟨r,1,none⟩ (.slice a n c))∧dY W ov (.slice a n c):=by
 have hrl:=h.box.lt
 have hne:some r≠ov.ownBlock:=fun e=>by have:=h.ov r e.symm;omega
 have hk:aP r ov W W':=aP.grown hg (Nat.le_of_lt hrl) fun g hg=>by have:=h.ov g hg;omega
 have hbx:Box W' r #[v,ov] 210:=(hg.block r hrl hne).trans h.box
 refine⟨⟨hbx.set 1 _,?_,h.far,ho.other _ _ hr,h.ok⟩,hk.tr (aP.set _ _ _),fun g e=>?_⟩
 ·obtain⟨a',b',o',cap',rfl,_⟩:=id h.sl
  refine h.sl.eY fun h0 ad e=>?_
  have h1:=h.far ad _ _ (by rw[e])
  have h2:=h.sl
  rw[e] at h2
  have h3:=h2.blk h0 (by rw[xI.len];decide)
  rw[heap_setCell_other W' ⟨r,1,none⟩ _ _ h1.1]
  exact hg.block _ h3 fun e=>by have:=h.ov _ e.symm;omega
 ·rcases hb with hb | hb
  ·exact .inl (hb▸e)
  ·rw[hb] at e;exact .inr (by have:=Option.some.inj e;omega)
theorem dN.pop{a:Option Addr}{n c:Nat}{x:Int}(h:dN W r base v L (.slice a n c) (O++[x]))(hr:r<base) :
  dN (W.setCell ⟨r,1,none⟩ (.slice a O.length c)) r base v L (.slice a O.length c) O∧aP r (.slice a n c) W (W.setCell ⟨r,1,none⟩ (.slice a O.length c))∧dY W (.slice a n c) (.slice a O.length c):=by
 refine⟨⟨h.box.set 1 _,?_,h.far,h.open'.less.other _ _ hr,h.ok⟩,aP.set _ _ _,fun g e=>.inl (by cases a <;> exact e)⟩
 obtain⟨a',b',o',cap',rfl,_⟩:=id h.sl
 refine h.sl.eY fun h0 ad e=>?_
 exact heap_setCell_other W ⟨r,1,none⟩ _ _ (h.far ad _ _ (by rw[e])).1
theorem dN.only(h:dN W r base v L ov O)(hr:r<base){w:World}(hk:aP r ov w W)(hw:base≤w.heap.size)(ho:eu w.heap.size W W')(hov:ov.ownBlock≠some w.heap.size):dN W' r base v L ov O∧aP r ov w W':=by
 have hs:=hk.low.size
 have hrl:=h.box.lt
 refine⟨h.frame hr fun b hb=>?_,ho.kept hk (Nat.le_refl _) (by omega) (by omega)⟩
 have hbl:b<W.heap.size:=by
  rcases hb with hb | hb
  ·omega
  ·exact(h.ov b hb).2
 exact ho.block b hbl (by rintro rfl;rcases hb with hb | hb;omega;exact hov hb)
end
theorem Gm:fG Tryz.prog 24 3 (.int .i64 0) 1 8:=⟨Tryz.underlying24,info_parts (by kernel_rfl),rfl,by decide⟩
theorem aP.box{r:Nat}{ov:Value}{w w':World}(h:aP r ov w w'){b E:Nat}{c:Array Value}(hb:Box w b c E)(h1:b≠r)(h2:ov.ownBlock≠some b):Box w' b c E:=(h.block b hb.lt h1 h2).trans hb
theorem X5(k a:Int)(s0 s1 s2 s3:Int)(lo hi:Int)(w:World):(Instr.field 165 (.agg #[.int .i64 k,.int .i64 a,.int .u64 s0,.int .u64 s1,.int .u64 s2,.int .u64 s3,.int .i64 lo,.int .i64 hi]) 1).run Tryz.prog w=.ok (.int .i64 a) w:=by kernel_rfl
theorem X6(k a:Int)(s0 s1 s2 s3:Int)(lo hi:Int)(w:World):(Instr.field 165 (.agg #[.int .i64 k,.int .i64 a,.int .u64 s0,.int .u64 s1,.int .u64 s2,.int .u64 s3,.int .i64 lo,.int .i64 hi]) 2).run Tryz.prog w=.ok (.agg #[.int .u64 s0,.int .u64 s1,.int .u64 s2,.int .u64 s3]) w:=by kernel_rfl
def ac4(r base n:Nat):Prop:=∀ (v ov:Value) (L:List Lx) (O:List Int) (ans:Sum (Nat×Nat) (Tr×List Lx)) (w:World),dN w r base v L ov O→r<base→base≤w.heap.size→O.length≤64→jg n O.length [] L=some ans →
 Calls Tryz.prog 139 #[.pointer (some ⟨r,0,none⟩)] w (JW r base ov O w ans)
def X7(r base n:Nat):Prop:=∀ (v ov:Value) (L:List Lx) (O:List Int) (ans:Sum (Nat×Nat) (Tr×List Lx)) (w:World),dN w r base v L ov O→r<base→base≤w.heap.size→O.length≤64→jQ n O.length [] L=some ans →
 Calls Tryz.prog 187 #[.pointer (some ⟨r,0,none⟩)] w (JW r base ov O w ans)
def X8(r base n:Nat):Prop:=∀ (v ov:Value) (L:List Lx) (O:List Int) (ans:Sum (Nat×Nat) (Option (Tr×List Lx))) (w:World),dN w r base v L ov O→r<base→base≤w.heap.size→O.length≤64→lg n O.length L=some ans →
 Calls Tryz.prog 213 #[.pointer (some ⟨r,0,none⟩)] w (Ot r base ov O L w ans)
def aak(r base m:Nat):Prop:=∀ (v ov:Value) (q:Lx) (L:List Lx) (O:List Int) (ans:Sum (Nat×Nat) (Tr×List Lx)) (w:World),dN w r base v (q::L) ov O→r<base→base≤w.heap.size→O.length≤64→pV m O.length q L=some ans →
 Calls Tryz.prog 230 #[.pointer (some ⟨r,0,none⟩)] w (JW r base ov O w ans)
end
section
open Go.RowKit
structure lu(W0:World)(r base:Nat)(tq:Value)(O:List Int)(a:Option Addr)(cap:Nat)(vs:List Vt)(v ov:Value)(L:List Lx)(W:World):Prop where
 ps:dN W r base v L ov O
 fresh:dY W0 tq ov
 ne:∀ g,ov.ownBlock=some g→(Value.slice a vs.length cap).ownBlock≠some g
 trees:∀ i (h:i<vs.length),dZ W r ov W0.heap.size vs[i]
 own:vI W W0.heap.size 101 (.slice a vs.length cap) vs
 kept:aP r tq W0 W
 lt:r<base∧base≤W0.heap.size
section
variable {W0 W W':World} {r base:Nat} {tq:Value} {O:List Int} {a:Option Addr} {cap:Nat} {vs:List Vt} {v ov:Value} {L R:List Lx}
theorem lu.nil(h:dN W0 r base v L ov O)(hr:r<base)(hb:base≤W0.heap.size):lu W0 r base ov O none 0 [] v ov L W0 :=
 ⟨h,dY.refl _ _,fun g _ e=>(by cases e),fun i hi=>(by simp at hi),vI.nil _ _ _,aP.refl _ _ _,hr,hb⟩
theorem lu.lC(h:lu W0 r base tq O a cap vs v ov L W)(g:Nat)(hg:(Value.slice a vs.length cap).ownBlock=some g):W0.heap.size≤g∧g<W.heap.size:=h.own.1.lU g hg
theorem lu.mid(h:lu W0 r base tq O a cap vs v ov L W)(k:aP r ov W W'){v' pU:Value}(f:dY W ov pU)(hp:dN W' r base v' R pU O):lu W0 r base tq O a cap vs v' pU R W':=by
 have hlt:=h.lt
 refine⟨hp,h.fresh.trans h.kept.low.size f,fun g hg e=>?_,fun i hi=>(h.trees i hi).kept k f,⟨h.own.1.fF fun g hg=>?_,fun i hi=>((h.trees i hi).kept k f).lies,h.own.2.2⟩,h.kept.trans h.fresh k,hlt⟩
 ·have h2:=h.lC g e
  rcases f g hg with h1 | h1
  ·exact h.ne g h1 e
  ·omega
 ·have h2:=h.lC g hg
  exact k.block g h2.2 (by omega) fun e=>h.ne g e hg
theorem lu.below(h:lu W0 r base tq O a cap vs v ov L W)(hb:Below W.heap.size W W'):lu W0 r base tq O a cap vs v ov L W':=h.mid (aP.below (Nat.le_of_lt h.ps.box.lt) hb) (dY.refl _ _) (h.ps.kept hb)
theorem lu.snoc(h:lu W0 r base tq O a cap vs v ov L W){y:Vt}{m:Nat}(hy:dZ W r ov m y)(hm:W0.heap.size≤m)(hoy:On (fun b=>(Value.slice a vs.length cap).ownBlock≠some b) y){a':Option Addr}{cap':Nat}
  (ho:Own W' W0.heap.size 101 8 Vt.cells (.slice a' (vs.length+1) cap') (vs++[y])) (hg:W.grownBy W' (Value.slice a vs.length cap).ownBlock) (hb:(Value.slice a' (vs.length+1) cap').ownBlock=(Value.slice a vs.length cap).ownBlock∨(Value.slice a' (vs.length+1) cap').ownBlock=some W.heap.size) :
  lu W0 r base tq O a' cap' (vs++[y]) v ov L W':=by
 have hlt:=h.lt
 have hl:(vs++[y]).length=vs.length+1:=by simp
 have hs:=h.kept.low.size
 have ho2:=h.own.appended hy.lies hoy ho hg hb
 have hrl:=h.ps.box.lt
 refine⟨h.ps.frame hlt.1 fun b hb2=>?_,h.fresh,fun g hg2 e=>?_,fun i hi=>⟨ho2.2.1 i hi,?_⟩,by rw[hl];exact ho2,h.kept.Gl hg (Nat.le_of_lt hrl) fun g e=>by have:=h.lC g e;omega,hlt⟩
 ·refine hg.block b ?_ fun e=>?_
  ·rcases hb2 with hb2 | hb2
   ·omega
   ·exact(h.ps.ov b hb2).2
  ·rcases hb2 with hb2 | hb2
   ·have:=h.lC b e.symm;omega
   ·exact h.ne b hb2 e.symm
 ·rw[hl] at e
  rcases hb with hb | hb
  ·exact h.ne g hg2 (hb▸e)
  ·rw[hb] at e;have:=(h.ps.ov g hg2).2;have:=Option.some.inj e;omega
 ·by_cases hlt2:i<vs.length
  ·rw[List.getElem_append_left hlt2];exact(h.trees i hlt2).on
  ·have:i=vs.length:=by rw[hl] at hi;omega
   subst this;simpa using (hy.mono hm).on
theorem lu.one{y:Vt}(h:dN W r base v L ov O)(k:aP r tq W0 W)(f:dY W0 tq ov)(hr:r<base)(hb:base≤W0.heap.size)(hy:dZ W r ov W0.heap.size y) :
  lu W0 r base tq O (some ⟨W.heap.size,0,none⟩) 1 [y] v ov L (W.alloc (.cells y.cells.toArray 101)):=by
 have hB:=aj W (.cells y.cells.toArray 101)
 have hs:=k.low.size
 refine⟨h.kept hB,f,fun g hg e=>?_,fun i hi=>?_,⟨⟨_,1,rfl,Nat.le_refl _,by simp[maxLen],.inr ⟨W.heap.size,_,rfl,hs,Box.new _ _ _,by rw[List.size_toArray,Vt.bM],fun i hi j _=>?_⟩⟩,fun i hi=>?_,fun i hi=>?_⟩,k.trans f (aP.below (Nat.le_of_lt h.box.lt) hB),hr,hb⟩
 ·have h1:=(h.ov g hg).2
  have:W.heap.size=g:=Option.some.inj e
  omega
 ·obtain rfl:i=0:=by simpa using hi
  exact hy.fF hB
 ·obtain rfl:i=0:=by simpa using hi
  simp
 ·obtain rfl:i=0:=by simpa using hi
  exact hy.lies.kept hB
 ·obtain rfl:i=0:=by simpa using hi
  refine(hy.lies.on).mono fun b hb=>?_
  intro e
  have:W.heap.size=b:=Option.some.inj e
  omega
theorem lu.flat(h:lu W0 r base tq O a cap vs v ov L W)(k:Int)(hk:I64 k):dZ W r ov W0.heap.size (qO k a cap vs):=by
 have hlt:=h.lt
 have key:dZ W r ov W0.heap.size (.mk k 0 a cap vs 0 0):=by
  refine⟨.mk _ _ _ _ _ _ _ hk (by decide) (by decide) h.own.slice fun i hi=>(h.trees i hi).lies,.mk _ _ _ _ _ _ _ (fun _ ad e=>?_) fun i hi=>(h.trees i hi).on⟩
  subst e
  have h1:=h.lC ad.block rfl
  exact⟨h1.1,by omega,fun e=>h.ne _ e rfl⟩
 match vs,h.trees,key with
 | [],_,key=>exact key
 | [x],ht,_=>exact ht 0 (by simp)
 | _::_::_,_,key=>exact key
theorem lu.ret{w:World}(hK0:aP r tq w W0)(hW0:W0.heap.size=w.heap.size+1)(hO:∀ g,tq.ownBlock=some g→g<w.heap.size)(hb:base≤w.heap.size)(h:lu W0 r base tq O a cap vs v ov L W){V:Vt}{x:Tr}(ht:dZ W r ov W0.heap.size V)(hx:V.tr=x)(ho:eu w.heap.size W W') :
  JW r base tq O w (.inr (x,L)) (.returned (.agg V.cells.toArray)) W':=by
 have hlt:=h.lt
 have hs:=h.kept.low.size
 have hov:ov.ownBlock≠some w.heap.size:=fun e=>by
  rcases h.fresh _ e with h1 | h1
  ·have:=hO _ h1;omega
  ·omega
 refine⟨V,v,ov,rfl,hx,h.ps.frame hlt.1 fun b hb2=>ho.block b ?_ ?_,⟨ht.lies.eY (ht.on.and ht.lies.on) fun b hb2=>ho.block b hb2.2 (by have:=hb2.1.1;omega),(ht.mono (by omega)).on⟩,ho.kept (hK0.tr h.kept) (Nat.le_refl _) (by omega) (by omega),(dY.refl _ _).trans (by omega) h.fresh⟩
 ·rcases hb2 with hb2 | hb2
  ·omega
  ·exact(h.ps.ov b hb2).2
 ·rintro rfl
  rcases hb2 with hb2 | hb2
  ·omega
  ·exact hov hb2
end
theorem QG.open{r base m:Nat}{ov:Value}{O:List Int}{w w':World}{ans:Tr×List Lx}{e:Ending}(h:QG r base m ov O w ans e w'):∃ k s a cap kids lo hi v,e=.returned (.agg (aF k s a (List.length kids) cap lo hi).toArray)∧(Vt.mk k s a cap kids lo hi).tr=ans.1∧dN w' r base v ans.2 ov O∧dZ w' r ov m (.mk k s a cap kids lo hi)∧aP r ov w w':=by
 obtain⟨⟨k,s,a,cap,kids,lo,hi⟩,v,h⟩:=h
 exact⟨k,s,a,cap,kids,lo,hi,v,h⟩
def aeL(W0:World)(r base N:Nat)(tq:Value)(O:List Int)(ans:Sum (Nat×Nat) (Tr×List Lx))(p:Value)(W:World):Prop :=
 ∃ (m:Nat) (a:Option Addr) (cap:Nat) (vs:List Vt) (v ov:Value) (L:List Lx),p=.slice a vs.length cap∧m+vs.length=N∧lu W0 r base tq O a cap vs v ov L W∧jQ m O.length (vs.map Vt.tr) L=some ans
def ahr(W0:World)(r base N:Nat)(tq:Value)(O:List Int)(ans:Sum (Nat×Nat) (Tr×List Lx))(p:Value)(W:World):Prop :=
 ∃ (m:Nat) (a:Option Addr) (cap:Nat) (vs:List Vt) (v ov:Value) (L:List Lx),p=.slice a vs.length cap∧m+vs.length=N∧lu W0 r base tq O a cap vs v ov L W∧Ou m O.length (vs.map Vt.tr) L=some ans
def lenOf:Value→Nat
 | .slice _ n _=>n
 | _=>0
end
section
open Go.RowKit
theorem ac5(r base m:Nat)(IH:ac4 r base m):aak r base m:=by
 intro v ov q L O ans w h hr hb hO hans
 have hB0:=aj w (.cells bI 101)
 have h0:=h.kept hB0
 have hg0:=Box.new w bI 101
 have hW0:(w.alloc (.cells bI 101)).heap.size=w.heap.size+1:=by simp
 have hnx:=uQ r base v ov q L O _ h0 hr (by omega)
 have Az:=fun g hg=>(h.ov g hg).2
 obtain⟨qk,qa,qs,ql,qh⟩:=q
 obtain⟨ao,co,rfl⟩:=h.open'.form
 have hK0:aP r (.slice ao O.length co) w (w.alloc (.cells bI 101)):=aP.below (Nat.le_of_lt h.box.lt) hB0
 have HN:=ah hnx
 have HI:=ah IH
 have HO:=ah Az
 clear hnx h0 h IH Az hB0
 unfold gG at HN
 unfold pV at hans
 have hfl:=X5
 by_cases hd:O.length=64
 ·rw[if_pos hd] at hans
  obtain rfl:=Option.some.inj hans
  have e64:((O.length:Int)==64)=true:=by rw[hd];rfl
  clear hd
  go_enter Tryz.func230,Tryz.ntmps230
  go_wp2_with (first | (go_at_call 189;go_must (refine HN.out.mono ?_;rintro e w1 ⟨rfl,⟨v1,h1⟩,hk1⟩;obtain⟨x0,x1⟩:=h1.cells;have hrl:=h1.box.lt)) | (go_at_call 231;go_must (refine(o9 17 qa _).mono ?_;rintro e w2 ⟨hl,hb2⟩;obtain rfl:e=_:=hl)))
  exact⟨rfl,rfl,(hK0.tr hk1).tr (aP.below (Nat.le_of_lt hrl) hb2)⟩
 ·rw[if_neg hd] at hans
  have e64:((O.length:Int)==64)=false:=by rw[beq_eq_false_iff_ne];omega
  have hlen:(O++[(qa:Int)]).length=O.length+1:=by simp
  have apR:O.length+1≤64:=by omega
  cases hA:jg m (O.length+1) [] L with
  | none=>rw[hA] at hans;cases hans
  | some A =>
   rw[hA] at hans
   rw[←hlen] at hA
   have HA:=ah hA
   have lD:=ah hans
   have HL:=ah hlen
   clear hA hans hlen hd
   go_enter Tryz.func230,Tryz.ntmps230
   go_wp2_with (first | (go_at_call 189;go_must (refine HN.out.mono ?_;rintro e w1 ⟨rfl,⟨v1,h1⟩,hk1⟩;obtain⟨x0,x1⟩:=h1.cells;have hrl:=h1.box.lt;have hK1:=hK0.tr hk1;have hp1:=h1.kept (aj w1 (.cells #[.int .i64 qa] 3));have hsz1:=hK1.low.size)) | (at_builtin;go_must (refine fA rfl _ _ 24 rfl Gm uP rfl hp1.open' ⟨w1.heap.size,0,none⟩ 1 (qa:Int) rfl (dA w1 [.int .i64 (qa:Nat)] _) (by simp[maxLen];omega) (by omega) (by simp;omega) ?_;intro a3 c3 w3 ho3 hg3 hf3;have hpush:=hp1.push hr ho3 hg3 hf3;have hb3:Box w3 r _ _:=(hg3.block r (by have:=hp1.box.lt;omega) (fun e=>by have:=hp1.ov r e.symm;omega)).trans hp1.box;have x3:=hb3.cell 1;have f3:=hb3.free 1)))
   obtain⟨h3,hk3,hf3⟩:=hpush
   have ac6:=aP.below (ov:=.slice ao O.length co) (Nat.le_of_lt hrl) (aj w1 (.cells #[.int .i64 qa] 3))
   have kz3:=(hk1.tr ac6).tr hk3
   have fz3:dY (w.alloc (.cells bI 101)) (.slice ao O.length co) (.slice a3 (O.length+1) c3):=(dY.refl _ _).trans (hk1.tr ac6).low.size hf3
   have hs3:=kz3.low.size
   refine(HI.out v1 (.slice a3 (O.length+1) c3) L (O++[(qa:Int)]) A _ h3 hr (by omega) (by rw[HL.out];omega) HA.out).mono ?_
   intro e w4 hres
   clear x0 x1 x3 f3 hb3 hg3 ho3 ac6 hp1 h1
   have hans:=lD.out
   cases A with
   | inl p =>
    obtain⟨hl,hk4⟩:=hres
    obtain rfl:e=_:=hl
    obtain rfl:=Option.some.inj hans
    exact⟨rfl,rfl,hK0.tr (kz3.trans fz3 hk4)⟩
   | inr p =>
    obtain⟨x,R⟩:=p
    obtain⟨V,v4,ov4,rfl,hV,h4,wX,hk4,hf4⟩:=hres
    have kz4:=kz3.trans fz3 hk4
    have LX:=fz3.trans hs3 hf4
    have bF:Below w4.heap.size w4 ((w4.alloc (.cells bI 101)).setRow w4.heap.size V.cells.toArray):=below_setRow (aj _ _) (Nat.le_refl _) _
    have h5:=h4.kept bF
    have AA:=Box.new w4 bI 101
    have hx5:=AA.setRow V.cells.toArray
    have hpk:=Iq r base v4 ov4 R (O++[(qa:Int)]) _ h5
    have hr4:=h4.box.lt
    have al4:ov4.ownBlock≠some w4.heap.size:=fun e=>by have:=(h4.ov _ e).2;omega
    have HP:=ah hpk
    clear hpk
    by_cases Ov:je R=3
    ·obtain⟨b,R,rfl⟩:∃ b R',R=b::R':=by
      cases R with
      | nil=>cases Ov
      | cons b R=>exact⟨b,R,rfl⟩
     have hbk:b.kind=3:=Ov
     have gu:Option.some ans=some (.inr (x,R)):=by rw[←hans];exact if_pos hbk
     obtain rfl:=Option.some.inj gu
     rw[Ov] at HP
     have hnx:=fun u v' hu=>uQ r base v' ov4 b R (O++[(qa:Int)]) u hu hr
     have wV:=ah hnx
     have H5:=ah h5
     clear hans gu hbk Ov hnx h5 h4 h3
     go_wp2_with (first | (refine wpList_store_row rfl 101 (.tmp 4) (.tmp _) rfl w4.heap.size _ rfl rfl _ _ AA (bU V) (by show 8=V.cells.toArray.size;rw[List.size_toArray,Vt.bM]) V.all ?_) | (go_at_call 188;go_must (refine HP.out.mono ?_;rintro e w6 ⟨rfl,hb6⟩;have h6:=H5.out.kept hb6;have hx6:=hx5.kept hb6;have hs6:=hb6.size;rw[size_setRow,World.size_alloc] at hs6)) | (go_at_call 189;go_must (refine(wV.out _ _ h6 (by have:=kz4.low.size;omega)).mono ?_;rintro e w7 ⟨rfl,⟨v7,h7⟩,hk7⟩)))
     have um:=HO.out
     have kz5:=kz4.trans LX (aP.below (ov:=ov4) (Nat.le_of_lt hr4) (bF.trans (hb6.mono bF.size)))
     have kz7:=kz5.trans LX hk7
     have hs5:=kz5.low.size
     have hs4:=kz4.low.size
     have ac7:∀ g,w.heap.size≤g→g<(w.alloc (.cells bI 101)).heap.size→g≠r∧Value.ownBlock (.slice ao O.length co)≠some g:=fun g h1 h2=>⟨by omega,fun e=>by have:=HO.out g e;omega⟩
     have hz7:=kz7.box hg0 (ac7 _ (Nat.le_refl _) (by omega)).1 (ac7 _ (Nat.le_refl _) (by omega)).2
     have hx7:=hk7.box hx6 (by omega) al4
     have ht7:=(wX.fF (bF.trans (hb6.mono bF.size))).kept hk7 (dY.refl _ _)
     obtain⟨a4,c4,rfl⟩:=h7.open'.form
     rw[HL.out] at h7 ht7 LX
     have apS:O.length+1≤c4:=by
      obtain⟨a',c',hv',hle',_⟩:=h7.open'
      rw[HL.out] at hv' hle'
      obtain⟨_,_,rfl⟩:=Value.slice.inj hv'
      exact hle'
     have hw4:IntKind.i64.wrap ((O.length:Nat):Int)=((O.length:Nat):Int):=by rw[IntWalk.i64_in _ (by omega)]
     have hc0:(0:Int)≤((O.length:Nat):Int):=by omega
     have hc4:((O.length:Nat):Int)≤((c4:Nat):Int):=by omega
     have hc5:O.length≤c4:=by omega
     have hz8:=hz7.lt
     have LY:=hx7.lt
     have HF:Hid (∀ u,Later w7.drew u→dN u r base v7 R (.slice a4 (O.length+1) c4) (O++[(qa:Int)])∧Box u w.heap.size bI 101∧Box u w4.heap.size V.cells.toArray 101∧dZ u r (.slice a4 (O.length+1) c4) (w.heap.size+1) V∧aP r (.slice ao O.length co) (w.alloc (.cells bI 101)) u):=ah fun u hl =>
      ⟨(h7.kept (Below.refl _ _).drew).kept hl,(hz7.drew).kept hl,(hx7.drew).kept hl,((ht7.fF (Below.refl _ _).drew).fF hl).mono (by omega),(kz7.trans LX (aP.below (Nat.le_of_lt h7.box.lt) (Below.refl _ _).drew)).trans LX (aP.below (Nat.le_of_lt h7.box.lt) hl)⟩
     have apT:=h7.box.lt
     clear h7 hz7 hx7 ht7 kz7 kz5 kz4 kz3 hk7 hx6 h6 H5 wV HP hx5 AA hk4 wX hk3 hK1 hk1 hb6 bF lD HI HN
     refine aA (R:=Later) 14 (by kernel_rfl) ?_
     refine pl [0,1,2,3,4,5,6,7,8,9,10,11,12,13] ?_
     repeat
      refine dB ?_ rfl (fun w1 hl=>?_) ?_
      rotate_left
      ·obtain⟨hP,_⟩:=HF.out w1 hl;obtain⟨x0,x1⟩:=hP.cells;go_simp;try with_reducible rfl
      simp only[eA,eB,eC,Act.put,eD,eE,eF]
     refine bP ?_
     refine aW (t:=14) (i:=14) (by kernel_rfl) rfl (fun w1 hl K hK=>?_)
     obtain⟨hP,hZ,hX,hT,hK9⟩:=HF.out w1 hl
     obtain⟨x0,x1⟩:=hP.cells
     have f1:=hP.box.free 1
     go_simp
     refine hK.out _ _ (fun h=>absurd rfl h) ?_
     clear hK K
     obtain⟨WA,hk9,hf9⟩:=hP.pop hr
     have hZ9:=hZ.other ⟨r,1,none⟩ (.slice a4 O.length c4) (by show w.heap.size≠r;omega)
     have hX9:=hX.other ⟨r,1,none⟩ (.slice a4 O.length c4) (by show w4.heap.size≠r;omega)
     have hT9:=hT.kept hk9 hf9
     have fz9:=LX.trans hK9.low.size hf9
     have hK10:=hK9.trans LX hk9
     clear x0 x1 f1 hP hZ hX hT hK9 hk9 hf9 hl HF
     refine aI (by kernel_rfl) (fun w1 hl=>?_) _
     have hPd:=WA.kept hl
     have hZd:=hZ9.kept hl
     have hXd:=hX9.kept hl
     have hTd:=hT9.fF hl
     have hKd:=hK0.tr (hK10.trans fz9 (aP.below (Nat.le_of_lt WA.box.lt) hl))
     have fzd:dY w (.slice ao O.length co) (.slice a4 O.length c4):=(dY.refl _ _).trans (by omega) fz9
     have al5:(Value.slice a4 O.length c4).ownBlock≠some w.heap.size:=fun e=>by
      rcases fz9 _ e with h | h
      ·exact absurd h (ac7 _ (by omega) (by omega)).2
      ·omega
     clear WA hZ9 hX9 hT9 hK10 fz9 hl LX
     have yL:=oW (b:=w.heap.size) w1 V.cells.toArray
     have hrd:=hPd.box.lt
     have hzl:=hZd.lt
     have EZ:=hPd.frame hr (fun b hb=>yL.block b (by rcases hb with hb | hb;omega;exact(hPd.ov b hb).2) (by rintro rfl;rcases hb with hb | hb;omega;exact al5 hb))
     have hTF:dZ (w1.setRow w.heap.size V.cells.toArray) r (.slice a4 O.length c4) w.heap.size V:=⟨hTd.lies.eY (hTd.on.and hTd.lies.on) fun b hb=>yL.block b hb.2 (by have:=hb.1.1;omega),(hTd.mono (by omega)).on⟩
     have hKF:=yL.kept hKd (Nat.le_refl _) (by omega) (by omega)
     have HPF:=ah EZ
     clear hPd hTd hKd yL EZ
     go_wp2_with (first | (refine wpList_load_row rfl 101 (.tmp 4) rfl w4.heap.size rfl 101 _ (0,0) _ hXd Tryz.underlying101 rfl (bU V) ?_) | (refine wpList_store_row rfl 101 (.tmp 2) (.tmp _) rfl w.heap.size _ rfl rfl _ _ hZd (bU V) (by show 8=V.cells.toArray.size;rw[List.size_toArray,Vt.bM]) V.all ?_))
     exact dn Tryz.results230 rfl (cs:=V.cells.toArray) (hZd.setRow _) Tryz.underlying101 rfl (bU V) rfl (show JW r base (.slice ao O.length co) O w (.inr (x,R)) _ _ from⟨V,v7,.slice a4 O.length c4,rfl,hV,HPF.out,hTF,hKF,fzd⟩)
    ·have gu:ans=.inl (11,qa):=by
      cases R with
      | nil=>exact(Option.some.inj hans).symm
      | cons b R=>exact(Option.some.inj ((if_neg Ov).symm.trans hans)).symm
     subst gu
     have n3:((je R:Int) != 3)=true:=by rw[bne_iff_ne];omega
     clear Ov hans h5 h4 h3
     generalize je R=pk at *
     go_wp2_with (first | (refine wpList_store_row rfl 101 (.tmp 4) (.tmp _) rfl w4.heap.size _ rfl rfl _ _ AA (bU V) (by show 8=V.cells.toArray.size;rw[List.size_toArray,Vt.bM]) V.all ?_) | (go_at_call 188;go_must (refine HP.out.mono ?_;rintro e w6 ⟨rfl,hb6⟩)) | (go_at_call 231;go_must (refine(o9 11 qa _).mono ?_;rintro e w7 ⟨hl,hb7⟩;obtain rfl:e=_:=hl)))
     have ny:=bF.trans (hb6.mono bF.size)
     exact⟨rfl,rfl,hK0.tr (kz4.trans LX (aP.below (Nat.le_of_lt hr4) (ny.trans (hb7.mono ny.size))))⟩
end
section
open Go.RowKit
theorem x9(k:Int)(ps:Nat)(V:Vt)(w:World)(h:Box w ps V.cells.toArray 101) :
  Calls Tryz.prog 232 #[.int .i64 k,.pointer (some ⟨ps,0,none⟩)] w (fun e w'=>∃ V',e=.returned (.agg V'.cells.toArray)∧Hid (V'=Vt.mk k 0 (some ⟨w.heap.size+1,0,none⟩) 1 [V] 0 0)∧ak w' (.slice (some ⟨w.heap.size+1,0,none⟩) 1 1) 8 Vt.cells [V]∧Below w.heap.size w w') :=
 (X4 k ps V w h).mono fun _ _ ⟨h1,h2,h3⟩=>⟨.mk k 0 (some ⟨w.heap.size+1,0,none⟩) 1 [V] 0 0,h1,ah rfl,h2,h3⟩
theorem ac8(r base m:Nat)(v ov:Value)(L:List Lx)(O:List Int)(V:Vt)(w:World)(h:dN w r base v L ov O)(hT:dZ w r ov m V)(hr:r<base)(hb:base≤w.heap.size)(hm:m≤w.heap.size) :
  Calls Tryz.prog 214 #[.pointer (some ⟨r,0,none⟩),.agg V.cells.toArray] w (QG r base m ov O w (dP L V.tr)):=by
 have hB0:Below w.heap.size w ((w.alloc (.cells V.cells.toArray 101)).alloc (.cells bI 101)):=((Below.refl _ w).alloc (Nat.le_refl _) _).alloc (by simp) _
 have DJ:PoI w r base m ov O (dP L V.tr) ((w.alloc (.cells V.cells.toArray 101)).alloc (.cells bI 101)) :=
  ⟨L,V,⟨(Box.new _ _ _).alloc _,Box.new' (by simp) _ _,⟨v,h.kept hB0⟩,hT.fF hB0,hT.lies.on.mono fun b hb=>⟨by omega,by omega⟩,aP.below (by omega) hB0,⟨hr,hb,hm⟩,fun g hg=>(h.ov g hg).2⟩,rfl⟩
 obtain⟨ANS,hA⟩:∃ ANS,dP L V.tr=ANS:=⟨_,rfl⟩
 rw[hA] at DJ ⊢
 clear hA hB0 h hT
 obtain⟨k1,s1,a1,BI,zo,lo1,hi1⟩:=V
 have HQ:=ah DJ
 clear DJ
 go_enter Tryz.func214,Tryz.ntmps214
 go_wp2
 go_loopw [] (fun wr=>PoI w r base m ov O ANS wr) (fun wr=>QF r wr)
 case atStart=>exact HQ.out
 case round =>
  clear HQ
  obtain⟨L,V,hS,hans⟩:=hrel
  obtain⟨v1,hP⟩:=hS.ps
  have hsz:=hS.z.lt
  have hm0:=Aw hP
  have hpk:=Iq r base v1 ov L O wr hP
  by_cases hstop:je L=5∨je L=6∨je L=7∨je L=8
  ·obtain⟨q,L,rfl⟩:∃ q L',L=q::L':=by
    cases L with
    | nil=>simp[je] at hstop
    | cons q L=>exact⟨q,L,rfl⟩
   have hok:=hP.ok q (by simp)
   have hml:QF r wr=L.length+1:=by rw[hm0];rfl
   obtain⟨qk,qa,qs,ql,qh⟩:=q
   have hq:je (⟨qk,qa,qs,ql,qh⟩::L)=qk:=rfl
   rw[hq] at hstop hpk
   rcases hstop with rfl | rfl | rfl | rfl
   ·have gu:dP L (.mk 6 0 [V.tr] 0 0)=ANS:=by rw[←hans,qx];rfl
    have HP:=ah hpk
    have HS:=ah hS
    clear hpk hS hans hP hm0 hok hq
    go_wp2_with (first | (go_at_call 188;go_must (refine HP.out.mono ?_;rintro e w1 ⟨rfl,hb1⟩;have hS1:=HS.out.below hb1;have hx1:=hS1.x;have hsz1:=hS1.z.lt)) | (go_at_call 232;go_must (refine(x9 6 w.heap.size V w1 hx1).mono ?_;rintro e w2 ⟨V2,rfl,hV2,hs2,hb2⟩;have hS3:lq w r base m ov O (⟨5,qa,qs,ql,qh⟩::L) V2 (w2.setRow w.heap.size V2.cells.toArray):=hV2.out.symm▸hS1.over hb2 6 (by decide) hs2;have hx2:=hx1.kept hb2;obtain⟨v3,hP3⟩:=hS3.ps;have hsz3:=hS3.z.lt)) | (refine wpList_store_row rfl 101 (.tmp 3) (.tmp _) rfl w.heap.size _ rfl rfl _ _ hx2 (bU V2) (by rw[List.size_toArray,List.size_toArray,Vt.bM,Vt.bM]) V2.all ?_) | (go_at_call 189;go_must (refine(uQ r base _ ov _ L O _ hP3 hr (by omega)).mono ?_;rintro e w4 ⟨rfl,⟨v4,iV⟩,hk4⟩)))
    have hS4:=hS3.next hk4 iV
    have hm4:=Aw iV
    clear hS3 hP3 hx2 hx1 hS1 HS HP
    go_wp2
    go_roundw
    case rel=>exact⟨L,V2,hS4,by rw[hV2.out,Ir];exact gu⟩
    case measure=>rw[hm4,hml];omega
   ·have gu:dP L (.mk 7 0 [V.tr] 0 0)=ANS:=by rw[←hans,qx];rfl
    have HP:=ah hpk
    have HS:=ah hS
    clear hpk hS hans hP hm0 hok hq
    go_wp2_with (first | (go_at_call 188;go_must (refine HP.out.mono ?_;rintro e w1 ⟨rfl,hb1⟩;have hS1:=HS.out.below hb1;have hx1:=hS1.x;have hsz1:=hS1.z.lt)) | (go_at_call 232;go_must (refine(x9 7 w.heap.size V w1 hx1).mono ?_;rintro e w2 ⟨V2,rfl,hV2,hs2,hb2⟩;have hS3:lq w r base m ov O (⟨6,qa,qs,ql,qh⟩::L) V2 (w2.setRow w.heap.size V2.cells.toArray):=hV2.out.symm▸hS1.over hb2 7 (by decide) hs2;have hx2:=hx1.kept hb2;obtain⟨v3,hP3⟩:=hS3.ps;have hsz3:=hS3.z.lt)) | (refine wpList_store_row rfl 101 (.tmp 3) (.tmp _) rfl w.heap.size _ rfl rfl _ _ hx2 (bU V2) (by rw[List.size_toArray,List.size_toArray,Vt.bM,Vt.bM]) V2.all ?_) | (go_at_call 189;go_must (refine(uQ r base _ ov _ L O _ hP3 hr (by omega)).mono ?_;rintro e w4 ⟨rfl,⟨v4,iV⟩,hk4⟩)))
    have hS4:=hS3.next hk4 iV
    have hm4:=Aw iV
    clear hS3 hP3 hx2 hx1 hS1 HS HP
    go_wp2
    go_roundw
    case rel=>exact⟨L,V2,hS4,by rw[hV2.out,Ir];exact gu⟩
    case measure=>rw[hm4,hml];omega
   ·have gu:dP L (.mk 8 0 [V.tr] 0 0)=ANS:=by rw[←hans,qx];rfl
    have HP:=ah hpk
    have HS:=ah hS
    clear hpk hS hans hP hm0 hok hq
    go_wp2_with (first | (go_at_call 188;go_must (refine HP.out.mono ?_;rintro e w1 ⟨rfl,hb1⟩;have hS1:=HS.out.below hb1;have hx1:=hS1.x;have hsz1:=hS1.z.lt)) | (go_at_call 232;go_must (refine(x9 8 w.heap.size V w1 hx1).mono ?_;rintro e w2 ⟨V2,rfl,hV2,hs2,hb2⟩;have hS3:lq w r base m ov O (⟨7,qa,qs,ql,qh⟩::L) V2 (w2.setRow w.heap.size V2.cells.toArray):=hV2.out.symm▸hS1.over hb2 8 (by decide) hs2;have hx2:=hx1.kept hb2;obtain⟨v3,hP3⟩:=hS3.ps;have hsz3:=hS3.z.lt)) | (refine wpList_store_row rfl 101 (.tmp 3) (.tmp _) rfl w.heap.size _ rfl rfl _ _ hx2 (bU V2) (by rw[List.size_toArray,List.size_toArray,Vt.bM,Vt.bM]) V2.all ?_) | (go_at_call 189;go_must (refine(uQ r base _ ov _ L O _ hP3 hr (by omega)).mono ?_;rintro e w4 ⟨rfl,⟨v4,iV⟩,hk4⟩)))
    have hS4:=hS3.next hk4 iV
    have hm4:=Aw iV
    clear hS3 hP3 hx2 hx1 hS1 HS HP
    go_wp2
    go_roundw
    case rel=>exact⟨L,V2,hS4,by rw[hV2.out,Ir];exact gu⟩
    case measure=>rw[hm4,hml];omega
   ·have gu:dP L (.mk 9 0 [V.tr] ql qh)=ANS:=by rw[←hans,qx];rfl
    have hlo:I64 ql∧I64 qh:=by
     rcases hok with h | h | h
     ·exact absurd (show(8:Nat)=1 from h.1) (by decide)
     ·have:=h.2.1;simp at this
     ·obtain⟨_,_,h1,h2,h3⟩:=h
      simp only at h1 h2 h3
      exact⟨⟨by omega,by omega⟩,by rcases h3 with h3 | h3 <;> exact⟨by omega,by omega⟩⟩
    have HP:=ah hpk
    have HS:=ah hS
    clear hpk hS hans hP hm0 hok hq
    go_wp2_with (first | (go_at_call 188;go_must (refine HP.out.mono ?_;rintro e wp ⟨rfl,hb1⟩;have hS1:=HS.out.below hb1;have hx1:=hS1.x;have hsz1:=hS1.z.lt)) | (go_at_call 232;go_must (refine(x9 9 w.heap.size V wp hx1).mono ?_;rintro e w2 ⟨V2,rfl,hV2,hs2,hb2⟩;have hS3:lq w r base m ov O (⟨8,qa,qs,ql,qh⟩::L) V2 (w2.setRow w.heap.size V2.cells.toArray):=hV2.out.symm▸hS1.over hb2 9 (by decide) hs2;have hx2:=hx1.kept hb2;have hsz3:=hS3.z.lt)) | (refine wpList_store_row rfl 101 (.tmp 3) (.tmp _) rfl w.heap.size _ rfl rfl _ _ hx2 (bU V2) (by rw[List.size_toArray,List.size_toArray,Vt.bM,Vt.bM]) V2.all ?_))
    obtain⟨v3,hP3⟩:=hS3.ps
    obtain⟨x0,x1⟩:=hP3.cells
    obtain⟨b,o,cap,n,rfl,hn,hbl,hbne,hy⟩:=hP3.head
    have HF:Hid (∀ u,Eu w.heap.size 6 (.int .i64 ql) (w2.setRow w.heap.size V2.cells.toArray).drew u→u.cell? ⟨r,0,none⟩=some (.slice (some ⟨b,o,none⟩) n cap)∧(∀ j x,(gG ⟨8,qa,qs,ql,qh⟩)[j]?=some x→u.cell? ⟨b,o+j,none⟩=some x)∧b<u.heap.size∧r<u.heap.size):=ah fun u hl=>by
     have e1:=hl.only.size
     refine⟨?_,fun j x hx=>?_,Nat.lt_of_lt_of_le hbl e1,Nat.lt_of_lt_of_le hP3.box.lt e1⟩
     ·rw[World.cell?_of_block (hl.only.block r hP3.box.lt (by omega))];exact x0
     ·rw[World.cell?_of_block (a:=⟨b,o+j,none⟩) (hl.only.block b hbl (by omega))];exact hy j x hx
    have hx3:Box (w2.setRow w.heap.size V2.cells.toArray).drew w.heap.size V2.cells.toArray 101:=hS3.x
    have HX:=ah hx3
    clear x0 x1 hx3 hx2 hx1 HS HP hS1 hy
    have H3:=ah hS3
    have hn0:0<n:=by omega
    clear hS3 hP3
    refine aA (R:=Eu w.heap.size 6 (.int .i64 ql)) 17 (by kernel_rfl) ?_
    refine pl [0,1,2,3,4,5,6,7,8,9,10,11,12,13,14] ?_
    repeat
     refine dB ?_ rfl (fun w1 hl=>?_) ?_
     rotate_left
     ·obtain⟨x0,y,hbl,hrl⟩:=HF.out w1 hl;have y3:=y 3 _ rfl;have y4:=y 4 _ rfl;have y5:=y 5 _ rfl;have y6:=y 6 _ rfl;have y7:=y 7 _ rfl;go_simp;try with_reducible rfl
     simp only[eA,eB,eC,Act.put,eD,eE,eF]
    refine bP ?_
    refine aW (t:=17) (i:=15) (by kernel_rfl) rfl (fun w1 hl K hK=>?_)
    obtain⟨c5,hx5,e5,t5,_⟩:=hl.turn _ _ HX.out
    have k5:c5[6]?≠none:=by rw[Ne,Array.getElem?_eq_none_iff,e5,List.size_toArray,Vt.bM];omega
    obtain⟨z5,hz5⟩:=Option.ne_none_iff_exists'.1 k5
    have y6:=(hx5.cell 6).trans hz5
    have f6:=hx5.free 6
    have kW:Eu w.heap.size 6 (.int .i64 ql) w1 _:=Eu.set w1
    have hl5:=(SV _ _ _).trans _ _ _ hl kW
    have hx6:=hx5.set 6 (.int .i64 ql)
    go_simp
    refine hK.out _ _ (fun _=>kW) ?_
    clear hK K y6 f6 kW hl hx5
    refine jB 16 ?_ rfl (fun w1 hl=>?_) ?_
    rotate_left
    ·skip;go_simp;try with_reducible rfl
    simp only[eA,eB,eC,Act.put,eD,eE,eF]
    refine aW (t:=17) (i:=17) (by kernel_rfl) rfl (fun w1 hl K hK=>?_)
    obtain⟨c7,hx7,e7,t7,u7⟩:=hl.turn _ _ hx6
    have Gn:=(SV _ _ _).trans _ _ _ hl5 hl
    have k7:c7[7]?≠none:=by rw[Ne,Array.getElem?_eq_none_iff,e7,Array.size_setIfInBounds,e5,List.size_toArray,Vt.bM];omega
    obtain⟨z7,hz7⟩:=Option.ne_none_iff_exists'.1 k7
    have y7:=(hx7.cell 7).trans hz7
    have f7:=hx7.free 7
    have iF:=(jW _).trans _ _ _ Gn.only (eu.set w1 7 (.int .i64 qh))
    have LY:=hx7.set 7 (.int .i64 qh)
    go_simp
    refine hK.out _ _ (fun h=>absurd rfl h) ?_
    clear hK K y7 f7 hx7 Gn hl hl5
    refine aI (by kernel_rfl) (fun w1 hl=>?_) _
    obtain⟨c9,hx9,e9,t9,u9⟩:=hl.turn _ _ LY
    have ho9:=(jW _).trans _ _ _ iF hl.only
    have hc9:c9=(aF 9 0 (some ⟨wp.heap.size+1,0,none⟩) 1 1 ql qh).toArray:=by
     refine ac3 (lo0:=0) (hi0:=0) (fun j h6 h7=>?_) (u9 ?_) ?_
     ·rw[t9 j h6,Array.getElem?_setIfInBounds,if_neg (Ne.symm h7),t7 j h6,Array.getElem?_setIfInBounds,if_neg (Ne.symm h6),t5 j h6,hV2.out,List.getElem?_toArray];rfl
     ·rw[Array.getElem?_setIfInBounds,if_neg (by decide)]
      refine u7 ?_
      rw[Array.getElem?_setIfInBounds,if_pos rfl,if_pos]
      rw[e5,List.size_toArray,Vt.bM];omega
     ·rw[t9 7 (by decide),Array.getElem?_setIfInBounds,if_pos rfl,if_pos]
      rw[e7,Array.size_setIfInBounds,e5,List.size_toArray,Vt.bM];omega
    subst hc9
    have hSV:lq w r base m ov O (⟨8,qa,qs,ql,qh⟩::L) (.mk 9 0 (some ⟨wp.heap.size+1,0,none⟩) 1 [V] 0 0) (w2.setRow w.heap.size V2.cells.toArray):=(congrArg (fun X=>lq w r base m ov O (⟨8,qa,qs,ql,qh⟩::L) X (w2.setRow w.heap.size V2.cells.toArray)) hV2.out).mp H3.out
    have hS9:=hSV.nums ((jW _).trans _ _ _ ((jW _).later _ _ (Below.refl _ _).drew) ho9) ql qh hlo.1 hlo.2 hx9
    obtain⟨v9,WA⟩:=hS9.ps
    have apU:=hS9.z.lt
    clear t5 t7 t9 u7 u9 e5 e7 e9 iF ho9 hl LY hx6 HF HX H3 hSV hx9
    go_wp2_with (go_at_call 189;go_must (refine(uQ r base _ ov _ L O _ WA hr (by omega)).mono ?_;rintro e w4 ⟨rfl,⟨v4,iV⟩,hk4⟩))
    have hS4:=hS9.next hk4 iV
    have hm4:=Aw iV
    clear hS9 WA
    go_wp2
    go_roundw
    case rel=>exact⟨L,_,hS4,by rw[Ir];exact gu⟩
    case measure=>rw[hm4,hml];omega
  ·have gu:=Vp V.tr hstop
   rw[hans] at gu
   have n5:((je L:Int)==5)=false:=by rw[beq_eq_false_iff_ne];omega
   have n6:((je L:Int)==6)=false:=by rw[beq_eq_false_iff_ne];omega
   have n7:((je L:Int)==7)=false:=by rw[beq_eq_false_iff_ne];omega
   have n8:((je L:Int)==8)=false:=by rw[beq_eq_false_iff_ne];omega
   have HP:=ah hpk
   have HS:=ah hS
   have HA:=ah gu
   clear hpk hS hans hP hm0 gu hstop
   generalize je L=pk at *
   go_wp2_with (first | (go_at_call 188;go_must (refine HP.out.mono ?_;rintro e w1 ⟨rfl,hb1⟩;have hS1:=HS.out.below hb1;have hx1:=hS1.x;have hz1:=hS1.z;have hsz1:=hS1.z.lt)) | (refine wpList_load_row rfl 101 (.tmp 3) rfl w.heap.size rfl 101 _ (0,0) _ hx1 Tryz.underlying101 rfl (bU V) ?_) | (refine wpList_store_row rfl 101 (.tmp 4) (.tmp 9) rfl (w.heap.size+1) _ rfl rfl _ _ hz1 (bU V) (by show 8=V.cells.toArray.size;rw[List.size_toArray,Vt.bM]) V.all ?_))
   obtain⟨v5,g1,g2,g3⟩:=hS1.fin (oW w1 V.cells.toArray)
   exact dn Tryz.results214 rfl (cs:=V.cells.toArray) (hz1.setRow _) Tryz.underlying101 rfl (bU V) rfl (show QG r base m ov O w ANS _ _ from⟨V,v5,rfl,by rw[HA.out],by rw[HA.out];exact g1,g2,g3⟩)
end
end Go.Proofs.YtaoinbjjolikhaaGreatDoor
