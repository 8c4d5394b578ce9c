/- The texts of T4, in few letters (mini.py). -/
import Derived.Test.YtbemonecmmnlcaaGreatDoorU3
import Derived.Test.YtbemonecmmnlcaaGreatDoorProg
set_option linter.unusedVariables false
set_option linter.unusedSimpArgs false
set_option maxRecDepth 20000
set_option maxHeartbeats 400000
namespace Go.Proofs.YtbemonecmmnlcaaGreatDoor
section
open Go.RowKit
structure Nf where
 states:Nat
 links:List (Nat×Nat)
 edges:List (Nat×aA×Nat)
 accept:List Nat
def Nf.state(y:Nf)(k:Nat):Nf:={ y with states:=y.states+1,accept:=y.accept++[k] }
def Nf.link(y:Nf)(a b:Nat):Nf:={ y with links:=y.links++[(a,b)] }
def Nf.edge(y:Nf)(a:Nat)(s:aA)(b:Nat):Nf:={ y with edges:=y.edges++[(a,s,b)] }
def aF:Nat:=1099511627776
def addN(a b:Nat):Nat:=if aF - a<b then aF else a+b
def mulN(a b:Nat):Nat:=if a=0∨b=0 then 0 else if aF / b<a then aF else a*b
mutual
def bF:Tr→Nat
 | .mk k _ kids lo hi =>
  if k=2∨k=4 then bT 0 kids
  else if k=9 then
   (let n:=bT 0 kids
    if n=0 then 0 else if hi<0 then addN (addN (mulN lo.toNat n) n) 1 else if lo<hi then addN (addN (mulN lo.toNat n) (mulN (hi - lo).toNat n)) 1 else mulN lo.toNat n)
  else addN (bT 0 kids) 1
def bT:Nat→List Tr→Nat
 | acc,[]=>acc
 | acc,x::l=>bT (addN acc (bF x)) l
end
def bV(f:Nf×Nat→Nf×Nat):Nat→Nf×Nat→Nf×Nat
 | 0,x=>x
 | n+1,x=>bV f n (f x)
def sS(plus:Bool)(f:Nf×Nat→Nf×Nat)(z:Nf×Nat):Nf×Nat :=
 let r:=f ((z.1.state 0).link z.2 z.1.states,z.1.states)
 (r.1.link r.2 z.1.states,if plus then r.2 else z.1.states)
mutual
def bG:Tr→Nf×Nat→Nf×Nat
 | .mk k s kids lo hi,(y,at') =>
  if k=4 then jS kids (y,at')
  else if k=5 then
   (let r:=fZ kids y at' []
    (r.2.foldl (fun z e=>z.link e r.1.states) (r.1.state 0),r.1.states))
  else if k=6∨k=7 then sS (k=7) (nM kids) (y,at')
  else if k=8 then
   (let r:=nM kids (y,at')
    (((r.1.state 0).link r.2 r.1.states).link at' r.1.states,r.1.states))
  else if k=9 then
   (if bT 0 kids=0 then (y,at') else
    let r:=bV (nM kids) lo.toNat (y,at')
    if hi<0 then sS false (nM kids) r
    else if hi=lo then r
    else
     let e:=bV (fun z=>nM kids (z.1.link z.2 r.1.states,z.2)) (hi - lo).toNat (r.1.state 0,r.2)
     (e.1.link e.2 r.1.states,r.1.states))
  else if k=2 then (y,at')
  else if k=3 then ((y.state 0).edge at' s y.states,y.states)
  else (y.state 0,y.states)
termination_by structural x=>x
def nM:List Tr→Nf×Nat→Nf×Nat
 | [],z=>z
 | x::_,z=>bG x z
termination_by structural x=>x
def jS:List Tr→Nf×Nat→Nf×Nat
 | [],z=>z
 | x::l,z=>jS l (bG x z)
termination_by structural x=>x
def fZ:List Tr→Nf→Nat→List Nat→Nf×List Nat
 | [],y,_,ends=>(y,ends)
 | x::l,y,at',ends=>fZ l (bG x (y,at')).1 at' (ends++[(bG x (y,at')).2])
termination_by structural x=>x
end
end
section
open Go.RowKit
inductive On (S:Nat→Prop):Vt→Prop
 | mk (k:Int) (s:aA) (a:Option Addr) (cap:Nat) (kids:List Vt) (lo hi:Int) (h:0<kids.length→∀ ad,a=some ad→S ad.block) (hk:∀ i (h:i<kids.length),On S kids[i]):On S (.mk k s a cap kids lo hi)
theorem On.mono{S S':Nat→Prop}{V:Vt}(h:On S V)(hs:∀ b,S b→S' b):On S' V:=by
 induction h with
 | mk k s a cap kids lo hi h _ ih=>exact .mk k s a cap kids lo hi (fun h0 ad ha=>hs _ (h h0 ad ha)) ih
theorem On.and{S S':Nat→Prop}{V:Vt}(h:On S V)(h':On S' V):On (fun b=>S b∧S' b) V:=by
 induction h with
 | mk k s a cap kids lo hi h _ ih =>
  cases h' with
  | mk _ _ _ _ _ _ _ h2 k2=>exact .mk k s a cap kids lo hi (fun h0 ad ha=>⟨h h0 ad ha,h2 h0 ad ha⟩) fun i hi=>ih i hi (k2 i hi)
theorem ak.blk{α:Type}{w:World}{ad:Addr}{n cap size:Nat}{enc:α→List Value}{xs:List α}(h:ak w (.slice (some ad) n cap) size enc xs)(h0:0<xs.length)(he:0<(enc xs[0]).length):ad.block<w.heap.size:=by
 obtain⟨b,o,_,_,_,ha,hx⟩:=h.open
 obtain rfl:=Option.some.inj (ha 0 h0)
 have:=World.block_lt_of_cell? w _ (hx 0 h0 0 _ (List.getElem?_eq_getElem he))
 exact this
theorem Lies.on{w:World}{V:Vt}(h:Lies w V):On (fun b=>b<w.heap.size) V:=by
 induction h with
 | mk k s a cap kids lo hi _ _ _ hs _ ih=>exact .mk k s a cap kids lo hi (fun h0 ad ha=>by subst ha;exact hs.blk h0 (by rw[Vt.bK];decide)) ih
theorem ak.fJ{α:Type}{w w':World}{a:Option Addr}{n cap size:Nat}{enc:α→List Value}{xs:List α}(h:ak w (.slice a n cap) size enc xs)(hb:0<xs.length→∀ ad,a=some ad→w'.heap[ad.block]?=w.heap[ad.block]?):ak w' (.slice a n cap) size enc xs:=by
 obtain⟨a',b,o,cap',hv,hl,hc,ha,hx⟩:=h
 obtain⟨rfl,rfl,rfl⟩:=Value.slice.inj hv
 refine⟨a,b,o,cap,rfl,hl,hc,ha,fun i hi j u hu=>?_⟩
 rcases ha with rfl | ⟨rfl,_⟩
 ·rw[←hx i hi j u hu]
  exact World.cell?_of_block (a:=⟨b,o+i*size+j,none⟩) (hb (by omega) ⟨b,o,none⟩ rfl)
 ·simp at hi
theorem Lies.fJ{w w':World}{S:Nat→Prop}{V:Vt}(h:Lies w V)(ho:On S V)(hb:∀ b,S b→w'.heap[b]?=w.heap[b]?):Lies w' V:=by
 induction h with
 | mk k s a cap kids lo hi h1 h2 h3 hs _ ih =>
  cases ho with
  | mk _ _ _ _ _ _ _ g1 g2=>exact .mk k s a cap kids lo hi h1 h2 h3 (hs.fJ fun h0 ad ha=>hb _ (g1 h0 ad ha)) fun i hi=>ih i hi (g2 i hi)
theorem DZ:fD Vt.cells 8:=⟨Vt.bK,Vt.cells_one⟩
def vU(w:World)(base E:Nat)(v:Value)(vs:List Vt):Prop :=
 Own w base E 8 Vt.cells v vs∧(∀ i (h:i<vs.length),Lies w vs[i])∧∀ i (h:i<vs.length),On (fun b=>v.ownBlock≠some b) vs[i]
theorem vU.kept{w w':World}{base E:Nat}{v:Value}{vs:List Vt}(h:vU w base E v vs)(hb:Below w.heap.size w w'):vU w' base E v vs :=
 ⟨h.1.kept hb,fun i hi=>(h.2.1 i hi).kept hb,h.2.2⟩
theorem vU.nil(w:World)(base E:Nat):vU w base E (.slice none 0 0) []:=⟨Own.nil _ _ _ _ _,fun i h=>by simp at h,fun i h=>by simp at h⟩
theorem vU.appended{w w':World}{base E:Nat}{v v':Value}{vs:List Vt}{y:Vt}(h:vU w base E v vs)(hy:Lies w y)(hoy:On (fun b=>v.ownBlock≠some b) y)
  (ho:Own w' base E 8 Vt.cells v' (vs++[y])) (hg:w.grownBy w' v.ownBlock) (hb:v'.ownBlock=v.ownBlock∨v'.ownBlock=some w.heap.size):vU w' base E v' (vs++[y]):=by
 have key:∀ V:Vt,Lies w V→On (fun b=>v.ownBlock≠some b) V→Lies w' V∧On (fun b=>v'.ownBlock≠some b) V:=fun V h1 h2=>by
  have h3:=h2.and h1.on
  refine⟨h1.fJ h3 fun b ⟨hb1,hb2⟩=>hg.block b hb2 (fun e=>hb1 e.symm),h3.mono fun b ⟨hb1,hb2⟩=>?_⟩
  rcases hb with hb | hb
  ·rw[hb];exact hb1
  ·rw[hb];intro e;have:=Option.some.inj e;omega
 refine⟨ho,fun i hi=>?_,fun i hi=>?_⟩
 ·by_cases hlt:i<vs.length
  ·rw[List.getElem_append_left hlt];exact(key _ (h.2.1 i hlt) (h.2.2 i hlt)).1
  ·have:i=vs.length:=by simp at hi;omega
   subst this;simpa using (key y hy hoy).1
 ·by_cases hlt:i<vs.length
  ·rw[List.getElem_append_left hlt];exact(key _ (h.2.1 i hlt) (h.2.2 i hlt)).2
  ·have:i=vs.length:=by simp at hi;omega
   subst this;simpa using (key y hy hoy).2
theorem vU.slice{w:World}{base E:Nat}{a:Option Addr}{n cap:Nat}{vs:List Vt}(h:vU w base E (.slice a n cap) vs):ak w (.slice a n cap) 8 Vt.cells vs:=h.1.slice DZ
def QT(w:World)(A:Tr)(e:Ending)(w':World):Prop :=
 ∃ V:Vt,e=.returned (.agg V.cells.toArray)∧V.tr=A∧Lies w' V∧On (fun b=>w.heap.size≤b) V∧Below w.heap.size w w'
def ahm(w:World)(A:Tr)(e:Ending)(w':World):Prop :=
 ∃ V:Vt,e=.returned (.agg V.cells.toArray)∧V.tr=A∧Lies w' V∧Below w.heap.size w w'
theorem QT.open{w w':World}{A:Tr}{e:Ending}(h:QT w A e w'):∃ (k:Int) (s:aA) (a:Option Addr) (cap:Nat) (kids:List Vt) (lo hi:Int),e=.returned (.agg (aC k s a kids.length cap lo hi).toArray) ∧
  (Vt.mk k s a cap kids lo hi).tr=A∧Lies w' (.mk k s a cap kids lo hi)∧On (fun b=>w.heap.size≤b) (.mk k s a cap kids lo hi)∧Below w.heap.size w w':=by
 obtain⟨⟨k,s,a,cap,kids,lo,hi⟩,h1,h2,h3,h4,h5⟩:=h
 exact⟨k,s,a,cap,kids,lo,hi,h1,h2,h3,h4,h5⟩
theorem ahm.open{w w':World}{A:Tr}{e:Ending}(h:ahm w A e w'):∃ (k:Int) (s:aA) (a:Option Addr) (cap:Nat) (kids:List Vt) (lo hi:Int),e=.returned (.agg (aC k s a kids.length cap lo hi).toArray) ∧
  (Vt.mk k s a cap kids lo hi).tr=A∧Lies w' (.mk k s a cap kids lo hi)∧Below w.heap.size w w':=by
 obtain⟨⟨k,s,a,cap,kids,lo,hi⟩,h1,h2,h3,h5⟩:=h
 exact⟨k,s,a,cap,kids,lo,hi,h1,h2,h3,h5⟩
def AZ(B:Nat)(w w':World):Prop:=∀ b,B≤b→w'.heap[b]?=w.heap[b]?
theorem AZ.refl(B:Nat)(w:World):AZ B w w:=fun _ _=>rfl
theorem AZ.set{B:Nat}{w w':World}(h:AZ B w w'){a:Addr}(ha:a.block<B)(v:Value):AZ B w (w'.setCell a v):=fun b hb=>(heap_setCell_other w' a b v (by omega)).trans (h b hb)
theorem Lies.above{w w':World}{B:Nat}{V:Vt}(h:Lies w V)(ho:On (fun b=>B≤b) V)(hb:AZ B w w'):Lies w' V:=h.fJ ho hb
theorem Own.above{α:Type}{w w':World}{base B E size:Nat}{enc:α→List Value}{v:Value}{xs:List α}(h:Own w base E size enc v xs)(hB:B≤base)(hb:AZ B w w'):Own w' base E size enc v xs:=by
 obtain⟨a,cap,hv,hle,hm,hh⟩:=h
 refine⟨a,cap,hv,hle,hm,?_⟩
 rcases hh with hh | ⟨g,cur,ha,hbg,hg,hr⟩
 ·exact .inl hh
 ·exact .inr ⟨g,cur,ha,hbg,(hb g (by omega)).trans hg,hr⟩
theorem vU.node{w w':World}{base B E:Nat}{a:Option Addr}{cap:Nat}{vs:List Vt}(h:vU w base E (.slice a vs.length cap) vs)(hon:∀ i (h:i<vs.length),On (fun b=>B≤b) vs[i])(hB:B≤base)(hb:AZ B w w')
  (k:Int) (s:aA) (lo hi:Int) (hk:I64 k) (hlo:I64 lo) (hhi:I64 hi):Lies w' (.mk k s a cap vs lo hi)∧On (fun b=>B≤b) (.mk k s a cap vs lo hi):=by
 refine⟨.mk k s a cap vs lo hi hk hlo hhi ((h.1.above hB hb).slice DZ) fun i hi=>(h.2.1 i hi).above (hon i hi) hb,.mk k s a cap vs lo hi (fun h0 ad ha=>?_) hon⟩
 obtain⟨g,hg,hbg,_⟩:=h.1.addr h0
 rw[hg] at ha
 obtain rfl:=Option.some.inj ha
 exact Nat.le_trans hB hbg
theorem Box.vV{w:World}{b E:Nat}{c:Array Value}(h:Box w b c E):w.frozen? ⟨b,0,none⟩=false∧w.frozen? ⟨b,1,none⟩=false∧w.frozen? ⟨b,2,none⟩=false∧w.frozen? ⟨b,3,none⟩=false∧w.frozen? ⟨b,4,none⟩=false∧w.frozen? ⟨b,5,none⟩=false∧w.frozen? ⟨b,6,none⟩=false∧w.frozen? ⟨b,7,none⟩=false :=
 ⟨h.free 0,h.free 1,h.free 2,h.free 3,h.free 4,h.free 5,h.free 6,h.free 7⟩
mutual
def sizeT:Tr→Nat
 | .mk _ _ l _ _=>1+pU l
def pU:List Tr→Nat
 | []=>0
 | a::l=>sizeT a+pU l
end
theorem ZC(A:Tr):1≤sizeT A:=by cases A;simp[sizeT]
theorem KT(l:List Tr):l.length≤pU l:=by
 induction l with
 | nil=>simp[pU]
 | cons a l ih=>have:=ZC a;simp[pU];omega
theorem XD(l:List Tr)(i:Nat)(h:i<l.length):sizeT l[i]≤pU l:=by
 induction l generalizing i with
 | nil=>simp at h
 | cons a l ih =>
  cases i with
  | zero=>simp[pU]
  | succ i=>have:=ih i (by simpa using h);simp[pU];omega
end
section
open Go.RowKit
def Nf.small(N:Nf):Prop:=N.links.length≤1099511627776∧N.edges.length≤1099511627776∧N.accept.length≤1099511627776
def Nf.le(A B:Nf):Prop:=A.links.length≤B.links.length∧A.edges.length≤B.edges.length∧A.accept.length≤B.accept.length
theorem Nf.le.refl(A:Nf):A.le A:=⟨Nat.le_refl _,Nat.le_refl _,Nat.le_refl _⟩
theorem Nf.le.trans{A B C:Nf}(h:A.le B)(k:B.le C):A.le C:=⟨Nat.le_trans h.1 k.1,Nat.le_trans h.2.1 k.2.1,Nat.le_trans h.2.2 k.2.2⟩
theorem Nf.le.small{A B:Nf}(h:A.le B)(k:B.small):A.small:=⟨Nat.le_trans h.1 k.1,Nat.le_trans h.2.1 k.2.1,Nat.le_trans h.2.2 k.2.2⟩
theorem Nf.iP(A:Nf)(k:Nat):A.le (A.state k):=⟨Nat.le_refl _,Nat.le_refl _,by simp[Nf.state]⟩
theorem Nf.iR(A:Nf)(a b:Nat):A.le (A.link a b):=⟨by simp[Nf.link],Nat.le_refl _,Nat.le_refl _⟩
theorem Nf.NR(A:Nf)(a:Nat)(s:aA)(b:Nat):A.le (A.edge a s b):=⟨Nat.le_refl _,by simp[Nf.edge],Nat.le_refl _⟩
theorem A8(f:Nf×Nat→Nf×Nat)(hf:∀ z:Nf×Nat,z.1.le (f z).1):∀ (n:Nat) (z:Nf×Nat),z.1.le (bV f n z).1
 | 0,z=>by rw[bV];exact .refl _
 | n+1,z=>by rw[bV];exact(hf z).trans (A8 f hf n _)
theorem uw(f:Nf×Nat→Nf×Nat):∀ n z,bV f (n+1) z=f (bV f n z)
 | 0,z=>by rw[bV,bV,bV]
 | n+1,z=>by rw[bV,uw f n,←bV]
theorem Jw(p:Bool)(f:Nf×Nat→Nf×Nat)(hf:∀ z:Nf×Nat,z.1.le (f z).1)(z:Nf×Nat):z.1.le (sS p f z).1:=by
 unfold sS
 dsimp only
 exact((Nf.iP z.1 0).trans (Nf.iR _ z.2 z.1.states)).trans ((hf ((z.1.state 0).link z.2 z.1.states,z.1.states)).trans (Nf.iR _ _ _))
theorem Jy(l:List Nat)(b:Nat):∀ (N:Nf),N.le (l.foldl (fun z e=>z.link e b) N):=by
 induction l with
 | nil=>intro N;exact .refl _
 | cons e l ih=>intro N;rw[List.foldl_cons];exact(Nf.iR _ _ _).trans (ih _)
mutual
theorem ou:∀ (t:Tr) (z:Nf×Nat),z.1.le (bG t z).1
 | .mk k s kids lo hi,(y,f)=>by
  rw[bG]
  split
  ·exact NS kids _
  split
  ·exact(NT kids y f []).trans ((Nf.iP _ _).trans (Jy _ _ _))
  split
  ·exact Jw _ _ (fun z=>sU kids z) _
  split
  ·exact(sU kids _).trans ((Nf.iP _ _).trans ((Nf.iR _ _ _).trans (Nf.iR _ _ _)))
  split
  ·split
   ·exact .refl _
   ·dsimp only
    have h1:=A8 (nM kids) (fun z=>sU kids z) lo.toNat (y,f)
    split
    ·exact h1.trans (Jw _ _ (fun z=>sU kids z) _)
    ·split
     ·exact h1
     ·exact h1.trans ((Nf.iP _ 0).trans ((A8 _ (fun z=>(Nf.iR _ _ _).trans (sU kids (_,_))) _ (_,_)).trans (Nf.iR _ _ _)))
  split
  ·exact .refl _
  split
  ·exact(Nf.iP _ 0).trans (Nf.NR _ _ _ _)
  ·exact Nf.iP _ 0
theorem sU:∀ (l:List Tr) (z:Nf×Nat),z.1.le (nM l z).1
 | [],z=>by rw[nM];exact .refl _
 | x::_,z=>by rw[nM];exact ou x z
theorem NS:∀ (l:List Tr) (z:Nf×Nat),z.1.le (jS l z).1
 | [],z=>by rw[jS];exact .refl _
 | x::l,z=>by rw[jS];exact(ou x z).trans (NS l _)
theorem NT:∀ (l:List Tr) (y:Nf) (f:Nat) (ends:List Nat),y.le (fZ l y f ends).1
 | [],y,_,_=>by rw[fZ];exact .refl _
 | x::l,y,f,ends=>by rw[fZ];exact(ou x (y,f)).trans (NT l _ f _)
end
theorem BZ:∀ (l m:List Tr) (z:Nf×Nat),jS (l++m) z=jS m (jS l z)
 | [],m,z=>by rw[List.nil_append,jS]
 | x::l,m,z=>by rw[List.cons_append,jS,jS,BZ l m]
theorem ZE(l:List Tr)(k:Nat)(h:k<l.length)(z:Nf×Nat):jS (l.take (k+1)) z=bG l[k] (jS (l.take k) z):=by
 rw[List.take_succ_eq_append_getElem h,BZ,jS,jS]
theorem QU(l:List Tr)(k:Nat)(z:Nf×Nat):(jS (l.take k) z).1.le (jS l z).1:=by
 conv=>rhs;rw[←List.take_append_drop k l]
 rw[BZ];exact NS _ _
theorem Cb:∀ (l m:List Tr) (y:Nf) (f:Nat) (ends:List Nat),fZ (l++m) y f ends=fZ m (fZ l y f ends).1 f (fZ l y f ends).2
 | [],m,y,f,ends=>by rw[List.nil_append,fZ]
 | x::l,m,y,f,ends=>by rw[List.cons_append,fZ,Cb l m,fZ]
theorem ZF(l:List Tr)(k:Nat)(h:k<l.length)(y:Nf)(f:Nat)(ends:List Nat) :
  fZ (l.take (k+1)) y f ends=((bG l[k] ((fZ (l.take k) y f ends).1,f)).1,(fZ (l.take k) y f ends).2++[(bG l[k] ((fZ (l.take k) y f ends).1,f)).2]):=by
 rw[List.take_succ_eq_append_getElem h,Cb,fZ,fZ]
theorem QV(l:List Tr)(k:Nat)(y:Nf)(f:Nat)(ends:List Nat):(fZ (l.take k) y f ends).1.le (fZ l y f ends).1:=by
 conv=>rhs;rw[←List.take_append_drop k l]
 rw[Cb];exact NT _ _ _ _
theorem Jz:∀ (l:List Tr) (y:Nf) (f:Nat) (ends:List Nat),(fZ l y f ends).2.length=ends.length+l.length
 | [],y,f,ends=>by rw[fZ];rfl
 | x::l,y,f,ends=>by rw[fZ,Jz l,List.length_append,List.length_cons];simp;omega
end
section
open Go.RowKit
def nX(z:Nf×Nat)(t:Tr):Nf×Nat:=(((bG t (z.1,0)).1.state (z.2+1)).link (bG t (z.1,0)).2 (bG t (z.1,0)).1.states,z.2+1)
def zZ:Nf:=(⟨0,[],[],[]⟩:Nf).state 0
def qY(l:List Tr):Nf×Nat:=l.foldl nX (zZ,0)
def um(l:List Tr):Nf:=(qY l).1
theorem QW(z:Nf×Nat)(t:Tr):z.1.le (nX z t).1:=(ou t (z.1,0)).trans ((Nf.iP _ _).trans (Nf.iR _ _ _))
theorem QX:∀ (l:List Tr) (z:Nf×Nat),z.1.le (l.foldl nX z).1
 | [],_=>.refl _
 | x::l,z=>(QW z x).trans (QX l _)
theorem ZG(l:List Tr)(k:Nat)(h:k<l.length):qY (l.take (k+1))=nX (qY (l.take k)) l[k]:=by
 unfold qY;rw[List.take_succ_eq_append_getElem h,List.foldl_append];rfl
theorem QY(l:List Tr)(k:Nat):(qY (l.take k)).1.le (qY l).1:=by
 unfold qY
 conv=>rhs;rw[←List.take_append_drop k l]
 rw[List.foldl_append];exact QX _ _
theorem acJ(l:List Tr):(qY l).2=l.length:=by
 have:∀ (l:List Tr) (z:Nf×Nat),(l.foldl nX z).2=z.2+l.length:=by
  intro l
  induction l with
  | nil=>intro z;rfl
  | cons x l ih=>intro z;rw[List.foldl_cons,ih,List.length_cons,nX];dsimp only;omega
 unfold qY;rw[this];simp
structure Nf.wf(N:Nf):Prop where
 st:N.states=N.accept.length
 links:∀ x∈N.links,x.1<N.states∧x.2<N.states
 edges:∀ x∈N.edges,x.1<N.states∧x.2.2<N.states
 accept:∀ x∈N.accept,x≤64
def Nf.ok(z:Nf×Nat):Prop:=z.1.wf∧z.2<z.1.states
theorem Nf.wf.state{N:Nf}(h:N.wf){k:Nat}(hk:k≤64):(N.state k).wf:=by
 refine⟨?_,fun x hx=>?_,fun x hx=>?_,fun x hx=>?_⟩
 ·simp[Nf.state,h.st]
 ·have:=h.links x hx;simp only[Nf.state];omega
 ·have:=h.edges x hx;simp only[Nf.state];omega
 ·rcases List.mem_append.1 hx with hx | hx
  ·exact h.accept x hx
  ·simp at hx;omega
theorem Nf.wf.link{N:Nf}(h:N.wf){a b:Nat}(ha:a<N.states)(hb:b<N.states):(N.link a b).wf:=by
 refine⟨h.st,fun x hx=>?_,h.edges,h.accept⟩
 rcases List.mem_append.1 hx with hx | hx
 ·exact h.links x hx
 ·simp at hx;subst hx;exact⟨ha,hb⟩
theorem Nf.wf.edge{N:Nf}(h:N.wf){a b:Nat}{s:aA}(ha:a<N.states)(hb:b<N.states):(N.edge a s b).wf:=by
 refine⟨h.st,h.links,fun x hx=>?_,h.accept⟩
 rcases List.mem_append.1 hx with hx | hx
 ·exact h.edges x hx
 ·simp at hx;subst hx;exact⟨ha,hb⟩
theorem Nf.wf.yF{A B:Nf}(h:A.wf)(k:B.wf)(l:A.le B):A.states≤B.states:=by rw[h.st,k.st];exact l.2.2
theorem OT(f:Nf×Nat→Nf×Nat)(hf:∀ z,Nf.ok z→Nf.ok (f z)):∀ (n:Nat) (z:Nf×Nat),Nf.ok z→Nf.ok (bV f n z)
 | 0,z,h=>by rw[bV];exact h
 | n+1,z,h=>by rw[bV];exact OT f hf n _ (hf z h)
theorem QZ(p:Bool)(f:Nf×Nat→Nf×Nat)(hf:∀ z,Nf.ok z→Nf.ok (f z))(hm:∀ z:Nf×Nat,z.1.le (f z).1)(z:Nf×Nat)(h:Nf.ok z):Nf.ok (sS p f z):=by
 unfold sS
 dsimp only
 have h0:((z.1.state 0).link z.2 z.1.states).wf:=(h.1.state (by omega)).link (by simp only[Nf.state];have:=h.2;omega) (by simp only[Nf.state];omega)
 have h1:=hf ((z.1.state 0).link z.2 z.1.states,z.1.states) ⟨h0,by simp only[Nf.state,Nf.link];omega⟩
 have h2:=h0.yF h1.1 (hm ((z.1.state 0).link z.2 z.1.states,z.1.states))
 generalize f ((z.1.state 0).link z.2 z.1.states,z.1.states)=A at *
 simp only[Nf.state,Nf.link] at h2
 refine⟨h1.1.link h1.2 (by omega),?_⟩
 show(if p=true then A.2 else z.1.states)<A.1.states
 split
 ·exact h1.2
 ·omega
theorem acK(l:List Nat)(b:Nat):∀ (N:Nf),N.wf→b<N.states→(∀ x∈l,x<N.states)→(l.foldl (fun z e=>z.link e b) N).wf∧(l.foldl (fun z e=>z.link e b) N).states=N.states:=by
 induction l with
 | nil=>intro N h _ _;exact⟨h,rfl⟩
 | cons e l ih =>
  intro N h hb hl
  rw[List.foldl_cons]
  exact ih (N.link e b) (h.link (hl e (by simp)) hb) hb fun x hx=>hl x (by simp[hx])
mutual
theorem Hq:∀ (t:Tr) (z:Nf×Nat),Nf.ok z→Nf.ok (bG t z)
 | .mk k s kids lo hi,(y,f),h=>by
  rw[bG]
  split
  ·exact VO kids _ h
  split
  ·obtain⟨h1,h2⟩:=VP kids y f [] h (by simp)
   dsimp only
   generalize fZ kids y f []=A at *
   obtain⟨h3,h4⟩:=acK A.2 A.1.states (A.1.state 0) (h1.state (by omega)) (by simp only[Nf.state];omega) (fun x hx=>by have:=h2 x hx;simp only[Nf.state];omega)
   exact⟨h3,by rw[h4];simp only[Nf.state];omega⟩
  split
  ·exact QZ _ _ (fun z=>CY kids z) (fun z=>sU kids z) _ h
  split
  ·have h1:=CY kids (y,f) h
   have h2:=h.1.yF h1.1 (sU kids (y,f))
   dsimp only at h2 ⊢
   generalize nM kids (y,f)=A at *
   have hf:f<y.states:=h.2
   exact⟨(((h1.1.state (by omega)).link (by simp only[Nf.state];have:=h1.2;omega) (by simp only[Nf.state];omega))).link (by simp only[Nf.state,Nf.link];omega) (by simp only[Nf.state,Nf.link];omega),by simp only[Nf.state,Nf.link];omega⟩
  split
  ·split
   ·exact h
   ·dsimp only
    have h1:=OT (nM kids) (fun z=>CY kids z) lo.toNat (y,f) h
    generalize bV (nM kids) lo.toNat (y,f)=Z at *
    split
    ·exact QZ _ _ (fun z=>CY kids z) (fun z=>sU kids z) _ h1
    ·split
     ·exact h1
     ·have h0:(Z.1.state 0).wf:=h1.1.state (by omega)
      have key:∀ (n:Nat) (z:Nf×Nat),Nf.ok z→Z.1.states<z.1.states→Nf.ok (bV (fun z=>nM kids (z.1.link z.2 Z.1.states,z.2)) n z)∧Z.1.states<(bV (fun z=>nM kids (z.1.link z.2 Z.1.states,z.2)) n z).1.states:=by
       intro n
       induction n with
       | zero=>intro z hz hs;rw[bV];exact⟨hz,hs⟩
       | succ n ih =>
        intro z hz hs
        rw[bV]
        have h2:=CY kids (z.1.link z.2 Z.1.states,z.2) ⟨hz.1.link hz.2 hs,hz.2⟩
        have h3:=(hz.1.link hz.2 hs).yF h2.1 (sU kids (z.1.link z.2 Z.1.states,z.2))
        exact ih _ h2 (by simp only[Nf.link] at h3 ⊢;omega)
      obtain⟨h2,h3⟩:=key (hi - lo).toNat (Z.1.state 0,Z.2) ⟨h0,by have:=h1.2;simp only[Nf.state];omega⟩ (by simp only[Nf.state];omega)
      exact⟨h2.1.link h2.2 h3,h3⟩
  split
  ·exact h
  split
  ·have hf:f<y.states:=h.2
   exact⟨(h.1.state (by omega)).edge (by simp only[Nf.state];omega) (by simp only[Nf.state];omega),by simp only[Nf.state,Nf.edge];omega⟩
  ·exact⟨h.1.state (by omega),by simp only[Nf.state];omega⟩
theorem CY:∀ (l:List Tr) (z:Nf×Nat),Nf.ok z→Nf.ok (nM l z)
 | [],z,h=>by rw[nM];exact h
 | x::_,z,h=>by rw[nM];exact Hq x z h
theorem VO:∀ (l:List Tr) (z:Nf×Nat),Nf.ok z→Nf.ok (jS l z)
 | [],z,h=>by rw[jS];exact h
 | x::l,z,h=>by rw[jS];exact VO l _ (Hq x z h)
theorem VP:∀ (l:List Tr) (y:Nf) (f:Nat) (ends:List Nat),Nf.ok (y,f)→(∀ x∈ends,x<y.states)→(fZ l y f ends).1.wf∧∀ x∈(fZ l y f ends).2,x<(fZ l y f ends).1.states
 | [],y,_,ends,h,he=>by rw[fZ];exact⟨h.1,he⟩
 | x::l,y,f,ends,h,he=>by
  rw[fZ]
  have h1:=Hq x (y,f) h
  have h2:=h.1.yF h1.1 (ou x (y,f))
  have hf:f<y.states:=h.2
  refine VP l _ f _ ⟨h1.1,by show f<(bG x (y,f)).1.states;dsimp only at h2;omega⟩ fun e he'=>?_
  rcases List.mem_append.1 he' with he' | he'
  ·have:=he e he';dsimp only at h2;omega
  ·simp at he';subst he';exact h1.2
end
theorem agq(l:List Tr)(hl:l.length≤64):(qY l).1.wf∧0<(qY l).1.states:=by
 have:∀ (l:List Tr) (z:Nf×Nat),z.1.wf→0<z.1.states→z.2+l.length≤64→(l.foldl nX z).1.wf∧0<(l.foldl nX z).1.states:=by
  intro l
  induction l with
  | nil=>intro z h1 h2 _;exact⟨h1,h2⟩
  | cons x l ih =>
   intro z h1 h2 h3
   rw[List.length_cons] at h3
   rw[List.foldl_cons]
   have g1:=Hq x (z.1,0) ⟨h1,h2⟩
   have g2:(nX z x).1.wf:=by
    unfold nX
    exact(g1.1.state (by omega)).link (by simp only[Nf.state];have:=g1.2;omega) (by simp only[Nf.state];omega)
   exact ih _ g2 (by have:=h1.yF g2 (QW z x);omega) (by unfold nX;dsimp only;omega)
 exact this l (zZ,0) ⟨rfl,by simp[zZ,Nf.state],by simp[zZ,Nf.state],by simp[zZ,Nf.state]⟩ (by simp[zZ,Nf.state]) (by simpa using hl)
end
section
open Go.RowKit
theorem Q5:(Tryz.prog.info? 22).map (fun i=>(i.zero,i.size))=some (some (.agg (aP fun _=>0)),256):=by kernel_rfl
theorem kE(w:World):(zeroValue 22).run Tryz.prog w=.ok (.agg (aP fun _=>0)) w:=(zero_of_info Q5).1 w
theorem aV(f:Nat→Nat):(Tryz.prog.info? 22).map (·.size)=some (aP f).size:=by rw[aT];exact(zero_of_info Q5).2
theorem JA:sK Tryz.prog 4 (fun n:Bool=>Value.bool n):=Xt Tryz.underlying4
theorem UZ(k:Nat→Bool)(w:World)
  (hkey:∀ b:Nat,b<256→∀ w',Below w.heap.size w w'→Calls Tryz.prog 236 #[.int .i64 b] w' (bM w' (.bool (k b)))) :
  Calls Tryz.prog 235 #[.func (.func 236) #[] #[]] w (bM w (.tuple #[.agg (aP (bg (aX k))),.int .i64 (iO (aX k):Nat)])):=by
 have E:=o7 k
 have hz:=kE
 have hmm:=@run_makeMap Tryz.prog
 have HK:=ah hkey
 clear hkey
 generalize hR:aX k=R at *
 have HR:=ah hR
 clear hR
 go_enter Tryz.func235,Tryz.ntmps235
 go_wp2
 go_loopw [11] (fun i wr=>∃ n:Nat,n≤256∧i=.int .i64 n∧Box wr w.heap.size (aP fun _=>0) 22∧Box wr (w.heap.size+1) (aP fun b=>if b<n then bg R b else 0) 22∧aK wr (w.heap.size+1+1) (fun n:Bool=>Value.bool n) (qJ k (aJ R n))∧Below w.heap.size w wr) (fun i _=>256 - (intOf i).toNat)
 case atStart =>
  refine⟨0,Nat.zero_le _,rfl,((Box.new' rfl _ _).alloc _).alloc _,?_,?_,by go_grown⟩
  ·rw[dY (g:=fun _=>0) (fun i _=>by simp)];exact(Box.new' (World.size_alloc _ _).symm _ _).alloc _
  ·rw[DV];refine aK.new' ?_ _;simp
 case round =>
  obtain⟨n,hn,rfl,hb0,hb1,hm,hB⟩:=hrel
  by_cases hlt:n<256
  ·have hlook:=DU k n (aJ R n)
   rw[HR.out] at hlook
   have hlen:=jW R n
   cases hany:(aJ R n).any (R n) with
   | true =>
    obtain⟨e1,e2⟩:=Ju E.refl hlt hany
    rw[e2] at hlook
    have HL:=ah hlook
    have HE:=ah e1
    clear hlook e1 e2 hany
    go_wp2_with (go_at_call 236;go_must (refine(HK.out n hlt _ hB).mono ?_;rintro e w1 ⟨rfl,hb⟩;have hB1:=(hB.trans (hb.mono hB.size));have hx0:=(hb0.kept hb);have hx1:=(hb1.kept hb);have hm1:=(hm.kept hb);have hrun:=hm1.qR JA Tryz.underlying351 (Tryz.zeroValue5 _) (k n);rw[HL.out] at hrun;have hc:=(hx1.cell n).trans (dX _ n hlt);have hf:=hx1.free n))
    go_roundw
    case rel =>
     refine⟨n+1,hlt,by go_num,hx0.other _ _ (by simp),?_,?_,by go_grown⟩
     ·have:=hx1.set n (.int .u8 (bg R n:Nat))
      rw[uQ,dY (g:=fun b=>if b<n+1 then bg R b else 0) (qj rfl)] at this
      exact this
     ·rw[HE.out];exact hm1.other _ _ (by simp)
    case measure=>simp[intOf];omega
   | false =>
    obtain⟨e1,e2⟩:=Jt E.refl hlt hany
    rw[yD hany] at hlook
    have HL:=ah hlook
    have HE:=ah e1
    have HN:=ah e2
    clear hlook e1 e2 hany
    go_wp2_with (go_at_call 236;go_must (refine(HK.out n hlt _ hB).mono ?_;rintro e w1 ⟨rfl,hb⟩;have hB1:=(hB.trans (hb.mono hB.size));have hx0:=(hb0.kept hb);have hx1:=(hb1.kept hb);have hm1:=(hm.kept hb);have hrun:=hm1.qR JA Tryz.underlying351 (Tryz.zeroValue5 _) (k n);rw[HL.out] at hrun;have hlen1:=hm1.zQ Tryz.underlying351 3 _ (oq k (aJ R n));obtain⟨w2,hput,hm2,hoth,hsz2,hbel⟩:=hm1.sN JA Tryz.underlying351 (k n) (.int .u8 ((aJ R n).length:Nat));have hy0:=hx0.turn hoth (by omega);have hy1:=hx1.turn hoth (by omega);have hB2:=hB1.trans (hbel w.heap.size (by omega));have hlk:look (k n) (qJ k (aJ R n))=none:=HL.out;rw[kV _ _ _ hlk,←DT] at hm2;have hc:=(hy1.cell n).trans (dX _ n hlt);have hf:=hy1.free n;have hconv:=nI (aJ R n).length (by omega); clear hoth hbel hsz2 hlk))
    go_roundw
    case rel =>
     refine⟨n+1,hlt,by go_num,hy0.other _ _ (by simp),?_,?_,by go_grown⟩
     ·have:=hy1.set n (.int .u8 ((aJ R n).length:Nat))
      rw[uQ,dY (g:=fun b=>if b<n+1 then bg R b else 0) (qj HN.out)] at this
      exact this
     ·rw[HE.out];exact hm2.other _ _ (by simp)
    case measure=>simp[intOf];omega
  ·obtain rfl:n=256:=by omega
   have hlen1:=hm.zQ Tryz.underlying351 3 _ (oq k (aJ R 256))
   rw[dY (g:=bg R) (fun i hi=>if_pos hi)] at hb1
   go_wp2_with (first | (refine wpList_load_row rfl 22 (.tmp 4) rfl (w.heap.size+1) rfl _ _ _ _ hb1 Tryz.underlying22 rfl (aV _) ?_) | (refine wpList_store_row rfl 22 (.tmp 2) (.tmp 35) rfl w.heap.size _ rfl rfl _ _ hb0 (aV _) (by rw[aT,aT]) (gX _) ?_))
   refine gy Tryz.results235 rfl rfl (hb0.setRow _) Tryz.underlying22 rfl (aV _) rfl ⟨?_,below_setRow hB (Nat.le_refl _) _⟩
   rw[nJ];rfl
theorem Q7:sK Tryz.prog 5 (fun n:Int=>Value.int .u8 n):=OH Tryz.underlying5
theorem ZH(k:Nat→Int)(p:Value)(w:World)
  (hkey:∀ b:Nat,b<256→∀ w',Below w.heap.size w w'→Calls Tryz.prog 166 #[.int .i64 b,p] w' (bM w' (.int .u8 (k b)))) :
  Calls Tryz.prog 165 #[.func (.func 166) #[] #[p]] w (bM w (.tuple #[.agg (aP (bg (aX k))),.int .i64 (iO (aX k):Nat)])):=by
 have E:=o7 k
 have hz:=kE
 have hmm:=@run_makeMap Tryz.prog
 have HK:=ah hkey
 clear hkey
 generalize hR:aX k=R at *
 have HR:=ah hR
 clear hR
 go_enter Tryz.func165,Tryz.ntmps165
 go_wp2
 go_loopw [11] (fun i wr=>∃ n:Nat,n≤256∧i=.int .i64 n∧Box wr w.heap.size (aP fun _=>0) 22∧Box wr (w.heap.size+1) (aP fun b=>if b<n then bg R b else 0) 22∧aK wr (w.heap.size+1+1) (fun n:Int=>Value.int .u8 n) (qJ k (aJ R n))∧Below w.heap.size w wr) (fun i _=>256 - (intOf i).toNat)
 case atStart =>
  refine⟨0,Nat.zero_le _,rfl,((Box.new' rfl _ _).alloc _).alloc _,?_,?_,by go_grown⟩
  ·rw[dY (g:=fun _=>0) (fun i _=>by simp)];exact(Box.new' (World.size_alloc _ _).symm _ _).alloc _
  ·rw[DV];refine aK.new' ?_ _;simp
 case round =>
  obtain⟨n,hn,rfl,hb0,hb1,hm,hB⟩:=hrel
  by_cases hlt:n<256
  ·have hlook:=DU k n (aJ R n)
   rw[HR.out] at hlook
   have hlen:=jW R n
   cases hany:(aJ R n).any (R n) with
   | true =>
    obtain⟨e1,e2⟩:=Ju E.refl hlt hany
    rw[e2] at hlook
    have HL:=ah hlook
    have HE:=ah e1
    clear hlook e1 e2 hany
    go_wp2_with (go_at_call 166;go_must (refine(HK.out n hlt _ hB).mono ?_;rintro e w1 ⟨rfl,hb⟩;have hB1:=(hB.trans (hb.mono hB.size));have hx0:=(hb0.kept hb);have hx1:=(hb1.kept hb);have hm1:=(hm.kept hb);have hrun:=hm1.qR Q7 Tryz.underlying300 (Tryz.zeroValue5 _) (k n);rw[HL.out] at hrun;have hc:=(hx1.cell n).trans (dX _ n hlt);have hf:=hx1.free n))
    go_roundw
    case rel =>
     refine⟨n+1,hlt,by go_num,hx0.other _ _ (by simp),?_,?_,by go_grown⟩
     ·have:=hx1.set n (.int .u8 (bg R n:Nat))
      rw[uQ,dY (g:=fun b=>if b<n+1 then bg R b else 0) (qj rfl)] at this
      exact this
     ·rw[HE.out];exact hm1.other _ _ (by simp)
    case measure=>simp[intOf];omega
   | false =>
    obtain⟨e1,e2⟩:=Jt E.refl hlt hany
    rw[yD hany] at hlook
    have HL:=ah hlook
    have HE:=ah e1
    have HN:=ah e2
    clear hlook e1 e2 hany
    go_wp2_with (go_at_call 166;go_must (refine(HK.out n hlt _ hB).mono ?_;rintro e w1 ⟨rfl,hb⟩;have hB1:=(hB.trans (hb.mono hB.size));have hx0:=(hb0.kept hb);have hx1:=(hb1.kept hb);have hm1:=(hm.kept hb);have hrun:=hm1.qR Q7 Tryz.underlying300 (Tryz.zeroValue5 _) (k n);rw[HL.out] at hrun;have hlen1:=hm1.zQ Tryz.underlying300 3 _ (oq k (aJ R n));obtain⟨w2,hput,hm2,hoth,hsz2,hbel⟩:=hm1.sN Q7 Tryz.underlying300 (k n) (.int .u8 ((aJ R n).length:Nat));have hy0:=hx0.turn hoth (by omega);have hy1:=hx1.turn hoth (by omega);have hB2:=hB1.trans (hbel w.heap.size (by omega));have hlk:look (k n) (qJ k (aJ R n))=none:=HL.out;rw[kV _ _ _ hlk,←DT] at hm2;have hc:=(hy1.cell n).trans (dX _ n hlt);have hf:=hy1.free n;have hconv:=nI (aJ R n).length (by omega); clear hoth hbel hsz2 hlk))
    go_roundw
    case rel =>
     refine⟨n+1,hlt,by go_num,hy0.other _ _ (by simp),?_,?_,by go_grown⟩
     ·have:=hy1.set n (.int .u8 ((aJ R n).length:Nat))
      rw[uQ,dY (g:=fun b=>if b<n+1 then bg R b else 0) (qj HN.out)] at this
      exact this
     ·rw[HE.out];exact hm2.other _ _ (by simp)
    case measure=>simp[intOf];omega
  ·obtain rfl:n=256:=by omega
   have hlen1:=hm.zQ Tryz.underlying300 3 _ (oq k (aJ R 256))
   rw[dY (g:=bg R) (fun i hi=>if_pos hi)] at hb1
   go_wp2_with (first | (refine wpList_load_row rfl 22 (.tmp 4) rfl (w.heap.size+1) rfl _ _ _ _ hb1 Tryz.underlying22 rfl (aV _) ?_) | (refine wpList_store_row rfl 22 (.tmp 2) (.tmp 35) rfl w.heap.size _ rfl rfl _ _ hb0 (aV _) (by rw[aT,aT]) (gX _) ?_))
   refine gy Tryz.results165 rfl rfl (hb0.setRow _) Tryz.underlying22 rfl (aV _) rfl ⟨?_,below_setRow hB (Nat.le_refl _) _⟩
   rw[nJ];rfl
end
section
open Go.RowKit
theorem Q8:sK Tryz.prog 100 (BQ .i64):=by
 obtain⟨i,hi,_,hs,_⟩:=info_parts (P:=Tryz.prog) (e:=3) (z:=.int .i64 0) (size:=1) (bytes:=8) (by kernel_rfl)
 exact Xu Tryz.underlying100 Tryz.underlying3 hi (by kernel_rfl) hs
theorem ZI(k:Nat→Int×Int)(p q:Value)(w:World)
  (hkey:∀ b:Nat,b<256→∀ w',Below w.heap.size w w'→Calls Tryz.prog 238 #[.int .i64 b,p,q] w' (bM w' (BQ .i64 (k b)))) :
  Calls Tryz.prog 237 #[.func (.func 238) #[] #[p,q]] w (bM w (.tuple #[.agg (aP (bg (aX k))),.int .i64 (iO (aX k):Nat)])):=by
 have E:=o7 k
 have hz:=kE
 have hmm:=@run_makeMap Tryz.prog
 have HK:=ah hkey
 clear hkey
 generalize hR:aX k=R at *
 have HR:=ah hR
 clear hR
 go_enter Tryz.func237,Tryz.ntmps237
 go_wp2
 go_loopw [11] (fun i wr=>∃ n:Nat,n≤256∧i=.int .i64 n∧Box wr w.heap.size (aP fun _=>0) 22∧Box wr (w.heap.size+1) (aP fun b=>if b<n then bg R b else 0) 22∧aK wr (w.heap.size+1+1) (BQ .i64) (qJ k (aJ R n))∧Below w.heap.size w wr) (fun i _=>256 - (intOf i).toNat)
 case atStart =>
  refine⟨0,Nat.zero_le _,rfl,((Box.new' rfl _ _).alloc _).alloc _,?_,?_,by go_grown⟩
  ·rw[dY (g:=fun _=>0) (fun i _=>by simp)];exact(Box.new' (World.size_alloc _ _).symm _ _).alloc _
  ·rw[DV];refine aK.new' ?_ _;simp
 case round =>
  obtain⟨n,hn,rfl,hb0,hb1,hm,hB⟩:=hrel
  by_cases hlt:n<256
  ·have hlook:=DU k n (aJ R n)
   rw[HR.out] at hlook
   have hlen:=jW R n
   cases hany:(aJ R n).any (R n) with
   | true =>
    obtain⟨e1,e2⟩:=Ju E.refl hlt hany
    rw[e2] at hlook
    have HL:=ah hlook
    have HE:=ah e1
    clear hlook e1 e2 hany
    go_wp2_with (go_at_call 238;go_must (refine(HK.out n hlt _ hB).mono ?_;rintro e w1 ⟨rfl,hb⟩;have hB1:=Below.alloc (hB.trans (hb.mono hB.size)) (by have:=hb0.lt;have:=hb.size;omega) (.cells #[.int .i64 (k n).1,.int .i64 (k n).2] 100);have hx0:=(hb0.kept hb).alloc (.cells #[.int .i64 (k n).1,.int .i64 (k n).2] 100);have hx1:=(hb1.kept hb).alloc (.cells #[.int .i64 (k n).1,.int .i64 (k n).2] 100);have hm1:=(hm.kept hb).alloc (.cells #[.int .i64 (k n).1,.int .i64 (k n).2] 100);have hrun:=hm1.qR Q8 Tryz.underlying352 (Tryz.zeroValue5 _) (k n);rw[HL.out] at hrun;have hc:=(hx1.cell n).trans (dX _ n hlt);have hf:=hx1.free n))
    go_roundw
    case rel =>
     refine⟨n+1,hlt,by go_num,hx0.other _ _ (by simp),?_,?_,by go_grown⟩
     ·have:=hx1.set n (.int .u8 (bg R n:Nat))
      rw[uQ,dY (g:=fun b=>if b<n+1 then bg R b else 0) (qj rfl)] at this
      exact this
     ·rw[HE.out];exact hm1.other _ _ (by simp)
    case measure=>simp[intOf];omega
   | false =>
    obtain⟨e1,e2⟩:=Jt E.refl hlt hany
    rw[yD hany] at hlook
    have HL:=ah hlook
    have HE:=ah e1
    have HN:=ah e2
    clear hlook e1 e2 hany
    go_wp2_with (go_at_call 238;go_must (refine(HK.out n hlt _ hB).mono ?_;rintro e w1 ⟨rfl,hb⟩;have hB1:=Below.alloc (hB.trans (hb.mono hB.size)) (by have:=hb0.lt;have:=hb.size;omega) (.cells #[.int .i64 (k n).1,.int .i64 (k n).2] 100);have hx0:=(hb0.kept hb).alloc (.cells #[.int .i64 (k n).1,.int .i64 (k n).2] 100);have hx1:=(hb1.kept hb).alloc (.cells #[.int .i64 (k n).1,.int .i64 (k n).2] 100);have hm1:=(hm.kept hb).alloc (.cells #[.int .i64 (k n).1,.int .i64 (k n).2] 100);have hrun:=hm1.qR Q8 Tryz.underlying352 (Tryz.zeroValue5 _) (k n);rw[HL.out] at hrun;have hlen1:=hm1.zQ Tryz.underlying352 3 _ (oq k (aJ R n));obtain⟨w2,hput,hm2,hoth,hsz2,hbel⟩:=hm1.sN Q8 Tryz.underlying352 (k n) (.int .u8 ((aJ R n).length:Nat));have hy0:=hx0.turn hoth (by omega);have hy1:=hx1.turn hoth (by omega);have hB2:=hB1.trans (hbel w.heap.size (by omega));have hlk:look (k n) (qJ k (aJ R n))=none:=HL.out;rw[kV _ _ _ hlk,←DT] at hm2;have hc:=(hy1.cell n).trans (dX _ n hlt);have hf:=hy1.free n;have hconv:=nI (aJ R n).length (by omega);have arb:=((Box.new w1 #[.int .i64 (k n).1,.int .i64 (k n).2] 100).turn hoth (by have:=hm.lt;have:=hb.size;omega)).cell 0;have ard:=((Box.new w1 #[.int .i64 (k n).1,.int .i64 (k n).2] 100).turn hoth (by have:=hm.lt;have:=hb.size;omega)).cell 1;clear hoth hbel hsz2 hlk))
    go_roundw
    case rel =>
     refine⟨n+1,hlt,by go_num,hy0.other _ _ (by simp),?_,?_,by go_grown⟩
     ·have:=hy1.set n (.int .u8 ((aJ R n).length:Nat))
      rw[uQ,dY (g:=fun b=>if b<n+1 then bg R b else 0) (qj HN.out)] at this
      exact this
     ·rw[HE.out];exact hm2.other _ _ (by simp)
    case measure=>simp[intOf];omega
  ·obtain rfl:n=256:=by omega
   have hlen1:=hm.zQ Tryz.underlying352 3 _ (oq k (aJ R 256))
   rw[dY (g:=bg R) (fun i hi=>if_pos hi)] at hb1
   go_wp2_with (first | (refine wpList_load_row rfl 22 (.tmp 4) rfl (w.heap.size+1) rfl _ _ _ _ hb1 Tryz.underlying22 rfl (aV _) ?_) | (refine wpList_store_row rfl 22 (.tmp 2) (.tmp 35) rfl w.heap.size _ rfl rfl _ _ hb0 (aV _) (by rw[aT,aT]) (gX _) ?_))
   refine gy Tryz.results237 rfl rfl (hb0.setRow _) Tryz.underlying22 rfl (aV _) rfl ⟨?_,below_setRow hB (Nat.le_refl _) _⟩
   rw[nJ];rfl
end
section
open Go.RowKit
theorem JB(s:aA)(x:Nat)(w:World)(hx:x<256) :
  Calls Tryz.prog 239 #[oh s,.int .u8 x] w (bM w (.bool (mem s x))):=by
 have hxi:=yA s (x / 64) (by omega)
 have hz:=word_lt s (x / 64)
 go_enter Tryz.func239,Tryz.ntmps239
 go_wp2
 go_ret
 exact⟨congrArg (fun b=>Ending.returned (.bool b)) ((and_one _ _ hz).trans (DJ s x).symm),by go_grown⟩
theorem VQ(a:Option Addr)(cap:Nat)(xs:List Nat)(w:World)(h:ak w (.slice a xs.length cap) 1 (fun x:Nat=>[.int .u8 x]) xs)(hx:∀ x∈xs,x<256) :
  Calls Tryz.prog 200 #[.slice a xs.length cap] w (bM w (oh (uT xs))):=by
 obtain⟨b,o,hlen,hcap,hcap',ha,hcell⟩:=h.open
 clear hlen h
 go_enter Tryz.func200,Tryz.ntmps200
 go_wp2
 go_loopw [8] (fun i wr=>∃ k:Nat,k≤xs.length∧i=.int .i64 k∧Box wr w.heap.size (eY 0) 149∧Box wr (w.heap.size+1) (eY (uT (xs.take k))) 149∧Below w.heap.size w wr) (fun i _=>xs.length - (intOf i).toNat)
 case atStart =>
  refine⟨0,Nat.zero_le _,rfl,?_,?_,by go_grown⟩
  ·rw[lI];exact(Box.new' rfl _ _).alloc _
  ·rw[List.take_zero,show uT []=0 from rfl,lI];exact Box.new' (World.size_alloc _ _).symm _ _
 case round =>
  obtain⟨k,hk,rfl,hb0,hb1,hB⟩:=hrel
  by_cases hlt:k<xs.length
  ·obtain rfl:=ha k hlt
   have hxk:=hx xs[k] (List.getElem_mem hlt)
   have hc:wr.cell? ⟨b,o+k,none⟩=some (.int .u8 (xs[k]:Nat)):=by
    have:=hcell k hlt 0 _ rfl
    rw[hB.cell (World.block_lt_of_cell? w _ (by simpa using this))];simpa using this
   have e1:wr.cell? ⟨w.heap.size+1,xs[k] / 64,none⟩=some (.int .u64 (word (uT (xs.take k)) (xs[k] / 64):Nat)):=by
    rw[hb1.cell];simpa using yA _ _ (by omega)
   have e2:=hb1.free (xs[k] / 64)
   have e3:uT (xs.take (k+1))=nU (uT (xs.take k)) xs[k]:=by rw[List.take_succ_eq_append_getElem hlt,acr]
   have e4:=ah e3
   clear e3 ha hcell hx
   generalize xs[k]=x at *
   have hw:=word_lt (uT (xs.take k)) (x / 64)
   go_wp2
   go_roundw
   case rel =>
    refine⟨k+1,hlt,by go_num,hb0.other _ _ (by simp),?_,by go_grown⟩
    rw[e4.out,or_bit _ _ hw (Nat.mod_lt _ (by decide)),←KF _ _ hxk]
    exact hb1.set _ _
   case measure=>simp[intOf];omega
  ·have hke:k=xs.length:=by omega
   subst hke
   obtain⟨⟨p0,p1,p2,p3⟩,⟨q0,q1,q2,q3⟩⟩:=hb0.BP
   obtain⟨⟨r0,r1,r2,r3⟩,_⟩:=hb1.BP
   rw[List.take_length] at r0 r1 r2 r3
   clear hb1 ha hcell
   go_wp2
   exact fU Tryz.results200 rfl (hb0.zW rfl _ _ _ _) Tryz.underlying149 rfl (by kernel_rfl) rfl ⟨rfl,by go_grown⟩
theorem VR(s:aA)(x:Nat)(w:World)(hx:x<256) :
  Calls Tryz.prog 205 #[oh s,.int .i64 x] w (bM w (.bool (mem s x))):=by
 have hxi:=yA s (x / 64) (by omega)
 have hz:=word_lt s (x / 64)
 go_enter Tryz.func205,Tryz.ntmps205
 go_wp2
 go_ret
 exact⟨congrArg (fun b=>Ending.returned (.bool b)) ((and_one _ _ hz).trans (DJ s x).symm),by go_grown⟩
theorem acL(s:aA)(x:Nat)(w:World)(hx:x<256) :
  Calls Tryz.prog 204 #[oh s,.int .i64 x] w (bM w (oh (nU s x))):=by
 have hxi:=yA s (x / 64) (by omega)
 have hst:=Xr s x hx
 go_enter Tryz.func204,Tryz.ntmps204
 go_wp2
 exact fU Tryz.results204 rfl (Box.new' (World.size_alloc _ _).symm _ _) Tryz.underlying149 rfl (by kernel_rfl) rfl ⟨rfl,by go_grown⟩
end
section
open Go.RowKit
def RL(l:List aA)(b c:Nat):Bool:=l.all fun s=>mem s b==mem s c
theorem agr(l:List aA):yT (RL l):=by
 refine⟨fun b=>by simp[RL],fun{b c} h=>?_,fun{b c d} h k=>?_⟩ <;> simp only[RL,List.all_eq_true,beq_iff_eq] at *
 ·exact fun s hs=>(h s hs).symm
 ·exact fun s hs=>(h s hs).trans (k s hs)
theorem VT(l:List aA)(s:aA)(b c:Nat):RL (l++[s]) b c=(RL l b c&&(mem s b==mem s c)):=by simp[RL]
def yG(R:Nat→Nat→Bool)(s:aA)(b:Nat):Int×Int:=((bg R b:Nat),if mem s b then 1 else 0)
theorem Iz{R:Nat→Nat→Bool}(E:yT R)(s:aA){b c:Nat}(hb:b<256)(hc:c<256):aX (yG R s) b c=(R b c&&(mem s b==mem s c)):=by
 rw[Bool.eq_iff_iff]
 simp only[aX,yG,decide_eq_true_eq,Prod.mk.injEq,Bool.and_eq_true,beq_iff_eq]
 rw[show(((bg R b:Nat):Int)=((bg R c:Nat):Int))↔bg R b=bg R c by omega,Ho E hb hc]
 cases mem s b <;> cases mem s c <;> simp
theorem ZJ(b:Nat)(w:World):Calls Tryz.prog 236 #[.int .i64 b] w (bM w (.bool true)):=by
 go_enter Tryz.func236,Tryz.ntmps236
 go_wp2
 go_ret
 exact⟨rfl,by go_grown⟩
theorem ZK(R:Nat→Nat→Bool)(E:yT R)(s:aA)(p q b:Nat)(w:World)(hb:b<256)(hp:Box w p (eY s) 149)(hq:Box w q (aP (bg R)) 22) :
  Calls Tryz.prog 238 #[.int .i64 b,.pointer (some ⟨p,0,none⟩),.pointer (some ⟨q,0,none⟩)] w (bM w (BQ .i64 (yG R s b))):=by
 obtain⟨⟨r0,r1,r2,r3⟩,_⟩:=hp.BP
 have hlt:=Xv E.refl hb
 have l1:=hp.lt
 have l2:=hq.lt
 have hwr:=nI b hb
 cases hm:mem s b with
 | true =>
  have HM:=ah hm
  clear hm
  go_enter Tryz.func238,Tryz.ntmps238
  go_wp2_with (go_at_call 239;go_must (refine(JB _ _ _ hb).mono ?_;rintro e w1 ⟨rfl,hB⟩;rw[HM.out];have hc1:=(((hq.alloc _).kept hB).cell b).trans (dX _ b hb);have hx0:=(Box.new _ _ _).kept hB;have hx1:=hx0.cell 0;have hx2:=hx0.cell 1;have hx3:=hx0.free 0;have hx4:=hx0.free 1))
  refine fU Tryz.results238 rfl ((hx0.set 0 _).set 1 _) Tryz.underlying100 rfl (by kernel_rfl) rfl ⟨?_,by have hB1:=((Below.refl w.heap.size w).alloc (Nat.le_refl _) _).trans (hB.mono (by simp));go_grown⟩
  unfold yG;rw[HM.out];rfl
 | false =>
  have HM:=ah hm
  clear hm
  go_enter Tryz.func238,Tryz.ntmps238
  go_wp2_with (go_at_call 239;go_must (refine(JB _ _ _ hb).mono ?_;rintro e w1 ⟨rfl,hB⟩;rw[HM.out];have hc1:=(((hq.alloc _).kept hB).cell b).trans (dX _ b hb);have hx0:=(Box.new _ _ _).kept hB;have hx1:=hx0.cell 0;have hx2:=hx0.cell 1;have hx3:=hx0.free 0;have hx4:=hx0.free 1))
  refine fU Tryz.results238 rfl ((hx0.set 0 _).set 1 _) Tryz.underlying100 rfl (by kernel_rfl) rfl ⟨?_,by have hB1:=((Below.refl w.heap.size w).alloc (Nat.le_refl _) _).trans (hB.mono (by simp));go_grown⟩
  unfold yG;rw[HM.out];rfl
theorem acM(a:Option Addr)(cap:Nat)(l:List aA)(w:World)(h:ak w (.slice a l.length cap) 4 encS l) :
  Calls Tryz.prog 196 #[.slice a l.length cap] w (bM w (.tuple #[.agg (aP (bg (RL l))),.int .i64 (iO (RL l):Nat)])):=by
 obtain⟨b,o,hlen,hcap,hcap',ha,hbl,hcell⟩:=h.sets
 clear hlen h hbl
 have hz:=kE
 have HC:=ah hcell
 clear hcell
 go_enter Tryz.func196,Tryz.ntmps196
 go_wp2_with (first | (refine dV rfl 22 (.tmp 4) (.tmp 11) rfl _ _ rfl rfl rfl (aV _) (by rw[aT,aT]) (gX _) ?_) | (go_at_call 235;go_must (refine(UZ (fun _=>true) _ (fun b hb w' _=>ZJ b w')).mono ?_;rintro e w1 ⟨rfl,hB⟩)))
 have hx0:=(Box.new' (w:=w) rfl (aP fun _=>0) 22).kept hB
 have hB1:=((Below.refl w.heap.size w).alloc (Nat.le_refl _) _).trans (hB.mono (by simp))
 have hsz:w.heap.size<w1.heap.size:=hx0.lt
 have e0:aP (bg (aX fun _=>true))=aP (bg (RL [])):=dY fun i hi=>KL (fun _ _ _ _=>by simp[aX,RL]) hi
 have e1:iO (aX fun _=>true)=iO (RL []):=KN (fun _ _ _ _=>by simp[aX,RL])
 rw[e0,e1]
 clear e0 e1
 generalize hq:w1.heap.size=q
 go_loopw [5,15] (fun n i wr=>∃ j:Nat,j≤l.length∧i=.int .i64 j∧n=.int .i64 (iO (RL (l.take j)):Nat)∧Box wr w.heap.size (aP fun _=>0) 22∧Box wr q (aP (bg (RL (l.take j)))) 22∧Below w.heap.size w wr) (fun _ i _=>l.length - (intOf i).toNat)
 case atStart =>
  subst hq
  exact⟨0,Nat.zero_le _,rfl,rfl,hx0.alloc _,Box.new _ _ _,by go_grown⟩
 case round =>
  obtain⟨j,hj,rfl,rfl,hb0,hb1,hB2⟩:=hrel
  by_cases hlt:j<l.length
  ·obtain rfl:=ha j hlt
   obtain⟨c0,c1,c2,c3⟩:=HC.out j hlt wr hB2
   have e2:l.take (j+1)=l.take j++[l[j]]:=List.take_succ_eq_append_getElem hlt
   have HE:=ah e2
   clear e2 ha
   generalize l[j]=s at *
   have hR:=agr (l.take j)
   have XE:=hb0.lt
   have hb1':=hb1.lt
   go_wp2_with (first | (refine wpList_load_row rfl 22 (.tmp 4) rfl q rfl _ _ _ _ (hb1.alloc _) Tryz.underlying22 rfl (aV _) ?_) | (refine dV rfl 22 (.tmp 8) (.tmp 19) rfl _ _ rfl rfl (by simp) (aV _) (by rw[aT,aT]) (gX _) ?_) | (refine wpList_store_row rfl 22 (.tmp 4) (.tmp 23) rfl q _ rfl rfl _ _ hx1 (aV _) (by rw[aT,aT]) (gX _) ?_) | (go_at_call 237;go_must (refine(ZI (yG (RL (l.take j)) s) _ _ _ (fun b hb w' hB'=>ZK (RL (l.take j)) hR s _ _ b w' hb (((Box.new' rfl _ _).alloc _).kept hB') ((Box.new' (World.size_alloc _ _).symm _ _).kept hB'))).mono ?_;rintro e w2 ⟨rfl,hB3⟩;have hx0:=((hb0.alloc _).alloc _).kept hB3;have hx1:=((hb1.alloc _).alloc _).kept hB3;have hB4:=((hB2.alloc (Nat.le_of_lt XE) _).alloc (by simp;omega) _).trans (hB3.mono (by simp;omega)))))
   have eA:aP (bg (aX (yG (RL (l.take j)) s)))=aP (bg (RL (l.take (j+1)))):=dY fun i hi=>KL (fun b c hb hc=>by rw[Iz hR s hb hc,HE.out,VT]) hi
   have eB:iO (aX (yG (RL (l.take j)) s))=iO (RL (l.take (j+1))):=KN (fun b c hb hc=>by rw[Iz hR s hb hc,HE.out,VT])
   rw[eA,eB]
   go_roundw
   case rel=>exact⟨j+1,hlt,by go_num,rfl,hx0.setRow_other _ (by omega),hx1.setRow _,below_setRow hB4 (by omega) _⟩
   case measure=>simp[intOf];omega
  ·obtain rfl:j=l.length:=by omega
   rw[List.take_length] at hb1 ⊢
   go_wp2_with (first | (refine wpList_load_row rfl 22 (.tmp 4) rfl q rfl _ _ _ _ hb1 Tryz.underlying22 rfl (aV _) ?_) | (refine wpList_store_row rfl 22 (.tmp 2) (.tmp 26) rfl w.heap.size _ rfl rfl _ _ hb0 (aV _) (by rw[aT,aT]) (gX _) ?_))
   exact gy Tryz.results196 rfl rfl (hb0.setRow _) Tryz.underlying22 rfl (aV _) rfl ⟨rfl,below_setRow hB2 (Nat.le_refl _) _⟩
end
section
open Go.RowKit
def bJ(f:Nat→Nat)(b:Nat):Int:=(f b:Nat)
theorem U0(f:Nat→Nat)(p b:Nat)(w:World)(hb:b<256)(hp:Box w p (aP f) 22) :
  Calls Tryz.prog 166 #[.int .i64 b,.pointer (some ⟨p,0,none⟩)] w (bM w (.int .u8 (bJ f b))):=by
 have hc:=(hp.cell b).trans (dX _ b hb)
 go_enter Tryz.func166,Tryz.ntmps166
 go_wp2
 go_ret
 exact⟨rfl,by go_grown⟩
theorem D5(f:Nat→Nat)(w:World) :
  Calls Tryz.prog 124 #[.agg (aP f)] w (bM w (.tuple #[.agg (aP (bg (aX (bJ f)))),.int .i64 (iO (aX (bJ f)):Nat)])):=by
 have hz:=kE
 go_enter Tryz.func124,Tryz.ntmps124
 go_wp2_with (first | (refine wpList_store_row rfl 22 (.tmp 2) (.tmp 6) rfl _ _ rfl rfl _ _ hx1 (aV _) (kW _ _) (gX _) ?_) | (go_at_call 165;go_must (refine(ZH (bJ f) _ _ (fun b hb w' hB'=>U0 f w.heap.size b w' hb (((Box.new' rfl _ _).alloc _).kept hB'))).mono ?_;rintro e w1 ⟨rfl,hB⟩;have hx1:=(Box.new' (w:=w.alloc (.cells (aP f) 22)) (World.size_alloc _ _).symm (aP fun _=>0) 22).kept hB)))
 have hB1:=(((Below.refl w.heap.size w).alloc (Nat.le_refl _) (.cells (aP f) 22)).alloc (by simp) (.cells (aP fun _=>0) 22)).trans (hB.mono (by simp;omega))
 exact gy Tryz.results124 rfl rfl (hx1.setRow _) Tryz.underlying22 rfl (aV _) rfl ⟨rfl,below_setRow hB1 (by simp) _⟩
theorem U1(f:Nat→Nat)(n:Int)(w:World) :
  Calls Tryz.prog 83 #[.agg (aP f),.int .i64 n] w (bM w (.bool (kL (bg (aX (bJ f))) f&&((iO (aX (bJ f)):Nat)==n)))):=by
 have hz:=kE
 have hq:=OL (P:=Tryz.prog) (t:=22) (e:=5) Tryz.underlying22 Tryz.underlying5 (by kernel_rfl) (bg (aX (bJ f))) f
 have hsz:∀ w1:World,Below (w.alloc (.cells (aP f) 22)).heap.size (w.alloc (.cells (aP f) 22)) w1→Below w.heap.size w (w1.alloc (.cells (aP (bg (aX (bJ f)))) 22)):=fun w1 hB=>(((Below.refl w.heap.size w).alloc (Nat.le_refl _) _).trans (hB.mono (by go_size))).alloc (by have:=hB.size;simp at this;omega) _
 have HS:=ah hsz
 clear hsz
 cases hs:kL (bg (aX (bJ f))) f with
 | true =>
  rw[hs] at hq
  clear hs
  go_enter Tryz.func83,Tryz.ntmps83
  go_wp2_with (first | (refine wpList_load_row rfl 22 (.tmp 2) rfl _ rfl _ _ _ _ (Box.new _ _ _) Tryz.underlying22 rfl (aV _) ?_) | (refine dV rfl 22 (.tmp 5) (.tmp 10) rfl _ _ rfl rfl rfl (aV _) (kW _ _) (gX _) ?_) | (go_at_call 124;go_must (refine(D5 f _).mono ?_;rintro e w1 ⟨rfl,hB⟩;have hx0:=(Box.new w (aP f) 22).kept hB)) | (refine wpList_load_row rfl 22 (.tmp 5) rfl _ rfl _ _ _ _ (Box.new _ _ _) Tryz.underlying22 rfl (aV _) ?_) | (refine wpList_load_row rfl 22 (.tmp 2) rfl _ rfl _ _ _ _ (hx0.alloc _) Tryz.underlying22 rfl (aV _) ?_))
  go_ret
  exact⟨rfl,HS.out _ hB⟩
 | false =>
  rw[hs] at hq
  clear hs
  go_enter Tryz.func83,Tryz.ntmps83
  go_wp2_with (first | (refine wpList_load_row rfl 22 (.tmp 2) rfl _ rfl _ _ _ _ (Box.new _ _ _) Tryz.underlying22 rfl (aV _) ?_) | (refine dV rfl 22 (.tmp 5) (.tmp 10) rfl _ _ rfl rfl rfl (aV _) (kW _ _) (gX _) ?_) | (go_at_call 124;go_must (refine(D5 f _).mono ?_;rintro e w1 ⟨rfl,hB⟩;have hx0:=(Box.new w (aP f) 22).kept hB)) | (refine wpList_load_row rfl 22 (.tmp 5) rfl _ rfl _ _ _ _ (Box.new _ _ _) Tryz.underlying22 rfl (aV _) ?_) | (refine wpList_load_row rfl 22 (.tmp 2) rfl _ rfl _ _ _ _ (hx0.alloc _) Tryz.underlying22 rfl (aV _) ?_))
  go_ret
  exact⟨rfl,HS.out _ hB⟩
end
end Go.Proofs.YtbemonecmmnlcaaGreatDoor
