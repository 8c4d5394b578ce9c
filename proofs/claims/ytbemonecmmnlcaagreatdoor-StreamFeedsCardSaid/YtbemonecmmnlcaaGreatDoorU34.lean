/- The texts of T34, in few letters (mini.py). -/
import Derived.Test.YtbemonecmmnlcaaGreatDoorU33
set_option linter.unusedVariables false
set_option linter.unusedSimpArgs false
set_option maxRecDepth 20000
set_option maxHeartbeats 6400000
namespace Go.Proofs.YtbemonecmmnlcaaGreatDoor
section
open Go.RowKit
theorem jd.grown{sb top vb n:Nat}{V:au}{D:ay}{w0 w:World}{X:eG}{g:Option Nat}(h:jd sb top vb n V D w0 w X g):∃ (ha:Option Addr) (m hc s j:Nat) (r:Int×Nat),(∀ ad,ha=some ad→g=some ad.block)∧iK w top ha m hc X.held∧Mid sb top w0 w ∧
  Box w sb (sC V (.slice (some ⟨vb,0,none⟩) n n::iE s r++resT (.slice ha m hc) X.at_ j X.en X.sk)) 123 ∧
  (X.sk=false→j≤m∧s=bD D 0 (X.held.take j)∧r=iY D (X.held.take j)∧∀ i,0<i→i≤j→fP D (bD D 0 (X.held.take i))=true):=by
 obtain⟨h1,ha,m,hc,s,j,r,h2,h3,h4,h5⟩:=h
 exact⟨ha,m,hc,s,j,r,h3,h2,h1,h4,h5⟩
theorem jd.only{sb top vb n:Nat}{V:au}{D:ay}{w0 w w':World}{X:eG}{g:Option Nat}(h:jd sb top vb n V D w0 w X g)(hlt:sb<top)(hs:w.heap.size≤w'.heap.size)(hb:∀ b,b<w.heap.size→(b≤top∨g=some b)→w'.heap[b]?=w.heap[b]?):jd sb top vb n V D w0 w' X g:=by
 obtain⟨⟨m1,m2⟩,ha,m,hc,s,j,r,hH,hga,hbx,hst⟩:=h
 exact⟨⟨Nat.le_trans m1 hs,fun b h1 h2=>(hb b (Nat.lt_of_lt_of_le h2 m1) (.inl (Nat.le_of_lt h2))).trans (m2 b h1 h2)⟩,ha,m,hc,s,j,r,hH.same hs (fun ad e=>hb _ (hH.ge ad e).2 (.inr (hga ad e))),hga,(hb sb hbx.lt (.inl (Nat.le_of_lt hlt))).trans hbx,hst⟩
theorem jd.kept{sb top vb n:Nat}{V:au}{D:ay}{w0 w w':World}{X:eG}{g:Option Nat}(h:jd sb top vb n V D w0 w X g)(hlt:sb<top)(hb:Below w.heap.size w w'):jd sb top vb n V D w0 w' X g:=h.only hlt hb.size fun b hl _=>hb.block b hl
theorem Zk(sb top vb n:Nat)(V:au)(D:ay)(w0 w:World)(X:eG)(g:Option Nat)(v:Value)(hS:jd sb top vb n V D w0 w X g)(hg:∀ k,g=some k→k<w.heap.size)(hk:X.en=true∨X.sk=true) :
  Calls Tryz.prog 46 #[.pointer (some ⟨sb,0,none⟩),v] w (Ii sb top vb n V D w0 g w ([],X)):=by
 obtain⟨ha,m,hc,s,j,r,_,_,_,hbx,_⟩:=hS.grown
 have q0:w.cell? ⟨sb,267,none⟩=some (.bool X.en):=hbx.dH 7
 have q1:w.cell? ⟨sb,268,none⟩=some (.bool X.sk):=hbx.dH 8
 have l0:=hbx.lt
 have HS:=ah hS;have HG:=ah hg
 clear hS hbx hg
 obtain⟨en,he⟩:∃ e,X.en=e:=⟨_,rfl⟩
 obtain⟨sk,hs⟩:∃ e,X.sk=e:=⟨_,rfl⟩
 rw[he] at q0 hk
 rw[hs] at q1 hk
 clear he hs
 cases en with
 | true =>
  clear q1 hk
  go_enter Tryz.func46,Tryz.ntmps46
  go_wp2
  go_ret
  exact⟨none,0,g,rfl,Own.nil _ _ _ _ _,mJ.below (Below.refl _ _),HS.out,fun k e=>⟨.inl e,HG.out k e⟩⟩
 | false =>
  obtain rfl:sk=true:=by simpa using hk
  clear hk
  go_enter Tryz.func46,Tryz.ntmps46
  go_wp2
  go_ret
  exact⟨none,0,g,rfl,Own.nil _ _ _ _ _,mJ.below (Below.refl _ _),HS.out,fun k e=>⟨.inl e,HG.out k e⟩⟩
theorem VJ(sb top vb:Nat)(V:au)(D:ay)(w0 w:World)(n wd lb lo nb no:Nat)(rb ro rc:Nat→Nat)(hM:zK (Mid sb top w0) V D n wd lb lo nb no vb rb ro rc)(hW:jF D)(hlt:sb<top)(held:List UInt8)(at_:Nat)(g:Option Nat)(hS:jd sb top vb n V D w0 w ⟨held,at_,false,false⟩ g)(hg:∀ k,g=some k→k<w.heap.size)
  (ba:Option Addr) (bn bc:Nat) (bs:List UInt8) (hb:ak w (.slice ba bn bc) 1 bf bs) (hlen:at_+(held.length+bs.length)≤1099511627776) :
  Calls Tryz.prog 46 #[.pointer (some ⟨sb,0,none⟩),.slice ba bn bc] w (Ii sb top vb n V D w0 g w (mF D ⟨held++bs,at_,false,false⟩)):=by
 obtain⟨ha,m,hc,s,j,r,hga,hH,Kz,hbx,hst⟩:=hS.grown
 dsimp only at hH hbx hst
 have q0:w.cell? ⟨sb,267,none⟩=some (.bool false):=hbx.dH 7
 have q1:w.cell? ⟨sb,268,none⟩=some (.bool false):=hbx.dH 8
 have q2:w.cell? ⟨sb,264,none⟩=some (.slice ha m hc):=hbx.dH 4
 have l0:=hbx.lt
 have hbn:bn=bs.length:=by obtain⟨_,_,e,_⟩:=hb.open;exact e
 have hm:=hH.len.1
 have htw:=Kz.1
 have hnext:∀ (a':Option Addr) (c':Nat) (w1:World),iK w1 top a' (m+bn) c' (held++bs)→w.grownBy w1 (ha.map (·.block))→(∀ ad,a'=some ad→some ad.block=ha.map (·.block)∨w.heap.size≤ad.block) →
   w1.cell? ⟨sb,264,none⟩=some (.slice ha m hc)∧w1.frozen? ⟨sb,264,none⟩=false∧sb<w1.heap.size∧mJ sb g w (w1.setCell ⟨sb,264,none⟩ (.slice a' (m+bn) c')) ∧
   jd sb top vb n V D w0 (w1.setCell ⟨sb,264,none⟩ (.slice a' (m+bn) c')) ⟨held++bs,at_,false,false⟩ (a'.map (·.block))∧(∀ k,a'.map (·.block)=some k→(g=some k∨w.heap.size≤k)∧k<(w1.setCell ⟨sb,264,none⟩ (.slice a' (m+bn) c')).heap.size):=fun a' c' w1 h1 h2 h3=>by
  have hrow:∀ k,ha.map (·.block)=some k→g=some k∧top≤k:=fun k e=>by
   obtain⟨ad,e1,rfl⟩:=Option.map_eq_some_iff.1 e
   exact⟨hga ad e1,(hH.ge ad e1).1⟩
  have dF:Box w1 sb _ 123:=(h2.block sb hbx.lt fun e=>by have:=(hrow sb e.symm).2;omega).trans hbx
  have hbx2:=dF.mV 4 (.slice a' (m+bn) c')
  refine⟨dF.dH 4,dF.free _,dF.lt,⟨h2.os,h2.tape,h2.output,by rw[World.size_setCell];exact h2.size,fun b hb1 hb2 hb3=>(heap_setCell_other _ _ _ _ hb2).trans (h2.block b hb1 fun e=>hb3 (hrow b e.symm).1)⟩,⟨⟨by rw[World.size_setCell];exact Nat.le_trans htw h2.size,fun b hb1 hb2=>?_⟩,a',m+bn,c',s,j,r,h1.same (by rw[World.size_setCell];exact Nat.le_refl _) (fun ad e=>heap_setCell_other _ _ _ _ (by have:=(h1.ge ad e).1;show ad.block≠sb;omega)),fun ad e=>by rw[e];rfl,hbx2,fun e=>?_⟩,fun k e=>?_⟩
  ·exact(heap_setCell_other _ _ _ _ (by show b≠sb;omega)).trans ((h2.block b (by omega) fun e=>by have:=(hrow b e.symm).2;omega).trans (Kz.2 b hb1 hb2))
  ·obtain⟨g1,g2,g3,g4⟩:=hst rfl
   have ht:∀ i,i≤j→(held++bs).take i=held.take i:=fun i hi=>List.take_append_of_le_length (by omega)
   dsimp only
   exact⟨by omega,by rw[ht j (Nat.le_refl _)];exact g2,by rw[ht j (Nat.le_refl _)];exact g3,fun i h1 h2=>by rw[ht i h2];exact g4 i h1 h2⟩
  ·obtain⟨ad,e1,rfl⟩:=Option.map_eq_some_iff.1 e
   rw[World.size_setCell]
   refine⟨?_,(h1.ge ad e1).2⟩
   rcases h3 ad e1 with h4 | h4
   ·exact .inl (hrow _ h4.symm).1
   ·exact .inr h4
 have HN:=ah hnext;have HM:=ah hM;have HW:=ah hW;have HH:=ah hH;have HB:=ah hb;have HL:=ah hlen
 have hmb:m+bn≤1099511627776:=by omega
 clear hnext hM hW hH hb hS hbx hst hga Kz hm hg hbn hlen
 go_enter Tryz.func46,Tryz.ntmps46
 go_wp2_with (first | (at_builtin;go_must (refine VI rfl _ _ rfl top ha m hc held HH.out htw ba bn bc bs HB.out hmb rfl rfl ?_;intro a1 c1 w1 hH1 hg1 hf1;obtain⟨p0,p1,p2,hK,hS2,hg2⟩:=HN.out a1 c1 w1 hH1 hg1 hf1;have HS2:=ah hS2;have HG2:=ah hg2;have HK:=ah hK;clear hS2 hg2 hK hH1 hg1 hf1 q0 q1 q2 l0 HN)) | (go_at_call 86;go_must (refine(Xi sb top vb V D w0 _ n wd lb lo nb no rb ro rc HM.out HW.out hlt _ _ HS2.out (fun k e=>(HG2.out k e).2) (by rw[List.length_append];exact HL.out) rfl).mono ?_;rintro e w3 ⟨a3,c3,rfl,ho3,hO3,hS3⟩)))
 go_ret
 have hsz:=HK.out.size
 have hs3:=hO3.size
 refine⟨a3,c3,_,rfl,ho3.mono hsz,HK.out.trans (fun k e=>(HG2.out k e).1) (mJ.ab5 hO3),hS3,fun k e=>⟨(HG2.out k e).1,Nat.lt_of_lt_of_le (HG2.out k e).2 hs3⟩⟩
theorem Xl(sb top vb:Nat)(V:au)(D:ay)(w0 w:World)(n wd lb lo nb no:Nat)(rb ro rc:Nat→Nat)(hM:zK (Mid sb top w0) V D n wd lb lo nb no vb rb ro rc)(hW:jF D)(hlt:sb<top)(X:eG)(g:Option Nat)(hS:jd sb top vb n V D w0 w X g)(hg:∀ k,g=some k→k<w.heap.size)
  (ba:Option Addr) (bn bc:Nat) (bs:List UInt8) (hb:ak w (.slice ba bn bc) 1 bf bs) (hlen:X.at_+(X.held.length+bs.length)≤1099511627776) :
  Calls Tryz.prog 46 #[.pointer (some ⟨sb,0,none⟩),.slice ba bn bc] w (Ii sb top vb n V D w0 g w (ji D X bs)):=by
 unfold ji
 by_cases h:X.en=true∨X.sk=true
 ·rw[if_pos h]
  exact Zk sb top vb n V D w0 w X g _ hS hg h
 ·rw[if_neg h]
  obtain⟨held,at_,en,sk⟩:=X
  obtain rfl:en=false:=by simpa using fun e=>h (.inl e)
  obtain rfl:sk=false:=by simpa using fun e=>h (.inr e)
  exact VJ sb top vb V D w0 w n wd lb lo nb no rb ro rc hM hW hlt held at_ g hS hg ba bn bc bs hb hlen
theorem akn(sb top vb:Nat)(V:au)(D:ay)(w0 w:World)(n wd lb lo nb no:Nat)(rb ro rc:Nat→Nat)(hM:zK (Mid sb top w0) V D n wd lb lo nb no vb rb ro rc)(hW:jF D)(hlt:sb<top)(X:eG)(g:Option Nat)(hS:jd sb top vb n V D w0 w X g)(hg:∀ k,g=some k→k<w.heap.size)
  (hlen:X.at_+X.held.length≤1099511627776) (hh:X.sk=true→X.held=[]) :
  Calls Tryz.prog 43 #[.pointer (some ⟨sb,0,none⟩)] w (Ii sb top vb n V D w0 g w (rY D X)):=by
 obtain⟨held,at_,en,sk⟩:=X
 obtain⟨ha,m,hc,s,j,r,hga,hH,Kz,hbx,hst⟩:=hS.grown
 dsimp only at hH hbx hst hh hlen
 have q0:w.cell? ⟨sb,267,none⟩=some (.bool en):=hbx.dH 7
 have l0:=hbx.lt
 have f0:=hbx.free 267
 unfold rY
 cases en with
 | true =>
  rw[if_pos rfl]
  have HS:=ah hS;have HG:=ah hg
  clear hS hbx hg hst hga hH Kz hM hW hh
  go_enter Tryz.func43,Tryz.ntmps43
  go_wp2
  go_ret
  exact⟨none,0,g,rfl,Own.nil _ _ _ _ _,mJ.below (Below.refl _ _),HS.out,fun k e=>⟨.inl e,HG.out k e⟩⟩
 | false =>
  rw[if_neg (by simp)]
  have hO:=(aU.refl sb w).set 267 (.bool true)
  have hS2:jd sb top vb n V D w0 (w.setCell ⟨sb,267,none⟩ (.bool true)) ⟨held,at_,true,sk⟩ g:=⟨Kz.only hO,ha,m,hc,s,j,r,hH.only hlt hO,hga,hbx.mV 7 (.bool true),hst⟩
  have agf:Calls Tryz.prog 86 #[.pointer (some ⟨sb,0,none⟩)] (w.setCell ⟨sb,267,none⟩ (.bool true)) (Oq sb top vb n V D w0 g (w.setCell ⟨sb,267,none⟩ (.bool true)) (mF D ⟨held,at_,true,sk⟩)):=by
   cases sk with
   | true=>exact Zb sb top vb n V D w0 _ hlt _ g hS2 rfl (hh rfl)
   | false=>exact Xi sb top vb V D w0 _ n wd lb lo nb no rb ro rc hM hW hlt _ g hS2 (fun k e=>by rw[World.size_setCell];exact hg k e) hlen rfl
  have HT:=ah agf;have HO:=ah hO;have HG:=ah hg
  clear hS hbx hg hst hga hH Kz hM hW hh agf hS2 hO
  go_enter Tryz.func43,Tryz.ntmps43
  go_wp2_with (go_at_call 86;go_must (refine HT.out.mono ?_;rintro e w3 ⟨a3,c3,rfl,ho3,hO3,hS3⟩))
  go_ret
  rw[World.size_setCell] at ho3
  have hs3:=hO3.size
  rw[World.size_setCell] at hs3
  exact⟨a3,c3,g,rfl,ho3,mJ.ab5 (HO.out.trans hO3),hS3,fun k e=>⟨.inl e,Nat.lt_of_lt_of_le (HG.out k e) hs3⟩⟩
theorem ahb(sb top vb n:Nat)(V:au)(D:ay)(w0 w:World)(X:eG)(g:Option Nat)(hS:jd sb top vb n V D w0 w X g):Calls Tryz.prog 51 #[.pointer (some ⟨sb,0,none⟩)] w (bM w (.int .i64 (X.held.length:Nat))):=by
 obtain⟨ha,m,hc,s,j,r,_,hH,_,hbx,_⟩:=hS.grown
 have q0:w.cell? ⟨sb,264,none⟩=some (.slice ha m hc):=hbx.dH 4
 have l0:=hbx.lt
 have hm:=hH.len.1
 rw[←hm]
 clear hS hbx hH hm
 go_enter Tryz.func51,Tryz.ntmps51
 go_wp2
 go_ret
 exact⟨rfl,Below.refl _ _⟩
theorem agh(sb top vb n:Nat)(V:au)(D:ay)(w0 w:World)(X:eG)(g:Option Nat)(hS:jd sb top vb n V D w0 w X g):Calls Tryz.prog 48 #[.pointer (some ⟨sb,0,none⟩)] w (bM w (.int .i64 (X.at_:Nat))):=by
 obtain⟨ha,m,hc,s,j,r,_,hH,_,hbx,_⟩:=hS.grown
 have q0:w.cell? ⟨sb,265,none⟩=some (.int .i64 (X.at_:Nat)):=hbx.dH 5
 have l0:=hbx.lt
 clear hS hbx hH
 go_enter Tryz.func48,Tryz.ntmps48
 go_wp2
 go_ret
 exact⟨rfl,Below.refl _ _⟩
theorem UC(sb top vb n:Nat)(V:au)(D:ay)(w0 w:World)(X:eG)(g:Option Nat)(hS:jd sb top vb n V D w0 w X g):Calls Tryz.prog 49 #[.pointer (some ⟨sb,0,none⟩)] w (bM w (.bool X.sk)):=by
 obtain⟨ha,m,hc,s,j,r,_,hH,_,hbx,_⟩:=hS.grown
 have q0:w.cell? ⟨sb,268,none⟩=some (.bool X.sk):=hbx.dH 8
 have l0:=hbx.lt
 clear hS hbx hH
 go_enter Tryz.func49,Tryz.ntmps49
 go_wp2
 go_ret
 exact⟨rfl,Below.refl _ _⟩
end
section
open Go.RowKit
theorem aeY(V U:au)(t:List Value)(i:Nat)(v:Value)(hi:i<260)(h:V.cells.setIfInBounds i v=U.cells):(sC V t).setIfInBounds i v=sC U t:=by
 apply Array.ext_getElem?
 intro j
 rw[Array.getElem?_setIfInBounds,dW]
 by_cases hj:j<260
 ·rw[tV _ _ _ hj,tV _ _ _ hj,←h,Array.getElem?_setIfInBounds,au.size]
  by_cases e:i=j
  ·rw[if_pos e,if_pos e,if_pos (by omega),if_pos hi]
  ·rw[if_neg e,if_neg e]
 ·obtain⟨k,rfl⟩:∃ k,j=260+k:=⟨j - 260,by omega⟩
  rw[if_neg (by omega),yx,yx]
theorem ab8(V:au)(a:Option Addr)(n c:Nat):V.cells.setIfInBounds 257 (.slice a n c)=({ V with na:=a,nn:=n,nc:=c }:au).cells :=
 Et (by rw[Array.size_setIfInBounds,au.size]) (fun i h=>by rw[Array.getElem?_setIfInBounds_ne (by omega)];exact V.Dp i h) (by rw[Array.getElem?_setIfInBounds_ne (by decide)];exact V.BD)
  (by rw[Array.getElem?_setIfInBounds,if_pos rfl,if_pos (by rw[au.size];decide)]) (by rw[Array.getElem?_setIfInBounds_ne (by decide)];exact V.lT) (by rw[Array.getElem?_setIfInBounds_ne (by decide)];exact V.BF)
theorem Box.aoH{w:World}{b E:Nat}{V:au}{t:List Value}(h:Box w b (sC V t) E)(U:au):Box (w.setCells b 0 U.cells.toList) b (sC U t) E:=by
 obtain⟨c',h1,h2,h3⟩:=Box.setMany U.cells.toList 0 w _ h
 have hl:U.cells.toList.length=260:=by rw[Array.length_toList,au.size]
 rw[dW] at h2 h3
 rw[hl] at h3
 have e:c'=sC U t:=by
  apply Array.ext_getElem?
  intro j
  rw[h3]
  by_cases hj:j<260
  ·rw[if_pos (by omega),Nat.sub_zero,Array.getElem?_toList,tV _ _ _ hj]
  ·obtain⟨k,rfl⟩:∃ k,j=260+k:=⟨j - 260,by omega⟩
   rw[if_neg (by omega),yx,yx]
 rw[←e];exact h1
theorem Box.ako{w:World}{b E:Nat}{V:au}{t:List Value}(h:Box w b (sC V t) E)(U:au):w.there b 0 U.cells.size:=fun j hj=>by
 rw[au.size] at hj
 refine⟨?_,h.free _⟩
 rw[h.cell,Nat.zero_add,tV _ _ _ hj,Array.getElem?_eq_getElem (by rw[au.size];exact hj)];rfl
theorem ab9(l:List Int):l.map (Value.int .i64)=l.flatMap encI:=by
 induction l with
 | nil=>rfl
 | cons x l ih=>rw[List.map_cons,ih,List.flatMap_cons];rfl
abbrev ND(x:Option Addr×Nat×Nat):List Value:=[.slice x.1 x.2.1 x.2.2]
theorem ED:fD ND 1:=⟨fun _=>rfl,fun x u hu=>by simp[ND] at hu;subst hu;rfl⟩
theorem Zl:eu Tryz.prog 23 24 (.slice none 0 0) 1 24:=⟨Tryz.underlying23,info_parts (by kernel_rfl),rfl,by decide⟩
def au.lw(V:au):Value:=.slice V.la V.ln V.lc
abbrev KA(x:Option Addr×Nat×Nat):Value:=.slice x.1 x.2.1 x.2.2
theorem Zm{α β:Type}{w:World}{v:Value}{f:α→Value}{g:β→Value}{m:α→β}{xs:List α}(h:ak w v 1 (fun x=>[f x]) xs)(hm:∀ x,g (m x)=f x):ak w v 1 (fun x=>[g x]) (xs.map m):=by
 obtain⟨a,b,o,cap,hv,h1,h2,h3,h4⟩:=h
 refine⟨a,b,o,cap,by rw[List.length_map];exact hv,by rw[List.length_map];exact h1,h2,?_,fun i hi j u hu=>?_⟩
 ·rcases h3 with h3 | ⟨rfl,h3⟩
  ·exact .inl h3
  ·exact .inr ⟨rfl,h3⟩
 ·have hi':i<xs.length:=by simpa using hi
  simp only[List.getElem_map,hm] at hu
  exact h4 i hi' j u hu
theorem Xm(l:List Int)(a:Option Addr)(n cap:Nat)(w:World)(h:ak w (.slice a n cap) 1 encI l)(h0:0<l.length)(hl:l.length≤1099511627776) :
  Calls Tryz.prog 80 #[.slice a n cap] w (gV w 3 1 encI l):=by
 obtain⟨b,o,hn,hc,hc2,ha,hx⟩:=h.bY (f:=fun x:Int=>Value.int .i64 x)
 obtain rfl:=ha 0 h0
 subst hn
 have:=Tryz.slices_Clone_int b o l.length cap l w (by simp) (by omega) (fun j hj=>by
  rw[hx j hj w (Below.refl _ _)]
  simp[List.getD,hj])
 refine this.mono fun e w' he=>?_
 obtain⟨v',rfl,hr,_,hB⟩:=he
 rw[List.take_of_length_le (by simp),ab9] at hr
 have ho:Own w' w.heap.size 3 1 encI v' l:=Own.ofRow hr oD
 obtain⟨a',c',rfl⟩:=ho.form
 exact⟨a',c',rfl,ho,hB⟩
structure lH(w:World)(sb base:Nat)(V:au)(t:List Value)(D:ay)(nx:List (List Int)):Prop where
 box:Box w sb (sC V t) 123
 of:V.of=D.of
 width:V.width=D.width
 lab:Own w base 3 1 encI V.lw D.label
 nam:Own w base 9 1 lY (.slice V.ma V.mn V.mc) D.names
 Xn:∃ rows:List (Option Addr×Nat×Nat),Own w base 24 1 ND (.slice V.na V.nn V.nc) rows∧rows.length=nx.length∧∀ i (h1:i<rows.length) (h2:i<nx.length),Own w base 3 1 encI (KA rows[i]) nx[i]
theorem lH.same{w w':World}{sb base:Nat}{V:au}{t:List Value}{D:ay}{nx:List (List Int)}(h:lH w sb base V t D nx)(hb:∀ b,b=sb∨base≤b→b<w.heap.size→w'.heap[b]?=w.heap[b]?):lH w' sb base V t D nx:=by
 obtain⟨rows,h1,h2,h3⟩:=h.Xn
 have k:∀ {α:Type} {E size:Nat} {enc:α→List Value} {v:Value} {xs:List α},Own w base E size enc v xs→Own w' base E size enc v xs:=fun ho=>ho.bW fun g hg=>hb g (.inr (ho.bC g hg).1) (ho.bC g hg).2
 exact⟨(hb sb (.inl rfl) h.box.lt).trans h.box,h.of,h.width,k h.lab,k h.nam,rows,k h1,h2,fun i p q=>k (h3 i p q)⟩
theorem lH.kept{w w':World}{sb base:Nat}{V:au}{t:List Value}{D:ay}{nx:List (List Int)}(h:lH w sb base V t D nx)(hb:Below w.heap.size w w'):lH w' sb base V t D nx:=h.same fun b _ hl=>hb.block b hl
theorem lH.row{w w' w2:World}{sb base:Nat}{V:au}{t:List Value}{D:ay}{nx:List (List Int)}{a':Option Addr}{n' cap':Nat}{rows:List (Option Addr×Nat×Nat)}{x:Option Addr×Nat×Nat}{l:List Int}(h:lH w sb base V t D nx)(hr:sb<base)
  (h1:Own w base 24 1 ND (.slice V.na V.nn V.nc) rows) (h2:rows.length=nx.length) (h3:∀ i (h1:i<rows.length) (h2:i<nx.length),Own w base 3 1 encI (KA rows[i]) nx[i])
  (hg:w.grownBy w' (Value.slice V.na V.nn V.nc).ownBlock) (ho:Own w' base 24 1 ND (.slice a' n' cap') (rows++[x])) (hx:Own w base 3 1 encI (KA x) l) (hl:Below w'.heap.size w' w2) :
  lH (w2.setCell ⟨sb,257,none⟩ (.slice a' n' cap')) sb base { V with na:=a',nn:=n',nc:=cap' } t D (nx++[l]):=by
 refine⟨?_,h.of,h.width,((h.lab.iL h1 hg (by decide)).kept hl).other _ _ hr,((h.nam.iL h1 hg (by decide)).kept hl).other _ _ hr,rows++[x],(ho.kept hl).other _ _ hr,by simp[h2],fun i p q=>?_⟩
 ·have:=((h.box.iL h1 hg (by decide)).kept hl).set 257 (.slice a' n' cap')
  rwa[aeY V { V with na:=a',nn:=n',nc:=cap' } t 257 _ (by decide) (ab8 V a' n' cap')] at this
 ·by_cases hi:i<rows.length
  ·have e1:(rows++[x])[i]=rows[i]:=List.getElem_append_left hi
   have e2:(nx++[l])[i]=nx[i]'(by omega):=List.getElem_append_left (by omega)
   rw[e1,e2]
   exact((h3 i hi (by omega)).iL h1 hg (by decide)).kept hl |>.other _ _ hr
  ·obtain rfl:i=rows.length:=by simp at p;omega
   have e1:(rows++[x])[rows.length]=x:=by simp
   have e2:(nx++[l])[rows.length]'(by simp;omega)=l:=by simp[h2]
   rw[e1,e2]
   exact((hx.iL h1 hg (by decide)).kept hl).other _ _ hr
theorem lH.reads{w:World}{sb base:Nat}{V:au}{t:List Value}{D:ay}(h:lH w sb base V t D D.next):dN w V D:=by
 obtain⟨rows,h1,h2,h3⟩:=h.Xn
 refine⟨h.of,h.width,h.lab.slice oD,h.nam.slice zS,rows.map KA,Zm (m:=KA) (f:=KA) (g:=fun v=>v) (h1.slice ED) (fun _=>rfl),by rw[List.length_map];exact h2,fun i a b=>?_⟩
 have ha:i<rows.length:=by simpa using a
 have h4:=h3 i ha b
 obtain⟨a',c',hv⟩:=h4.form
 refine⟨a',c',by rw[List.getElem_map];exact hv,?_⟩
 rw[←hv]
 exact h4.slice oD
theorem aeZ{w:World}{sb vb:Nat}{V:au}{t:List Value}{D:ay}(h:lH w sb (sb+1) V t D D.next)(hw:jF D)(hv:sb<vb)(hlv:Own w (sb+1) 4 1 Ie (.slice (some ⟨vb,0,none⟩) D.label.length D.label.length) (rO D.label.length (qP D))) :
  ∃ wd lb lo nb no rb ro rc,zK (Mid sb w.heap.size w) V D D.label.length wd lb lo nb no vb rb ro rc:=by
 obtain⟨n,wd,lb,lo,nb,no,rb,ro,rc,hm⟩:=machC h.reads hw
 obtain rfl:=hm.nl
 have hpos:=hm.ER.1
 have keep:∀ {b o:Nat} {v:Value},sb<b→w.cell? ⟨b,o,none⟩=some v→∀ u,Mid sb w.heap.size w u→u.cell? ⟨b,o,none⟩=some v:=fun hb hc u hu=>by
  rw[←hc]
  exact World.cell?_of_block (hu.2 _ hb (World.block_lt_of_cell? w _ hc))
 have hlb:sb<lb:=(h.lab.bC lb (by unfold au.lw;rw[hm.la];rfl)).1
 obtain⟨rows,h1,h2,h3⟩:=h.Xn
 have hnb:sb<nb:=(h1.bC nb (by rw[hm.na];rfl)).1
 have hrb:∀ s,s<D.label.length→sb<rb s:=fun s hs=>by
  have hs2:s<D.next.length:=by rw[hw.nx];exact hs
  have hs1:s<rows.length:=by omega
  have e1:=hm.row s hs w (Below.refl _ _)
  obtain⟨b5,o5,_,_,_,ha5,hx5⟩:=(h1.slice ED).bY (f:=KA)
  have e2:=hx5 s hs1 w (Below.refl _ _)
  have e3:=ha5 s hs1
  rw[hm.na] at e3
  cases e3
  rw[e1] at e2
  have h4:=h3 s hs1 hs2
  rw[←Option.some.inj e2] at h4
  exact(h4.bC (rb s) rfl).1
 refine⟨wd,lb,lo,nb,no,rb,ro,rc,rfl,h.of,hm.ln,hm.nn,hm.la,hm.na,hm.ER,hm.WA,hm.lc,hm.nc,fun k hk=>keep hlb (hm.lab k hk w (Below.refl _ _)),fun s hs=>keep hnb (hm.row s hs w (Below.refl _ _)),hm.cap,fun s hs j hj=>keep (hrb s hs) (hm.SX s hs j hj w (Below.refl _ _)),hm.lt,hm.of,fun k hk=>keep hv ?_⟩
 have hl:=qE D.label.length (qP D)
 obtain⟨g1,_⟩:=hlv.cellAt (i:=k) (j:=0) (by rw[hl];exact hk) (by decide)
 rw[show k*1+0=k by omega] at g1
 rw[g1]
 rw[Um hk]
 show some (Value.bool ((rO D.label.length (qP D))[k]'(by rw[hl];exact hk)))=_
 rw[Em]
end
section
open Go.RowKit
def tz:List Value:=[.slice none 0 0,.int .i64 0,.int .i64 0,.int .i64 0,.slice none 0 0,.int .i64 0,.int .i64 0,.bool false,.bool false]
theorem UD:Tryz.prog.built 123 []=some (sC Vz tz):=by kernel_rfl
theorem Zn(f:Nat→Nat)(wd:Int)(la ma:Option Addr)(ln lc mn mc:Nat):Tryz.prog.built 27 [(0,.agg (aP f)),(1,.int .i64 wd),(3,.slice la ln lc),(4,.slice ma mn mc)]=some (au.cells ⟨f,wd,none,0,0,la,ln,lc,ma,mn,mc⟩):=by
 obtain⟨it,hi⟩:∃ it,Tryz.prog.info? 27=some it:=Option.isSome_iff_exists.1 (by kernel_rfl)
 have hz0:(Tryz.prog.info? 27).map (fun it=>it.zero.map (fun z=>(z.cells.size,z.cells[257]?)))=some (some (260,some (.slice none 0 0))):=by kernel_rfl
 rw[hi] at hz0
 simp only[Option.map_some,Option.some.injEq] at hz0
 obtain⟨z,hz,hzs⟩:=Option.map_eq_some_iff.1 hz0
 obtain⟨hzs,IQ⟩:=Prod.mk.inj hzs
 rw[AO (places:=[(0,256),(256,1),(257,1),(258,1),(259,1)]) _ hi Tryz.underlying27 hz (by kernel_rfl)]
 have hs:=aT f
 have Uj:=wP 0 (aP f).toList 0 z.cells
 have hgg:=fun i=>zJ 0 (aP f).toList 0 z.cells i (by rw[Array.length_toList];omega)
 rw[←AL] at Uj
 simp only[←AL] at hgg
 have e0:=GZ (place:=(([(0,256),(256,1),(257,1),(258,1),(259,1)]:List (Nat×Nat)).toArray[·]?)) (cells:=z.cells) (i:=0) (off:=0) (size:=256) (v:=.agg (aP f)) (rest:=[(1,.int .i64 wd),(3,.slice la ln lc),(4,.slice ma mn mc)]) rfl hs (by omega)
 refine e0.trans ?_
 show Instr.fill _ ((aP f).zipIdx.foldl (fun cs (x:Value×Nat)=>cs.setIfInBounds (0+x.2) x.1) z.cells) _=_
 generalize (aP f).zipIdx.foldl (fun cs (x:Value×Nat)=>cs.setIfInBounds (0+x.2) x.1) z.cells=F at *
 rw[xI (off:=256) rfl rfl (by omega),xI (off:=258) rfl rfl (by rw[Array.size_setIfInBounds];omega),xI (off:=259) rfl rfl (by rw[Array.size_setIfInBounds,Array.size_setIfInBounds];omega)]
 refine congrArg some (Et (by rw[Array.size_setIfInBounds,Array.size_setIfInBounds,Array.size_setIfInBounds];omega) (fun i h=>?_) ?_ ?_ ?_ ?_)
 ·rw[Array.getElem?_setIfInBounds_ne (by omega),Array.getElem?_setIfInBounds_ne (by omega),Array.getElem?_setIfInBounds_ne (by omega),hgg i,if_pos (by rw[Array.length_toList];omega),Array.getElem?_toList,show i - (0+0)=i by omega,dX _ _ h]
 ·rw[Array.getElem?_setIfInBounds_ne (by omega),Array.getElem?_setIfInBounds_ne (by omega),Array.getElem?_setIfInBounds,if_pos rfl,if_pos (by omega)]
 ·rw[Array.getElem?_setIfInBounds_ne (by omega),Array.getElem?_setIfInBounds_ne (by omega),Array.getElem?_setIfInBounds_ne (by omega),hgg 257,if_neg (by rw[Array.length_toList];omega),IQ]
 ·rw[Array.getElem?_setIfInBounds_ne (by omega),Array.getElem?_setIfInBounds,if_pos rfl,if_pos (by rw[Array.size_setIfInBounds];omega)]
 ·rw[Array.getElem?_setIfInBounds,if_pos rfl,if_pos (by rw[Array.size_setIfInBounds,Array.size_setIfInBounds];omega)]
theorem Qr{ops:Array Oper}{rest:List Oper}{o:Oper}{a:Act}{Q:Exit→Act→World→Prop}{w:World}{t:TypeId}{cells:Array Value}(hgd:o.guard=none)(ho:o.op=.build t #[])(hb:Tryz.prog.built t []=some cells)
  (h:wpList Tryz.prog ops Q rest (a.put o.dst (.agg cells)) w):wpList Tryz.prog ops Q (o::rest) a w :=
 wpList_plain hgd fun _ hK=>by
  unfold Oper.wp
  rw[rX ho rfl hb]
  exact hK _ _ h
theorem lH.mV{w:World}{sb base:Nat}{V:au}{t:List Value}{D:ay}{nx:List (List Int)}(h:lH w sb base V t D nx)(hr:sb<base)(k:Nat)(v:Value):lH (w.setCell ⟨sb,260+k,none⟩ v) sb base V (t.set k v) D nx:=by
 obtain⟨rows,h1,h2,h3⟩:=h.Xn
 exact⟨h.box.mV k v,h.of,h.width,h.lab.other _ _ hr,h.nam.other _ _ hr,rows,h1.other _ _ hr,h2,fun i p q=>(h3 i p q).other _ _ hr⟩
theorem lH.bool{w:World}{sb base:Nat}{V:au}{t:List Value}{D:ay}{nx:List (List Int)}(h:lH w sb base V t D nx){b:Nat}{c:Array Value}(hb:Box w b c 4)(i:Nat)(u:Value):lH (w.setCell ⟨b,i,none⟩ u) sb base V t D nx:=by
 obtain⟨rows,h1,h2,h3⟩:=h.Xn
 have hn:sb≠b:=fun e=>by subst e;exact absurd (h.box.kK hb) (by decide)
 exact⟨h.box.other _ _ hn,h.of,h.width,h.lab.yC hb (by decide) _ _,h.nam.yC hb (by decide) _ _,rows,h1.yC hb (by decide) _ _,h2,fun i p q=>(h3 i p q).yC hb (by decide) _ _⟩
def tzL(vb n:Nat):List Value:=[.slice (some ⟨vb,0,none⟩) n n,.int .i64 0,.int .i64 0,.int .i64 0,.slice none 0 0,.int .i64 0,.int .i64 0,.bool false,.bool false]
theorem ace(V:au)(D:ay)(w:World)(h:dN w V D)(hl:∀ x∈D.names,x.length≤9223372036854775807)(hr:dS D=false):Calls Tryz.prog 39 #[.agg V.cells] w (bM w (.tuple #[.pointer none,.int .i64 6])):=by
 have hbx:=Box.new w V.cells 27
 have hB0:=aj w (.cells V.cells 27)
 have HR:=ah (fun u hu=>hr▸rM V D u (h.kept hu) hl)
 clear h hl hr
 go_enter Tryz.func39,Tryz.ntmps39
 go_wp2_with (first | (refine aI (by rfl) 27 _ rfl w.heap.size rfl _ _ _ _ hbx Tryz.underlying27 rfl (aZ _) ?_) | (go_at_call 40;go_must (refine(HR.out _ hB0).mono ?_;rintro e w2 ⟨rfl,hb2⟩)))
 go_ret2
 exact⟨rfl,hB0.trans (hb2.mono hB0.size)⟩
def akq(V:au)(D:ay)(w:World)(e:Ending)(w':World):Prop :=
 ∃ sb vb U wd lb lo nb no rb ro rc,e=.returned (.tuple #[.pointer (some ⟨sb,0,none⟩),.int .i64 0])∧w.heap.size≤sb∧sb<w'.heap.size∧zK (Mid sb w'.heap.size w') U D D.label.length wd lb lo nb no vb rb ro rc∧jd sb w'.heap.size vb D.label.length U D w' w' ⟨[],0,false,false⟩ none∧Below w.heap.size w w'
theorem UE(V:au)(D:ay)(w:World)(h:dN w V D)(hl:∀ x∈D.names,x.length≤9223372036854775807)(hr:dS D=true):Calls Tryz.prog 39 #[.agg V.cells] w (akq V D w):=by
 have hw:=yM hr
 obtain⟨n,wd,lb,lo,nb,no,rb,ro,rc,hm⟩:=machC h hw
 have hbx:=Box.new w V.cells 27
 have hB0:=aj w (.cells V.cells 27)
 have HR:=ah (fun u hu=>hr▸rM V D u (h.kept hu) hl)
 have yS:=ah (fun u hu=>aeG V D u (h.kept hu) hl hr)
 have hpos:=hm.ER.1
 have asa:=hm.ER.2
 have hlen:(qP D).length≤n:=by
  unfold qP
  rw[mg,←hm.nl]
  exact nodup_lt_length _ _ (Ei hw).1 (Ei hw).2
 have hlt:∀ x∈qP D,x<n:=fun x hx=>by rw[←hm.nl];exact((GR hw x).1 hx).1
 have hnm:=hw.names
 have pV:Hid (∀ u:World,Below w.heap.size w u→Calls Tryz.prog 80 #[.slice V.la n V.lc] u fun e w'=>∃ a c,e=.returned (.slice a n c)∧Own w' u.heap.size 3 1 encI (.slice a n c) D.label∧Below u.heap.size u w'):=ah fun u hu=>by
  have:=Xm D.label V.la V.ln V.lc u (h.kept hu).2.2.1 (by rw[hm.nl];exact hpos) (by rw[hm.nl];omega)
  unfold gV at this
  rwa[hm.ln,hm.nl] at this
 have HCN:Hid (∀ u:World,Below w.heap.size w u→Calls Tryz.prog 81 #[.slice V.ma D.names.length V.mc] u (gV u 9 1 lY D.names)):=ah fun u hu=>by
  have:=Jm D.names V.ma V.mn V.mc u (h.kept hu).2.2.2.1 (by omega)
  rwa[h.lens.2.1] at this
 have HCR:Hid (∀ (k:Nat) (hk:k<n) (u:World),Below w.heap.size w u→Calls Tryz.prog 80 #[.slice (some ⟨rb k,ro k,none⟩) wd (rc k)] u (gV u 3 1 encI (D.next.getD k []))):=ah fun k hk u hu=>by
  obtain⟨_,_,_,_,rows,h5,h6,h7⟩:=h.kept hu
  have hk2:k<D.next.length:=by rw[hw.nx,hm.nl];exact hk
  obtain⟨a,c,e,hs⟩:=h7 k (by omega) hk2
  obtain⟨b5,o5,_,_,_,ha5,hx5⟩:=h5.bY (f:=fun v:Value=>v)
  have e1:=hm.row k hk u hu
  have e2:=hx5 k (by omega) u (Below.refl _ _)
  have e3:=ha5 k (by omega)
  rw[hm.na] at e3
  cases e3
  rw[e1,e] at e2
  obtain⟨rfl,e4,rfl⟩:=Value.slice.inj (Option.some.inj e2)
  rw[List.getD_eq_getElem?_getD,List.getElem?_eq_getElem hk2,Option.getD_some,e4]
  exact Xm _ _ _ _ u hs (by have:=hm.WA;omega) (by have:=hm.WA;omega)
 have HM:=ah hm;have HW:=ah hw;have HLT:=ah hlt;have SE:=ah h.1;have HWV:=ah h.2.1
 have hln:=hm.ln
 have hnn:=hm.nn
 have hmn:V.mn=D.names.length:=h.lens.2.1
 have asb:D.names.length≤64:=by omega
 clear h hl hr hm hw hlt hnm
 go_enter Tryz.func39,Tryz.ntmps39
 go_wp2_with (first | (refine aI (by rfl) 27 _ rfl w.heap.size rfl _ _ _ _ hbx Tryz.underlying27 rfl (aZ _) ?_) | (go_at_call 40;go_must (refine(HR.out _ hB0).mono ?_;rintro e w2 ⟨rfl,hb2⟩;have hbw:=hB0.trans (hb2.mono hB0.size);have hbx2:=hbx.kept hb2)) | (refine Qr rfl rfl UD ?_))
 have hsx:=Box.new w2 (sC Vz tz) 123
 have hal:=aj w2 (.cells (sC Vz tz) 123)
 have akr:=hbx2.kept hal
 have hB3:=hbw.trans (hal.mono hbw.size)
 have aks:=hbx2.lt
 clear hbx hB0 hbx2 hbw hb2 hal HR
 generalize w2.alloc (.cells (sC Vz tz) 123)=W at *
 generalize w2.heap.size=sb at *
 have HF:Hid (∀ u,Later W.drew u→Box u w.heap.size V.cells 27∧Box u sb (sC Vz tz) 123∧Below w.heap.size w u):=ah fun u hu=>by
  have h1:Below W.heap.size W u:=((Below.refl _ _).drew).trans (hu.mono (Nat.le_refl _))
  exact⟨akr.kept h1,hsx.kept h1,hB3.trans (h1.mono hB3.size)⟩
 clear akr hsx hB3
 refine aH (R:=Later) 15 (by kernel_rfl) ?_
 refine pl [0,1] ?_
 repeat
  refine gU ?_ rfl (fun w1 hl=>?_) ?_
  rotate_left
  ·skip;go_simp;try with_reducible rfl
  simp only[eA,eB,eC,Act.put,eD,eE,eF]
 refine dI ?_
 refine iZ 2 (.agg (aP V.of)) rfl (fun w1 hl=>?_) ?_
 ·exact EX 22 _ rfl w.heap.size 0 rfl (HF.out w1 hl).1.x9 Tryz.underlying22 rfl (by rw[Array.length_toList,aT];rfl)
 simp only[List.getElem_toArray,List.getElem_cons_zero,List.getElem_cons_succ,Act.put,List.setIfInBounds_toArray,List.set_cons_zero,List.set_cons_succ]
 refine pl [3,4,5,6,8,9] ?_
 repeat
  refine gU ?_ rfl (fun w1 hl=>?_) ?_
  rotate_left
  ·obtain⟨x0,x1,x2,x3⟩:=(HF.out w1 hl).1.jV;have l0:=(HF.out w1 hl).1.lt;go_simp;try with_reducible rfl
  simp only[eA,eB,eC,Act.put,eD,eE,eF]
 refine dI ?_
 refine aW (t:=15) (i:=7) (by kernel_rfl) rfl (fun w1 hl K hK=>?_)
 obtain⟨hX,hS,hB⟩:=HF.out w1 hl
 clear hl HF
 go_simp
 refine(pV.out w1 hB).mono ?_
 rintro e w3 ⟨DC,BO,rfl,hoL,hbL⟩
 refine hK.out _ _ (fun _=>hbL) ?_
 have akt:=hoL.mono (show sb+1≤w1.heap.size from hS.lt)
 have fO:=hX.kept hbL
 have hS3:=hS.kept hbL
 have hB3:=hB.trans (hbL.mono hB.size)
 clear hK K hX hS hB hbL hoL
 refine aW (t:=15) (i:=10) (by kernel_rfl) rfl (fun w1 hl K hK=>?_)
 have aku:=akt.kept hl
 have iw:=fO.kept hl
 have hS4:=hS3.kept hl
 have hB4:=hB3.trans (hl.mono hB3.size)
 clear hl akt fO hS3 hB3
 go_simp
 refine(HCN.out w1 hB4).mono ?_
 rintro e w5 ⟨DF,DI,rfl,hoN,hbN⟩
 refine hK.out _ _ (fun _=>hbN) ?_
 have ae0:=hoN.mono (show sb+1≤w1.heap.size from hS4.lt)
 have ae1:=aku.kept hbN
 have Dk:=iw.kept hbN
 have hS5:=hS4.kept hbN
 have dG:=hB4.trans (hbN.mono hB4.size)
 clear hK K iw hS4 hB4 hbN hoN aku
 refine iZ 11 (.agg (au.cells ⟨V.of,V.width,none,0,0,DC,n,BO,DF,D.names.length,DI⟩)) rfl (fun w1 hl=>?_) ?_
 ·exact rX rfl (by rfl) (Zn V.of V.width DC DF n BO D.names.length DI)
 simp only[List.getElem_toArray,List.getElem_cons_zero,List.getElem_cons_succ,Act.put,List.setIfInBounds_toArray,List.set_cons_zero,List.set_cons_succ]
 refine pl [12,13,14] ?_
 repeat
  refine gU ?_ rfl (fun w1 hl=>?_) ?_
  rotate_left
  ·skip;go_simp;try with_reducible rfl
  simp only[eA,eB,eC,Act.put,eD,eE,eF]
 refine dI ?_
 refine aW (t:=15) (i:=15) (by kernel_rfl) rfl (fun w1 hl K hK=>?_)
 have hN0:lH (w1.setCells sb 0 (au.cells ⟨V.of,V.width,none,0,0,DC,n,BO,DF,D.names.length,DI⟩).toList) sb (sb+1) ⟨V.of,V.width,none,0,0,DC,n,BO,DF,D.names.length,DI⟩ tz D []:=by
  have ho:=oV (b:=sb) (au.cells ⟨V.of,V.width,none,0,0,DC,n,BO,DF,D.names.length,DI⟩).toList 0 w1
  exact⟨(hS5.kept hl).aoH _,SE.out,HWV.out,(ae1.kept hl).bW fun g hg=>ho.1 g (by have:=(ae1.bC g hg).1;omega),(ae0.kept hl).bW fun g hg=>ho.1 g (by have:=(ae0.bC g hg).1;omega),[],Own.nil _ _ _ _ _,rfl,fun i h1=>by simp at h1⟩
 have vM:Box (w1.setCells sb 0 (au.cells ⟨V.of,V.width,none,0,0,DC,n,BO,DF,D.names.length,DI⟩).toList) w.heap.size V.cells 27:=((oV (b:=sb) _ 0 w1).1 _ (by omega)).trans (Dk.kept hl)
 have ni:Below w.heap.size w (w1.setCells sb 0 (au.cells ⟨V.of,V.width,none,0,0,DC,n,BO,DF,D.names.length,DI⟩).toList):=by
  obtain⟨o1,o2,o3,o4,o5⟩:=oV (b:=sb) (au.cells ⟨V.of,V.width,none,0,0,DC,n,BO,DF,D.names.length,DI⟩).toList 0 w1
  have hB1:=dG.trans (hl.mono dG.size)
  exact⟨o3.trans hB1.os,o4.trans hB1.tape,o5.trans hB1.output,by rw[o2];exact hB1.size,fun b hb=>(o1 b (by omega)).trans (hB1.block b hb)⟩
 refine dD (by rfl) ?_
 refine wp_store_mid 27 _ _ rfl sb 0 _ rfl rfl ((hS5.kept hl).ako _) (aZ _) (au.all _) ?_
 refine hK.out _ _ (fun h=>absurd rfl h) ?_
 clear hK K hl hS5 ae1 ae0 Dk dG
 simp only[List.getElem_toArray,List.getElem_cons_zero,List.getElem_cons_succ,Act.put,List.setIfInBounds_toArray,List.set_cons_zero,List.set_cons_succ]
 generalize w1.setCells sb 0 (au.cells ⟨V.of,V.width,none,0,0,DC,n,BO,DF,D.names.length,DI⟩).toList=W6 at *
 refine aQ (by kernel_rfl) (fun w1 hl=>?_) _
 have hN7:=hN0.kept hl
 have Jh:=vM.kept hl
 have kM:=ni.trans (hl.mono ni.size)
 clear hN0 vM ni hl
 have y1:w1.cell? ⟨w.heap.size,257,none⟩=some (.slice (some ⟨nb,no,none⟩) n V.nc):=by rw[Jh.jV.2.1,HM.out.na,HM.out.nn]
 have l1:=Jh.lt
 have HN7:=ah hN7;have HX7:=ah Jh;have Nl:=ah kM
 have hnc:=HM.out.nc
 have hnx:D.next.length=n:=by rw[HW.out.nx,HM.out.nl]
 clear hN7 Jh kM
 go_wp2_with fail
 go_loopw [32] (fun i wr=>∃ (k c:Nat) (a:Option Addr),k≤n∧i=.int .i64 k∧lH wr sb (sb+1) ⟨V.of,V.width,a,k,c,DC,n,BO,DF,D.names.length,DI⟩ tz D (D.next.take k)∧Box wr w.heap.size V.cells 27∧Below w.heap.size w wr) (fun i _=>n - (intOf i).toNat)
 case atStart=>exact⟨0,0,none,Nat.zero_le _,rfl,by rw[List.take_zero];exact HN7.out,HX7.out,Nl.out⟩
 case round =>
  clear y1 l1
  obtain⟨k,c,a,hk,rfl,hN,hX,hB⟩:=hrel
  by_cases hlt:k<n
  ·have hc0:=HM.out.row k hlt wr hB
   have hbl:=World.block_lt_of_cell? wr _ hc0
   have hki:(k:Int)<(n:Int):=by omega
   have hk0:(0:Int)≤(k:Int):=by omega
   have hcr:=HCR.out k hlt
   have htk:D.next.take (k+1)=D.next.take k++[D.next.getD k []]:=by
    rw[List.getD_eq_getElem?_getD,List.getElem?_eq_getElem (by rw[hnx];exact hlt),Option.getD_some];exact List.take_succ_eq_append_getElem _
   have uz:=ah htk
   have hrow:(D.next.getD k []).length=wd:=by
    rw[List.getD_eq_getElem?_getD,List.getElem?_eq_getElem (by rw[hnx];exact hlt),Option.getD_some]
    have:=HW.out.JU _ (List.getElem_mem (show k<D.next.length by rw[hnx];exact hlt))
    have:=HM.out.wide
    omega
   have hcr2:Hid (∀ u:World,Below w.heap.size w u→Calls Tryz.prog 80 #[.slice (some ⟨rb k,ro k,none⟩) wd (rc k)] u (fun e w'=>∃ a c,e=.returned (.slice a wd c)∧Own w' u.heap.size 3 1 encI (.slice a wd c) (D.next.getD k [])∧Below u.heap.size u w')):=ah fun u hu=>by
    have:=hcr u hu
    unfold gV at this
    rwa[hrow] at this
   have hnl:(D.next.take k).length=k:=by rw[List.length_take];omega
   have HN:=ah hN;have HX:=ah hX;have HB:=ah hB;have GH:=ah hnl
   clear hN hX hB hcr htk hrow hnl
   go_wp2_with fail
   have HF2:Hid (∀ u,Later wr.drew u→lH u sb (sb+1) ⟨V.of,V.width,a,k,c,DC,n,BO,DF,D.names.length,DI⟩ tz D (D.next.take k)∧Box u w.heap.size V.cells 27∧Below w.heap.size w u):=ah fun u hu=>by
    have h1:Below wr.heap.size wr u:=((Below.refl _ _).drew).trans (hu.mono (Nat.le_refl _))
    exact⟨HN.out.kept h1,HX.out.kept h1,HB.out.trans (h1.mono HB.out.size)⟩
   clear HN HX HB hc0 hbl
   refine jq (R:=Later) [10,15] (by kernel_rfl) ?_
   refine pl [0,1,2,3,4,5] ?_
   repeat
    refine qV ?_ rfl (fun w1=>?_) ?_
    rotate_left
    ·go_simp;try with_reducible rfl
    simp only[eA,eB,eC,Act.put,eD,eE,eF]
   refine dI ?_
   refine EJ 6 ?_ rfl (fun w1 hl=>?_) ?_
   rotate_left
   ·obtain⟨hN,_,_⟩:=HF2.out w1 hl;have c1:w1.cell? ⟨sb,257,none⟩=some (.slice a k c):=(hN.box.cell 257).trans ((tV _ _ _ (by decide)).trans (au.uS _));have lb1:=hN.box.lt;go_simp;try with_reducible rfl
   simp only[eA,eB,eC,Act.put,eD,eE,eF]
   refine QK 7 ?_ rfl (fun w1=>?_) ?_
   rotate_left
   ·go_simp;try with_reducible rfl
   simp only[eA,eB,eC,Act.put,eD,eE,eF]
   refine fH (T:=[10,15]) (i:=8) (by kernel_rfl) rfl (fun w1 hl K hK=>?_)
   obtain⟨hN,hX,hB⟩:=HF2.out w1 hl
   clear hl HF2
   go_simp
   refine(hcr2.out w1 hB).mono ?_
   rintro e w3 ⟨a2,c2,rfl,hoR,hbR⟩
   refine hK.out _ _ (fun _=>hbR) ?_
   have akv:=hoR.mono (show sb+1≤w1.heap.size from hN.box.lt)
   have hN3:=hN.kept hbR
   have fO:=hX.kept hbR
   have hB3:=hB.trans (hbR.mono hB.size)
   clear hK K hN hX hB hbR hoR
   refine fH (T:=[10,15]) (i:=9) (by kernel_rfl) rfl (fun w1 hl K hK=>?_)
   have akw:=akv.kept hl
   have hN4:=hN3.kept hl
   have iw:=fO.kept hl
   have hB4:=hB3.trans (hl.mono hB3.size)
   clear hl akv hN3 fO hB3
   go_simp
   refine hK.out _ _ (fun _=>aj _ _) ?_
   have hsl:=pR ED w1 24 [(a2,wd,c2)] (by simp[maxLen])
   have hal:=aj w1 (.cells #[.slice a2 wd c2] 24)
   have akx:=akw.kept hal
   have Xb:=hN4.kept hal
   have Dk:=iw.kept hal
   have dG:=hB4.trans (hal.mono hB4.size)
   clear hK K akw hN4 iw hB4 hal
   refine fH (T:=[10,15]) (i:=10) (by kernel_rfl) rfl (fun w1 hl K hK=>?_)
   have aky:=akx.kept hl
   have Qe:=Xb.kept hl
   have vM:=Dk.kept hl
   have ni:=dG.trans (hl.mono dG.size)
   have hnw:=C9 (hsl.kept hl)
   clear hsl hl akx Xb Dk dG
   obtain⟨rows,h1,h2,h3⟩:=Qe.Xn
   have hrl:rows.length=k:=h2.trans GH.out
   have asc:=Qe.box.lt
   refine dD (by rfl) ?_
   refine nN _ _ 23 rfl Zl ED rfl h1 _ 1 (a2,wd,c2) rfl hnw (by simp[maxLen];omega) (by omega) (by omega) ?_
   intro a' cap' w' ho hg hfr
   refine hK.out _ _ (fun h=>absurd h (by decide)) ?_
   clear hK K hnw hfr
   simp only[List.getElem_toArray,List.getElem_cons_zero,List.getElem_cons_succ,Act.put,List.setIfInBounds_toArray,List.set_cons_zero,List.set_cons_succ]
   rw[hrl] at ho ⊢
   have oP:=Qe.box.iL h1 hg (by decide)
   have Jh:=vM.iL h1 hg (by decide)
   have kM:Below w.heap.size w w':=⟨hg.os.trans ni.os,hg.tape.trans ni.tape,hg.output.trans ni.output,Nat.le_trans ni.size hg.size,fun b hb=>(hg.block b (by have:=ni.size;omega) (fun e=>by have:=(h1.bC b e.symm).1;omega)).trans (ni.block b hb)⟩
   have HR7:Hid (∀ u,Later w' u→lH (u.setCell ⟨sb,257,none⟩ (.slice a' (k+1) cap')) sb (sb+1) ⟨V.of,V.width,a',k+1,cap',DC,n,BO,DF,D.names.length,DI⟩ tz D (D.next.take k++[D.next.getD k []])):=ah fun u hu=>Qe.row (Nat.lt_succ_self _) h1 h2 h3 hg ho aky hu
   clear Qe h1 h2 h3 hg ho aky vM ni hrl
   refine pl [11,12,13,14] ?_
   repeat
    refine qV ?_ rfl (fun w1=>?_) ?_
    rotate_left
    ·go_simp;try with_reducible rfl
    simp only[eA,eB,eC,Act.put,eD,eE,eF]
   refine dI ?_
   refine fH (T:=[10,15]) (i:=15) (by kernel_rfl) rfl (fun w1 hl K hK=>?_)
   have Zo:=oP.kept hl
   have Ug:=Jh.kept hl
   have uX:=kM.trans (hl.mono kM.size)
   have hN8:=HR7.out w1 hl
   have c1:w1.cell? ⟨sb,257,none⟩=some (.slice a k c):=(Zo.cell 257).trans ((tV _ _ _ (by decide)).trans (au.uS _))
   have f1:=Zo.free 257
   have lb1:=Zo.lt
   have hX9:=Ug.other ⟨sb,257,none⟩ (.slice a' (k+1) cap') (by show w.heap.size≠sb;omega)
   have jE:Below w.heap.size w (w1.setCell ⟨sb,257,none⟩ (.slice a' (k+1) cap')):=uX.setCell (by show w.heap.size≤sb;omega) _
   clear hl Zo oP HR7 Jh Ug kM uX
   go_simp
   refine hK.out _ _ (fun h=>absurd h (by decide)) ?_
   clear hK K c1 f1 lb1
   rw[←uz.out] at hN8
   generalize w1.setCell ⟨sb,257,none⟩ (.slice a' (k+1) cap')=W9 at *
   refine nK (by kernel_rfl) (fun w1 hl=>?_) _
   have akA:=hN8.kept hl
   have akB:=hX9.kept hl
   have YZ:=jE.trans (hl.mono jE.size)
   have aoI:=ah akA;have aoJ:=ah akB;have aoK:=ah YZ
   have hw1:IntKind.i64.wrap ((k:Int)+1)=(k:Int)+1:=IntWalk.i64_in _ (by omega)
   clear hN8 hX9 jE akA akB YZ hl uz hcr2
   go_wp2
   exact⟨⟨k+1,cap',a',hlt,by push_cast;rfl,aoI.out,aoJ.out,aoK.out⟩,by simp[intOf];omega⟩
  ·obtain rfl:k=n:=by omega
   rw[List.take_of_length_le (by omega)] at hN
   have q2:wr.cell? ⟨w.heap.size,258,none⟩=some (.slice V.la k V.lc):=by rw[hX.jV.2.2.1,HM.out.ln]
   have lx:=hX.lt
   have hvs:=hN.box.lt
   have HN:=ah hN;have HX:=ah hX;have HB:=ah hB
   clear hN hX hB
   go_wp2_with (first | (refine qU rfl 119 _ _ rfl Pq S9 false rfl k rfl rfl (by omega) (by simp only[maxLen];omega) (sb+1) (by omega) ?_;intro w3 LM hw3;have hb3:Below wr.heap.size wr w3:=by { rw[hw3];exact aj _ _ };have hs3:w3.heap.size=wr.heap.size+1:=by { rw[hw3,World.size_alloc] };have hN3:=HN.out.kept hb3;have q3:w3.cell? ⟨sb,260,none⟩=some (.slice none 0 0):=hN3.box.dH 0;have f3:=hN3.box.free 260;have l3:=hN3.box.lt;have hN4:lH (w3.setCell ⟨sb,260,none⟩ (.slice (some ⟨wr.heap.size,0,none⟩) k k)) sb (sb+1) _ (tzL wr.heap.size k) D D.next:=hN3.mV (Nat.lt_succ_self _) 0 (.slice (some ⟨wr.heap.size,0,none⟩) k k);have iw:Box (w3.setCell ⟨sb,260,none⟩ (.slice (some ⟨wr.heap.size,0,none⟩) k k)) w.heap.size V.cells 27:=(HX.out.kept hb3).other _ _ (by show w.heap.size≠sb;omega);have hB4:Below w.heap.size w (w3.setCell ⟨sb,260,none⟩ (.slice (some ⟨wr.heap.size,0,none⟩) k k)):=(HB.out.trans (hb3.mono HB.out.size)).setCell (by show w.heap.size≤sb;omega) _;have hm4:=LM.other ⟨sb,260,none⟩ (.slice (some ⟨wr.heap.size,0,none⟩) k k) (Nat.lt_succ_self _);have HN4:=ah hN4;have HB4:=ah hB4;have HM4:=ah hm4;clear hw3 LM hb3 hN3 hN4 hB4 hm4 HN HX HB q2) | (refine aI (by rfl) 27 _ rfl w.heap.size rfl _ _ _ _ iw Tryz.underlying27 rfl (aZ _) ?_) | (go_at_call 82;go_must (refine(yS.out _ HB4.out).mono ?_;rintro e w6 ⟨la6,lc6,rfl,wo,hb6⟩)))
   have Qe:=HN4.out.kept hb6
   have ni:=HB4.out.trans (hb6.mono HB4.out.size)
   have PW:=HM4.out.kept hb6
   rw[←Tc] at PW
   have hvl:=PW.blk (g:=wr.heap.size) rfl
   have D8:(w3.setCell ⟨sb,260,none⟩ (.slice (some ⟨wr.heap.size,0,none⟩) k k)).heap.size=wr.heap.size+1:=by rw[World.size_setCell,hs3]
   obtain⟨_,hlc,Oa,g,hga,hgx⟩:=wo.Mc
   have akC:∀ j,j<(qP D).length→g≠wr.heap.size:=fun j hj e=>by
    have h1:=wo.blk (g:=g) (by rw[(hga j hj).1];rfl)
    omega
   have HN6:=ah Qe;have Px:=ah ni;have Ui:=ah PW;have Gw:=ah hga;have WH:=ah hgx;have HGN:=ah akC
   generalize hL:qP D=L at Gw WH HGN HLT hlc hlen ⊢
   have HLQ:=ah hL
   obtain⟨m,hm⟩:∃ m,L.length=m:=⟨_,rfl⟩
   have HLEN:=ah hm
   simp only[hm] at hlc hlen ⊢
   clear Qe ni PW hga hgx akC hm wo iw hb6 hvl HN4 HB4 HM4 hL D8 q3 f3 l3 hs3
   generalize wr.heap.size=vb at *
   go_loopw [63] (fun i wq=>∃ q:Nat,q≤m∧i=.int .i64 q∧lH wq sb (sb+1) ⟨V.of,V.width,a,k,c,DC,k,BO,DF,D.names.length,DI⟩ (tzL vb k) D D.next∧Own wq (sb+1) 4 1 Ie (.slice (some ⟨vb,0,none⟩) k k) (rO k (L.take q))∧Below w.heap.size w wq∧∀ b,b≠vb→wq.heap[b]?=w6.heap[b]?) (fun i _=>m - (intOf i).toNat)
   case atStart=>exact⟨0,Nat.zero_le _,rfl,HN6.out,by rw[List.take_zero];exact Ui.out,Px.out,fun _ _=>rfl⟩
   case round =>
    obtain⟨q,hq,rfl,hN,UF,hB,hk6⟩:=hrel
    by_cases hqm:q<m
    ·have hlk:q<L.length:=by rw[HLEN.out];exact hqm
     obtain⟨rfl,hgl⟩:=Gw.out q hlk
     have c0:=WH.out wr q hlk (hk6 g (HGN.out q hlk))
     have hsn:=HLT.out _ (List.getElem_mem hlk)
     have htk:L.take (q+1)=L.take q++[L[q]]:=List.take_succ_eq_append_getElem hlk
     generalize L[q]=s at *
     have hcbl:=World.block_lt_of_cell? wr _ c0
     have hsl:=qE k (L.take q)
     obtain⟨g1,g2,g3,g4⟩:=UF.cellAt (i:=s) (j:=0) (by rw[hsl];exact hsn) (by decide)
     rw[show s*1+0=s by omega] at g1 g2
     have g1':wr.cell? ⟨vb,s,none⟩=some (.bool ((rO k (L.take q))[s]'(by rw[hsl];exact hsn))):=by rw[g1];rfl
     have hlive:wr.cell? ⟨sb,260,none⟩=some (.slice (some ⟨vb,0,none⟩) k k):=hN.box.dH 0
     have hcl:=hN.box.lt
     obtain⟨_,cv,hbv⟩:=UF.block vb rfl
     have hN2:=hN.bool hbv s (.bool true)
     have hM2:=UF.store1 (i:=s) (j:=0) (by rw[hsl];exact hsn) (by decide) true (.bool true) (fun k hk=>by
      have hk0:k=0:=Nat.lt_one_iff.1 hk
      subst hk0
      rfl)
     rw[JX,show s*1+0=s by omega,←htk] at hM2
     have hB2:Below w.heap.size w (wr.setCell ⟨vb,s,none⟩ (.bool true)):=hB.setCell (by show w.heap.size≤vb;omega) _
     have IK:=ah hN2;have Lj:=ah hM2;have HB2:=ah hB2;have SL:=ah hk6
     have hki:(q:Int)<(m:Int):=by omega
     have hk0:(0:Int)≤(q:Int):=by omega
     have hsi:(s:Int)<(k:Int):=by omega
     have hs0:(0:Int)≤(s:Int):=by omega
     clear hN UF hB hk6 htk hN2 hM2 hB2 g1 hbv
     go_wp2
     exact⟨⟨q+1,hqm,by push_cast;rfl,IK.out,Lj.out,HB2.out,fun b hb=>(heap_setCell_other _ _ _ _ hb).trans (SL.out b hb)⟩,by simp[intOf];omega⟩
    ·obtain rfl:q=m:=by omega
     rw[←HLEN.out,List.take_length,←HLQ.out] at UF
     have IK:=ah hN;have Lj:=ah UF;have HB2:=ah hB
     clear hN UF hB hk6
     go_wp2
     go_ret2
     have hnl:=HM.out.nl
     obtain⟨wd',lb',lo',nb',no',rb',ro',rc',hR⟩:=aeZ IK.out HW.out (show sb<vb by omega) (by rw[hnl];exact Lj.out)
     refine⟨sb,vb,_,wd',lb',lo',nb',no',rb',ro',rc',rfl,by omega,IK.out.box.lt,hR,⟨⟨Nat.le_refl _,fun _ _ _=>rfl⟩,none,0,0,0,0,(0,0),iK.nil _ _,fun ad e=>(by cases e),?_,fun _=>⟨Nat.le_refl _,rfl,rfl,fun i h1 h2=>by omega⟩⟩,HB2.out⟩
     rw[hnl];exact IK.out.box
end
end Go.Proofs.YtbemonecmmnlcaaGreatDoor
