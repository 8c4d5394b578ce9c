/- The texts of S29, in few letters (mini.py). -/
import Derived.Test.YtbemonecmmnlcaaGreatDoorM28
import Derived.Lib.SlBytesConst
set_option linter.unusedVariables false
set_option linter.unusedSimpArgs false
set_option maxRecDepth 20000
set_option maxHeartbeats 6400000
namespace Go.Proofs.YtbemonecmmnlcaaGreatDoor
section
open Go.RowKit
theorem aP.slice{α:Type}{g:Nat}{w w':World}{a:Option Addr}{n cap size:Nat}{enc:α→List Value}{xs:List α}(k:aP g w w')(h:ak w (.slice a n cap) size enc xs)(hg:∀ ad,a=some ad→ad.block≠g):ak w' (.slice a n cap) size enc xs :=
 h.Au fun ad ha hl=>k.block _ hl (hg ad ha)
def iE(D:aF)(l:List UInt8):Int×Nat:=(dZ D 0 l).getD (0,0)
theorem Vq(D:aF)(l:List UInt8)(b:UInt8)(m:Nat)(hm:m=l.length+1):EN D (mV D (bK D 0 l) b) m (iE D l)=iE D (l++[b]):=by
 subst hm
 unfold iE EN
 rw[IQ,Lp]
 by_cases h:labS D (mV D (bK D 0 l) b)=0
 ·rw[if_pos h,if_pos h]
 ·rw[if_neg h,if_neg h];rfl
theorem aaY(sb:Nat)(V:au)(w:World)(lv:Value)(s:Nat)(r:Int×Nat)(x:List Value)(hb:Box w sb (sC V (lv::gG s r++x)) 123) :
  Calls Tryz.prog 168 #[.pointer (some ⟨sb,0,none⟩)] w fun e w'=>e=.returned (.tuple #[])∧Box w' sb (sC V (lv::gG 0 (0,0)++x)) 123∧aP sb w w':=by
 obtain⟨k,b⟩:=r
 have h1:=hb.oh 1 (.int .i64 0)
 have h2:=h1.oh 2 (.int .i64 0)
 have h3:Box _ sb (sC V (lv::gG 0 (0,0)++x)) 123:=h2.oh 3 (.int .i64 0)
 have hO:=(((aP.refl sb w).set 261 (.int .i64 0)).set 262 (.int .i64 0)).set 263 (.int .i64 0)
 have l0:=hb.lt
 have f1:=hb.free 261
 have f2:=h1.free 262
 have f3:=h2.free 263
 have q1:w.cell? ⟨sb,261,none⟩=some (.int .i64 s):=hb.fV 1
 have q2:(w.setCell ⟨sb,261,none⟩ (.int .i64 0)).cell? ⟨sb,262,none⟩=some (.int .i64 k):=h1.fV 2
 have q3:((w.setCell ⟨sb,261,none⟩ (.int .i64 0)).setCell ⟨sb,262,none⟩ (.int .i64 0)).cell? ⟨sb,263,none⟩=some (.int .i64 b):=h2.fV 3
 have H3:=ah h3;have HO:=ah hO
 clear hb h1 h2 h3 hO
 go_enter Tryz.func168,Tryz.ntmps168
 go_wp2
 go_end0
 exact⟨rfl,H3.out,HO.out⟩
def Ep(sb:Nat)(w:World):Nat:=match w.cell? ⟨sb,266,none⟩ with
 | some v=>(intOf v).toNat
 | none=>0
def resT(hv:Value)(at_ seen:Nat)(en sk:Bool):List Value:=[hv,.int .i64 at_,.int .i64 seen,.bool en,.bool sk]
theorem adu(sb top vb:Nat)(V:au)(D:aF)(w0 w:World)(n wd lb lo nb no:Nat)(rb ro rc:Nat→Nat)(hM:zq (Mid sb top w0) V D n wd lb lo nb no vb rb ro rc)(hB:Mid sb top w0 w)
  (held:List UInt8) (ha:Option Addr) (m hc:Nat) (hH:ak w (.slice ha m hc) 1 bT held) (hne:∀ ad,ha=some ad→ad.block≠sb) (at_ j:Nat) (en sk:Bool) (hj:j≤m)
  (hb:Box w sb (sC V (.slice (some ⟨vb,0,none⟩) n n::gG (bK D 0 (held.take j)) (iE D (held.take j))++resT (.slice ha m hc) at_ j en sk)) 123) :
  Calls Tryz.prog 126 #[.pointer (some ⟨sb,0,none⟩)] w fun e w'=>∃ j',j≤j'∧j'≤m∧aP sb w w' ∧
   Box w' sb (sC V (.slice (some ⟨vb,0,none⟩) n n::gG (bK D 0 (held.take j')) (iE D (held.take j'))++resT (.slice ha m hc) at_ j' en sk)) 123∧(∀ i,j<i→i<j'→gV D (bK D 0 (held.take i))=true) ∧
   ((e=.returned (.bool true)∧j<j'∧gV D (bK D 0 (held.take j'))=false)∨(e=.returned (.bool en)∧j'=m∧(j<j'→gV D (bK D 0 (held.take j'))=true))):=by
 have hrun:∀ i,bK D 0 (held.take i)<n:=fun i=>by
  have:∀ (l:List UInt8) (s:Nat),s<n→bK D s l<n:=by
   intro l
   induction l with
   | nil=>intro s h;exact h
   | cons b l ih=>intro s h;rw[rH];exact ih _ (hM.lt s h _ (hM.of _ b.toNat_lt))
  exact this _ 0 (by have:=hM.Lm;omega)
 obtain⟨hbk,ho,hml,hcc,anJ,SH,_⟩:=hH.dG (f:=fun x:UInt8=>Value.int .u8 (x.toNat:Nat))
 have RJ:Hid (∀ u,aP sb w u→∀ i (h:i<held.length),u.cell? ⟨hbk,ho+i,none⟩=some (.int .u8 ((held[i]).toNat:Nat))):=ah fun u hu i h=>by
  obtain⟨b2,o2,_,_,_,ha2,hx2⟩:=(hu.slice hH hne).dG (f:=fun x:UInt8=>Value.int .u8 (x.toNat:Nat))
  have e1:=SH i h
  have e2:=ha2 i h
  rw[e1] at e2
  cases e2
  exact hx2 i h u (Below.refl _ _)
 have HAA:=ah SH;have akp:=ah hrun;have HM:=ah hM;have HB:=ah hB;have I7:=ah hml
 have hmb:m≤9223372036854775807:=by omega
 have htk:Hid (∀ i (h:i<held.length),held.take (i+1)=held.take i++[held[i]]):=ah fun i h=>by rw[List.take_add_one,List.getElem?_eq_getElem h];rfl
 have HB0:=ah hb
 clear hH hne hM hB SH hrun hb hml
 go_enter Tryz.func126,Tryz.ntmps126
 go_wp2_with fail
 go_loopw [] (fun wr=>∃ i,j≤i∧i≤m∧aP sb w wr∧Box wr sb (sC V (.slice (some ⟨vb,0,none⟩) n n::gG (bK D 0 (held.take i)) (iE D (held.take i))++resT (.slice ha m hc) at_ i en sk)) 123∧∀ q,j<q→q≤i→gV D (bK D 0 (held.take q))=true) (fun wr=>m - Ep sb wr)
 case atStart=>exact⟨j,Nat.le_refl _,hj,aP.refl _ _,HB0.out,fun q h1 h2=>by omega⟩
 case round =>
  obtain⟨i,hi1,hi2,hO,hbx,hlv⟩:=hrel
  have hms:m - Ep sb wr=m - i:=by
   unfold Ep
   rw[show wr.cell? ⟨sb,266,none⟩=some (.int .i64 i) from hbx.fV 6]
   simp[intOf]
  rw[hms]
  have Tc:Hid (∀ u,Later wr.drew u→Box u sb (sC V (.slice (some ⟨vb,0,none⟩) n n::gG (bK D 0 (held.take i)) (iE D (held.take i))++resT (.slice ha m hc) at_ i en sk)) 123∧u.cell? ⟨sb,266,none⟩=some (.int .i64 i)∧u.cell? ⟨sb,264,none⟩=some (.slice ha m hc)∧u.cell? ⟨sb,267,none⟩=some (.bool en)∧aP sb w u):=ah fun u hu=>by
   have h1:Below wr.heap.size wr u:=((Below.refl _ _).drew).trans (hu.mono (Nat.le_refl _))
   have hb2:=hbx.kept h1
   exact⟨hb2,hb2.fV 6,hb2.fV 4,hb2.fV 7,hO.trans (aP.below h1)⟩
  have Ej:=ah hlv
  clear hbx hO hlv hms HB0
  go_wp2_with fail
  refine aW (R:=Later) 10 (by kernel_rfl) ?_
  refine pl [0,1,2,3,4,5,6,7,8,9] ?_
  repeat
   refine jW ?_ rfl (fun w1 hl=>?_) ?_
   rotate_left
   ·obtain⟨hbx,q0,q1,_,_⟩:=Tc.out w1 hl;have l0:=hbx.lt;go_simp;try with_reducible rfl
   simp only[eA,eB,eC,Act.put,eD,eE,eF]
  refine eX ?_
  refine bC (by kernel_rfl) (fun w1 hl=>?_) _
  obtain⟨hbx,_,_,q3,hO⟩:=Tc.out w1 hl
  clear Tc hl
  by_cases hlt:i<m
  ·have hlen:i<held.length:=by rw[←I7.out];exact hlt
   obtain rfl:=HAA.out i hlen
   have hby:=fun u hu=>RJ.out u hu i hlen
   have agw:=htk.out i hlen
   have hii:(i:Int)<(m:Int):=by omega
   have hi0:(0:Int)≤(i:Int):=by omega
   have hw1:IntKind.i64.wrap ((i:Int)+1)=(i:Int)+1:=IntWalk.i64_in _ (by omega)
   have HF2:Hid (∀ u,Later w1.drew u→Box u sb (sC V (.slice (some ⟨vb,0,none⟩) n n::gG (bK D 0 (held.take i)) (iE D (held.take i))++resT (.slice (some ⟨hbk,ho,none⟩) m hc) at_ i en sk)) 123∧u.cell? ⟨sb,266,none⟩=some (.int .i64 i)∧u.cell? ⟨sb,264,none⟩=some (.slice (some ⟨hbk,ho,none⟩) m hc)∧u.cell? ⟨hbk,ho+i,none⟩=some (.int .u8 ((held[i]).toNat:Nat))∧aP sb w u):=ah fun u hu=>by
    have h1:Below w1.heap.size w1 u:=((Below.refl _ _).drew).trans (hu.mono (Nat.le_refl _))
    have hb2:=hbx.kept h1
    have hO2:=hO.trans (aP.below h1)
    exact⟨hb2,hb2.fV 6,hb2.fV 4,hby u hO2,hO2⟩
   have wF:=ah agw
   clear hbx hO hby q3 agw
   generalize held[i]=c at *
   go_wp2_with fail
   refine aW (R:=Later) 11 (by kernel_rfl) ?_
   refine pl [0,1,2,3,4,5,6,7,8,9,10] ?_
   repeat
    refine jW ?_ rfl (fun w1 hl=>?_) ?_
    rotate_left
    ·obtain⟨hbx,q0,q1,q2,_⟩:=HF2.out w1 hl;have l0:=hbx.lt;have l1:=World.block_lt_of_cell? w1 _ q2;go_simp;try with_reducible rfl
    simp only[eA,eB,eC,Act.put,eD,eE,eF]
   refine eX ?_
   refine bC (by kernel_rfl) (fun w1 hl=>?_) _
   obtain⟨hbx,q0,_,_,hO⟩:=HF2.out w1 hl
   have l0:=hbx.lt
   have f0:=hbx.free 266
   have hb3:Box (w1.setCell ⟨sb,266,none⟩ (.int .i64 ((i:Int)+1))) sb (sC V (.slice (some ⟨vb,0,none⟩) n n::gG (bK D 0 (held.take i)) (iE D (held.take i))++resT (.slice (some ⟨hbk,ho,none⟩) m hc) at_ (i+1) en sk)) 123:=hbx.oh 6 (.int .i64 ((i:Int)+1))
   have hO3:=hO.set 266 (.int .i64 ((i:Int)+1))
   have HB3:=ah hb3;have HO3:=ah hO3
   clear HF2 hl hbx hO hb3 hO3
   go_wp2_with fail
   generalize w1.setCell ⟨sb,266,none⟩ (.int .i64 ((i:Int)+1))=w2 at *
   have SY:Hid (∀ u,Later w2.drew u→Box u sb (sC V (.slice (some ⟨vb,0,none⟩) n n::gG (bK D 0 (held.take i)) (iE D (held.take i))++resT (.slice (some ⟨hbk,ho,none⟩) m hc) at_ (i+1) en sk)) 123∧u.cell? ⟨sb,266,none⟩=some (.int .i64 ((i+1:Nat):Int))∧aP sb w u):=ah fun u hu=>by
    have h1:Below w2.heap.size w2 u:=((Below.refl _ _).drew).trans (hu.mono (Nat.le_refl _))
    have hb2:=HB3.out.kept h1
    exact⟨hb2,hb2.fV 6,HO3.out.trans (aP.below h1)⟩
   clear HB3 HO3 q0 l0 f0
   refine iQ (R:=Later) [8,8] (by kernel_rfl) ?_
   refine pl [0,1,2,3,4,5,6] ?_
   repeat
    refine oM ?_ rfl (fun w1=>?_) ?_
    rotate_left
    ·go_simp;try with_reducible rfl
    simp only[eA,eB,eC,Act.put,eD,eE,eF]
   refine eX ?_
   refine Ce 7 ?_ rfl (fun w1 hl=>?_) ?_
   rotate_left
   ·obtain⟨hbx,q0,_⟩:=SY.out w1 hl;have l0:=hbx.lt;go_simp;try with_reducible rfl
   simp only[eA,eB,eC,Act.put,eD,eE,eF]
   refine dP (T:=[8,8]) (i:=8) (by kernel_rfl) rfl (fun w1 hl K hK=>?_)
   obtain⟨hbx,q0,hO⟩:=SY.out w1 hl
   have l0:=hbx.lt
   clear hl SY
   go_simp
   refine(adt sb top vb V D w0 w1 n wd lb lo nb no rb ro rc HM.out (HB.out.only hO) 0 _ _ _ rfl hbx (akp.out i) c (i+1)).mono ?_
   rintro e wp ⟨rfl,hb5,Eo⟩
   have Jv:=hO.trans Eo
   have e1:mV D (bK D 0 (held.take i)) c=bK D 0 (held.take (i+1)):=by rw[wF.out,Lp]
   have e2:EN D (mV D (bK D 0 (held.take i)) c) (i+1) (iE D (held.take i))=iE D (held.take (i+1)):=by
    rw[wF.out]
    exact Vq D _ c _ (by rw[List.length_take,Nat.min_eq_left (Nat.le_of_lt hlen)])
   rw[e2,e1] at hb5
   rw[e1]
   obtain⟨lq,hlq⟩:∃ y,gV D (bK D 0 (held.take (i+1)))=y:=⟨_,rfl⟩
   have HLQ:=ah hlq
   rw[hlq]
   refine hK.out _ _ (fun h=>absurd h (by decide)) ?_
   clear hK K e1 e2 hlq hO Eo hbx q0 l0
   refine Nr 9 ?_ rfl (fun w1=>?_) ?_
   rotate_left
   ·go_simp;try with_reducible rfl
   simp only[eA,eB,eC,Act.put,eD,eE,eF]
   refine lC (by kernel_rfl) (fun w1 hl=>?_) _
   have hb6:=hb5.kept hl
   have Az:=Jv.trans (aP.below hl)
   have hsn:Ep sb w1=i+1:=by
    unfold Ep
    rw[show w1.cell? ⟨sb,266,none⟩=some (.int .i64 ((i+1:Nat):Int)) from hb6.fV 6]
    simp[intOf]
   have Lu:=ah hb6;have S9:=ah Az;have HSN:=ah hsn
   clear hb5 Jv hb6 Az hsn hl
   cases lq with
   | false =>
    go_wp2
    go_ret
    exact⟨i+1,by omega,hlt,S9.out,Lu.out,fun q h1 h2=>Ej.out q h1 (by omega),.inl ⟨rfl,by omega,HLQ.out⟩⟩
   | true =>
    go_wp2
    refine⟨⟨i+1,by omega,hlt,S9.out,Lu.out,fun q h1 h2=>?_⟩,by rw[HSN.out];omega⟩
    by_cases e:q=i+1
    ·rw[e];exact HLQ.out
    ·exact Ej.out q h1 (by omega)
  ·obtain rfl:i=m:=by omega
   have hii:¬ (i:Int)<(i:Int):=by omega
   have l0:=hbx.lt
   have FH:=ah hbx;have HO:=ah hO
   clear hbx hO
   go_wp2
   go_ret
   exact⟨i,hi1,Nat.le_refl _,HO.out,FH.out,fun q h1 h2=>Ej.out q h1 (Nat.le_of_lt h2),.inr ⟨rfl,rfl,fun h=>Ej.out i h (Nat.le_refl _)⟩⟩
end
section
open Go.RowKit
theorem Mc(sb:Nat)(V:au)(w:World)(lv:Value)(s:Nat)(k:Int)(ha:Option Addr)(m hc at_ seen:Nat)(en sk:Bool)(hb:Box w sb (sC V (lv::gG s (k,0)++resT (.slice ha m hc) at_ seen en sk)) 123) :
  Calls Tryz.prog 127 #[.pointer (some ⟨sb,0,none⟩)] w fun e w'=>e=.returned (.tuple #[.agg #[.int .i64 0,.int .i64 0,.int .i64 0],.bool false])∧Box w' sb (sC V (lv::gG s (k,0)++resT (.slice ha m hc) at_ seen en (decide (0<m)))) 123∧aP sb w w':=by
 have hal:=aj w (.cells #[.int .i64 0,.int .i64 0,.int .i64 0] 61)
 have hz:=Box.new w #[.int .i64 0,.int .i64 0,.int .i64 0] 61
 have h1:=hb.kept hal
 have hO1:=aP.below (g:=sb) hal
 have hlt:=hb.lt
 have h2:Box ((w.setCell ⟨sb,268,none⟩ (.bool (decide (0<m)))).alloc (.cells #[.int .i64 0,.int .i64 0,.int .i64 0] 61)) sb (sC V (lv::gG s (k,0)++resT (.slice ha m hc) at_ seen en (decide (0<m)))) 123:=(hb.oh 8 (.bool (decide (0<m)))).alloc _
 have hO2:aP sb w ((w.setCell ⟨sb,268,none⟩ (.bool (decide (0<m)))).alloc (.cells #[.int .i64 0,.int .i64 0,.int .i64 0] 61)):=((aP.refl sb w).set 268 (.bool (decide (0<m)))).trans (aP.below (aj _ _))
 have hz2:Box ((w.setCell ⟨sb,268,none⟩ (.bool (decide (0<m)))).alloc (.cells #[.int .i64 0,.int .i64 0,.int .i64 0] 61)) w.heap.size #[.int .i64 0,.int .i64 0,.int .i64 0] 61:=Box.new' (World.size_setCell _ _ _).symm _ _
 have q1:(w.alloc (.cells #[.int .i64 0,.int .i64 0,.int .i64 0] 61)).cell? ⟨sb,263,none⟩=some (.int .i64 0):=h1.fV 3
 have q2:(w.alloc (.cells #[.int .i64 0,.int .i64 0,.int .i64 0] 61)).cell? ⟨sb,264,none⟩=some (.slice ha m hc):=h1.fV 4
 have q3:(w.alloc (.cells #[.int .i64 0,.int .i64 0,.int .i64 0] 61)).cell? ⟨sb,268,none⟩=some (.bool sk):=h1.fV 8
 have f3:=h1.free 268
 have HZ2:=ah hz2;have H2:=ah h2;have HO2:=ah hO2
 have hd:decide ((0:Int)<(m:Int))=decide (0<m):=by simp
 clear hb h1 hO1 h2 hO2 hz2 hz hal
 go_enter Tryz.func127,Tryz.ntmps127
 go_wp2
 refine bodyPost_ret (fQ rfl _ _ w.heap.size 61 _ (.bool false) rfl rfl HZ2.out Tryz.underlying61 rfl (by kernel_rfl)) rfl ?_
 exact⟨rfl,H2.out,HO2.out⟩
end
section
open Go.RowKit
theorem aP.late{g:Nat}{w w':World}(h:aP g w w'){b:Nat}(hb:w.heap.size≤b)(i:Nat)(u:Value):aP g w (w'.setCell ⟨b,i,none⟩ u) :=
 ⟨h.os,h.tape,h.output,by rw[World.size_setCell];exact h.size,fun c hc hn=>(heap_setCell_other _ _ _ _ (by show c≠b;omega)).trans (h.block c hc hn)⟩
def uO(m t:Nat)(a:Option Addr):Option Addr:=if m=t then a else a.map fun x:Addr=>x.add t
theorem Vr(sb:Nat)(V:au)(w:World)(lv:Value)(s:Nat)(k:Int)(bt:Nat)(ha:Option Addr)(m hc at_ seen:Nat)(en sk:Bool)(hbt:0<bt)(hbm:bt≤m)(hmc:m≤hc)(hcc:hc≤9223372036854775807)(hat:at_+bt≤9223372036854775807)
  (hb:Box w sb (sC V (lv::gG s (k,bt)++resT (.slice ha m hc) at_ seen en sk)) 123) :
  Calls Tryz.prog 127 #[.pointer (some ⟨sb,0,none⟩)] w fun e w'=>e=.returned (.tuple #[.agg (Kw k at_ (at_+bt)),.bool true])∧Box w' sb (sC V (lv::gG 0 (0,0)++resT (.slice (uO m bt ha) (m - bt) (m - bt)) (at_+bt) 0 en sk)) 123∧aP sb w w':=by
 have hal:=aj w (.cells #[.int .i64 0,.int .i64 0,.int .i64 0] 61)
 have hz:=Box.new w #[.int .i64 0,.int .i64 0,.int .i64 0] 61
 have h1:=hb.kept hal
 have hO1:=aP.below (g:=sb) hal
 have hlt:=hb.lt
 have q1:(w.alloc (.cells #[.int .i64 0,.int .i64 0,.int .i64 0] 61)).cell? ⟨sb,263,none⟩=some (.int .i64 bt):=h1.fV 3
 have e0:((bt:Int)==0)=false:=by simp;omega
 have H1:=ah h1;have HO1:=ah hO1;have HZ:=ah hz
 clear hb h1 hO1 hz hal
 go_enter Tryz.func127,Tryz.ntmps127
 go_wp2_with fail
 clear q1
 generalize w.alloc (.cells #[.int .i64 0,.int .i64 0,.int .i64 0] 61)=W at *
 generalize hzb:w.heap.size=zb at *
 have HF:Hid (∀ u,Later W.drew u→Box u sb (sC V (lv::gG s (k,bt)++resT (.slice ha m hc) at_ seen en sk)) 123∧u.cell? ⟨sb,262,none⟩=some (.int .i64 k)∧u.cell? ⟨sb,263,none⟩=some (.int .i64 bt)∧u.cell? ⟨sb,265,none⟩=some (.int .i64 at_)∧Box u zb #[.int .i64 0,.int .i64 0,.int .i64 0] 61∧aP sb w u):=ah fun u hu=>by
  have h1:Below W.heap.size W u:=((Below.refl _ _).drew).trans (hu.mono (Nat.le_refl _))
  have hb2:=H1.out.kept h1
  exact⟨hb2,hb2.fV 2,hb2.fV 3,hb2.fV 5,HZ.out.kept h1,HO1.out.trans (aP.below h1)⟩
 have hw1:IntKind.i64.wrap ((at_:Int)+(bt:Int))=(at_:Int)+(bt:Int):=IntWalk.i64_in _ (by omega)
 refine aW (R:=Later) 21 (by kernel_rfl) ?_
 refine pl [0,1,2,3,4,5,6,7,8,9,10,11,12,13,14,15,16,17,18,19] ?_
 repeat
  refine jW ?_ rfl (fun w1 hl=>?_) ?_
  rotate_left
  ·obtain⟨hbx,q0,q1,q2,_⟩:=HF.out w1 hl;have l0:=hbx.lt;go_simp;try with_reducible rfl
  simp only[eA,eB,eC,Act.put,eD,eE,eF]
 refine eX ?_
 refine aQ (t:=21) (i:=20) (by kernel_rfl) rfl (fun w1 hl K hK=>?_)
 obtain⟨hbx,q0,q1,q2,hz,hO⟩:=HF.out w1 hl
 have lz:=hz.lt
 clear hl HF
 go_simp
 refine hK.out _ _ (fun _=>aj _ _) ?_
 clear hK K q0 q1 q2
 have ht:=Box.new w1 #[.int .i64 0,.int .i64 0,.int .i64 0] 61
 have hal:=aj w1 (.cells #[.int .i64 0,.int .i64 0,.int .i64 0] 61)
 have hb2:=hbx.kept hal
 have hz2:=hz.kept hal
 have hO2:=hO.trans (aP.below hal)
 have G6:sb≠w1.heap.size:=Nat.ne_of_lt hbx.lt
 have hzt:zb≠w1.heap.size:=Nat.ne_of_lt lz
 have htb:zb≤w1.heap.size:=by rw[←hzb];exact hO.size
 clear hbx hz hO hal lz
 generalize w1.alloc (.cells #[.int .i64 0,.int .i64 0,.int .i64 0] 61)=W2 at *
 generalize w1.heap.size=tb at *
 refine aQ (t:=21) (i:=21) (by kernel_rfl) rfl (fun w1 hl K hK=>?_)
 have ht3:=ht.kept hl
 have hb3:=hb2.kept hl
 have hz3:=hz2.kept hl
 have hO3:=hO2.trans (aP.below hl)
 have r0:w1.cell? ⟨tb,0,none⟩=some (.int .i64 0):=ht3.cell 0
 have r1:w1.cell? ⟨tb,1,none⟩=some (.int .i64 0):=ht3.cell 1
 have r2:w1.cell? ⟨tb,2,none⟩=some (.int .i64 0):=ht3.cell 2
 have g0:=ht3.free 0
 have g1:=ht3.free 1
 have g2:=ht3.free 2
 have lt3:=ht3.lt
 clear hl ht hb2 hz2 hO2
 go_simp
 refine hK.out _ _ (fun h=>absurd rfl h) ?_
 clear hK K r0 r1 r2 g0 g1 g2
 have aaZ:w.heap.size≤tb:=by rw[hzb];exact htb
 have qJ:Box (((w1.setCell ⟨tb,0,none⟩ (.int .i64 k)).setCell ⟨tb,1,none⟩ (.int .i64 (at_:Nat))).setCell ⟨tb,2,none⟩ (.int .i64 ((at_:Int)+(bt:Int)))) tb #[.int .i64 k,.int .i64 (at_:Nat),.int .i64 ((at_:Int)+(bt:Int))] 61:=((ht3.set 0 _).set 1 _).set 2 _
 have hb4:=((hb3.other ⟨tb,0,none⟩ (.int .i64 k) G6).other ⟨tb,1,none⟩ (.int .i64 (at_:Nat)) G6).other ⟨tb,2,none⟩ (.int .i64 ((at_:Int)+(bt:Int))) G6
 have uh:=((hz3.other ⟨tb,0,none⟩ (.int .i64 k) hzt).other ⟨tb,1,none⟩ (.int .i64 (at_:Nat)) hzt).other ⟨tb,2,none⟩ (.int .i64 ((at_:Int)+(bt:Int))) hzt
 have hO4:=((hO3.late aaZ 0 (.int .i64 k)).late aaZ 1 (.int .i64 (at_:Nat))).late aaZ 2 (.int .i64 ((at_:Int)+(bt:Int)))
 clear ht3 hb3 hz3 hO3 lt3
 generalize ((w1.setCell ⟨tb,0,none⟩ (.int .i64 k)).setCell ⟨tb,1,none⟩ (.int .i64 (at_:Nat))).setCell ⟨tb,2,none⟩ (.int .i64 ((at_:Int)+(bt:Int)))=W5 at *
 refine bC (by kernel_rfl) (fun w1 hl=>?_) _
 have KW:=qJ.kept hl
 have hb5:=hb4.kept hl
 have Xb:=uh.kept hl
 have Eo:=hO4.trans (aP.below hl)
 clear qJ hb4 uh hO4 hl
 have q1:w1.cell? ⟨sb,264,none⟩=some (.slice ha m hc):=hb5.fV 4
 have l0:=hb5.lt
 have qR:=ah hb5;have HT5:=ah KW;have HZ5:=ah Xb;have HO5:=ah Eo
 clear hb5 KW Xb Eo
 go_wp2_with fail
 have HF6:Hid (∀ u,Later w1.drew u→Box u sb (sC V (lv::gG s (k,bt)++resT (.slice ha m hc) at_ seen en sk)) 123∧u.cell? ⟨sb,264,none⟩=some (.slice ha m hc)∧u.cell? ⟨sb,263,none⟩=some (.int .i64 bt)∧Box u tb #[.int .i64 k,.int .i64 (at_:Nat),.int .i64 ((at_:Int)+(bt:Int))] 61∧Box u zb #[.int .i64 0,.int .i64 0,.int .i64 0] 61∧aP sb w u):=ah fun u hu=>by
  have h1:Below w1.heap.size w1 u:=((Below.refl _ _).drew).trans (hu.mono (Nat.le_refl _))
  have hb2:=qR.out.kept h1
  exact⟨hb2,hb2.fV 4,hb2.fV 3,HT5.out.kept h1,HZ5.out.kept h1,HO5.out.trans (aP.below h1)⟩
 clear q1 l0 qR HT5 HZ5 HO5
 have i1:(bt:Int)≤(m:Int):=by omega
 have i2:(m:Int)≤(hc:Int):=by omega
 have d1:decide (m<bt)=false:=decide_eq_false (by omega)
 have d2:decide (hc<m)=false:=decide_eq_false (by omega)
 have hif:(if m=bt then ha else ha.map fun x:Addr=>x.add bt)=uO m bt ha:=rfl
 refine aW (R:=Later) 15 (by kernel_rfl) ?_
 refine pl [0,1,2,3,4,5,6,7,8,9,10,11,12,13,14] ?_
 repeat
  refine jW ?_ rfl (fun w1 hl=>?_) ?_
  rotate_left
  ·obtain⟨hbx,q0,q1,_⟩:=HF6.out w1 hl;have l0:=hbx.lt;go_simp;try with_reducible rfl
  simp only[eA,eB,eC,Act.put,eD,eE,eF]
 refine eX ?_
 refine aQ (t:=15) (i:=15) (by kernel_rfl) rfl (fun w1 hl K hK=>?_)
 obtain⟨hbx,q0,_,ht,hz,hO⟩:=HF6.out w1 hl
 have l0:=hbx.lt
 have f0:=hbx.free 264
 clear hl HF6
 go_simp
 refine hK.out _ _ (fun h=>absurd rfl h) ?_
 clear hK K q0 l0 f0
 have hb6:=hbx.oh 4 (.slice (uO m bt ha) (m - bt) (m - bt))
 have Fj:=ht.other ⟨sb,264,none⟩ (.slice (uO m bt ha) (m - bt) (m - bt)) (Ne.symm G6)
 have hz6:=hz.other ⟨sb,264,none⟩ (.slice (uO m bt ha) (m - bt) (m - bt)) (Nat.ne_of_gt hlt)
 have Jv:=hO.set 264 (.slice (uO m bt ha) (m - bt) (m - bt))
 clear hbx ht hz hO
 generalize w1.setCell ⟨sb,264,none⟩ (.slice (uO m bt ha) (m - bt) (m - bt))=W6 at *
 refine bC (by kernel_rfl) (fun w1 hl=>?_) _
 have hb7:=hb6.kept hl
 have Fe:=Fj.kept hl
 have KU:=hz6.kept hl
 have Az:=Jv.trans (aP.below hl)
 clear hb6 Fj hz6 Jv hl
 have hzs:zb≠sb:=Nat.ne_of_gt hlt
 have t2:w1.cell? ⟨tb,2,none⟩=some (.int .i64 ((at_:Int)+(bt:Int))):=Fe.cell 2
 have q5:w1.cell? ⟨sb,265,none⟩=some (.int .i64 at_):=hb7.fV 5
 have l0:=hb7.lt
 have lt:=Fe.lt
 have f5:=hb7.free 265
 have hb8:=hb7.oh 5 (.int .i64 ((at_:Int)+(bt:Int)))
 have q6:(w1.setCell ⟨sb,265,none⟩ (.int .i64 ((at_:Int)+(bt:Int)))).cell? ⟨sb,266,none⟩=some (.int .i64 seen):=hb8.fV 6
 have f6:=hb8.free 266
 have P8:Box ((w1.setCell ⟨sb,265,none⟩ (.int .i64 ((at_:Int)+(bt:Int)))).setCell ⟨sb,266,none⟩ (.int .i64 0)) sb (sC V (lv::gG s (k,bt)++resT (.slice (uO m bt ha) (m - bt) (m - bt)) (at_+bt) 0 en sk)) 123:=hb8.oh 6 (.int .i64 0)
 have ht9:=(Fe.other ⟨sb,265,none⟩ (.int .i64 ((at_:Int)+(bt:Int))) (Ne.symm G6)).other ⟨sb,266,none⟩ (.int .i64 0) (Ne.symm G6)
 have hz9:=(KU.other ⟨sb,265,none⟩ (.int .i64 ((at_:Int)+(bt:Int))) hzs).other ⟨sb,266,none⟩ (.int .i64 0) hzs
 have hO9:=(Az.set 265 (.int .i64 ((at_:Int)+(bt:Int)))).set 266 (.int .i64 0)
 have H9:=ah P8;have HT9:=ah ht9;have HZ9:=ah hz9;have HO9:=ah hO9
 clear hb7 Fe KU Az hb8 P8 ht9 hz9 hO9
 go_wp2_with fail
 clear t2 q5 l0 lt f5 q6 f6
 refine(aaY sb V _ lv s (k,bt) _ H9.out).mono ?_
 rintro e w3 ⟨rfl,agy,Vs⟩
 generalize ((w1.setCell ⟨sb,265,none⟩ (.int .i64 ((at_:Int)+(bt:Int)))).setCell ⟨sb,266,none⟩ (.int .i64 0))=W9 at *
 have Qg:=Vs.box HT9.out (Ne.symm G6)
 have BX:=Vs.box HZ9.out hzs
 have t0:w3.cell? ⟨tb,0,none⟩=some (.int .i64 k):=Qg.cell 0
 have t1:w3.cell? ⟨tb,1,none⟩=some (.int .i64 at_):=Qg.cell 1
 have t3:w3.cell? ⟨tb,2,none⟩=some (.int .i64 ((at_:Int)+(bt:Int))):=Qg.cell 2
 have lt2:=Qg.lt
 have z0:w3.cell? ⟨zb,0,none⟩=some (.int .i64 0):=BX.cell 0
 have z1:w3.cell? ⟨zb,1,none⟩=some (.int .i64 0):=BX.cell 1
 have z2:w3.cell? ⟨zb,2,none⟩=some (.int .i64 0):=BX.cell 2
 have g0:=BX.free 0
 have g1:=BX.free 1
 have g2:=BX.free 2
 have lz:=BX.lt
 have UN:Hid (Box (((w3.setCell ⟨zb,0,none⟩ (.int .i64 k)).setCell ⟨zb,1,none⟩ (.int .i64 at_)).setCell ⟨zb,2,none⟩ (.int .i64 ((at_:Int)+(bt:Int)))) zb (Kw k at_ (at_+bt)) 61):=ah (((BX.set 0 _).set 1 _).set 2 _)
 have XB:Hid (Box (((w3.setCell ⟨zb,0,none⟩ (.int .i64 k)).setCell ⟨zb,1,none⟩ (.int .i64 at_)).setCell ⟨zb,2,none⟩ (.int .i64 ((at_:Int)+(bt:Int)))) sb (sC V (lv::gG 0 (0,0)++resT (.slice (uO m bt ha) (m - bt) (m - bt)) (at_+bt) 0 en sk)) 123):=ah (by
  exact((agy.other ⟨zb,0,none⟩ (.int .i64 k) (Ne.symm hzs)).other ⟨zb,1,none⟩ (.int .i64 at_) (Ne.symm hzs)).other ⟨zb,2,none⟩ (.int .i64 ((at_:Int)+(bt:Int))) (Ne.symm hzs))
 have EY:Hid (aP sb w (((w3.setCell ⟨zb,0,none⟩ (.int .i64 k)).setCell ⟨zb,1,none⟩ (.int .i64 at_)).setCell ⟨zb,2,none⟩ (.int .i64 ((at_:Int)+(bt:Int))))):=ah ((((HO9.out.trans Vs).late (Nat.le_of_eq hzb) 0 (.int .i64 k)).late (Nat.le_of_eq hzb) 1 (.int .i64 at_)).late (Nat.le_of_eq hzb) 2 (.int .i64 ((at_:Int)+(bt:Int))))
 clear agy Vs Qg BX H9 HT9 HZ9 HO9
 go_wp2
 refine bodyPost_ret (fQ rfl _ _ zb 61 (Kw k at_ (at_+bt)) (.bool true) rfl rfl UN.out Tryz.underlying61 rfl (by kernel_rfl)) rfl ?_
 exact⟨rfl,XB.out,EY.out⟩
end
section
open Go.RowKit
def gq(D:aF)(en:Bool)(h:List UInt8):Bool:=en||(List.range h.length).any fun i=>!gV D (bK D 0 (h.take (i+1)))
theorem Qh(D:aF)(h:List UInt8):gq D true h=true:=by unfold gq;rw[Bool.true_or]
theorem aa0{D:aF}{h:List UInt8}(en:Bool){j:Nat}(h0:0<j)(h1:j≤h.length)(hd:gV D (bK D 0 (h.take j))=false):gq D en h=true:=by
 unfold gq
 rw[Bool.or_eq_true,List.any_eq_true]
 exact .inr ⟨j - 1,List.mem_range.2 (by omega),by rw[show j - 1+1=j by omega,hd];rfl⟩
theorem aa1{D:aF}{h:List UInt8}(en:Bool)(hd:∀ i,0<i→i≤h.length→gV D (bK D 0 (h.take i))=true):gq D en h=en:=by
 unfold gq
 rw[show(List.range h.length).any (fun i=>!gV D (bK D 0 (h.take (i+1))))=false from ?_,Bool.or_false]
 rw[List.any_eq_false]
 intro i hi
 rw[hd (i+1) (by omega) (by have:=List.mem_range.1 hi;omega)]
 decide
theorem Vu{D:aF}{h:List UInt8}(hs:gq D false h=true):∃ j,0<j∧j≤h.length∧gV D (bK D 0 (h.take j))=false:=by
 unfold gq at hs
 rw[Bool.false_or,List.any_eq_true] at hs
 obtain⟨i,hi,h1⟩:=hs
 exact⟨i+1,Nat.succ_pos _,List.mem_range.1 hi,by simpa using h1⟩
def jF(D:aF)(en:Bool):Nat→List UInt8→Nat→List (Int×Nat×Nat)×List UInt8×Nat×Bool
 | 0,h,a=>([],h,a,false)
 | f+1,h,a=>if gq D en h=true then (match dZ D 0 h with
   | none=>([],[],a,decide (0<h.length))
   | some r=>((r.1,a,a+r.2)::(jF D en f (h.drop r.2) (a+r.2)).1,(jF D en f (h.drop r.2) (a+r.2)).2))
  else ([],h,a,false)
structure jH where
 held:List UInt8
 at_:Nat
 en:Bool
 sk:Bool
def oG(D:aF)(X:jH):List (Int×Nat×Nat)×jH:=if X.sk=true then ([],X) else
 let q:=jF D X.en (X.held.length+1) X.held X.at_
 (q.1,⟨q.2.1,q.2.2.1,X.en,q.2.2.2⟩)
def wY(D:aF)(X:jH)(b:List UInt8):List (Int×Nat×Nat)×jH:=if X.en=true∨X.sk=true then ([],X) else oG D { X with held:=X.held++b }
def G7(D:aF)(X:jH):List (Int×Nat×Nat)×jH:=if X.en=true then ([],X) else oG D { X with en:=true }
theorem Md(D:aF)(en:Bool):∀ (f:Nat) (h:List UInt8) (a:Nat),(jF D en f h a).1.length≤f
 | 0,_,_=>Nat.le_refl _
 | f+1,h,a=>by
  rw[jF]
  split
  ·split
   ·exact Nat.zero_le _
   ·have:=Md D en f (h.drop (by assumption:Int×Nat).2) (a+(by assumption:Int×Nat).2)
    simp only[List.length_cons];omega
  ·exact Nat.zero_le _
end
section
open Go.RowKit
theorem Yz{D:aF}(hw:kK D){h:List UInt8}(b:List UInt8)(hs:gq D false h=true):dZ D 0 (h++b)=dZ D 0 h:=by
 obtain⟨j,h0,h1,hd⟩:=Vu hs
 have hx:=Js hw _ hd
 rw[←List.take_append_drop j h,List.append_assoc,wW _ _ hx,wW _ _ hx]
theorem aa2{D:aF}(hw:kK D){W Z:List UInt8}{en:Bool}{a:Nat}(ha:a≤W.length)(hs:gq D en (W.drop a)=true)(hz:en=true→Z=[]):qC D (W++Z) a=qC D W a:=by
 cases en with
 | true=>rw[hz rfl,List.append_nil]
 | false=>unfold qC;rw[List.drop_append_of_le_length ha,Yz hw _ hs]
def tZ(D:aF)(W:List UInt8)(en:Bool):Nat→Nat→List (Int×Nat×Nat)×Nat
 | 0,a=>([],a)
 | f+1,a=>if gq D en (W.drop a)=true then (match qC D W a with
   | none=>([],a)
   | some r=>((r.1,a,r.2)::(tZ D W en f r.2).1,(tZ D W en f r.2).2)) else ([],a)
def zu(D:aF)(W:List UInt8)(en:Bool)(a:Nat):List (Int×Nat×Nat)×Nat:=tZ D W en (W.length - a+1) a
structure yE(D:aF)(X:jH)(W:List UInt8):Prop where
 le:X.at_≤W.length
 go:X.sk=false→X.held=W.drop X.at_∧(X.held=[]∨gq D X.en X.held=false)
 st:X.sk=true→X.held=[]∧X.at_<W.length∧dZ D 0 (W.drop X.at_)=none∧gq D X.en (W.drop X.at_)=true
theorem Td{D:aF}(W:List UInt8)(en:Bool):∀ (f a:Nat) (h:List UInt8),h=W.drop a→a≤W.length→h.length<f →
  (jF D en f h a).1=(tZ D W en f a).1∧(jF D en f h a).2.2.1=(tZ D W en f a).2∧yE D ⟨(jF D en f h a).2.1,(jF D en f h a).2.2.1,en,(jF D en f h a).2.2.2⟩ W
 | 0,_,_,_,_,h3=>by omega
 | f+1,a,h,h1,h2,h3=>by
  rw[jF,tZ]
  subst h1
  by_cases hs:gq D en (W.drop a)=true
  ·rw[if_pos hs,if_pos hs]
   unfold qC
   cases hb:dZ D 0 (W.drop a) with
   | none =>
    refine⟨rfl,rfl,h2,fun e=>?_,fun e=>?_⟩
    ·dsimp only at e ⊢
     have:¬ 0<(W.drop a).length:=by simpa using e
     exact⟨(List.eq_nil_of_length_eq_zero (by omega)).symm,.inl rfl⟩
    ·dsimp only at e ⊢
     have:=of_decide_eq_true e
     rw[List.length_drop] at this
     exact⟨rfl,by omega,hb,hs⟩
   | some r =>
    obtain⟨k,n⟩:=r
    have h4:=wV _ hb
    rw[List.length_drop] at h4 h3
    dsimp only[Option.map_some]
    obtain⟨g1,g2,g3⟩:=Td W en f (a+n) ((W.drop a).drop n) (by rw[List.drop_drop]) (by omega) (by rw[List.length_drop,List.length_drop];omega)
    exact⟨by rw[g1],g2,g3⟩
  ·rw[if_neg hs,if_neg hs]
   exact⟨rfl,rfl,h2,fun _=>⟨rfl,.inr (by simpa using hs)⟩,fun e=>by cases e⟩
theorem yE.tell{D:aF}{X:jH}{W:List UInt8}(hh:X.held=W.drop X.at_)(hl:X.at_≤W.length)(hk:X.sk=false) :
  (oG D X).1=(zu D W X.en X.at_).1∧(oG D X).2.at_=(zu D W X.en X.at_).2∧(oG D X).2.en=X.en∧yE D (oG D X).2 W:=by
 unfold oG zu
 rw[hk,if_neg (by decide)]
 have hn:X.held.length=W.length - X.at_:=by rw[hh,List.length_drop]
 rw[←hn]
 obtain⟨g1,g2,g3⟩:=Td (D:=D) W X.en (X.held.length+1) X.at_ X.held hh hl (by omega)
 exact⟨g1,g2,rfl,g3⟩
theorem Vw{D:aF}{W:List UInt8}{en:Bool}{a:Nat}(hb:dZ D 0 (W.drop a)=none):zu D W en a=([],a):=by
 unfold zu tZ qC
 rw[hb]
 split <;> rfl
theorem yE.fin{D:aF}{X:jH}{W:List UInt8}(h:yE D X W)(he:X.en=false) :
  (G7 D X).1=(zu D W true X.at_).1∧(G7 D X).2.at_=(zu D W true X.at_).2∧(G7 D X).2.en=true∧yE D (G7 D X).2 W:=by
 obtain⟨held,at_,en,sk⟩:=X
 obtain rfl:en=false:=he
 obtain⟨hle,hgo,hst⟩:=h
 dsimp only at hle hgo hst ⊢
 unfold G7
 rw[if_neg (by simp)]
 cases sk with
 | true =>
  obtain⟨h1,h2,h3,h4⟩:=hst rfl
  rw[Vw h3]
  exact⟨rfl,rfl,rfl,hle,fun e=>(by cases e),fun _=>⟨h1,h2,h3,Qh _ _⟩⟩
 | false=>exact yE.tell (D:=D) (X:=⟨held,at_,true,false⟩) (W:=W) (hgo rfl).1 hle rfl
theorem yE.len{D:aF}{X:jH}{W:List UInt8}(h:yE D X W):X.held.length=if X.sk=true then 0 else W.length - X.at_:=by
 cases hk:X.sk with
 | true=>rw[(h.st hk).1];rfl
 | false=>rw[(h.go hk).1,List.length_drop];rfl
theorem YA{D:aF}{w:List UInt8}{a:Nat}{r:Int×Nat}(h:qC D w a=some r):jv D w (w.length+1) a=((r.1,a,r.2)::(jv D w (w.length+1) r.2).1,(jv D w (w.length+1) r.2).2):=by
 obtain⟨k,e⟩:=r
 have:=yU h
 rw[IU w.length e (by omega),jv,h]
theorem Jw{D:aF}(hw:kK D)(W Z:List UInt8)(en:Bool)(hz:en=true→Z=[]):∀ (f a:Nat),a≤W.length →
  jv D (W++Z) ((W++Z).length+1) a=((tZ D W en f a).1++(jv D (W++Z) ((W++Z).length+1) (tZ D W en f a).2).1,(jv D (W++Z) ((W++Z).length+1) (tZ D W en f a).2).2)
 | 0,a,_=>rfl
 | f+1,a,ha=>by
  rw[tZ]
  by_cases hs:gq D en (W.drop a)=true
  ·rw[if_pos hs]
   cases ht:qC D W a with
   | none=>rfl
   | some r =>
    have h1:=aa2 hw ha hs hz
    rw[ht] at h1
    have h2:=yU (k:=r.1) (e:=r.2) ht
    rw[YA h1]
    dsimp only
    rw[Jw hw W Z en hz f r.2 h2.2.1];rfl
  ·rw[if_neg hs];rfl
def Qi(D:aF)(X:jH)(W:List UInt8)(acc:List (Int×Nat×Nat)):Prop:=∀ Z:List UInt8,(X.en=true→Z=[]) →
 jv D (W++Z) ((W++Z).length+1) 0=(acc++(jv D (W++Z) ((W++Z).length+1) X.at_).1,(jv D (W++Z) ((W++Z).length+1) X.at_).2)
theorem Qi.fin{D:aF}(hw:kK D){X:jH}{W:List UInt8}{acc:List (Int×Nat×Nat)}(h:yE D X W)(ha:Qi D X W acc)(he:X.en=false):Qi D (G7 D X).2 W (acc++(G7 D X).1):=by
 obtain⟨g1,g2,g3,_⟩:=h.fin he
 intro Z hz
 obtain rfl:=hz g3
 have h1:=ha [] (fun _=>rfl)
 have h2:=Jw hw W [] true (fun _=>rfl) (W.length - X.at_+1) X.at_ h.le
 rw[h1,h2,g1,g2]
 unfold zu
 rw[List.append_assoc]
theorem Qi.done{D:aF}{X:jH}{W:List UInt8}{acc:List (Int×Nat×Nat)}(h:yE D X W)(ha:Qi D X W acc)(he:X.en=true):jv D W (W.length+1) 0=(acc,X.at_)∧X.sk=decide (X.at_<W.length)∧X.held=[]:=by
 have h1:=ha [] (fun _=>rfl)
 rw[List.append_nil] at h1
 have key:dZ D 0 (W.drop X.at_)=none∧X.sk=decide (X.at_<W.length)∧X.held=[]:=by
  cases hk:X.sk with
  | true =>
   obtain⟨h1,h2,h3,_⟩:=h.st hk
   exact⟨h3,(decide_eq_true h2).symm,h1⟩
  | false =>
   obtain⟨h1,h2 | h2⟩:=h.go hk
   ·rw[h1] at h2
    refine⟨by rw[h2];rfl,?_,by rw[h1,h2]⟩
    have:=congrArg List.length h2
    rw[List.length_drop,List.length_nil] at this
    exact(decide_eq_false (by omega)).symm
   ·rw[he,Qh] at h2;cases h2
 refine⟨?_,key.2⟩
 have h2:qC D W X.at_=none:=by unfold qC;rw[key.1];rfl
 have h3:jv D W (W.length+1) X.at_=([],X.at_):=by rw[jv,h2]
 rw[h1,h3,List.append_nil]
end
section
open Go.RowKit
abbrev AA(x:Int×Nat×Nat):List Value:=[.int .i64 x.1,.int .i64 x.2.1,.int .i64 x.2.2]
theorem YB:eH AA 3:=⟨fun _=>rfl,fun x u hu=>by simp at hu;rcases hu with rfl | rfl | rfl <;> rfl⟩
theorem aa3:dQ Tryz.prog 55 61 (.agg #[.int .i64 0,.int .i64 0,.int .i64 0]) 3 24:=⟨Tryz.underlying55,info_parts (by kernel_rfl),rfl,by decide⟩
end
section
open Go.RowKit
theorem ak.piece{α:Type}{f:α→Value}{w:World}{a:Option Addr}{n cap:Nat}{xs:List α}(h:ak w (.slice a n cap) 1 (fun x=>[f x]) xs)(p q:Nat)(hp:p≤q)(hq:q≤n) :
  ak w (.slice (if cap=p then a else a.map (fun x:Addr=>x.add p)) (q - p) (cap - p)) 1 (fun x=>[f x]) ((xs.drop p).take (q - p)):=by
 have h0:=h
 obtain⟨a',b,o,cap',hv,hl,hc,ha,hx⟩:=h
 obtain⟨rfl,rfl,rfl⟩:=Value.slice.inj hv
 rcases ha with rfl | ⟨rfl,hcn⟩
 ·have:=h0.sub (f:=f) p (q - p) (by omega)
  have e:Bj b o cap p=(if cap=p then some ⟨b,o,none⟩ else Option.map (fun x:Addr=>x.add p) (some ⟨b,o,none⟩)):=by
   unfold Bj
   by_cases e:cap=p
   ·rw[if_pos e,if_pos e]
   ·rw[if_neg e,if_neg e];simp[Addr.add]
  rwa[e] at this
 ·have hq0:q=0:=by simpa using hq
  subst hq0
  obtain rfl:p=0:=by omega
  refine⟨if cap=0 then a else a.map (fun x:Addr=>x.add 0),b,o,cap,rfl,by simp,hc,.inr ⟨by simp,fun hn=>?_⟩,fun i hi=>by simp at hi⟩
  by_cases e:cap=0
  ·exact e
  ·rw[if_neg e,Option.map_eq_none_iff] at hn
   exact hcn hn
theorem Vx{α:Type}(w:World)(size:Nat)(enc:α→List Value):ak w (.slice none 0 0) size enc []:=⟨none,0,0,0,rfl,Nat.le_refl _,by simp[maxLen],.inr ⟨rfl,fun _=>rfl⟩,fun i hi=>by simp at hi⟩
end
section
open Go.RowKit
theorem add_block(x:Addr)(t:Nat):(x.add t).block=x.block:=by unfold Addr.add;split <;> rfl
structure gZ(w:World)(top:Nat)(a:Option Addr)(n c:Nat)(h:List UInt8):Prop where
 sl:ak w (.slice a n c) 1 bT h
 ge:∀ ad,a=some ad→top≤ad.block∧ad.block<w.heap.size
 how:Own w top 5 1 bT (.slice a n c) h∨n=c
theorem gZ.same{w w':World}{top n c:Nat}{a:Option Addr}{h:List UInt8}(hh:gZ w top a n c h)(hs:w.heap.size≤w'.heap.size)(hb:∀ ad,a=some ad→w'.heap[ad.block]?=w.heap[ad.block]?):gZ w' top a n c h :=
 ⟨hh.sl.Au fun ad ha _=>hb ad ha,fun ad ha=>⟨(hh.ge ad ha).1,Nat.lt_of_lt_of_le (hh.ge ad ha).2 hs⟩,hh.how.imp (fun o=>o.dh fun g hg=>by
  cases a with
  | none=>simp[Value.ownBlock] at hg
  | some ad=>simp[Value.ownBlock] at hg;subst hg;exact hb ad rfl) id⟩
theorem gZ.only{w w':World}{sb top n c:Nat}{a:Option Addr}{h:List UInt8}(hh:gZ w top a n c h)(hlt:sb<top)(k:aP sb w w'):gZ w' top a n c h :=
 hh.same k.size fun ad ha=>k.block _ (hh.ge ad ha).2 (by have:=(hh.ge ad ha).1;omega)
theorem gZ.nil(w:World)(top:Nat):gZ w top none 0 0 []:=⟨Vx w 1 bT,fun ad h=>(by cases h),.inr rfl⟩
theorem gZ.len{w:World}{top n c:Nat}{a:Option Addr}{h:List UInt8}(hh:gZ w top a n c h):n=h.length∧n≤c∧c≤9223372036854775807:=by
 obtain⟨b,o,h1,h2,h3,_⟩:=hh.sl.open
 exact⟨h1,by omega,h3⟩
theorem gZ.cut{w:World}{top n c:Nat}{a:Option Addr}{h:List UInt8}(hh:gZ w top a n c h)(t:Nat)(ht:t≤n):gZ w top (uO n t a) (n - t) (n - t) (h.drop t):=by
 obtain⟨hn,_,hc⟩:=hh.len
 have h0:ak w (.slice a n n) 1 bT h:=by
  obtain⟨a',b,o,cap',hv,hl,hc',ha,hx⟩:=hh.sl
  obtain⟨rfl,rfl,rfl⟩:=Value.slice.inj hv
  exact⟨a,b,o,h.length,rfl,Nat.le_refl _,Nat.le_trans hl hc',ha.imp id (fun⟨h1,_⟩=>⟨h1,fun _=>by rw[h1];rfl⟩),hx⟩
 have h1:=ak.piece (f:=fun x:UInt8=>Value.int .u8 (x.toNat:Nat)) h0 t n ht (Nat.le_refl _)
 rw[List.take_of_length_le (by rw[List.length_drop];omega)] at h1
 refine⟨h1,fun ad ha=>?_,.inr rfl⟩
 unfold uO at ha
 by_cases e:n=t
 ·rw[if_pos e] at ha;exact hh.ge ad ha
 ·rw[if_neg e] at ha
  obtain⟨x,hx,rfl⟩:=Option.map_eq_some_iff.1 ha
  rw[add_block];exact hh.ge x hx
def mG(sb top vb n:Nat)(V:au)(D:aF)(w0 w:World)(X:jH)(g:Option Nat):Prop :=
 Mid sb top w0 w∧∃ (ha:Option Addr) (m hc s j:Nat) (r:Int×Nat),gZ w top ha m hc X.held∧(∀ ad,ha=some ad→g=some ad.block) ∧
  Box w sb (sC V (.slice (some ⟨vb,0,none⟩) n n::gG s r++resT (.slice ha m hc) X.at_ j X.en X.sk)) 123 ∧
  (X.sk=false→j≤m∧s=bK D 0 (X.held.take j)∧r=iE D (X.held.take j)∧∀ i,0<i→i≤j→gV D (bK D 0 (X.held.take i))=true)
def Jy(sb:Nat)(w:World):Nat:=match w.cell? ⟨sb,264,none⟩ with
 | some (.slice _ n _)=>n
 | _=>0
theorem Vy{D:aF}(hw:kK D){h:List UInt8}{j:Nat}(hd:gV D (bK D 0 (h.take j))=false):iE D (h.take j)=iE D h:=by
 unfold iE
 rw[←wW (h.take j) (h.drop j) (Js hw _ hd),List.take_append_drop]
def adv(sb top vb n:Nat)(V:au)(D:aF)(w0:World)(g:Option Nat)(w:World)(q:List (Int×Nat×Nat)×jH)(e:Ending)(w':World):Prop :=
 ∃ a c,e=.returned (.slice a q.1.length c)∧Own w' w.heap.size 61 3 AA (.slice a q.1.length c) q.1∧aP sb w w'∧mG sb top vb n V D w0 w' q.2 g
theorem aa4(sb top vb:Nat)(V:au)(D:aF)(w0 w:World)(n wd lb lo nb no:Nat)(rb ro rc:Nat→Nat)(hM:zq (Mid sb top w0) V D n wd lb lo nb no vb rb ro rc)(hW:kK D)(hB:Mid sb top w0 w)(hlt:sb<top)
  (held:List UInt8) (ha:Option Addr) (m hc:Nat) (hH:gZ w top ha m hc held) (at_ j:Nat) (en:Bool) (hj:j≤m)
  (hb:Box w sb (sC V (.slice (some ⟨vb,0,none⟩) n n::gG (bK D 0 (held.take j)) (iE D (held.take j))++resT (.slice ha m hc) at_ j en false)) 123)
  (hlv:∀ i,0<i→i≤j→gV D (bK D 0 (held.take i))=true) :
  Calls Tryz.prog 126 #[.pointer (some ⟨sb,0,none⟩)] w fun e w'=>e=.returned (.bool (gq D en held))∧∃ j',aP sb w w'∧j'≤m ∧
   Box w' sb (sC V (.slice (some ⟨vb,0,none⟩) n n::gG (bK D 0 (held.take j')) (iE D (held.take j'))++resT (.slice ha m hc) at_ j' en false)) 123 ∧
   (gq D en held=true→iE D (held.take j')=iE D held)∧(gq D en held=false→∀ i,0<i→i≤j'→gV D (bK D 0 (held.take i))=true):=by
 have hml:=hH.len.1
 refine(adu sb top vb V D w0 w n wd lb lo nb no rb ro rc hM hB held ha m hc hH.sl (fun ad h=>by have:=(hH.ge ad h).1;omega) at_ j en false hj hb).mono ?_
 rintro e w' ⟨j',h1,h2,hO,hb',h3,⟨rfl,h4,h5⟩ | ⟨rfl,rfl,h5⟩⟩
 ·have hs:gq D en held=true:=aa0 en (by omega) (by omega) h5
  exact⟨by rw[hs],j',hO,h2,hb',fun _=>Vy hW h5,fun h=>by rw[hs] at h;cases h⟩
 ·have hal:∀ i,0<i→i≤j'→gV D (bK D 0 (held.take i))=true:=fun i g1 g2=>by
   by_cases e1:i≤j
   ·exact hlv i g1 e1
   ·by_cases e2:i=j'
    ·subst e2;exact h5 (by omega)
    ·exact h3 i (by omega) (by omega)
  have hs:=aa1 en (fun i g1 g2=>hal i g1 (by omega))
  exact⟨by rw[hs],j',hO,Nat.le_refl _,hb',fun _=>by rw[hml,List.take_length],fun _=>hal⟩
theorem adw(sb top vb:Nat)(V:au)(D:aF)(w0 w:World)(n wd lb lo nb no:Nat)(rb ro rc:Nat→Nat)(hM:zq (Mid sb top w0) V D n wd lb lo nb no vb rb ro rc)(hW:kK D)(hlt:sb<top)(X:jH)(g:Option Nat)(hS:mG sb top vb n V D w0 w X g)(hg:∀ k,g=some k→k<w.heap.size)(hlen:X.at_+X.held.length≤1099511627776)(hk:X.sk=false) :
  Calls Tryz.prog 86 #[.pointer (some ⟨sb,0,none⟩)] w (adv sb top vb n V D w0 g w (oG D X)):=by
 obtain⟨hB,ha,m,hc,s,j,r,hH,hga,hbx,hst⟩:=hS
 obtain⟨hj,rfl,rfl,hlv⟩:=hst hk
 obtain⟨held,at_,en,sk⟩:=X
 dsimp only at *
 subst hk
 obtain⟨TK,hTK⟩:∃ TK,jF D en (held.length+1) held at_=TK:=⟨_,rfl⟩
 have hts:oG D ⟨held,at_,en,false⟩=(TK.1,⟨TK.2.1,TK.2.2.1,en,TK.2.2.2⟩):=by unfold oG;rw[if_neg (by simp)];dsimp only;rw[hTK]
 rw[hts]
 have hTL:TK.1.length≤held.length+1:=by rw[←hTK];exact Md D en _ held at_
 have hsb:=hbx.lt
 have htw:=hB.1
 have HST:=ah (show gZ w top ha m hc held∧_∧_∧_∧_∧_ from⟨hH,hga,hbx,hlv,hTK,hB⟩)
 have HM:=ah hM;have HW:=ah hW;have HG:=ah hg
 clear hM hW hH hga hbx hst hlv hTK hB hts hg
 go_enter Tryz.func86,Tryz.ntmps86
 go_wp2_with fail
 go_loopw [3] (fun v wr=>∃ (f a j m hc c:Nat) (h:List UInt8) (acc:List (Int×Nat×Nat)) (sa ha:Option Addr),v=.slice sa acc.length c∧gZ wr top ha m hc h∧(∀ ad,ha=some ad→g=some ad.block)∧j≤m ∧
  Box wr sb (sC V (.slice (some ⟨vb,0,none⟩) n n::gG (bK D 0 (h.take j)) (iE D (h.take j))++resT (.slice ha m hc) a j en false)) 123∧(∀ i,0<i→i≤j→gV D (bK D 0 (h.take i))=true)∧aP sb w wr∧Mid sb top w0 wr ∧
  Own wr w.heap.size 61 3 AA (.slice sa acc.length c) acc∧acc++(jF D en f h a).1=TK.1∧(jF D en f h a).2=TK.2∧h.length<f∧a+h.length≤1099511627776) (fun _ wr=>Jy sb wr)
 case atStart=>exact⟨held.length+1,at_,j,m,hc,0,held,[],none,ha,rfl,HST.out.1,HST.out.2.1,hj,HST.out.2.2.1,HST.out.2.2.2.1,aP.refl _ _,HST.out.2.2.2.2.2,Own.nil _ _ _ _ _,by rw[List.nil_append,HST.out.2.2.2.2.1],by rw[HST.out.2.2.2.2.1],by omega,hlen⟩
 case round =>
  clear HST
  obtain⟨f,a,j,m,hc,c,h,acc,sa,ha,rfl,hH,hga,hj,hbx,hlv,hO,hB,hown,h1,h2,hf,hal⟩:=hrel
  obtain⟨f,rfl⟩:∃ f',f=f'+1:=⟨f - 1,by omega⟩
  rw[jF] at h1 h2
  have hacc:acc.length≤1099511627777:=by
   have e1:=congrArg List.length h1
   rw[List.length_append] at e1
   omega
  have hms:Jy sb wr=m:=by
   unfold Jy
   rw[show wr.cell? ⟨sb,264,none⟩=some (.slice ha m hc) from hbx.fV 4]
  rw[hms]
  have q0:wr.cell? ⟨sb,268,none⟩=some (.bool false):=hbx.fV 8
  have l0:=hbx.lt
  have hsu:=aa4 sb top vb V D w0 wr n wd lb lo nb no rb ro rc HM.out HW.out hB hlt h ha m hc hH a j en hj hbx hlv
  have xM:=ah hsu;have HO:=ah hO;have HB:=ah hB;have HOWN:=ah hown;have HH:=ah hH;have D8:=ah hga;have Ej:=ah hlv
  have hml:=hH.len
  clear hsu hO hB hown hH hga hlv hbx hms
  cases hs:gq D en h with
  | false =>
   rw[hs,if_neg (by decide)] at h1 h2
   rw[hs] at xM
   have H1:=ah (And.intro h1 h2)
   clear h1 h2 hs hml
   go_wp2_with (go_at_call 126;go_must (refine xM.out.mono ?_;rintro e w2 ⟨rfl,j2,hO2,hj2,hb2,_,hl2⟩;have q2:w2.cell? ⟨sb,268,none⟩=some (.bool false):=hb2.fV 8;have l2:=hb2.lt))
   go_ret
   obtain⟨h1,h2⟩:=H1.out
   rw[List.append_nil] at h1
   refine⟨sa,c,(by rw[←h1];rfl),?_,HO.out.trans hO2,?_⟩
   ·rw[←h1];exact HOWN.out.dh fun g hg=>hO2.block g (HOWN.out.bY g hg).2 (by have:=(HOWN.out.bY g hg).1;omega)
   ·rw[←h2];exact⟨HB.out.only hO2,ha,m,hc,_,j2,_,HH.out.only hlt hO2,D8.out,hb2,fun _=>⟨hj2,rfl,rfl,hl2 trivial⟩⟩
  | true =>
   rw[hs,if_pos rfl] at h1 h2
   rw[hs] at xM
   have Ad:=ah (show ∀ j2,iE D (h.take j2)=iE D h→iE D (h.take j2)=(dZ D 0 h).getD (0,0) from fun j2 e=>e)
   cases hbs:dZ D 0 h with
   | none =>
    rw[hbs] at h1 h2 Ad
    dsimp only at h1 h2
    rw[List.append_nil] at h1
    have H1:=ah (And.intro h1 h2)
    have I7:=ah hml
    clear h1 h2 hs hml hbs
    by_cases hm0:0<m
    ·have hd0:decide (0<m)=true:=decide_eq_true hm0
     go_wp2_with (first | (go_at_call 126;go_must (refine xM.out.mono ?_;rintro e w2 ⟨rfl,j2,hO2,hj2,hb2,hl2,_⟩;rw[Ad.out j2 (hl2 rfl)] at hb2)) | (go_at_call 127;go_must (refine(Mc sb V w2 _ _ 0 ha m hc a j2 en false hb2).mono ?_;rintro e w3 ⟨rfl,hb3,hO3⟩;rw[hd0] at hb3;have hal:=aj w3 (.cells #[.int .i64 0,.int .i64 0,.int .i64 0] 61);have hb4:=hb3.kept hal;have p0:(w3.alloc (.cells #[.int .i64 0,.int .i64 0,.int .i64 0] 61)).cell? ⟨sb,268,none⟩=some (.bool true):=hb4.fV 8;have p1:(w3.alloc (.cells #[.int .i64 0,.int .i64 0,.int .i64 0] 61)).cell? ⟨sb,264,none⟩=some (.slice ha m hc):=hb4.fV 4;have p2:=hb4.free 264;have p3:=hb4.lt;have hO4:=((hO2.trans hO3).trans (aP.below hal)).set 264 (.slice none 0 0);have hb5:=hb4.oh 4 (.slice none 0 0);have sO:=ah hO4;have qR:=ah hb5;clear hal hb3 hb4 hO4 hb5 hO2 hO3 hb2)))
     go_ret
     obtain⟨h1,h2⟩:=H1.out
     rw[decide_eq_true (by have:=I7.out.1;omega)] at h2
     refine⟨sa,c,(by rw[←h1];rfl),?_,HO.out.trans sO.out,?_⟩
     ·rw[←h1];exact HOWN.out.dh fun g hg=>sO.out.block g (HOWN.out.bY g hg).2 (by have:=(HOWN.out.bY g hg).1;omega)
     ·rw[←h2];exact⟨HB.out.only sO.out,none,0,0,_,j2,_,gZ.nil _ _,(fun ad e=>by cases e),qR.out,fun e=>by cases e⟩
    ·have hd0:decide (0<m)=false:=decide_eq_false hm0
     go_wp2_with (first | (go_at_call 126;go_must (refine xM.out.mono ?_;rintro e w2 ⟨rfl,j2,hO2,hj2,hb2,hl2,_⟩;rw[Ad.out j2 (hl2 rfl)] at hb2)) | (go_at_call 127;go_must (refine(Mc sb V w2 _ _ 0 ha m hc a j2 en false hb2).mono ?_;rintro e w3 ⟨rfl,hb3,hO3⟩;rw[hd0] at hb3;have hal:=aj w3 (.cells #[.int .i64 0,.int .i64 0,.int .i64 0] 61);have hb4:=hb3.kept hal;have p0:(w3.alloc (.cells #[.int .i64 0,.int .i64 0,.int .i64 0] 61)).cell? ⟨sb,268,none⟩=some (.bool false):=hb4.fV 8;have p3:=hb4.lt;have hO4:=(hO2.trans hO3).trans (aP.below hal);have sO:=ah hO4;have qR:=ah hb4;clear hal hb3 hb4 hO4 hO2 hO3 hb2)))
     go_ret
     obtain⟨h1,h2⟩:=H1.out
     have hh0:h=[]:=List.eq_nil_of_length_eq_zero (by have:=I7.out.1;omega)
     rw[decide_eq_false (by have:=I7.out.1;omega)] at h2
     refine⟨sa,c,(by rw[←h1];rfl),?_,HO.out.trans sO.out,?_⟩
     ·rw[←h1];exact HOWN.out.dh fun g hg=>sO.out.block g (HOWN.out.bY g hg).2 (by have:=(HOWN.out.bY g hg).1;omega)
     ·rw[←h2]
      have hj0:j2=0:=by omega
      have hH4:=HH.out.only hlt sO.out
      have hb5:=qR.out
      subst hh0 hj0
      exact⟨HB.out.only sO.out,ha,m,hc,_,0,_,hH4,D8.out,hb5,fun _=>⟨Nat.zero_le _,rfl,rfl,fun i g1 g2=>by omega⟩⟩
   | some q =>
    obtain⟨k,bt⟩:=q
    obtain⟨hq1,hq2,_⟩:=wV _ hbs
    rw[hbs] at h1 h2 Ad
    dsimp only at h1 h2
    rw[show acc++(k,a,a+bt)::(jF D en f (h.drop bt) (a+bt)).1=(acc++[(k,a,a+bt)])++(jF D en f (h.drop bt) (a+bt)).1 by simp] at h1
    have H1:=ah (And.intro h1 h2)
    have I7:=ah hml
    have hbm:bt≤m:=by omega
    have hmc:=hml.2.1
    have hcc:=hml.2.2
    have hfa:a+bt≤9223372036854775807:=by omega
    have RG:=ah (show h.length<f+1∧a+h.length≤1099511627776∧bt≤h.length from⟨hf,hal,hq2⟩)
    clear h1 h2 hs hml hbs hf hal hq2
    go_wp2_with (first | (go_at_call 126;go_must (refine xM.out.mono ?_;rintro e w2 ⟨rfl,j2,hO2,hj2,hb2,hl2,_⟩;rw[Ad.out j2 (hl2 rfl)] at hb2)) | (go_at_call 127;go_must (refine(Vr sb V w2 _ _ k bt ha m hc a j2 en false hq1 hbm hmc hcc hfa hb2).mono ?_;rintro e w3 ⟨rfl,hb3,hO3⟩;have hO4:=hO2.trans hO3;have ho3:=HOWN.out.dh fun g hg=>hO4.block g (HOWN.out.bY g hg).2 (by have:=(HOWN.out.bY g hg).1;omega);have HB3:=ah hb3;have sO:=ah hO4;have HO3:=ah ho3;have qL:=(ho3.kept (aj w3 (.cells (Kw k a (a+bt)) 61))).kept (aj _ (.cells (Kw k a (a+bt)) 61));have hs3:=hO4.size;have anK:=HO.out.size;clear hb3 hO4 ho3 hO2 hO3 hb2)) | (at_builtin;go_must (refine fJ rfl _ _ 55 rfl aa3 YB rfl qL ⟨w3.heap.size+1,0,none⟩ 1 (k,a,a+bt) rfl (by rw[←World.size_alloc w3 (.cells (Kw k a (a+bt)) 61)];exact cZ _ (AA (k,a,a+bt)) _) (by simp only[maxLen];omega) (by omega) (by simp only[World.size_alloc];omega) ?_;intro a7 c7 w7 iy cO)))
    have Iu:∀ b,b<w.heap.size→w7.heap[b]?=w3.heap[b]?:=fun b hb=>by
     refine(cO.block b (by simp only[World.size_alloc];omega) (fun e'=>by have:=(HO3.out.bY b e'.symm).1;omega)).trans ?_
     exact(Below.heap_alloc _ _ b (by simp only[World.size_alloc];omega)).trans (Below.heap_alloc _ _ b (by omega))
    have hs7:=cO.size
    simp only[World.size_alloc] at hs7
    have Az:aP sb w w7:=⟨cO.os.trans (sO.out.os.trans HO.out.os),cO.tape.trans (sO.out.tape.trans HO.out.tape),cO.output.trans (sO.out.output.trans HO.out.output),by omega,fun b hb hn=>(Iu b hb).trans ((sO.out.block b (by omega) hn).trans (HO.out.block b hb hn))⟩
    have lZ:=(Iu sb hsb).trans HB3.out
    have agz:∀ ad,uO m bt ha=some ad→g=some ad.block:=fun ad e=>by
     unfold uO at e
     by_cases e2:m=bt
     ·rw[if_pos e2] at e;exact D8.out ad e
     ·rw[if_neg e2] at e
      obtain⟨x,hx,rfl⟩:=Option.map_eq_some_iff.1 e
      rw[add_block];exact D8.out x hx
    have hH7:=((HH.out.only hlt sO.out).cut bt hbm).same (w':=w7) (by omega) fun ad e=>Iu _ (HG.out _ (agz ad e))
    have hm7:Jy sb w7=m - bt:=by
     unfold Jy
     rw[show w7.cell? ⟨sb,264,none⟩=some (.slice _ (m - bt) (m - bt)) from Box.fV lZ 4]
    obtain⟨h1,h2⟩:=H1.out
    obtain⟨g1,g2,g3⟩:=RG.out
    have g4:(h.drop bt).length=h.length - bt:=List.length_drop
    have sK:Mid sb top w0 w7:=⟨by omega,fun b b1 b2=>(Iu b (by omega)).trans ((HB.out.only sO.out).2 b b1 b2)⟩
    exact⟨⟨f,a+bt,0,m - bt,m - bt,c7,h.drop bt,acc++[(k,a,a+bt)],a7,_,by simp,hH7,agz,Nat.zero_le _,lZ,fun i e1 e2=>by omega,Az,sK,by simpa using iy,h1,h2,by omega,by omega⟩,by rw[hm7];omega⟩
end
section
open Go.RowKit
theorem adx(w:World)(E:Nat)(xs:List UInt8)(fr:Nat×Nat)(hm:xs.length≤maxLen):ak (w.alloc (.cells (xs.flatMap bT).toArray E fr)) (.slice (some ⟨w.heap.size,0,none⟩) xs.length xs.length) 1 bT xs:=by
 refine⟨_,w.heap.size,0,xs.length,rfl,Nat.le_refl _,by simpa [maxLen] using hm,.inl rfl,fun i hi j u hu=>?_⟩
 rw[World.cell?_alloc_mark]
 have hj:j=0:=by
  cases j with
  | zero=>rfl
  | succ j=>simp[bT] at hu
 subst hj
 have h2:=qF (enc:=bT) (fun _=>rfl) xs i 0 hi (by decide)
 rw[List.getElem?_toArray,show 0+i*1+0=i*1+0 by omega,h2]
 exact hu
def zQ(w:World):Prop:=∃ m,w.cell? ⟨0,0,none⟩=some (.int .i64 m)
theorem zQ.kept{w w':World}(h:zQ w)(hb:Below w.heap.size w w'):zQ w':=by
 obtain⟨m,hm⟩:=h
 exact⟨m,(hb.cell (World.block_lt_of_cell? w _ hm)).trans hm⟩
end
end Go.Proofs.YtbemonecmmnlcaaGreatDoor
