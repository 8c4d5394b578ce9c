/- The texts of T31, in few letters (mini.py). -/
import Derived.Test.YtbemonecmmnlcaaGreatDoorU30
set_option linter.unusedVariables false
set_option linter.unusedSimpArgs false
set_option maxRecDepth 20000
set_option maxHeartbeats 6400000
namespace Go.Proofs.YtbemonecmmnlcaaGreatDoor
section
open Go.RowKit
theorem add_block(x:Addr)(t:Nat):(x.add t).block=x.block:=by unfold Addr.add;split <;> rfl
structure iK(w:World)(top:Nat)(a:Option Addr)(n c:Nat)(h:List UInt8):Prop where
 sl:ak w (.slice a n c) 1 bf h
 ge:∀ ad,a=some ad→top≤ad.block∧ad.block<w.heap.size
 how:Own w top 5 1 bf (.slice a n c) h∨n=c
theorem iK.same{w w':World}{top n c:Nat}{a:Option Addr}{h:List UInt8}(hh:iK w top a n c h)(hs:w.heap.size≤w'.heap.size)(hb:∀ ad,a=some ad→w'.heap[ad.block]?=w.heap[ad.block]?):iK w' top a n c h :=
 ⟨hh.sl.Dw fun ad ha _=>hb ad ha,fun ad ha=>⟨(hh.ge ad ha).1,Nat.lt_of_lt_of_le (hh.ge ad ha).2 hs⟩,hh.how.imp (fun o=>o.bW fun g hg=>by
  cases a with
  | none=>simp[Value.ownBlock] at hg
  | some ad=>simp[Value.ownBlock] at hg;subst hg;exact hb ad rfl) id⟩
theorem iK.only{w w':World}{sb top n c:Nat}{a:Option Addr}{h:List UInt8}(hh:iK w top a n c h)(hlt:sb<top)(k:aU sb w w'):iK w' top a n c h :=
 hh.same k.size fun ad ha=>k.block _ (hh.ge ad ha).2 (by have:=(hh.ge ad ha).1;omega)
theorem iK.nil(w:World)(top:Nat):iK w top none 0 0 []:=⟨Y5 w 1 bf,fun ad h=>(by cases h),.inr rfl⟩
theorem iK.len{w:World}{top n c:Nat}{a:Option Addr}{h:List UInt8}(hh:iK w top a n c h):n=h.length∧n≤c∧c≤9223372036854775807:=by
 obtain⟨b,o,h1,h2,h3,_⟩:=hh.sl.open
 exact⟨h1,by omega,h3⟩
theorem iK.cut{w:World}{top n c:Nat}{a:Option Addr}{h:List UInt8}(hh:iK w top a n c h)(t:Nat)(ht:t≤n):iK w top (xJ n t a) (n - t) (n - t) (h.drop t):=by
 obtain⟨hn,_,hc⟩:=hh.len
 have h0:ak w (.slice a n n) 1 bf h:=by
  obtain⟨a',b,o,cap',hv,hl,hc',ha,hx⟩:=hh.sl
  obtain⟨rfl,rfl,rfl⟩:=Value.slice.inj hv
  exact⟨a,b,o,h.length,rfl,Nat.le_refl _,Nat.le_trans hl hc',ha.imp id (fun⟨h1,_⟩=>⟨h1,fun _=>by rw[h1];rfl⟩),hx⟩
 have h1:=ak.piece (f:=fun x:UInt8=>Value.int .u8 (x.toNat:Nat)) h0 t n ht (Nat.le_refl _)
 rw[List.take_of_length_le (by rw[List.length_drop];omega)] at h1
 refine⟨h1,fun ad ha=>?_,.inr rfl⟩
 unfold xJ at ha
 by_cases e:n=t
 ·rw[if_pos e] at ha;exact hh.ge ad ha
 ·rw[if_neg e] at ha
  obtain⟨x,hx,rfl⟩:=Option.map_eq_some_iff.1 ha
  rw[add_block];exact hh.ge x hx
def jd(sb top vb n:Nat)(V:au)(D:ay)(w0 w:World)(X:eG)(g:Option Nat):Prop :=
 Mid sb top w0 w∧∃ (ha:Option Addr) (m hc s j:Nat) (r:Int×Nat),iK w top ha m hc X.held∧(∀ ad,ha=some ad→g=some ad.block) ∧
  Box w sb (sC V (.slice (some ⟨vb,0,none⟩) n n::iE s r++resT (.slice ha m hc) X.at_ j X.en X.sk)) 123 ∧
  (X.sk=false→j≤m∧s=bD D 0 (X.held.take j)∧r=iY D (X.held.take j)∧∀ i,0<i→i≤j→fP D (bD D 0 (X.held.take i))=true)
def Ns(sb:Nat)(w:World):Nat:=match w.cell? ⟨sb,264,none⟩ with
 | some (.slice _ n _)=>n
 | _=>0
theorem Za{D:ay}(hw:jF D){h:List UInt8}{j:Nat}(hd:fP D (bD D 0 (h.take j))=false):iY D (h.take j)=iY D h:=by
 unfold iY
 rw[←zH (h.take j) (h.drop j) (Nh hw _ hd),List.take_append_drop]
def Oq(sb top vb n:Nat)(V:au)(D:ay)(w0:World)(g:Option Nat)(w:World)(q:List (Int×Nat×Nat)×eG)(e:Ending)(w':World):Prop :=
 ∃ a c,e=.returned (.slice a q.1.length c)∧Own w' w.heap.size 61 3 gK (.slice a q.1.length c) q.1∧aU sb w w'∧jd sb top vb n V D w0 w' q.2 g
theorem aeN(sb top vb:Nat)(V:au)(D:ay)(w0 w:World)(n wd lb lo nb no:Nat)(rb ro rc:Nat→Nat)(hM:zK (Mid sb top w0) V D n wd lb lo nb no vb rb ro rc)(hW:jF D)(hB:Mid sb top w0 w)(hlt:sb<top)
  (held:List UInt8) (ha:Option Addr) (m hc:Nat) (hH:iK w top ha m hc held) (at_ j:Nat) (en:Bool) (hj:j≤m)
  (hb:Box w sb (sC V (.slice (some ⟨vb,0,none⟩) n n::iE (bD D 0 (held.take j)) (iY D (held.take j))++resT (.slice ha m hc) at_ j en false)) 123)
  (hlv:∀ i,0<i→i≤j→fP D (bD D 0 (held.take i))=true) :
  Calls Tryz.prog 126 #[.pointer (some ⟨sb,0,none⟩)] w fun e w'=>e=.returned (.bool (dZ D en held))∧∃ j',aU sb w w'∧j'≤m ∧
   Box w' sb (sC V (.slice (some ⟨vb,0,none⟩) n n::iE (bD D 0 (held.take j')) (iY D (held.take j'))++resT (.slice ha m hc) at_ j' en false)) 123 ∧
   (dZ D en held=true→iY D (held.take j')=iY D held)∧(dZ D en held=false→∀ i,0<i→i≤j'→fP D (bD D 0 (held.take i))=true):=by
 have hml:=hH.len.1
 refine(ag5 sb top vb V D w0 w n wd lb lo nb no rb ro rc hM hB held ha m hc hH.sl (fun ad h=>by have:=(hH.ge ad h).1;omega) at_ j en false hj hb).mono ?_
 rintro e w' ⟨j',h1,h2,hO,hb',h3,⟨rfl,h4,h5⟩ | ⟨rfl,rfl,h5⟩⟩
 ·have hs:dZ D en held=true:=Kt en (by omega) (by omega) h5
  exact⟨by rw[hs],j',hO,h2,hb',fun _=>Za hW h5,fun h=>by rw[hs] at h;cases h⟩
 ·have hal:∀ i,0<i→i≤j'→fP D (bD D 0 (held.take i))=true:=fun i g1 g2=>by
   by_cases e1:i≤j
   ·exact hlv i g1 e1
   ·by_cases e2:i=j'
    ·subst e2;exact h5 (by omega)
    ·exact h3 i (by omega) (by omega)
  have hs:=Us en (fun i g1 g2=>hal i g1 (by omega))
  exact⟨by rw[hs],j',hO,Nat.le_refl _,hb',fun _=>by rw[hml,List.take_length],fun _=>hal⟩
theorem Xi(sb top vb:Nat)(V:au)(D:ay)(w0 w:World)(n wd lb lo nb no:Nat)(rb ro rc:Nat→Nat)(hM:zK (Mid sb top w0) V D n wd lb lo nb no vb rb ro rc)(hW:jF D)(hlt:sb<top)(X:eG)(g:Option Nat)(hS:jd sb top vb n V D w0 w X g)(hg:∀ k,g=some k→k<w.heap.size)(hlen:X.at_+X.held.length≤1099511627776)(hk:X.sk=false) :
  Calls Tryz.prog 86 #[.pointer (some ⟨sb,0,none⟩)] w (Oq sb top vb n V D w0 g w (mF D X)):=by
 obtain⟨hB,ha,m,hc,s,j,r,hH,hga,hbx,hst⟩:=hS
 obtain⟨hj,rfl,rfl,hlv⟩:=hst hk
 obtain⟨held,at_,en,sk⟩:=X
 dsimp only at *
 subst hk
 obtain⟨TK,G6⟩:∃ TK,kQ D en (held.length+1) held at_=TK:=⟨_,rfl⟩
 have hts:mF D ⟨held,at_,en,false⟩=(TK.1,⟨TK.2.1,TK.2.2.1,en,TK.2.2.2⟩):=by unfold mF;rw[if_neg (by simp)];dsimp only;rw[G6]
 rw[hts]
 have hTL:TK.1.length≤held.length+1:=by rw[←G6];exact PZ D en _ held at_
 have hsb:=hbx.lt
 have htw:=hB.1
 have HST:=ah (show iK w top ha m hc held∧_∧_∧_∧_∧_ from⟨hH,hga,hbx,hlv,G6,hB⟩)
 have HM:=ah hM;have HW:=ah hW;have HG:=ah hg
 clear hM hW hH hga hbx hst hlv G6 hB hts hg
 go_enter Tryz.func86,Tryz.ntmps86
 go_wp2_with fail
 go_loopw [3] (fun v wr=>∃ (f a j m hc c:Nat) (h:List UInt8) (acc:List (Int×Nat×Nat)) (sa ha:Option Addr),v=.slice sa acc.length c∧iK wr top ha m hc h∧(∀ ad,ha=some ad→g=some ad.block)∧j≤m ∧
  Box wr sb (sC V (.slice (some ⟨vb,0,none⟩) n n::iE (bD D 0 (h.take j)) (iY D (h.take j))++resT (.slice ha m hc) a j en false)) 123∧(∀ i,0<i→i≤j→fP D (bD D 0 (h.take i))=true)∧aU sb w wr∧Mid sb top w0 wr ∧
  Own wr w.heap.size 61 3 gK (.slice sa acc.length c) acc∧acc++(kQ D en f h a).1=TK.1∧(kQ D en f h a).2=TK.2∧h.length<f∧a+h.length≤1099511627776) (fun _ wr=>Ns sb wr)
 case atStart=>exact⟨held.length+1,at_,j,m,hc,0,held,[],none,ha,rfl,HST.out.1,HST.out.2.1,hj,HST.out.2.2.1,HST.out.2.2.2.1,aU.refl _ _,HST.out.2.2.2.2.2,Own.nil _ _ _ _ _,by rw[List.nil_append,HST.out.2.2.2.2.1],by rw[HST.out.2.2.2.2.1],by omega,hlen⟩
 case round =>
  clear HST
  obtain⟨f,a,j,m,hc,c,h,acc,sa,ha,rfl,hH,hga,hj,hbx,hlv,hO,hB,hown,h1,h2,hf,hal⟩:=hrel
  obtain⟨f,rfl⟩:∃ f',f=f'+1:=⟨f - 1,by omega⟩
  rw[kQ] at h1 h2
  have hacc:acc.length≤1099511627777:=by
   have e1:=congrArg List.length h1
   rw[List.length_append] at e1
   omega
  have hms:Ns sb wr=m:=by
   unfold Ns
   rw[show wr.cell? ⟨sb,264,none⟩=some (.slice ha m hc) from hbx.dH 4]
  rw[hms]
  have q0:wr.cell? ⟨sb,268,none⟩=some (.bool false):=hbx.dH 8
  have l0:=hbx.lt
  have hsu:=aeN sb top vb V D w0 wr n wd lb lo nb no rb ro rc HM.out HW.out hB hlt h ha m hc hH a j en hj hbx hlv
  have o9:=ah hsu;have HO:=ah hO;have HB:=ah hB;have HOWN:=ah hown;have HH:=ah hH;have Gw:=ah hga;have yS:=ah hlv
  have hml:=hH.len
  clear hsu hO hB hown hH hga hlv hbx hms
  cases hs:dZ D en h with
  | false =>
   rw[hs,if_neg (by decide)] at h1 h2
   rw[hs] at o9
   have H1:=ah (And.intro h1 h2)
   clear h1 h2 hs hml
   go_wp2_with (go_at_call 126;go_must (refine o9.out.mono ?_;rintro e w2 ⟨rfl,j2,hO2,hj2,hb2,_,hl2⟩;have q2:w2.cell? ⟨sb,268,none⟩=some (.bool false):=hb2.dH 8;have l2:=hb2.lt))
   go_ret
   obtain⟨h1,h2⟩:=H1.out
   rw[List.append_nil] at h1
   refine⟨sa,c,(by rw[←h1];rfl),?_,HO.out.trans hO2,?_⟩
   ·rw[←h1];exact HOWN.out.bW fun g hg=>hO2.block g (HOWN.out.bC g hg).2 (by have:=(HOWN.out.bC g hg).1;omega)
   ·rw[←h2];exact⟨HB.out.only hO2,ha,m,hc,_,j2,_,HH.out.only hlt hO2,Gw.out,hb2,fun _=>⟨hj2,rfl,rfl,hl2 trivial⟩⟩
  | true =>
   rw[hs,if_pos rfl] at h1 h2
   rw[hs] at o9
   have Ae:=ah (show ∀ j2,iY D (h.take j2)=iY D h→iY D (h.take j2)=(dP D 0 h).getD (0,0) from fun j2 e=>e)
   cases hbs:dP D 0 h with
   | none =>
    rw[hbs] at h1 h2 Ae
    dsimp only at h1 h2
    rw[List.append_nil] at h1
    have H1:=ah (And.intro h1 h2)
    have Gu:=ah hml
    clear h1 h2 hs hml hbs
    by_cases hm0:0<m
    ·have hd0:decide (0<m)=true:=decide_eq_true hm0
     go_wp2_with (first | (go_at_call 126;go_must (refine o9.out.mono ?_;rintro e w2 ⟨rfl,j2,hO2,hj2,hb2,hl2,_⟩;rw[Ae.out j2 (hl2 rfl)] at hb2)) | (go_at_call 127;go_must (refine(P8 sb V w2 _ _ 0 ha m hc a j2 en false hb2).mono ?_;rintro e w3 ⟨rfl,hb3,hO3⟩;rw[hd0] at hb3;have hal:=aj w3 (.cells #[.int .i64 0,.int .i64 0,.int .i64 0] 61);have hb4:=hb3.kept hal;have p0:(w3.alloc (.cells #[.int .i64 0,.int .i64 0,.int .i64 0] 61)).cell? ⟨sb,268,none⟩=some (.bool true):=hb4.dH 8;have p1:(w3.alloc (.cells #[.int .i64 0,.int .i64 0,.int .i64 0] 61)).cell? ⟨sb,264,none⟩=some (.slice ha m hc):=hb4.dH 4;have p2:=hb4.free 264;have p3:=hb4.lt;have hO4:=((hO2.trans hO3).trans (aU.below hal)).set 264 (.slice none 0 0);have hb5:=hb4.mV 4 (.slice none 0 0);have oK:=ah hO4;have nG:=ah hb5;clear hal hb3 hb4 hO4 hb5 hO2 hO3 hb2)))
     go_ret
     obtain⟨h1,h2⟩:=H1.out
     rw[decide_eq_true (by have:=Gu.out.1;omega)] at h2
     refine⟨sa,c,(by rw[←h1];rfl),?_,HO.out.trans oK.out,?_⟩
     ·rw[←h1];exact HOWN.out.bW fun g hg=>oK.out.block g (HOWN.out.bC g hg).2 (by have:=(HOWN.out.bC g hg).1;omega)
     ·rw[←h2];exact⟨HB.out.only oK.out,none,0,0,_,j2,_,iK.nil _ _,(fun ad e=>by cases e),nG.out,fun e=>by cases e⟩
    ·have hd0:decide (0<m)=false:=decide_eq_false hm0
     go_wp2_with (first | (go_at_call 126;go_must (refine o9.out.mono ?_;rintro e w2 ⟨rfl,j2,hO2,hj2,hb2,hl2,_⟩;rw[Ae.out j2 (hl2 rfl)] at hb2)) | (go_at_call 127;go_must (refine(P8 sb V w2 _ _ 0 ha m hc a j2 en false hb2).mono ?_;rintro e w3 ⟨rfl,hb3,hO3⟩;rw[hd0] at hb3;have hal:=aj w3 (.cells #[.int .i64 0,.int .i64 0,.int .i64 0] 61);have hb4:=hb3.kept hal;have p0:(w3.alloc (.cells #[.int .i64 0,.int .i64 0,.int .i64 0] 61)).cell? ⟨sb,268,none⟩=some (.bool false):=hb4.dH 8;have p3:=hb4.lt;have hO4:=(hO2.trans hO3).trans (aU.below hal);have oK:=ah hO4;have nG:=ah hb4;clear hal hb3 hb4 hO4 hO2 hO3 hb2)))
     go_ret
     obtain⟨h1,h2⟩:=H1.out
     have hh0:h=[]:=List.eq_nil_of_length_eq_zero (by have:=Gu.out.1;omega)
     rw[decide_eq_false (by have:=Gu.out.1;omega)] at h2
     refine⟨sa,c,(by rw[←h1];rfl),?_,HO.out.trans oK.out,?_⟩
     ·rw[←h1];exact HOWN.out.bW fun g hg=>oK.out.block g (HOWN.out.bC g hg).2 (by have:=(HOWN.out.bC g hg).1;omega)
     ·rw[←h2]
      have hj0:j2=0:=by omega
      have hH4:=HH.out.only hlt oK.out
      have hb5:=nG.out
      subst hh0 hj0
      exact⟨HB.out.only oK.out,ha,m,hc,_,0,_,hH4,Gw.out,hb5,fun _=>⟨Nat.zero_le _,rfl,rfl,fun i g1 g2=>by omega⟩⟩
   | some q =>
    obtain⟨k,bt⟩:=q
    obtain⟨hq1,hq2,_⟩:=tu _ hbs
    rw[hbs] at h1 h2 Ae
    dsimp only at h1 h2
    rw[show acc++(k,a,a+bt)::(kQ D en f (h.drop bt) (a+bt)).1=(acc++[(k,a,a+bt)])++(kQ D en f (h.drop bt) (a+bt)).1 by simp] at h1
    have H1:=ah (And.intro h1 h2)
    have Gu:=ah hml
    have hbm:bt≤m:=by omega
    have hmc:=hml.2.1
    have hcc:=hml.2.2
    have hfa:a+bt≤9223372036854775807:=by omega
    have VY:=ah (show h.length<f+1∧a+h.length≤1099511627776∧bt≤h.length from⟨hf,hal,hq2⟩)
    clear h1 h2 hs hml hbs hf hal hq2
    go_wp2_with (first | (go_at_call 126;go_must (refine o9.out.mono ?_;rintro e w2 ⟨rfl,j2,hO2,hj2,hb2,hl2,_⟩;rw[Ae.out j2 (hl2 rfl)] at hb2)) | (go_at_call 127;go_must (refine(Y8 sb V w2 _ _ k bt ha m hc a j2 en false hq1 hbm hmc hcc hfa hb2).mono ?_;rintro e w3 ⟨rfl,hb3,hO3⟩;have hO4:=hO2.trans hO3;have ho3:=HOWN.out.bW fun g hg=>hO4.block g (HOWN.out.bC g hg).2 (by have:=(HOWN.out.bC g hg).1;omega);have HB3:=ah hb3;have oK:=ah hO4;have HO3:=ah ho3;have mM:=(ho3.kept (aj w3 (.cells (wQ k a (a+bt)) 61))).kept (aj _ (.cells (wQ k a (a+bt)) 61));have hs3:=hO4.size;have ar2:=HO.out.size;clear hb3 hO4 ho3 hO2 hO3 hb2)) | (at_builtin;go_must (refine fG rfl _ _ 55 rfl Un vN rfl mM ⟨w3.heap.size+1,0,none⟩ 1 (k,a,a+bt) rfl (by rw[←World.size_alloc w3 (.cells (wQ k a (a+bt)) 61)];exact cu _ (gK (k,a,a+bt)) _) (by simp only[maxLen];omega) (by omega) (by simp only[World.size_alloc];omega) ?_;intro a7 c7 w7 fC bZ)))
    have EL:∀ b,b<w.heap.size→w7.heap[b]?=w3.heap[b]?:=fun b hb=>by
     refine(bZ.block b (by simp only[World.size_alloc];omega) (fun e'=>by have:=(HO3.out.bC b e'.symm).1;omega)).trans ?_
     exact(Below.heap_alloc _ _ b (by simp only[World.size_alloc];omega)).trans (Below.heap_alloc _ _ b (by omega))
    have hs7:=bZ.size
    simp only[World.size_alloc] at hs7
    have Dy:aU sb w w7:=⟨bZ.os.trans (oK.out.os.trans HO.out.os),bZ.tape.trans (oK.out.tape.trans HO.out.tape),bZ.output.trans (oK.out.output.trans HO.out.output),by omega,fun b hb hn=>(EL b hb).trans ((oK.out.block b (by omega) hn).trans (HO.out.block b hb hn))⟩
    have oP:=(EL sb hsb).trans HB3.out
    have ajT:∀ ad,xJ m bt ha=some ad→g=some ad.block:=fun ad e=>by
     unfold xJ at e
     by_cases e2:m=bt
     ·rw[if_pos e2] at e;exact Gw.out ad e
     ·rw[if_neg e2] at e
      obtain⟨x,hx,rfl⟩:=Option.map_eq_some_iff.1 e
      rw[add_block];exact Gw.out x hx
    have hH7:=((HH.out.only hlt oK.out).cut bt hbm).same (w':=w7) (by omega) fun ad e=>EL _ (HG.out _ (ajT ad e))
    have hm7:Ns sb w7=m - bt:=by
     unfold Ns
     rw[show w7.cell? ⟨sb,264,none⟩=some (.slice _ (m - bt) (m - bt)) from Box.dH oP 4]
    obtain⟨h1,h2⟩:=H1.out
    obtain⟨g1,g2,g3⟩:=VY.out
    have g4:(h.drop bt).length=h.length - bt:=List.length_drop
    have kM:Mid sb top w0 w7:=⟨by omega,fun b b1 b2=>(EL b (by omega)).trans ((HB.out.only oK.out).2 b b1 b2)⟩
    exact⟨⟨f,a+bt,0,m - bt,m - bt,c7,h.drop bt,acc++[(k,a,a+bt)],a7,_,by simp,hH7,ajT,Nat.zero_le _,oP,fun i e1 e2=>by omega,Dy,kM,by simpa using fC,h1,h2,by omega,by omega⟩,by rw[hm7];omega⟩
theorem Zb(sb top vb n:Nat)(V:au)(D:ay)(w0 w:World)(hlt:sb<top)(X:eG)(g:Option Nat)(hS:jd sb top vb n V D w0 w X g)(hk:X.sk=true)(hh:X.held=[]) :
  Calls Tryz.prog 86 #[.pointer (some ⟨sb,0,none⟩)] w (Oq sb top vb n V D w0 g w (mF D X)):=by
 obtain⟨hB,ha,m,hc,s,j,r,hH,hga,hbx,hst⟩:=hS
 have ht:mF D X=([],X):=by unfold mF;rw[if_pos hk]
 rw[ht]
 have q0:w.cell? ⟨sb,268,none⟩=some (.bool true):=by rw[←hk];exact hbx.dH 8
 have q1:w.cell? ⟨sb,264,none⟩=some (.slice ha m hc):=hbx.dH 4
 have l0:=hbx.lt
 have f0:=hbx.free 264
 have hb2:=hbx.mV 4 (.slice none 0 0)
 have hO2:=(aU.refl sb w).set 264 (.slice none 0 0)
 have HS2:Hid (jd sb top vb n V D w0 (w.setCell ⟨sb,264,none⟩ (.slice none 0 0)) X g):=ah ⟨hB.only hO2,none,0,0,s,j,r,by rw[hh];exact iK.nil _ _,(fun ad e=>by cases e),hb2,fun e=>by rw[hk] at e;cases e⟩
 have HO2:=ah hO2
 clear hB hH hga hbx hst ht hb2 hO2 hh hk
 go_enter Tryz.func86,Tryz.ntmps86
 go_wp2_with fail
 go_loopw [3] (fun v wr=>v=.slice none 0 0∧wr=w) (fun _ _=>0)
 case atStart=>exact⟨rfl,rfl⟩
 case round =>
  obtain⟨rfl,rfl⟩:=hrel
  go_wp2
  go_ret
  exact⟨none,0,rfl,Own.nil _ _ _ _ _,HO2.out,HS2.out⟩
end
section
open Go.RowKit
def Vz:au:=⟨fun _=>0,0,none,0,0,none,0,0,none,0,0⟩
theorem jG:Tryz.zeroCells27=Vz.cells:=by kernel_rfl
def AQ(w:World)(r:Sum Nat ay)(e:Ending)(w':World):Prop :=
 Below w.heap.size w w'∧match r with
 | .inl c=>e=.returned (.tuple #[.agg Vz.cells,.int .i64 c])
 | .inr D=>∃ V:au,e=.returned (.tuple #[.agg V.cells,.int .i64 0])∧(∀ u:World,(∀ b,w.heap.size≤b→b<w'.heap.size→u.heap[b]?=w'.heap[b]?)→dN u V D)∧V.of=D.of
def Dz(N:Nf)(names:List (List UInt8))(most:Nat):Sum Nat ay :=
 if yR N names=true then (match jP N most (ig N) (most+1) 0 [gq N [0]] [] with
  | none=>.inl 7
  | some (sets,next)=>.inr ⟨bg (RL (N.edges.map (·.2.1))),((ig N).length:Nat),next,sets.map (iJ N),names⟩) else .inl 6
theorem Qn(l:List (List UInt8)):(l.map bs).map Value.string=l.flatMap lY:=by
 induction l with
 | nil=>rfl
 | cons x l ih=>rw[List.map_cons,List.map_cons,ih,List.flatMap_cons];rfl
theorem Jm(l:List (List UInt8))(a:Option Addr)(n cap:Nat)(w:World)(h:ak w (.slice a n cap) 1 lY l)(hl:l.length≤1099511627776) :
  Calls Tryz.prog 81 #[.slice a n cap] w (gV w 9 1 lY l):=by
 obtain⟨b,o,hn,hc,hc2,ha,hx⟩:=h.bY (f:=fun x=>sv x)
 subst hn
 by_cases h0:l.length=0
 ·obtain rfl:l=[]:=List.eq_nil_of_length_eq_zero h0
  cases a with
  | none =>
   refine(Tryz.slices_Clone_string_nil 0 cap w).mono fun e w' ⟨he,hw⟩=>?_
   exact⟨none,0,he,Own.nil _ _ _ _ _,hw▸Below.refl _ _⟩
  | some ad =>
   refine(Tryz.slices_Clone_string_zero ad cap w).mono fun e w' he=>?_
   obtain⟨v',rfl,hr,_,hB⟩:=he
   have ho:Own w' w.heap.size 9 1 lY v' []:=Own.ofRow hr zS
   obtain⟨a',c',rfl⟩:=ho.form
   exact⟨a',c',rfl,ho,hB⟩
 ·obtain rfl:=ha 0 (by omega)
  have:=Tryz.slices_Clone_string b o l.length cap (l.map bs) w (by simp) (by omega) (fun j hj=>by
   have hj2:j<l.length:=by simpa using hj
   rw[hx j hj2 w (Below.refl _ _)]
   simp[List.getD,hj2])
  refine this.mono fun e w' he=>?_
  obtain⟨v',rfl,hr,_,hB⟩:=he
  have e1:((l.map bs).take l.length).map Value.string=l.flatMap lY:=by rw[List.take_of_length_le (by simp)];exact Qn l
  rw[e1] at hr
  have ho:Own w' w.heap.size 9 1 lY v' l:=Own.ofRow hr zS
  obtain⟨a',c',rfl⟩:=ho.form
  exact⟨a',c',rfl,ho,hB⟩
theorem abV(N:Nf)(V:Y3)(names:List (List UInt8))(na:Option Addr)(nc most:Nat)(w:World)(h:uo w N V)(hw:N.wf)(h0:0<N.states)(hs:N.states≤65536)(hn:ak w (.slice na names.length nc) 1 lY names)(hnl:∀ x∈names,x.length≤9223372036854775807)
  (hno:yR N names=false) :
  Calls Tryz.prog 101 #[.agg (dL N V),.slice na names.length nc,.int .i64 most] w (AQ w (.inl 6)):=by
 have hB0:=aj w (.cells (dL N V) 157)
 have hbx:=Box.new w (dL N V) 157
 have hB1:=hB0.alloc hB0.size (.cells Vz.cells 27)
 have hby:Box ((w.alloc (.cells (dL N V) 157)).alloc (.cells Vz.cells 27)) (w.heap.size+1) Vz.cells 27:=Box.new' (World.size_alloc _ _).symm _ _
 have dF:=hbx.kept (aj (w.alloc (.cells (dL N V) 157)) (.cells Vz.cells 27))
 have HN:=ah (fun u hu=>hno▸GN N V names na nc u (h.kept hu) hw h0 hs (hn.kept hu) hnl)
 obtain⟨vl,ve,va⟩:=V
 obtain⟨la,lc,hvl⟩:=h.li.form
 obtain⟨ea,ec,lZ⟩:=h.ed.form
 obtain⟨aa,ac,hva⟩:=h.ac.form
 dsimp only at hvl lZ hva
 subst hvl
 subst lZ
 subst hva
 have hsz:Vz.cells.size=260:=au.size _
 clear h hw hn hnl hno
 unfold dL at *
 dsimp only at *
 generalize hW1:((w.alloc (.cells #[.int .i64 N.states,.int .i64 0,.slice la N.links.length lc,.slice ea N.edges.length ec,.slice aa N.accept.length ac] 157)).alloc (.cells Vz.cells 27))=W1 at *
 have HW1:=ah hW1
 have x0:W1.cell? ⟨w.heap.size,0,none⟩=some (.int .i64 N.states):=dF.cell 0
 have x1:W1.cell? ⟨w.heap.size,1,none⟩=some (.int .i64 0):=dF.cell 1
 have x2:W1.cell? ⟨w.heap.size,2,none⟩=some (.slice la N.links.length lc):=dF.cell 2
 have x3:W1.cell? ⟨w.heap.size,3,none⟩=some (.slice ea N.edges.length ec):=dF.cell 3
 have x4:W1.cell? ⟨w.heap.size,4,none⟩=some (.slice aa N.accept.length ac):=dF.cell 4
 have lx:=dF.lt
 clear hW1 hbx hB0
 go_enter Tryz.func101,Tryz.ntmps101
 go_wp2_with (first | (with_reducible refine Halt.go (p:=wpList _ _ _ ({ dst:=some 15,op:=_,type:=_,pos:=_,after:=_,guard:=_ }::_) _ _) ?_) | fail)
 simp only[jG,HW1.out]
 unfold Halt
 go_wp2_with (first | (go_at_call 147;go_must (refine(HN.out _ hB1).mono ?_;rintro e w2 ⟨rfl,hb2⟩;have hy2:=hby.kept hb2)) | (simp only[jG];refine wpList_store_row rfl 27 _ _ rfl (w.heap.size+1) _ rfl rfl _ _ hy2 (aZ _) rfl (au.all _) ?_))
 have hfin:=hy2.setRow Vz.cells
 refine bodyPost_ret (dK rfl _ _ (w.heap.size+1) 27 _ (.int .i64 6) rfl rfl hfin Tryz.underlying27 rfl (aZ _)) rfl ?_
 exact⟨below_setRow (hB1.trans (hb2.mono hB1.size)) (by omega) _,rfl⟩
theorem Zc(N:Nf)(V:Y3)(names:List (List UInt8))(na:Option Addr)(nc most:Nat)(w:World)(h:uo w N V)(hw:N.wf)(h0:0<N.states)(hs:N.states≤65536)(hn:ak w (.slice na names.length nc) 1 lY names)(hnl:∀ x∈names,x.length≤9223372036854775807)
  (hlk:N.links.length≤1099511627776) (he:N.edges.length≤65536) (hm1:1≤most) (hm2:most≤65536) (hT:Tab w) (hyes:yR N names=true)
  (hbig:jP N most (ig N) (most+1) 0 [gq N [0]] []=none) :
  Calls Tryz.prog 101 #[.agg (dL N V),.slice na names.length nc,.int .i64 most] w (AQ w (.inl 7)):=by
 have hB0:=aj w (.cells (dL N V) 157)
 have hbx:=Box.new w (dL N V) 157
 have hB1:=hB0.alloc hB0.size (.cells Vz.cells 27)
 have hby:Box ((w.alloc (.cells (dL N V) 157)).alloc (.cells Vz.cells 27)) (w.heap.size+1) Vz.cells 27:=Box.new' (World.size_alloc _ _).symm _ _
 have dF:=hbx.kept (aj (w.alloc (.cells (dL N V) 157)) (.cells Vz.cells 27))
 have HN:=ah (fun u hu=>hyes▸GN N V names na nc u (h.kept hu) hw h0 hs (hn.kept hu) hnl)
 have HO:=ah (fun u hu=>by
  have h1:=abL N V most u (h.kept hu) hw h0 hs hlk he hm1 hm2 (hT.kept hu)
  unfold QD at h1
  rw[hbig] at h1
  exact h1)
 obtain⟨vl,ve,va⟩:=V
 obtain⟨la,lc,hvl⟩:=h.li.form
 obtain⟨ea,ec,lZ⟩:=h.ed.form
 obtain⟨aa,ac,hva⟩:=h.ac.form
 dsimp only at hvl lZ hva
 subst hvl
 subst lZ
 subst hva
 have hsz:Vz.cells.size=260:=au.size _
 clear h hw hn hnl hyes hbig hT
 unfold dL at *
 dsimp only at *
 generalize hW1:((w.alloc (.cells #[.int .i64 N.states,.int .i64 0,.slice la N.links.length lc,.slice ea N.edges.length ec,.slice aa N.accept.length ac] 157)).alloc (.cells Vz.cells 27))=W1 at *
 have HW1:=ah hW1
 have x0:W1.cell? ⟨w.heap.size,0,none⟩=some (.int .i64 N.states):=dF.cell 0
 have x1:W1.cell? ⟨w.heap.size,1,none⟩=some (.int .i64 0):=dF.cell 1
 have x2:W1.cell? ⟨w.heap.size,2,none⟩=some (.slice la N.links.length lc):=dF.cell 2
 have x3:W1.cell? ⟨w.heap.size,3,none⟩=some (.slice ea N.edges.length ec):=dF.cell 3
 have x4:W1.cell? ⟨w.heap.size,4,none⟩=some (.slice aa N.accept.length ac):=dF.cell 4
 have lx:=dF.lt
 clear hW1 hbx hB0
 go_enter Tryz.func101,Tryz.ntmps101
 go_wp2_with (first | (with_reducible refine Halt.go (p:=wpList _ _ _ ({ dst:=some 15,op:=_,type:=_,pos:=_,after:=_,guard:=_ }::_) _ _) ?_) | fail)
 simp only[jG,HW1.out]
 unfold Halt
 go_wp2_with (first | (go_at_call 147;go_must (refine(HN.out _ hB1).mono ?_;rintro e w2 ⟨rfl,hb2⟩;have hy2:=hby.kept hb2;have hx2:=dF.kept hb2;have hB2:=hB1.trans (hb2.mono hB1.size);have z0:w2.cell? ⟨w.heap.size,0,none⟩=some (.int .i64 N.states):=hx2.cell 0;have z1:w2.cell? ⟨w.heap.size,1,none⟩=some (.int .i64 0):=hx2.cell 1;have z2:w2.cell? ⟨w.heap.size,2,none⟩=some (.slice la N.links.length lc):=hx2.cell 2;have z3:w2.cell? ⟨w.heap.size,3,none⟩=some (.slice ea N.edges.length ec):=hx2.cell 3;have z4:w2.cell? ⟨w.heap.size,4,none⟩=some (.slice aa N.accept.length ac):=hx2.cell 4;have lz:=hx2.lt)) | (go_at_call 148;go_must (refine(HO.out w2 hB2).mono ?_;rintro e w3 ⟨hb3,rfl⟩;have hy3:=hy2.kept hb3)) | (simp only[jG];refine wpList_store_row rfl 27 _ _ rfl (w.heap.size+1) _ rfl rfl _ _ hy3 (aZ _) rfl (au.all _) ?_))
 have hfin:=hy3.setRow Vz.cells
 refine bodyPost_ret (dK rfl _ _ (w.heap.size+1) 27 _ (.int .i64 7) rfl rfl hfin Tryz.underlying27 rfl (aZ _)) rfl ?_
 exact⟨below_setRow (hB2.trans (hb3.mono hB2.size)) (by omega) _,rfl⟩
end
section
open Go.RowKit
theorem EX{P:Program}{o:Oper}{a:Act}{w:World}(ty:TypeId)(x:Operand)(ho:o.op=.load ty x)(b off:Nat)(hx:a.eval x=.pointer (some ⟨b,off,none⟩)){cs:Array Value}{d:TypeDesc}(hc:w.rangeAt b off cs.toList)
  (hu:P.underlying ty=some d) (hd:d.isRow=true) (hi:(P.info? ty).map (·.size)=some cs.toList.length):(execOp a.eval o).run P w=.ok (.value (.agg cs)) w:=by
 have:=GY ty x ho b off hx hc hu hd hi
 rwa[Array.toArray_toList] at this
theorem Nu(N:Nf)(l:List Nat):iJ N l=match oU N l 65 with | []=>0 | k::_=>(k:Int):=by
 unfold iJ oU
 have h:=List.head?_filter (p:=fun k=>decide (0<k)&&lG N l k) (l:=List.range 65)
 unfold lG at h ⊢
 rw[←h]
 cases (List.range 65).filter (fun k=>decide (0<k)&&l.any fun s=>N.accept.getD s 0==k) <;> rfl
theorem Nv(N:Nf)(most:Nat)(low:List Nat):∀ (f i:Nat) (sets:List (List Nat)) (next:List (List Int)) (r:List (List Nat)×List (List Int)),jP N most low f i sets next=some r→sets.length≤most→r.1.length≤most
 | 0,_,_,_,r,h,hs=>by rw[jP] at h;obtain rfl:=Option.some.inj h;exact hs
 | f+1,i,sets,next,r,h,hs=>by
  by_cases hi:i<sets.length
  ·rw[PU N most low f i sets next hi] at h
   cases hr:rowP N most (sets.getD i []) low sets [] with
   | none=>rw[hr] at h;cases h
   | some q =>
    rw[hr] at h
    exact Nv N most low f (i+1) q.1 _ r h ((TV N most _ low sets [] q hr).2 hs)
  ·rw[Na N most low (f+1) i sets next hi] at h
   obtain rfl:=Option.some.inj h
   exact hs
theorem Jo(V:au)(a:Option Addr)(n c:Nat):V.cells.setIfInBounds 258 (.slice a n c)=au.cells { V with la:=a,ln:=n,lc:=c }:=by
 refine Et (by rw[Array.size_setIfInBounds,au.size]) (fun i h=>?_) ?_ ?_ ?_ ?_
 ·rw[Array.getElem?_setIfInBounds_ne (by omega),V.Dp i h]
 ·rw[Array.getElem?_setIfInBounds_ne (by omega),V.BD]
 ·rw[Array.getElem?_setIfInBounds_ne (by omega),V.uS]
 ·rw[Array.getElem?_setIfInBounds,if_pos rfl,if_pos (by rw[au.size];decide)]
 ·rw[Array.getElem?_setIfInBounds_ne (by omega),V.BF]
theorem ak.slV{w:World}{v:Value}{xs:List Dv}(h:ak w v 1 tC xs):ak w v 1 adf (xs.map fun x:Dv=>Value.slice x.1 x.2.1 x.2.2):=by
 obtain⟨a,b,o,cap,rfl,hl,hc,ha,hx⟩:=h
 refine⟨a,b,o,cap,by rw[List.length_map],by rw[List.length_map];exact hl,hc,ha.imp id (fun⟨h1,h2⟩=>⟨by rw[h1];rfl,h2⟩),fun i hi j u hu=>?_⟩
 rw[List.length_map] at hi
 rw[List.getElem_map] at hu
 exact hx i hi j u hu
theorem aop(P:Nat→Option Addr→Nat→World→Prop){T:Nat→Option Addr→Nat→World→Prop}{G:Prop}(h1:(∀ tb ma mc W,P tb ma mc W→T tb ma mc W)→G)(h2:∀ tb ma mc W,P tb ma mc W→T tb ma mc W):G:=h1 h2
def rZ(f:Nat→Nat)(n:Nat)(na:Option Addr)(nn nc:Nat)(ma:Option Addr)(mn mc:Nat):au:=⟨f,(n:Nat),na,nn,nc,none,0,0,ma,mn,mc⟩
def ale(w3:World)(C:Option Addr→Nat→au)(names:List (List UInt8))(tb:Nat)(ma:Option Addr)(mc:Nat)(W:World):Prop :=
 Below w3.heap.size w3 W∧w3.heap.size≤tb∧Box W tb (C ma mc).cells 27∧Own W w3.heap.size 9 1 lY (.slice ma names.length mc) names
theorem abW(N:Nf)(V:Y3)(names:List (List UInt8))(na:Option Addr)(nc most:Nat)(w:World)(h:uo w N V)(hw:N.wf)(h0:0<N.states)(hs:N.states≤65536)(hn:ak w (.slice na names.length nc) 1 lY names)(hnl:∀ x∈names,x.length≤9223372036854775807)
  (hlk:N.links.length≤1099511627776) (he:N.edges.length≤65536) (hm1:1≤most) (hm2:most≤65536) (hT:Tab w) (hyes:yR N names=true) (alf:names.length≤1099511627776)
  (sets:List (List Nat)) (next:List (List Int)) (hok:jP N most (ig N) (most+1) 0 [gq N [0]] []=some (sets,next)) :
  Calls Tryz.prog 101 #[.agg (dL N V),.slice na names.length nc,.int .i64 most] w (AQ w (.inr ⟨bg (RL (N.edges.map (·.2.1))),((ig N).length:Nat),next,sets.map (iJ N),names⟩)):=by
 have hB0:=aj w (.cells (dL N V) 157)
 have hbx:=Box.new w (dL N V) 157
 have hB1:=hB0.alloc hB0.size (.cells Vz.cells 27)
 have hby:Box ((w.alloc (.cells (dL N V) 157)).alloc (.cells Vz.cells 27)) (w.heap.size+1) Vz.cells 27:=Box.new' (World.size_alloc _ _).symm _ _
 have dF:=hbx.kept (aj (w.alloc (.cells (dL N V) 157)) (.cells Vz.cells 27))
 have HN:=ah (fun u hu=>hyes▸GN N V names na nc u (h.kept hu) hw h0 hs (hn.kept hu) hnl)
 have HO:=ah (fun u hu=>by
  have h1:=abL N V most u (h.kept hu) hw h0 hs hlk he hm1 hm2 (hT.kept hu)
  unfold QD at h1
  rw[hok] at h1
  exact h1)
 have ug:=ah hn
 have hsm:=Nv N most (ig N) _ _ _ _ _ hok hm1
 dsimp only at hsm
 obtain⟨vl,ve,va⟩:=V
 obtain⟨la,lc,hvl⟩:=h.li.form
 obtain⟨ea,ec,lZ⟩:=h.ed.form
 obtain⟨aa,ac,hva⟩:=h.ac.form
 dsimp only at hvl lZ hva
 subst hvl
 subst lZ
 subst hva
 have hsz:Vz.cells.size=260:=au.size _
 clear h hw hn hnl hyes hok hT
 unfold dL at *
 dsimp only at *
 generalize hW1:((w.alloc (.cells #[.int .i64 N.states,.int .i64 0,.slice la N.links.length lc,.slice ea N.edges.length ec,.slice aa N.accept.length ac] 157)).alloc (.cells Vz.cells 27))=W1 at *
 have HW1:=ah hW1
 have x0:W1.cell? ⟨w.heap.size,0,none⟩=some (.int .i64 N.states):=dF.cell 0
 have x1:W1.cell? ⟨w.heap.size,1,none⟩=some (.int .i64 0):=dF.cell 1
 have x2:W1.cell? ⟨w.heap.size,2,none⟩=some (.slice la N.links.length lc):=dF.cell 2
 have x3:W1.cell? ⟨w.heap.size,3,none⟩=some (.slice ea N.edges.length ec):=dF.cell 3
 have x4:W1.cell? ⟨w.heap.size,4,none⟩=some (.slice aa N.accept.length ac):=dF.cell 4
 have lx:=dF.lt
 clear hW1 hbx hB0
 go_enter Tryz.func101,Tryz.ntmps101
 go_wp2_with (first | (with_reducible refine Halt.go (p:=wpList _ _ _ ({ dst:=some 15,op:=_,type:=_,pos:=_,after:=_,guard:=_ }::_) _ _) ?_) | fail)
 simp only[jG,HW1.out]
 unfold Halt
 go_wp2_with (first | (go_at_call 147;go_must (refine(HN.out _ hB1).mono ?_;rintro e w2 ⟨rfl,hb2⟩;have hy2:=hby.kept hb2;have hx2:=dF.kept hb2;have hB2:=hB1.trans (hb2.mono hB1.size);have z0:w2.cell? ⟨w.heap.size,0,none⟩=some (.int .i64 N.states):=hx2.cell 0;have z1:w2.cell? ⟨w.heap.size,1,none⟩=some (.int .i64 0):=hx2.cell 1;have z2:w2.cell? ⟨w.heap.size,2,none⟩=some (.slice la N.links.length lc):=hx2.cell 2;have z3:w2.cell? ⟨w.heap.size,3,none⟩=some (.slice ea N.edges.length ec):=hx2.cell 3;have z4:w2.cell? ⟨w.heap.size,4,none⟩=some (.slice aa N.accept.length ac):=hx2.cell 4;have lz:=hx2.lt)) | (go_at_call 148;go_must (refine(HO.out w2 hB2).mono ?_;rintro e w3 ⟨hb3,bp,base,inn,mb,B,kv,lb,eb,kl,ke,va,rfl,AB,hlo,ajU,ajV,hMa,ajW,qI⟩;have hy3:=hy2.kept hb3)))
 have hB3:=hB2.trans (hb3.mono hB2.size)
 obtain⟨su,aeO,ajX,ajY⟩:=AB.nexts
 obtain⟨AU,AV,Py⟩:=aeO.form
 obtain⟨loa,loc,aeP⟩:∃ a c,B.lo=.slice a (ig N).length c:=by obtain⟨a,_,_,c,hv,_⟩:=hlo.1;exact⟨a,c,hv⟩
 have hDr:Below w3.heap.size w3 w3.drew:=(Below.refl _ _).drew
 have HF:Hid (∀ u,Later w3.drew u→Box u bp (dJ B) 226∧u.cell? ⟨bp,258,none⟩=some (.slice loa (ig N).length loc)∧u.cell? ⟨bp,261,none⟩=some (.slice AU su.length AV)∧Calls Tryz.prog 81 #[.slice na names.length nc] u (gV u 9 1 lY names)∧Below w3.heap.size w3 u):=ah fun u hu=>by
  have h1:Below w3.heap.size w3 u:=hDr.trans (hu.mono hDr.size)
  have hx:=AB.box.kept h1
  refine⟨hx,?_,?_,Jm names na names.length nc u (ug.out.kept ((hB3.trans (h1.mono hB3.size)))) alf,h1⟩
  ·rw[hx.cell,vH,aeP]
  ·rw[hx.cell,vJ,Py]
 have hlow:(ig N).length≤256:=jW _ _
 have HBU:=ah AB;have HLO:=ah hlo;have HMA:=ah hMa;have HY3:=ah hy3;have HB3:=ah hB3;have aoq:=ah aeO;have aor:=ah ajY;have YN:=ah qI;have aos:=ah ajW;have Gn:=ah ajU;have Ae:=ah ajV;have IK:=ah ajX;have yS:=ah aeP;have HNV:=ah Py
 clear qI ajW ajU ajV ajX aeP Py hDr AB hlo hMa hy3 hB3 aeO ajY HN HO x0 x1 x2 x3 x4 z0 z1 z2 z3 z4
 refine aH (R:=Later) 17 (by kernel_rfl) ?_
 refine pl [0,1,2] ?_
 repeat
  refine gU ?_ rfl (fun w1 hl=>?_) ?_
  rotate_left
  ·skip;go_simp;try with_reducible rfl
  simp only[eA,eB,eC,Act.put,eD,eE,eF]
 refine dI ?_
 refine iZ 3 (.agg (aP B.of)) rfl (fun w1 hl=>?_) ?_
 ·exact EX 22 _ rfl bp 2 rfl (HF.out w1 hl).1.Xa Tryz.underlying22 rfl (by rw[Array.length_toList,aT];rfl)
 simp only[List.getElem_toArray,List.getElem_cons_zero,List.getElem_cons_succ,Act.put,List.setIfInBounds_toArray,List.set_cons_zero,List.set_cons_succ]
 refine pl [4,5,6,7,8,9,10,11,12,13] ?_
 repeat
  refine gU ?_ rfl (fun w1 hl=>?_) ?_
  rotate_left
  ·obtain⟨hX,q1,q2,_,_⟩:=HF.out w1 hl;have lX:=hX.lt;go_simp;try with_reducible rfl
  simp only[eA,eB,eC,Act.put,eD,eE,eF]
 refine dI ?_
 refine aop (ale w3 (fun ma mc=>rZ B.of (ig N).length AU su.length AV ma names.length mc) names) (T:=?T) (fun key=>?main) ?rest
 case main =>
  have l0:Later w3.drew w3.drew:=Later.refl _
  refine CV (t:=17) (i:=14) (j:=16) (by kernel_rfl) rfl rfl (fun w1 hl K hK=>?_) (fun w1 hl K hK=>?_)
  ·have hs1:=(HF.out w1 (Later.trans _ _ _ l0 hl)).2.2.2.2.size
   go_simp
   refine(HF.out w1 (Later.trans _ _ _ l0 hl)).2.2.2.1.mono ?_
   rintro e wq ⟨ma,mc,rfl,hown,hbq⟩
   refine hK.out _ _ (fun _=>hbq) ?_
   clear hK K
   replace l0:=Later.trans _ _ _ (Later.trans _ _ _ l0 hl) hbq
   have hwb:w3.heap.size≤w1.heap.size:=hs1
   have l1:=l0
   refine iZ 15 (.agg (rZ B.of (ig N).length AU su.length AV ma names.length mc).cells) rfl (fun w1 hl=>?_) ?_
   ·exact rX rfl (by rfl) (P6 B.of ((ig N).length:Nat) AU ma su.length AV names.length mc)
   simp only[List.getElem_toArray,List.getElem_cons_zero,List.getElem_cons_succ,Act.put,List.setIfInBounds_toArray,List.set_cons_zero,List.set_cons_succ]
   refine aW (t:=17) (i:=16) (by kernel_rfl) rfl (fun w1 hl K hK=>?_)
   have hown:=hown.kept hl
   go_simp
   simp only[jG]
   refine hK.out _ _ (fun _=>aj _ _) ?_
   clear hK K
   have hzb:=Box.new w1 Vz.cells 27
   have hzl:=aj w1 (.cells Vz.cells 27)
   replace l0:=Later.trans _ _ _ (Later.trans _ _ _ l0 hl) hzl
   have htb:w3.heap.size≤w1.heap.size:=by have h1:=(HF.out w1 (Later.trans _ _ _ l1 hl)).2.2.2.2.size;exact h1
   have hne:∀ g,(Value.slice ma names.length mc).ownBlock=some g→g≠w1.heap.size:=fun g hg=>by have:=(hown.blk hg).2;omega
   replace hown:=hown.kept hzl
   generalize (w1.alloc (.cells Vz.cells 27))=wz at *
   generalize w1.heap.size=tb at *
   refine aW (t:=17) (i:=17) (by kernel_rfl) rfl (fun w1 hl K hK=>?_)
   have Uu:=hzb.kept hl
   have hown2:=hown.kept hl
   have l2:=Later.trans _ _ _ l0 hl
   refine dD (by rfl) ?_
   refine wp_store_row 27 _ _ rfl tb _ rfl rfl _ _ Uu (aZ _) (au.sizes _ _) (au.all _) ?_
   refine hK.out _ _ (fun h=>absurd rfl h) ?_
   clear hK K
   have hb2:=(HF.out w1 l2).2.2.2.2
   have hfin:=Uu.setRow (rZ B.of (ig N).length AU su.length AV ma names.length mc).cells
   have hown3:Own (w1.setRow tb (rZ B.of (ig N).length AU su.length AV ma names.length mc).cells) _ 9 1 lY (.slice ma names.length mc) names:=hown2.same fun g hg=>setRow_other w1 tb g _ (hne g (by rw[hg]))
   have hbf:=below_setRow hb2 htb (rZ B.of (ig N).length AU su.length AV ma names.length mc).cells
   refine aQ (by kernel_rfl) (fun w1 hl=>?_) _
   exact key tb ma mc w1 ⟨hbf.trans (hl.mono hbf.size),htb,hfin.kept hl,(hown3.kept hl).mono hwb⟩
  ·have l1:=l0
   go_simp
   simp only[jG]
   refine hK.out _ _ (fun _=>aj _ _) ?_
   clear hK K
   have hzb:=Box.new w1 Vz.cells 27
   have hzl:=aj w1 (.cells Vz.cells 27)
   replace l0:=Later.trans _ _ _ (Later.trans _ _ _ l0 hl) hzl
   have htb:w3.heap.size≤w1.heap.size:=by have h1:=(HF.out w1 (Later.trans _ _ _ l1 hl)).2.2.2.2.size;exact h1
   generalize (w1.alloc (.cells Vz.cells 27))=wz at *
   generalize w1.heap.size=tb at *
   refine aW (t:=17) (i:=14) (by kernel_rfl) rfl (fun w1 hl K hK=>?_)
   have hs1:w3.heap.size≤w1.heap.size:=(HF.out w1 (Later.trans _ _ _ l0 hl)).2.2.2.2.size
   have hzb:=hzb.kept hl
   have hzs:=hzb.lt
   go_simp
   refine(HF.out w1 (Later.trans _ _ _ l0 hl)).2.2.2.1.mono ?_
   rintro e wq ⟨ma,mc,rfl,hown,hbq⟩
   refine hK.out _ _ (fun _=>hbq) ?_
   clear hK K
   replace l0:=Later.trans _ _ _ (Later.trans _ _ _ l0 hl) hbq
   have hzb:=hzb.kept hbq
   have hwb:w3.heap.size≤w1.heap.size:=hs1
   have hne:∀ g,(Value.slice ma names.length mc).ownBlock=some g→g≠tb:=fun g hg=>by have:=(hown.blk hg).1;omega
   refine iZ 15 (.agg (rZ B.of (ig N).length AU su.length AV ma names.length mc).cells) rfl (fun w1 hl=>?_) ?_
   ·exact rX rfl (by rfl) (P6 B.of ((ig N).length:Nat) AU ma su.length AV names.length mc)
   simp only[List.getElem_toArray,List.getElem_cons_zero,List.getElem_cons_succ,Act.put,List.setIfInBounds_toArray,List.set_cons_zero,List.set_cons_succ]
   refine aW (t:=17) (i:=17) (by kernel_rfl) rfl (fun w1 hl K hK=>?_)
   have Uu:=hzb.kept hl
   have hown2:=hown.kept hl
   have l2:=Later.trans _ _ _ l0 hl
   refine dD (by rfl) ?_
   refine wp_store_row 27 _ _ rfl tb _ rfl rfl _ _ Uu (aZ _) (au.sizes _ _) (au.all _) ?_
   refine hK.out _ _ (fun h=>absurd rfl h) ?_
   clear hK K
   have hb2:=(HF.out w1 l2).2.2.2.2
   have hfin:=Uu.setRow (rZ B.of (ig N).length AU su.length AV ma names.length mc).cells
   have hown3:Own (w1.setRow tb (rZ B.of (ig N).length AU su.length AV ma names.length mc).cells) _ 9 1 lY (.slice ma names.length mc) names:=hown2.same fun g hg=>setRow_other w1 tb g _ (hne g (by rw[hg]))
   have hbf:=below_setRow hb2 htb (rZ B.of (ig N).length AU su.length AV ma names.length mc).cells
   refine aQ (by kernel_rfl) (fun w1 hl=>?_) _
   exact key tb ma mc w1 ⟨hbf.trans (hl.mono hbf.size),htb,hfin.kept hl,(hown3.kept hl).mono hwb⟩
 case rest =>
  intro tb ma mc W hP
  obtain⟨hBW,htb,hbox,abX⟩:=hP
  have AB:=HBU.out.kept hBW
  obtain⟨pK,hro,hrl,hre⟩:=HBU.out.rows
  obtain⟨sa,sc,hsv⟩:=hro.form
  have x5:W.cell? ⟨bp,260,none⟩=some (.slice sa pK.length sc):=by rw[AB.box.cell,kH,hsv]
  have hbl:=AB.box.lt
  have hbt:=hbox.lt
  rw[hrl] at x5
  rw[hsv] at hro
  obtain⟨m,hm⟩:∃ m,sets.length=m:=⟨_,rfl⟩
  have HMS:=ah hm;have aj0:=ah hbox;have aeQ:=ah abX;have EP:=ah hro;have Jb:=ah hre;have Gq:=ah hrl;have gG:=ah hBW;have HIS:=ah AB.BI
  have hsc:sets.length≤sc:=by have:=hro.open.2.1;omega
  have hsc2:=hro.open.2.2.1
  rw[hm] at x5 hsc hsm
  clear hbox abX hro hre hrl hBW AB hsv hm
  go_wp2
  clear x5
  go_loopw [51] (fun v wr=>∃ (k:Nat) (la':Option Addr) (Jp:Nat),k≤m∧v=.int .i64 k∧Own wr W.heap.size 3 1 encI (.slice la' k Jp) ((sets.take k).map (iJ N))∧Box wr tb (au.cells { rZ B.of (ig N).length AU su.length AV ma names.length mc with la:=la',ln:=k,lc:=Jp }) 27∧dM W.heap.size tb W wr) (fun v _=>m - (intOf v).toNat)
  case atStart=>exact⟨0,none,0,Nat.zero_le _,rfl,Own.nil _ _ _ _ _,aj0.out,dM.refl _ _ _⟩
  case round =>
   obtain⟨k,la',Jp,hk,rfl,hown,hbx,rW⟩:=hrel
   have hBr:Below w3.heap.size w3 wr:=rW.toBelow gG.out (gG.out.size) htb
   by_cases hlt:k<m
   ·have hks:k<sets.length:=by rw[HMS.out];exact hlt
    have hkr:k<pK.length:=by rw[Gq.out];exact hks
    obtain⟨ra,rc',hrk,hsi⟩:=Jb.out k hkr hks
    have hO:=EP.out.kept hBr
    obtain⟨_,_,_,g,cur,hga,hgx⟩:=hO.open
    obtain rfl:=hga k hkr
    obtain⟨_,hgb,_,hgc⟩:=hgx (by omega)
    have c0:wr.cell? ⟨g,k,none⟩=some (.slice ra sets[k].length rc'):=by
     have h4:=hgc k hkr 0 (by decide)
     rw[show k*1+0=k by omega,hrk] at h4
     rw[hgb.cell,h4];rfl
    have hgl:=hgb.lt
    have hbox:=(HBU.out.kept hBr).box
    have z0:wr.cell? ⟨bp,0,none⟩=some (.pointer (some ⟨B.m,0,none⟩)):=by rw[hbox.cell,ku]
    have aoi:=hbox.lt
    have hset:=HIS.out _ (List.getElem_mem hks)
    have hmem:∀ x∈sets[k],x<N.states:=fun x hx=>by rw[hset.set.2] at hx;rw[←Ae.out];exact Ti hx
    have hlab:=aby B.m lb eb kl ke va N ra sets[k].length rc' sets[k] wr (HMA.out.kept hBr) ((hsi.1.kept hBr)) hmem
    have hll:=Nu N sets[k]
    have htk:(sets.take (k+1)).map (iJ N)=(sets.take k).map (iJ N)++[iJ N sets[k]]:=by rw[List.take_succ_eq_append_getElem hks,List.map_append];rfl
    have hlen:((sets.take k).map (iJ N)).length=k:=by rw[List.length_map,List.length_take];omega
    have ar4:=Jc N sets[k] 65
    generalize (sets.take k).map (iJ N)=ys at *
    generalize sets[k]=S at *
    generalize oU N S 65=L at *
    generalize iJ N S=lab at *
    have htl:=hbx.lt
    have y8:wr.cell? ⟨tb,258,none⟩=some (.slice la' k Jp):=by rw[hbx.cell,au.lT]
    have aj1:=ah hlab;have uz:=ah htk;have HOW:=ah hown;have yO:=ah hbx;have Jq:=ah rW;have uY:=ah hlen
    have hki:(k:Int)<(m:Int):=by omega
    have hk0:(0:Int)≤(k:Int):=by omega
    have hkm:k≤9223372036854775806:=by omega
    clear hlab htk hown hbx rW hBr hO hgc hgx hga hgb hbox hset hmem hsi hrk hlen y8
    cases L with
    | nil =>
     dsimp only at hll
     subst hll
     go_wp2_with (first | (go_at_call 149;go_must (refine aj1.out.mono ?_;rintro e w5 ⟨la5,lc5,rfl,iQ,hb5⟩;have kJ:=yO.out.kept hb5;have y8:w5.cell? ⟨tb,258,none⟩=some (.slice la' k Jp):=by { rw[kJ.cell,au.lT] };have hl5:=kJ.lt;have hs5:=hb5.size;have wo:=(HOW.out.kept hb5).kept (aj w5 (.cells #[.int .i64 0] 3));have Om:=kJ.kept (aj w5 (.cells #[.int .i64 0] 3));have hyl:=uY.out)) | (at_builtin;go_must (refine fG rfl _ _ 24 rfl eX oD rfl wo ⟨w5.heap.size,0,none⟩ 1 (0) rfl (cu w5 [.int .i64 (0)] _) (by simp only[maxLen];omega) (by omega) (by rw[World.size_alloc];have:=Jq.out.size;omega) ?_;intro a7 c7 w7 fC bZ;have oP:=Om.grown wo bZ hbt;have y9:w7.cell? ⟨tb,258,none⟩=some (.slice la' k Jp):=by { rw[oP.cell,au.lT] };have f9:=oP.free 258;have l9:=oP.lt)))
     rw[uY.out] at fC
     have hfin:=oP.set 258 (.slice a7 (k+1) c7)
     rw[Jo] at hfin
     have hk1:dM W.heap.size tb W (w5.alloc (.cells #[.int .i64 (0)] 3)):=(Jq.out.trans (dM.below (mb:=tb) hb5 Jq.out.size)).trans (dM.below (mb:=tb) (aj _ _) (by have:=Jq.out.size;omega))
     have hk2:=hk1.grown wo bZ (by rw[World.size_alloc];have:=Jq.out.size;omega)
     have hk3:dM W.heap.size tb W (w7.setCell ⟨tb,258,none⟩ (.slice a7 (k+1) c7)):=hk2.trans ⟨rfl,rfl,rfl,Nat.le_of_eq (World.size_setCell _ _ _).symm,fun b _ hn=>heap_setCell_other _ _ _ _ hn⟩
     refine⟨⟨k+1,a7,c7,hlt,by push_cast;rfl,?_,?_,?_⟩,by simp[intOf];omega⟩
     ·rw[uz.out];exact fC.other _ _ hbt
     ·exact hfin
     ·exact hk3
    | cons z L =>
     dsimp only at hll
     subst hll
     have hpos:decide ((0:Int)<(((z::L).length:Nat):Int))=true:=by simp
     obtain⟨nl,hnl⟩:∃ nl,(z::L).length=nl:=⟨_,rfl⟩
     have aeh:0<nl:=by rw[←hnl];simp
     have hn0:(0:Int)<(nl:Int):=by omega
     go_wp2_with (first | (go_at_call 149;go_must (refine aj1.out.mono ?_;rintro e w5 ⟨la5,lc5,rfl,iQ,hb5⟩;have kJ:=yO.out.kept hb5;have y8:w5.cell? ⟨tb,258,none⟩=some (.slice la' k Jp):=by { rw[kJ.cell,au.lT] };have hl5:=kJ.lt;obtain⟨_,_,_,g5,aot,aou⟩:=iQ.Mc;obtain⟨rfl,ar5⟩:=aot 0 (by simp);have q0:w5.cell? ⟨g5,0,none⟩=some (.int .i64 (z:Nat)):=aou w5 0 (by simp) rfl;have hs5:=hb5.size;have wo:=(HOW.out.kept hb5).kept (aj w5 (.cells #[.int .i64 (z:Nat)] 3));have Om:=kJ.kept (aj w5 (.cells #[.int .i64 (z:Nat)] 3));have hyl:=uY.out)) | (at_builtin;go_must (refine fG rfl _ _ 24 rfl eX oD rfl wo ⟨w5.heap.size,0,none⟩ 1 ((z:Nat)) rfl (cu w5 [.int .i64 ((z:Nat))] _) (by simp only[maxLen];omega) (by omega) (by rw[World.size_alloc];have:=Jq.out.size;omega) ?_;intro a7 c7 w7 fC bZ;have oP:=Om.grown wo bZ hbt;have y9:w7.cell? ⟨tb,258,none⟩=some (.slice la' k Jp):=by { rw[oP.cell,au.lT] };have f9:=oP.free 258;have l9:=oP.lt)))
     rw[uY.out] at fC
     have hfin:=oP.set 258 (.slice a7 (k+1) c7)
     rw[Jo] at hfin
     have hk1:dM W.heap.size tb W (w5.alloc (.cells #[.int .i64 (((z:Nat):Int))] 3)):=(Jq.out.trans (dM.below (mb:=tb) hb5 Jq.out.size)).trans (dM.below (mb:=tb) (aj _ _) (by have:=Jq.out.size;omega))
     have hk2:=hk1.grown wo bZ (by rw[World.size_alloc];have:=Jq.out.size;omega)
     have hk3:dM W.heap.size tb W (w7.setCell ⟨tb,258,none⟩ (.slice a7 (k+1) c7)):=hk2.trans ⟨rfl,rfl,rfl,Nat.le_of_eq (World.size_setCell _ _ _).symm,fun b _ hn=>heap_setCell_other _ _ _ _ hn⟩
     refine⟨⟨k+1,a7,c7,hlt,by push_cast;rfl,?_,?_,?_⟩,by simp[intOf];omega⟩
     ·rw[uz.out];exact fC.other _ _ hbt
     ·exact hfin
     ·exact hk3
   ·obtain rfl:k=m:=by omega
    rw[List.take_of_length_le (by rw[HMS.out];exact Nat.le_refl _)] at hown
    have hR0:=HY3.out.kept hBr
    have hres:=hR0.lt
    obtain⟨V',hV'⟩:∃ V':au,{ rZ B.of (ig N).length AU su.length AV ma names.length mc with la:=la',ln:=k,lc:=Jp }=V':=⟨_,rfl⟩
    rw[hV'] at hbx
    have aj2:Below w.heap.size w wr:=HB3.out.trans (hBr.mono HB3.out.size)
    have hs3:=HY3.out.lt
    obtain⟨wf,hwf⟩:∃ wf,wr.setRow (w.heap.size+1) V'.cells=wf:=⟨_,rfl⟩
    have hWs:=gG.out.size
    have hwz:wf.heap.size=wr.heap.size:=by rw[←hwf];exact size_setRow _ _ _
    have ar6:=hBr.size
    have hsz3:=HB3.out.size
    have hrd:(∀ u:World,(∀ b,w.heap.size≤b→b<wf.heap.size→u.heap[b]?=wf.heap[b]?)→dN u V' ⟨bg (RL (N.edges.map (·.2.1))),((ig N).length:Nat),next,sets.map (iJ N),names⟩)∧V'.of=bg (RL (N.edges.map (·.2.1))):=by
     refine⟨fun u hu=>?_,by rw[←hV'];exact Gn.out⟩
     have hso:∀ b,w.heap.size≤b→b<wr.heap.size→b≠w.heap.size+1→u.heap[b]?=wr.heap[b]?:=fun b hb0 hb1 hne=>by rw[hu b hb0 (by rw[hwz];exact hb1),←hwf];exact setRow_other wr _ b _ hne
     have hsame:∀ b,w.heap.size≤b→b<w3.heap.size→b≠w.heap.size+1→u.heap[b]?=w3.heap[b]?:=fun b hb0 hb hne=>(hso b hb0 (by omega) hne).trans (hBr.block b hb)
     clear hwf hu
     subst hV'
     refine⟨Gn.out,rfl,?_,?_,su.map (fun x:Dv=>Value.slice x.1 x.2.1 x.2.2),?_,?_,?_⟩
     ·have h1:Own u W.heap.size 3 1 encI (.slice la' k Jp) (sets.map (iJ N)):=hown.same fun g hg=>hso g (by have h2:=(hown.blk hg).1;omega) (hown.blk hg).2 (by have h2:=(hown.blk hg).1;omega)
      exact h1.slice oD
     ·have h1:Own u w3.heap.size 9 1 lY (.slice ma names.length mc) names:=aeQ.out.same fun g hg=>by
       obtain⟨h2,h3⟩:=aeQ.out.blk hg
       rw[hso g (by omega) (by have:=rW.size;omega) (by omega)]
       refine rW.block g h3 fun e=>?_
       obtain⟨_,c2,b2⟩:=aeQ.out.block g hg
       rw[e] at b2
       exact absurd (b2.kK aj0.out) (by decide)
      exact h1.slice zS
     ·have h1:=aoq.out
      rw[HNV.out] at h1
      have h2:Own u base 24 1 tC (.slice AU su.length AV) su:=h1.same fun g hg=>hsame g (by have h2:=(h1.blk hg).1;have:=aos.out;have:=hb2.size;omega) (h1.blk hg).2 fun e=>by
       obtain⟨_,c2,b2⟩:=h1.block g hg
       rw[e] at b2
       exact absurd (b2.kK HY3.out) (by decide)
      exact(h2.slice Ar).slV
     ·rw[List.length_map];exact IK.out
     ·intro i h1 h2
      rw[List.length_map] at h1
      obtain⟨a,c,m1,m2⟩:=aor.out i h1 h2
      refine⟨a,c,by rw[List.getElem_map,m1],m2.1.Dw fun ad e hlt=>hsame _ (by have h3:=YN.out ad.block (m2.2 ad _ _ (by rw[e]));have h4:=hy2.lt;omega) hlt ?_⟩
      have h3:=YN.out ad.block (m2.2 ad _ _ (by rw[e]))
      have h4:=hy2.lt
      omega
    have sD:=ah hrd;have aov:=ah hbx;have aow:=ah aj2
    rw[←hwf] at sD
    have hfin:=hR0.setRow V'.cells
    clear hown hrd hbx aj2 hBr hV' rW hwf
    go_wp2_with (first | (refine aI (by rfl) 27 _ rfl tb rfl _ _ _ _ aov.out Tryz.underlying27 rfl (aZ _) ?_) | (refine wpList_store_row rfl 27 _ _ rfl (w.heap.size+1) _ rfl rfl _ _ hR0 (aZ _) (au.sizes _ _) (au.all _) ?_))
    refine bodyPost_ret (dK rfl _ _ (w.heap.size+1) 27 _ (.int .i64 0) rfl rfl hfin Tryz.underlying27 rfl (aZ _)) rfl ?_
    exact⟨below_setRow aow.out (by omega) _,V',rfl,sD.out.1,sD.out.2⟩
end
end Go.Proofs.YtbemonecmmnlcaaGreatDoor
