/- The texts of T23, in few letters (mini.py). -/
import Derived.Test.YtbemonecmmnlcaaGreatDoorU22
set_option linter.unusedVariables false
set_option linter.unusedSimpArgs false
set_option maxRecDepth 20000
set_option maxHeartbeats 3200000
namespace Go.Proofs.YtbemonecmmnlcaaGreatDoor
section
open Go.RowKit
structure wF(w:World)(m lb eb:Nat)(kl ke:List (Int×Value))(va:Value)(N:Nf):Prop where
 box:Box w m #[.int .i64 N.states,.int .i64 0,.map (some lb),.map (some eb),va] 281
 ml:aK w lb (fun k:Int=>Value.int .i64 k) kl
 me:aK w eb (fun k:Int=>Value.int .i64 k) ke
 goes:∀ s:Nat,∃ a cap,(look (s:Int) kl).getD (.slice none 0 0)=.slice a (N.goes s).length cap∧ak w (.slice a (N.goes s).length cap) 1 aG (N.goes s)
 out:∀ s:Nat,∃ a cap,(look (s:Int) ke).getD (.slice none 0 0)=.slice a (N.out s).length cap∧ak w (.slice a (N.out s).length cap) 6 gI (N.out s)
 ac:ak w va 1 aG N.accept
 wf:N.wf
 small:N.states≤65536
 abe:N.edges.length≤65536
theorem wF.kept{w w':World}{m lb eb:Nat}{kl ke:List (Int×Value)}{va:Value}{N:Nf}(h:wF w m lb eb kl ke va N)(hb:Below w.heap.size w w'):wF w' m lb eb kl ke va N :=
 ⟨h.box.kept hb,h.ml.kept hb,h.me.kept hb,fun s=>by obtain⟨a,c,h1,h2⟩:=h.goes s;exact⟨a,c,h1,h2.kept hb⟩,fun s=>by obtain⟨a,c,h1,h2⟩:=h.out s;exact⟨a,c,h1,h2.kept hb⟩,h.ac.kept hb,h.wf,h.small,h.abe⟩
theorem agR{N:Nf}(h:N.wf)(s:Nat):∀ x∈N.goes s,x<N.states:=fun x hx=>by
 unfold Nf.goes at hx
 obtain⟨l,hl,rfl⟩:=List.mem_map.1 hx
 exact(h.links l (List.mem_filter.1 hl).1).2
theorem zU:sK Tryz.prog 3 (fun k:Int=>Value.int .i64 k):=OH Tryz.underlying3
theorem abf:(Tryz.prog.info? 24).map (fun i=>(i.zero,i.size))=some (some (.slice none 0 0),1):=by kernel_rfl
theorem PG(w:World):(zeroValue 24).run Tryz.prog w=.ok (.slice none 0 0) w:=(zero_of_info abf).1 w
theorem MJ(m lb eb:Nat)(kl ke:List (Int×Value))(va:Value)(N:Nf)(a:Option Addr)(n cap:Nat)(l:List Nat)(w:World)(hT:Tab w)(hM:wF w m lb eb kl ke va N)(hl:ak w (.slice a n cap) 1 aG l)(hs:∀ x∈l,x<N.states) :
  Calls Tryz.prog 287 #[.pointer (some ⟨m,0,none⟩),.slice a n cap] w (gV w 3 1 aG (gq N l)):=by
 have x0:w.cell? ⟨m,0,none⟩=some (.int .i64 N.states):=hM.box.cell 0
 have hml:=hM.box.lt
 have hnew:=KY N.states w (by have:=hM.small;omega)
 obtain⟨b,o,hn,hc,hc2,ha,hx⟩:=hl.bY
 have hnb:N.states≤65536:=hM.small
 obtain⟨R,hR⟩:∃ R,qW N.states N.goes (N.states+1) (l.foldl (jy N.states) (0,[]))=R:=⟨_,rfl⟩
 have hans:gq N l=gY N.states R:=by unfold gq;rw[hR]
 rw[hans]
 have hRl:R<2 ^ N.states:=by rw[←hR];exact Fp _ _ _ _ (JC _ _ _ (Nat.pos_of_ne_zero (by simp)))
 have HM:=ah hM;have HT:=ah hT;have HN:=ah hnew;have HA:=ah ha;have HX:=ah hx;have HS:=ah hs;have HR:=ah hR;have HL:=ah hn
 clear hM hT hnew ha hx hs hR hans hn hl
 have hc3:n≤cap:=by rw[HL.out];exact hc
 clear hc
 go_enter Tryz.func287,Tryz.ntmps287
 go_wp2_with (go_at_call 283;go_must (refine HN.out.mono ?_;rintro e w2 ⟨rfl,hB2,hs2,hb2⟩;have HB2:=ah hB2;clear hB2))
 have Aa:∀ k (h:k<l.length) wr,Below w.heap.size w wr→wr.cell? ⟨b,o+k,none⟩=some (.int .i64 (l[k]:Nat)):=fun k h wr hB=>HX.out k h wr hB
 have HX:=ah Aa
 have HB3:Hid (Below w.heap.size w ((w2.alloc (.cells #[.pointer (some ⟨w.heap.size+1,0,none⟩)] 353)).alloc (.cells #[.slice none 0 0] 24))∧yZ ((w2.alloc (.cells #[.pointer (some ⟨w.heap.size+1,0,none⟩)] 353)).alloc (.cells #[.slice none 0 0] 24)) w.heap.size N.states (0,[])):=ah (by
  have hq:=(Box.new' (w:=w2) hs2.symm #[.pointer (some ⟨w.heap.size+1,0,none⟩)] 353)
  refine⟨(hb2.alloc (by omega) _).alloc (by simp only[World.size_alloc];omega) _,⟨hq.alloc _,?_,⟨none,0,Box.new' (by simp only[World.size_alloc];omega) _ _,jA.nil _ _ _⟩,by simp only[World.size_alloc];omega⟩⟩
  exact(HB2.out.kept (aj _ _)).kept (aj _ _))
 clear Aa
 generalize ((w2.alloc (.cells #[.pointer (some ⟨w.heap.size+1,0,none⟩)] 353)).alloc (.cells #[.slice none 0 0] 24))=w3 at *
 go_loopw [28] (fun i wr=>∃ k:Nat,k≤n∧i=.int .i64 k∧yZ wr w.heap.size N.states ((l.take k).foldl (jy N.states) (0,[]))∧Below w.heap.size w wr) (fun i _=>n - (intOf i).toNat)
 case atStart=>exact⟨0,Nat.zero_le _,rfl,HB3.out.2,HB3.out.1⟩
 case round =>
  clear hs2 hb2 HB2
  obtain⟨k,hk,rfl,hC,hB⟩:=hrel
  by_cases hlt:k<n
  ·have hkl:k<l.length:=by rw[←HL.out];exact hlt
   obtain rfl:=HA.out k hkl
   have c0:=HX.out k hkl wr hB
   have hbl:=World.block_lt_of_cell? wr _ c0
   have hft:=KU (jy N.states) l (0,[]) k hkl
   have hsk:=HS.out _ (List.getElem_mem hkl)
   have hpt:((l.take k).foldl (jy N.states) (0,[])).2.length+lacks N.states ((l.take k).foldl (jy N.states) (0,[])).1≤N.states:=by rw[AY];simpa using QS N.states 0
   have hput:=WG w.heap.size N.states l[k] _ wr hC (by omega) (by omega)
   rw[←hft] at hput
   generalize l[k]=s at *
   have HP:=ah hput
   clear hput hft hC hpt hsk
   have hkn:(k:Int)<(n:Int):=by omega
   have hk0:(0:Int)≤(k:Int):=by omega
   go_wp2_with fail
   refine HP.out.mono ?_
   rintro e w4 ⟨rfl,hC4,hB4⟩
   go_wp2
   exact⟨⟨k+1,hlt,by push_cast;rfl,hC4,hB.trans hB4⟩,by simp[intOf];omega⟩
  ·obtain rfl:k=n:=by omega
   rw[HL.out,OV] at hC
   have hpt:(l.foldl (jy N.states) (0,[])).2.length+lacks N.states (l.foldl (jy N.states) (0,[])).1≤N.states:=by rw[AY];simpa using QS N.states 0
   have hmem:=OU N.states l (0,[]) (by simp)
   have HR2:=HR.out
   generalize l.foldl (jy N.states) (0,[])=st0 at *
   have HC:=ah (And.intro HR2 (And.intro hpt (And.intro hmem hC)))
   clear HR2 hpt hmem hC
   go_wp2
   go_loopw [] (fun wr=>∃ (f:Nat) (st:Nat×List Nat),qW N.states N.goes f st=R∧st.2.length+lacks N.states st.1≤f∧(∀ x∈st.2,x<N.states)∧yZ wr w.heap.size N.states st∧Below w.heap.size w wr∧st.2.length+lacks N.states st.1≤65536) (fun wr=>YE wr w.heap.size N.states)
   case atStart=>exact⟨N.states+1,st0,HC.out.1,by have:=HC.out.2.1;omega,HC.out.2.2.1,HC.out.2.2.2,hB,by have:=HC.out.2.1;omega⟩
   case round =>
    clear hB
    obtain⟨f,st,hcl,hf,hmem,hC,hB,hp6⟩:=hrel
    have Tq:=hC.pot
    obtain⟨wa,wc,hbw,how⟩:=hC.wq
    have z0:wr.cell? ⟨w.heap.size+3,0,none⟩=some (.slice wa st.2.length wc):=hbw.cell 0
    have f0:=hbw.free 0
    have l0:=hbw.lt
    rcases List.eq_nil_or_concat st.2 with he | ⟨ws,s,he⟩
    ·rw[UW _ _ _ _ he] at hcl
     subst hcl
     obtain⟨S,ws⟩:=st
     dsimp only at he
     subst he
     have hall:=adt (w.heap.size+1) w.heap.size N.states S wr (by omega) (HT.out.kept hB) hC.bits
     have z2:wr.cell? ⟨w.heap.size+2,0,none⟩=some (.pointer (some ⟨w.heap.size+1,0,none⟩)):=hC.bq.cell 0
     have Gv:=ah hall
     clear hall hbw how hmem hf Tq hp6 hC
     go_wp2_with (go_at_call 310;go_must (refine Gv.out.mono ?_;rintro e w5 ⟨a5,c5,rfl,iQ,hb5⟩))
     go_ret
     exact⟨a5,c5,rfl,iQ.mono hB.size,hB.trans (hb5.mono hB.size)⟩
    ·rw[List.concat_eq_append] at he
     obtain⟨f,rfl⟩:∃ f',f=f'+1:=⟨f - 1,by rw[he] at hf;simp at hf;omega⟩
     rw[UU N.states N.goes f st s ws he] at hcl
     obtain⟨S,ws0⟩:=st
     dsimp only at he
     subst he
     dsimp only at hcl hf hmem hbw how z0 hp6 Tq
     have hsN:s<N.states:=hmem s (by simp)
     obtain⟨q,hq⟩:∃ q,ws.length=q:=⟨_,rfl⟩
     have hlen:(ws++[s]).length=q+1:=by rw[←hq];simp
     rw[hlen] at hbw how z0 hf hp6 Tq
     obtain⟨Aa,hwc,anD,wg,hwa,hwx⟩:=how.cell
     clear Aa
     rw[hlen] at hwc
     obtain rfl:=hwa q (by rw[hlen];omega)
     have y1:wr.cell? ⟨wg,q,none⟩=some (.int .i64 (s:Nat)):=by have:=hwx ws.length (by simp);rw[←hq];simpa using this
     have hcut:=how.cut
     rw[hq] at hcut
     have hbg:=World.block_lt_of_cell? wr _ y1
     have hBS:Below w.heap.size w (wr.setCell ⟨w.heap.size+3,0,none⟩ (.slice (some ⟨wg,0,none⟩) q q)):=hB.setCell (by simp) _
     have hCS:yZ (wr.setCell ⟨w.heap.size+3,0,none⟩ (.slice (some ⟨wg,0,none⟩) q q)) w.heap.size N.states (S,ws) :=
      ⟨hC.bq.other _ _ (by simp),⟨hC.bits.box.other _ _ (by simp),hC.bits.words.other _ _ (by simp),hC.bits.lt,hC.bits.ne⟩,⟨_,_,by rw[show(S,ws).2.length=q from hq];exact hbw.set 0 _,by rw[show(S,ws).2.length=q from hq];exact hcut.other _ _ (by simp)⟩,by rw[World.size_setCell];exact hC.size⟩
     have hMS:=HM.out.kept hBS
     have x2:(wr.setCell ⟨w.heap.size+3,0,none⟩ (.slice (some ⟨wg,0,none⟩) q q)).cell? ⟨m,2,none⟩=some (.map (some lb)):=hMS.box.cell 2
     have hlk:=lJ hMS.ml zU Tryz.underlying278 (PG _) (s:Int)
     obtain⟨ga,gc,hgl,hgs⟩:=HM.out.goes s
     rw[hgl] at hlk
     obtain⟨gb,go,ad7,hgc,anE,hga,hgx⟩:=hgs.bY
     clear ad7
     have hpt:=AY N.states (N.goes s) (S,ws)
     have hgt:=agR HM.out.wf s
     have afF:=OU N.states (N.goes s) (S,ws) (fun x hx=>hmem x (List.mem_append_left _ hx))
     have hpk:=fun k=>AY N.states ((N.goes s).take k) (S,ws)
     dsimp only at hpt hpk
     rw[hq] at hpt hpk
     have hpb:q+lacks N.states S≤65535:=by omega
     have arC:q≤65535:=by omega
     have Ae:=ah hBS;have HCS:=ah hCS;have WH:=ah hgx;have Gw:=ah hga;have HGT:=ah hgt;have HPK:=ah hpk
     have YF:=ah (And.intro hcl (And.intro hpt (And.intro afF (And.intro Tq (And.intro hf hpb)))))
     clear hpb hBS hCS hMS hgx hga hgt hpk hcl hpt afF Tq hmem hwx hcut how hbw hC hgl hgs hwa hlen
     generalize hgg:N.goes s=gs at *
     clear hgg
     have HQ:=ah hq
     clear hq hf
     go_wp2
     clear x2 hlk y1 hbg z0 f0 l0 hwc anD
     generalize (wr.setCell ⟨w.heap.size+3,0,none⟩ (.slice (some ⟨wg,0,none⟩) q q))=wS at *
     obtain⟨gn,hgn⟩:∃ gn,gs.length=gn:=⟨_,rfl⟩
     rw[hgn] at hgc ⊢
     have HGN:=ah hgn
     clear hgn hB
     go_loopw [57] (fun i wr=>∃ j:Nat,j≤gn∧i=.int .i64 j∧yZ wr w.heap.size N.states ((gs.take j).foldl (jy N.states) (S,ws))∧Below w.heap.size w wr) (fun i _=>gn - (intOf i).toNat)
     case atStart=>exact⟨0,Nat.zero_le _,rfl,HCS.out,Ae.out⟩
     case round =>
      obtain⟨j,hj,rfl,hC,hB⟩:=hrel
      by_cases hlt:j<gn
      ·have hjl:j<gs.length:=by rw[HGN.out];exact hlt
       obtain rfl:=Gw.out j hjl
       have c0:=WH.out j hjl wr hB
       have hbl:=World.block_lt_of_cell? wr _ c0
       have hft:=KU (jy N.states) gs (S,ws) j hjl
       have hsk:=HGT.out _ (List.getElem_mem hjl)
       have hpt:=HPK.out j
       have hput:=WG w.heap.size N.states gs[j] _ wr hC (by omega) (by omega)
       rw[←hft] at hput
       generalize gs[j]=y at *
       have HP:=ah hput
       clear hput hft hC hpt hsk
       have hjn:(j:Int)<(gn:Int):=by omega
       have hj0:(0:Int)≤(j:Int):=by omega
       go_wp2_with fail
       refine HP.out.mono ?_
       rintro e w4 ⟨rfl,hC4,hB4⟩
       go_wp2
       exact⟨⟨j+1,hlt,by push_cast;rfl,hC4,hB.trans hB4⟩,by simp[intOf];omega⟩
      ·obtain rfl:j=gn:=by omega
       rw[←HGN.out,OV] at hC
       obtain⟨e1,e2,e3,e4,e5,e6⟩:=YF.out
       have e7:=hC.pot
       go_wp2
       refine⟨⟨f,_,e1,by omega,e3,hC,hB,by omega⟩,?_⟩
       omega
end
section
open Go.RowKit
theorem gW.anF{w1 w' u:World}{r base:Nat}{N:Nf}{V:Y3}(h:gW w1 r base N V){x:Nat×aA×Nat}{a':Option Addr}{cap':Nat}(ho:Own w' base 276 6 gI (.slice a' (N.edges.length+1) cap') (N.edges++[x]))(hg:w1.grownBy w' V.e.ownBlock)(hl:Below w'.heap.size w' u) :
  gW (u.setCell ⟨r,3,none⟩ (.slice a' (N.edges.length+1) cap')) r base (N.edge x.1 x.2.1 x.2.2) ⟨V.l,.slice a' (N.edges.length+1) cap',V.a⟩:=by
 have hb:=(h.box.grown h.ed hg h.lt).kept hl
 refine⟨hb.set 3 _,?_,(ho.kept hl).other _ _ h.lt,?_,h.lt,h.st⟩
 ·exact((h.li.iL h.ed hg (by decide)).kept hl).other _ _ h.lt
 ·exact((h.ac.iL h.ed hg (by decide)).kept hl).other _ _ h.lt
theorem vK(r base a b:Nat)(N:Nf)(V:Y3)(w:World)(h:gW w r base N V)(hb:base≤w.heap.size)(hN:N.links.length≤1099511627776) :
  Calls Tryz.prog 146 #[.pointer (some ⟨r,0,none⟩),.int .i64 a,.int .i64 b] w (QA r base V (N.link a b) w (.tuple #[])):=by
 have hB0:=aj w (.cells #[.int .i64 a,.int .i64 b] 269)
 have h0:=h.kept hB0
 have hx0:=h0.box
 have z4:(w.alloc (.cells #[.int .i64 a,.int .i64 b] 269)).cell? ⟨r,2,none⟩=some V.l:=hx0.cell 2
 have y4:w.cell? ⟨r,2,none⟩=some V.l:=h.box.cell 2
 have hrl:=h.box.lt
 obtain⟨aa,ca,hva⟩:=h.li.form
 have H0:=ah h0
 rw[hva] at z4 y4
 have HV:=ah hva
 have Tn:=h0.li
 rw[hva] at Tn
 clear h h0 hx0
 go_enter Tryz.func146,Tryz.ntmps146
 go_wp2_with (at_builtin;go_must (refine dB rfl _ _ 154 rfl abd Tm rfl Tn ⟨w.heap.size,0,none⟩ 1 (a,b) rfl (cu w [.int .i64 a,.int .i64 b] _) (by simp[maxLen];omega) (by omega) (by simp;omega) ?_;intro a7 c7 w7 fC bZ nP;have uM:(w.alloc (.cells #[.int .i64 a,.int .i64 b] 269)).grownBy w7 V.l.ownBlock:=(by rw[HV.out];exact bZ);have hx7:=H0.out.box.grown H0.out.li uM H0.out.lt;have z7:w7.cell? ⟨r,2,none⟩=some V.l:=hx7.cell 2;have f7:=hx7.free 2;have l7:=hx7.lt))
 go_end0
 refine⟨rfl,_,H0.out.lnk (x:=(a,b)) fC uM,?_⟩
 refine((Turned.below hB0).trans (Turned.grown V.l (.slice a7 (N.links.length+1) c7) (fun g hg=>.inl hg) uM (by rw[HV.out];exact nP) ?_)).set 2 _
 rintro g (hg | hg | hg)
 ·exact .inr hg
 ·exact .inl (.inr (.inl hg))
 ·exact .inl (.inr (.inr hg))
theorem agS(r base from':Nat)(s:aA)(a:Option Addr)(n cap:Nat)(lo hi:Int)(N:Nf)(V:Y3)(w:World)(h:gW w r base N V)(hb:base≤w.heap.size)(hN:N.accept.length≤1099511627776∧N.edges.length≤1099511627776) :
  Calls Tryz.prog 186 #[.pointer (some ⟨r,0,none⟩),.agg (aC 3 s a n cap lo hi).toArray,.int .i64 from'] w (QA r base V ((N.state 0).edge from' s N.states) w (.int .i64 N.states)):=by
 have hB0:=aj w (.cells (aC 3 s a n cap lo hi).toArray 151)
 have h0:=h.kept hB0
 have hx0:=Box.new w (aC 3 s a n cap lo hi).toArray 151
 have hs:=rU r base 0 N V _ h0 (by rw[World.size_alloc];omega) hN.1
 have HS:=ah hs
 have hrl:=h.box.lt
 have H:=ah h
 have hlt0:∀ g,V.has g→g<w.heap.size:=fun g hg=>(h.hasLt g hg).2
 have HL:=ah hlt0
 clear h h0 hs hlt0
 go_enter Tryz.func186,Tryz.ntmps186
 go_wp2_with (go_at_call 144;go_must (refine HS.out.mono ?_;rintro e w2 ⟨rfl,V2,h2,ht2⟩;have hx2:=ht2.box hx0 (Nat.ne_of_gt hrl) (fun e=>Nat.lt_irrefl _ (HL.out _ e))))
 generalize hst2:N.states=ns at *
 have hk2:Turned r V V2 w w2:=(Turned.below hB0).trans ht2
 have HF:Hid (∀ u,Later w2.drew u→gW u r base (N.state 0) V2∧Box u w.heap.size (aC 3 s a n cap lo hi).toArray 151∧Turned r V V2 w u):=ah fun u hl =>
  ⟨(h2.kept (Below.refl _ _).drew).kept hl,hx2.drew.kept hl,(hk2.trans (Turned.below (Below.refl w2.heap.size w2).drew)).trans (Turned.below hl)⟩
 have hsz:=hk2.size
 clear h2 hx2 hk2 ht2
 refine jq (R:=Later) [12,16] (by kernel_rfl) ?_
 refine pl [0,1,2,3,4] ?_
 repeat
  refine qV ?_ rfl (fun w1=>?_) ?_
  rotate_left
  ·go_simp;try with_reducible rfl
  simp only[eA,eB,eC,Act.put,eD,eE,eF]
 refine dI ?_
 refine EJ 5 ?_ rfl (fun w1 hl=>?_) ?_
 rotate_left
 ·obtain⟨hS,hX,_⟩:=HF.out w1 hl;have x0:=hX.cell 0;have x1:=hX.cell 1;have x2:=hX.cell 2;have x3:=hX.cell 3;have x4:=hX.cell 4;have y3:=hS.box.cell 3;go_simp;try with_reducible rfl
 simp only[eA,eB,eC,Act.put,eD,eE,eF]
 refine pl [6,7] ?_
 repeat
  refine qV ?_ rfl (fun w1=>?_) ?_
  rotate_left
  ·go_simp;try with_reducible rfl
  simp only[eA,eB,eC,Act.put,eD,eE,eF]
 refine dI ?_
 refine EJ 8 ?_ rfl (fun w1 hl=>?_) ?_
 rotate_left
 ·obtain⟨hS,hX,_⟩:=HF.out w1 hl;have x0:=hX.cell 0;have x1:=hX.cell 1;have x2:=hX.cell 2;have x3:=hX.cell 3;have x4:=hX.cell 4;have y3:=hS.box.cell 3;go_simp;try with_reducible rfl
 simp only[eA,eB,eC,Act.put,eD,eE,eF]
 refine pl [9,10] ?_
 repeat
  refine qV ?_ rfl (fun w1=>?_) ?_
  rotate_left
  ·go_simp;try with_reducible rfl
  simp only[eA,eB,eC,Act.put,eD,eE,eF]
 refine dI ?_
 refine fH (T:=[12,16]) (i:=11) (by kernel_rfl) rfl (fun w1 hl K hK=>?_)
 go_simp
 refine hK.out _ _ (fun _=>aj _ _) ?_
 have hsl:=pR xG w1 276 [(from',s,ns)] (by simp[maxLen])
 have hlA:Later _ (w1.alloc (.cells ([(from',s,ns)].flatMap gI).toArray 276)):=Later.trans _ _ _ hl (aj _ _)
 clear hK K hl
 refine fH (T:=[12,16]) (i:=12) (by kernel_rfl) rfl (fun w1 hl K hK=>?_)
 obtain⟨hS,_,hkp⟩:=HF.out w1 (Later.trans _ _ _ hlA hl)
 have hnw:=C9 (hsl.kept hl)
 have hsw:base≤w1.heap.size:=by have:=hkp.size;omega
 clear hsl hl hlA
 obtain⟨a0,c0,lZ⟩:=hS.ed.form
 have HVE:=ah lZ
 have hed:=hS.ed
 rw[lZ] at hed
 rw[lZ]
 clear lZ
 refine dD (by rfl) ?_
 refine nN _ _ 155 rfl PE xG rfl hed _ 1 (from',s,ns) rfl hnw (by simp[maxLen,Nf.state];omega) (by simp[Nf.state];omega) (by omega) ?_
 intro a' cap' w' hown' hg hfr
 refine hK.out _ _ (fun h=>absurd h (by decide)) ?_
 clear hK K hnw hed
 simp only[List.getElem_toArray,List.getElem_cons_zero,List.getElem_cons_succ,Act.put,List.setIfInBounds_toArray,List.set_cons_zero,List.set_cons_succ]
 have uM:w1.grownBy w' V2.e.ownBlock:=by rw[HVE.out];exact hg
 have hX0:=hS.box.grown hS.ed uM hS.lt
 refine pl [13,14,15] ?_
 repeat
  refine qV ?_ rfl (fun w1=>?_) ?_
  rotate_left
  ·go_simp;try with_reducible rfl
  simp only[eA,eB,eC,Act.put,eD,eE,eF]
 refine dI ?_
 refine fH (T:=[12,16]) (i:=16) (by kernel_rfl) rfl (fun w1 hl K hK=>?_)
 have hx:=hX0.kept hl
 have x0:=hx.cell 3
 have f0:=hx.free 3
 go_simp
 refine hK.out _ _ (fun h=>absurd h (by decide)) ?_
 clear hK K x0 f0
 have zf:=hS.anF (x:=(from',s,ns)) hown' uM hl
 have hKN:=((hkp.trans (Turned.grown (V':=⟨V2.l,.slice a' ((N.state 0).edges.length+1) cap',V2.a⟩) V2.e (.slice a' ((N.state 0).edges.length+1) cap') (fun g hg=>.inr (.inl hg)) uM (by rw[HVE.out];exact hfr) (by
  rintro g (hg | hg | hg)
  ·exact .inl (.inl hg)
  ·exact .inr hg
  ·exact .inl (.inr (.inr hg))))).trans (Turned.below hl)).set 3 (.slice a' ((N.state 0).edges.length+1) cap')
 clear hl hx hX0 hS hg uM hown' hkp hfr
 refine nK (by kernel_rfl) (fun w1 hl=>?_) _
 have zf:=zf.kept hl
 have hKN:=hKN.trans (Turned.below hl)
 clear hl HF
 go_wp2
 go_ret
 exact⟨rfl,_,zf,hKN⟩
end
section
open Go.RowKit
structure kP(w:World)(r base:Nat)(X:Vt):Prop where
 lies:Lies w X
 on:On (fun b=>b<base∧b≠r) X
 all:allT X.tr=true
theorem Turned.heap{w w':World}{r base:Nat}{N:Nf}{V V':Y3}(h:gW w r base N V)(ht:Turned r V V' w w')(hb:base≤w.heap.size)(b:Nat)(h1:b<base)(h2:b≠r):w'.heap[b]?=w.heap[b]? :=
 ht.block b (by omega) h2 fun e=>by have:=(h.hasLt b e).1;omega
theorem kP.kept{w w':World}{r base:Nat}{N:Nf}{V V':Y3}{X:Vt}(hX:kP w r base X)(h:gW w r base N V)(ht:Turned r V V' w w')(hb:base≤w.heap.size):kP w' r base X :=
 ⟨hX.lies.fJ hX.on fun b hb'=>ht.heap h hb b hb'.1 hb'.2,hX.on,hX.all⟩
theorem kP.bW{w w':World}{r base:Nat}{X:Vt}(hX:kP w r base X)(hb:Below w.heap.size w w'):kP w' r base X:=⟨hX.lies.kept hb,hX.on,hX.all⟩
theorem kP.kid{w:World}{r base:Nat}{k:Int}{s:aA}{a:Option Addr}{cap:Nat}{kids:List Vt}{lo hi:Int}(h:kP w r base (.mk k s a cap kids lo hi))(i:Nat)(hi':i<kids.length):kP w r base kids[i]:=by
 obtain⟨_,_,_,_,hk⟩:=h.lies.open
 refine⟨hk i hi',?_,?_⟩
 ·have:=h.on;cases this with | mk _ _ _ _ _ _ _ g1 g2=>exact g2 i hi'
 ·have:=h.all
  rw[Vt.jI,allT,Bool.and_eq_true] at this
  have h2:=FH _ this.2 i (by simpa using hi')
  rwa[List.getElem_map] at h2
def Gx(fn:Nat)(r base:Nat)(X:Vt):Prop:=∀ (N:Nf) (V:Y3) (f:Nat) (w:World),gW w r base N V→kP w r base X→base≤w.heap.size→(bG X.tr (N,f)).1.small →
 Calls Tryz.prog fn #[.pointer (some ⟨r,0,none⟩),.agg X.cells.toArray,.int .i64 f] w (QA r base V (bG X.tr (N,f)).1 w (.int .i64 (bG X.tr (N,f)).2))
abbrev Eo(r base:Nat)(X:Vt):Prop:=Gx 145 r base X
theorem Tt(s:aA)(kids:List Tr)(lo hi:Int)(z:Nf×Nat):bG (.mk 4 s kids lo hi) z=jS kids z:=by
 obtain⟨y,f⟩:=z
 rw[bG,if_pos rfl]
theorem aiE(r base:Nat)(s:aA)(a:Option Addr)(cap:Nat)(kids:List Vt)(lo hi:Int)(ih:∀ i (h:i<kids.length),Eo r base kids[i]):Gx 187 r base (.mk 4 s a cap kids lo hi):=by
 intro N V f w h hT hb hsm
 rw[Vt.jI,Tt] at hsm ⊢
 obtain⟨_,_,_,hs,hkids⟩:=hT.lies.open
 have hB0:=aj w (.cells (aC 4 s a kids.length cap lo hi).toArray 151)
 have h0:=h.kept hB0
 have hnc:kids.length≤cap:=by obtain⟨_,_,c1,_⟩:=hs.kids;exact c1
 clear hkids hs
 have hz:=QU (kids.map Vt.tr)
 obtain⟨Z,hZ⟩:∃ Z:Nat→Nf×Nat,∀ k,Z k=jS ((kids.map Vt.tr).take k) (N,f):=⟨_,fun _=>rfl⟩
 have hZs:∀ k (hk:k<kids.length),Z (k+1)=bG kids[k].tr (Z k):=fun k hk=>by
  rw[hZ,hZ,ZE _ _ (by simpa using hk),List.getElem_map]
 have wW:Z 0=(N,f):=by rw[hZ,List.take_zero,jS]
 have MK:Z kids.length=jS (kids.map Vt.tr) (N,f):=by rw[hZ,List.take_of_length_le (by simp)]
 have Gy:∀ k,(Z k).1.small:=fun k=>by rw[hZ];exact(hz k _).small hsm
 have hrl:=h.box.lt
 rw[←MK]
 obtain⟨n,hn⟩:∃ n,kids.length=n:=⟨_,rfl⟩
 have HN:=ah hn
 show Calls Tryz.prog 187 #[.pointer (some ⟨r,0,none⟩),.agg (aC 4 s a kids.length cap lo hi).toArray,.int .i64 f] w _
 rw[hn] at hnc hB0 h0 ⊢
 have HI:=ah ih;have PI:=ah hZs;have HZ0:=ah wW;have PK:=ah Gy;have HT:=ah hT;have HH:=ah h;have HB0:=ah hB0;have H0:=ah h0
 clear hsm hz hZ hZs wW MK Gy ih hT hB0 hn h h0
 go_enter Tryz.func187,Tryz.ntmps187
 go_wp2
 go_loopw [2,12] (fun v i wr=>∃ (k:Nat) (V':Y3),k≤n∧i=.int .i64 k∧v=.int .i64 (Z k).2∧gW wr r base (Z k).1 V'∧Turned r V V' w wr) (fun _ i _=>n - (intOf i).toNat)
 case atStart=>exact⟨0,V,Nat.zero_le _,rfl,by rw[HZ0.out],by rw[HZ0.out];exact H0.out,Turned.below HB0.out⟩
 case round =>
  obtain⟨k,V1,hk,rfl,rfl,h1,ht1⟩:=hrel
  by_cases hlt:k<n
  ·have hlk:k<kids.length:=by rw[HN.out];exact hlt
   have hTr:=HT.out.kept HH.out ht1 hb
   obtain⟨_,_,_,hsr,hkr⟩:=hTr.lies.open
   obtain⟨b,o,_,_,c3,_,c5⟩:=hsr.kids
   obtain rfl:=c3 k hlk
   have e1:=c5 k hlk wr (Below.refl _ _)
   have Tv:=hTr.kid k hlk
   have hcall:=HI.out k hlk
   have hzs:=PI.out k hlk
   generalize kids[k]=X at *
   obtain⟨k5,s5,a5,cp5,cZ,dh,hi5⟩:=X
   have hB1:=aj wr (.cells (aC k5 s5 a5 cZ.length cp5 dh hi5).toArray 151)
   have hsz1:=ht1.size
   have hcl:=hcall (Z k).1 V1 (Z k).2 _ (h1.kept hB1) (Tv.bW hB1) (by rw[World.size_alloc];omega) (by show(bG (Vt.mk k5 s5 a5 cp5 cZ dh hi5).tr (Z k)).1.small;rw[←hzs];exact PK.out _)
   rw[show((Z k).1,(Z k).2)=Z k from rfl,←hzs] at hcl
   obtain⟨x0,x1,x2,x3,x4,x5,x6,x7⟩:=qX e1
   have hbl:=World.block_lt_of_cell? wr _ x0
   have pV:=ah hcl
   clear hcl hzs hcall Tv c5 c3 hsr hkr hTr e1
   have hki:(k:Int)<(n:Int):=by omega
   have hk0:(0:Int)≤(k:Int):=by omega
   have HT1:=ah (ht1.trans (Turned.below hB1))
   clear ht1 h1 hB1
   go_wp2_with (go_at_call 145;go_must (refine pV.out.mono ?_;rintro e w2 ⟨rfl,V2,h2,ht2⟩))
   exact⟨⟨k+1,V2,hlt,by push_cast;rfl,rfl,h2,HT1.out.trans ht2⟩,by simp[intOf];omega⟩
  ·obtain rfl:k=n:=by omega
   go_wp2
   go_ret
   exact⟨rfl,_,h1,ht1⟩
end
section
open Go.RowKit
theorem yP(p:Bool)(s:aA)(x:Tr)(lo hi:Int)(z:Nf×Nat):bG (.mk (if p then 7 else 6) s [x] lo hi) z=sS p (bG x) z:=by
 obtain⟨y,f⟩:=z
 cases p <;> (simp only[bG,nM];simp[sS];try (constructor <;> rfl))
theorem Tz(s:aA)(x:Tr)(lo hi:Int)(y:Nf)(f:Nat):bG (.mk 8 s [x] lo hi) (y,f)=(((((bG x (y,f)).1.state 0).link (bG x (y,f)).2 (bG x (y,f)).1.states).link f (bG x (y,f)).1.states),(bG x (y,f)).1.states):=by
 rw[bG,if_neg (by decide),if_neg (by decide),if_neg (by decide),if_pos rfl,nM]
theorem kP.one{w:World}{r base:Nat}{k:Int}{s:aA}{a:Option Addr}{cap:Nat}{kids:List Vt}{lo hi:Int}(h:kP w r base (.mk k s a cap kids lo hi))(hk:k=6∨k=7∨k=8∨k=9):∃ X,kids=[X]:=by
 have:=h.all
 rw[Vt.jI,allT,Bool.and_eq_true] at this
 have h1:=this.1
 unfold eP at h1
 have hl:kids.length=1:=by
  rcases hk with rfl | rfl | rfl | rfl <;> · simp[iM] at h1;exact h1.2
 match kids,hl with
 | [X],_=>exact⟨X,rfl⟩
theorem kP.YG{w:World}{r base:Nat}{k:Int}{s:aA}{a:Option Addr}{cap:Nat}{X:Vt}{lo hi:Int}(h:kP w r base (.mk k s a cap [X] lo hi)) :
  ∃ b o,a=some ⟨b,o,none⟩∧1≤cap∧(∀ j u,X.cells[j]?=some u→w.cell? ⟨b,o+j,none⟩=some u)∧kP w r base X:=by
 obtain⟨_,_,_,hs,_⟩:=h.lies.open
 obtain⟨b,o,c1,_,c3,_,c5⟩:=hs.kids
 refine⟨b,o,c3 0 (Nat.zero_lt_one),c1,fun j u hu=>?_,h.kid 0 Nat.zero_lt_one⟩
 have:=c5 0 Nat.zero_lt_one w (Below.refl _ _) j u hu
 rwa[Nat.zero_mul,Nat.add_zero] at this
theorem WI(r base:Nat)(p:Bool)(s:aA)(a:Option Addr)(cap:Nat)(X:Vt)(lo hi:Int)(ih:Eo r base X):Gx 189 r base (.mk (if p then 7 else 6) s a cap [X] lo hi):=by
 intro N V f w h hT hb hsm
 rw[Vt.jI,List.map_singleton,yP] at hsm ⊢
 obtain⟨k,hk⟩:∃ k:Int,(if p then 7 else 6:Int)=k:=⟨_,rfl⟩
 rw[hk] at hT ⊢
 have hB0:=aj w (.cells (aC k s a 1 cap lo hi).toArray 151)
 have h0:=h.kept hB0
 have hx0:=Box.new w (aC k s a 1 cap lo hi).toArray 151
 have hlt0:∀ g,V.has g→g<w.heap.size:=fun g hg=>(h.hasLt g hg).2
 have hrl:=h.box.lt
 have hTB:=hT.bW hB0
 have hW0:(w.alloc (.cells (aC k s a 1 cap lo hi).toArray 151)).heap.size=w.heap.size+1:=World.size_alloc _ _
 have Py:¬ V.has w.heap.size:=fun e=>Nat.lt_irrefl _ (hlt0 _ e)
 show Calls Tryz.prog 189 #[.pointer (some ⟨r,0,none⟩),.agg (aC k s a 1 cap lo hi).toArray,.int .i64 f] w _
 generalize hW:w.alloc (.cells (aC k s a 1 cap lo hi).toArray 151)=W0 at *
 have hKB:Turned r V V w W0:=Turned.below hB0
 obtain⟨R,hR⟩:∃ R:Nf×Nat,sS p (bG X.tr) (N,f)=R:=⟨_,rfl⟩
 rw[hR] at hsm ⊢
 unfold sS at hR
 dsimp only at hR
 obtain⟨Q,hQ⟩:∃ Q:Nf×Nat,bG X.tr ((N.state 0).link f N.states,N.states)=Q:=⟨_,rfl⟩
 rw[hQ] at hR
 have hR1:R.1=Q.1.link Q.2 N.states:=by rw[←hR]
 have hR2:R.2=if p then Q.2 else N.states:=by rw[←hR]
 rw[hR1] at hsm
 have wG:Q.1.small:=(Nf.iR _ _ _).small hsm
 have wH:((N.state 0).link f N.states).small:=by rw[←hQ] at wG;exact(ou X.tr ((N.state 0).link f N.states,N.states)).small wG
 have ad8:N.small:=((Nf.iP N 0).trans (Nf.iR _ f N.states)).small wH
 have hs1:=rU r base 0 N V W0 h0 (by omega) ad8.2.2
 have HS1:=ah hs1;have qO:=ah (And.intro hsm (And.intro wH (And.intro wG ad8)));have HI:=ah ih;have HTB:=ah hTB;have H0:=ah h0;have HKB:=ah hKB
 have HW:=ah hW;have HR:=ah (And.intro hR1 hR2);have HQ:=ah hQ;have HK:=ah hk
 clear hs1 hsm wH wG ad8 ih hTB h0 hlt0 h hT hKB hB0 hQ hR hR1 hR2 hk
 clear hW
 go_enter Tryz.func189,Tryz.ntmps189
 go_wp2_with fail
 rw[HW.out]
 refine HS1.out.mono ?_
 rintro e w1 ⟨rfl,V1,h1,hA1⟩
 have hz1:=hA1.size
 generalize hns:N.states=ns at *
 clear hns
 go_wp2_with fail
 refine(vK r base f ns (N.state 0) V1 w1 h1 (by omega) qO.out.2.2.2.1).mono ?_
 rintro e w2 ⟨rfl,V2,h2,ht2⟩
 have hA2:=hA1.trans ht2
 have hz2:=hA2.size
 clear hA1 ht2 h1
 have hx2:=hA2.box hx0 (Nat.ne_of_gt hrl) Py
 have hT2:=HTB.out.kept H0.out hA2 (by omega)
 obtain⟨b,o,rfl,hcap,hc2,hX2⟩:=hT2.YG
 have hla:=HI.out ((N.state 0).link f ns) V2 ns w2 h2 hX2 (by omega) (by rw[HQ.out];exact qO.out.2.2.1)
 rw[HQ.out] at hla
 obtain⟨k5,s5,a5,cp5,cZ,dh,hi5⟩:=X
 obtain⟨x0,x1,x2,x3,x4,x5,x6,x7⟩:=qX hc2
 have z5:w2.cell? ⟨w.heap.size,5,none⟩=some (.slice (some ⟨b,o,none⟩) 1 cap):=hx2.cell 5
 have BM:=ah hla
 clear hla hc2 hX2 hT2 hx2
 go_wp2_with (go_at_call 145;go_must (refine BM.out.mono ?_;rintro e w3 ⟨rfl,V3,h3,ht3⟩))
 have hA3:=hA2.trans ht3
 have hz3:=hA3.size
 clear hA2 ht3 BM x0 x1 x2 x3 x4 x5 x6 x7 z5
 refine(vK r base Q.2 ns Q.1 V3 w3 h3 (by omega) qO.out.2.2.1.1).mono ?_
 rintro e w4 ⟨rfl,V4,h4,oI⟩
 have EU:=hA3.trans oI
 clear hA3 oI
 have hx4:=EU.box hx0 (Nat.ne_of_gt hrl) Py
 have z0:w4.cell? ⟨w.heap.size,0,none⟩=some (.int .i64 k):=hx4.cell 0
 have hfin:gW w4 r base R.1 V4:=by rw[HR.out.1];exact h4
 have hk:=HK.out
 cases p
 ·rw[if_neg (by decide)] at hk
  subst hk
  go_wp2
  go_ret
  refine⟨?_,_,hfin,HKB.out.trans EU⟩
  have hans:R.2=ns:=HR.out.2
  rw[hans];rfl
 ·rw[if_pos rfl] at hk
  subst hk
  go_wp2
  go_ret
  refine⟨?_,_,hfin,HKB.out.trans EU⟩
  have hans:R.2=Q.2:=HR.out.2
  rw[hans];rfl
end
section
open Go.RowKit
theorem aiF(r base:Nat)(s:aA)(a:Option Addr)(cap:Nat)(X:Vt)(lo hi:Int)(ih:Eo r base X):Gx 190 r base (.mk 8 s a cap [X] lo hi):=by
 intro N V f w h hT hb hsm
 rw[Vt.jI,List.map_singleton,Tz] at hsm ⊢
 have hB0:=aj w (.cells (aC 8 s a 1 cap lo hi).toArray 151)
 have h0:=h.kept hB0
 have hx0:=Box.new w (aC 8 s a 1 cap lo hi).toArray 151
 have hlt0:∀ g,V.has g→g<w.heap.size:=fun g hg=>(h.hasLt g hg).2
 have hrl:=h.box.lt
 have hTB:=hT.bW hB0
 have hW0:(w.alloc (.cells (aC 8 s a 1 cap lo hi).toArray 151)).heap.size=w.heap.size+1:=World.size_alloc _ _
 show Calls Tryz.prog 190 #[.pointer (some ⟨r,0,none⟩),.agg (aC 8 s a 1 cap lo hi).toArray,.int .i64 f] w _
 have hKB:=Turned.below (r:=r) (V:=V) hB0
 obtain⟨Q,hQ⟩:∃ Q:Nf×Nat,bG X.tr (N,f)=Q:=⟨_,rfl⟩
 rw[hQ] at hsm ⊢
 dsimp only at hsm ⊢
 have ad9:((Q.1.state 0).link Q.2 Q.1.states).small:=(Nf.iR _ _ _).small hsm
 have wG:(Q.1.state 0).small:=(Nf.iR _ _ _).small ad9
 have wH:Q.1.small:=(Nf.iP _ _).small wG
 obtain⟨b,o,rfl,hcap,hc2,hX2⟩:=hT.YG
 have hla:=ih N V f _ h0 (hX2.bW hB0) (by omega) (by rw[hQ];exact wH)
 rw[hQ] at hla
 obtain⟨k5,s5,a5,cp5,cZ,dh,hi5⟩:=X
 obtain⟨x0,x1,x2,x3,x4,x5,x6,x7⟩:=qX hc2
 have hbl:=World.block_lt_of_cell? w _ x0
 have BM:=ah hla;have qO:=ah (And.intro wH (And.intro wG (And.intro ad9 hsm)));have HKB:=ah hKB
 have hbs:base≤w.heap.size:=hb
 clear hla hc2 hX2 hsm wH wG ad9 ih hTB h0 hlt0 h hT hKB hB0 hQ hb
 go_enter Tryz.func190,Tryz.ntmps190
 go_wp2_with (go_at_call 145;go_must (refine BM.out.mono ?_;rintro e w1 ⟨rfl,V1,h1,hA1⟩))
 generalize w.alloc (.cells (aC 8 s (some ⟨b,o,none⟩) 1 cap lo hi).toArray 151)=W0 at *
 have hz1:=hA1.size
 clear x0 x1 x2 x3 x4 x5 x6 x7 BM hbl
 refine(rU r base 0 Q.1 V1 w1 h1 (by omega) qO.out.1.2.2).mono ?_
 rintro e w2 ⟨rfl,V2,h2,ht2⟩
 have hA2:=hA1.trans ht2
 have hz2:=hA2.size
 clear hA1 ht2 h1 hz1
 generalize hns:Q.1.states=ns at *
 clear hns
 go_wp2_with fail
 refine(vK r base Q.2 ns (Q.1.state 0) V2 w2 h2 (by omega) qO.out.2.1.1).mono ?_
 rintro e w3 ⟨rfl,V3,h3,ht3⟩
 have hA3:=hA2.trans ht3
 have hz3:=hA3.size
 clear hA2 ht3 h2 hz2
 go_wp2_with fail
 refine(vK r base f ns ((Q.1.state 0).link Q.2 ns) V3 w3 h3 (by omega) qO.out.2.2.1.1).mono ?_
 rintro e w4 ⟨rfl,V4,h4,oI⟩
 have EU:=hA3.trans oI
 clear hA3 oI h3 hz3
 go_wp2
 go_ret
 exact⟨rfl,_,h4,HKB.out.trans EU⟩
end
section
open Go.RowKit
structure rV(m:Nat)(w:World)(V:Y3)(v:Value)(l:List Nat):Prop where
 own:Own w m 3 1 aG v l
 lM:∀ g,v.ownBlock=some g→¬ V.has g
theorem rV.turned{m r:Nat}{w w':World}{V V':Y3}{v:Value}{l:List Nat}(h:rV m w V v l)(ht:Turned r V V' w w')(hr:r<m):rV m w' V' v l:=by
 refine⟨h.own.bW fun g hg=>?_,fun g hg e=>?_⟩
 ·have:=h.own.bC g hg
  exact ht.block g this.2 (by omega) (h.lM g hg)
 ·rcases ht.new g e with h1 | h1
  ·exact h.lM g hg h1
  ·have:=(h.own.bC g hg).2;omega
theorem rV.bW{m:Nat}{w w':World}{V:Y3}{v:Value}{l:List Nat}(h:rV m w V v l)(hb:Below w.heap.size w w'):rV m w' V v l:=⟨h.own.kept hb,h.lM⟩
theorem gW.FQ{w w':World}{r base:Nat}{N:Nf}{V:Y3}{row:Option Nat}(h:gW w r base N V)(hg:w.grownBy w' row)(hr:row≠some r)(hv:∀ g,row=some g→¬ V.has g):gW w' r base N V :=
 ⟨(hg.block r h.box.lt fun e=>hr e.symm).trans h.box,h.li.Ht hg fun k h1 h2=>hv k h2 (.inl h1),h.ed.Ht hg fun k h1 h2=>hv k h2 (.inr (.inl h1)),h.ac.Ht hg fun k h1 h2=>hv k h2 (.inr (.inr h1)),h.lt,h.st⟩
theorem Turned.FQ{w0 w w':World}{r:Nat}{V V':Y3}{row:Option Nat}(h:Turned r V V' w0 w)(hg:w.grownBy w' row)(hn:∀ g,row=some g→w0.heap.size≤g):Turned r V V' w0 w' :=
 ⟨hg.os.trans h.os,hg.tape.trans h.tape,hg.output.trans h.output,Nat.le_trans h.size hg.size,fun b hb h1 h2=>(hg.block b (Nat.lt_of_lt_of_le hb h.size) fun e=>by have:=hn b e.symm;omega).trans (h.block b hb h1 h2),h.new⟩
theorem rV.snoc{m:Nat}{w w':World}{V:Y3}{v:Value}{l:List Nat}{x r base:Nat}{N:Nf}{a':Option Addr}{cap':Nat}(h:rV m w V v l)(hL:gW w r base N V)(ho:Own w' m 3 1 aG (.slice a' (l.length+1) cap') (l++[x]))
  (hf:(Value.slice a' (l.length+1) cap').ownBlock=v.ownBlock∨(Value.slice a' (l.length+1) cap').ownBlock=some w.heap.size):rV m w' V (.slice a' (l.length+1) cap') (l++[x]):=by
 refine⟨ho,fun g hg e=>?_⟩
 rcases hf with hf | hf
 ·exact h.lM g (hf▸hg) e
 ·rw[hf] at hg;cases hg;have:=(hL.hasLt _ e).2;omega
theorem TA(s:aA)(kids:List Tr)(lo hi:Int)(y:Nf)(f:Nat):bG (.mk 5 s kids lo hi) (y,f)=((fZ kids y f []).2.foldl (fun z e=>z.link e (fZ kids y f []).1.states) ((fZ kids y f []).1.state 0),(fZ kids y f []).1.states):=by
 rw[bG,if_neg (by decide),if_pos rfl]
theorem aiG(r base:Nat)(s:aA)(a:Option Addr)(cap:Nat)(kids:List Vt)(lo hi:Int)(hkl:kids.length≤1099511627776)(ih:∀ i (h:i<kids.length),Eo r base kids[i]):Gx 188 r base (.mk 5 s a cap kids lo hi):=by
 intro N V f w h hT hb hsm
 rw[Vt.jI,TA] at hsm ⊢
 obtain⟨_,_,_,hs,hkids⟩:=hT.lies.open
 have hB0:=aj w (.cells (aC 5 s a kids.length cap lo hi).toArray 151)
 have h0:=h.kept hB0
 have hnc:kids.length≤cap:=by obtain⟨_,_,c1,_⟩:=hs.kids;exact c1
 clear hkids hs
 obtain⟨Z,hZ⟩:∃ Z:Nat→Nf×List Nat,∀ k,Z k=fZ ((kids.map Vt.tr).take k) N f []:=⟨_,fun _=>rfl⟩
 have hZs:∀ k (hk:k<kids.length),Z (k+1)=((bG kids[k].tr ((Z k).1,f)).1,(Z k).2++[(bG kids[k].tr ((Z k).1,f)).2]):=fun k hk=>by
  rw[hZ,hZ,ZF _ _ (by simpa using hk),List.getElem_map]
 have wW:Z 0=(N,[]):=by rw[hZ,List.take_zero,fZ]
 have MK:Z kids.length=fZ (kids.map Vt.tr) N f []:=by rw[hZ,List.take_of_length_le (by simp)]
 have hZl:∀ k,k≤kids.length→(Z k).2.length=k:=fun k hk=>by rw[hZ,Jz,List.length_take,List.length_map,Nat.min_eq_left hk];simp
 rw[←MK] at hsm ⊢
 dsimp only at hsm ⊢
 have YH:((Z kids.length).1.state 0).small:=(Jy _ _ _).small hsm
 have Gy:∀ k,(Z k).1.small:=fun k=>by
  have h1:(fZ (kids.map Vt.tr) N f []).1.small:=by rw[←MK];exact(Nf.iP _ _).small YH
  rw[hZ];exact(QV _ k _ _ _).small h1
 have hrl:=h.box.lt
 obtain⟨n,hn⟩:∃ n,kids.length=n:=⟨_,rfl⟩
 have HN:=ah hn
 show Calls Tryz.prog 188 #[.pointer (some ⟨r,0,none⟩),.agg (aC 5 s a kids.length cap lo hi).toArray,.int .i64 f] w _
 rw[hn] at hnc hB0 h0 hsm YH hkl hZl ⊢
 have hW0:(w.alloc (.cells (aC 5 s a n cap lo hi).toArray 151)).heap.size=w.heap.size+1:=World.size_alloc _ _
 obtain⟨R1,hR1⟩:∃ R1,(Z n).2.foldl (fun z e=>z.link e (Z n).1.states) ((Z n).1.state 0)=R1:=⟨_,rfl⟩
 obtain⟨ns,hR2⟩:∃ ns,(Z n).1.states=ns:=⟨_,rfl⟩
 rw[hR1] at hsm ⊢
 rw[hR2] at hR1 ⊢
 have HR:=ah (And.intro hR1 hR2)
 clear hR1 hR2
 have HI:=ah ih;have PI:=ah hZs;have HZ0:=ah wW;have PK:=ah Gy;have HT:=ah hT;have HH:=ah h;have HB0:=ah hB0;have H0:=ah h0;have HZL:=ah hZl;have qO:=ah (And.intro hsm YH)
 clear hsm hZ hZs wW MK Gy ih hT hB0 hn h h0 hZl YH
 go_enter Tryz.func188,Tryz.ntmps188
 go_wp2_with fail
 go_loopw [7,16] (fun v i wr=>∃ (k:Nat) (V':Y3),k≤n∧i=.int .i64 k∧gW wr r base (Z k).1 V'∧rV (w.heap.size+1) wr V' v (Z k).2∧Turned r V V' (w.alloc (.cells (aC 5 s a n cap lo hi).toArray 151)) wr) (fun _ i _=>n - (intOf i).toNat)
 case atStart=>exact⟨0,V,Nat.zero_le _,rfl,by rw[HZ0.out];exact H0.out,by rw[HZ0.out];exact⟨Own.nil _ _ _ _ _,fun g hg=>by simp[Value.ownBlock] at hg⟩,Turned.below (Below.refl _ _)⟩
 case round =>
  obtain⟨k,V1,hk,rfl,h1,hE,ht1⟩:=hrel
  by_cases hlt:k<n
  ·have hlk:k<kids.length:=by rw[HN.out];exact hlt
   have hTr:=(HT.out.bW HB0.out).kept H0.out ht1 (by omega)
   obtain⟨_,_,_,hsr,hkr⟩:=hTr.lies.open
   obtain⟨b,o,_,_,c3,_,c5⟩:=hsr.kids
   obtain rfl:=c3 k hlk
   have e1:=c5 k hlk wr (Below.refl _ _)
   have Tv:=hTr.kid k hlk
   have hcall:=HI.out k hlk
   have hzs:=PI.out k hlk
   have hzl:=HZL.out k hk
   obtain⟨av,cv,rfl⟩:=hE.own.form
   generalize kids[k]=X at *
   obtain⟨k5,s5,a5,cp5,cZ,dh,hi5⟩:=X
   have hB1:=aj wr (.cells (aC k5 s5 a5 cZ.length cp5 dh hi5).toArray 151)
   have hsz1:=ht1.size
   obtain⟨Q,hQ⟩:∃ Q,bG (Vt.mk k5 s5 a5 cp5 cZ dh hi5).tr ((Z k).1,f)=Q:=⟨_,rfl⟩
   rw[hQ] at hzs
   have hQs:Q.1.small:=by have:=PK.out (k+1);rw[hzs] at this;exact this
   have hcl:=hcall (Z k).1 V1 f _ (h1.kept hB1) (Tv.bW hB1) (by rw[World.size_alloc];omega) (by rw[hQ];exact hQs)
   rw[hQ] at hcl
   obtain⟨x0,x1,x2,x3,x4,x5,x6,x7⟩:=qX e1
   have hbl:=World.block_lt_of_cell? wr _ x0
   have pV:=ah hcl;have aiI:=ah hzs;have aiJ:=ah hzl
   clear hcl hzs hcall Tv c5 c3 hsr hkr hTr e1 hQ hQs h1
   have hki:(k:Int)<(n:Int):=by omega
   have hk0:(0:Int)≤(k:Int):=by omega
   rw[hzl] at hE ⊢
   have hT1:=ht1.trans (Turned.below hB1)
   have hE1:=hE.bW hB1
   clear ht1 hB1 hzl hE
   generalize hZl:(Z k).2=zl at *
   clear hZl
   have arD:zl.length≤1099511627776:=by rw[aiJ.out];omega
   go_wp2_with (first | (go_at_call 145;go_must (refine pV.out.mono ?_;rintro e w2 ⟨rfl,V2,h2,ht2⟩;have hE2:=hE1.turned ht2 (by omega);have hA2:=hT1.trans ht2;have hB3:=aj w2 (.cells #[.int .i64 Q.2] 3);have TB:=hE2.bW hB3;have hz2:=hA2.size)) | (at_builtin;go_must (refine dB rfl _ _ 24 rfl FT bQ (by rw[←aiJ.out];rfl) TB.own ⟨w2.heap.size,0,none⟩ 1 Q.2 rfl (cu w2 [.int .i64 Q.2] _) (by simp[maxLen];omega) (by omega) (by simp;omega) ?_;intro a7 c7 w7 fC bZ nP)))
   have h3:=h2.kept hB3
   have hgE:∀ g,(Value.slice av k cv).ownBlock=some g→w.heap.size+1≤g∧¬ V2.has g:=fun g hg=>⟨(TB.own.bC g hg).1,TB.lM g hg⟩
   have h4:=h3.FQ bZ (fun e=>by have:=(hgE r e).1;omega) (fun g hg=>(hgE g hg).2)
   have hE4:=TB.snoc h3 fC nP
   have EU:=(hA2.trans (Turned.below hB3)).FQ bZ (fun g hg=>by rw[hW0];exact(hgE g hg).1)
   exact⟨⟨k+1,V2,hlt,by push_cast;rfl,by rw[aiI.out];exact h4,by rw[aiI.out];exact hE4,EU⟩,by simp[intOf];omega⟩
  ·obtain rfl:k=n:=by omega
   have hzl:=HZL.out k hk
   obtain⟨av,cv,rfl⟩:=hE.own.form
   rw[hzl] at hE ⊢
   clear hzl
   have hsz1:=ht1.size
   go_wp2_with fail
   refine(rU r base 0 (Z k).1 V1 wr h1 (by omega) (PK.out k).2.2).mono ?_
   rintro e w2 ⟨rfl,V2,h2,ht2⟩
   have hE2:=hE.turned ht2 (by omega)
   have hA2:=ht1.trans ht2
   clear ht1 ht2 h1 hE
   have HS:=ah (qO.out.1)
   rw[←HR.out.1] at HS
   have hRn:=HR.out.2
   have hR1:=HR.out.1
   rw[hRn]
   clear HR
   have HR:=ah hR1
   clear hRn hR1
   generalize hN2:(Z k).1.state 0=N2 at *
   generalize hzl:(Z k).2=zl at *
   have aiK:zl.length=k:=by rw[←hzl];exact HZL.out k hk
   have HZN:=ah aiK
   clear hN2 hzl aiK hlt
   have hk0:(k:Int)≤1099511627776:=by omega
   go_wp2_with fail
   go_loopw [32] (fun i wr=>∃ (j:Nat) (V':Y3),j≤k∧i=.int .i64 j∧gW wr r base ((zl.take j).foldl (fun z e=>z.link e ns) N2) V'∧rV (w.heap.size+1) wr V' (.slice av k cv) zl∧Turned r V V' (w.alloc (.cells (aC 5 s a k cap lo hi).toArray 151)) wr) (fun i _=>k - (intOf i).toNat)
   case atStart=>exact⟨0,V2,Nat.zero_le _,rfl,h2,hE2,hA2⟩
   case round =>
    obtain⟨j,V3,hj,rfl,h3,TB,hA3⟩:=hrel
    by_cases hlt:j<k
    ·have hlj:j<zl.length:=by rw[HZN.out];exact hlt
     have hz3:=hA3.size
     obtain⟨g,o,hkz,hcap,_,c3,c5⟩:=(TB.own.slice bQ).open
     have hcap:k≤cv:=by rw[hkz];exact hcap
     clear hkz
     obtain rfl:=c3 j hlj
     have x0:wr.cell? ⟨g,o+j,none⟩=some (.int .i64 zl[j]):=by
      have:=c5 j hlj 0 _ rfl
      rwa[Nat.mul_one,Nat.add_zero] at this
     have hbl:=World.block_lt_of_cell? _ _ x0
     have hst:=List.take_succ_eq_append_getElem hlj
     generalize zl[j]=ej at *
     have hfo:(zl.take (j+1)).foldl (fun z e=>z.link e ns) N2=((zl.take j).foldl (fun z e=>z.link e ns) N2).link ej ns:=by rw[hst,List.foldl_append];rfl
     have aiL:(((zl.take j).foldl (fun z e=>z.link e ns) N2)).small:=by
      have h9:=HS.out
      rw[←List.take_append_drop j zl,List.foldl_append] at h9
      exact(Jy _ _ _).small h9
     have HFO:=ah hfo
     clear hst hfo c3 c5
     have hcl:=vK r base ej ns _ V3 _ h3 (by omega) aiL.1
     rw[←HFO.out] at hcl
     have pV:=ah hcl
     clear hcl aiL h3
     have hji:(j:Int)<(k:Int):=by omega
     have hj0:(0:Int)≤(j:Int):=by omega
     go_wp2_with (go_at_call 146;go_must (refine pV.out.mono ?_;rintro e w5 ⟨rfl,V5,h5,oJ⟩))
     exact⟨⟨j+1,V5,hlt,by push_cast;rfl,h5,TB.turned oJ (by omega),hA3.trans oJ⟩,by simp[intOf];omega⟩
    ·obtain rfl:j=k:=by omega
     rw[List.take_of_length_le (by rw[HZN.out];exact Nat.le_refl _)] at h3
     go_wp2
     go_ret
     rw[HR.out] at h3
     exact⟨rfl,_,h3,(Turned.below HB0.out).trans hA3⟩
end
end Go.Proofs.YtbemonecmmnlcaaGreatDoor
