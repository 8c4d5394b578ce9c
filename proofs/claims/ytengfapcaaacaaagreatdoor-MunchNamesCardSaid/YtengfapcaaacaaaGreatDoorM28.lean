/- The texts of N28, in few letters (mini.py). -/
import Derived.Test.YtengfapcaaacaaaGreatDoorM27
set_option linter.unusedVariables false
set_option linter.unusedSimpArgs false
set_option maxRecDepth 20000
set_option maxHeartbeats 3200000
namespace Go.Proofs.YtengfapcaaacaaaGreatDoor
section
open Go.RowKit
structure vX(w:World)(m lb eb:Nat)(kl ke:List (Int×Value))(va:Value)(N:Nf):Prop where
 box:Box w m #[.int .i64 N.states,.int .i64 0,.map (some lb),.map (some eb),va] 246
 ml:aJ w lb (fun k:Int=>Value.int .i64 k) kl
 me:aJ w eb (fun k:Int=>Value.int .i64 k) ke
 goes:∀ s:Nat,∃ a cap,(look (s:Int) kl).getD (.slice none 0 0)=.slice a (N.goes s).length cap∧ak w (.slice a (N.goes s).length cap) 1 aO (N.goes s)
 out:∀ s:Nat,∃ a cap,(look (s:Int) ke).getD (.slice none 0 0)=.slice a (N.out s).length cap∧ak w (.slice a (N.out s).length cap) 6 fU (N.out s)
 ac:ak w va 1 aO N.accept
 wf:N.wf
 small:N.states≤65536
 aaE:N.edges.length≤65536
theorem vX.kept{w w':World}{m lb eb:Nat}{kl ke:List (Int×Value)}{va:Value}{N:Nf}(h:vX w m lb eb kl ke va N)(hb:Below w.heap.size w w'):vX w' m lb eb kl ke va N :=
 ⟨h.box.kept hb,h.ml.kept hb,h.me.kept hb,fun s=>by obtain⟨a,c,h1,h2⟩:=h.goes s;exact⟨a,c,h1,h2.kept hb⟩,fun s=>by obtain⟨a,c,h1,h2⟩:=h.out s;exact⟨a,c,h1,h2.kept hb⟩,h.ac.kept hb,h.wf,h.small,h.aaE⟩
theorem af6{N:Nf}(h:N.wf)(s:Nat):∀ x∈N.goes s,x<N.states:=fun x hx=>by
 unfold Nf.goes at hx
 obtain⟨l,hl,rfl⟩:=List.mem_map.1 hx
 exact(h.links l (List.mem_filter.1 hl).1).2
theorem zM:rW Tryz.prog 3 (fun k:Int=>Value.int .i64 k):=Oe Tryz.underlying3
theorem aaF:(Tryz.prog.info? 24).map (fun i=>(i.zero,i.size))=some (some (.slice none 0 0),1):=by kernel_rfl
theorem O6(w:World):(zeroValue 24).run Tryz.prog w=.ok (.slice none 0 0) w:=(zero_of_info aaF).1 w
theorem Md(m lb eb:Nat)(kl ke:List (Int×Value))(va:Value)(N:Nf)(a:Option Addr)(n cap:Nat)(l:List Nat)(w:World)(hT:Tab w)(hM:vX w m lb eb kl ke va N)(hl:ak w (.slice a n cap) 1 aO l)(hs:∀ x∈l,x<N.states) :
  Calls Tryz.prog 242 #[.pointer (some ⟨m,0,none⟩),.slice a n cap] w (iU w 3 1 aO (fM N l)):=by
 have x0:w.cell? ⟨m,0,none⟩=some (.int .i64 N.states):=hM.box.cell 0
 have hml:=hM.box.lt
 have hnew:=KH N.states w (by have:=hM.small;omega)
 obtain⟨b,o,hn,hc,hc2,ha,hx⟩:=hl.dh
 have hnb:N.states≤65536:=hM.small
 obtain⟨R,hR⟩:∃ R,qO N.states N.goes (N.states+1) (l.foldl (jA N.states) (0,[]))=R:=⟨_,rfl⟩
 have hans:fM N l=gQ N.states R:=by unfold fM;rw[hR]
 rw[hans]
 have hRl:R<2 ^ N.states:=by rw[←hR];exact Fp _ _ _ _ (Jj _ _ _ (Nat.pos_of_ne_zero (by simp)))
 have HM:=ah hM;have HT:=ah hT;have HN:=ah hnew;have HA:=ah ha;have HX:=ah hx;have HS:=ah hs;have HR:=ah hR;have HL:=ah hn
 clear hM hT hnew ha hx hs hR hans hn hl
 have hc3:n≤cap:=by rw[HL.out];exact hc
 clear hc
 go_enter Tryz.func242,Tryz.ntmps242
 go_wp2_with (go_at_call 238;go_must (refine HN.out.mono ?_;rintro e w2 ⟨rfl,hB2,hs2,hb2⟩;have HB2:=ah hB2;clear hB2))
 have zW:∀ k (h:k<l.length) wr,Below w.heap.size w wr→wr.cell? ⟨b,o+k,none⟩=some (.int .i64 (l[k]:Nat)):=fun k h wr hB=>HX.out k h wr hB
 have HX:=ah zW
 have HB3:Hid (Below w.heap.size w ((w2.alloc (.cells #[.pointer (some ⟨w.heap.size+1,0,none⟩)] 315)).alloc (.cells #[.slice none 0 0] 24))∧yV ((w2.alloc (.cells #[.pointer (some ⟨w.heap.size+1,0,none⟩)] 315)).alloc (.cells #[.slice none 0 0] 24)) w.heap.size N.states (0,[])):=ah (by
  have hq:=(Box.new' (w:=w2) hs2.symm #[.pointer (some ⟨w.heap.size+1,0,none⟩)] 315)
  refine⟨(hb2.alloc (by omega) _).alloc (by simp only[World.size_alloc];omega) _,⟨hq.alloc _,?_,⟨none,0,Box.new' (by simp only[World.size_alloc];omega) _ _,jB.nil _ _ _⟩,by simp only[World.size_alloc];omega⟩⟩
  exact(HB2.out.kept (aj _ _)).kept (aj _ _))
 clear zW
 generalize ((w2.alloc (.cells #[.pointer (some ⟨w.heap.size+1,0,none⟩)] 315)).alloc (.cells #[.slice none 0 0] 24))=w3 at *
 go_loopw [28] (fun i wr=>∃ k:Nat,k≤n∧i=.int .i64 k∧yV wr w.heap.size N.states ((l.take k).foldl (jA N.states) (0,[]))∧Below w.heap.size w wr) (fun i _=>n - (intOf i).toNat)
 case atStart=>exact⟨0,Nat.zero_le _,rfl,HB3.out.2,HB3.out.1⟩
 case round =>
  clear hs2 hb2 HB2
  obtain⟨k,hk,rfl,hC,hB⟩:=hrel
  by_cases hlt:k<n
  ·have hkl:k<l.length:=by rw[←HL.out];exact hlt
   obtain rfl:=HA.out k hkl
   have c0:=HX.out k hkl wr hB
   have hbl:=World.block_lt_of_cell? wr _ c0
   have hft:=KD (jA N.states) l (0,[]) k hkl
   have hsk:=HS.out _ (List.getElem_mem hkl)
   have hpt:((l.take k).foldl (jA N.states) (0,[])).2.length+lacks N.states ((l.take k).foldl (jA N.states) (0,[])).1≤N.states:=by rw[AZ];simpa using Qw N.states 0
   have hput:=VU w.heap.size N.states l[k] _ wr hC (by omega) (by omega)
   rw[←hft] at hput
   generalize l[k]=s at *
   have HP:=ah hput
   clear hput hft hC hpt hsk
   have hkn:(k:Int)<(n:Int):=by omega
   have hk0:(0:Int)≤(k:Int):=by omega
   go_wp2_with fail
   refine HP.out.mono ?_
   rintro e w4 ⟨rfl,hC4,hB4⟩
   go_wp2
   exact⟨⟨k+1,hlt,by push_cast;rfl,hC4,hB.trans hB4⟩,by simp[intOf];omega⟩
  ·obtain rfl:k=n:=by omega
   rw[HL.out,Ot] at hC
   have hpt:(l.foldl (jA N.states) (0,[])).2.length+lacks N.states (l.foldl (jA N.states) (0,[])).1≤N.states:=by rw[AZ];simpa using Qw N.states 0
   have hmem:=Oq N.states l (0,[]) (by simp)
   have HR2:=HR.out
   generalize l.foldl (jA N.states) (0,[])=st0 at *
   have HC:=ah (And.intro HR2 (And.intro hpt (And.intro hmem hC)))
   clear HR2 hpt hmem hC
   go_wp2
   go_loopw [] (fun wr=>∃ (f:Nat) (st:Nat×List Nat),qO N.states N.goes f st=R∧st.2.length+lacks N.states st.1≤f∧(∀ x∈st.2,x<N.states)∧yV wr w.heap.size N.states st∧Below w.heap.size w wr∧st.2.length+lacks N.states st.1≤65536) (fun wr=>X6 wr w.heap.size N.states)
   case atStart=>exact⟨N.states+1,st0,HC.out.1,by have:=HC.out.2.1;omega,HC.out.2.2.1,HC.out.2.2.2,hB,by have:=HC.out.2.1;omega⟩
   case round =>
    clear hB
    obtain⟨f,st,hcl,hf,hmem,hC,hB,hp6⟩:=hrel
    have Tn:=hC.pot
    obtain⟨wa,wc,hbw,how⟩:=hC.wq
    have z0:wr.cell? ⟨w.heap.size+3,0,none⟩=some (.slice wa st.2.length wc):=hbw.cell 0
    have f0:=hbw.free 0
    have l0:=hbw.lt
    rcases List.eq_nil_or_concat st.2 with he | ⟨ws,s,he⟩
    ·rw[Us _ _ _ _ he] at hcl
     subst hcl
     obtain⟨S,ws⟩:=st
     dsimp only at he
     subst he
     have hall:=acE (w.heap.size+1) w.heap.size N.states S wr (by omega) (HT.out.kept hB) hC.bits
     have z2:wr.cell? ⟨w.heap.size+2,0,none⟩=some (.pointer (some ⟨w.heap.size+1,0,none⟩)):=hC.bq.cell 0
     have GX:=ah hall
     clear hall hbw how hmem hf Tn hp6 hC
     go_wp2_with (go_at_call 262;go_must (refine GX.out.mono ?_;rintro e w5 ⟨a5,c5,rfl,BM,hb5⟩))
     go_ret
     exact⟨a5,c5,rfl,BM.mono hB.size,hB.trans (hb5.mono hB.size)⟩
    ·rw[List.concat_eq_append] at he
     obtain⟨f,rfl⟩:∃ f',f=f'+1:=⟨f - 1,by rw[he] at hf;simp at hf;omega⟩
     rw[Ur N.states N.goes f st s ws he] at hcl
     obtain⟨S,ws0⟩:=st
     dsimp only at he
     subst he
     dsimp only at hcl hf hmem hbw how z0 hp6 Tn
     have hsN:s<N.states:=hmem s (by simp)
     obtain⟨q,hq⟩:∃ q,ws.length=q:=⟨_,rfl⟩
     have hlen:(ws++[s]).length=q+1:=by rw[←hq];simp
     rw[hlen] at hbw how z0 hf hp6 Tn
     obtain⟨zW,hwc,amd,wg,hwa,hwx⟩:=how.cell
     clear zW
     rw[hlen] at hwc
     obtain rfl:=hwa q (by rw[hlen];omega)
     have y1:wr.cell? ⟨wg,q,none⟩=some (.int .i64 (s:Nat)):=by have:=hwx ws.length (by simp);rw[←hq];simpa using this
     have hcut:=how.cut
     rw[hq] at hcut
     have hbg:=World.block_lt_of_cell? wr _ y1
     have hBS:Below w.heap.size w (wr.setCell ⟨w.heap.size+3,0,none⟩ (.slice (some ⟨wg,0,none⟩) q q)):=hB.setCell (by simp) _
     have hCS:yV (wr.setCell ⟨w.heap.size+3,0,none⟩ (.slice (some ⟨wg,0,none⟩) q q)) w.heap.size N.states (S,ws) :=
      ⟨hC.bq.other _ _ (by simp),⟨hC.bits.box.other _ _ (by simp),hC.bits.words.other _ _ (by simp),hC.bits.lt,hC.bits.ne⟩,⟨_,_,by rw[show(S,ws).2.length=q from hq];exact hbw.set 0 _,by rw[show(S,ws).2.length=q from hq];exact hcut.other _ _ (by simp)⟩,by rw[World.size_setCell];exact hC.size⟩
     have hMS:=HM.out.kept hBS
     have x2:(wr.setCell ⟨w.heap.size+3,0,none⟩ (.slice (some ⟨wg,0,none⟩) q q)).cell? ⟨m,2,none⟩=some (.map (some lb)):=hMS.box.cell 2
     have hlk:=lF hMS.ml zM Tryz.underlying243 (O6 _) (s:Int)
     obtain⟨ga,gc,hgl,hgs⟩:=HM.out.goes s
     rw[hgl] at hlk
     obtain⟨gb,go,adl,hgc,ame,hga,hgx⟩:=hgs.dh
     clear adl
     have hpt:=AZ N.states (N.goes s) (S,ws)
     have hgt:=af6 HM.out.wf s
     have aeQ:=Oq N.states (N.goes s) (S,ws) (fun x hx=>hmem x (List.mem_append_left _ hx))
     have hpk:=fun k=>AZ N.states ((N.goes s).take k) (S,ws)
     dsimp only at hpt hpk
     rw[hq] at hpt hpk
     have hpb:q+lacks N.states S≤65535:=by omega
     have ap5:q≤65535:=by omega
     have Rl:=ah hBS;have HCS:=ah hCS;have HGX:=ah hgx;have HGA:=ah hga;have HGT:=ah hgt;have HPK:=ah hpk
     have X7:=ah (And.intro hcl (And.intro hpt (And.intro aeQ (And.intro Tn (And.intro hf hpb)))))
     clear hpb hBS hCS hMS hgx hga hgt hpk hcl hpt aeQ Tn hmem hwx hcut how hbw hC hgl hgs hwa hlen
     generalize hgg:N.goes s=gs at *
     clear hgg
     have HQ:=ah hq
     clear hq hf
     go_wp2
     clear x2 hlk y1 hbg z0 f0 l0 hwc amd
     generalize (wr.setCell ⟨w.heap.size+3,0,none⟩ (.slice (some ⟨wg,0,none⟩) q q))=wS at *
     obtain⟨gn,hgn⟩:∃ gn,gs.length=gn:=⟨_,rfl⟩
     rw[hgn] at hgc ⊢
     have HGN:=ah hgn
     clear hgn hB
     go_loopw [57] (fun i wr=>∃ j:Nat,j≤gn∧i=.int .i64 j∧yV wr w.heap.size N.states ((gs.take j).foldl (jA N.states) (S,ws))∧Below w.heap.size w wr) (fun i _=>gn - (intOf i).toNat)
     case atStart=>exact⟨0,Nat.zero_le _,rfl,HCS.out,Rl.out⟩
     case round =>
      obtain⟨j,hj,rfl,hC,hB⟩:=hrel
      by_cases hlt:j<gn
      ·have hjl:j<gs.length:=by rw[HGN.out];exact hlt
       obtain rfl:=HGA.out j hjl
       have c0:=HGX.out j hjl wr hB
       have hbl:=World.block_lt_of_cell? wr _ c0
       have hft:=KD (jA N.states) gs (S,ws) j hjl
       have hsk:=HGT.out _ (List.getElem_mem hjl)
       have hpt:=HPK.out j
       have hput:=VU w.heap.size N.states gs[j] _ wr hC (by omega) (by omega)
       rw[←hft] at hput
       generalize gs[j]=y at *
       have HP:=ah hput
       clear hput hft hC hpt hsk
       have hjn:(j:Int)<(gn:Int):=by omega
       have hj0:(0:Int)≤(j:Int):=by omega
       go_wp2_with fail
       refine HP.out.mono ?_
       rintro e w4 ⟨rfl,hC4,hB4⟩
       go_wp2
       exact⟨⟨j+1,hlt,by push_cast;rfl,hC4,hB.trans hB4⟩,by simp[intOf];omega⟩
      ·obtain rfl:j=gn:=by omega
       rw[←HGN.out,Ot] at hC
       obtain⟨e1,e2,e3,e4,e5,e6⟩:=X7.out
       have e7:=hC.pot
       go_wp2
       refine⟨⟨f,_,e1,by omega,e3,hC,hB,by omega⟩,?_⟩
       omega
end
section
open Go.RowKit
theorem gB.amf{w1 w' u:World}{r qB:Nat}{N:Nf}{V:Y3}(h:gB w1 r qB N V){x:Nat×au×Nat}{a':Option Addr}{cap':Nat}(ho:Own w' qB 240 6 fU (.slice a' (N.edges.length+1) cap') (N.edges++[x]))(hg:w1.grownBy w' V.e.ownBlock)(hl:Below w'.heap.size w' u) :
  gB (u.setCell ⟨r,3,none⟩ (.slice a' (N.edges.length+1) cap')) r qB (N.edge x.1 x.2.1 x.2.2) ⟨V.l,.slice a' (N.edges.length+1) cap',V.a⟩:=by
 have hb:=(h.box.grown h.ed hg h.lt).kept hl
 refine⟨hb.set 3 _,?_,(ho.kept hl).other _ _ h.lt,?_,h.lt,h.st⟩
 ·exact((h.li.lS h.ed hg (by decide)).kept hl).other _ _ h.lt
 ·exact((h.ac.lS h.ed hg (by decide)).kept hl).other _ _ h.lt
theorem uZ(r qB a b:Nat)(N:Nf)(V:Y3)(w:World)(h:gB w r qB N V)(hb:qB≤w.heap.size)(hN:N.links.length≤1099511627776) :
  Calls Tryz.prog 107 #[.pointer (some ⟨r,0,none⟩),.int .i64 a,.int .i64 b] w (Qg r qB V (N.link a b) w (.tuple #[])):=by
 have hB0:=aj w (.cells #[.int .i64 a,.int .i64 b] 233)
 have h0:=h.kept hB0
 have hx0:=h0.box
 have z4:(w.alloc (.cells #[.int .i64 a,.int .i64 b] 233)).cell? ⟨r,2,none⟩=some V.l:=hx0.cell 2
 have y4:w.cell? ⟨r,2,none⟩=some V.l:=h.box.cell 2
 have hrl:=h.box.lt
 obtain⟨aa,ca,hva⟩:=h.li.form
 have H0:=ah h0
 rw[hva] at z4 y4
 have HV:=ah hva
 have Tm:=h0.li
 rw[hva] at Tm
 clear h h0 hx0
 go_enter Tryz.func107,Tryz.ntmps107
 go_wp2_with (at_builtin;go_must (refine eP rfl _ _ 118 rfl aaD Tj rfl Tm ⟨w.heap.size,0,none⟩ 1 (a,b) rfl (dD w [.int .i64 a,.int .i64 b] _) (by simp[maxLen];omega) (by omega) (by simp;omega) ?_;intro a7 c7 w7 iI dn ug;have ES:(w.alloc (.cells #[.int .i64 a,.int .i64 b] 233)).grownBy w7 V.l.ownBlock:=(by rw[HV.out];exact dn);have hx7:=H0.out.box.grown H0.out.li ES H0.out.lt;have z7:w7.cell? ⟨r,2,none⟩=some V.l:=hx7.cell 2;have f7:=hx7.free 2;have l7:=hx7.lt))
 go_end0
 refine⟨rfl,_,H0.out.lnk (x:=(a,b)) iI ES,?_⟩
 refine((Turned.below hB0).trans (Turned.grown V.l (.slice a7 (N.links.length+1) c7) (fun g hg=>.inl hg) ES (by rw[HV.out];exact ug) ?_)).set 2 _
 rintro g (hg | hg | hg)
 ·exact .inr hg
 ·exact .inl (.inr (.inl hg))
 ·exact .inl (.inr (.inr hg))
theorem af7(r qB from':Nat)(s:au)(a:Option Addr)(n cap:Nat)(lo hi:Int)(N:Nf)(V:Y3)(w:World)(h:gB w r qB N V)(hb:qB≤w.heap.size)(hN:N.accept.length≤1099511627776∧N.edges.length≤1099511627776) :
  Calls Tryz.prog 145 #[.pointer (some ⟨r,0,none⟩),.agg (aC 3 s a n cap lo hi).toArray,.int .i64 from'] w (Qg r qB V ((N.state 0).edge from' s N.states) w (.int .i64 N.states)):=by
 have hB0:=aj w (.cells (aC 3 s a n cap lo hi).toArray 115)
 have h0:=h.kept hB0
 have hx0:=Box.new w (aC 3 s a n cap lo hi).toArray 115
 have hs:=rH r qB 0 N V _ h0 (by rw[World.size_alloc];omega) hN.1
 have HS:=ah hs
 have hrl:=h.box.lt
 have H:=ah h
 have hlt0:∀ g,V.has g→g<w.heap.size:=fun g hg=>(h.hasLt g hg).2
 have HL:=ah hlt0
 clear h h0 hs hlt0
 go_enter Tryz.func145,Tryz.ntmps145
 go_wp2_with (go_at_call 105;go_must (refine HS.out.mono ?_;rintro e w2 ⟨rfl,V2,h2,ht2⟩;have hx2:=ht2.box hx0 (Nat.ne_of_gt hrl) (fun e=>Nat.lt_irrefl _ (HL.out _ e))))
 generalize hst2:N.states=ns at *
 have hk2:Turned r V V2 w w2:=(Turned.below hB0).trans ht2
 have HF:Hid (∀ u,Later w2.drew u→gB u r qB (N.state 0) V2∧Box u w.heap.size (aC 3 s a n cap lo hi).toArray 115∧Turned r V V2 w u):=ah fun u hl =>
  ⟨(h2.kept (Below.refl _ _).drew).kept hl,hx2.drew.kept hl,(hk2.trans (Turned.below (Below.refl w2.heap.size w2).drew)).trans (Turned.below hl)⟩
 have hsz:=hk2.size
 clear h2 hx2 hk2 ht2
 refine jq (R:=Later) [12,16] (by kernel_rfl) ?_
 refine pl [0,1,2,3,4] ?_
 repeat
  refine oM ?_ rfl (fun w1=>?_) ?_
  rotate_left
  ·go_simp;try with_reducible rfl
  simp only[eA,eB,eC,Act.put,eD,eE,eF]
 refine bU ?_
 refine AY 5 ?_ rfl (fun w1 hl=>?_) ?_
 rotate_left
 ·obtain⟨hS,hX,_⟩:=HF.out w1 hl;have x0:=hX.cell 0;have x1:=hX.cell 1;have x2:=hX.cell 2;have x3:=hX.cell 3;have x4:=hX.cell 4;have y3:=hS.box.cell 3;go_simp;try with_reducible rfl
 simp only[eA,eB,eC,Act.put,eD,eE,eF]
 refine pl [6,7] ?_
 repeat
  refine oM ?_ rfl (fun w1=>?_) ?_
  rotate_left
  ·go_simp;try with_reducible rfl
  simp only[eA,eB,eC,Act.put,eD,eE,eF]
 refine bU ?_
 refine AY 8 ?_ rfl (fun w1 hl=>?_) ?_
 rotate_left
 ·obtain⟨hS,hX,_⟩:=HF.out w1 hl;have x0:=hX.cell 0;have x1:=hX.cell 1;have x2:=hX.cell 2;have x3:=hX.cell 3;have x4:=hX.cell 4;have y3:=hS.box.cell 3;go_simp;try with_reducible rfl
 simp only[eA,eB,eC,Act.put,eD,eE,eF]
 refine pl [9,10] ?_
 repeat
  refine oM ?_ rfl (fun w1=>?_) ?_
  rotate_left
  ·go_simp;try with_reducible rfl
  simp only[eA,eB,eC,Act.put,eD,eE,eF]
 refine bU ?_
 refine dw (T:=[12,16]) (i:=11) (by kernel_rfl) rfl (fun w1 hl K hK=>?_)
 go_simp
 refine hK.out _ _ (fun _=>aj _ _) ?_
 have hsl:=qL xJ w1 240 [(from',s,ns)] (by simp[maxLen])
 have hlA:Later _ (w1.alloc (.cells ([(from',s,ns)].flatMap fU).toArray 240)):=Later.trans _ _ _ hl (aj _ _)
 clear hK K hl
 refine dw (T:=[12,16]) (i:=12) (by kernel_rfl) rfl (fun w1 hl K hK=>?_)
 obtain⟨hS,_,hkp⟩:=HF.out w1 (Later.trans _ _ _ hlA hl)
 have hnw:=FB (hsl.kept hl)
 have hsw:qB≤w1.heap.size:=by have:=hkp.size;omega
 clear hsl hl hlA
 obtain⟨a0,c0,lZ⟩:=hS.ed.form
 have HVE:=ah lZ
 have hed:=hS.ed
 rw[lZ] at hed
 rw[lZ]
 clear lZ
 refine gu (by rfl) ?_
 refine pU _ _ 119 rfl O5 xJ rfl hed _ 1 (from',s,ns) rfl hnw (by simp[maxLen,Nf.state];omega) (by simp[Nf.state];omega) (by omega) ?_
 intro a' cap' w' hown' hg hfr
 refine hK.out _ _ (fun h=>absurd h (by decide)) ?_
 clear hK K hnw hed
 simp only[List.getElem_toArray,List.getElem_cons_zero,List.getElem_cons_succ,Act.put,List.setIfInBounds_toArray,List.set_cons_zero,List.set_cons_succ]
 have ES:w1.grownBy w' V2.e.ownBlock:=by rw[HVE.out];exact hg
 have hX0:=hS.box.grown hS.ed ES hS.lt
 refine pl [13,14,15] ?_
 repeat
  refine oM ?_ rfl (fun w1=>?_) ?_
  rotate_left
  ·go_simp;try with_reducible rfl
  simp only[eA,eB,eC,Act.put,eD,eE,eF]
 refine bU ?_
 refine dw (T:=[12,16]) (i:=16) (by kernel_rfl) rfl (fun w1 hl K hK=>?_)
 have hx:=hX0.kept hl
 have x0:=hx.cell 3
 have f0:=hx.free 3
 go_simp
 refine hK.out _ _ (fun h=>absurd h (by decide)) ?_
 clear hK K x0 f0
 have Dh:=hS.amf (x:=(from',s,ns)) hown' ES hl
 have hKN:=((hkp.trans (Turned.grown (V':=⟨V2.l,.slice a' ((N.state 0).edges.length+1) cap',V2.a⟩) V2.e (.slice a' ((N.state 0).edges.length+1) cap') (fun g hg=>.inr (.inl hg)) ES (by rw[HVE.out];exact hfr) (by
  rintro g (hg | hg | hg)
  ·exact .inl (.inl hg)
  ·exact .inr hg
  ·exact .inl (.inr (.inr hg))))).trans (Turned.below hl)).set 3 (.slice a' ((N.state 0).edges.length+1) cap')
 clear hl hx hX0 hS hg ES hown' hkp hfr
 refine kK (by kernel_rfl) (fun w1 hl=>?_) _
 have Dh:=Dh.kept hl
 have hKN:=hKN.trans (Turned.below hl)
 clear hl HF
 go_wp2
 go_ret
 exact⟨rfl,_,Dh,hKN⟩
end
section
open Go.RowKit
structure kJ(w:World)(r qB:Nat)(X:Vt):Prop where
 lies:Lies w X
 on:On (fun b=>b<qB∧b≠r) X
 all:allT X.tr=true
theorem Turned.heap{w w':World}{r qB:Nat}{N:Nf}{V V':Y3}(h:gB w r qB N V)(ht:Turned r V V' w w')(hb:qB≤w.heap.size)(b:Nat)(h1:b<qB)(h2:b≠r):w'.heap[b]?=w.heap[b]? :=
 ht.block b (by omega) h2 fun e=>by have:=(h.hasLt b e).1;omega
theorem kJ.kept{w w':World}{r qB:Nat}{N:Nf}{V V':Y3}{X:Vt}(hX:kJ w r qB X)(h:gB w r qB N V)(ht:Turned r V V' w w')(hb:qB≤w.heap.size):kJ w' r qB X :=
 ⟨hX.lies.eH hX.on fun b hb'=>ht.heap h hb b hb'.1 hb'.2,hX.on,hX.all⟩
theorem kJ.fC{w w':World}{r qB:Nat}{X:Vt}(hX:kJ w r qB X)(hb:Below w.heap.size w w'):kJ w' r qB X:=⟨hX.lies.kept hb,hX.on,hX.all⟩
theorem kJ.kid{w:World}{r qB:Nat}{k:Int}{s:au}{a:Option Addr}{cap:Nat}{kids:List Vt}{lo hi:Int}(h:kJ w r qB (.mk k s a cap kids lo hi))(i:Nat)(hi':i<kids.length):kJ w r qB kids[i]:=by
 obtain⟨_,_,_,_,hk⟩:=h.lies.open
 refine⟨hk i hi',?_,?_⟩
 ·have:=h.on;cases this with | mk _ _ _ _ _ _ _ g1 g2=>exact g2 i hi'
 ·have:=h.all
  rw[Vt.jJ,allT,Bool.and_eq_true] at this
  have h2:=FN _ this.2 i (by simpa using hi')
  rwa[List.getElem_map] at h2
def GY(fn:Nat)(r qB:Nat)(X:Vt):Prop:=∀ (N:Nf) (V:Y3) (f:Nat) (w:World),gB w r qB N V→kJ w r qB X→qB≤w.heap.size→(bD X.tr (N,f)).1.small →
 Calls Tryz.prog fn #[.pointer (some ⟨r,0,none⟩),.agg X.cells.toArray,.int .i64 f] w (Qg r qB V (bD X.tr (N,f)).1 w (.int .i64 (bD X.tr (N,f)).2))
abbrev Ey(r qB:Nat)(X:Vt):Prop:=GY 106 r qB X
theorem Tq(s:au)(kids:List Tr)(lo hi:Int)(z:Nf×Nat):bD (.mk 4 s kids lo hi) z=jR kids z:=by
 obtain⟨y,f⟩:=z
 rw[bD,if_pos rfl]
theorem ahW(r qB:Nat)(s:au)(a:Option Addr)(cap:Nat)(kids:List Vt)(lo hi:Int)(ih:∀ i (h:i<kids.length),Ey r qB kids[i]):GY 146 r qB (.mk 4 s a cap kids lo hi):=by
 intro N V f w h hT hb hsm
 rw[Vt.jJ,Tq] at hsm ⊢
 obtain⟨_,_,_,hs,hkids⟩:=hT.lies.open
 have hB0:=aj w (.cells (aC 4 s a kids.length cap lo hi).toArray 115)
 have h0:=h.kept hB0
 have hnc:kids.length≤cap:=by obtain⟨_,_,c1,_⟩:=hs.kids;exact c1
 clear hkids hs
 have hz:=Qz (kids.map Vt.tr)
 obtain⟨Z,hZ⟩:∃ Z:Nat→Nf×Nat,∀ k,Z k=jR ((kids.map Vt.tr).take k) (N,f):=⟨_,fun _=>rfl⟩
 have hZs:∀ k (hk:k<kids.length),Z (k+1)=bD kids[k].tr (Z k):=fun k hk=>by
  rw[hZ,hZ,YN _ _ (by simpa using hk),List.getElem_map]
 have wV:Z 0=(N,f):=by rw[hZ,List.take_zero,jR]
 have Me:Z kids.length=jR (kids.map Vt.tr) (N,f):=by rw[hZ,List.take_of_length_le (by simp)]
 have GZ:∀ k,(Z k).1.small:=fun k=>by rw[hZ];exact(hz k _).small hsm
 have hrl:=h.box.lt
 rw[←Me]
 obtain⟨n,hn⟩:∃ n,kids.length=n:=⟨_,rfl⟩
 have HN:=ah hn
 show Calls Tryz.prog 146 #[.pointer (some ⟨r,0,none⟩),.agg (aC 4 s a kids.length cap lo hi).toArray,.int .i64 f] w _
 rw[hn] at hnc hB0 h0 ⊢
 have HI:=ah ih;have O7:=ah hZs;have HZ0:=ah wV;have O8:=ah GZ;have HT:=ah hT;have HH:=ah h;have HB0:=ah hB0;have H0:=ah h0
 clear hsm hz hZ hZs wV Me GZ ih hT hB0 hn h h0
 go_enter Tryz.func146,Tryz.ntmps146
 go_wp2
 go_loopw [2,12] (fun v i wr=>∃ (k:Nat) (V':Y3),k≤n∧i=.int .i64 k∧v=.int .i64 (Z k).2∧gB wr r qB (Z k).1 V'∧Turned r V V' w wr) (fun _ i _=>n - (intOf i).toNat)
 case atStart=>exact⟨0,V,Nat.zero_le _,rfl,by rw[HZ0.out],by rw[HZ0.out];exact H0.out,Turned.below HB0.out⟩
 case round =>
  obtain⟨k,V1,hk,rfl,rfl,h1,ht1⟩:=hrel
  by_cases hlt:k<n
  ·have hlk:k<kids.length:=by rw[HN.out];exact hlt
   have hTr:=HT.out.kept HH.out ht1 hb
   obtain⟨_,_,_,hsr,hkr⟩:=hTr.lies.open
   obtain⟨b,o,_,_,c3,_,c5⟩:=hsr.kids
   obtain rfl:=c3 k hlk
   have e1:=c5 k hlk wr (Below.refl _ _)
   have Tt:=hTr.kid k hlk
   have hcall:=HI.out k hlk
   have hzs:=O7.out k hlk
   generalize kids[k]=X at *
   obtain⟨k5,s5,a5,cp5,bY,bZ,hi5⟩:=X
   have hB1:=aj wr (.cells (aC k5 s5 a5 bY.length cp5 bZ hi5).toArray 115)
   have hsz1:=ht1.size
   have hcl:=hcall (Z k).1 V1 (Z k).2 _ (h1.kept hB1) (Tt.fC hB1) (by rw[World.size_alloc];omega) (by show(bD (Vt.mk k5 s5 a5 cp5 bY bZ hi5).tr (Z k)).1.small;rw[←hzs];exact O8.out _)
   rw[show((Z k).1,(Z k).2)=Z k from rfl,←hzs] at hcl
   obtain⟨x0,x1,x2,x3,x4,x5,x6,x7⟩:=qP e1
   have hbl:=World.block_lt_of_cell? wr _ x0
   have qX:=ah hcl
   clear hcl hzs hcall Tt c5 c3 hsr hkr hTr e1
   have hki:(k:Int)<(n:Int):=by omega
   have hk0:(0:Int)≤(k:Int):=by omega
   have HT1:=ah (ht1.trans (Turned.below hB1))
   clear ht1 h1 hB1
   go_wp2_with (go_at_call 106;go_must (refine qX.out.mono ?_;rintro e w2 ⟨rfl,V2,h2,ht2⟩))
   exact⟨⟨k+1,V2,hlt,by push_cast;rfl,rfl,h2,HT1.out.trans ht2⟩,by simp[intOf];omega⟩
  ·obtain rfl:k=n:=by omega
   go_wp2
   go_ret
   exact⟨rfl,_,h1,ht1⟩
end
section
open Go.RowKit
theorem yJ(p:Bool)(s:au)(x:Tr)(lo hi:Int)(z:Nf×Nat):bD (.mk (if p then 7 else 6) s [x] lo hi) z=su p (bD x) z:=by
 obtain⟨y,f⟩:=z
 cases p <;> (simp only[bD,nJ];simp[su];try (constructor <;> rfl))
theorem Tv(s:au)(x:Tr)(lo hi:Int)(y:Nf)(f:Nat):bD (.mk 8 s [x] lo hi) (y,f)=(((((bD x (y,f)).1.state 0).link (bD x (y,f)).2 (bD x (y,f)).1.states).link f (bD x (y,f)).1.states),(bD x (y,f)).1.states):=by
 rw[bD,if_neg (by decide),if_neg (by decide),if_neg (by decide),if_pos rfl,nJ]
theorem kJ.one{w:World}{r qB:Nat}{k:Int}{s:au}{a:Option Addr}{cap:Nat}{kids:List Vt}{lo hi:Int}(h:kJ w r qB (.mk k s a cap kids lo hi))(hk:k=6∨k=7∨k=8∨k=9):∃ X,kids=[X]:=by
 have:=h.all
 rw[Vt.jJ,allT,Bool.and_eq_true] at this
 have h1:=this.1
 unfold dV at h1
 have hl:kids.length=1:=by
  rcases hk with rfl | rfl | rfl | rfl <;> · simp[iH] at h1;exact h1.2
 match kids,hl with
 | [X],_=>exact⟨X,rfl⟩
theorem kJ.X8{w:World}{r qB:Nat}{k:Int}{s:au}{a:Option Addr}{cap:Nat}{X:Vt}{lo hi:Int}(h:kJ w r qB (.mk k s a cap [X] lo hi)) :
  ∃ b o,a=some ⟨b,o,none⟩∧1≤cap∧(∀ j u,X.cells[j]?=some u→w.cell? ⟨b,o+j,none⟩=some u)∧kJ w r qB X:=by
 obtain⟨_,_,_,hs,_⟩:=h.lies.open
 obtain⟨b,o,c1,_,c3,_,c5⟩:=hs.kids
 refine⟨b,o,c3 0 (Nat.zero_lt_one),c1,fun j u hu=>?_,h.kid 0 Nat.zero_lt_one⟩
 have:=c5 0 Nat.zero_lt_one w (Below.refl _ _) j u hu
 rwa[Nat.zero_mul,Nat.add_zero] at this
theorem VW(r qB:Nat)(p:Bool)(s:au)(a:Option Addr)(cap:Nat)(X:Vt)(lo hi:Int)(ih:Ey r qB X):GY 148 r qB (.mk (if p then 7 else 6) s a cap [X] lo hi):=by
 intro N V f w h hT hb hsm
 rw[Vt.jJ,List.map_singleton,yJ] at hsm ⊢
 obtain⟨k,hk⟩:∃ k:Int,(if p then 7 else 6:Int)=k:=⟨_,rfl⟩
 rw[hk] at hT ⊢
 have hB0:=aj w (.cells (aC k s a 1 cap lo hi).toArray 115)
 have h0:=h.kept hB0
 have hx0:=Box.new w (aC k s a 1 cap lo hi).toArray 115
 have hlt0:∀ g,V.has g→g<w.heap.size:=fun g hg=>(h.hasLt g hg).2
 have hrl:=h.box.lt
 have hTB:=hT.fC hB0
 have hW0:(w.alloc (.cells (aC k s a 1 cap lo hi).toArray 115)).heap.size=w.heap.size+1:=World.size_alloc _ _
 have O1:¬ V.has w.heap.size:=fun e=>Nat.lt_irrefl _ (hlt0 _ e)
 show Calls Tryz.prog 148 #[.pointer (some ⟨r,0,none⟩),.agg (aC k s a 1 cap lo hi).toArray,.int .i64 f] w _
 generalize hW:w.alloc (.cells (aC k s a 1 cap lo hi).toArray 115)=W0 at *
 have hKB:Turned r V V w W0:=Turned.below hB0
 obtain⟨R,hR⟩:∃ R:Nf×Nat,su p (bD X.tr) (N,f)=R:=⟨_,rfl⟩
 rw[hR] at hsm ⊢
 unfold su at hR
 dsimp only at hR
 obtain⟨Q,hQ⟩:∃ Q:Nf×Nat,bD X.tr ((N.state 0).link f N.states,N.states)=Q:=⟨_,rfl⟩
 rw[hQ] at hR
 have hR1:R.1=Q.1.link Q.2 N.states:=by rw[←hR]
 have hR2:R.2=if p then Q.2 else N.states:=by rw[←hR]
 rw[hR1] at hsm
 have vY:Q.1.small:=(Nf.iR _ _ _).small hsm
 have vZ:((N.state 0).link f N.states).small:=by rw[←hQ] at vY;exact(oq X.tr ((N.state 0).link f N.states,N.states)).small vY
 have adn:N.small:=((Nf.iM N 0).trans (Nf.iR _ f N.states)).small vZ
 have hs1:=rH r qB 0 N V W0 h0 (by omega) adn.2.2
 have HS1:=ah hs1;have wW:=ah (And.intro hsm (And.intro vZ (And.intro vY adn)));have HI:=ah ih;have HTB:=ah hTB;have H0:=ah h0;have HKB:=ah hKB
 have HW:=ah hW;have HR:=ah (And.intro hR1 hR2);have HQ:=ah hQ;have HK:=ah hk
 clear hs1 hsm vZ vY adn ih hTB h0 hlt0 h hT hKB hB0 hQ hR hR1 hR2 hk
 clear hW
 go_enter Tryz.func148,Tryz.ntmps148
 go_wp2_with fail
 rw[HW.out]
 refine HS1.out.mono ?_
 rintro e w1 ⟨rfl,V1,h1,hA1⟩
 have hz1:=hA1.size
 generalize hns:N.states=ns at *
 clear hns
 go_wp2_with fail
 refine(uZ r qB f ns (N.state 0) V1 w1 h1 (by omega) wW.out.2.2.2.1).mono ?_
 rintro e w2 ⟨rfl,V2,h2,ht2⟩
 have hA2:=hA1.trans ht2
 have hz2:=hA2.size
 clear hA1 ht2 h1
 have hx2:=hA2.box hx0 (Nat.ne_of_gt hrl) O1
 have hT2:=HTB.out.kept H0.out hA2 (by omega)
 obtain⟨b,o,rfl,hcap,hc2,hX2⟩:=hT2.X8
 have hla:=HI.out ((N.state 0).link f ns) V2 ns w2 h2 hX2 (by omega) (by rw[HQ.out];exact wW.out.2.2.1)
 rw[HQ.out] at hla
 obtain⟨k5,s5,a5,cp5,bY,bZ,hi5⟩:=X
 obtain⟨x0,x1,x2,x3,x4,x5,x6,x7⟩:=qP hc2
 have z5:w2.cell? ⟨w.heap.size,5,none⟩=some (.slice (some ⟨b,o,none⟩) 1 cap):=hx2.cell 5
 have G5:=ah hla
 clear hla hc2 hX2 hT2 hx2
 go_wp2_with (go_at_call 106;go_must (refine G5.out.mono ?_;rintro e w3 ⟨rfl,V3,h3,ht3⟩))
 have hA3:=hA2.trans ht3
 have hz3:=hA3.size
 clear hA2 ht3 G5 x0 x1 x2 x3 x4 x5 x6 x7 z5
 refine(uZ r qB Q.2 ns Q.1 V3 w3 h3 (by omega) wW.out.2.2.1.1).mono ?_
 rintro e w4 ⟨rfl,V4,h4,wU⟩
 have ET:=hA3.trans wU
 clear hA3 wU
 have hx4:=ET.box hx0 (Nat.ne_of_gt hrl) O1
 have z0:w4.cell? ⟨w.heap.size,0,none⟩=some (.int .i64 k):=hx4.cell 0
 have hfin:gB w4 r qB R.1 V4:=by rw[HR.out.1];exact h4
 have hk:=HK.out
 cases p
 ·rw[if_neg (by decide)] at hk
  subst hk
  go_wp2
  go_ret
  refine⟨?_,_,hfin,HKB.out.trans ET⟩
  have hans:R.2=ns:=HR.out.2
  rw[hans];rfl
 ·rw[if_pos rfl] at hk
  subst hk
  go_wp2
  go_ret
  refine⟨?_,_,hfin,HKB.out.trans ET⟩
  have hans:R.2=Q.2:=HR.out.2
  rw[hans];rfl
end
section
open Go.RowKit
theorem ahX(r qB:Nat)(s:au)(a:Option Addr)(cap:Nat)(X:Vt)(lo hi:Int)(ih:Ey r qB X):GY 149 r qB (.mk 8 s a cap [X] lo hi):=by
 intro N V f w h hT hb hsm
 rw[Vt.jJ,List.map_singleton,Tv] at hsm ⊢
 have hB0:=aj w (.cells (aC 8 s a 1 cap lo hi).toArray 115)
 have h0:=h.kept hB0
 have hx0:=Box.new w (aC 8 s a 1 cap lo hi).toArray 115
 have hlt0:∀ g,V.has g→g<w.heap.size:=fun g hg=>(h.hasLt g hg).2
 have hrl:=h.box.lt
 have hTB:=hT.fC hB0
 have hW0:(w.alloc (.cells (aC 8 s a 1 cap lo hi).toArray 115)).heap.size=w.heap.size+1:=World.size_alloc _ _
 show Calls Tryz.prog 149 #[.pointer (some ⟨r,0,none⟩),.agg (aC 8 s a 1 cap lo hi).toArray,.int .i64 f] w _
 have hKB:=Turned.below (r:=r) (V:=V) hB0
 obtain⟨Q,hQ⟩:∃ Q:Nf×Nat,bD X.tr (N,f)=Q:=⟨_,rfl⟩
 rw[hQ] at hsm ⊢
 dsimp only at hsm ⊢
 have ado:((Q.1.state 0).link Q.2 Q.1.states).small:=(Nf.iR _ _ _).small hsm
 have vY:(Q.1.state 0).small:=(Nf.iR _ _ _).small ado
 have vZ:Q.1.small:=(Nf.iM _ _).small vY
 obtain⟨b,o,rfl,hcap,hc2,hX2⟩:=hT.X8
 have hla:=ih N V f _ h0 (hX2.fC hB0) (by omega) (by rw[hQ];exact vZ)
 rw[hQ] at hla
 obtain⟨k5,s5,a5,cp5,bY,bZ,hi5⟩:=X
 obtain⟨x0,x1,x2,x3,x4,x5,x6,x7⟩:=qP hc2
 have hbl:=World.block_lt_of_cell? w _ x0
 have G5:=ah hla;have wW:=ah (And.intro vZ (And.intro vY (And.intro ado hsm)));have HKB:=ah hKB
 have hbs:qB≤w.heap.size:=hb
 clear hla hc2 hX2 hsm vZ vY ado ih hTB h0 hlt0 h hT hKB hB0 hQ hb
 go_enter Tryz.func149,Tryz.ntmps149
 go_wp2_with (go_at_call 106;go_must (refine G5.out.mono ?_;rintro e w1 ⟨rfl,V1,h1,hA1⟩))
 generalize w.alloc (.cells (aC 8 s (some ⟨b,o,none⟩) 1 cap lo hi).toArray 115)=W0 at *
 have hz1:=hA1.size
 clear x0 x1 x2 x3 x4 x5 x6 x7 G5 hbl
 refine(rH r qB 0 Q.1 V1 w1 h1 (by omega) wW.out.1.2.2).mono ?_
 rintro e w2 ⟨rfl,V2,h2,ht2⟩
 have hA2:=hA1.trans ht2
 have hz2:=hA2.size
 clear hA1 ht2 h1 hz1
 generalize hns:Q.1.states=ns at *
 clear hns
 go_wp2_with fail
 refine(uZ r qB Q.2 ns (Q.1.state 0) V2 w2 h2 (by omega) wW.out.2.1.1).mono ?_
 rintro e w3 ⟨rfl,V3,h3,ht3⟩
 have hA3:=hA2.trans ht3
 have hz3:=hA3.size
 clear hA2 ht3 h2 hz2
 go_wp2_with fail
 refine(uZ r qB f ns ((Q.1.state 0).link Q.2 ns) V3 w3 h3 (by omega) wW.out.2.2.1.1).mono ?_
 rintro e w4 ⟨rfl,V4,h4,wU⟩
 have ET:=hA3.trans wU
 clear hA3 wU h3 hz3
 go_wp2
 go_ret
 exact⟨rfl,_,h4,HKB.out.trans ET⟩
end
section
open Go.RowKit
structure rJ(m:Nat)(w:World)(V:Y3)(v:Value)(l:List Nat):Prop where
 own:Own w m 3 1 aO v l
 oN:∀ g,v.ownBlock=some g→¬ V.has g
theorem rJ.turned{m r:Nat}{w w':World}{V V':Y3}{v:Value}{l:List Nat}(h:rJ m w V v l)(ht:Turned r V V' w w')(hr:r<m):rJ m w' V' v l:=by
 refine⟨h.own.fC fun g hg=>?_,fun g hg e=>?_⟩
 ·have:=h.own.lQ g hg
  exact ht.block g this.2 (by omega) (h.oN g hg)
 ·rcases ht.new g e with h1 | h1
  ·exact h.oN g hg h1
  ·have:=(h.own.lQ g hg).2;omega
theorem rJ.fC{m:Nat}{w w':World}{V:Y3}{v:Value}{l:List Nat}(h:rJ m w V v l)(hb:Below w.heap.size w w'):rJ m w' V v l:=⟨h.own.kept hb,h.oN⟩
theorem gB.F7{w w':World}{r qB:Nat}{N:Nf}{V:Y3}{row:Option Nat}(h:gB w r qB N V)(hg:w.grownBy w' row)(hr:row≠some r)(hv:∀ g,row=some g→¬ V.has g):gB w' r qB N V :=
 ⟨(hg.block r h.box.lt fun e=>hr e.symm).trans h.box,h.li.Hz hg fun k h1 h2=>hv k h2 (.inl h1),h.ed.Hz hg fun k h1 h2=>hv k h2 (.inr (.inl h1)),h.ac.Hz hg fun k h1 h2=>hv k h2 (.inr (.inr h1)),h.lt,h.st⟩
theorem Turned.F7{w0 w w':World}{r:Nat}{V V':Y3}{row:Option Nat}(h:Turned r V V' w0 w)(hg:w.grownBy w' row)(hn:∀ g,row=some g→w0.heap.size≤g):Turned r V V' w0 w' :=
 ⟨hg.os.trans h.os,hg.tape.trans h.tape,hg.output.trans h.output,Nat.le_trans h.size hg.size,fun b hb h1 h2=>(hg.block b (Nat.lt_of_lt_of_le hb h.size) fun e=>by have:=hn b e.symm;omega).trans (h.block b hb h1 h2),h.new⟩
theorem rJ.snoc{m:Nat}{w w':World}{V:Y3}{v:Value}{l:List Nat}{x r qB:Nat}{N:Nf}{a':Option Addr}{cap':Nat}(h:rJ m w V v l)(hL:gB w r qB N V)(ho:Own w' m 3 1 aO (.slice a' (l.length+1) cap') (l++[x]))
  (hf:(Value.slice a' (l.length+1) cap').ownBlock=v.ownBlock∨(Value.slice a' (l.length+1) cap').ownBlock=some w.heap.size):rJ m w' V (.slice a' (l.length+1) cap') (l++[x]):=by
 refine⟨ho,fun g hg e=>?_⟩
 rcases hf with hf | hf
 ·exact h.oN g (hf▸hg) e
 ·rw[hf] at hg;cases hg;have:=(hL.hasLt _ e).2;omega
theorem Tz(s:au)(kids:List Tr)(lo hi:Int)(y:Nf)(f:Nat):bD (.mk 5 s kids lo hi) (y,f)=((fK kids y f []).2.foldl (fun z e=>z.link e (fK kids y f []).1.states) ((fK kids y f []).1.state 0),(fK kids y f []).1.states):=by
 rw[bD,if_neg (by decide),if_pos rfl]
theorem ahY(r qB:Nat)(s:au)(a:Option Addr)(cap:Nat)(kids:List Vt)(lo hi:Int)(hkl:kids.length≤1099511627776)(ih:∀ i (h:i<kids.length),Ey r qB kids[i]):GY 147 r qB (.mk 5 s a cap kids lo hi):=by
 intro N V f w h hT hb hsm
 rw[Vt.jJ,Tz] at hsm ⊢
 obtain⟨_,_,_,hs,hkids⟩:=hT.lies.open
 have hB0:=aj w (.cells (aC 5 s a kids.length cap lo hi).toArray 115)
 have h0:=h.kept hB0
 have hnc:kids.length≤cap:=by obtain⟨_,_,c1,_⟩:=hs.kids;exact c1
 clear hkids hs
 obtain⟨Z,hZ⟩:∃ Z:Nat→Nf×List Nat,∀ k,Z k=fK ((kids.map Vt.tr).take k) N f []:=⟨_,fun _=>rfl⟩
 have hZs:∀ k (hk:k<kids.length),Z (k+1)=((bD kids[k].tr ((Z k).1,f)).1,(Z k).2++[(bD kids[k].tr ((Z k).1,f)).2]):=fun k hk=>by
  rw[hZ,hZ,YO _ _ (by simpa using hk),List.getElem_map]
 have wV:Z 0=(N,[]):=by rw[hZ,List.take_zero,fK]
 have Me:Z kids.length=fK (kids.map Vt.tr) N f []:=by rw[hZ,List.take_of_length_le (by simp)]
 have hZl:∀ k,k≤kids.length→(Z k).2.length=k:=fun k hk=>by rw[hZ,Jh,List.length_take,List.length_map,Nat.min_eq_left hk];simp
 rw[←Me] at hsm ⊢
 dsimp only at hsm ⊢
 have X9:((Z kids.length).1.state 0).small:=(Jg _ _ _).small hsm
 have GZ:∀ k,(Z k).1.small:=fun k=>by
  have h1:(fK (kids.map Vt.tr) N f []).1.small:=by rw[←Me];exact(Nf.iM _ _).small X9
  rw[hZ];exact(QA _ k _ _ _).small h1
 have hrl:=h.box.lt
 obtain⟨n,hn⟩:∃ n,kids.length=n:=⟨_,rfl⟩
 have HN:=ah hn
 show Calls Tryz.prog 147 #[.pointer (some ⟨r,0,none⟩),.agg (aC 5 s a kids.length cap lo hi).toArray,.int .i64 f] w _
 rw[hn] at hnc hB0 h0 hsm X9 hkl hZl ⊢
 have hW0:(w.alloc (.cells (aC 5 s a n cap lo hi).toArray 115)).heap.size=w.heap.size+1:=World.size_alloc _ _
 obtain⟨R1,hR1⟩:∃ R1,(Z n).2.foldl (fun z e=>z.link e (Z n).1.states) ((Z n).1.state 0)=R1:=⟨_,rfl⟩
 obtain⟨ns,hR2⟩:∃ ns,(Z n).1.states=ns:=⟨_,rfl⟩
 rw[hR1] at hsm ⊢
 rw[hR2] at hR1 ⊢
 have HR:=ah (And.intro hR1 hR2)
 clear hR1 hR2
 have HI:=ah ih;have O7:=ah hZs;have HZ0:=ah wV;have O8:=ah GZ;have HT:=ah hT;have HH:=ah h;have HB0:=ah hB0;have H0:=ah h0;have HZL:=ah hZl;have wW:=ah (And.intro hsm X9)
 clear hsm hZ hZs wV Me GZ ih hT hB0 hn h h0 hZl X9
 go_enter Tryz.func147,Tryz.ntmps147
 go_wp2_with fail
 go_loopw [7,16] (fun v i wr=>∃ (k:Nat) (V':Y3),k≤n∧i=.int .i64 k∧gB wr r qB (Z k).1 V'∧rJ (w.heap.size+1) wr V' v (Z k).2∧Turned r V V' (w.alloc (.cells (aC 5 s a n cap lo hi).toArray 115)) wr) (fun _ i _=>n - (intOf i).toNat)
 case atStart=>exact⟨0,V,Nat.zero_le _,rfl,by rw[HZ0.out];exact H0.out,by rw[HZ0.out];exact⟨Own.nil _ _ _ _ _,fun g hg=>by simp[Value.ownBlock] at hg⟩,Turned.below (Below.refl _ _)⟩
 case round =>
  obtain⟨k,V1,hk,rfl,h1,hE,ht1⟩:=hrel
  by_cases hlt:k<n
  ·have hlk:k<kids.length:=by rw[HN.out];exact hlt
   have hTr:=(HT.out.fC HB0.out).kept H0.out ht1 (by omega)
   obtain⟨_,_,_,hsr,hkr⟩:=hTr.lies.open
   obtain⟨b,o,_,_,c3,_,c5⟩:=hsr.kids
   obtain rfl:=c3 k hlk
   have e1:=c5 k hlk wr (Below.refl _ _)
   have Tt:=hTr.kid k hlk
   have hcall:=HI.out k hlk
   have hzs:=O7.out k hlk
   have hzl:=HZL.out k hk
   obtain⟨av,cv,rfl⟩:=hE.own.form
   generalize kids[k]=X at *
   obtain⟨k5,s5,a5,cp5,bY,bZ,hi5⟩:=X
   have hB1:=aj wr (.cells (aC k5 s5 a5 bY.length cp5 bZ hi5).toArray 115)
   have hsz1:=ht1.size
   obtain⟨Q,hQ⟩:∃ Q,bD (Vt.mk k5 s5 a5 cp5 bY bZ hi5).tr ((Z k).1,f)=Q:=⟨_,rfl⟩
   rw[hQ] at hzs
   have hQs:Q.1.small:=by have:=O8.out (k+1);rw[hzs] at this;exact this
   have hcl:=hcall (Z k).1 V1 f _ (h1.kept hB1) (Tt.fC hB1) (by rw[World.size_alloc];omega) (by rw[hQ];exact hQs)
   rw[hQ] at hcl
   obtain⟨x0,x1,x2,x3,x4,x5,x6,x7⟩:=qP e1
   have hbl:=World.block_lt_of_cell? wr _ x0
   have qX:=ah hcl;have ah0:=ah hzs;have ah1:=ah hzl
   clear hcl hzs hcall Tt c5 c3 hsr hkr hTr e1 hQ hQs h1
   have hki:(k:Int)<(n:Int):=by omega
   have hk0:(0:Int)≤(k:Int):=by omega
   rw[hzl] at hE ⊢
   have hT1:=ht1.trans (Turned.below hB1)
   have hE1:=hE.fC hB1
   clear ht1 hB1 hzl hE
   generalize hZl:(Z k).2=zl at *
   clear hZl
   have ap6:zl.length≤1099511627776:=by rw[ah1.out];omega
   go_wp2_with (first | (go_at_call 106;go_must (refine qX.out.mono ?_;rintro e w2 ⟨rfl,V2,h2,ht2⟩;have hE2:=hE1.turned ht2 (by omega);have hA2:=hT1.trans ht2;have hB3:=aj w2 (.cells #[.int .i64 Q.2] 3);have TA:=hE2.fC hB3;have hz2:=hA2.size)) | (at_builtin;go_must (refine eP rfl _ _ 24 rfl F8 dN (by rw[←ah1.out];rfl) TA.own ⟨w2.heap.size,0,none⟩ 1 Q.2 rfl (dD w2 [.int .i64 Q.2] _) (by simp[maxLen];omega) (by omega) (by simp;omega) ?_;intro a7 c7 w7 iI dn ug)))
   have h3:=h2.kept hB3
   have hgE:∀ g,(Value.slice av k cv).ownBlock=some g→w.heap.size+1≤g∧¬ V2.has g:=fun g hg=>⟨(TA.own.lQ g hg).1,TA.oN g hg⟩
   have h4:=h3.F7 dn (fun e=>by have:=(hgE r e).1;omega) (fun g hg=>(hgE g hg).2)
   have hE4:=TA.snoc h3 iI ug
   have ET:=(hA2.trans (Turned.below hB3)).F7 dn (fun g hg=>by rw[hW0];exact(hgE g hg).1)
   exact⟨⟨k+1,V2,hlt,by push_cast;rfl,by rw[ah0.out];exact h4,by rw[ah0.out];exact hE4,ET⟩,by simp[intOf];omega⟩
  ·obtain rfl:k=n:=by omega
   have hzl:=HZL.out k hk
   obtain⟨av,cv,rfl⟩:=hE.own.form
   rw[hzl] at hE ⊢
   clear hzl
   have hsz1:=ht1.size
   go_wp2_with fail
   refine(rH r qB 0 (Z k).1 V1 wr h1 (by omega) (O8.out k).2.2).mono ?_
   rintro e w2 ⟨rfl,V2,h2,ht2⟩
   have hE2:=hE.turned ht2 (by omega)
   have hA2:=ht1.trans ht2
   clear ht1 ht2 h1 hE
   have HS:=ah (wW.out.1)
   rw[←HR.out.1] at HS
   have hRn:=HR.out.2
   have hR1:=HR.out.1
   rw[hRn]
   clear HR
   have HR:=ah hR1
   clear hRn hR1
   generalize ni:(Z k).1.state 0=N2 at *
   generalize hzl:(Z k).2=zl at *
   have ah2:zl.length=k:=by rw[←hzl];exact HZL.out k hk
   have HZN:=ah ah2
   clear ni hzl ah2 hlt
   have hk0:(k:Int)≤1099511627776:=by omega
   go_wp2_with fail
   go_loopw [32] (fun i wr=>∃ (j:Nat) (V':Y3),j≤k∧i=.int .i64 j∧gB wr r qB ((zl.take j).foldl (fun z e=>z.link e ns) N2) V'∧rJ (w.heap.size+1) wr V' (.slice av k cv) zl∧Turned r V V' (w.alloc (.cells (aC 5 s a k cap lo hi).toArray 115)) wr) (fun i _=>k - (intOf i).toNat)
   case atStart=>exact⟨0,V2,Nat.zero_le _,rfl,h2,hE2,hA2⟩
   case round =>
    obtain⟨j,V3,hj,rfl,h3,TA,hA3⟩:=hrel
    by_cases hlt:j<k
    ·have hlj:j<zl.length:=by rw[HZN.out];exact hlt
     have hz3:=hA3.size
     obtain⟨g,o,hkz,hcap,_,c3,c5⟩:=(TA.own.slice dN).open
     have hcap:k≤cv:=by rw[hkz];exact hcap
     clear hkz
     obtain rfl:=c3 j hlj
     have x0:wr.cell? ⟨g,o+j,none⟩=some (.int .i64 zl[j]):=by
      have:=c5 j hlj 0 _ rfl
      rwa[Nat.mul_one,Nat.add_zero] at this
     have hbl:=World.block_lt_of_cell? _ _ x0
     have hst:=List.take_succ_eq_append_getElem hlj
     generalize zl[j]=ej at *
     have hfo:(zl.take (j+1)).foldl (fun z e=>z.link e ns) N2=((zl.take j).foldl (fun z e=>z.link e ns) N2).link ej ns:=by rw[hst,List.foldl_append];rfl
     have ah3:(((zl.take j).foldl (fun z e=>z.link e ns) N2)).small:=by
      have h9:=HS.out
      rw[←List.take_append_drop j zl,List.foldl_append] at h9
      exact(Jg _ _ _).small h9
     have HFO:=ah hfo
     clear hst hfo c3 c5
     have hcl:=uZ r qB ej ns _ V3 _ h3 (by omega) ah3.1
     rw[←HFO.out] at hcl
     have qX:=ah hcl
     clear hcl ah3 h3
     have hji:(j:Int)<(k:Int):=by omega
     have hj0:(0:Int)≤(j:Int):=by omega
     go_wp2_with (go_at_call 107;go_must (refine qX.out.mono ?_;rintro e w5 ⟨rfl,V5,h5,ZR⟩))
     exact⟨⟨j+1,V5,hlt,by push_cast;rfl,h5,TA.turned ZR (by omega),hA3.trans ZR⟩,by simp[intOf];omega⟩
    ·obtain rfl:j=k:=by omega
     rw[List.take_of_length_le (by rw[HZN.out];exact Nat.le_refl _)] at h3
     go_wp2
     go_ret
     rw[HR.out] at h3
     exact⟨rfl,_,h3,(Turned.below HB0.out).trans hA3⟩
end
end Go.Proofs.YtengfapcaaacaaaGreatDoor
