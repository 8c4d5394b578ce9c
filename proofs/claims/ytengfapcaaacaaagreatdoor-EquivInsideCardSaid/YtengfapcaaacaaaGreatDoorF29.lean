/- The texts of E29, in few letters (mini.py). -/
import Derived.Test.YtengfapcaaacaaaGreatDoorF28
import Derived.Sort.OwnSortedInts
import Derived.Test.YtengfapcaaacaaaGreatDoorF20
set_option linter.unusedVariables false
set_option linter.unusedSimpArgs false
set_option maxRecDepth 20000
set_option maxHeartbeats 6400000
namespace Go.Proofs.YtengfapcaaacaaaGreatDoor
section
open Go.RowKit
theorem ahk(m st tb:Nat):((Tryz.zeroCells187.setIfInBounds 0 (Value.pointer (some ⟨m,0,none⟩))).setIfInBounds 1 (Value.int .i64 st)).setIfInBounds 259 (Value.pointer (some ⟨tb,0,none⟩))=dJ ⟨m,st,fun _=>0,.slice none 0 0,tb,.slice none 0 0,.slice none 0 0⟩:=by kernel_rfl
theorem Box.setMany{b E:Nat}:∀ (vs:List Value) (o:Nat) (w:World) (c:Array Value),Box w b c E→∃ c',Box (w.setCells b o vs) b c' E∧c'.size=c.size∧∀ i,c'[i]?=if o≤i∧i<o+vs.length∧i<c.size then vs[i - o]? else c[i]?
 | [],o,w,c,h=>⟨c,h,rfl,fun i=>by rw[if_neg];simp;omega⟩
 | v::vs,o,w,c,h=>by
  obtain⟨c',h1,h2,h3⟩:=Box.setMany vs (o+1) (w.setCell ⟨b,o,none⟩ v) _ (h.set o v)
  refine⟨c',h1,by rw[h2,Array.size_setIfInBounds],fun i=>?_⟩
  rw[h3,Array.size_setIfInBounds,Array.getElem?_setIfInBounds,List.length_cons]
  by_cases e:o=i
  ·subst e
   by_cases hc:o<c.size
   ·rw[if_neg (by omega),if_pos rfl,if_pos hc,if_pos (by omega)];simp
   ·rw[if_neg (by omega),if_pos rfl,if_neg hc,if_neg (by omega),Array.getElem?_eq_none (by omega)]
  ·by_cases h4:o+1≤i∧i<o+1+vs.length∧i<c.size
   ·rw[if_pos h4,if_pos (by omega)]
    obtain⟨d,rfl⟩:∃ d,i=o+1+d:=⟨i - (o+1),by omega⟩
    rw[show o+1+d - (o+1)=d by omega,show o+1+d - o=d+1 by omega,List.getElem?_cons_succ]
   ·rw[if_neg h4,if_neg e,if_neg (by omega)]
theorem Dj{b:Nat}:∀ (vs:List Value) (o:Nat) (w:World),(∀ k,k≠b→(w.setCells b o vs).heap[k]?=w.heap[k]?)∧(w.setCells b o vs).heap.size=w.heap.size∧(w.setCells b o vs).os=w.os∧(w.setCells b o vs).tape=w.tape∧(w.setCells b o vs).output=w.output
 | [],o,w=>⟨fun _ _=>rfl,rfl,rfl,rfl,rfl⟩
 | v::vs,o,w=>by
  obtain⟨h1,h2,h3,h4,h5⟩:=Dj (b:=b) vs (o+1) (w.setCell ⟨b,o,none⟩ v)
  exact⟨fun k hk=>(h1 k hk).trans (heap_setCell_other w ⟨b,o,none⟩ k v hk),h2.trans (World.size_setCell _ _ _),h3,h4,h5⟩
theorem Box.setOf{w:World}{b:Nat}{B:jE}{E:Nat}(h:Box w b (dJ B) E)(f:Nat→Nat):Box (w.setCells b 2 (aG f).toList) b (dJ { B with of:=f }) E:=by
 obtain⟨c',h1,h2,h3⟩:=Box.setMany (aG f).toList 2 w _ h
 have hl:(aG f).toList.length=256:=by rw[Array.length_toList,aU]
 rw[tV] at h2 h3
 rw[hl] at h3
 have e:c'=dJ { B with of:=f }:=by
  refine zq h2 ?_ ?_ ?_ ?_ ?_ ?_ ?_
  ·rw[h3,if_neg (by omega)];exact kQ B
  ·rw[h3,if_neg (by omega)];exact tY B
  ·intro i hi
   rw[h3,if_pos (by omega),show 2+i - 2=i by omega,Array.getElem?_toList,dG _ _ hi]
  ·rw[h3,if_neg (by omega)];exact uU B
  ·rw[h3,if_neg (by omega)];exact uV B
  ·rw[h3,if_neg (by omega)];exact kX B
  ·rw[h3,if_neg (by omega)];exact uX B
 rw[←e];exact h1
theorem Box.WX{w:World}{b:Nat}{B:jE}{E:Nat}(h:Box w b (dJ B) E):w.rangeAt b 2 (aG B.of).toList:=fun j v hv=>by
 have hj:j<256:=by have:=(List.getElem?_eq_some_iff.1 hv).1;rwa[Array.length_toList,aU] at this
 rw[h.cell,uT B j hj]
 rw[Array.getElem?_toList,dG _ _ hj] at hv
 exact hv
theorem Box.ahl{w:World}{b:Nat}{B:jE}{E:Nat}(h:Box w b (dJ B) E)(f:Nat→Nat):w.there b 2 (aG f).size:=fun j hj=>by
 rw[aU] at hj
 exact⟨by rw[h.cell,uT B j hj];rfl,h.free _⟩
theorem VF(B:jE)(v:Value):(dJ B).setIfInBounds 258 v=dJ { B with lo:=v }:=by
 refine zq (by rw[Array.size_setIfInBounds,tV]) ?_ ?_ ?_ ?_ ?_ ?_ ?_
 ·rw[fU _ _ _ _ (by decide),if_neg (by decide)];exact kQ B
 ·rw[fU _ _ _ _ (by decide),if_neg (by decide)];exact tY B
 ·intro i hi;rw[fU _ _ _ _ (by decide),if_neg (by omega)];exact uT B i hi
 ·rw[fU _ _ _ _ (by decide),if_pos rfl]
 ·rw[fU _ _ _ _ (by decide),if_neg (by decide)];exact uV B
 ·rw[fU _ _ _ _ (by decide),if_neg (by decide)];exact kX B
 ·rw[fU _ _ _ _ (by decide),if_neg (by decide)];exact uX B
def iJ(N:Nf):List Nat:=aC (aH (aY (aT (RL (N.edges.map (·.2.1)))))) 256
def Qy(N:Nf)(most:Nat)(w:World)(e:Ending)(w':World):Prop :=
 Below w.heap.size w w'∧match kD N most (iJ N) (most+1) 0 [gB N [0]] [] with
 | none=>e=.returned (.tuple #[.pointer none,.int .i64 7])
 | some (sets,next)=>∃ bp base inn mb B kv lb eb kl ke va,e=.returned (.tuple #[.pointer (some ⟨bp,0,none⟩),.int .i64 0])∧jT w' base inn bp mb B kv sets next∧dV w' inn B.lo dY (iJ N)∧B.of=aT (RL (N.edges.map (·.2.1)))∧B.st=N.states∧vP w' B.m lb eb kl ke va N∧w.heap.size≤base∧∀ b,inn b→w.heap.size≤b
theorem abU(N:Nf)(V:Y3)(most:Nat)(w:World)(h:sK w N V)(hw:N.wf)(h0:0<N.states)(hs:N.states≤65536)(hl:N.links.length≤1099511627776)(he:N.edges.length≤65536)(hm1:1≤most)(hm2:most≤65536)(hT:Tab w) :
  Calls Tryz.prog 109 #[.agg (dL N V),.int .i64 most] w (Qy N most w):=by
 obtain⟨vl,ve,va⟩:=V
 obtain⟨la,lc,hvl⟩:=h.li.form
 obtain⟨ea,ec,mP⟩:=h.ed.form
 obtain⟨aa,ac,hva⟩:=h.ac.form
 dsimp only at hvl mP hva
 subst hvl
 subst mP
 subst hva
 have hB0:=aj w (.cells (dL N ⟨.slice la N.links.length lc,.slice ea N.edges.length ec,.slice aa N.accept.length ac⟩) 121)
 have hx0:Box (w.alloc (.cells (dL N ⟨.slice la N.links.length lc,.slice ea N.edges.length ec,.slice aa N.accept.length ac⟩) 121)) w.heap.size #[.int .i64 N.states,.int .i64 0,.slice la N.links.length lc,.slice ea N.edges.length ec,.slice aa N.accept.length ac] 121:=Box.new w _ _
 have hnew:=fun(u:World) (hu:Below w.heap.size w u)=>aja N ⟨.slice la N.links.length lc,.slice ea N.edges.length ec,.slice aa N.accept.length ac⟩ u (h.kept hu) hw h0 hs hl he
 unfold dL at hB0 hnew hx0 ⊢
 dsimp only at hB0 hnew hx0 ⊢
 obtain⟨W0,hW0⟩:∃ W0,w.alloc (.cells #[.int .i64 N.states,.int .i64 0,.slice la N.links.length lc,.slice ea N.edges.length ec,.slice aa N.accept.length ac] 121)=W0:=⟨_,rfl⟩
 rw[hW0] at hB0 hx0
 have HW0:=ah hW0;have HB0:=ah hB0;have HX0:=ah hx0;have tu:=ah hnew;have mX:=ah h;have HT:=ah hT
 have as1:decide ((most:Int)<1)=false:=decide_eq_false (by omega)
 have as2:decide ((65536:Int)<(most:Int))=false:=decide_eq_false (by omega)
 clear hW0 hB0 hx0 hnew h hT
 go_enter Tryz.func109,Tryz.ntmps109
 go_wp2_with (go_at_call 153;go_must (rw[HW0.out];refine(tu.out W0 HB0.out).mono ?_;rintro e wM ⟨m,lb,eb,kl,ke,va,rfl,hM1,hb1⟩;have OC:=ah hM1;clear hM1))
 have hBW:Below W0.heap.size W0 wM:=hb1
 have hB:Below W0.heap.size W0 wM.drew:=hBW.trans ((Below.refl wM.heap.size wM).drew.mono hBW.size)
 have HF:Hid (∀ u,Later wM.drew u→Box u w.heap.size #[.int .i64 N.states,.int .i64 0,.slice la N.links.length lc,.slice ea N.edges.length ec,.slice aa N.accept.length ac] 121∧Below wM.heap.size wM u∧Below W0.heap.size W0 u):=ah fun u hl =>
  ⟨HX0.out.kept (hB.trans (hl.mono hB.size)),(Below.refl wM.heap.size wM).drew.trans hl,hB.trans (hl.mono hB.size)⟩
 clear hBW hb1 hB
 refine aO (R:=Later) 7 (by kernel_rfl) ?_
 refine pl [0,1,2] ?_
 repeat
  refine dR ?_ rfl (fun w1 hl=>?_) ?_
  rotate_left
  ·have hx:=(HF.out w1 hl).1;have x0:=hx.cell 0;go_simp;try with_reducible rfl
  simp only[eA,eB,eC,Act.put,eD,eE,eF]
 refine bV ?_
 refine bg (t:=7) (i:=3) (by kernel_rfl) rfl (fun w1 hl K hK=>?_)
 obtain⟨hX,hM,hBw⟩:=HF.out w1 hl
 have hin:=Yx w1
 clear hl
 go_simp
 refine hin.mono ?_
 rintro e w5 ⟨rfl,uS,hs5,hb5⟩
 refine hK.out _ _ (fun _=>hb5) ?_
 clear hK K hin
 have rY:=hX.kept hb5
 have WY:=hM.trans (hb5.mono hM.size)
 have hNs:=hM.size
 have vY:=hBw.trans (hb5.mono hBw.size)
 have as3:=hBw.size
 clear hX hM hBw hb5
 generalize w1.heap.size=tb0 at *
 refine jF 4 ?_ rfl (fun w1 hl=>?_) ?_
 rotate_left
 ·skip;go_simp;try with_reducible rfl
 simp only[eA,eB,eC,Act.put,eD,eE,eF]
 refine bg (t:=7) (i:=5) (by kernel_rfl) rfl (fun w1 hl K hK=>?_)
 have oZ:=rY.kept hl
 have Ue:=WY.trans (hl.mono WY.size)
 have Dc:=uS.kept hl
 have aeA:=vY.trans (hl.mono vY.size)
 have ao6:=hl.size
 clear hl rY WY uS vY
 go_simp
 simp only[ahk]
 refine hK.out _ _ (fun _=>aj _ _) ?_
 clear hK K
 have hbB:=Box.new w1 (dJ ⟨m,N.states,fun _=>0,.slice none 0 0,tb0+1,.slice none 0 0,.slice none 0 0⟩) 187
 have hb7:=aj w1 (.cells (dJ ⟨m,N.states,fun _=>0,.slice none 0 0,tb0+1,.slice none 0 0,.slice none 0 0⟩) 187)
 have tC:=oZ.kept hb7
 have EL:=Ue.trans (hb7.mono Ue.size)
 have hT7:=Dc.kept hb7
 have yQ:=aeA.trans (hb7.mono aeA.size)
 have ao7:tb0+2≤w1.heap.size:=by omega
 clear hb7 oZ Ue Dc aeA ao6 HF hs5
 generalize (w1.alloc (.cells (dJ ⟨m,N.states,fun _=>0,.slice none 0 0,tb0+1,.slice none 0 0,.slice none 0 0⟩) 187))=wq at *
 generalize w1.heap.size=bp at *
 refine jF 6 ?_ rfl (fun w1 hl=>?_) ?_
 rotate_left
 ·skip;go_simp;try with_reducible rfl
 simp only[eA,eB,eC,Act.put,eD,eE,eF]
 refine aV (by kernel_rfl) (fun w1 hl=>?_) _
 have yU:=tC.kept hl
 have hM8:=EL.trans (hl.mono EL.size)
 have BF:=hT7.kept hl
 have jZ:=hbB.kept hl
 have Ai:=yQ.trans (hl.mono yQ.size)
 have aez:=Ai.size
 have as4:=jZ.lt
 clear hl tC EL hT7 yQ hbB
 have z3:w1.cell? ⟨w.heap.size,3,none⟩=some (.slice ea N.edges.length ec):=yU.cell 3
 have aoF:=yU.lt
 obtain⟨ebk,eo,_,hec,ai6,hea,hex⟩:=mX.out.ed.open
 have hce:∀ (u:World) (k:Nat) (hk:k<N.edges.length),Below w.heap.size w u→(∀ j x,(gW N.edges[k])[j]?=some x→u.cell? ⟨ebk,eo+k*6+j,none⟩=some x):=fun u k hk hB j x hu=>by
  have e0:=hex k hk j x hu
  exact(hB.cell (World.block_lt_of_cell? w _ e0)).trans e0
 have ajE:=HB0.out.trans (Ai.mono HB0.out.size)
 have HX8:=ah yU;have HM8:=ah hM8;have HT8:=ah BF;have Me:=ah jZ;have Uf:=ah ajE;have La:=ah hce;have HEA:=ah hea
 clear yU hM8 BF jZ Ai ajE hce hea hex
 obtain⟨ne,hne⟩:∃ ne,N.edges.length=ne:=⟨_,rfl⟩
 have ajG:=ah hne
 rw[hne] at z3 hec he
 clear hne
 obtain⟨W2,hW2⟩:∃ W2,w1=W2:=⟨_,rfl⟩
 subst hW2
 go_wp2
 clear z3
 go_loopw [9,35] (fun v i wr=>∃ (k:Nat) (a:Option Addr) (q c:Nat),k≤ne∧i=.int .i64 k∧v=.slice a q c∧Own wr w1.heap.size 113 4 encS (.slice a q c) ((N.edges.take k).map (·.2.1))∧Below w1.heap.size w1 wr) (fun _ i _=>ne - (intOf i).toNat)
 case atStart=>exact⟨0,none,0,0,Nat.zero_le _,rfl,rfl,Own.nil _ _ _ _ _,Below.refl _ _⟩
 case round =>
  obtain⟨k,a,q,c,hk,rfl,rfl,hown,hB⟩:=hrel
  have hBr:=Uf.out.trans (hB.mono Uf.out.size)
  by_cases hlt:k<ne
  ·have hlk:k<N.edges.length:=by rw[ajG.out];exact hlt
   obtain rfl:=HEA.out k hlk
   have hcc:=La.out wr k hlk hBr
   have htk:(N.edges.take (k+1)).map (·.2.1)=(N.edges.take k).map (·.2.1)++[N.edges[k].2.1]:=by rw[List.take_succ_eq_append_getElem hlk,List.map_append];rfl
   have hlen:((N.edges.take k).map (·.2.1)).length≤k:=by rw[List.length_map];exact List.length_take_le _ _
   generalize N.edges[k]=x at *
   obtain⟨x0,st,x1⟩:=x
   dsimp only at htk
   obtain⟨e0,e1,e2,e3,e4,e5⟩:=xX (P:=fun j u=>wr.cell? ⟨ebk,eo+k*6+j,none⟩=some u) x0 st x1 hcc
   rw[Nat.add_zero] at e0
   clear hcc
   have hbl:=World.block_lt_of_cell? wr _ e0
   have hki:(k:Int)<(ne:Int):=by omega
   have hk0:(0:Int)≤(k:Int):=by omega
   generalize (N.edges.take k).map (·.2.1)=ys at *
   have AX:=ah htk
   clear htk
   have hB1:=aj wr (.cells #[.int .i64 x0,.int .u64 (word st 0:Nat),.int .u64 (word st 1:Nat),.int .u64 (word st 2:Nat),.int .u64 (word st 3:Nat),.int .i64 x1] 240)
   have hown1:=hown.kept hB1
   have NM:=hB.trans (hB1.mono hB.size)
   have hq:=hown.open.1
   have HQ:=ah hq
   clear hq
   go_wp2_with (at_builtin;go_must (refine dK rfl _ _ 190 rfl zJ nC rfl (hown1.alloc _) ⟨wr.heap.size+1,0,none⟩ 1 st rfl (by rw[←World.size_alloc wr (.cells #[.int .i64 x0,.int .u64 (word st 0:Nat),.int .u64 (word st 1:Nat),.int .u64 (word st 2:Nat),.int .u64 (word st 3:Nat),.int .i64 x1] 240)];exact bW _ (encS st) _) (by simp only[maxLen];omega) (by omega) (by have:=NM.size;simp only[World.size_alloc] at *;omega) ?_;intro a7 c7 w7 gJ dn))
   have hB4:=NM.alloc NM.size (.cells (encS st).toArray 113)
   exact⟨⟨k+1,a7,_,c7,hlt,by push_cast;rfl,rfl,by rw[AX.out];exact gJ,below_grown hB4 (hown1.alloc _) dn (Nat.le_refl _) hB4.size⟩,by simp[intOf];omega⟩
  ·obtain rfl:k=ne:=by omega
   rw[←ajG.out,List.take_length] at hown
   obtain⟨es,hes⟩:∃ es,N.edges.map (·.2.1)=es:=⟨_,rfl⟩
   rw[hes] at hown
   have hq:=hown.open.1
   subst hq
   have hpo:=acX a c es wr (hown.slice nC)
   have hpl:=fun(u:World) (hu:Tab u)=>zN (aT (RL es)) u hu
   obtain⟨f,hf⟩:∃ f,aT (RL es)=f:=⟨_,rfl⟩
   rw[hf] at hpo hpl
   obtain⟨wd,hwd⟩:∃ wd,iq (RL es)=wd:=⟨_,rfl⟩
   rw[hwd] at hpo
   have hlf:iJ N=aC (aH (aY f)) 256:=by rw[←hf,←hes];rfl
   rw[←hes] at hf
   have HPO:=ah hpo;have HPL:=ah hpl;have HFF:=ah hf;have HLF:=ah hlf
   clear hpo hpl hown hes hf hwd hlf
   go_wp2_with (fail)
   refine HPO.out.mono ?_
   rintro e w5 ⟨rfl,hb5⟩
   have bI:=hB.trans (hb5.mono hB.size)
   have Aj:=Me.out.kept bI
   have hth:=Aj.ahl f
   have NP:=Aj.setOf f
   obtain⟨n6,m6,o6,t6,q6⟩:=Dj (b:=bp) (aG f).toList 2 w5
   have HX6:=ah NP;have HN6:=ah n6;have PD:=ah m6;have HO6:=ah (And.intro o6 (And.intro t6 q6))
   clear NP n6 m6 o6 t6 q6 Aj
   go_wp2_with (refine wpList_store_mid rfl 22 (.tmp 52) (.tmp 49) rfl bp 2 (aG f) rfl rfl hth (aK _) (eu _) ?_;refine Stop.go ?_)
   refine Stop.gen ?_
   intro w6 hw6
   rw[←hw6] at HX6 HN6 PD HO6
   clear hw6 hth
   have fF:Below tb0 w1 w6:=by
    refine(bI.mono (by omega)).trans ⟨HO6.out.1,HO6.out.2.1,HO6.out.2.2,Nat.le_of_eq PD.out.symm,fun k hk=>HN6.out k (by omega)⟩
   have ajJ:Below w.heap.size w w6:=Uf.out.trans (fF.mono (by have:=Uf.out.size;have:=HB0.out.size;omega))
   have hrg:w6.rangeAt bp 2 (aG f).toList:=HX6.out.WX
   have Dc:=HT.out.kept ajJ
   have vO:=ah fF;have HT6:=ah Dc;have Mc:=ah bI;have ajK:=ah hb5
   clear fF Dc ajJ hb5 bI
   go_wp2_with (refine wpList_load_mid rfl 22 (.tmp 56) rfl bp 2 rfl (aG f).toList _ hrg Tryz.underlying22 rfl (by rw[Array.length_toList,aU];rfl) ?_;rw[Array.toArray_toList];clear hrg)
   have aeB:=HPL.out w6 HT6.out
   obtain⟨L,hL⟩:∃ L,aC (aH (aY f)) 256=L:=⟨_,rfl⟩
   have ajL:∀ x∈L,x<256:=by rw[←hL];exact jQ _ _
   have ao8:L.length≤256:=by rw[←hL];exact gU _ _
   rw[hL] at aeB HLF
   clear hL
   refine aeB.mono ?_
   clear HPL aeB
   rintro e w7 ⟨IJ,WZ,rfl,gJ,hb7⟩
   have hx7:=HX6.out.kept hb7
   have as5:=hx7.lt
   have as6:w7.cell? ⟨bp,258,none⟩=some (.slice none 0 0):=(hx7.cell 258).trans (uU _)
   have f258:=hx7.free 258
   obtain⟨w8,hw8⟩:∃ w8,w7.setCell ⟨bp,258,none⟩ (.slice IJ L.length WZ)=w8:=⟨_,rfl⟩
   have KR:=hx7.set 258 (.slice IJ L.length WZ)
   rw[VF,hw8] at KR
   have EM:=gJ.other (w:=w7) ⟨bp,258,none⟩ (.slice IJ L.length WZ) (by have:=PD.out;have:=ajK.out.size;have:=Mc.out.size;simp only;omega)
   rw[hw8] at EM
   have hs8:w8.heap.size=w7.heap.size:=by rw[←hw8];exact World.size_setCell _ _ _
   have hk8:∀ k,k≠bp→w8.heap[k]?=w7.heap[k]?:=fun k hk=>by rw[←hw8];exact heap_setCell_other w7 _ k _ hk
   have jZ:Below tb0 w7 w8:=by rw[←hw8];exact⟨rfl,rfl,rfl,Nat.le_of_eq (World.size_setCell _ _ _).symm,fun k hk=>heap_setCell_other w7 _ k _ (by simp only;omega)⟩
   have Ua:dV w8 (fun b=>∃ ad,IJ=some ad∧ad.block=b) (.slice IJ L.length WZ) dY L:=⟨EM.slice zA,fun ad n c h=>⟨ad,(Value.slice.inj h).1,rfl⟩⟩
   have NQ:∀ b,(∃ ad,IJ=some ad∧ad.block=b)→w6.heap.size≤b∧b<w8.heap.size:=by
    rintro b ⟨ad,rfl,rfl⟩
    exact EM.blk rfl
   have hs6:bp<w6.heap.size:=by have:=PD.out;have:=ajK.out.size;have:=Mc.out.size;omega
   have ajM:Below tb0 w6 w8:=(hb7.mono (by omega)).trans jZ
   have aeC:Below tb0 w1 w8:=vO.out.trans ajM
   have BF:TabAt w8 (tb0+1) tb0 (tb0+2) (.slice none 0 0) []:=by
    have uS:=HT8.out.kept Mc.out
    have hlo:=uS.box.lt
    have hq:∀ k,k≠bp→k<w5.heap.size→w8.heap[k]?=w5.heap[k]?:=fun k h1 h2=>(hk8 k h1).trans ((hb7.block k (by rw[PD.out];exact h2)).trans (HN6.out k h1))
    exact⟨(hq _ (by omega) hlo).trans uS.box,uS.mp.same (hq _ (by omega) uS.mp.lt),Own.nil _ _ _ _ _,uS.lt⟩
   have Ak:jT w8 w8.heap.size (fun b=>∃ ad,IJ=some ad∧ad.block=b) bp tb0 ⟨m,N.states,f,.slice IJ L.length WZ,tb0+1,.slice none 0 0,.slice none 0 0⟩ (.slice none 0 0) [] []:=by
    have h1:=KR.lt
    refine⟨KR,⟨BF.box,BF.mp,Own.nil _ _ _ _ _,BF.box.lt,BF.mp.lt,BF.lt.2.2⟩,⟨[],Own.nil _ _ _ _ _,rfl,fun i h1=>absurd h1 (Nat.not_lt_zero _)⟩,⟨[],Own.nil _ _ _ _ _,rfl,fun i h1=>absurd h1 (Nat.not_lt_zero _)⟩,fun x h=>absurd h (by simp),fun b hb=>(NQ b hb).2,⟨fun h=>?_,fun h=>?_,fun h=>?_⟩,fun g h=>absurd h (by simp[Value.ownBlock]),fun g h=>absurd h (by simp[Value.ownBlock]),fun g h=>absurd h (by simp[Value.ownBlock]),fun g h=>absurd h (by simp[Value.ownBlock]),⟨h1,?_,?_⟩,hs,Nat.le_refl _⟩
    ·have:=NQ _ h;omega
    ·have:=NQ _ h;simp only at this;omega
    ·have:=NQ _ h;omega
    ·simp only;omega
    ·omega
   have hMM:∀ u,Below tb0 w8 u→vP u m lb eb kl ke va N:=fun u hu=>OC.out.kept ((HM8.out.trans (aeC.mono hNs)).trans (hu.mono hNs))
   have hwt:w.heap.size≤tb0:=by have:=HB0.out.size;omega
   have Ai:Below w.heap.size w w8:=Uf.out.trans (aeC.mono hwt)
   have hTT:∀ u,Below tb0 w8 u→Tab u:=fun u hu=>HT.out.kept (Ai.trans (hu.mono hwt))
   have ao9:w.heap.size≤w8.heap.size:=by omega
   have hbu:=aem N lb eb kl ke va most L w8.heap.size tb0 bp tb0 ⟨m,N.states,f,.slice IJ L.length WZ,tb0+1,.slice none 0 0,.slice none 0 0⟩ (.slice none 0 0) (fun b=>∃ ad,IJ=some ad∧ad.block=b) w8 (hTT w8 (Below.refl _ _)) (hMM w8 (Below.refl _ _)) Ak Ua (fun b hb=>by have:=NQ b hb;omega) rfl h0 hm1 hm2 ao8 ajL (by have:=KR.lt;simp only;omega) hMM hTT
   have HBU:=ah hbu;have HW8:=ah hw8;have HBE:=ah Ai;have PE:=ah hMM
   clear hbu hw8 Ai hMM hTT Ak BF aeC ajM NQ Ua jZ hk8 EM KR gJ hb7 hx7 hs8 ajL
   go_wp2_with (fail)
   rw[HW8.out]
   refine HBU.out.mono ?_
   rintro e w9 ⟨mJ,Ug⟩
   have hbr:Below w.heap.size w w9:=HBE.out.trans (mJ.mono hwt)
   have hret:∀ e,(match kD N most (iJ N) (most+1) 0 [gB N [0]] [] with
     | none=>e=.returned (.tuple #[.pointer none,.int .i64 7])
     | some (sets,next)=>∃ bp base inn mb B kv lb eb kl ke va,e=.returned (.tuple #[.pointer (some ⟨bp,0,none⟩),.int .i64 0])∧jT w9 base inn bp mb B kv sets next∧dV w9 inn B.lo dY (iJ N)∧B.of=aT (RL (N.edges.map (·.2.1)))∧B.st=N.states∧vP w9 B.m lb eb kl ke va N∧w.heap.size≤base∧∀ b,inn b→w.heap.size≤b)→Qy N most w e w9:=fun e h=>⟨hbr,h⟩
   have aeD:=PE.out w9 mJ
   have Uh:=HFF.out
   rw[HLF.out] at hret
   cases hbp:kD N most L (most+1) 0 [gB N [0]] [] with
   | none =>
    rw[hbp] at Ug hret
    obtain rfl:=Ug
    have HR:=ah hret
    clear hret hbp aeD Uh mJ hbr
    go_wp2
    go_ret2
    exact HR.out _ rfl
   | some r =>
    obtain⟨sets,next⟩:=r
    rw[hbp] at Ug hret
    obtain⟨rfl,inn,kv,sv,nv,Ak,hlo,qy⟩:=Ug
    have HR:=ah (hret (.returned (.tuple #[.pointer (some ⟨bp,0,none⟩),.int .i64 0])) ⟨bp,w8.heap.size,inn,tb0,_,kv,lb,eb,kl,ke,va,rfl,Ak,hlo,Uh.symm,rfl,aeD,ao9,fun b hb=>Nat.le_trans hwt (qy b hb)⟩)
    clear hret hbp aeD Uh mJ hbr Ak hlo
    go_wp2
    go_ret2
    exact HR.out
end
section
open Go.RowKit
theorem abW(l:List Nat)(k:Nat)(h0:0<l.length):decide (Lib.maxOf (l.map fun k:Nat=>(k:Int))≤(k:Int))=l.all (fun x=>decide (x≤k)):=by
 have hf:∀ (l:List Nat) (z:Nat),decide ((l.map fun k:Nat=>(k:Int)).foldl max (z:Int)≤(k:Int))=(decide (z≤k)&&l.all (fun x=>decide (x≤k))):=by
  intro l
  induction l with
  | nil=>intro z;simp
  | cons x l ih =>
   intro z
   rw[List.map_cons,List.foldl_cons,show max (z:Int) (x:Int)=((max z x:Nat):Int) by omega,ih,List.all_cons,←Bool.and_assoc]
   congr 1
   rw[Bool.eq_iff_iff]
   simp only[Bool.and_eq_true,decide_eq_true_eq]
   omega
 obtain⟨x,l,rfl⟩:∃ x t,l=x::t:=by cases l with | nil=>exact absurd h0 (Nat.lt_irrefl _) | cons x t=>exact⟨x,t,rfl⟩
 unfold Lib.maxOf
 rw[List.map_cons,List.headD_cons,List.foldl_cons,Int.max_self,hf,List.all_cons]
theorem aeE(l:List Nat)(a:Option Addr)(n cap:Nat)(w:World)(h:au w (.slice a n cap) 1 bG l)(h0:0<l.length)(hl:l.length≤1099511627776) :
  Calls Tryz.prog 152 #[.slice a n cap] w fun e w'=>e=.returned (.int .i64 (Lib.maxOf (l.map fun k:Nat=>(k:Int))))∧w'=w:=by
 obtain⟨b,o,hn,hc,hc2,ha,hx⟩:=h.bU
 obtain rfl:=ha 0 h0
 subst hn
 have:=Tryz.slices_Max_int b o l.length cap (l.map fun k:Nat=>(k:Int)) w h0 (by simp) (by omega) (fun j hj=>by
  have hj2:j<l.length:=by simpa using hj
  rw[hx j hj2 w (Below.refl _ _)]
  simp[List.getD,hj2])
 rwa[List.take_of_length_le (by simp)] at this
theorem Eh{α:Type}{enc:α→List Value}{w:World}{b E:Nat}{v:Value}(x:α)(he:enc x=[v])(h:Box w b #[v] E):au w (.slice (some ⟨b,0,none⟩) 1 1) 1 enc [x] :=
 ⟨_,b,0,1,rfl,Nat.le_refl _,by simp[maxLen],.inl rfl,fun i hi j u hu=>by
  obtain rfl:i=0:=by simpa using hi
  rw[List.getElem_cons_zero,he] at hu
  obtain rfl:j=0:=by
   have:=(List.getElem?_eq_some_iff.1 hu).1
   simpa using this
  rw[List.getElem?_cons_zero] at hu
  rw[←Option.some.inj hu]
  exact h.cell 0⟩
def D1(names:List (List UInt8)):aQ:=⟨fun _=>0,1,[[0]],[0],names⟩
theorem ahm:(jR (aT (aH (aY (fun _=>0)))) (fun _=>0)&&((iq (aH (aY (fun _=>0))):Nat)==(1:Int)))=true:=by decide +kernel
theorem abX(names:List (List UInt8)):dM (D1 names)=nH names:=by
 unfold dM D1
 dsimp only
 rw[ahm]
 have:kW ⟨fun _=>0,1,[[0]],[0],names⟩ [[(0:Int)]].length=true:=by
  unfold kW vK
  simp
 rw[this]
 simp
theorem ahn(a b c:Option Addr)(n1 n2 n3 c1 c2 c3:Nat):(((Tryz.zeroCells27.setIfInBounds 256 (Value.int .i64 1)).setIfInBounds 257 (.slice a n1 c1)).setIfInBounds 258 (.slice b n2 c2)).setIfInBounds 259 (.slice c n3 c3)=aA.cells ⟨fun _=>0,1,a,n1,c1,b,n2,c2,c,n3,c3⟩:=by kernel_rfl
theorem aho(V:aA):Tryz.zeroCells27.size=V.cells.size:=by rw[aA.size];kernel_rfl
def yI(N:Nf)(names:List (List UInt8)):Bool:=nH names&&N.accept.all fun x=>decide (x≤names.length)
theorem Gt(N:Nf)(V:Y3)(names:List (List UInt8))(na:Option Addr)(nc:Nat)(w:World)(h:sK w N V)(hw:N.wf)(h0:0<N.states)(hs:N.states≤65536)(hn:au w (.slice na names.length nc) 1 jl names)(hnl:∀ x∈names,x.length≤9223372036854775807) :
  Calls Tryz.prog 108 #[.agg (dL N V),.slice na names.length nc] w (bF w (.bool (yI N names))):=by
 obtain⟨vl,ve,va⟩:=V
 obtain⟨la,lc,hvl⟩:=h.li.form
 obtain⟨ea,ec,mP⟩:=h.ed.form
 obtain⟨aa,ac,hva⟩:=h.ac.form
 dsimp only at hvl mP hva
 subst hvl
 subst mP
 subst hva
 have hB0:=aj w (.cells (dL N ⟨.slice la N.links.length lc,.slice ea N.edges.length ec,.slice aa N.accept.length ac⟩) 121)
 have hx0:Box (w.alloc (.cells (dL N ⟨.slice la N.links.length lc,.slice ea N.edges.length ec,.slice aa N.accept.length ac⟩) 121)) w.heap.size #[.int .i64 N.states,.int .i64 0,.slice la N.links.length lc,.slice ea N.edges.length ec,.slice aa N.accept.length ac] 121:=Box.new w _ _
 have II:=fun(u:World) (hu:Below w.heap.size w u)=>Po N ⟨.slice la N.links.length lc,.slice ea N.edges.length ec,.slice aa N.accept.length ac⟩ u (h.kept hu) hw h0 hs
 have hmx:=fun(u:World) (hu:Below w.heap.size w u)=>aeE N.accept aa N.accept.length ac u (h.ac.kept hu) (by rw[←hw.st];exact h0) (by rw[←hw.st];omega)
 have hall:=abW N.accept names.length (by rw[←hw.st];exact h0)
 have hnk:=fun(u:World) (hu:Below w.heap.size w u)=>hn.kept hu
 unfold dL at hB0 II hx0 ⊢
 dsimp only at hB0 II hx0 ⊢
 obtain⟨W0,hW0⟩:∃ W0,w.alloc (.cells #[.int .i64 N.states,.int .i64 0,.slice la N.links.length lc,.slice ea N.edges.length ec,.slice aa N.accept.length ac] 121)=W0:=⟨_,rfl⟩
 rw[hW0] at hB0 hx0
 have HW0:=ah hW0;have HB0:=ah hB0;have HX0:=ah hx0;have WS:=ah II;have HMX:=ah hmx;have nZ:=ah hall;have HNK:=ah hnk
 clear hW0 hB0 hx0 II hmx hall hnk hn h
 go_enter Tryz.func108,Tryz.ntmps108
 go_wp2_with (with_reducible refine Stop.go (p:=wpList _ _ _ ({ dst:=none,op:=.store 27 _ _,type:=_,pos:=_,after:=_,guard:=_ }::_) _ _) ?_)
 simp only[ahn]
 obtain⟨U,hU⟩:∃ U:aA,(⟨fun _=>0,1,some ⟨w.heap.size+1+1,0,none⟩,1,1,some ⟨w.heap.size+1+1+1,0,none⟩,1,1,na,names.length,nc⟩:aA)=U:=⟨_,rfl⟩
 simp only[hU]
 have hs5:((((w.alloc (.cells #[.int .i64 N.states,.int .i64 0,.slice la N.links.length lc,.slice ea N.edges.length ec,.slice aa N.accept.length ac] 121)).alloc (.cells #[.int .i64 0] 3)).alloc (.cells #[.slice (some ⟨w.heap.size+1,0,none⟩) 1 1] 24)).alloc (.cells #[.int .i64 0] 3)).heap.size=w.heap.size+1+1+1+1:=by simp only[World.size_alloc]
 refine dW rfl 27 (.tmp 5) (.tmp 10) rfl _ _ rfl rfl hs5.symm (ay _) (aho _) (aA.all _) ?_
 rw[HW0.out]
 have Y9:W0.heap.size=w.heap.size+1:=by rw[←HW0.out];exact World.size_alloc _ _
 have hb1:=aj W0 (.cells #[.int .i64 0] 3)
 have hb2:=hb1.alloc hb1.size (.cells #[.slice (some ⟨w.heap.size+1,0,none⟩) 1 1] 24)
 have hb3:=hb2.alloc hb2.size (.cells #[.int .i64 0] 3)
 have hb4:=hb3.alloc hb3.size (.cells U.cells 27)
 have hb0:=HB0.out.trans (hb4.mono HB0.out.size)
 have x1:Box (((W0.alloc (.cells #[.int .i64 0] 3)).alloc (.cells #[.slice (some ⟨w.heap.size+1,0,none⟩) 1 1] 24)).alloc (.cells #[.int .i64 0] 3)) (w.heap.size+1) #[.int .i64 0] 3:=((Box.new' Y9.symm _ _).kept (aj _ _)).kept (aj _ _)
 have x2:Box (((W0.alloc (.cells #[.int .i64 0] 3)).alloc (.cells #[.slice (some ⟨w.heap.size+1,0,none⟩) 1 1] 24)).alloc (.cells #[.int .i64 0] 3)) (w.heap.size+1+1) #[.slice (some ⟨w.heap.size+1,0,none⟩) 1 1] 24:=(Box.new' (by rw[World.size_alloc,Y9]) _ _).kept (aj _ _)
 have x3:Box (((W0.alloc (.cells #[.int .i64 0] 3)).alloc (.cells #[.slice (some ⟨w.heap.size+1,0,none⟩) 1 1] 24)).alloc (.cells #[.int .i64 0] 3)) (w.heap.size+1+1+1) #[.int .i64 0] 3:=Box.new' (by rw[World.size_alloc,World.size_alloc,Y9]) _ _
 have x4:Box ((((W0.alloc (.cells #[.int .i64 0] 3)).alloc (.cells #[.slice (some ⟨w.heap.size+1,0,none⟩) 1 1] 24)).alloc (.cells #[.int .i64 0] 3)).alloc (.cells U.cells 27)) (w.heap.size+1+1+1+1) U.cells 27:=Box.new' (by rw[World.size_alloc,World.size_alloc,World.size_alloc,Y9]) _ _
 have y1:=x1.kept (aj _ (.cells U.cells 27))
 have y2:=x2.kept (aj _ (.cells U.cells 27))
 have y3:=x3.kept (aj _ (.cells U.cells 27))
 clear x1 x2 x3 hb1 hb2 hb3 hs5
 generalize ((((W0.alloc (.cells #[.int .i64 0] 3)).alloc (.cells #[.slice (some ⟨w.heap.size+1,0,none⟩) 1 1] 24)).alloc (.cells #[.int .i64 0] 3)).alloc (.cells U.cells 27))=w5 at *
 have hrd:aZ w5 U (D1 names):=by
  subst hU
  refine⟨rfl,rfl,Eh (enc:=encI) (0:Int) rfl y3,HNK.out w5 hb0,[.slice (some ⟨w.heap.size+1,0,none⟩) 1 1],Eh (enc:=adn) (.slice (some ⟨w.heap.size+1,0,none⟩) 1 1) rfl y2,rfl,fun i h1 h2=>?_⟩
  obtain rfl:i=0:=by simpa using h1
  exact⟨_,_,rfl,Eh (enc:=encI) (0:Int) rfl y1⟩
 have hx5:=HX0.out.kept hb4
 have z0:w5.cell? ⟨w.heap.size,0,none⟩=some (.int .i64 N.states):=hx5.cell 0
 have z1:w5.cell? ⟨w.heap.size,1,none⟩=some (.int .i64 0):=hx5.cell 1
 have z2:w5.cell? ⟨w.heap.size,2,none⟩=some (.slice la N.links.length lc):=hx5.cell 2
 have z3:w5.cell? ⟨w.heap.size,3,none⟩=some (.slice ea N.edges.length ec):=hx5.cell 3
 have z4:w5.cell? ⟨w.heap.size,4,none⟩=some (.slice aa N.accept.length ac):=hx5.cell 4
 have II:=WS.out w5 hb0
 have hdr:=fun(u:World) (hu:Below w5.heap.size w5 u)=>qW U (D1 names) u (hrd.kept hu) hnl
 rw[abX] at hdr
 have hret:yI N names=(nH names&&decide (Lib.maxOf (N.accept.map fun k:Nat=>(k:Int))≤(names.length:Int))):=by unfold yI;rw[nZ.out]
 have HDR:=ah hdr;have Mc:=ah hb0;have HX4:=ah x4;have HX5:=ah hx5;have OL:=ah hret
 clear hU y1 y2 y3 x4 hb4 hb0 hrd hdr hx5 hret HNK nZ hnl
 generalize Lib.maxOf (N.accept.map fun k:Nat=>(k:Int))=mx at *
 cases hno:nH names
 ·rw[hno] at HDR OL
  clear hno
  go_wp2_with (fail)
  refine II.mono ?_
  rintro e w6 ⟨rfl,hb6⟩
  have hx6:=HX4.out.kept hb6
  have aeF:=HDR.out w6 hb6
  have Ui:=Mc.out.trans (hb6.mono Mc.out.size)
  go_wp2_with (refine ak (by rfl) 27 (.tmp 5) rfl (w.heap.size+1+1+1+1) rfl _ _ _ _ hx6 Tryz.underlying27 rfl (ay _) ?_)
  refine aeF.mono ?_
  rintro e w7 ⟨rfl,hb7⟩
  have Za:=Ui.trans (hb7.mono Ui.size)
  go_wp2
  go_ret
  exact⟨by rw[OL.out];rfl,Za⟩
 ·rw[hno] at HDR OL
  clear hno
  go_wp2_with (fail)
  refine II.mono ?_
  rintro e w6 ⟨rfl,hb6⟩
  have hx6:=HX4.out.kept hb6
  have aeF:=HDR.out w6 hb6
  have Ui:=Mc.out.trans (hb6.mono Mc.out.size)
  have apa:=HX5.out.kept hb6
  go_wp2_with (refine ak (by rfl) 27 (.tmp 5) rfl (w.heap.size+1+1+1+1) rfl _ _ _ _ hx6 Tryz.underlying27 rfl (ay _) ?_)
  refine aeF.mono ?_
  rintro e w7 ⟨rfl,hb7⟩
  have Za:=Ui.trans (hb7.mono Ui.size)
  have q4:w7.cell? ⟨w.heap.size,4,none⟩=some (.slice aa N.accept.length ac):=(apa.kept hb7).cell 4
  have apb:=HMX.out w7 Za
  go_wp2_with (fail)
  refine apb.mono ?_
  rintro e w8 ⟨rfl,hw8⟩
  subst w8
  go_wp2
  go_ret
  exact⟨by rw[OL.out];rfl,Za⟩
end
section
open Go.RowKit Go.Shelf
attribute [local go_sem] Oper.semAt_some
def alF(l:List Nat):List Nat:=l.mergeSort fun x y=>decide (x≤y)
end
section
open Go.RowKit
def alG(D:aQ):List Nat:=alF (aon D)
structure xq(W:World)(n:Nat)(grp:Nat→List Nat)(vs:Nat→Value)(wr:World):Prop where
 JI:ni wr (W.heap.size+2) 3 1 bG grp vs
 row:Box wr W.heap.size (Ji n vs) 24
 var:Box wr (W.heap.size+1) #[.slice (some ⟨W.heap.size,0,none⟩) n n] 23
 keep:Below W.heap.size W wr
 size:W.heap.size+2≤wr.heap.size
theorem xq.kept{W:World}{n:Nat}{grp:Nat→List Nat}{vs:Nat→Value}{wr w2:World}(h:xq W n grp vs wr)(hb:Below wr.heap.size wr w2):xq W n grp vs w2 :=
 ⟨h.JI.kept hb,h.row.kept hb,h.var.kept hb,h.keep.trans (hb.mono h.keep.size),Nat.le_trans h.size hb.size⟩
theorem xq.GL{W:World}{n:Nat}{grp:Nat→List Nat}{vs:Nat→Value}{wr w2:World}{s y:Nat}(h:xq W n grp vs wr)(k:jv (W.heap.size+2) 3 1 bG (vs s) (grp s) y wr w2):xq W n grp vs w2:=by
 have hv:∀ b,b<W.heap.size+2→(vs s).ownBlock≠some b:=fun b hb=>h.JI.ahJ (.inl hb)
 have hsz:=h.size
 refine⟨h.JI.GL k,k.box h.row (hv _ (by omega)),k.box h.var (hv _ (by omega)),⟨k.os.trans h.keep.os,k.tape.trans h.keep.tape,k.output.trans h.keep.output,Nat.le_trans h.keep.size k.grow,fun b hb=>(k.block b (by omega) (hv b (by omega))).trans (h.keep.block b hb)⟩,Nat.le_trans h.size k.grow⟩
theorem xq.Fh{W:World}{n:Nat}{grp:Nat→List Nat}{vs:Nat→Value}{w0 wr w2:World}{s y:Nat}{v':Value}(h0:xq W n grp vs w0)(h:xq W n (kG grp s (grp s++[y])) (kG vs s v') wr)(k:jv (W.heap.size+2) 3 1 bG (vs s) (grp s) y wr w2):xq W n (kG grp s (grp s++[y])) (kG vs s v') w2:=by
 have hv:∀ b,b<W.heap.size+2→(vs s).ownBlock≠some b:=fun b hb=>h0.JI.ahJ (.inl hb)
 have hsz:=h.size
 exact⟨ni.Fh h0.JI h.JI k,k.box h.row (hv _ (by omega)),k.box h.var (hv _ (by omega)),⟨k.os.trans h.keep.os,k.tape.trans h.keep.tape,k.output.trans h.keep.output,Nat.le_trans h.keep.size k.grow,fun b hb=>(k.block b (by omega) (hv b (by omega))).trans (h.keep.block b hb)⟩,Nat.le_trans h.size k.grow⟩
theorem xq.put{W:World}{n:Nat}{grp:Nat→List Nat}{vs:Nat→Value}{wr w2:World}{s y:Nat}{v':Value}(h:xq W n grp vs wr)(ho:Own w2 (W.heap.size+2) 3 1 bG v' (grp s++[y]))(k:jv (W.heap.size+2) 3 1 bG (vs s) (grp s) y wr w2)(hf:v'.ownBlock=(vs s).ownBlock∨v'.ownBlock=some wr.heap.size) :
  xq W n (kG grp s (grp s++[y])) (kG vs s v') (w2.setCell ⟨W.heap.size,s,none⟩ v'):=by
 have h2:=h.GL k
 have hsz:=h2.size
 have ho2:∀ b,b≠W.heap.size→(w2.setCell ⟨W.heap.size,s,none⟩ v').heap[b]?=w2.heap[b]?:=fun b hb=>heap_setCell_other _ _ _ _ hb
 refine⟨(h.JI.put s y ho k.grownBy hf).same fun b hb _=>ho2 b (by omega),?_,(ho2 _ (by omega)).trans h2.var,h2.keep.setCell (Nat.le_refl _) _,by rw[World.size_setCell];exact hsz⟩
 have:=h2.row.set s v'
 rwa[ade] at this
end
section
open Go.RowKit
theorem rC{P:Program}{o:Oper}{a:Act}{w:World}{t:TypeId}{parts:Array (Nat×Operand)}{cells:Array Value}{vals:List (Nat×Value)}(ho:o.op=.build t parts)(hv:parts.toList.map (fun p=>(p.1,a.eval p.2))=vals)(h:P.built t vals=some cells):(execOp a.eval o).run P w=.ok (.value (.agg cells)) w:=by
 have h2:P.built t (parts.map fun(i,x)=>(i,a.eval x)).toList=some cells:=by rw[Array.toList_map,←h,←hv]
 unfold execOp
 simp only[ho,Sem.run_bind,run_build w t _ cells h2,Result.andThen_ok,Sem.run_pure]
theorem vZ(off:Nat):∀ (l:List Value) (k:Nat) (cs:Array Value) (i:Nat),off+k+l.length≤cs.size →
  ((l.zipIdx k).foldl (fun cs (p:Value×Nat)=>cs.setIfInBounds (off+p.2) p.1) cs)[i]?=if off+k≤i∧i<off+k+l.length then l[i - (off+k)]? else cs[i]?
 | [],k,cs,i,_=>by
  rw[List.zipIdx_nil,List.foldl_nil,if_neg]
  simp only[List.length_nil];omega
 | v::l,k,cs,i,h=>by
  rw[List.length_cons] at h
  rw[List.zipIdx_cons,List.foldl_cons,vZ off l (k+1) _ i (by rw[Array.size_setIfInBounds];omega),List.length_cons,Array.getElem?_setIfInBounds]
  by_cases h1:off+(k+1)≤i∧i<off+(k+1)+l.length
  ·rw[if_pos h1,if_pos (by omega),show i - (off+k)=(i - (off+(k+1)))+1 by omega,List.getElem?_cons_succ]
  ·rw[if_neg h1]
   by_cases h2:off+k=i
   ·rw[if_pos h2,if_pos (by omega),if_pos (by omega),show i - (off+k)=0 by omega];rfl
   ·rw[if_neg h2,if_neg (by omega)]
theorem nP(off:Nat):∀ (l:List Value) (k:Nat) (cs:Array Value),((l.zipIdx k).foldl (fun cs (p:Value×Nat)=>cs.setIfInBounds (off+p.2) p.1) cs).size=cs.size
 | [],_,_=>rfl
 | v::l,k,cs=>by rw[List.zipIdx_cons,List.foldl_cons,nP off l (k+1),Array.size_setIfInBounds]
theorem rD(off:Nat)(vs cs:Array Value):vs.zipIdx.foldl (fun cs (x:Value×Nat)=>cs.setIfInBounds (off+x.2) x.1) cs=(vs.toList.zipIdx 0).foldl (fun cs (p:Value×Nat)=>cs.setIfInBounds (off+p.2) p.1) cs:=by
 rw[←Array.foldl_toList,Array.toList_zipIdx]
theorem Am{P:Program}{t:TypeId}{it:TypeInfo}{fields:Array Field}{z:Value}{places:List (Nat×Nat)}(parts:List (Nat×Value))(hi:P.info? t=some it)(hu:P.underlying t=some (.struct fields))(hz:it.zero=some z)(hp:fields.toList.mapM (fun f=>(P.info? f.type).map fun i=>(f.offset,i.size))=some places) :
  P.built t parts=Instr.fill (places.toArray[·]?) z.cells parts:=by
 unfold Program.built
 rw[hi,hu]
 dsimp only
 rw[hz,hp]
def ajQ(V:aA)(lv:Value):Array Value:=V.cells++#[lv]
structure Uj(w:World)(base cb vb:Nat)(V:aA)(n:Nat)(ws:List Nat):Prop where
 box:Box w cb (ajQ V (.slice (some ⟨vb,0,none⟩) n n)) 213
 live:Own w base 4 1 afJ (.slice (some ⟨vb,0,none⟩) n n) (aiy n ws)
 lt:base≤cb
theorem Uj.kept{w w':World}{base cb vb:Nat}{V:aA}{n:Nat}{ws:List Nat}(h:Uj w base cb vb V n ws)(hb:Below w.heap.size w w'):Uj w' base cb vb V n ws:=⟨h.box.kept hb,h.live.kept hb,h.lt⟩
theorem Uj.ne{w:World}{base cb vb:Nat}{V:aA}{n:Nat}{ws:List Nat}(h:Uj w base cb vb V n ws):cb≠vb:=fun e=>by
 obtain⟨_,c,hb⟩:=h.live.block vb rfl
 rw[←e] at hb
 exact absurd (h.box.iD hb) (by decide)
end
section
open Go.RowKit
def alH(D:aQ)(s:Nat):Bool:=decide (D.label.length≤s)||(alG D).contains s
theorem jP{P:Program}{fn:Func}{p u:Tmp}{ty:TypeId}(h:fn.results=#[.cell p ty,.tmp u])(tmps:Array Value)(w:World)(g E:Nat)(cs:Array Value)(v:Value)(hp:tmps.getD p undef=.pointer (some ⟨g,0,none⟩))(hv:tmps.getD u undef=v)(hb:Box w g cs E)
  {d:TypeDesc} (hu:P.underlying ty=some d) (hd:(match d with | .struct _ | .array _ _=>true | _=>false)=true) (hi:(P.info? ty).map (·.size)=some cs.size):(results fn tmps).run P w=.ok (.tuple #[.agg cs,v]) w:=by
 have ha:(asAddr (tmps.getD p undef)).run P w=.ok ⟨g,0,none⟩ w:=by rw[hp];simp[asAddr]
 rw[results_cell_tmp h,ha]
 simp only[Result.andThen_ok,run_loadVar_row w g E ty cs (0,0) d hb hu hd hi,hv]
end
section
open Go.RowKit
theorem Uk{P:Program}{o:Oper}{a:Act}{w:World}(ty:TypeId)(x:Operand)(ho:o.op=.load ty x)(b off:Nat)(hx:a.eval x=.pointer (some ⟨b,off,none⟩)){cs:List Value}{d:TypeDesc}(hc:w.rangeAt b off cs)
  (hu:P.underlying ty=some d) (hd:d.isRow=true) (hi:(P.info? ty).map (·.size)=some cs.length):(execOp a.eval o).run P w=.ok (.value (.agg cs.toArray)) w:=by
 unfold execOp
 simp only[ho,hx,Instr.loadAt,Instr.sureAddr,Sem.run_bind,Sem.run_pure,Result.andThen_ok,run_loadVar_mid w b off ty cs d hc hu hd hi]
theorem Ap{place:Nat→Option (Nat×Nat)}{cells:Array Value}{i off:Nat}{v:Value}{rest:List (Nat×Value)}(hp:place i=some (off,1))(hv:v.cells=#[v])(hs:off+1≤cells.size):Instr.fill place cells ((i,v)::rest)=Instr.fill place (cells.setIfInBounds off v) rest:=by
 show(match place i with | none=>none | some (off,size)=>if (v.cells.size≠size||off+v.cells.size > cells.size)=true then none else Instr.fill place (v.cells.zipIdx.foldl (fun cs (c,j)=>cs.setIfInBounds (off+j) c) cells) rest)=_
 rw[hp]
 dsimp only
 rw[hv,if_neg (by simp;omega)]
 rfl
theorem PG{place:Nat→Option (Nat×Nat)}{cells:Array Value}{i off size:Nat}{v:Value}{rest:List (Nat×Value)}(hp:place i=some (off,size))(hz:v.cells.size=size)(hs:off+size≤cells.size):Instr.fill place cells ((i,v)::rest)=Instr.fill place (v.cells.zipIdx.foldl (fun cs (x:Value×Nat)=>cs.setIfInBounds (off+x.2) x.1) cells) rest:=by
 show(match place i with | none=>none | some (off,size)=>if (v.cells.size≠size||off+v.cells.size > cells.size)=true then none else Instr.fill place (v.cells.zipIdx.foldl (fun cs (c,j)=>cs.setIfInBounds (off+j) c) cells) rest)=_
 rw[hp]
 dsimp only
 rw[if_neg (by simp[hz];omega)]
theorem Aq{V:aA}{c:Array Value}(hs:c.size=260)(h0:∀ i,i<256→c[i]?=some (.int .u8 (V.of i:Nat)))(h1:c[256]?=some (.int .i64 V.width))(h2:c[257]?=some (.slice V.na V.nn V.nc))(h3:c[258]?=some (.slice V.la V.ln V.lc))(h4:c[259]?=some (.slice V.ma V.mn V.mc)):c=V.cells:=by
 apply Array.ext_getElem?
 intro i
 by_cases a:i<256
 ·rw[h0 i a,V.qV i a]
 ·by_cases e:i<260
  ·obtain rfl | rfl | rfl | rfl:i=256∨i=257∨i=258∨i=259:=by omega
   ·rw[h1,V.yC]
   ·rw[h2,V.pG]
   ·rw[h3,V.iZ]
   ·rw[h4,V.yD]
  ·rw[Array.getElem?_eq_none (by omega),Array.getElem?_eq_none (by rw[aA.size];omega)]
theorem PI(f:Nat→Nat)(wd:Int)(na ma:Option Addr)(nn nc mn mc:Nat):Tryz.prog.built 27 [(0,.agg (aG f)),(1,.int .i64 wd),(2,.slice na nn nc),(4,.slice ma mn mc)]=some (aA.cells ⟨f,wd,na,nn,nc,none,0,0,ma,mn,mc⟩):=by
 obtain⟨it,hi⟩:∃ it,Tryz.prog.info? 27=some it:=Option.isSome_iff_exists.1 (by kernel_rfl)
 have hz0:(Tryz.prog.info? 27).map (fun it=>it.zero.map (fun z=>(z.cells.size,z.cells[258]?)))=some (some (260,some (.slice none 0 0))):=by kernel_rfl
 rw[hi] at hz0
 simp only[Option.map_some,Option.some.injEq] at hz0
 obtain⟨z,hz,hzs⟩:=Option.map_eq_some_iff.1 hz0
 obtain⟨hzs,hz8⟩:=Prod.mk.inj hzs
 rw[Am (places:=[(0,256),(256,1),(257,1),(258,1),(259,1)]) _ hi Tryz.underlying27 hz (by kernel_rfl)]
 have hs:=aU f
 have Uh:=nP 0 (aG f).toList 0 z.cells
 have hgg:=fun i=>vZ 0 (aG f).toList 0 z.cells i (by rw[Array.length_toList];omega)
 rw[←rD] at Uh
 simp only[←rD] at hgg
 have e0:=PG (place:=(([(0,256),(256,1),(257,1),(258,1),(259,1)]:List (Nat×Nat)).toArray[·]?)) (cells:=z.cells) (i:=0) (off:=0) (size:=256) (v:=.agg (aG f)) (rest:=[(1,.int .i64 wd),(2,.slice na nn nc),(4,.slice ma mn mc)]) rfl hs (by omega)
 refine e0.trans ?_
 show Instr.fill _ ((aG f).zipIdx.foldl (fun cs (x:Value×Nat)=>cs.setIfInBounds (0+x.2) x.1) z.cells) _=_
 generalize (aG f).zipIdx.foldl (fun cs (x:Value×Nat)=>cs.setIfInBounds (0+x.2) x.1) z.cells=F at *
 rw[Ap (off:=256) rfl rfl (by omega),Ap (off:=257) rfl rfl (by rw[Array.size_setIfInBounds];omega),Ap (off:=259) rfl rfl (by rw[Array.size_setIfInBounds,Array.size_setIfInBounds];omega)]
 refine congrArg some (Aq (by rw[Array.size_setIfInBounds,Array.size_setIfInBounds,Array.size_setIfInBounds];omega) (fun i h=>?_) ?_ ?_ ?_ ?_)
 ·rw[Array.getElem?_setIfInBounds_ne (by omega),Array.getElem?_setIfInBounds_ne (by omega),Array.getElem?_setIfInBounds_ne (by omega),hgg i,if_pos (by rw[Array.length_toList];omega),Array.getElem?_toList,show i - (0+0)=i by omega,dG _ _ h]
 ·rw[Array.getElem?_setIfInBounds_ne (by omega),Array.getElem?_setIfInBounds_ne (by omega),Array.getElem?_setIfInBounds,if_pos rfl,if_pos (by omega)]
 ·rw[Array.getElem?_setIfInBounds_ne (by omega),Array.getElem?_setIfInBounds,if_pos rfl,if_pos (by rw[Array.size_setIfInBounds];omega)]
 ·rw[Array.getElem?_setIfInBounds_ne (by omega),Array.getElem?_setIfInBounds_ne (by omega),Array.getElem?_setIfInBounds_ne (by omega),hgg 258,if_neg (by rw[Array.length_toList];omega),hz8]
 ·rw[Array.getElem?_setIfInBounds,if_pos rfl,if_pos (by rw[Array.size_setIfInBounds,Array.size_setIfInBounds];omega)]
end
section
open Go.RowKit
def Vz:aA:=⟨fun _=>0,0,none,0,0,none,0,0,none,0,0⟩
theorem fO:Tryz.zeroCells27=Vz.cells:=by kernel_rfl
def Ar(w:World)(r:Sum Nat aQ)(e:Ending)(w':World):Prop :=
 Below w.heap.size w w'∧match r with
 | .inl c=>e=.returned (.tuple #[.agg Vz.cells,.int .i64 c])
 | .inr D=>∃ V:aA,e=.returned (.tuple #[.agg V.cells,.int .i64 0])∧(∀ u:World,(∀ b,w.heap.size≤b→b<w'.heap.size→u.heap[b]?=w'.heap[b]?)→aZ u V D)∧V.of=D.of
def Dk(N:Nf)(names:List (List UInt8))(most:Nat):Sum Nat aQ :=
 if yI N names=true then (match kD N most (iJ N) (most+1) 0 [gB N [0]] [] with
  | none=>.inl 7
  | some (sets,next)=>.inr ⟨aT (RL (N.edges.map (·.2.1))),((iJ N).length:Nat),next,sets.map (iP N),names⟩) else .inl 6
theorem P9(l:List (List UInt8)):(l.map bs).map Value.string=l.flatMap jl:=by
 induction l with
 | nil=>rfl
 | cons x l ih=>rw[List.map_cons,List.map_cons,ih,List.flatMap_cons];rfl
theorem IK(l:List (List UInt8))(a:Option Addr)(n cap:Nat)(w:World)(h:au w (.slice a n cap) 1 jl l)(hl:l.length≤1099511627776) :
  Calls Tryz.prog 110 #[.slice a n cap] w (fV w 9 1 jl l):=by
 obtain⟨b,o,hn,hc,hc2,ha,hx⟩:=h.bU (f:=fun x=>sv x)
 subst hn
 by_cases h0:l.length=0
 ·obtain rfl:l=[]:=List.eq_nil_of_length_eq_zero h0
  cases a with
  | none =>
   refine(Tryz.slices_Clone_string_nil 0 cap w).mono fun e w' ⟨he,hw⟩=>?_
   exact⟨none,0,he,Own.nil _ _ _ _ _,hw▸Below.refl _ _⟩
  | some ad =>
   refine(Tryz.slices_Clone_string_zero ad cap w).mono fun e w' he=>?_
   obtain⟨v',rfl,hr,_,hB⟩:=he
   have ho:Own w' w.heap.size 9 1 jl v' []:=Own.ofRow hr pX
   obtain⟨a',c',rfl⟩:=ho.form
   exact⟨a',c',rfl,ho,hB⟩
 ·obtain rfl:=ha 0 (by omega)
  have:=Tryz.slices_Clone_string b o l.length cap (l.map bs) w (by simp) (by omega) (fun j hj=>by
   have hj2:j<l.length:=by simpa using hj
   rw[hx j hj2 w (Below.refl _ _)]
   simp[List.getD,hj2])
  refine this.mono fun e w' he=>?_
  obtain⟨v',rfl,hr,_,hB⟩:=he
  have e1:((l.map bs).take l.length).map Value.string=l.flatMap jl:=by rw[List.take_of_length_le (by simp)];exact P9 l
  rw[e1] at hr
  have ho:Own w' w.heap.size 9 1 jl v' l:=Own.ofRow hr pX
  obtain⟨a',c',rfl⟩:=ho.form
  exact⟨a',c',rfl,ho,hB⟩
theorem abY(N:Nf)(V:Y3)(names:List (List UInt8))(na:Option Addr)(nc most:Nat)(w:World)(h:sK w N V)(hw:N.wf)(h0:0<N.states)(hs:N.states≤65536)(hn:au w (.slice na names.length nc) 1 jl names)(hnl:∀ x∈names,x.length≤9223372036854775807)
  (hno:yI N names=false) :
  Calls Tryz.prog 66 #[.agg (dL N V),.slice na names.length nc,.int .i64 most] w (Ar w (.inl 6)):=by
 have hB0:=aj w (.cells (dL N V) 121)
 have hbx:=Box.new w (dL N V) 121
 have hB1:=hB0.alloc hB0.size (.cells Vz.cells 27)
 have hby:Box ((w.alloc (.cells (dL N V) 121)).alloc (.cells Vz.cells 27)) (w.heap.size+1) Vz.cells 27:=Box.new' (World.size_alloc _ _).symm _ _
 have gq:=hbx.kept (aj (w.alloc (.cells (dL N V) 121)) (.cells Vz.cells 27))
 have HN:=ah (fun u hu=>hno▸Gt N V names na nc u (h.kept hu) hw h0 hs (hn.kept hu) hnl)
 obtain⟨vl,ve,va⟩:=V
 obtain⟨la,lc,hvl⟩:=h.li.form
 obtain⟨ea,ec,mP⟩:=h.ed.form
 obtain⟨aa,ac,hva⟩:=h.ac.form
 dsimp only at hvl mP hva
 subst hvl
 subst mP
 subst hva
 have hsz:Vz.cells.size=260:=aA.size _
 clear h hw hn hnl hno
 unfold dL at *
 dsimp only at *
 generalize hW1:((w.alloc (.cells #[.int .i64 N.states,.int .i64 0,.slice la N.links.length lc,.slice ea N.edges.length ec,.slice aa N.accept.length ac] 121)).alloc (.cells Vz.cells 27))=W1 at *
 have HW1:=ah hW1
 have x0:W1.cell? ⟨w.heap.size,0,none⟩=some (.int .i64 N.states):=gq.cell 0
 have x1:W1.cell? ⟨w.heap.size,1,none⟩=some (.int .i64 0):=gq.cell 1
 have x2:W1.cell? ⟨w.heap.size,2,none⟩=some (.slice la N.links.length lc):=gq.cell 2
 have x3:W1.cell? ⟨w.heap.size,3,none⟩=some (.slice ea N.edges.length ec):=gq.cell 3
 have x4:W1.cell? ⟨w.heap.size,4,none⟩=some (.slice aa N.accept.length ac):=gq.cell 4
 have lx:=gq.lt
 clear hW1 hbx hB0
 go_enter Tryz.func66,Tryz.ntmps66
 go_wp2_with (first | (with_reducible refine Halt.go (p:=wpList _ _ _ ({ dst:=some 15,op:=_,type:=_,pos:=_,after:=_,guard:=_ }::_) _ _) ?_) | fail)
 simp only[fO,HW1.out]
 unfold Halt
 go_wp2_with (first | (go_at_call 108;go_must (refine(HN.out _ hB1).mono ?_;rintro e w2 ⟨rfl,hb2⟩;have hy2:=hby.kept hb2)) | (simp only[fO];refine wpList_store_row rfl 27 _ _ rfl (w.heap.size+1) _ rfl rfl _ _ hy2 (ay _) rfl (aA.all _) ?_))
 have hfin:=hy2.setRow Vz.cells
 refine bodyPost_ret (jP rfl _ _ (w.heap.size+1) 27 _ (.int .i64 6) rfl rfl hfin Tryz.underlying27 rfl (ay _)) rfl ?_
 exact⟨below_setRow (hB1.trans (hb2.mono hB1.size)) (by omega) _,rfl⟩
theorem Zb(N:Nf)(V:Y3)(names:List (List UInt8))(na:Option Addr)(nc most:Nat)(w:World)(h:sK w N V)(hw:N.wf)(h0:0<N.states)(hs:N.states≤65536)(hn:au w (.slice na names.length nc) 1 jl names)(hnl:∀ x∈names,x.length≤9223372036854775807)
  (hlk:N.links.length≤1099511627776) (he:N.edges.length≤65536) (hm1:1≤most) (hm2:most≤65536) (hT:Tab w) (hyes:yI N names=true)
  (hbig:kD N most (iJ N) (most+1) 0 [gB N [0]] []=none) :
  Calls Tryz.prog 66 #[.agg (dL N V),.slice na names.length nc,.int .i64 most] w (Ar w (.inl 7)):=by
 have hB0:=aj w (.cells (dL N V) 121)
 have hbx:=Box.new w (dL N V) 121
 have hB1:=hB0.alloc hB0.size (.cells Vz.cells 27)
 have hby:Box ((w.alloc (.cells (dL N V) 121)).alloc (.cells Vz.cells 27)) (w.heap.size+1) Vz.cells 27:=Box.new' (World.size_alloc _ _).symm _ _
 have gq:=hbx.kept (aj (w.alloc (.cells (dL N V) 121)) (.cells Vz.cells 27))
 have HN:=ah (fun u hu=>hyes▸Gt N V names na nc u (h.kept hu) hw h0 hs (hn.kept hu) hnl)
 have HO:=ah (fun u hu=>by
  have h1:=abU N V most u (h.kept hu) hw h0 hs hlk he hm1 hm2 (hT.kept hu)
  unfold Qy at h1
  rw[hbig] at h1
  exact h1)
 obtain⟨vl,ve,va⟩:=V
 obtain⟨la,lc,hvl⟩:=h.li.form
 obtain⟨ea,ec,mP⟩:=h.ed.form
 obtain⟨aa,ac,hva⟩:=h.ac.form
 dsimp only at hvl mP hva
 subst hvl
 subst mP
 subst hva
 have hsz:Vz.cells.size=260:=aA.size _
 clear h hw hn hnl hyes hbig hT
 unfold dL at *
 dsimp only at *
 generalize hW1:((w.alloc (.cells #[.int .i64 N.states,.int .i64 0,.slice la N.links.length lc,.slice ea N.edges.length ec,.slice aa N.accept.length ac] 121)).alloc (.cells Vz.cells 27))=W1 at *
 have HW1:=ah hW1
 have x0:W1.cell? ⟨w.heap.size,0,none⟩=some (.int .i64 N.states):=gq.cell 0
 have x1:W1.cell? ⟨w.heap.size,1,none⟩=some (.int .i64 0):=gq.cell 1
 have x2:W1.cell? ⟨w.heap.size,2,none⟩=some (.slice la N.links.length lc):=gq.cell 2
 have x3:W1.cell? ⟨w.heap.size,3,none⟩=some (.slice ea N.edges.length ec):=gq.cell 3
 have x4:W1.cell? ⟨w.heap.size,4,none⟩=some (.slice aa N.accept.length ac):=gq.cell 4
 have lx:=gq.lt
 clear hW1 hbx hB0
 go_enter Tryz.func66,Tryz.ntmps66
 go_wp2_with (first | (with_reducible refine Halt.go (p:=wpList _ _ _ ({ dst:=some 15,op:=_,type:=_,pos:=_,after:=_,guard:=_ }::_) _ _) ?_) | fail)
 simp only[fO,HW1.out]
 unfold Halt
 go_wp2_with (first | (go_at_call 108;go_must (refine(HN.out _ hB1).mono ?_;rintro e w2 ⟨rfl,hb2⟩;have hy2:=hby.kept hb2;have hx2:=gq.kept hb2;have hB2:=hB1.trans (hb2.mono hB1.size);have z0:w2.cell? ⟨w.heap.size,0,none⟩=some (.int .i64 N.states):=hx2.cell 0;have z1:w2.cell? ⟨w.heap.size,1,none⟩=some (.int .i64 0):=hx2.cell 1;have z2:w2.cell? ⟨w.heap.size,2,none⟩=some (.slice la N.links.length lc):=hx2.cell 2;have z3:w2.cell? ⟨w.heap.size,3,none⟩=some (.slice ea N.edges.length ec):=hx2.cell 3;have z4:w2.cell? ⟨w.heap.size,4,none⟩=some (.slice aa N.accept.length ac):=hx2.cell 4;have lz:=hx2.lt)) | (go_at_call 109;go_must (refine(HO.out w2 hB2).mono ?_;rintro e w3 ⟨hb3,rfl⟩;have hy3:=hy2.kept hb3)) | (simp only[fO];refine wpList_store_row rfl 27 _ _ rfl (w.heap.size+1) _ rfl rfl _ _ hy3 (ay _) rfl (aA.all _) ?_))
 have hfin:=hy3.setRow Vz.cells
 refine bodyPost_ret (jP rfl _ _ (w.heap.size+1) 27 _ (.int .i64 7) rfl rfl hfin Tryz.underlying27 rfl (ay _)) rfl ?_
 exact⟨below_setRow (hB2.trans (hb3.mono hB2.size)) (by omega) _,rfl⟩
end
end Go.Proofs.YtengfapcaaacaaaGreatDoor
