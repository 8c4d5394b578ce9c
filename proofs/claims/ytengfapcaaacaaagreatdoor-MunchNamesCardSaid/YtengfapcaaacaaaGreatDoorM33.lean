/- The texts of N33, in few letters (mini.py). -/
import Derived.Test.YtengfapcaaacaaaGreatDoorM32
import Derived.Sort.OwnSortedInts
set_option linter.unusedVariables false
set_option linter.unusedSimpArgs false
set_option maxRecDepth 20000
set_option maxHeartbeats 6400000
namespace Go.Proofs.YtengfapcaaacaaaGreatDoor
section
open Go.RowKit
theorem agd(m st tb:Nat):((Tryz.zeroCells187.setIfInBounds 0 (Value.pointer (some ⟨m,0,none⟩))).setIfInBounds 1 (Value.int .i64 st)).setIfInBounds 259 (Value.pointer (some ⟨tb,0,none⟩))=dB ⟨m,st,fun _=>0,.slice none 0 0,tb,.slice none 0 0,.slice none 0 0⟩:=by kernel_rfl
theorem Box.setMany{b E:Nat}:∀ (vs:List Value) (o:Nat) (w:World) (c:Array Value),Box w b c E→∃ c',Box (w.setCells b o vs) b c' E∧c'.size=c.size∧∀ i,c'[i]?=if o≤i∧i<o+vs.length∧i<c.size then vs[i - o]? else c[i]?
 | [],o,w,c,h=>⟨c,h,rfl,fun i=>by rw[if_neg];simp;omega⟩
 | v::vs,o,w,c,h=>by
  obtain⟨c',h1,h2,h3⟩:=Box.setMany vs (o+1) (w.setCell ⟨b,o,none⟩ v) _ (h.set o v)
  refine⟨c',h1,by rw[h2,Array.size_setIfInBounds],fun i=>?_⟩
  rw[h3,Array.size_setIfInBounds,Array.getElem?_setIfInBounds,List.length_cons]
  by_cases e:o=i
  ·subst e
   by_cases hc:o<c.size
   ·rw[if_neg (by omega),if_pos rfl,if_pos hc,if_pos (by omega)];simp
   ·rw[if_neg (by omega),if_pos rfl,if_neg hc,if_neg (by omega),Array.getElem?_eq_none (by omega)]
  ·by_cases h4:o+1≤i∧i<o+1+vs.length∧i<c.size
   ·rw[if_pos h4,if_pos (by omega)]
    obtain⟨d,rfl⟩:∃ d,i=o+1+d:=⟨i - (o+1),by omega⟩
    rw[show o+1+d - (o+1)=d by omega,show o+1+d - o=d+1 by omega,List.getElem?_cons_succ]
   ·rw[if_neg h4,if_neg e,if_neg (by omega)]
theorem DC{b:Nat}:∀ (vs:List Value) (o:Nat) (w:World),(∀ k,k≠b→(w.setCells b o vs).heap[k]?=w.heap[k]?)∧(w.setCells b o vs).heap.size=w.heap.size∧(w.setCells b o vs).os=w.os∧(w.setCells b o vs).tape=w.tape∧(w.setCells b o vs).output=w.output
 | [],o,w=>⟨fun _ _=>rfl,rfl,rfl,rfl,rfl⟩
 | v::vs,o,w=>by
  obtain⟨h1,h2,h3,h4,h5⟩:=DC (b:=b) vs (o+1) (w.setCell ⟨b,o,none⟩ v)
  exact⟨fun k hk=>(h1 k hk).trans (heap_setCell_other w ⟨b,o,none⟩ k v hk),h2.trans (World.size_setCell _ _ _),h3,h4,h5⟩
theorem Box.setOf{w:World}{b:Nat}{B:jo}{E:Nat}(h:Box w b (dB B) E)(f:Nat→Nat):Box (w.setCells b 2 (aS f).toList) b (dB { B with of:=f }) E:=by
 obtain⟨c',h1,h2,h3⟩:=Box.setMany (aS f).toList 2 w _ h
 have hl:(aS f).toList.length=256:=by rw[Array.length_toList,aV]
 rw[uj] at h2 h3
 rw[hl] at h3
 have e:c'=dB { B with of:=f }:=by
  refine zF h2 ?_ ?_ ?_ ?_ ?_ ?_ ?_
  ·rw[h3,if_neg (by omega)];exact jW B
  ·rw[h3,if_neg (by omega)];exact uo B
  ·intro i hi
   rw[h3,if_pos (by omega),show 2+i - 2=i by omega,Array.getElem?_toList,dS _ _ hi]
  ·rw[h3,if_neg (by omega)];exact uV B
  ·rw[h3,if_neg (by omega)];exact uX B
  ·rw[h3,if_neg (by omega)];exact ku B
  ·rw[h3,if_neg (by omega)];exact uY B
 rw[←e];exact h1
theorem Box.Ws{w:World}{b:Nat}{B:jo}{E:Nat}(h:Box w b (dB B) E):w.rangeAt b 2 (aS B.of).toList:=fun j v hv=>by
 have hj:j<256:=by have:=(List.getElem?_eq_some_iff.1 hv).1;rwa[Array.length_toList,aV] at this
 rw[h.cell,uU B j hj]
 rw[Array.getElem?_toList,dS _ _ hj] at hv
 exact hv
theorem Box.agf{w:World}{b:Nat}{B:jo}{E:Nat}(h:Box w b (dB B) E)(f:Nat→Nat):w.there b 2 (aS f).size:=fun j hj=>by
 rw[aV] at hj
 exact⟨by rw[h.cell,uU B j hj];rfl,h.free _⟩
theorem Ve(B:jo)(v:Value):(dB B).setIfInBounds 258 v=dB { B with lo:=v }:=by
 refine zF (by rw[Array.size_setIfInBounds,uj]) ?_ ?_ ?_ ?_ ?_ ?_ ?_
 ·rw[fA _ _ _ _ (by decide),if_neg (by decide)];exact jW B
 ·rw[fA _ _ _ _ (by decide),if_neg (by decide)];exact uo B
 ·intro i hi;rw[fA _ _ _ _ (by decide),if_neg (by omega)];exact uU B i hi
 ·rw[fA _ _ _ _ (by decide),if_pos rfl]
 ·rw[fA _ _ _ _ (by decide),if_neg (by decide)];exact uX B
 ·rw[fA _ _ _ _ (by decide),if_neg (by decide)];exact ku B
 ·rw[fA _ _ _ _ (by decide),if_neg (by decide)];exact uY B
def gX(N:Nf):List Nat:=aI (aW (bH (bf (RL (N.edges.map (·.2.1)))))) 256
def Qj(N:Nf)(most:Nat)(w:World)(e:Ending)(w':World):Prop :=
 Below w.heap.size w w'∧match jQ N most (gX N) (most+1) 0 [fM N [0]] [] with
 | none=>e=.returned (.tuple #[.pointer none,.int .i64 7])
 | some (sets,next)=>∃ bp qB inn mb B kv lb eb kl ke va,e=.returned (.tuple #[.pointer (some ⟨bp,0,none⟩),.int .i64 0])∧jI w' qB inn bp mb B kv sets next∧dM w' inn B.lo gY (gX N)∧B.of=bf (RL (N.edges.map (·.2.1)))∧B.st=N.states∧vX w' B.m lb eb kl ke va N∧w.heap.size≤qB∧∀ b,inn b→w.heap.size≤b
theorem aa9(N:Nf)(V:Y3)(most:Nat)(w:World)(h:sZ w N V)(hw:N.wf)(h0:0<N.states)(hs:N.states≤65536)(hl:N.links.length≤1099511627776)(he:N.edges.length≤65536)(hm1:1≤most)(hm2:most≤65536)(hT:Tab w) :
  Calls Tryz.prog 109 #[.agg (dF N V),.int .i64 most] w (Qj N most w):=by
 obtain⟨vl,ve,va⟩:=V
 obtain⟨la,lc,hvl⟩:=h.li.form
 obtain⟨ea,ec,lZ⟩:=h.ed.form
 obtain⟨aa,ac,hva⟩:=h.ac.form
 dsimp only at hvl lZ hva
 subst hvl
 subst lZ
 subst hva
 have hB0:=aj w (.cells (dF N ⟨.slice la N.links.length lc,.slice ea N.edges.length ec,.slice aa N.accept.length ac⟩) 121)
 have hx0:Box (w.alloc (.cells (dF N ⟨.slice la N.links.length lc,.slice ea N.edges.length ec,.slice aa N.accept.length ac⟩) 121)) w.heap.size #[.int .i64 N.states,.int .i64 0,.slice la N.links.length lc,.slice ea N.edges.length ec,.slice aa N.accept.length ac] 121:=Box.new w _ _
 have hnew:=fun(u:World) (hu:Below w.heap.size w u)=>aik N ⟨.slice la N.links.length lc,.slice ea N.edges.length ec,.slice aa N.accept.length ac⟩ u (h.kept hu) hw h0 hs hl he
 unfold dF at hB0 hnew hx0 ⊢
 dsimp only at hB0 hnew hx0 ⊢
 obtain⟨W0,hW0⟩:∃ W0,w.alloc (.cells #[.int .i64 N.states,.int .i64 0,.slice la N.links.length lc,.slice ea N.edges.length ec,.slice aa N.accept.length ac] 121)=W0:=⟨_,rfl⟩
 rw[hW0] at hB0 hx0
 have HW0:=ah hW0;have HB0:=ah hB0;have HX0:=ah hx0;have MJ:=ah hnew;have oZ:=ah h;have HT:=ah hT
 have aql:decide ((most:Int)<1)=false:=decide_eq_false (by omega)
 have aqm:decide ((65536:Int)<(most:Int))=false:=decide_eq_false (by omega)
 clear hW0 hB0 hx0 hnew h hT
 go_enter Tryz.func109,Tryz.ntmps109
 go_wp2_with (go_at_call 153;go_must (rw[HW0.out];refine(MJ.out W0 HB0.out).mono ?_;rintro e wM ⟨m,lb,eb,kl,ke,va,rfl,hM1,hb1⟩;have Dq:=ah hM1;clear hM1))
 have hBW:Below W0.heap.size W0 wM:=hb1
 have hB:Below W0.heap.size W0 wM.drew:=hBW.trans ((Below.refl wM.heap.size wM).drew.mono hBW.size)
 have HF:Hid (∀ u,Later wM.drew u→Box u w.heap.size #[.int .i64 N.states,.int .i64 0,.slice la N.links.length lc,.slice ea N.edges.length ec,.slice aa N.accept.length ac] 121∧Below wM.heap.size wM u∧Below W0.heap.size W0 u):=ah fun u hl =>
  ⟨HX0.out.kept (hB.trans (hl.mono hB.size)),(Below.refl wM.heap.size wM).drew.trans hl,hB.trans (hl.mono hB.size)⟩
 clear hBW hb1 hB
 refine aA (R:=Later) 7 (by kernel_rfl) ?_
 refine pl [0,1,2] ?_
 repeat
  refine dI ?_ rfl (fun w1 hl=>?_) ?_
  rotate_left
  ·have hx:=(HF.out w1 hl).1;have x0:=hx.cell 0;go_simp;try with_reducible rfl
  simp only[eA,eB,eC,Act.put,eD,eE,eF]
 refine bU ?_
 refine aP (t:=7) (i:=3) (by kernel_rfl) rfl (fun w1 hl K hK=>?_)
 obtain⟨hX,hM,hBw⟩:=HF.out w1 hl
 have hin:=XP w1
 clear hl
 go_simp
 refine hin.mono ?_
 rintro e w5 ⟨rfl,kR,hs5,hb5⟩
 refine hK.out _ _ (fun _=>hb5) ?_
 clear hK K hin
 have dA:=hX.kept hb5
 have ru:=hM.trans (hb5.mono hM.size)
 have hNs:=hM.size
 have CX:=hBw.trans (hb5.mono hBw.size)
 have aqn:=hBw.size
 clear hX hM hBw hb5
 generalize w1.heap.size=tb0 at *
 refine jM 4 ?_ rfl (fun w1 hl=>?_) ?_
 rotate_left
 ·skip;go_simp;try with_reducible rfl
 simp only[eA,eB,eC,Act.put,eD,eE,eF]
 refine aP (t:=7) (i:=5) (by kernel_rfl) rfl (fun w1 hl K hK=>?_)
 have tY:=dA.kept hl
 have hM6:=ru.trans (hl.mono ru.size)
 have Dv:=kR.kept hl
 have adK:=CX.trans (hl.mono CX.size)
 have amV:=hl.size
 clear hl dA ru kR CX
 go_simp
 simp only[agd]
 refine hK.out _ _ (fun _=>aj _ _) ?_
 clear hK K
 have hbB:=Box.new w1 (dB ⟨m,N.states,fun _=>0,.slice none 0 0,tb0+1,.slice none 0 0,.slice none 0 0⟩) 187
 have hb7:=aj w1 (.cells (dB ⟨m,N.states,fun _=>0,.slice none 0 0,tb0+1,.slice none 0 0,.slice none 0 0⟩) 187)
 have OE:=tY.kept hb7
 have hM7:=hM6.trans (hb7.mono hM6.size)
 have nN:=Dv.kept hb7
 have JR:=adK.trans (hb7.mono adK.size)
 have amW:tb0+2≤w1.heap.size:=by omega
 clear hb7 tY hM6 Dv adK amV HF hs5
 generalize (w1.alloc (.cells (dB ⟨m,N.states,fun _=>0,.slice none 0 0,tb0+1,.slice none 0 0,.slice none 0 0⟩) 187))=wq at *
 generalize w1.heap.size=bp at *
 refine jM 6 ?_ rfl (fun w1 hl=>?_) ?_
 rotate_left
 ·skip;go_simp;try with_reducible rfl
 simp only[eA,eB,eC,Act.put,eD,eE,eF]
 refine aH (by kernel_rfl) (fun w1 hl=>?_) _
 have OD:=OE.kept hl
 have hM8:=hM7.trans (hl.mono hM7.size)
 have BL:=nN.kept hl
 have mW:=hbB.kept hl
 have AL:=JR.trans (hl.mono JR.size)
 have amU:=AL.size
 have aqo:=mW.lt
 clear hl OE hM7 nN JR hbB
 have z3:w1.cell? ⟨w.heap.size,3,none⟩=some (.slice ea N.edges.length ec):=OD.cell 3
 have amn:=OD.lt
 obtain⟨ebk,eo,_,hec,aif,hea,hex⟩:=oZ.out.ed.open
 have hce:∀ (u:World) (k:Nat) (hk:k<N.edges.length),Below w.heap.size w u→(∀ j x,(fU N.edges[k])[j]?=some x→u.cell? ⟨ebk,eo+k*6+j,none⟩=some x):=fun u k hk hB j x hu=>by
  have e0:=hex k hk j x hu
  exact(hB.cell (World.block_lt_of_cell? w _ e0)).trans e0
 have aiV:=HB0.out.trans (AL.mono HB0.out.size)
 have HX8:=ah OD;have HM8:=ah hM8;have HT8:=ah BL;have HB8:=ah mW;have Ub:=ah aiV;have Lu:=ah hce;have HEA:=ah hea
 clear OD hM8 BL mW AL aiV hce hea hex
 obtain⟨ne,hne⟩:∃ ne,N.edges.length=ne:=⟨_,rfl⟩
 have aiW:=ah hne
 rw[hne] at z3 hec he
 clear hne
 obtain⟨W2,hW2⟩:∃ W2,w1=W2:=⟨_,rfl⟩
 subst hW2
 go_wp2
 clear z3
 go_loopw [9,35] (fun v i wr=>∃ (k:Nat) (a:Option Addr) (q c:Nat),k≤ne∧i=.int .i64 k∧v=.slice a q c∧Own wr w1.heap.size 113 4 encS (.slice a q c) ((N.edges.take k).map (·.2.1))∧Below w1.heap.size w1 wr) (fun _ i _=>ne - (intOf i).toNat)
 case atStart=>exact⟨0,none,0,0,Nat.zero_le _,rfl,rfl,Own.nil _ _ _ _ _,Below.refl _ _⟩
 case round =>
  obtain⟨k,a,q,c,hk,rfl,rfl,hown,hB⟩:=hrel
  have hBr:=Ub.out.trans (hB.mono Ub.out.size)
  by_cases hlt:k<ne
  ·have hlk:k<N.edges.length:=by rw[aiW.out];exact hlt
   obtain rfl:=HEA.out k hlk
   have hcc:=Lu.out wr k hlk hBr
   have htk:(N.edges.take (k+1)).map (·.2.1)=(N.edges.take k).map (·.2.1)++[N.edges[k].2.1]:=by rw[List.take_succ_eq_append_getElem hlk,List.map_append];rfl
   have hlen:((N.edges.take k).map (·.2.1)).length≤k:=by rw[List.length_map];exact List.length_take_le _ _
   generalize N.edges[k]=x at *
   obtain⟨x0,st,x1⟩:=x
   dsimp only at htk
   obtain⟨e0,e1,e2,e3,e4,e5⟩:=yt (P:=fun j u=>wr.cell? ⟨ebk,eo+k*6+j,none⟩=some u) x0 st x1 hcc
   rw[Nat.add_zero] at e0
   clear hcc
   have hbl:=World.block_lt_of_cell? wr _ e0
   have hki:(k:Int)<(ne:Int):=by omega
   have hk0:(0:Int)≤(k:Int):=by omega
   generalize (N.edges.take k).map (·.2.1)=ys at *
   have Bh:=ah htk
   clear htk
   have hB1:=aj wr (.cells #[.int .i64 x0,.int .u64 (word st 0:Nat),.int .u64 (word st 1:Nat),.int .u64 (word st 2:Nat),.int .u64 (word st 3:Nat),.int .i64 x1] 240)
   have hown1:=hown.kept hB1
   have N7:=hB.trans (hB1.mono hB.size)
   have hq:=hown.open.1
   have HQ:=ah hq
   clear hq
   go_wp2_with (at_builtin;go_must (refine fJ rfl _ _ 190 rfl Jl wX rfl (hown1.alloc _) ⟨wr.heap.size+1,0,none⟩ 1 st rfl (by rw[←World.size_alloc wr (.cells #[.int .i64 x0,.int .u64 (word st 0:Nat),.int .u64 (word st 1:Nat),.int .u64 (word st 2:Nat),.int .u64 (word st 3:Nat),.int .i64 x1] 240)];exact dD _ (encS st) _) (by simp only[maxLen];omega) (by omega) (by have:=N7.size;simp only[World.size_alloc] at *;omega) ?_;intro a7 c7 w7 iI dn))
   have hB4:=N7.alloc N7.size (.cells (encS st).toArray 113)
   exact⟨⟨k+1,a7,_,c7,hlt,by push_cast;rfl,rfl,by rw[Bh.out];exact iI,below_grown hB4 (hown1.alloc _) dn (Nat.le_refl _) hB4.size⟩,by simp[intOf];omega⟩
  ·obtain rfl:k=ne:=by omega
   rw[←aiW.out,List.take_length] at hown
   obtain⟨es,hes⟩:∃ es,N.edges.map (·.2.1)=es:=⟨_,rfl⟩
   rw[hes] at hown
   have hq:=hown.open.1
   subst hq
   have hpo:=abS a c es wr (hown.slice wX)
   have hpl:=fun(u:World) (hu:Tab u)=>Q5 (bf (RL es)) u hu
   obtain⟨f,hf⟩:∃ f,bf (RL es)=f:=⟨_,rfl⟩
   rw[hf] at hpo hpl
   obtain⟨wd,hwd⟩:∃ wd,iL (RL es)=wd:=⟨_,rfl⟩
   rw[hwd] at hpo
   have hlf:gX N=aI (aW (bH f)) 256:=by rw[←hf,←hes];rfl
   rw[←hes] at hf
   have HPO:=ah hpo;have HPL:=ah hpl;have HFF:=ah hf;have HLF:=ah hlf
   clear hpo hpl hown hes hf hwd hlf
   go_wp2_with (fail)
   refine HPO.out.mono ?_
   rintro e w5 ⟨rfl,hb5⟩
   have bF:=hB.trans (hb5.mono hB.size)
   have wE:=HB8.out.kept bF
   have hth:=wE.agf f
   have N8:=wE.setOf f
   obtain⟨n6,m6,o6,t6,q6⟩:=DC (b:=bp) (aS f).toList 2 w5
   have HX6:=ah N8;have Lc:=ah n6;have HM6:=ah m6;have HO6:=ah (And.intro o6 (And.intro t6 q6))
   clear N8 n6 m6 o6 t6 q6 wE
   go_wp2_with (refine wpList_store_mid rfl 22 (.tmp 52) (.tmp 49) rfl bp 2 (aS f) rfl rfl hth (aT _) (gK _) ?_;refine Stop.go ?_)
   refine Stop.gen ?_
   intro w6 hw6
   rw[←hw6] at HX6 Lc HM6 HO6
   clear hw6 hth
   have kH:Below tb0 w1 w6:=by
    refine(bF.mono (by omega)).trans ⟨HO6.out.1,HO6.out.2.1,HO6.out.2.2,Nat.le_of_eq HM6.out.symm,fun k hk=>Lc.out k (by omega)⟩
   have aiY:Below w.heap.size w w6:=Ub.out.trans (kH.mono (by have:=Ub.out.size;have:=HB0.out.size;omega))
   have hrg:w6.rangeAt bp 2 (aS f).toList:=HX6.out.Ws
   have Dv:=HT.out.kept aiY
   have HB6:=ah kH;have HT6:=ah Dv;have BO:=ah bF;have aiZ:=ah hb5
   clear kH Dv aiY hb5 bF
   go_wp2_with (refine wpList_load_mid rfl 22 (.tmp 56) rfl bp 2 rfl (aS f).toList _ hrg Tryz.underlying22 rfl (by rw[Array.length_toList,aV];rfl) ?_;rw[Array.toArray_toList];clear hrg)
   have adL:=HPL.out w6 HT6.out
   obtain⟨L,hL⟩:∃ L,aI (aW (bH f)) 256=L:=⟨_,rfl⟩
   have ai0:∀ x∈L,x<256:=by rw[←hL];exact lN _ _
   have amX:L.length≤256:=by rw[←hL];exact jT _ _
   rw[hL] at adL HLF
   clear hL
   refine adL.mono ?_
   clear HPL adL
   rintro e w7 ⟨I9,Wu,rfl,iI,hb7⟩
   have hx7:=HX6.out.kept hb7
   have aqp:=hx7.lt
   have aqr:w7.cell? ⟨bp,258,none⟩=some (.slice none 0 0):=(hx7.cell 258).trans (uV _)
   have f258:=hx7.free 258
   obtain⟨w8,hw8⟩:∃ w8,w7.setCell ⟨bp,258,none⟩ (.slice I9 L.length Wu)=w8:=⟨_,rfl⟩
   have Lh:=hx7.set 258 (.slice I9 L.length Wu)
   rw[Ve,hw8] at Lh
   have ho8:=iI.other (w:=w7) ⟨bp,258,none⟩ (.slice I9 L.length Wu) (by have:=HM6.out;have:=aiZ.out.size;have:=BO.out.size;simp only;omega)
   rw[hw8] at ho8
   have hs8:w8.heap.size=w7.heap.size:=by rw[←hw8];exact World.size_setCell _ _ _
   have hk8:∀ k,k≠bp→w8.heap[k]?=w7.heap[k]?:=fun k hk=>by rw[←hw8];exact heap_setCell_other w7 _ k _ hk
   have mW:Below tb0 w7 w8:=by rw[←hw8];exact⟨rfl,rfl,rfl,Nat.le_of_eq (World.size_setCell _ _ _).symm,fun k hk=>heap_setCell_other w7 _ k _ (by simp only;omega)⟩
   have TV:dM w8 (fun b=>∃ ad,I9=some ad∧ad.block=b) (.slice I9 L.length Wu) gY L:=⟨ho8.slice Nh,fun ad n c h=>⟨ad,(Value.slice.inj h).1,rfl⟩⟩
   have N9:∀ b,(∃ ad,I9=some ad∧ad.block=b)→w6.heap.size≤b∧b<w8.heap.size:=by
    rintro b ⟨ad,rfl,rfl⟩
    exact ho8.blk rfl
   have hs6:bp<w6.heap.size:=by have:=HM6.out;have:=aiZ.out.size;have:=BO.out.size;omega
   have ai1:Below tb0 w6 w8:=(hb7.mono (by omega)).trans mW
   have adM:Below tb0 w1 w8:=HB6.out.trans ai1
   have BL:TabAt w8 (tb0+1) tb0 (tb0+2) (.slice none 0 0) []:=by
    have kR:=HT8.out.kept BO.out
    have hlo:=kR.box.lt
    have hq:∀ k,k≠bp→k<w5.heap.size→w8.heap[k]?=w5.heap[k]?:=fun k h1 h2=>(hk8 k h1).trans ((hb7.block k (by rw[HM6.out];exact h2)).trans (Lc.out k h1))
    exact⟨(hq _ (by omega) hlo).trans kR.box,kR.mp.same (hq _ (by omega) kR.mp.lt),Own.nil _ _ _ _ _,kR.lt⟩
   have AO:jI w8 w8.heap.size (fun b=>∃ ad,I9=some ad∧ad.block=b) bp tb0 ⟨m,N.states,f,.slice I9 L.length Wu,tb0+1,.slice none 0 0,.slice none 0 0⟩ (.slice none 0 0) [] []:=by
    have h1:=Lh.lt
    refine⟨Lh,⟨BL.box,BL.mp,Own.nil _ _ _ _ _,BL.box.lt,BL.mp.lt,BL.lt.2.2⟩,⟨[],Own.nil _ _ _ _ _,rfl,fun i h1=>absurd h1 (Nat.not_lt_zero _)⟩,⟨[],Own.nil _ _ _ _ _,rfl,fun i h1=>absurd h1 (Nat.not_lt_zero _)⟩,fun x h=>absurd h (by simp),fun b hb=>(N9 b hb).2,⟨fun h=>?_,fun h=>?_,fun h=>?_⟩,fun g h=>absurd h (by simp[Value.ownBlock]),fun g h=>absurd h (by simp[Value.ownBlock]),fun g h=>absurd h (by simp[Value.ownBlock]),fun g h=>absurd h (by simp[Value.ownBlock]),⟨h1,?_,?_⟩,hs,Nat.le_refl _⟩
    ·have:=N9 _ h;omega
    ·have:=N9 _ h;simp only at this;omega
    ·have:=N9 _ h;omega
    ·simp only;omega
    ·omega
   have hMM:∀ u,Below tb0 w8 u→vX u m lb eb kl ke va N:=fun u hu=>Dq.out.kept ((HM8.out.trans (adM.mono hNs)).trans (hu.mono hNs))
   have hwt:w.heap.size≤tb0:=by have:=HB0.out.size;omega
   have AL:Below w.heap.size w w8:=Ub.out.trans (adM.mono hwt)
   have hTT:∀ u,Below tb0 w8 u→Tab u:=fun u hu=>HT.out.kept (AL.trans (hu.mono hwt))
   have amY:w.heap.size≤w8.heap.size:=by omega
   have hbu:=adB N lb eb kl ke va most L w8.heap.size tb0 bp tb0 ⟨m,N.states,f,.slice I9 L.length Wu,tb0+1,.slice none 0 0,.slice none 0 0⟩ (.slice none 0 0) (fun b=>∃ ad,I9=some ad∧ad.block=b) w8 (hTT w8 (Below.refl _ _)) (hMM w8 (Below.refl _ _)) AO TV (fun b hb=>by have:=N9 b hb;omega) rfl h0 hm1 hm2 amX ai0 (by have:=Lh.lt;simp only;omega) hMM hTT
   have HBU:=ah hbu;have HW8:=ah hw8;have HBE:=ah AL;have Uc:=ah hMM
   clear hbu hw8 AL hMM hTT AO BL adM ai1 N9 TV mW hk8 ho8 Lh iI hb7 hx7 hs8 ai0
   go_wp2_with (fail)
   rw[HW8.out]
   refine HBU.out.mono ?_
   rintro e w9 ⟨hb9,hm9⟩
   have hbr:Below w.heap.size w w9:=HBE.out.trans (hb9.mono hwt)
   have hret:∀ e,(match jQ N most (gX N) (most+1) 0 [fM N [0]] [] with
     | none=>e=.returned (.tuple #[.pointer none,.int .i64 7])
     | some (sets,next)=>∃ bp qB inn mb B kv lb eb kl ke va,e=.returned (.tuple #[.pointer (some ⟨bp,0,none⟩),.int .i64 0])∧jI w9 qB inn bp mb B kv sets next∧dM w9 inn B.lo gY (gX N)∧B.of=bf (RL (N.edges.map (·.2.1)))∧B.st=N.states∧vX w9 B.m lb eb kl ke va N∧w.heap.size≤qB∧∀ b,inn b→w.heap.size≤b)→Qj N most w e w9:=fun e h=>⟨hbr,h⟩
   have adN:=Uc.out w9 hb9
   have MR:=HFF.out
   rw[HLF.out] at hret
   cases hbp:jQ N most L (most+1) 0 [fM N [0]] [] with
   | none =>
    rw[hbp] at hm9 hret
    obtain rfl:=hm9
    have HR:=ah hret
    clear hret hbp adN MR hb9 hbr
    go_wp2
    go_ret2
    exact HR.out _ rfl
   | some r =>
    obtain⟨sets,next⟩:=r
    rw[hbp] at hm9 hret
    obtain⟨rfl,inn,kv,sv,nv,AO,hlo,qA⟩:=hm9
    have HR:=ah (hret (.returned (.tuple #[.pointer (some ⟨bp,0,none⟩),.int .i64 0])) ⟨bp,w8.heap.size,inn,tb0,_,kv,lb,eb,kl,ke,va,rfl,AO,hlo,MR.symm,rfl,adN,amY,fun b hb=>Nat.le_trans hwt (qA b hb)⟩)
    clear hret hbp adN MR hb9 hbr AO hlo
    go_wp2
    go_ret2
    exact HR.out
end
section
open Go.RowKit
theorem abe(l:List Nat)(k:Nat)(h0:0<l.length):decide (Lib.maxOf (l.map fun k:Nat=>(k:Int))≤(k:Int))=l.all (fun x=>decide (x≤k)):=by
 have hf:∀ (l:List Nat) (z:Nat),decide ((l.map fun k:Nat=>(k:Int)).foldl max (z:Int)≤(k:Int))=(decide (z≤k)&&l.all (fun x=>decide (x≤k))):=by
  intro l
  induction l with
  | nil=>intro z;simp
  | cons x l ih =>
   intro z
   rw[List.map_cons,List.foldl_cons,show max (z:Int) (x:Int)=((max z x:Nat):Int) by omega,ih,List.all_cons,←Bool.and_assoc]
   congr 1
   rw[Bool.eq_iff_iff]
   simp only[Bool.and_eq_true,decide_eq_true_eq]
   omega
 obtain⟨x,l,rfl⟩:∃ x t,l=x::t:=by cases l with | nil=>exact absurd h0 (Nat.lt_irrefl _) | cons x t=>exact⟨x,t,rfl⟩
 unfold Lib.maxOf
 rw[List.map_cons,List.headD_cons,List.foldl_cons,Int.max_self,hf,List.all_cons]
theorem adO(l:List Nat)(a:Option Addr)(n cap:Nat)(w:World)(h:ak w (.slice a n cap) 1 aO l)(h0:0<l.length)(hl:l.length≤1099511627776) :
  Calls Tryz.prog 152 #[.slice a n cap] w fun e w'=>e=.returned (.int .i64 (Lib.maxOf (l.map fun k:Nat=>(k:Int))))∧w'=w:=by
 obtain⟨b,o,hn,hc,hc2,ha,hx⟩:=h.dh
 obtain rfl:=ha 0 h0
 subst hn
 have:=Tryz.slices_Max_int b o l.length cap (l.map fun k:Nat=>(k:Int)) w h0 (by simp) (by omega) (fun j hj=>by
  have hj2:j<l.length:=by simpa using hj
  rw[hx j hj2 w (Below.refl _ _)]
  simp[List.getD,hj2])
 rwa[List.take_of_length_le (by simp)] at this
theorem EC{α:Type}{enc:α→List Value}{w:World}{b E:Nat}{v:Value}(x:α)(he:enc x=[v])(h:Box w b #[v] E):ak w (.slice (some ⟨b,0,none⟩) 1 1) 1 enc [x] :=
 ⟨_,b,0,1,rfl,Nat.le_refl _,by simp[maxLen],.inl rfl,fun i hi j u hu=>by
  obtain rfl:i=0:=by simpa using hi
  rw[List.getElem_cons_zero,he] at hu
  obtain rfl:j=0:=by
   have:=(List.getElem?_eq_some_iff.1 hu).1
   simpa using this
  rw[List.getElem?_cons_zero] at hu
  rw[←Option.some.inj hu]
  exact h.cell 0⟩
def D1(names:List (List UInt8)):bC:=⟨fun _=>0,1,[[0]],[0],names⟩
theorem agh:(kE (bf (aW (bH (fun _=>0)))) (fun _=>0)&&((iL (aW (bH (fun _=>0))):Nat)==(1:Int)))=true:=by decide +kernel
theorem abf(names:List (List UInt8)):jC (D1 names)=qj names:=by
 unfold jC D1
 dsimp only
 rw[agh]
 have:jZ ⟨fun _=>0,1,[[0]],[0],names⟩ [[(0:Int)]].length=true:=by
  unfold jZ vS
  simp
 rw[this]
 simp
theorem agi(a b c:Option Addr)(n1 n2 n3 c1 c2 c3:Nat):(((Tryz.zeroCells27.setIfInBounds 256 (Value.int .i64 1)).setIfInBounds 257 (.slice a n1 c1)).setIfInBounds 258 (.slice b n2 c2)).setIfInBounds 259 (.slice c n3 c3)=aG.cells ⟨fun _=>0,1,a,n1,c1,b,n2,c2,c,n3,c3⟩:=by kernel_rfl
theorem agj(V:aG):Tryz.zeroCells27.size=V.cells.size:=by rw[aG.size];kernel_rfl
def yL(N:Nf)(names:List (List UInt8)):Bool:=qj names&&N.accept.all fun x=>decide (x≤names.length)
theorem He(N:Nf)(V:Y3)(names:List (List UInt8))(na:Option Addr)(nc:Nat)(w:World)(h:sZ w N V)(hw:N.wf)(h0:0<N.states)(hs:N.states≤65536)(hn:ak w (.slice na names.length nc) 1 kV names)(hnl:∀ x∈names,x.length≤9223372036854775807) :
  Calls Tryz.prog 108 #[.agg (dF N V),.slice na names.length nc] w (aY w (.bool (yL N names))):=by
 obtain⟨vl,ve,va⟩:=V
 obtain⟨la,lc,hvl⟩:=h.li.form
 obtain⟨ea,ec,lZ⟩:=h.ed.form
 obtain⟨aa,ac,hva⟩:=h.ac.form
 dsimp only at hvl lZ hva
 subst hvl
 subst lZ
 subst hva
 have hB0:=aj w (.cells (dF N ⟨.slice la N.links.length lc,.slice ea N.edges.length ec,.slice aa N.accept.length ac⟩) 121)
 have hx0:Box (w.alloc (.cells (dF N ⟨.slice la N.links.length lc,.slice ea N.edges.length ec,.slice aa N.accept.length ac⟩) 121)) w.heap.size #[.int .i64 N.states,.int .i64 0,.slice la N.links.length lc,.slice ea N.edges.length ec,.slice aa N.accept.length ac] 121:=Box.new w _ _
 have I8:=fun(u:World) (hu:Below w.heap.size w u)=>Pg N ⟨.slice la N.links.length lc,.slice ea N.edges.length ec,.slice aa N.accept.length ac⟩ u (h.kept hu) hw h0 hs
 have hmx:=fun(u:World) (hu:Below w.heap.size w u)=>adO N.accept aa N.accept.length ac u (h.ac.kept hu) (by rw[←hw.st];exact h0) (by rw[←hw.st];omega)
 have hall:=abe N.accept names.length (by rw[←hw.st];exact h0)
 have hnk:=fun(u:World) (hu:Below w.heap.size w u)=>hn.kept hu
 unfold dF at hB0 I8 hx0 ⊢
 dsimp only at hB0 I8 hx0 ⊢
 obtain⟨W0,hW0⟩:∃ W0,w.alloc (.cells #[.int .i64 N.states,.int .i64 0,.slice la N.links.length lc,.slice ea N.edges.length ec,.slice aa N.accept.length ac] 121)=W0:=⟨_,rfl⟩
 rw[hW0] at hB0 hx0
 have HW0:=ah hW0;have HB0:=ah hB0;have HX0:=ah hx0;have HRI:=ah I8;have HMX:=ah hmx;have GX:=ah hall;have HNK:=ah hnk
 clear hW0 hB0 hx0 I8 hmx hall hnk hn h
 go_enter Tryz.func108,Tryz.ntmps108
 go_wp2_with (with_reducible refine Stop.go (p:=wpList _ _ _ ({ dst:=none,op:=.store 27 _ _,type:=_,pos:=_,after:=_,guard:=_ }::_) _ _) ?_)
 simp only[agi]
 obtain⟨U,hU⟩:∃ U:aG,(⟨fun _=>0,1,some ⟨w.heap.size+1+1,0,none⟩,1,1,some ⟨w.heap.size+1+1+1,0,none⟩,1,1,na,names.length,nc⟩:aG)=U:=⟨_,rfl⟩
 simp only[hU]
 have hs5:((((w.alloc (.cells #[.int .i64 N.states,.int .i64 0,.slice la N.links.length lc,.slice ea N.edges.length ec,.slice aa N.accept.length ac] 121)).alloc (.cells #[.int .i64 0] 3)).alloc (.cells #[.slice (some ⟨w.heap.size+1,0,none⟩) 1 1] 24)).alloc (.cells #[.int .i64 0] 3)).heap.size=w.heap.size+1+1+1+1:=by simp only[World.size_alloc]
 refine eX rfl 27 (.tmp 5) (.tmp 10) rfl _ _ rfl rfl hs5.symm (bQ _) (agj _) (aG.all _) ?_
 rw[HW0.out]
 have Yp:W0.heap.size=w.heap.size+1:=by rw[←HW0.out];exact World.size_alloc _ _
 have hb1:=aj W0 (.cells #[.int .i64 0] 3)
 have hb2:=hb1.alloc hb1.size (.cells #[.slice (some ⟨w.heap.size+1,0,none⟩) 1 1] 24)
 have hb3:=hb2.alloc hb2.size (.cells #[.int .i64 0] 3)
 have hb4:=hb3.alloc hb3.size (.cells U.cells 27)
 have hb0:=HB0.out.trans (hb4.mono HB0.out.size)
 have x1:Box (((W0.alloc (.cells #[.int .i64 0] 3)).alloc (.cells #[.slice (some ⟨w.heap.size+1,0,none⟩) 1 1] 24)).alloc (.cells #[.int .i64 0] 3)) (w.heap.size+1) #[.int .i64 0] 3:=((Box.new' Yp.symm _ _).kept (aj _ _)).kept (aj _ _)
 have x2:Box (((W0.alloc (.cells #[.int .i64 0] 3)).alloc (.cells #[.slice (some ⟨w.heap.size+1,0,none⟩) 1 1] 24)).alloc (.cells #[.int .i64 0] 3)) (w.heap.size+1+1) #[.slice (some ⟨w.heap.size+1,0,none⟩) 1 1] 24:=(Box.new' (by rw[World.size_alloc,Yp]) _ _).kept (aj _ _)
 have x3:Box (((W0.alloc (.cells #[.int .i64 0] 3)).alloc (.cells #[.slice (some ⟨w.heap.size+1,0,none⟩) 1 1] 24)).alloc (.cells #[.int .i64 0] 3)) (w.heap.size+1+1+1) #[.int .i64 0] 3:=Box.new' (by rw[World.size_alloc,World.size_alloc,Yp]) _ _
 have x4:Box ((((W0.alloc (.cells #[.int .i64 0] 3)).alloc (.cells #[.slice (some ⟨w.heap.size+1,0,none⟩) 1 1] 24)).alloc (.cells #[.int .i64 0] 3)).alloc (.cells U.cells 27)) (w.heap.size+1+1+1+1) U.cells 27:=Box.new' (by rw[World.size_alloc,World.size_alloc,World.size_alloc,Yp]) _ _
 have y1:=x1.kept (aj _ (.cells U.cells 27))
 have y2:=x2.kept (aj _ (.cells U.cells 27))
 have y3:=x3.kept (aj _ (.cells U.cells 27))
 clear x1 x2 x3 hb1 hb2 hb3 hs5
 generalize ((((W0.alloc (.cells #[.int .i64 0] 3)).alloc (.cells #[.slice (some ⟨w.heap.size+1,0,none⟩) 1 1] 24)).alloc (.cells #[.int .i64 0] 3)).alloc (.cells U.cells 27))=w5 at *
 have hrd:iJ w5 U (D1 names):=by
  subst hU
  refine⟨rfl,rfl,EC (enc:=encI) (0:Int) rfl y3,HNK.out w5 hb0,[.slice (some ⟨w.heap.size+1,0,none⟩) 1 1],EC (enc:=aci) (.slice (some ⟨w.heap.size+1,0,none⟩) 1 1) rfl y2,rfl,fun i h1 h2=>?_⟩
  obtain rfl:i=0:=by simpa using h1
  exact⟨_,_,rfl,EC (enc:=encI) (0:Int) rfl y1⟩
 have hx5:=HX0.out.kept hb4
 have z0:w5.cell? ⟨w.heap.size,0,none⟩=some (.int .i64 N.states):=hx5.cell 0
 have z1:w5.cell? ⟨w.heap.size,1,none⟩=some (.int .i64 0):=hx5.cell 1
 have z2:w5.cell? ⟨w.heap.size,2,none⟩=some (.slice la N.links.length lc):=hx5.cell 2
 have z3:w5.cell? ⟨w.heap.size,3,none⟩=some (.slice ea N.edges.length ec):=hx5.cell 3
 have z4:w5.cell? ⟨w.heap.size,4,none⟩=some (.slice aa N.accept.length ac):=hx5.cell 4
 have I8:=HRI.out w5 hb0
 have hdr:=fun(u:World) (hu:Below w5.heap.size w5 u)=>BD U (D1 names) u (hrd.kept hu) hnl
 rw[abf] at hdr
 have hret:yL N names=(qj names&&decide (Lib.maxOf (N.accept.map fun k:Nat=>(k:Int))≤(names.length:Int))):=by unfold yL;rw[GX.out]
 have HDR:=ah hdr;have BO:=ah hb0;have HX4:=ah x4;have HX5:=ah hx5;have Gf:=ah hret
 clear hU y1 y2 y3 x4 hb4 hb0 hrd hdr hx5 hret HNK GX hnl
 generalize Lib.maxOf (N.accept.map fun k:Nat=>(k:Int))=mx at *
 cases hno:qj names
 ·rw[hno] at HDR Gf
  clear hno
  go_wp2_with (fail)
  refine I8.mono ?_
  rintro e w6 ⟨rfl,hb6⟩
  have hx6:=HX4.out.kept hb6
  have adP:=HDR.out w6 hb6
  have Ud:=BO.out.trans (hb6.mono BO.out.size)
  go_wp2_with (refine bM (by rfl) 27 (.tmp 5) rfl (w.heap.size+1+1+1+1) rfl _ _ _ _ hx6 Tryz.underlying27 rfl (bQ _) ?_)
  refine adP.mono ?_
  rintro e w7 ⟨rfl,hb7⟩
  have Yq:=Ud.trans (hb7.mono Ud.size)
  go_wp2
  go_ret
  exact⟨by rw[Gf.out];rfl,Yq⟩
 ·rw[hno] at HDR Gf
  clear hno
  go_wp2_with (fail)
  refine I8.mono ?_
  rintro e w6 ⟨rfl,hb6⟩
  have hx6:=HX4.out.kept hb6
  have adP:=HDR.out w6 hb6
  have Ud:=BO.out.trans (hb6.mono BO.out.size)
  have amZ:=HX5.out.kept hb6
  go_wp2_with (refine bM (by rfl) 27 (.tmp 5) rfl (w.heap.size+1+1+1+1) rfl _ _ _ _ hx6 Tryz.underlying27 rfl (bQ _) ?_)
  refine adP.mono ?_
  rintro e w7 ⟨rfl,hb7⟩
  have Yq:=Ud.trans (hb7.mono Ud.size)
  have q4:w7.cell? ⟨w.heap.size,4,none⟩=some (.slice aa N.accept.length ac):=(amZ.kept hb7).cell 4
  have am0:=HMX.out w7 Yq
  go_wp2_with (fail)
  refine am0.mono ?_
  rintro e w8 ⟨rfl,hw8⟩
  subst w8
  go_wp2
  go_ret
  exact⟨by rw[Gf.out];rfl,Yq⟩
end
section
open Go.RowKit Go.Shelf
attribute [local go_sem] Oper.semAt_some
theorem Il{α:Type}{w:World}{qB E size:Nat}{enc:α→List Value}{v:Value}{xs:List α}{F:Fence}{n:Nat}{P:Program}{ops:Array Oper}{rest:List Oper}{o:Oper}{a:Act}{Q:Exit→Act→World→Prop}(hgd:o.guard=none)(s x:Operand)(t:TypeId)
  (ho:o.op=.call { callee:=.builtin .append,args:=#[s,x],argTypes:=#[t,t] }) {z:Value} {bytes:Nat} (hE:dQ P t E z size bytes) (he:fB enc size)
  (hs:a.eval s=v) (hown:Own w qB E size enc v xs) (ad:Addr) (c:Nat) (y:α) (hx:a.eval x=.slice (some ad) 1 c) (hnews:∀ j u,(enc y)[j]?=some u→w.cell? (ad.add j)=some u)
  (h63:xs.length+1≤maxLen) (hbytes:(xs.length+1)*bytes≤140737488355328) (hbase:qB≤w.heap.size)
  (h:∀ a' cap' w',Own w' qB E size enc (.slice a' (xs.length+1) cap') (xs++[y])→w.grownBy w' v.ownBlock→((Value.slice a' (xs.length+1) cap').ownBlock=v.ownBlock∨(Value.slice a' (xs.length+1) cap').ownBlock=some w.heap.size)→wpListIn F n P ops Q rest (a.put o.dst (.slice a' (xs.length+1) cap')) w'):wpListIn F n P ops Q (o::rest) a w:=by
 obtain⟨i,hi,hz,hsz,hby⟩:=hE.info
 refine wpListIn_plain hgd fun K hK'=>?_
 obtain⟨v',w',hrun,h2,h3,_⟩:=run_append_own (P:=P) w qB t o.type E i z size bytes hE.slice hi hz hsz hby hE.Hl hE.pos v xs.length (xs.flatMap enc) (hown.rV he) ad 1 c (enc y) (by rw[he.len,Nat.one_mul]) hnews (he.one y) h63 hbytes hbase
 have hb:=zV (c:=c) hE.slice hi hz hsz hby (hown.rV he) (by rw[he.len,Nat.one_mul]) hnews (he.one y) (Nat.succ_pos 0) h63 hbytes hrun
 have hr':Own w' qB E size enc v' (xs++[y]):=by
  refine Own.ofRow ?_ he
  rw[List.length_append,List.flatMap_append]
  simpa using h2
 obtain⟨a',cap',rfl⟩:=hr'.form
 have e:(xs++[y]).length=xs.length+1:=by simp
 rw[e] at hr' hb hrun
 unfold Oper.wpIn
 refine⟨?_,?_⟩
 ·simp[Oper.about,ho,resolve,Target.leads,Sem.run_pure]
 ·rw[Oper.semAt_plain F _ _ (by rw[ho];intro c hc';cases hc')]
  simp[execOp,ho,resolve,invoke,builtin,hs,hx,hrun,Result.andThen]
  exact hK' _ _ (h a' cap' w' hr' h3 hb)
def afj(b B0:Nat)(w:World)(pre:List Nat)(X:Nat→Prop)(W:World):Prop:=(∃ (a:Option Addr) (cap:Nat),Box W b #[.slice a pre.length cap] 24∧Own W B0 3 1 aO (.slice a pre.length cap) pre∧∀ g,(Value.slice a pre.length cap).ownBlock=some g→¬ X g)∧B0≤W.heap.size∧Below b w W∧¬ X b∧(∀ x,X x→B0≤x∧x<W.heap.size)
theorem Ue(b B0:Nat)(w:World)(hb:b<B0):Vw B0 (afj b B0 w):=by
 rintro s X X' A B row ⟨⟨a,cap,h1,h2,h3⟩,h4,h5,h6,h7⟩ hg hr hx
 have hne:∀ k,row=some k→k≠b∧(Value.slice a s.length cap).ownBlock≠some k:=fun k e=>by
  rcases hr k e with h | ⟨h,o,ho,hc⟩
  ·exact⟨fun e2=>h6 (e2▸h),fun e2=>h3 k e2 h⟩
  ·refine⟨by omega,fun e2=>?_⟩
   obtain⟨_,c1,b1⟩:=h2.block k e2
   rw[show A.heap[k]?=_ from b1] at ho
   cases ho;cases hc
 have hsz:=hg.size
 refine⟨⟨a,cap,(hg.block b h1.lt fun e=>(hne b e.symm).1 rfl).trans h1,h2.same fun g hgg=>hg.block g (h2.blk hgg).2 fun e=>(hne g e.symm).2 hgg,fun g hgg hxg=>?_⟩,by omega,?_,fun hxb=>?_,fun x hxx=>?_⟩
 ·rcases hx g hxg with h | h
  ·exact h3 g hgg h
  ·have:=(h2.blk hgg).2;omega
 ·refine h5.grown hg (by omega) fun k e=>?_
  rcases hr k e with h | ⟨h,_⟩
  ·have:=h7 k h;omega
  ·omega
 ·rcases hx b hxb with h | h
  ·exact h6 h
  ·omega
 ·rcases hx x hxx with h | h
  ·have:=h7 x h;omega
  ·omega
set_option maxRecDepth 100000 in
theorem adQ(gf:Nat)(lb:Array Value)(eg:∀ args w,(callFunc gf args).run Tryz.prog w=.ok (.enter gf args) w)(xs:List Nat)(N:Nat)(hN:N≤1048576)(w:World)
  (hseq:QU Tryz.prog gf lb qU (fun b=>b<w.heap.size) (fun ys=>ys=xs) N w) :
  Calls Tryz.prog 245 #[.slice none 0 0,.func (.func gf) #[] lb] w (iU w 3 1 aO xs):=by
 obtain⟨W0,hW0⟩:∃ W0,(w.alloc (.cells #[.slice none 0 0] 24))=W0:=⟨_,rfl⟩
 have hB0:Below w.heap.size w W0:=by rw[←hW0];exact aj _ _
 have hsz0:W0.heap.size=w.heap.size+1:=by rw[←hW0];simp
 have hn0:Box W0 w.heap.size #[.slice none 0 0] 24:=by rw[←hW0];exact Box.new _ _ _
 have HST:=ah hseq
 clear hseq
 refine(callsIn_wide (n:=0)).1 ?_
 refine callsIn_of_wp_marks Tryz.func245 rfl trivial ?_ rfl
 simp only[Tryz.ntmps245,List.size_toArray,List.length_cons,List.length_nil,Nat.reduceAdd,Nat.reduceSub,Array.replicate_succ,Array.replicate_zero,List.push_toArray,List.append_toArray,List.nil_append,List.cons_append]
 gi_wp2
 clear hW0
 refine Xb (gf:=gf) (lb:=lb) rfl eg HST.out hB0 (fun b hb=>by rw[hsz0];exact Nat.lt_succ_of_lt hb) (fun _=>rfl)
  (afj w.heap.size W0.heap.size w) (Ue _ _ _ (by omega)) ⟨⟨none,0,hn0,Own.nil _ _ _ _ _,fun _ h=>by cases h⟩,Nat.le_refl _,hB0,id,fun _ h=>h.elim⟩
  (fun x=>{ tmps:=#[.slice none 0 0,.func (.func gf) #[] lb,.pointer (some ⟨w.heap.size,0,none⟩),undef,.slice none 0 0,.int .i64 (x:Nat),.func (.func gf) #[] lb,.int .i64 (x:Nat),undef,undef,undef,undef,undef],defers:=[] }) ?assign ?body ?done
 case assign =>
  intro l x W K hK
  dsimp only[qU]
  go_simp
  gi_wp2
  exact hK
 case body =>
  rintro l pre x X W ⟨⟨a,cap,hb,hown,hnx⟩,hWs,hB,Wv,hX2⟩ hX hsW hlt
  have c0:=hb.cell 0
  have f0:=hb.free 0
  have hle:pre.length+1≤1048576:=by omega
  have HX:=ah hX;have LM:=ah hX2;have Aw:=ah hnx;have HXB:=ah Wv
  have c0':W.cell? ⟨w.heap.size,0,none⟩=some (.slice a pre.length cap):=c0
  clear hX hX2 hnx Wv c0
  gi_wp2_with (gi_at_builtin;go_must (refine Il rfl _ _ 24 rfl jg dN rfl (hown.alloc _) ⟨W.heap.size,0,none⟩ 1 x rfl (dD W [.int .i64 (x:Nat)] _) (by simp[maxLen];omega) (by omega) (by simp;omega) ?_;intro a' cap' W' hown' hg hf;change (W.alloc _).grownBy W' (Value.slice a pre.length cap).ownBlock at hg;have hbs:=(hb.alloc _).grown (hown.alloc _) hg (by omega);have hfs:=hbs.free 0;have hcs:=hbs.cell 0))
  have hlen':(pre++[x]).length=pre.length+1:=by simp
  have hX:=HX.out;have hX2:=LM.out;have hnx:=Aw.out;have Wv:=HXB.out
  have hg0:W.grownBy W' (Value.slice a pre.length cap).ownBlock:=⟨hg.os,hg.tape,hg.output,by have:=hg.size;simp at this;omega,fun k hk hn=>(hg.block k (by simp;omega) hn).trans (Below.heap_alloc W _ k hk)⟩
  have hsz:=hg0.size
  have hkx:∀ k,X k∨k<w.heap.size→(W'.setCell ⟨w.heap.size,0,none⟩ (.slice a' (pre.length+1) cap')).heap[k]?=W.heap[k]?:=fun k hk=>by
   have hkb:k≠w.heap.size:=by
    rcases hk with h | h
    ·exact fun e=>Wv (e▸h)
    ·omega
   rw[heap_setCell_other _ _ _ _ hkb]
   refine hg0.block k ?_ fun e=>?_
   ·rcases hk with h | h
    ·exact(hX k h).2
    ·omega
   ·rcases hk with h | h
    ·exact hnx k e.symm h
    ·have:=(hown.blk e.symm).1;omega
  refine⟨((KeepsOthers.alloc _ _).trans (KeepsOthers.Jp (hown.alloc _) hg)).trans (KeepsOthers.setCell _ _ _),hkx,⟨a',cap',?_,?_,?_⟩,?_,?_,Wv,fun y hy=>?_⟩
  ·rw[hlen'];exact hbs.set 0 _
  ·rw[hlen'];exact hown'.other _ _ (by simp;omega)
  ·rw[hlen']
   intro g hgg hxg
   rcases hf with e | e
   ·exact hnx g (e▸hgg) hxg
   ·rw[e] at hgg
    cases hgg
    have:=(hX2 _ hxg).2
    simp at this
    omega
  ·rw[World.size_setCell];omega
  ·exact(below_grown (hB.alloc hB.size _) (hown.alloc _) hg (by omega) (by simp;omega)).setCell (by simp) _
  ·rw[World.size_setCell]
   have:=hX2 y hy
   omega
 case done =>
  rintro D ys X W hD rfl ⟨⟨a,cap,hb,hown,hnx⟩,hWs,hB,Wv,hX2⟩ hK
  have c0:=hb.cell 0
  gi_wp2
  refine⟨by simp,.inl ⟨_,_,rfl,run_takeDeferred hK,?_⟩⟩
  refine⟨_,results_tmp rfl _ _ _,a,cap,rfl,?_,hB.trans (belowK_b (w:=w) (Nat.le_refl _) W D _ _ (by omega) hK rfl rfl)⟩
  exact(Cj W0.heap.size W0.heap.size 3 1 aO (fun _:Unit=>.slice a ys.length cap) (fun _=>ys) () _ _ (some D) hown (grownBy_putObj' _ D (.deferred none)) (fun r e=>by cases e;exact⟨by omega,_,hK,rfl⟩)).mono (by omega)
theorem abg(gf:Nat)(lb:Array Value)(eg:∀ args w,(callFunc gf args).run Tryz.prog w=.ok (.enter gf args) w)(xs:List Nat)(N:Nat)(hN:N≤1048576)(w:World)
  (hseq:QU Tryz.prog gf lb qU (fun b=>b<w.heap.size) (fun ys=>ys=xs) N w) :
  Calls Tryz.prog 216 #[.func (.func gf) #[] lb] w (iU w 3 1 aO xs):=by
 have H:=ah (adQ gf lb eg xs N hN w hseq)
 clear hseq
 go_enter Tryz.func216,Tryz.ntmps216
 go_wp2_with (go_at_call 245;go_must (refine H.out.mono ?_;rintro e w2 ⟨a,cap,rfl,ho,hb⟩))
 go_ret
 exact⟨a,cap,rfl,ho,hb⟩
def zG(l:List Nat):List Nat:=l.mergeSort fun x y=>decide (x≤y)
theorem Po(l:List Nat):(zG l).map (fun k:Nat=>(k:Int))=(l.map fun k:Nat=>(k:Int)).mergeSort fun x y=>decide (x≤y):=List.map_mergeSort fun a _ b _=>by rw[decide_eq_decide];omega
theorem mg(l:List Nat):(zG l).length=l.length:=List.length_mergeSort _
theorem abh(l:List Nat)(x:Nat):x∈zG l↔x∈l:=List.mem_mergeSort
theorem adR(xs:List Nat)(b0:Nat)(a:Option Addr)(cap:Nat)(w:World)(h:Own w b0 3 1 aO (.slice a xs.length cap) xs)(hs:xs.length<4611686018427387904) :
  Calls Tryz.prog 217 #[.slice a xs.length cap] w fun e w'=>e=.returned (.tuple #[])∧Own w' b0 3 1 aO (.slice a xs.length cap) (zG xs)∧w.grownBy w' (Value.slice a xs.length cap).ownBlock:=by
 have hrow:=h.rV dN
 obtain⟨a',cap',hv,hle,hm,hh⟩:=h
 obtain⟨rfl,_,rfl⟩:=Value.slice.inj hv
 rcases hh with⟨rfl,rfl⟩ | ⟨g,cur,rfl,hbg,hg,hcs,hx⟩
 ·obtain rfl:xs=[]:=List.eq_nil_of_length_eq_zero (by omega)
  refine(Tryz.slices_Sort_int_none none 0 w).mono fun e w' ⟨he,hw⟩=>⟨he,?_,hw▸⟨rfl,rfl,rfl,Nat.le_refl _,fun _ _ _=>rfl⟩⟩
  have:zG []=[]:=List.eq_nil_of_length_eq_zero (mg [])
  rw[this]
  exact Own.nil _ _ _ _ _
 ·have ht:cur.toList.take (xs.map fun k:Nat=>(k:Int)).length=(xs.map fun k:Nat=>(k:Int)).map (Value.int .i64):=by
   rw[yT,List.length_map]
   rcases hrow.2 with⟨h0,_⟩ | ⟨g',cap',cur',hv',hb',hbox,h1,h2,h3,h4⟩
   ·cases h0
   ·cases hv'
    obtain rfl:cur=cur':=by
     have e1:w.heap[g]?=_:=hg
     have e2:w.heap[g]?=_:=hbox
     rw[e1] at e2
     simpa using e2
    rw[Nat.mul_one] at h4
    exact h4
  have hH:=holds_of_blockI hg ht
  have:=Tryz.slices_Sort_int g 0 cap (xs.map fun k:Nat=>(k:Int)) w hH hg.lt (by rwa[List.length_map])
  rw[List.length_map] at this
  refine this.mono fun e w' ⟨he,n,os,hw⟩=>⟨he,?_,?_⟩
  ·have hr:=ownsRow_sortedI (w:=w) (base:=b0) (g:=g) (cap:=cap) (n:=n) (e:=3) (os:=os) (cur:=cur) (ss:=xs.map fun k:Nat=>(k:Int)) (ts:=(zG xs).map fun k:Nat=>(k:Int)) (by simp[mg]) hbg hg (by rwa[List.length_map]) hm hcs
   rw[Po,←hw] at hr
   rw[←Po,yT,List.length_map] at hr
   have e3:(Value.slice (some ⟨g,0,none⟩) xs.length cap)=.slice (some ⟨g,0,none⟩) (zG xs).length cap:=by rw[mg]
   rw[e3] at hr ⊢
   refine Own.ofRow ?_ dN
   have e4:=hr
   rw[←mg xs] at e4
   exact e4
  ·rw[hw];exact grownBy_sortedI _
theorem adS(gf:Nat)(lb:Array Value)(eg:∀ args w,(callFunc gf args).run Tryz.prog w=.ok (.enter gf args) w)(xs:List Nat)(N:Nat)(hN:N≤1048576)(hx:xs.length≤1048576)(w:World)
  (hseq:QU Tryz.prog gf lb qU (fun b=>b<w.heap.size) (fun ys=>ys=xs) N w) :
  Calls Tryz.prog 173 #[.func (.func gf) #[] lb] w (iU w 3 1 aO (zG xs)):=by
 have H:=ah (abg gf lb eg xs N hN w hseq)
 clear hseq
 go_enter Tryz.func173,Tryz.ntmps173
 go_wp2_with (first | (go_at_call 216;go_must (refine H.out.mono ?_;rintro e w2 ⟨a,cap,rfl,ho,hb⟩)) | (go_at_call 217;go_must (refine(adR xs w.heap.size a cap w2 ho (by omega)).mono ?_;rintro e w3 ⟨rfl,ho3,hg3⟩)))
 go_ret
 refine⟨a,cap,by rw[mg];rfl,by rw[mg];exact ho3,hb.grown hg3 hb.size fun k e=>?_⟩
 exact(ho.blk e).1
end
end Go.Proofs.YtengfapcaaacaaaGreatDoor
