/- The texts of S26, in few letters (mini.py). -/
import Derived.Test.YtbemonecmmnlcaaGreatDoorM25
import Derived.Sort.OwnSortedInts
set_option linter.unusedVariables false
set_option linter.unusedSimpArgs false
set_option maxRecDepth 20000
set_option maxHeartbeats 6400000
namespace Go.Proofs.YtbemonecmmnlcaaGreatDoor
section
open Go.RowKit
theorem adn(m st tb:Nat):((Tryz.zeroCells226.setIfInBounds 0 (Value.pointer (some ⟨m,0,none⟩))).setIfInBounds 1 (Value.int .i64 st)).setIfInBounds 259 (Value.pointer (some ⟨tb,0,none⟩))=bW ⟨m,st,fun _=>0,.slice none 0 0,tb,.slice none 0 0,.slice none 0 0⟩:=by kernel_rfl
theorem Box.setMany{b E:Nat}:∀ (vs:List Value) (o:Nat) (w:World) (c:Array Value),Box w b c E→∃ c',Box (w.setCells b o vs) b c' E∧c'.size=c.size∧∀ i,c'[i]?=if o≤i∧i<o+vs.length∧i<c.size then vs[i - o]? else c[i]?
 | [],o,w,c,h=>⟨c,h,rfl,fun i=>by rw[if_neg];simp;omega⟩
 | v::vs,o,w,c,h=>by
  obtain⟨c',h1,h2,h3⟩:=Box.setMany vs (o+1) (w.setCell ⟨b,o,none⟩ v) _ (h.set o v)
  refine⟨c',h1,by rw[h2,Array.size_setIfInBounds],fun i=>?_⟩
  rw[h3,Array.size_setIfInBounds,Array.getElem?_setIfInBounds,List.length_cons]
  by_cases e:o=i
  ·subst e
   by_cases hc:o<c.size
   ·rw[if_neg (by omega),if_pos rfl,if_pos hc,if_pos (by omega)];simp
   ·rw[if_neg (by omega),if_pos rfl,if_neg hc,if_neg (by omega),Array.getElem?_eq_none (by omega)]
  ·by_cases h4:o+1≤i∧i<o+1+vs.length∧i<c.size
   ·rw[if_pos h4,if_pos (by omega)]
    obtain⟨d,rfl⟩:∃ d,i=o+1+d:=⟨i - (o+1),by omega⟩
    rw[show o+1+d - (o+1)=d by omega,show o+1+d - o=d+1 by omega,List.getElem?_cons_succ]
   ·rw[if_neg h4,if_neg e,if_neg (by omega)]
theorem mF{b:Nat}:∀ (vs:List Value) (o:Nat) (w:World),(∀ k,k≠b→(w.setCells b o vs).heap[k]?=w.heap[k]?)∧(w.setCells b o vs).heap.size=w.heap.size∧(w.setCells b o vs).os=w.os∧(w.setCells b o vs).tape=w.tape∧(w.setCells b o vs).output=w.output
 | [],o,w=>⟨fun _ _=>rfl,rfl,rfl,rfl,rfl⟩
 | v::vs,o,w=>by
  obtain⟨h1,h2,h3,h4,h5⟩:=mF (b:=b) vs (o+1) (w.setCell ⟨b,o,none⟩ v)
  exact⟨fun k hk=>(h1 k hk).trans (heap_setCell_other w ⟨b,o,none⟩ k v hk),h2.trans (World.size_setCell _ _ _),h3,h4,h5⟩
theorem Box.setOf{w:World}{b:Nat}{B:iP}{E:Nat}(h:Box w b (bW B) E)(f:Nat→Nat):Box (w.setCells b 2 (aT f).toList) b (bW { B with of:=f }) E:=by
 obtain⟨c',h1,h2,h3⟩:=Box.setMany (aT f).toList 2 w _ h
 have hl:(aT f).toList.length=256:=by rw[Array.length_toList,aO]
 rw[qO] at h2 h3
 rw[hl] at h3
 have e:c'=bW { B with of:=f }:=by
  refine wX h2 ?_ ?_ ?_ ?_ ?_ ?_ ?_
  ·rw[h3,if_neg (by omega)];exact jw B
  ·rw[h3,if_neg (by omega)];exact qQ B
  ·intro i hi
   rw[h3,if_pos (by omega),show 2+i - 2=i by omega,Array.getElem?_toList,fF _ _ hi]
  ·rw[h3,if_neg (by omega)];exact rO B
  ·rw[h3,if_neg (by omega)];exact rP B
  ·rw[h3,if_neg (by omega)];exact jB B
  ·rw[h3,if_neg (by omega)];exact rQ B
 rw[←e];exact h1
theorem Box.SN{w:World}{b:Nat}{B:iP}{E:Nat}(h:Box w b (bW B) E):w.rangeAt b 2 (aT B.of).toList:=fun j v hv=>by
 have hj:j<256:=by have:=(List.getElem?_eq_some_iff.1 hv).1;rwa[Array.length_toList,aO] at this
 rw[h.cell,rM B j hj]
 rw[Array.getElem?_toList,fF _ _ hj] at hv
 exact hv
theorem Box.ado{w:World}{b:Nat}{B:iP}{E:Nat}(h:Box w b (bW B) E)(f:Nat→Nat):w.there b 2 (aT f).size:=fun j hj=>by
 rw[aO] at hj
 exact⟨by rw[h.cell,rM B j hj];rfl,h.free _⟩
theorem Ri(B:iP)(v:Value):(bW B).setIfInBounds 258 v=bW { B with lo:=v }:=by
 refine wX (by rw[Array.size_setIfInBounds,qO]) ?_ ?_ ?_ ?_ ?_ ?_ ?_
 ·rw[dY _ _ _ _ (by decide),if_neg (by decide)];exact jw B
 ·rw[dY _ _ _ _ (by decide),if_neg (by decide)];exact qQ B
 ·intro i hi;rw[dY _ _ _ _ (by decide),if_neg (by omega)];exact rM B i hi
 ·rw[dY _ _ _ _ (by decide),if_pos rfl]
 ·rw[dY _ _ _ _ (by decide),if_neg (by decide)];exact rP B
 ·rw[dY _ _ _ _ (by decide),if_neg (by decide)];exact jB B
 ·rw[dY _ _ _ _ (by decide),if_neg (by decide)];exact rQ B
def fP(N:Nf):List Nat:=aK (bH (eu (bf (RL (N.edges.map (·.2.1)))))) 256
def Nh(N:Nf)(most:Nat)(w:World)(e:Ending)(w':World):Prop :=
 Below w.heap.size w w'∧match ji N most (fP N) (most+1) 0 [fA N [0]] [] with
 | none=>e=.returned (.tuple #[.pointer none,.int .i64 7])
 | some (sets,next)=>∃ bp base inn mb B kv lb eb kl ke va,e=.returned (.tuple #[.pointer (some ⟨bp,0,none⟩),.int .i64 0])∧jc w' base inn bp mb B kv sets next∧dD w' inn B.lo gX (fP N)∧B.of=bf (RL (N.edges.map (·.2.1)))∧B.st=N.states∧sU w' B.m lb eb kl ke va N∧w.heap.size≤base∧∀ b,inn b→w.heap.size≤b
theorem Yk(N:Nf)(V:Y3)(most:Nat)(w:World)(h:qE w N V)(hw:N.wf)(h0:0<N.states)(hs:N.states≤65536)(hl:N.links.length≤1099511627776)(he:N.edges.length≤65536)(hm1:1≤most)(hm2:most≤65536)(hT:Tab w) :
  Calls Tryz.prog 148 #[.agg (bZ N V),.int .i64 most] w (Nh N most w):=by
 obtain⟨vl,ve,va⟩:=V
 obtain⟨la,lc,hvl⟩:=h.li.form
 obtain⟨ea,ec,kL⟩:=h.ed.form
 obtain⟨aa,ac,hva⟩:=h.ac.form
 dsimp only at hvl kL hva
 subst hvl
 subst kL
 subst hva
 have hB0:=aj w (.cells (bZ N ⟨.slice la N.links.length lc,.slice ea N.edges.length ec,.slice aa N.accept.length ac⟩) 157)
 have hx0:Box (w.alloc (.cells (bZ N ⟨.slice la N.links.length lc,.slice ea N.edges.length ec,.slice aa N.accept.length ac⟩) 157)) w.heap.size #[.int .i64 N.states,.int .i64 0,.slice la N.links.length lc,.slice ea N.edges.length ec,.slice aa N.accept.length ac] 157:=Box.new w _ _
 have hnew:=fun(u:World) (hu:Below w.heap.size w u)=>afm N ⟨.slice la N.links.length lc,.slice ea N.edges.length ec,.slice aa N.accept.length ac⟩ u (h.kept hu) hw h0 hs hl he
 unfold bZ at hB0 hnew hx0 ⊢
 dsimp only at hB0 hnew hx0 ⊢
 obtain⟨W0,hW0⟩:∃ W0,w.alloc (.cells #[.int .i64 N.states,.int .i64 0,.slice la N.links.length lc,.slice ea N.edges.length ec,.slice aa N.accept.length ac] 157)=W0:=⟨_,rfl⟩
 rw[hW0] at hB0 hx0
 have HW0:=ah hW0;have HB0:=ah hB0;have HX0:=ah hx0;have Jk:=ah hnew;have um:=ah h;have HT:=ah hT
 have anx:decide ((most:Int)<1)=false:=decide_eq_false (by omega)
 have anz:decide ((65536:Int)<(most:Int))=false:=decide_eq_false (by omega)
 clear hW0 hB0 hx0 hnew h hT
 go_enter Tryz.func148,Tryz.ntmps148
 go_wp2_with (go_at_call 194;go_must (rw[HW0.out];refine(Jk.out W0 HB0.out).mono ?_;rintro e wM ⟨m,lb,eb,kl,ke,va,rfl,hM1,hb1⟩;have Af:=ah hM1;clear hM1))
 have hBW:Below W0.heap.size W0 wM:=hb1
 have hB:Below W0.heap.size W0 wM.drew:=hBW.trans ((Below.refl wM.heap.size wM).drew.mono hBW.size)
 have HF:Hid (∀ u,Later wM.drew u→Box u w.heap.size #[.int .i64 N.states,.int .i64 0,.slice la N.links.length lc,.slice ea N.edges.length ec,.slice aa N.accept.length ac] 157∧Below wM.heap.size wM u∧Below W0.heap.size W0 u):=ah fun u hl =>
  ⟨HX0.out.kept (hB.trans (hl.mono hB.size)),(Below.refl wM.heap.size wM).drew.trans hl,hB.trans (hl.mono hB.size)⟩
 clear hBW hb1 hB
 refine aW (R:=Later) 7 (by kernel_rfl) ?_
 refine pl [0,1,2] ?_
 repeat
  refine jW ?_ rfl (fun w1 hl=>?_) ?_
  rotate_left
  ·have hx:=(HF.out w1 hl).1;have x0:=hx.cell 0;go_simp;try with_reducible rfl
  simp only[eA,eB,eC,Act.put,eD,eE,eF]
 refine eX ?_
 refine aQ (t:=7) (i:=3) (by kernel_rfl) rfl (fun w1 hl K hK=>?_)
 obtain⟨hX,hM,hBw⟩:=HF.out w1 hl
 have hin:=UC w1
 clear hl
 go_simp
 refine hin.mono ?_
 rintro e w5 ⟨rfl,rE,hs5,hb5⟩
 refine hK.out _ _ (fun _=>hb5) ?_
 clear hK K hin
 have Ai:=hX.kept hb5
 have SQ:=hM.trans (hb5.mono hM.size)
 have hNs:=hM.size
 have zN:=hBw.trans (hb5.mono hBw.size)
 have anA:=hBw.size
 clear hX hM hBw hb5
 generalize w1.heap.size=tb0 at *
 refine kP 4 ?_ rfl (fun w1 hl=>?_) ?_
 rotate_left
 ·skip;go_simp;try with_reducible rfl
 simp only[eA,eB,eC,Act.put,eD,eE,eF]
 refine aQ (t:=7) (i:=5) (by kernel_rfl) rfl (fun w1 hl K hK=>?_)
 have rV:=Ai.kept hl
 have LX:=SQ.trans (hl.mono SQ.size)
 have Aj:=rE.kept hl
 have aaB:=zN.trans (hl.mono zN.size)
 have aj2:=hl.size
 clear hl Ai SQ rE zN
 go_simp
 simp only[adn]
 refine hK.out _ _ (fun _=>aj _ _) ?_
 clear hK K
 have hbB:=Box.new w1 (bW ⟨m,N.states,fun _=>0,.slice none 0 0,tb0+1,.slice none 0 0,.slice none 0 0⟩) 226
 have hb7:=aj w1 (.cells (bW ⟨m,N.states,fun _=>0,.slice none 0 0,tb0+1,.slice none 0 0,.slice none 0 0⟩) 226)
 have FP:=rV.kept hb7
 have hM7:=LX.trans (hb7.mono LX.size)
 have hT7:=Aj.kept hb7
 have G5:=aaB.trans (hb7.mono aaB.size)
 have aj3:tb0+2≤w1.heap.size:=by omega
 clear hb7 rV LX Aj aaB aj2 HF hs5
 generalize (w1.alloc (.cells (bW ⟨m,N.states,fun _=>0,.slice none 0 0,tb0+1,.slice none 0 0,.slice none 0 0⟩) 226))=wq at *
 generalize w1.heap.size=bp at *
 refine kP 6 ?_ rfl (fun w1 hl=>?_) ?_
 rotate_left
 ·skip;go_simp;try with_reducible rfl
 simp only[eA,eB,eC,Act.put,eD,eE,eF]
 refine bC (by kernel_rfl) (fun w1 hl=>?_) _
 have P5:=FP.kept hl
 have hM8:=hM7.trans (hl.mono hM7.size)
 have zh:=hT7.kept hl
 have yw:=hbB.kept hl
 have yu:=G5.trans (hl.mono G5.size)
 have aj1:=yu.size
 have anB:=yw.lt
 clear hl FP hM7 hT7 G5 hbB
 have z3:w1.cell? ⟨w.heap.size,3,none⟩=some (.slice ea N.edges.length ec):=P5.cell 3
 have ajy:=P5.lt
 obtain⟨Ye,eo,_,X5,afg,hea,hex⟩:=um.out.ed.open
 have hce:∀ (u:World) (k:Nat) (hk:k<N.edges.length),Below w.heap.size w u→(∀ j x,(fD N.edges[k])[j]?=some x→u.cell? ⟨Ye,eo+k*6+j,none⟩=some x):=fun u k hk hB j x hu=>by
  have e0:=hex k hk j x hu
  exact(hB.cell (World.block_lt_of_cell? w _ e0)).trans e0
 have afW:=HB0.out.trans (yu.mono HB0.out.size)
 have HX8:=ah P5;have HM8:=ah hM8;have HT8:=ah zh;have HB8:=ah yw;have P6:=ah afW;have II:=ah hce;have X6:=ah hea
 clear P5 hM8 zh yw yu afW hce hea hex
 obtain⟨ne,hne⟩:∃ ne,N.edges.length=ne:=⟨_,rfl⟩
 have afX:=ah hne
 rw[hne] at z3 X5 he
 clear hne
 obtain⟨W2,hW2⟩:∃ W2,w1=W2:=⟨_,rfl⟩
 subst hW2
 go_wp2
 clear z3
 go_loopw [9,35] (fun v i wr=>∃ (k:Nat) (a:Option Addr) (q c:Nat),k≤ne∧i=.int .i64 k∧v=.slice a q c∧Own wr w1.heap.size 149 4 encS (.slice a q c) ((N.edges.take k).map (·.2.1))∧Below w1.heap.size w1 wr) (fun _ i _=>ne - (intOf i).toNat)
 case atStart=>exact⟨0,none,0,0,Nat.zero_le _,rfl,rfl,Own.nil _ _ _ _ _,Below.refl _ _⟩
 case round =>
  obtain⟨k,a,q,c,hk,rfl,rfl,hown,hB⟩:=hrel
  have hBr:=P6.out.trans (hB.mono P6.out.size)
  by_cases hlt:k<ne
  ·have hlk:k<N.edges.length:=by rw[afX.out];exact hlt
   obtain rfl:=X6.out k hlk
   have hcc:=II.out wr k hlk hBr
   have htk:(N.edges.take (k+1)).map (·.2.1)=(N.edges.take k).map (·.2.1)++[N.edges[k].2.1]:=by rw[List.take_succ_eq_append_getElem hlk,List.map_append];rfl
   have hlen:((N.edges.take k).map (·.2.1)).length≤k:=by rw[List.length_map];exact List.length_take_le _ _
   generalize N.edges[k]=x at *
   obtain⟨x0,st,x1⟩:=x
   dsimp only at htk
   obtain⟨e0,e1,e2,e3,e4,e5⟩:=vI (P:=fun j u=>wr.cell? ⟨Ye,eo+k*6+j,none⟩=some u) x0 st x1 hcc
   rw[Nat.add_zero] at e0
   clear hcc
   have hbl:=World.block_lt_of_cell? wr _ e0
   have hki:(k:Int)<(ne:Int):=by omega
   have hk0:(0:Int)≤(k:Int):=by omega
   generalize (N.edges.take k).map (·.2.1)=ys at *
   have wF:=ah htk
   clear htk
   have hB1:=aj wr (.cells #[.int .i64 x0,.int .u64 (word st 0:Nat),.int .u64 (word st 1:Nat),.int .u64 (word st 2:Nat),.int .u64 (word st 3:Nat),.int .i64 x1] 276)
   have hown1:=hown.kept hB1
   have Kt:=hB.trans (hB1.mono hB.size)
   have hq:=hown.open.1
   have HQ:=ah hq
   clear hq
   go_wp2_with (at_builtin;go_must (refine fJ rfl _ _ 227 rfl NQ zU rfl (hown1.alloc _) ⟨wr.heap.size+1,0,none⟩ 1 st rfl (by rw[←World.size_alloc wr (.cells #[.int .i64 x0,.int .u64 (word st 0:Nat),.int .u64 (word st 1:Nat),.int .u64 (word st 2:Nat),.int .u64 (word st 3:Nat),.int .i64 x1] 276)];exact cZ _ (encS st) _) (by simp only[maxLen];omega) (by omega) (by have:=Kt.size;simp only[World.size_alloc] at *;omega) ?_;intro a7 c7 w7 iy cO))
   have hB4:=Kt.alloc Kt.size (.cells (encS st).toArray 149)
   exact⟨⟨k+1,a7,_,c7,hlt,by push_cast;rfl,rfl,by rw[wF.out];exact iy,below_grown hB4 (hown1.alloc _) cO (Nat.le_refl _) hB4.size⟩,by simp[intOf];omega⟩
  ·obtain rfl:k=ne:=by omega
   rw[←afX.out,List.take_length] at hown
   obtain⟨es,hes⟩:∃ es,N.edges.map (·.2.1)=es:=⟨_,rfl⟩
   rw[hes] at hown
   have hq:=hown.open.1
   subst hq
   have hpo:=Y6 a c es wr (hown.slice zU)
   have hpl:=fun(u:World) (hu:Tab u)=>Oa (bf (RL es)) u hu
   obtain⟨f,hf⟩:∃ f,bf (RL es)=f:=⟨_,rfl⟩
   rw[hf] at hpo hpl
   obtain⟨wd,hwd⟩:∃ wd,iZ (RL es)=wd:=⟨_,rfl⟩
   rw[hwd] at hpo
   have hlf:fP N=aK (bH (eu f)) 256:=by rw[←hf,←hes];rfl
   rw[←hes] at hf
   have HPO:=ah hpo;have HPL:=ah hpl;have HFF:=ah hf;have HLF:=ah hlf
   clear hpo hpl hown hes hf hwd hlf
   go_wp2_with (fail)
   refine HPO.out.mono ?_
   rintro e w5 ⟨rfl,hb5⟩
   have dw:=hB.trans (hb5.mono hB.size)
   have tH:=HB8.out.kept dw
   have hth:=tH.ado f
   have Ku:=tH.setOf f
   obtain⟨n6,m6,o6,t6,q6⟩:=mF (b:=bp) (aT f).toList 2 w5
   have HX6:=ah Ku;have Yl:=ah n6;have P7:=ah m6;have HO6:=ah (And.intro o6 (And.intro t6 q6))
   clear Ku n6 m6 o6 t6 q6 tH
   go_wp2_with (refine wpList_store_mid rfl 22 (.tmp 52) (.tmp 49) rfl bp 2 (aT f) rfl rfl hth (bG _) (jl _) ?_;refine Stop.go ?_)
   refine Stop.gen ?_
   intro w6 hw6
   rw[←hw6] at HX6 Yl P7 HO6
   clear hw6 hth
   have lH:Below tb0 w1 w6:=by
    refine(dw.mono (by omega)).trans ⟨HO6.out.1,HO6.out.2.1,HO6.out.2.2,Nat.le_of_eq P7.out.symm,fun k hk=>Yl.out k (by omega)⟩
   have afZ:Below w.heap.size w w6:=P6.out.trans (lH.mono (by have:=P6.out.size;have:=HB0.out.size;omega))
   have hrg:w6.rangeAt bp 2 (aT f).toList:=HX6.out.SN
   have Aj:=HT.out.kept afZ
   have Lu:=ah lH;have HT6:=ah Aj;have qR:=ah dw;have af0:=ah hb5
   clear lH Aj afZ hb5 dw
   go_wp2_with (refine wpList_load_mid rfl 22 (.tmp 56) rfl bp 2 rfl (aT f).toList _ hrg Tryz.underlying22 rfl (by rw[Array.length_toList,aO];rfl) ?_;rw[Array.toArray_toList];clear hrg)
   have aaC:=HPL.out w6 HT6.out
   obtain⟨L,hL⟩:∃ L,aK (bH (eu f)) 256=L:=⟨_,rfl⟩
   have af2:∀ x∈L,x<256:=by rw[←hL];exact lN _ _
   have aj6:L.length≤256:=by rw[←hL];exact jZ _ _
   rw[hL] at aaC HLF
   clear hL
   refine aaC.mono ?_
   clear HPL aaC
   rintro e w7 ⟨FQ,SS,rfl,iy,hb7⟩
   have hx7:=HX6.out.kept hb7
   have anC:=hx7.lt
   have anD:w7.cell? ⟨bp,258,none⟩=some (.slice none 0 0):=(hx7.cell 258).trans (rO _)
   have f258:=hx7.free 258
   obtain⟨w8,hw8⟩:∃ w8,w7.setCell ⟨bp,258,none⟩ (.slice FQ L.length SS)=w8:=⟨_,rfl⟩
   have Iw:=hx7.set 258 (.slice FQ L.length SS)
   rw[Ri,hw8] at Iw
   have ho8:=iy.other (w:=w7) ⟨bp,258,none⟩ (.slice FQ L.length SS) (by have:=P7.out;have:=af0.out.size;have:=qR.out.size;simp only;omega)
   rw[hw8] at ho8
   have hs8:w8.heap.size=w7.heap.size:=by rw[←hw8];exact World.size_setCell _ _ _
   have hk8:∀ k,k≠bp→w8.heap[k]?=w7.heap[k]?:=fun k hk=>by rw[←hw8];exact heap_setCell_other w7 _ k _ hk
   have yw:Below tb0 w7 w8:=by rw[←hw8];exact⟨rfl,rfl,rfl,Nat.le_of_eq (World.size_setCell _ _ _).symm,fun k hk=>heap_setCell_other w7 _ k _ (by simp only;omega)⟩
   have PW:dD w8 (fun b=>∃ ad,FQ=some ad∧ad.block=b) (.slice FQ L.length SS) gX L:=⟨ho8.slice JF,fun ad n c h=>⟨ad,(Value.slice.inj h).1,rfl⟩⟩
   have Kv:∀ b,(∃ ad,FQ=some ad∧ad.block=b)→w6.heap.size≤b∧b<w8.heap.size:=by
    rintro b ⟨ad,rfl,rfl⟩
    exact ho8.blk rfl
   have hs6:bp<w6.heap.size:=by have:=P7.out;have:=af0.out.size;have:=qR.out.size;omega
   have af4:Below tb0 w6 w8:=(hb7.mono (by omega)).trans yw
   have aaD:Below tb0 w1 w8:=Lu.out.trans af4
   have zh:TabAt w8 (tb0+1) tb0 (tb0+2) (.slice none 0 0) []:=by
    have rE:=HT8.out.kept qR.out
    have hlo:=rE.box.lt
    have hq:∀ k,k≠bp→k<w5.heap.size→w8.heap[k]?=w5.heap[k]?:=fun k h1 h2=>(hk8 k h1).trans ((hb7.block k (by rw[P7.out];exact h2)).trans (Yl.out k h1))
    exact⟨(hq _ (by omega) hlo).trans rE.box,rE.mp.same (hq _ (by omega) rE.mp.lt),Own.nil _ _ _ _ _,rE.lt⟩
   have yx:jc w8 w8.heap.size (fun b=>∃ ad,FQ=some ad∧ad.block=b) bp tb0 ⟨m,N.states,f,.slice FQ L.length SS,tb0+1,.slice none 0 0,.slice none 0 0⟩ (.slice none 0 0) [] []:=by
    have h1:=Iw.lt
    refine⟨Iw,⟨zh.box,zh.mp,Own.nil _ _ _ _ _,zh.box.lt,zh.mp.lt,zh.lt.2.2⟩,⟨[],Own.nil _ _ _ _ _,rfl,fun i h1=>absurd h1 (Nat.not_lt_zero _)⟩,⟨[],Own.nil _ _ _ _ _,rfl,fun i h1=>absurd h1 (Nat.not_lt_zero _)⟩,fun x h=>absurd h (by simp),fun b hb=>(Kv b hb).2,⟨fun h=>?_,fun h=>?_,fun h=>?_⟩,fun g h=>absurd h (by simp[Value.ownBlock]),fun g h=>absurd h (by simp[Value.ownBlock]),fun g h=>absurd h (by simp[Value.ownBlock]),fun g h=>absurd h (by simp[Value.ownBlock]),⟨h1,?_,?_⟩,hs,Nat.le_refl _⟩
    ·have:=Kv _ h;omega
    ·have:=Kv _ h;simp only at this;omega
    ·have:=Kv _ h;omega
    ·simp only;omega
    ·omega
   have hMM:∀ u,Below tb0 w8 u→sU u m lb eb kl ke va N:=fun u hu=>Af.out.kept ((HM8.out.trans (aaD.mono hNs)).trans (hu.mono hNs))
   have hwt:w.heap.size≤tb0:=by have:=HB0.out.size;omega
   have yu:Below w.heap.size w w8:=P6.out.trans (aaD.mono hwt)
   have hTT:∀ u,Below tb0 w8 u→Tab u:=fun u hu=>HT.out.kept (yu.trans (hu.mono hwt))
   have aj7:w.heap.size≤w8.heap.size:=by omega
   have hbu:=aas N lb eb kl ke va most L w8.heap.size tb0 bp tb0 ⟨m,N.states,f,.slice FQ L.length SS,tb0+1,.slice none 0 0,.slice none 0 0⟩ (.slice none 0 0) (fun b=>∃ ad,FQ=some ad∧ad.block=b) w8 (hTT w8 (Below.refl _ _)) (hMM w8 (Below.refl _ _)) yx PW (fun b hb=>by have:=Kv b hb;omega) rfl h0 hm1 hm2 aj6 af2 (by have:=Iw.lt;simp only;omega) hMM hTT
   have Ym:=ah hbu;have HW8:=ah hw8;have HBE:=ah yu;have HMM:=ah hMM
   clear hbu hw8 yu hMM hTT yx zh aaD af4 Kv PW yw hk8 ho8 Iw iy hb7 hx7 hs8 af2
   go_wp2_with (fail)
   rw[HW8.out]
   refine Ym.out.mono ?_
   rintro e w9 ⟨P8,hm9⟩
   have hbr:Below w.heap.size w w9:=HBE.out.trans (P8.mono hwt)
   have hret:∀ e,(match ji N most (fP N) (most+1) 0 [fA N [0]] [] with
     | none=>e=.returned (.tuple #[.pointer none,.int .i64 7])
     | some (sets,next)=>∃ bp base inn mb B kv lb eb kl ke va,e=.returned (.tuple #[.pointer (some ⟨bp,0,none⟩),.int .i64 0])∧jc w9 base inn bp mb B kv sets next∧dD w9 inn B.lo gX (fP N)∧B.of=bf (RL (N.edges.map (·.2.1)))∧B.st=N.states∧sU w9 B.m lb eb kl ke va N∧w.heap.size≤base∧∀ b,inn b→w.heap.size≤b)→Nh N most w e w9:=fun e h=>⟨hbr,h⟩
   have aaE:=HMM.out w9 P8
   have P9:=HFF.out
   rw[HLF.out] at hret
   cases hbp:ji N most L (most+1) 0 [fA N [0]] [] with
   | none =>
    rw[hbp] at hm9 hret
    obtain rfl:=hm9
    have HR:=ah hret
    clear hret hbp aaE P9 P8 hbr
    go_wp2
    go_ret2
    exact HR.out _ rfl
   | some r =>
    obtain⟨sets,next⟩:=r
    rw[hbp] at hm9 hret
    obtain⟨rfl,inn,kv,sv,nv,yx,hlo,nZ⟩:=hm9
    have HR:=ah (hret (.returned (.tuple #[.pointer (some ⟨bp,0,none⟩),.int .i64 0])) ⟨bp,w8.heap.size,inn,tb0,_,kv,lb,eb,kl,ke,va,rfl,yx,hlo,P9.symm,rfl,aaE,aj7,fun b hb=>Nat.le_trans hwt (nZ b hb)⟩)
    clear hret hbp aaE P9 P8 hbr yx hlo
    go_wp2
    go_ret2
    exact HR.out
end
section
open Go.RowKit
theorem Yn(l:List Nat)(k:Nat)(h0:0<l.length):decide (Lib.maxOf (l.map fun k:Nat=>(k:Int))≤(k:Int))=l.all (fun x=>decide (x≤k)):=by
 have hf:∀ (l:List Nat) (z:Nat),decide ((l.map fun k:Nat=>(k:Int)).foldl max (z:Int)≤(k:Int))=(decide (z≤k)&&l.all (fun x=>decide (x≤k))):=by
  intro l
  induction l with
  | nil=>intro z;simp
  | cons x l ih =>
   intro z
   rw[List.map_cons,List.foldl_cons,show max (z:Int) (x:Int)=((max z x:Nat):Int) by omega,ih,List.all_cons,←Bool.and_assoc]
   congr 1
   rw[Bool.eq_iff_iff]
   simp only[Bool.and_eq_true,decide_eq_true_eq]
   omega
 obtain⟨x,l,rfl⟩:∃ x t,l=x::t:=by cases l with | nil=>exact absurd h0 (Nat.lt_irrefl _) | cons x t=>exact⟨x,t,rfl⟩
 unfold Lib.maxOf
 rw[List.map_cons,List.headD_cons,List.foldl_cons,Int.max_self,hf,List.all_cons]
theorem aaF(l:List Nat)(a:Option Addr)(n cap:Nat)(w:World)(h:ak w (.slice a n cap) 1 aI l)(h0:0<l.length)(hl:l.length≤1099511627776) :
  Calls Tryz.prog 193 #[.slice a n cap] w fun e w'=>e=.returned (.int .i64 (Lib.maxOf (l.map fun k:Nat=>(k:Int))))∧w'=w:=by
 obtain⟨b,o,hn,hc,hc2,ha,hx⟩:=h.dG
 obtain rfl:=ha 0 h0
 subst hn
 have:=Tryz.slices_Max_int b o l.length cap (l.map fun k:Nat=>(k:Int)) w h0 (by simp) (by omega) (fun j hj=>by
  have hj2:j<l.length:=by simpa using hj
  rw[hx j hj2 w (Below.refl _ _)]
  simp[List.getD,hj2])
 rwa[List.take_of_length_le (by simp)] at this
theorem BP{α:Type}{enc:α→List Value}{w:World}{b E:Nat}{v:Value}(x:α)(he:enc x=[v])(h:Box w b #[v] E):ak w (.slice (some ⟨b,0,none⟩) 1 1) 1 enc [x] :=
 ⟨_,b,0,1,rfl,Nat.le_refl _,by simp[maxLen],.inl rfl,fun i hi j u hu=>by
  obtain rfl:i=0:=by simpa using hi
  rw[List.getElem_cons_zero,he] at hu
  obtain rfl:j=0:=by
   have:=(List.getElem?_eq_some_iff.1 hu).1
   simpa using this
  rw[List.getElem?_cons_zero] at hu
  rw[←Option.some.inj hu]
  exact h.cell 0⟩
def D1(names:List (List UInt8)):aF:=⟨fun _=>0,1,[[0]],[0],names⟩
theorem adp:(nN (bf (bH (eu (fun _=>0)))) (fun _=>0)&&((iZ (bH (eu (fun _=>0))):Nat)==(1:Int)))=true:=by decide +kernel
theorem Yo(names:List (List UInt8)):o9 (D1 names)=nT names:=by
 unfold o9 D1
 dsimp only
 rw[adp]
 have:kY ⟨fun _=>0,1,[[0]],[0],names⟩ [[(0:Int)]].length=true:=by
  unfold kY vw
  simp
 rw[this]
 simp
theorem adq(a b c:Option Addr)(n1 n2 n3 c1 c2 c3:Nat):(((Tryz.zeroCells27.setIfInBounds 256 (Value.int .i64 1)).setIfInBounds 257 (.slice a n1 c1)).setIfInBounds 258 (.slice b n2 c2)).setIfInBounds 259 (.slice c n3 c3)=au.cells ⟨fun _=>0,1,a,n1,c1,b,n2,c2,c,n3,c3⟩:=by kernel_rfl
theorem adr(V:au):Tryz.zeroCells27.size=V.cells.size:=by rw[au.size];kernel_rfl
def vZ(N:Nf)(names:List (List UInt8)):Bool:=nT names&&N.accept.all fun x=>decide (x≤names.length)
theorem Ei(N:Nf)(V:Y3)(names:List (List UInt8))(na:Option Addr)(nc:Nat)(w:World)(h:qE w N V)(hw:N.wf)(h0:0<N.states)(hs:N.states≤65536)(hn:ak w (.slice na names.length nc) 1 kH names)(hnl:∀ x∈names,x.length≤9223372036854775807) :
  Calls Tryz.prog 147 #[.agg (bZ N V),.slice na names.length nc] w (bV w (.bool (vZ N names))):=by
 obtain⟨vl,ve,va⟩:=V
 obtain⟨la,lc,hvl⟩:=h.li.form
 obtain⟨ea,ec,kL⟩:=h.ed.form
 obtain⟨aa,ac,hva⟩:=h.ac.form
 dsimp only at hvl kL hva
 subst hvl
 subst kL
 subst hva
 have hB0:=aj w (.cells (bZ N ⟨.slice la N.links.length lc,.slice ea N.edges.length ec,.slice aa N.accept.length ac⟩) 157)
 have hx0:Box (w.alloc (.cells (bZ N ⟨.slice la N.links.length lc,.slice ea N.edges.length ec,.slice aa N.accept.length ac⟩) 157)) w.heap.size #[.int .i64 N.states,.int .i64 0,.slice la N.links.length lc,.slice ea N.edges.length ec,.slice aa N.accept.length ac] 157:=Box.new w _ _
 have FN:=fun(u:World) (hu:Below w.heap.size w u)=>LP N ⟨.slice la N.links.length lc,.slice ea N.edges.length ec,.slice aa N.accept.length ac⟩ u (h.kept hu) hw h0 hs
 have hmx:=fun(u:World) (hu:Below w.heap.size w u)=>aaF N.accept aa N.accept.length ac u (h.ac.kept hu) (by rw[←hw.st];exact h0) (by rw[←hw.st];omega)
 have hall:=Yn N.accept names.length (by rw[←hw.st];exact h0)
 have hnk:=fun(u:World) (hu:Below w.heap.size w u)=>hn.kept hu
 unfold bZ at hB0 FN hx0 ⊢
 dsimp only at hB0 FN hx0 ⊢
 obtain⟨W0,hW0⟩:∃ W0,w.alloc (.cells #[.int .i64 N.states,.int .i64 0,.slice la N.links.length lc,.slice ea N.edges.length ec,.slice aa N.accept.length ac] 157)=W0:=⟨_,rfl⟩
 rw[hW0] at hB0 hx0
 have HW0:=ah hW0;have HB0:=ah hB0;have HX0:=ah hx0;have HRI:=ah FN;have HMX:=ah hmx;have D7:=ah hall;have HNK:=ah hnk
 clear hW0 hB0 hx0 FN hmx hall hnk hn h
 go_enter Tryz.func147,Tryz.ntmps147
 go_wp2_with (with_reducible refine Stop.go (p:=wpList _ _ _ ({ dst:=none,op:=.store 27 _ _,type:=_,pos:=_,after:=_,guard:=_ }::_) _ _) ?_)
 simp only[adq]
 obtain⟨U,hU⟩:∃ U:au,(⟨fun _=>0,1,some ⟨w.heap.size+1+1,0,none⟩,1,1,some ⟨w.heap.size+1+1+1,0,none⟩,1,1,na,names.length,nc⟩:au)=U:=⟨_,rfl⟩
 simp only[hU]
 have hs5:((((w.alloc (.cells #[.int .i64 N.states,.int .i64 0,.slice la N.links.length lc,.slice ea N.edges.length ec,.slice aa N.accept.length ac] 157)).alloc (.cells #[.int .i64 0] 3)).alloc (.cells #[.slice (some ⟨w.heap.size+1,0,none⟩) 1 1] 24)).alloc (.cells #[.int .i64 0] 3)).heap.size=w.heap.size+1+1+1+1:=by simp only[World.size_alloc]
 refine jk rfl 27 (.tmp 5) (.tmp 10) rfl _ _ rfl rfl hs5.symm (bU _) (adr _) (au.all _) ?_
 rw[HW0.out]
 have Vj:W0.heap.size=w.heap.size+1:=by rw[←HW0.out];exact World.size_alloc _ _
 have hb1:=aj W0 (.cells #[.int .i64 0] 3)
 have hb2:=hb1.alloc hb1.size (.cells #[.slice (some ⟨w.heap.size+1,0,none⟩) 1 1] 24)
 have hb3:=hb2.alloc hb2.size (.cells #[.int .i64 0] 3)
 have hb4:=hb3.alloc hb3.size (.cells U.cells 27)
 have hb0:=HB0.out.trans (hb4.mono HB0.out.size)
 have x1:Box (((W0.alloc (.cells #[.int .i64 0] 3)).alloc (.cells #[.slice (some ⟨w.heap.size+1,0,none⟩) 1 1] 24)).alloc (.cells #[.int .i64 0] 3)) (w.heap.size+1) #[.int .i64 0] 3:=((Box.new' Vj.symm _ _).kept (aj _ _)).kept (aj _ _)
 have x2:Box (((W0.alloc (.cells #[.int .i64 0] 3)).alloc (.cells #[.slice (some ⟨w.heap.size+1,0,none⟩) 1 1] 24)).alloc (.cells #[.int .i64 0] 3)) (w.heap.size+1+1) #[.slice (some ⟨w.heap.size+1,0,none⟩) 1 1] 24:=(Box.new' (by rw[World.size_alloc,Vj]) _ _).kept (aj _ _)
 have x3:Box (((W0.alloc (.cells #[.int .i64 0] 3)).alloc (.cells #[.slice (some ⟨w.heap.size+1,0,none⟩) 1 1] 24)).alloc (.cells #[.int .i64 0] 3)) (w.heap.size+1+1+1) #[.int .i64 0] 3:=Box.new' (by rw[World.size_alloc,World.size_alloc,Vj]) _ _
 have x4:Box ((((W0.alloc (.cells #[.int .i64 0] 3)).alloc (.cells #[.slice (some ⟨w.heap.size+1,0,none⟩) 1 1] 24)).alloc (.cells #[.int .i64 0] 3)).alloc (.cells U.cells 27)) (w.heap.size+1+1+1+1) U.cells 27:=Box.new' (by rw[World.size_alloc,World.size_alloc,World.size_alloc,Vj]) _ _
 have y1:=x1.kept (aj _ (.cells U.cells 27))
 have y2:=x2.kept (aj _ (.cells U.cells 27))
 have y3:=x3.kept (aj _ (.cells U.cells 27))
 clear x1 x2 x3 hb1 hb2 hb3 hs5
 generalize ((((W0.alloc (.cells #[.int .i64 0] 3)).alloc (.cells #[.slice (some ⟨w.heap.size+1,0,none⟩) 1 1] 24)).alloc (.cells #[.int .i64 0] 3)).alloc (.cells U.cells 27))=w5 at *
 have hrd:kJ w5 U (D1 names):=by
  subst hU
  refine⟨rfl,rfl,BP (enc:=encI) (0:Int) rfl y3,HNK.out w5 hb0,[.slice (some ⟨w.heap.size+1,0,none⟩) 1 1],BP (enc:=Zj) (.slice (some ⟨w.heap.size+1,0,none⟩) 1 1) rfl y2,rfl,fun i h1 h2=>?_⟩
  obtain rfl:i=0:=by simpa using h1
  exact⟨_,_,rfl,BP (enc:=encI) (0:Int) rfl y1⟩
 have hx5:=HX0.out.kept hb4
 have z0:w5.cell? ⟨w.heap.size,0,none⟩=some (.int .i64 N.states):=hx5.cell 0
 have z1:w5.cell? ⟨w.heap.size,1,none⟩=some (.int .i64 0):=hx5.cell 1
 have z2:w5.cell? ⟨w.heap.size,2,none⟩=some (.slice la N.links.length lc):=hx5.cell 2
 have z3:w5.cell? ⟨w.heap.size,3,none⟩=some (.slice ea N.edges.length ec):=hx5.cell 3
 have z4:w5.cell? ⟨w.heap.size,4,none⟩=some (.slice aa N.accept.length ac):=hx5.cell 4
 have FN:=HRI.out w5 hb0
 have hdr:=fun(u:World) (hu:Below w5.heap.size w5 u)=>DK U (D1 names) u (hrd.kept hu) hnl
 rw[Yo] at hdr
 have hret:vZ N names=(nT names&&decide (Lib.maxOf (N.accept.map fun k:Nat=>(k:Int))≤(names.length:Int))):=by unfold vZ;rw[D7.out]
 have HDR:=ah hdr;have qR:=ah hb0;have HX4:=ah x4;have HX5:=ah hx5;have KY:=ah hret
 clear hU y1 y2 y3 x4 hb4 hb0 hrd hdr hx5 hret HNK D7 hnl
 generalize Lib.maxOf (N.accept.map fun k:Nat=>(k:Int))=mx at *
 cases hno:nT names
 ·rw[hno] at HDR KY
  clear hno
  go_wp2_with (fail)
  refine FN.mono ?_
  rintro e w6 ⟨rfl,hb6⟩
  have hx6:=HX4.out.kept hb6
  have aaG:=HDR.out w6 hb6
  have Qa:=qR.out.trans (hb6.mono qR.out.size)
  go_wp2_with (refine dL (by rfl) 27 (.tmp 5) rfl (w.heap.size+1+1+1+1) rfl _ _ _ _ hx6 Tryz.underlying27 rfl (bU _) ?_)
  refine aaG.mono ?_
  rintro e w7 ⟨rfl,hb7⟩
  have Vk:=Qa.trans (hb7.mono Qa.size)
  go_wp2
  go_ret
  exact⟨by rw[KY.out];rfl,Vk⟩
 ·rw[hno] at HDR KY
  clear hno
  go_wp2_with (fail)
  refine FN.mono ?_
  rintro e w6 ⟨rfl,hb6⟩
  have hx6:=HX4.out.kept hb6
  have aaG:=HDR.out w6 hb6
  have Qa:=qR.out.trans (hb6.mono qR.out.size)
  have aj8:=HX5.out.kept hb6
  go_wp2_with (refine dL (by rfl) 27 (.tmp 5) rfl (w.heap.size+1+1+1+1) rfl _ _ _ _ hx6 Tryz.underlying27 rfl (bU _) ?_)
  refine aaG.mono ?_
  rintro e w7 ⟨rfl,hb7⟩
  have Vk:=Qa.trans (hb7.mono Qa.size)
  have q4:w7.cell? ⟨w.heap.size,4,none⟩=some (.slice aa N.accept.length ac):=(aj8.kept hb7).cell 4
  have aj9:=HMX.out w7 Vk
  go_wp2_with (fail)
  refine aj9.mono ?_
  rintro e w8 ⟨rfl,hw8⟩
  subst w8
  go_wp2
  go_ret
  exact⟨by rw[KY.out];rfl,Vk⟩
end
section
open Go.RowKit Go.Shelf
attribute [local go_sem] Oper.semAt_some
theorem EP{α:Type}{w:World}{base E size:Nat}{enc:α→List Value}{v:Value}{xs:List α}{F:Fence}{n:Nat}{P:Program}{ops:Array Oper}{rest:List Oper}{o:Oper}{a:Act}{Q:Exit→Act→World→Prop}(hgd:o.guard=none)(s x:Operand)(t:TypeId)
  (ho:o.op=.call { callee:=.builtin .append,args:=#[s,x],argTypes:=#[t,t] }) {z:Value} {bytes:Nat} (hE:dQ P t E z size bytes) (he:eH enc size)
  (hs:a.eval s=v) (hown:Own w base E size enc v xs) (ad:Addr) (c:Nat) (y:α) (hx:a.eval x=.slice (some ad) 1 c) (hnews:∀ j u,(enc y)[j]?=some u→w.cell? (ad.add j)=some u)
  (h63:xs.length+1≤maxLen) (hbytes:(xs.length+1)*bytes≤140737488355328) (hbase:base≤w.heap.size)
  (h:∀ a' cap' w',Own w' base E size enc (.slice a' (xs.length+1) cap') (xs++[y])→w.grownBy w' v.ownBlock→((Value.slice a' (xs.length+1) cap').ownBlock=v.ownBlock∨(Value.slice a' (xs.length+1) cap').ownBlock=some w.heap.size)→wpListIn F n P ops Q rest (a.put o.dst (.slice a' (xs.length+1) cap')) w'):wpListIn F n P ops Q (o::rest) a w:=by
 obtain⟨i,hi,hz,hsz,hby⟩:=hE.info
 refine wpListIn_plain hgd fun K hK'=>?_
 obtain⟨v',w',hrun,h2,h3,_⟩:=run_append_own (P:=P) w base t o.type E i z size bytes hE.slice hi hz hsz hby hE.Hg hE.pos v xs.length (xs.flatMap enc) (hown.pU he) ad 1 c (enc y) (by rw[he.len,Nat.one_mul]) hnews (he.one y) h63 hbytes hbase
 have hb:=sD (c:=c) hE.slice hi hz hsz hby (hown.pU he) (by rw[he.len,Nat.one_mul]) hnews (he.one y) (Nat.succ_pos 0) h63 hbytes hrun
 have hr':Own w' base E size enc v' (xs++[y]):=by
  refine Own.ofRow ?_ he
  rw[List.length_append,List.flatMap_append]
  simpa using h2
 obtain⟨a',cap',rfl⟩:=hr'.form
 have e:(xs++[y]).length=xs.length+1:=by simp
 rw[e] at hr' hb hrun
 unfold Oper.wpIn
 refine⟨?_,?_⟩
 ·simp[Oper.about,ho,resolve,Target.leads,Sem.run_pure]
 ·rw[Oper.semAt_plain F _ _ (by rw[ho];intro c hc';cases hc')]
  simp[execOp,ho,resolve,invoke,builtin,hs,hx,hrun,Result.andThen]
  exact hK' _ _ (h a' cap' w' hr' h3 hb)
def acy(b B0:Nat)(w:World)(pre:List Nat)(X:Nat→Prop)(W:World):Prop:=(∃ (a:Option Addr) (cap:Nat),Box W b #[.slice a pre.length cap] 24∧Own W B0 3 1 aI (.slice a pre.length cap) pre∧∀ g,(Value.slice a pre.length cap).ownBlock=some g→¬ X g)∧B0≤W.heap.size∧Below b w W∧¬ X b∧(∀ x,X x→B0≤x∧x<W.heap.size)
theorem Qb(b B0:Nat)(w:World)(hb:b<B0):RF B0 (acy b B0 w):=by
 rintro s X X' A B row ⟨⟨a,cap,h1,h2,h3⟩,h4,h5,h6,h7⟩ hg hr hx
 have hne:∀ k,row=some k→k≠b∧(Value.slice a s.length cap).ownBlock≠some k:=fun k e=>by
  rcases hr k e with h | ⟨h,o,ho,hc⟩
  ·exact⟨fun e2=>h6 (e2▸h),fun e2=>h3 k e2 h⟩
  ·refine⟨by omega,fun e2=>?_⟩
   obtain⟨_,c1,b1⟩:=h2.block k e2
   rw[show A.heap[k]?=_ from b1] at ho
   cases ho;cases hc
 have hsz:=hg.size
 refine⟨⟨a,cap,(hg.block b h1.lt fun e=>(hne b e.symm).1 rfl).trans h1,h2.same fun g hgg=>hg.block g (h2.blk hgg).2 fun e=>(hne g e.symm).2 hgg,fun g hgg hxg=>?_⟩,by omega,?_,fun hxb=>?_,fun x hxx=>?_⟩
 ·rcases hx g hxg with h | h
  ·exact h3 g hgg h
  ·have:=(h2.blk hgg).2;omega
 ·refine h5.grown hg (by omega) fun k e=>?_
  rcases hr k e with h | ⟨h,_⟩
  ·have:=h7 k h;omega
  ·omega
 ·rcases hx b hxb with h | h
  ·exact h6 h
  ·omega
 ·rcases hx x hxx with h | h
  ·have:=h7 x h;omega
  ·omega
set_option maxRecDepth 100000 in
theorem aaH(gf:Nat)(lb:Array Value)(eg:∀ args w,(callFunc gf args).run Tryz.prog w=.ok (.enter gf args) w)(xs:List Nat)(N:Nat)(hN:N≤1048576)(w:World)
  (hseq:NW Tryz.prog gf lb oU (fun b=>b<w.heap.size) (fun ys=>ys=xs) N w) :
  Calls Tryz.prog 210 #[.slice none 0 0,.func (.func gf) #[] lb] w (gu w 3 1 aI xs):=by
 obtain⟨W0,hW0⟩:∃ W0,(w.alloc (.cells #[.slice none 0 0] 24))=W0:=⟨_,rfl⟩
 have hB0:Below w.heap.size w W0:=by rw[←hW0];exact aj _ _
 have hsz0:W0.heap.size=w.heap.size+1:=by rw[←hW0];simp
 have hn0:Box W0 w.heap.size #[.slice none 0 0] 24:=by rw[←hW0];exact Box.new _ _ _
 have HST:=ah hseq
 clear hseq
 refine(callsIn_wide (n:=0)).1 ?_
 refine callsIn_of_wp_marks Tryz.func210 rfl trivial ?_ rfl
 simp only[Tryz.ntmps210,List.size_toArray,List.length_cons,List.length_nil,Nat.reduceAdd,Nat.reduceSub,Array.replicate_succ,Array.replicate_zero,List.push_toArray,List.append_toArray,List.nil_append,List.cons_append]
 gi_wp2
 clear hW0
 refine TS (gf:=gf) (lb:=lb) rfl eg HST.out hB0 (fun b hb=>by rw[hsz0];exact Nat.lt_succ_of_lt hb) (fun _=>rfl)
  (acy w.heap.size W0.heap.size w) (Qb _ _ _ (by omega)) ⟨⟨none,0,hn0,Own.nil _ _ _ _ _,fun _ h=>by cases h⟩,Nat.le_refl _,hB0,id,fun _ h=>h.elim⟩
  (fun x=>{ tmps:=#[.slice none 0 0,.func (.func gf) #[] lb,.pointer (some ⟨w.heap.size,0,none⟩),undef,.slice none 0 0,.int .i64 (x:Nat),.func (.func gf) #[] lb,.int .i64 (x:Nat),undef,undef,undef,undef,undef],defers:=[] }) ?assign ?body ?done
 case assign =>
  intro l x W K hK
  dsimp only[oU]
  go_simp
  gi_wp2
  exact hK
 case body =>
  rintro l pre x X W ⟨⟨a,cap,hb,hown,hnx⟩,hWs,hB,SV,hX2⟩ hX hsW hlt
  have c0:=hb.cell 0
  have f0:=hb.free 0
  have hle:pre.length+1≤1048576:=by omega
  have HX:=ah hX;have HX2:=ah hX2;have HNX:=ah hnx;have HXB:=ah SV
  have c0':W.cell? ⟨w.heap.size,0,none⟩=some (.slice a pre.length cap):=c0
  clear hX hX2 hnx SV c0
  gi_wp2_with (gi_at_builtin;go_must (refine EP rfl _ _ 24 rfl iJ dF rfl (hown.alloc _) ⟨W.heap.size,0,none⟩ 1 x rfl (cZ W [.int .i64 (x:Nat)] _) (by simp[maxLen];omega) (by omega) (by simp;omega) ?_;intro a' cap' W' hown' hg hf;change (W.alloc _).grownBy W' (Value.slice a pre.length cap).ownBlock at hg;have hbs:=(hb.alloc _).grown (hown.alloc _) hg (by omega);have hfs:=hbs.free 0;have hcs:=hbs.cell 0))
  have hlen':(pre++[x]).length=pre.length+1:=by simp
  have hX:=HX.out;have hX2:=HX2.out;have hnx:=HNX.out;have SV:=HXB.out
  have hg0:W.grownBy W' (Value.slice a pre.length cap).ownBlock:=⟨hg.os,hg.tape,hg.output,by have:=hg.size;simp at this;omega,fun k hk hn=>(hg.block k (by simp;omega) hn).trans (Below.heap_alloc W _ k hk)⟩
  have hsz:=hg0.size
  have hkx:∀ k,X k∨k<w.heap.size→(W'.setCell ⟨w.heap.size,0,none⟩ (.slice a' (pre.length+1) cap')).heap[k]?=W.heap[k]?:=fun k hk=>by
   have hkb:k≠w.heap.size:=by
    rcases hk with h | h
    ·exact fun e=>SV (e▸h)
    ·omega
   rw[heap_setCell_other _ _ _ _ hkb]
   refine hg0.block k ?_ fun e=>?_
   ·rcases hk with h | h
    ·exact(hX k h).2
    ·omega
   ·rcases hk with h | h
    ·exact hnx k e.symm h
    ·have:=(hown.blk e.symm).1;omega
  refine⟨((KeepsOthers.alloc _ _).trans (KeepsOthers.Gm (hown.alloc _) hg)).trans (KeepsOthers.setCell _ _ _),hkx,⟨a',cap',?_,?_,?_⟩,?_,?_,SV,fun y hy=>?_⟩
  ·rw[hlen'];exact hbs.set 0 _
  ·rw[hlen'];exact hown'.other _ _ (by simp;omega)
  ·rw[hlen']
   intro g hgg hxg
   rcases hf with e | e
   ·exact hnx g (e▸hgg) hxg
   ·rw[e] at hgg
    cases hgg
    have:=(hX2 _ hxg).2
    simp at this
    omega
  ·rw[World.size_setCell];omega
  ·exact(below_grown (hB.alloc hB.size _) (hown.alloc _) hg (by omega) (by simp;omega)).setCell (by simp) _
  ·rw[World.size_setCell]
   have:=hX2 y hy
   omega
 case done =>
  rintro D ys X W hD rfl ⟨⟨a,cap,hb,hown,hnx⟩,hWs,hB,SV,hX2⟩ hK
  have c0:=hb.cell 0
  gi_wp2
  refine⟨by simp,.inl ⟨_,_,rfl,run_takeDeferred hK,?_⟩⟩
  refine⟨_,results_tmp rfl _ _ _,a,cap,rfl,?_,hB.trans (belowK_b (w:=w) (Nat.le_refl _) W D _ _ (by omega) hK rfl rfl)⟩
  exact(zF W0.heap.size W0.heap.size 3 1 aI (fun _:Unit=>.slice a ys.length cap) (fun _=>ys) () _ _ (some D) hown (grownBy_putObj' _ D (.deferred none)) (fun r e=>by cases e;exact⟨by omega,_,hK,rfl⟩)).mono (by omega)
theorem Yp(gf:Nat)(lb:Array Value)(eg:∀ args w,(callFunc gf args).run Tryz.prog w=.ok (.enter gf args) w)(xs:List Nat)(N:Nat)(hN:N≤1048576)(w:World)
  (hseq:NW Tryz.prog gf lb oU (fun b=>b<w.heap.size) (fun ys=>ys=xs) N w) :
  Calls Tryz.prog 162 #[.func (.func gf) #[] lb] w (gu w 3 1 aI xs):=by
 have H:=ah (aaH gf lb eg xs N hN w hseq)
 clear hseq
 go_enter Tryz.func162,Tryz.ntmps162
 go_wp2_with (go_at_call 210;go_must (refine H.out.mono ?_;rintro e w2 ⟨a,cap,rfl,ho,hb⟩))
 go_ret
 exact⟨a,cap,rfl,ho,hb⟩
def vJ(l:List Nat):List Nat:=l.mergeSort fun x y=>decide (x≤y)
theorem LY(l:List Nat):(vJ l).map (fun k:Nat=>(k:Int))=(l.map fun k:Nat=>(k:Int)).mergeSort fun x y=>decide (x≤y):=List.map_mergeSort fun a _ b _=>by rw[decide_eq_decide];omega
theorem kM(l:List Nat):(vJ l).length=l.length:=List.length_mergeSort _
theorem LZ(l:List Nat)(x:Nat):x∈vJ l↔x∈l:=List.mem_mergeSort
theorem aaI(xs:List Nat)(b0:Nat)(a:Option Addr)(cap:Nat)(w:World)(h:Own w b0 3 1 aI (.slice a xs.length cap) xs)(hs:xs.length<4611686018427387904) :
  Calls Tryz.prog 163 #[.slice a xs.length cap] w fun e w'=>e=.returned (.tuple #[])∧Own w' b0 3 1 aI (.slice a xs.length cap) (vJ xs)∧w.grownBy w' (Value.slice a xs.length cap).ownBlock:=by
 have hrow:=h.pU dF
 obtain⟨a',cap',hv,hle,hm,hh⟩:=h
 obtain⟨rfl,_,rfl⟩:=Value.slice.inj hv
 rcases hh with⟨rfl,rfl⟩ | ⟨g,cur,rfl,hbg,hg,hcs,hx⟩
 ·obtain rfl:xs=[]:=List.eq_nil_of_length_eq_zero (by omega)
  refine(Tryz.slices_Sort_int_none none 0 w).mono fun e w' ⟨he,hw⟩=>⟨he,?_,hw▸⟨rfl,rfl,rfl,Nat.le_refl _,fun _ _ _=>rfl⟩⟩
  have:vJ []=[]:=List.eq_nil_of_length_eq_zero (kM [])
  rw[this]
  exact Own.nil _ _ _ _ _
 ·have ht:cur.toList.take (xs.map fun k:Nat=>(k:Int)).length=(xs.map fun k:Nat=>(k:Int)).map (Value.int .i64):=by
   rw[wC,List.length_map]
   rcases hrow.2 with⟨h0,_⟩ | ⟨g',cap',cur',hv',hb',hbox,h1,h2,h3,h4⟩
   ·cases h0
   ·cases hv'
    obtain rfl:cur=cur':=by
     have e1:w.heap[g]?=_:=hg
     have e2:w.heap[g]?=_:=hbox
     rw[e1] at e2
     simpa using e2
    rw[Nat.mul_one] at h4
    exact h4
  have hH:=holds_of_blockI hg ht
  have:=Tryz.slices_Sort_int g 0 cap (xs.map fun k:Nat=>(k:Int)) w hH hg.lt (by rwa[List.length_map])
  rw[List.length_map] at this
  refine this.mono fun e w' ⟨he,n,os,hw⟩=>⟨he,?_,?_⟩
  ·have hr:=ownsRow_sortedI (w:=w) (base:=b0) (g:=g) (cap:=cap) (n:=n) (e:=3) (os:=os) (cur:=cur) (ss:=xs.map fun k:Nat=>(k:Int)) (ts:=(vJ xs).map fun k:Nat=>(k:Int)) (by simp[kM]) hbg hg (by rwa[List.length_map]) hm hcs
   rw[LY,←hw] at hr
   rw[←LY,wC,List.length_map] at hr
   have e3:(Value.slice (some ⟨g,0,none⟩) xs.length cap)=.slice (some ⟨g,0,none⟩) (vJ xs).length cap:=by rw[kM]
   rw[e3] at hr ⊢
   refine Own.ofRow ?_ dF
   have e4:=hr
   rw[←kM xs] at e4
   exact e4
  ·rw[hw];exact grownBy_sortedI _
theorem aaJ(gf:Nat)(lb:Array Value)(eg:∀ args w,(callFunc gf args).run Tryz.prog w=.ok (.enter gf args) w)(xs:List Nat)(N:Nat)(hN:N≤1048576)(hx:xs.length≤1048576)(w:World)
  (hseq:NW Tryz.prog gf lb oU (fun b=>b<w.heap.size) (fun ys=>ys=xs) N w) :
  Calls Tryz.prog 121 #[.func (.func gf) #[] lb] w (gu w 3 1 aI (vJ xs)):=by
 have H:=ah (Yp gf lb eg xs N hN w hseq)
 clear hseq
 go_enter Tryz.func121,Tryz.ntmps121
 go_wp2_with (first | (go_at_call 162;go_must (refine H.out.mono ?_;rintro e w2 ⟨a,cap,rfl,ho,hb⟩)) | (go_at_call 163;go_must (refine(aaI xs w.heap.size a cap w2 ho (by omega)).mono ?_;rintro e w3 ⟨rfl,ho3,hg3⟩)))
 go_ret
 refine⟨a,cap,by rw[kM];rfl,by rw[kM];exact ho3,hb.grown hg3 hb.size fun k e=>?_⟩
 exact(ho.blk e).1
end
end Go.Proofs.YtbemonecmmnlcaaGreatDoor
