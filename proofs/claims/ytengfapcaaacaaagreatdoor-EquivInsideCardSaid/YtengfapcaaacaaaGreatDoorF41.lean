/- EquivInside: two machines tell the same just if each name is told by both of the same words. No condition. The texts of E41, in few letters (mini.py). -/
import Derived.Test.YtengfapcaaacaaaGreatDoorF34
import Derived.Test.YtengfapcaaacaaaGreatDoorF36
set_option linter.unusedVariables false
set_option linter.unusedSimpArgs false
set_option maxRecDepth 20000
set_option maxHeartbeats 12800000
namespace Go.Proofs.YtengfapcaaacaaaGreatDoor
open Go.RowKit Go.ChangeShapes Go.WideShapes Go.ChangeAt
theorem VL{α:Type}{P:Program}{w:World}{o:Oper}{a:Act}{K:Act→World→Prop}{Q:Exit→Act→World→Prop}{base E size bytes:Nat}{enc:α→List Value}{v z:Value}{xs ys:List α}(s x:Operand)(t:TypeId)
  (ho:o.op=.call { callee:=.builtin .append,args:=#[s,x],argTypes:=#[t,t] }) (hE:dI P t E z size bytes) (he:dX enc size) (hs:a.eval s=v) (hown:Own w base E size enc v xs) (xa:Option Addr) (m xc:Nat) (hx:a.eval x=.slice xa m xc) (hsl:au w (.slice xa m xc) size enc ys)
  (h63:xs.length+m≤maxLen) (hbytes:(xs.length+m)*bytes≤140737488355328) (hbase:base≤w.heap.size)
  (h:∀ a' c' w',Own w' base E size enc (.slice a' (xs.length+m) c') (xs++ys)→w.grownBy w' v.ownBlock→K (a.put o.dst (.slice a' (xs.length+m) c')) w'):Oper.wp P o a w K Q:=by
 obtain⟨a',c',w',hr,h2,h3,_⟩:=IW (P:=P) (t:=t) o.type hE he hown xa m xc hsl h63 hbytes hbase
 have hk:=h a' c' w' h2 h3
 unfold Oper.wp execOp
 simp only[ho,resolve,invoke,builtin,Sem.run_bind,Sem.run_pure,Result.andThen_ok,List.map_toArray,List.map_cons,List.map_nil,hs,hx,hr]
 exact hk
theorem PX:dI Tryz.prog 25 9 (.string ⟨#[]⟩) 1 16:=⟨Tryz.underlying25,info_parts (by kernel_rfl),rfl,by decide⟩
theorem Zr(A B:aQ)(l:List (List UInt8))(i:Nat)(h:i<l.length):allIn A B (l.take (i+1))=(allIn A B (l.take i)&&(yF A B l[i]&&yF B A l[i])):=by
 unfold allIn
 rw[List.take_succ_eq_append_getElem h,List.all_append]
 simp
theorem I4{D:aQ}(h:dM D=true):∀ s∈D.names,jh s=true:=by
 have h9:nH D.names=true:=by
  unfold dM at h
  simp only[Bool.and_eq_true] at h
  exact h.2.2.1
 unfold nH at h9
 simp only[Bool.and_eq_true] at h9
 intro s hs
 obtain⟨i,hi,rfl⟩:=List.mem_iff_getElem.1 hs
 have:=h9.2
 unfold oJ at this
 rw[List.all_eq_true] at this
 have h2:=this i (by simpa using hi)
 unfold nameAt at h2
 rw[List.getD_eq_getElem?_getD,List.getElem?_eq_getElem hi,Option.getD_some,Bool.and_eq_true] at h2
 exact h2.1
theorem Zt{α:Type}{P:Program}{w:World}{o:Oper}{a:Act}{K:Act→World→Prop}{Q:Exit→Act→World→Prop}{base E size bytes g:Nat}{enc:α→List Value}{z:Value}{ys:List α}(s x:Operand)(t:TypeId)
  (ho:o.op=.call { callee:=.builtin .append,args:=#[s,x],argTypes:=#[t,t] }) (hE:dI P t E z size bytes) (he:dX enc size) (hs:a.eval s=.slice (some ⟨g,0,none⟩) 0 0) (hown:Own w base E size enc (.slice (some ⟨g,0,none⟩) 0 0) ([]:List α)) (xa:Option Addr) (m xc:Nat) (hx:a.eval x=.slice xa m xc) (hsl:au w (.slice xa m xc) size enc ys)
  (h63:m≤maxLen) (hbytes:m*bytes≤140737488355328) (hbase:base≤w.heap.size)
  (h:∀ a' c' w',Own w' base E size enc (.slice a' m c') ys→Below w.heap.size w w'→K (a.put o.dst (.slice a' m c')) w'):Oper.wp P o a w K Q:=by
 obtain⟨a',c',w',hr,h2,h3,_⟩:=IW (P:=P) (t:=t) o.type hE he hown xa m xc hsl (by rw[List.length_nil,Nat.zero_add];exact h63) (by rw[List.length_nil,Nat.zero_add];exact hbytes) hbase
 rw[List.length_nil,Nat.zero_add,List.nil_append] at h2
 rw[List.length_nil,Nat.zero_add] at hr
 have hB:Below w.heap.size w w':=by
  obtain⟨i,hi,hz,hsz,hby⟩:=hE.info
  obtain⟨b,off,hm,hmc,hc63,ha,_⟩:=hsl.open
  by_cases h0:m=0
  ·subst h0
   obtain rfl:ys=[]:=List.eq_nil_of_length_eq_zero (by omega)
   have hsrc:Src P i.size t (.slice xa 0 xc) 0 [] w:=by
    cases xa with
    | none=>exact Src.ofNil w hE.slice xc
    | some ad=>exact Src.ofSlice w hE.slice ad 0 xc [] (by simp) (fun j u hu=>by simp at hu) (fun u hu=>by cases hu)
   rw[run_append_nothing w _ _ _ E i hE.slice hi (some ⟨g,0,none⟩) 0 0 (Nat.le_refl _) _ hsrc] at hr
   cases hr
   exact Below.refl _ _
  ·obtain rfl:=ha 0 (by omega)
   have hl:(ys.flatMap enc).length=m*i.size:=by rw[iC he.len,hm,hsz]
   rw[run_append_grow (P:=P) w t o.type E i z hE.slice hi hz ⟨g,0,none⟩ 0 0 [] (by simp) (fun j v hv=>by simp at hv) ⟨b,off,none⟩ m xc (ys.flatMap enc) hl (hsl.agx he hE.pos) (by omega) (by have:=h63;simp only[maxLen] at this;omega) (growslice_fits (by omega) (by rw[hby,Nat.zero_add];exact hbytes))] at hr
   injection hr with _ hw
   rw[←hw]
   exact((Below.refl _ w).drew).trans ((aj w.drew _).mono (Nat.le_refl _))
 have hk:=h a' c' w' h2 hB
 unfold Oper.wp execOp
 simp only[ho,resolve,invoke,builtin,Sem.run_bind,Sem.run_pure,Result.andThen_ok,List.map_toArray,List.map_cons,List.map_nil,hs,hx,hr]
 exact hk
theorem MV(VA:aA)(A:aQ)(VB:aA)(B:aQ)(a_t:Option Addr)(tn tc:Nat)(t:List UInt8)(w:World)(hA:aZ w VA A)(oA:∀ b,VA.of b<256)(nA:∀ x∈A.names,x.length≤9223372036854775807)(hB:aZ w VB B)(oB:∀ b,VB.of b<256)(nB:∀ x∈B.names,x.length≤9223372036854775807)(ht:au w (.slice a_t tn tc) 1 gI t)(hT:Tab w)(hM:Ei w) :
  Calls Tryz.prog 4 #[.agg VA.cells,.agg VB.cells,.slice a_t tn tc] w (bF w (.bool true)):=by
 have xA:=(Box.new w VA.cells 27).alloc (.cells VB.cells 27)
 have xB:=Box.new' (World.size_alloc w (.cells VA.cells 27)).symm VB.cells 27
 have hb0:=(aj w (.cells VA.cells 27)).alloc (aj w (.cells VA.cells 27)).size (.cells VB.cells 27)
 have HK:=ah (fun(u:World) (hu:Below w.heap.size w u)=>Xz u (hT.kept hu) (hM.kept hu))
 have kC:=ah (fun(u:World) (hu:Below w.heap.size w u)=>IX VA A 100 u (hA.kept hu) oA nA)
 have kE:=ah (fun(u:World) (hu:Below w.heap.size w u)=>IX VB B 100 u (hB.kept hu) oB nB)
 cases ka:(dM A&&decide ((VA.ln:Int)≤100)) with
 | false =>
  rw[ka] at kC
  clear hA hB nA nB oA oB hT hM ht kE
  go_enter Tryz.func4,Tryz.ntmps4
  go_wp2_with (first | (refine ak (by rfl) 27 _ rfl w.heap.size rfl _ _ _ _ xA Tryz.underlying27 rfl (ay _) ?_))
  refine(kC.out _ hb0).mono ?_
  rintro e w2 ⟨rfl,hb2⟩
  have hB2:=hb0.trans (hb2.mono hb0.size)
  go_wp2_with fail
  refine(HK.out _ hB2).mono ?_
  rintro e w3 ⟨rfl,hb3⟩
  go_wp2
  go_ret
  exact⟨rfl,hB2.trans (hb3.mono hB2.size)⟩
 | true =>
  rw[ka] at kC
  cases kb:(dM B&&decide ((VB.ln:Int)≤100)) with
  | false =>
   rw[kb] at kE
   clear hA hB nA nB oA oB hT hM ht
   go_enter Tryz.func4,Tryz.ntmps4
   go_wp2_with (first | (refine ak (by rfl) 27 _ rfl w.heap.size rfl _ _ _ _ xA Tryz.underlying27 rfl (ay _) ?_))
   refine(kC.out _ hb0).mono ?_
   rintro e w2 ⟨rfl,hb2⟩
   have jc:=xB.kept hb2
   have hB2:=hb0.trans (hb2.mono hb0.size)
   go_wp2_with (first | (refine ak (by rfl) 27 _ rfl (w.heap.size+1) rfl _ _ _ _ jc Tryz.underlying27 rfl (ay _) ?_))
   refine(kE.out _ hB2).mono ?_
   rintro e w3 ⟨rfl,hb3⟩
   have hB3:=hB2.trans (hb3.mono hB2.size)
   go_wp2_with fail
   refine(HK.out _ hB3).mono ?_
   rintro e w4 ⟨rfl,hb4⟩
   go_wp2
   go_ret
   exact⟨rfl,hB3.trans (hb4.mono hB3.size)⟩
  | true =>
   rw[kb] at kE
   rw[Bool.and_eq_true] at ka kb
   have rA:=ka.1
   have rB:=kb.1
   have wA:=nN rA
   have wB:=nN rB
   have hbb:both A B=true:=by unfold both;rw[rA,rB];rfl
   have HE:Hid (∀ u:World,Below w.heap.size w u→Calls Tryz.prog 12 #[.agg VA.cells,.agg VB.cells] u (bF u (.tuple #[.bool (EG A B),.int .i64 0]))):=ah fun u hu=>by
    have:=JM VA VB A B u (hA.kept hu) (hB.kept hu) nA nB (hT.kept hu)
    rwa[hbb,Bool.true_and,if_pos rfl] at this
   have HI:Hid (∀ (u:World),Below w.heap.size w u→∀ s,s.length≤9223372036854775807→jh s=true→Calls Tryz.prog 14 #[.agg VA.cells,.agg VB.cells,sv s] u (bF u (.tuple #[.bool (yF A B s),.int .i64 0]))∧Calls Tryz.prog 14 #[.agg VB.cells,.agg VA.cells,sv s] u (bF u (.tuple #[.bool (yF B A s),.int .i64 0]))):=ah fun u hu s hs hn=>by
    have h1:=BH VA VB A B s hs u (hA.kept hu) (hB.kept hu) nA nB (hT.kept hu)
    have h2:=BH VB VA B A s hs u (hB.kept hu) (hA.kept hu) nB nA (hT.kept hu)
    have apL:both B A=true:=by unfold both;rw[rA,rB];rfl
    rw[hbb,hn,Bool.true_and,Bool.true_and,if_pos rfl,if_pos rfl] at h1
    rw[apL,hn,Bool.true_and,Bool.true_and,if_pos rfl,if_pos rfl] at h2
    exact⟨h1,h2⟩
   have oW:=ah (fun(u:World) (hu:Below w.heap.size w u)=>And.intro (UG VA A t a_t tn tc u (hA.kept hu) nA rA (ht.kept hu)) (UG VB B t a_t tn tc u (hB.kept hu) nB rB (ht.kept hu)))
   have Dl:∀ s∈A.names++B.names,s.length≤9223372036854775807∧jh s=true:=fun s hs=>by
    rcases List.mem_append.1 hs with h | h
    ·exact⟨nA s h,I4 rA s h⟩
    ·exact⟨nB s h,I4 rB s h⟩
   have alO:=ah (ahv wA wB (fun s hs=>by rintro rfl;exact absurd (Dl _ hs).2 (by decide)))
   have alP:=ah (fun s h=>aeZ wA wB (s:=s) h t)
   have ath:A.names.length≤64:=wA.names
   have ati:B.names.length≤64:=wB.names
   obtain⟨e1,e2,e3⟩:=hA.lens
   obtain⟨f1,f2,f3⟩:=hB.lens
   have Xq:=ah (fun(u:World) (hu:Below w.heap.size w u)=>And.intro (hA.kept hu).2.2.2.1 (hB.kept hu).2.2.2.1)
   have Sv:=ah Dl
   have HAS:=ah (Zr A B (A.names++B.names))
   have HE2:=ah (And.intro e2 f2)
   have atj:VA.mn≤64:=by omega
   have atl:VB.mn≤64:=by omega
   clear hA hB nA nB oA oB hT hM ht wA wB ka kb rA rB hbb Dl e1 e3 f1 f3 e2 f2
   go_enter Tryz.func4,Tryz.ntmps4
   go_wp2_with (first | (refine ak (by rfl) 27 _ rfl w.heap.size rfl _ _ _ _ xA Tryz.underlying27 rfl (ay _) ?_))
   refine(kC.out _ hb0).mono ?_
   rintro e w2 ⟨rfl,hb2⟩
   have mQ:=xA.kept hb2
   have jc:=xB.kept hb2
   have hB2:=hb0.trans (hb2.mono hb0.size)
   go_wp2_with (first | (refine ak (by rfl) 27 _ rfl (w.heap.size+1) rfl _ _ _ _ jc Tryz.underlying27 rfl (ay _) ?_))
   refine(kE.out _ hB2).mono ?_
   rintro e w3 ⟨rfl,hb3⟩
   have mV:=mQ.kept hb3
   have lH:=jc.kept hb3
   have hB3:=hB2.trans (hb3.mono hB2.size)
   clear xA xB mQ jc hB2 hb2 hb3
   have HF:Hid (∀ u,Later w3.drew u→Box u w.heap.size VA.cells 27∧Box u (w.heap.size+1) VB.cells 27∧Below w.heap.size w u∧w3.heap.size≤u.heap.size):=ah fun u hu=>⟨mV.kept (dl hu),lH.kept (dl hu),hB3.trans ((dl hu).mono hB3.size),(dl hu).size⟩
   have hsz3:w.heap.size+1<w3.heap.size:=lH.lt
   clear mV lH hB3
   go_wp2_with fail
   refine jG (R:=Later) [6,6] (by kernel_rfl) ?_
   refine EY 1 ?_ rfl (fun w1=>?_) ?_
   rotate_left
   ·go_simp;try with_reducible rfl
   simp only[eA,eB,eC,Act.put,eD,eE,eF]
   refine CJ 2 ?_ rfl (fun w1 hl=>?_) ?_
   rotate_left
   ·obtain⟨hx,hy,_⟩:=HF.out w1 hl;obtain⟨_,_,_,q1⟩:=hx.ig;obtain⟨_,_,_,q2⟩:=hy.ig;have l0:=hx.lt;have l1:=hy.lt;go_simp;try with_reducible rfl
   simp only[eA,eB,eC,Act.put,eD,eE,eF]
   refine EY 4 ?_ rfl (fun w1=>?_) ?_
   rotate_left
   ·go_simp;try with_reducible rfl
   simp only[eA,eB,eC,Act.put,eD,eE,eF]
   refine CJ 5 ?_ rfl (fun w1 hl=>?_) ?_
   rotate_left
   ·obtain⟨hx,hy,_⟩:=HF.out w1 hl;obtain⟨_,_,_,q1⟩:=hx.ig;obtain⟨_,_,_,q2⟩:=hy.ig;have l0:=hx.lt;have l1:=hy.lt;go_simp;try with_reducible rfl
   simp only[eA,eB,eC,Act.put,eD,eE,eF]
   refine eP (T:=[6,6]) (i:=0) (by kernel_rfl) rfl (fun w1 hl K hK=>?_)
   obtain⟨hx,hy,hBw,hb3⟩:=HF.out w1 hl
   clear hl HF
   go_simp
   refine hK.out _ _ (fun _=>aj w1 _) ?_
   clear hK K
   have ho:=Own.empty' (w:=w1) rfl w3.heap.size 9 1 jl hb3
   have hal:=aj w1 (.cells #[] 9)
   have hx2:=hx.kept hal
   have hy2:=hy.kept hal
   have hBw2:=hBw.trans (hal.mono hBw.size)
   have hb4:w3.heap.size≤(w1.alloc (.cells #[] 9)).heap.size:=Nat.le_trans hb3 hal.size
   clear hx hy hBw hb3 hal
   refine eP (T:=[6,6]) (i:=3) (by kernel_rfl) rfl (fun w1 hl K hK=>?_)
   have ho3:=ho.kept hl
   have hx3:=hx2.kept hl
   have hy3:=hy2.kept hl
   have hBw3:=hBw2.trans (hl.mono hBw2.size)
   have hb5:=Nat.le_trans hb4 hl.size
   clear ho hx2 hy2 hBw2 hb4 hl
   refine eY (by rfl) ?_
   refine Zt _ _ 25 rfl PX pX rfl ho3 VA.ma VA.mn VA.mc rfl (Xq.out _ hBw3).1 (by simp only[maxLen];omega) (by omega) hb5 ?_
   intro a5 c5 w5 Ag bI
   refine hK.out _ _ (fun _=>bI) ?_
   clear hK K
   have hx5:=hx3.kept bI
   have PK:=hy3.kept bI
   have vY:=hBw3.trans (bI.mono hBw3.size)
   have hb6:=Nat.le_trans hb5 bI.size
   clear ho3 hx3 hy3 hBw3 hb5 bI
   simp only[List.getElem_toArray,List.getElem_cons_zero,List.getElem_cons_succ,Act.put,List.setIfInBounds_toArray,List.set_cons_zero,List.set_cons_succ]
   refine eP (T:=[6,6]) (i:=6) (by kernel_rfl) rfl (fun w1 hl K hK=>?_)
   have gJ:=Ag.kept hl
   have hx7:=hx5.kept hl
   have hy7:=PK.kept hl
   have yQ:=vY.trans (hl.mono vY.size)
   have hb8:=Nat.le_trans hb6 hl.size
   clear Ag hx5 PK vY hb6 hl
   refine eY (by rfl) ?_
   refine VL _ _ 25 rfl PX pX rfl (show Own w1 w3.heap.size 9 1 jl (.slice a5 VA.mn c5) A.names from gJ) VB.ma VB.mn VB.mc rfl (Xq.out _ yQ).2 (by simp only[maxLen];omega) (by omega) hb8 ?_
   intro a9 c9 w9 yT wo
   refine hK.out _ _ (fun h=>absurd h (by decide)) ?_
   clear hK K
   have dw:Below w.heap.size w w9:=below_grown yQ (show Own w1 w3.heap.size 9 1 jl (.slice a5 VA.mn c5) A.names from gJ) wo (by omega) (by have:=yQ.size;omega)
   have OI:=hx7.cu (show Own w1 w3.heap.size 9 1 jl (.slice a5 VA.mn c5) A.names from gJ) wo (by decide)
   have hy9:=hy7.cu (show Own w1 w3.heap.size 9 1 jl (.slice a5 VA.mn c5) A.names from gJ) wo (by decide)
   obtain⟨ln,hln⟩:∃ ln,A.names.length+VB.mn=ln:=⟨_,rfl⟩
   have hlL:(A.names++B.names).length=ln:=by rw[List.length_append,←HE2.out.2];exact hln
   have asu:ln≤128:=by omega
   rw[hln] at yT ⊢
   clear gJ wo hx7 hy7 yQ hb8 hln
   simp only[List.getElem_toArray,List.getElem_cons_zero,List.getElem_cons_succ,Act.put,List.setIfInBounds_toArray,List.set_cons_zero,List.set_cons_succ]
   refine EY 7 ?_ rfl (fun w1=>?_) ?_
   rotate_left
   ·go_simp;try with_reducible rfl
   simp only[eA,eB,eC,Act.put,eD,eE,eF]
   refine nU (by kernel_rfl) (fun w1 hl=>?_) _
   have JJ:=yT.kept hl
   have HX:=ah (fun(u:World) (hu:Below w1.heap.size w1 u)=>And.intro ((OI.kept hl).kept hu) ((hy9.kept hl).kept hu))
   have sN:=dw.trans (hl.mono dw.size)
   obtain⟨bn,on,hnl,hnc,Aa,hna,hnx⟩:=(JJ.slice pX).bU (f:=fun x=>sv x)
   have Ci:=ah sN;have mX:=ah hna;have F8:=ah hnx;have Ey:=ah hlL
   clear yT JJ OI hy9 dw hl sN hna hnx hnl hlL
   generalize A.names++B.names=NS at *
   go_wp2_with fail
   go_loopw [7,9] (fun v7 v9 wr=>∃ i:Nat,i≤ln∧v9=.int .i64 i∧v7=.bool (allIn A B (NS.take i))∧Below w1.heap.size w1 wr) (fun _ v9 _=>ln - (intOf v9).toNat)
   case atStart=>exact⟨0,Nat.zero_le _,rfl,by rw[List.take_zero];rfl,Below.refl _ _⟩
   case round =>
    obtain⟨i,hi,rfl,rfl,hB⟩:=hrel
    by_cases hlt:i<ln
    ·have hiN:i<NS.length:=by rw[Ey.out];exact hlt
     obtain rfl:=mX.out i hiN
     have hbw:=Ci.out.trans (hB.mono Ci.out.size)
     obtain⟨hs1,hs2⟩:=Sv.out _ (List.getElem_mem hiN)
     have has:=HAS.out i hiN
     have hcell:=F8.out i hiN
     generalize NS[i]=s at *
     have HIS:=ah (fun(u:World) (hu:Below w.heap.size w u)=>HI.out u hu s hs1 hs2)
     have HWS:=ah (alP.out s)
     obtain⟨al,hal⟩:∃ al,allIn A B (NS.take i)=al:=⟨_,rfl⟩
     rw[hal] at has ⊢
     have HA2:=ah has
     clear has hs1 hs2 hal
     obtain⟨p,hp⟩:∃ p,yF A B s=p:=⟨_,rfl⟩
     obtain⟨q,hq⟩:∃ q,yF B A s=q:=⟨_,rfl⟩
     have HPQ:=ah (And.intro hp hq)
     rw[hp,hq] at HIS
     clear hp hq
     have Ir:Hid (∀ u,Later wr.drew u→(Box u w.heap.size VA.cells 27∧Box u (w.heap.size+1) VB.cells 27)∧u.cell? ⟨bn,on+i,none⟩=some (sv s)∧Below w.heap.size w u∧Below w1.heap.size w1 u):=ah fun u hu=>by
      have h1:=hB.trans ((dl hu).mono hB.size)
      exact⟨HX.out u h1,hcell u h1,Ci.out.trans (h1.mono Ci.out.size),h1⟩
     have agA:=ah hcell
     have i0:(0:Int)≤(i:Int):=by omega
     have i1:(i:Int)<(ln:Int):=by omega
     clear hB hbw hcell
     go_wp2_with fail
     refine aO (R:=Later) 12 (by kernel_rfl) ?_
     refine iE (t:=12) (i:=0) rfl (by kernel_rfl) (by kernel_rfl) (by kernel_rfl) (by kernel_rfl) (fun _ _ _ h=>h) (by rfl) (fun w1 hl=>cO 27 _ rfl _ rfl ((Ir.out w1 hl).1.1) Tryz.underlying27 rfl (ay VA)) ?_
     simp only[eA,eB,Act.put,eD,eE,eF]
     refine iE (t:=12) (i:=1) rfl (by kernel_rfl) (by kernel_rfl) (by kernel_rfl) (by kernel_rfl) (fun _ _ _ h=>h) (by rfl) (fun w1 hl=>cO 27 _ rfl _ rfl ((Ir.out w1 hl).1.2) Tryz.underlying27 rfl (ay VB)) ?_
     simp only[eA,eB,eC,Act.put,eD,eE,eF]
     refine pl [2,3,4,5] ?_
     repeat
      refine dR ?_ rfl (fun w1 hl=>?_) ?_
      rotate_left
      ·obtain⟨_,q1,_⟩:=Ir.out w1 hl;have t0:=World.block_lt_of_cell? _ _ q1;go_simp;try with_reducible rfl
      simp only[eA,eB,eC,Act.put,eD,eE,eF]
     refine bV ?_
     refine yg 6 ?_ ?_ ?_ rfl (fun w1=>?_) (fun w1 hl=>?_) ?_
     rotate_left 4
     ·exact(HIS.out _ (Ir.out w1 hl).2.2.1).1
     rotate_left
     ·go_simp
     simp only[eA,eB,eC,Act.put,eD,eE,eF]
     refine pl [7,8,9,10,11] ?_
     repeat
      refine dR ?_ rfl (fun w1 hl=>?_) ?_
      rotate_left
      ·skip;go_simp;try with_reducible rfl
      simp only[eA,eB,eC,Act.put,eD,eE,eF]
     refine bV ?_
     refine aV (by kernel_rfl) (fun w1 hl=>?_) _
     obtain⟨_,_,ae5,mJ⟩:=Ir.out w1 hl
     have ED:Hid (∀ u,Later w1.drew u→(Box u w.heap.size VA.cells 27∧Box u (w.heap.size+1) VB.cells 27)∧u.cell? ⟨bn,on+i,none⟩=some (sv s)∧Below w.heap.size w u∧Below _ _ u):=ah fun u hu=>by
      have h1:=mJ.trans ((dl hu).mono mJ.size)
      exact⟨HX.out u h1,agA.out u h1,Ci.out.trans (h1.mono Ci.out.size),h1⟩
     clear Ir hl ae5 mJ
     go_wp2_with fail
     refine aO (R:=Later) 12 (by kernel_rfl) ?_
     refine iE (t:=12) (i:=0) rfl (by kernel_rfl) (by kernel_rfl) (by kernel_rfl) (by kernel_rfl) (fun _ _ _ h=>h) (by rfl) (fun w1 hl=>cO 27 _ rfl _ rfl ((ED.out w1 hl).1.2) Tryz.underlying27 rfl (ay VB)) ?_
     simp only[eA,eB,Act.put,eD,eE,eF]
     refine iE (t:=12) (i:=1) rfl (by kernel_rfl) (by kernel_rfl) (by kernel_rfl) (by kernel_rfl) (fun _ _ _ h=>h) (by rfl) (fun w1 hl=>cO 27 _ rfl _ rfl ((ED.out w1 hl).1.1) Tryz.underlying27 rfl (ay VA)) ?_
     simp only[eA,eB,eC,Act.put,eD,eE,eF]
     refine pl [2,3,4,5] ?_
     repeat
      refine dR ?_ rfl (fun w1 hl=>?_) ?_
      rotate_left
      ·obtain⟨_,q1,_⟩:=ED.out w1 hl;have t0:=World.block_lt_of_cell? _ _ q1;go_simp;try with_reducible rfl
      simp only[eA,eB,eC,Act.put,eD,eE,eF]
     refine bV ?_
     refine yg 6 ?_ ?_ ?_ rfl (fun w1=>?_) (fun w1 hl=>?_) ?_
     rotate_left 4
     ·exact(HIS.out _ (ED.out w1 hl).2.2.1).2
     rotate_left
     ·go_simp
     simp only[eA,eB,eC,Act.put,eD,eE,eF]
     refine pl [7,8,9,10,11] ?_
     repeat
      refine dR ?_ rfl (fun w1 hl=>?_) ?_
      rotate_left
      ·skip;go_simp;try with_reducible rfl
      simp only[eA,eB,eC,Act.put,eD,eE,eF]
     refine bV ?_
     refine aV (by kernel_rfl) (fun w1 hl=>?_) _
     obtain⟨_,_,ae5,mJ⟩:=ED.out w1 hl
     have uG:Hid (∀ u,Later w1.drew u→(Box u w.heap.size VA.cells 27∧Box u (w.heap.size+1) VB.cells 27)∧u.cell? ⟨bn,on+i,none⟩=some (sv s)∧Below w.heap.size w u∧Below _ _ u):=ah fun u hu=>by
      have h1:=mJ.trans ((dl hu).mono mJ.size)
      exact⟨HX.out u h1,agA.out u h1,Ci.out.trans (h1.mono Ci.out.size),h1⟩
     clear ED hl ae5 mJ
     go_wp2_with fail
     cases p with
     | false =>
      refine aO (R:=Later) 27 (by kernel_rfl) ?_
      refine pl [0,1,2,3,4,5,6] ?_
      repeat
       refine dR ?_ rfl (fun w1 hl=>?_) ?_
       rotate_left
       ·skip;go_simp;try with_reducible rfl
       simp only[eA,eB,eC,Act.put,eD,eE,eF]
      refine bV ?_
      refine dP 7 rfl ?_
      simp only[eA,eB,eC,Act.put,eD,eE,eF]
      refine dP 8 rfl ?_
      simp only[eA,eB,eC,Act.put,eD,eE,eF]
      refine dP 9 rfl ?_
      simp only[eA,eB,eC,Act.put,eD,eE,eF]
      refine dP 10 rfl ?_
      simp only[eA,eB,eC,Act.put,eD,eE,eF]
      refine dP 11 rfl ?_
      simp only[eA,eB,eC,Act.put,eD,eE,eF]
      refine dP 12 rfl ?_
      simp only[eA,eB,eC,Act.put,eD,eE,eF]
      refine dP 13 rfl ?_
      simp only[eA,eB,eC,Act.put,eD,eE,eF]
      refine dP 14 rfl ?_
      simp only[eA,eB,eC,Act.put,eD,eE,eF]
      refine pl [15,16] ?_
      repeat
       refine dR ?_ rfl (fun w1 hl=>?_) ?_
       rotate_left
       ·go_simp;try with_reducible rfl
       simp only[eA,eB,eC,Act.put,eD,eE,eF]
      refine bV ?_
      refine dP 17 rfl ?_
      simp only[eA,eB,eC,Act.put,eD,eE,eF]
      refine dP 18 rfl ?_
      simp only[eA,eB,eC,Act.put,eD,eE,eF]
      refine dP 19 rfl ?_
      simp only[eA,eB,eC,Act.put,eD,eE,eF]
      refine dP 20 rfl ?_
      simp only[eA,eB,eC,Act.put,eD,eE,eF]
      refine dP 21 rfl ?_
      simp only[eA,eB,eC,Act.put,eD,eE,eF]
      refine dP 22 rfl ?_
      simp only[eA,eB,eC,Act.put,eD,eE,eF]
      refine dP 23 rfl ?_
      simp only[eA,eB,eC,Act.put,eD,eE,eF]
      refine dP 24 rfl ?_
      simp only[eA,eB,eC,Act.put,eD,eE,eF]
      refine pl [25,26] ?_
      repeat
       refine dR ?_ rfl (fun w1 hl=>?_) ?_
       rotate_left
       ·go_simp;try with_reducible rfl
       simp only[eA,eB,eC,Act.put,eD,eE,eF]
      refine bV ?_
      refine aV (by kernel_rfl) (fun w1 hl=>?_) _
      have mJ:=(uG.out w1 hl).2.2.2
      have mG:=ah mJ
      clear uG hl mJ
      cases al
      all_goals
       go_wp2
       exact⟨⟨i+1,hlt,by push_cast;rfl,by rw[HA2.out,HPQ.out.1];simp,mG.out⟩,by simp[intOf];omega⟩
     | true =>
      obtain⟨na,hna⟩:∃ na,bZ A (fQ A 0 t)=na:=⟨_,rfl⟩
      obtain⟨nb,hnb⟩:∃ nb,bZ B (fQ B 0 t)=nb:=⟨_,rfl⟩
      have KQ:=ah (fun(u:World) (hu:Below w.heap.size w u)=>oW.out u hu)
      rw[hna,hnb] at KQ
      have hwd:=HWS.out HPQ.out.1
      rw[hna,hnb] at hwd
      clear hna hnb
      by_cases hns:na=s
      ·have hb:=hwd hns
       have e1:(na==s)=true:=by simp[hns]
       have e2:(nb==s)=true:=by simp[hb]
       have e3:(nb != s)=false:=by simp[hb]
       clear hwd hns hb
       refine aO (R:=Later) 27 (by kernel_rfl) ?_
       refine pl [0,1,2,3,4,5,6] ?_
       repeat
        refine dR ?_ rfl (fun w1 hl=>?_) ?_
        rotate_left
        ·skip;go_simp;try with_reducible rfl
        simp only[eA,eB,eC,Act.put,eD,eE,eF]
       refine bV ?_
       refine iE (t:=27) (i:=7) rfl (by kernel_rfl) (by kernel_rfl) (by kernel_rfl) (by kernel_rfl) (fun _ _ _ h=>h) (by rfl) (fun w1 hl=>cO 27 _ rfl _ rfl ((uG.out w1 hl).1.1) Tryz.underlying27 rfl (ay VA)) ?_
       simp only[eA,eB,eC,Act.put,eD,eE,eF]
       refine jF 8 ?_ rfl (fun w1 hl=>?_) ?_
       rotate_left
       ·go_simp;try with_reducible rfl
       simp only[eA,eB,eC,Act.put,eD,eE,eF]
       refine yg 9 ?_ ?_ ?_ rfl (fun w1=>?_) (fun w1 hl=>?_) ?_
       rotate_left 4
       ·exact(KQ.out _ (uG.out w1 hl).2.2.1).1
       rotate_left
       ·go_simp
       simp only[eA,eB,eC,Act.put,eD,eE,eF]
       refine pl [10,11,12,13] ?_
       repeat
        refine dR ?_ rfl (fun w1 hl=>?_) ?_
        rotate_left
        ·obtain⟨_,q1,_⟩:=uG.out w1 hl;have t0:=World.block_lt_of_cell? _ _ q1;go_simp;try with_reducible rfl
        simp only[eA,eB,eC,Act.put,eD,eE,eF]
       refine bV ?_
       refine pl [14,15,16] ?_
       repeat
        refine dR ?_ rfl (fun w1 hl=>?_) ?_
        rotate_left
        ·go_simp;try with_reducible rfl
        simp only[eA,eB,eC,Act.put,eD,eE,eF]
       refine bV ?_
       refine iE (t:=27) (i:=17) rfl (by kernel_rfl) (by kernel_rfl) (by kernel_rfl) (by kernel_rfl) (fun _ _ _ h=>h) (by rfl) (fun w1 hl=>cO 27 _ rfl _ rfl ((uG.out w1 hl).1.2) Tryz.underlying27 rfl (ay VB)) ?_
       simp only[eA,eB,eC,Act.put,eD,eE,eF]
       refine jF 18 ?_ rfl (fun w1 hl=>?_) ?_
       rotate_left
       ·go_simp;try with_reducible rfl
       simp only[eA,eB,eC,Act.put,eD,eE,eF]
       refine yg 19 ?_ ?_ ?_ rfl (fun w1=>?_) (fun w1 hl=>?_) ?_
       rotate_left 4
       ·exact(KQ.out _ (uG.out w1 hl).2.2.1).2
       rotate_left
       ·go_simp
       simp only[eA,eB,eC,Act.put,eD,eE,eF]
       refine pl [20,21,22,23] ?_
       repeat
        refine dR ?_ rfl (fun w1 hl=>?_) ?_
        rotate_left
        ·obtain⟨_,q1,_⟩:=uG.out w1 hl;have t0:=World.block_lt_of_cell? _ _ q1;go_simp;try with_reducible rfl
        simp only[eA,eB,eC,Act.put,eD,eE,eF]
       refine bV ?_
       refine pl [24,25,26] ?_
       repeat
        refine dR ?_ rfl (fun w1 hl=>?_) ?_
        rotate_left
        ·go_simp;try with_reducible rfl
        simp only[eA,eB,eC,Act.put,eD,eE,eF]
       refine bV ?_
       refine aV (by kernel_rfl) (fun w1 hl=>?_) _
       have mJ:=(uG.out w1 hl).2.2.2
       have mG:=ah mJ
       clear uG hl mJ
       cases al
       all_goals
        go_wp2
        exact⟨⟨i+1,hlt,by push_cast;rfl,by rw[HA2.out,HPQ.out.1,HPQ.out.2];simp,mG.out⟩,by simp[intOf];omega⟩
      ·have e1:(na==s)=false:=by simp[hns]
       clear hwd hns
       refine aO (R:=Later) 27 (by kernel_rfl) ?_
       refine pl [0,1,2,3,4,5,6] ?_
       repeat
        refine dR ?_ rfl (fun w1 hl=>?_) ?_
        rotate_left
        ·skip;go_simp;try with_reducible rfl
        simp only[eA,eB,eC,Act.put,eD,eE,eF]
       refine bV ?_
       refine iE (t:=27) (i:=7) rfl (by kernel_rfl) (by kernel_rfl) (by kernel_rfl) (by kernel_rfl) (fun _ _ _ h=>h) (by rfl) (fun w1 hl=>cO 27 _ rfl _ rfl ((uG.out w1 hl).1.1) Tryz.underlying27 rfl (ay VA)) ?_
       simp only[eA,eB,eC,Act.put,eD,eE,eF]
       refine jF 8 ?_ rfl (fun w1 hl=>?_) ?_
       rotate_left
       ·go_simp;try with_reducible rfl
       simp only[eA,eB,eC,Act.put,eD,eE,eF]
       refine yg 9 ?_ ?_ ?_ rfl (fun w1=>?_) (fun w1 hl=>?_) ?_
       rotate_left 4
       ·exact(KQ.out _ (uG.out w1 hl).2.2.1).1
       rotate_left
       ·go_simp
       simp only[eA,eB,eC,Act.put,eD,eE,eF]
       refine pl [10,11,12,13] ?_
       repeat
        refine dR ?_ rfl (fun w1 hl=>?_) ?_
        rotate_left
        ·obtain⟨_,q1,_⟩:=uG.out w1 hl;have t0:=World.block_lt_of_cell? _ _ q1;go_simp;try with_reducible rfl
        simp only[eA,eB,eC,Act.put,eD,eE,eF]
       refine bV ?_
       refine pl [14,15,16] ?_
       repeat
        refine dR ?_ rfl (fun w1 hl=>?_) ?_
        rotate_left
        ·go_simp;try with_reducible rfl
        simp only[eA,eB,eC,Act.put,eD,eE,eF]
       refine bV ?_
       refine dP 17 rfl ?_
       simp only[eA,eB,eC,Act.put,eD,eE,eF]
       refine dP 18 rfl ?_
       simp only[eA,eB,eC,Act.put,eD,eE,eF]
       refine dP 19 rfl ?_
       simp only[eA,eB,eC,Act.put,eD,eE,eF]
       refine dP 20 rfl ?_
       simp only[eA,eB,eC,Act.put,eD,eE,eF]
       refine dP 21 rfl ?_
       simp only[eA,eB,eC,Act.put,eD,eE,eF]
       refine dP 22 rfl ?_
       simp only[eA,eB,eC,Act.put,eD,eE,eF]
       refine dP 23 rfl ?_
       simp only[eA,eB,eC,Act.put,eD,eE,eF]
       refine dP 24 rfl ?_
       simp only[eA,eB,eC,Act.put,eD,eE,eF]
       refine pl [25,26] ?_
       repeat
        refine dR ?_ rfl (fun w1 hl=>?_) ?_
        rotate_left
        ·go_simp;try with_reducible rfl
        simp only[eA,eB,eC,Act.put,eD,eE,eF]
       refine bV ?_
       refine aV (by kernel_rfl) (fun w1 hl=>?_) _
       have mJ:=(uG.out w1 hl).2.2.2
       have mG:=ah mJ
       clear uG hl mJ
       cases al
       all_goals
        go_wp2
        exact⟨⟨i+1,hlt,by push_cast;rfl,by rw[HA2.out,HPQ.out.1,HPQ.out.2];simp,mG.out⟩,by simp[intOf];omega⟩
    ·obtain rfl:i=ln:=by omega
     have hal:allIn A B (NS.take i)=EG A B:=by rw[alO.out,List.take_of_length_le (by rw[Ey.out];exact Nat.le_refl _)]
     rw[hal]
     obtain⟨OI,hy9⟩:=HX.out wr hB
     have dw:=Ci.out.trans (hB.mono Ci.out.size)
     have mG:=ah dw
     clear hal hB dw
     go_wp2_with (first | (refine ak (by rfl) 27 _ rfl w.heap.size rfl _ _ _ _ OI Tryz.underlying27 rfl (ay _) ?_) | (refine ak (by rfl) 27 _ rfl (w.heap.size+1) rfl _ _ _ _ hy9 Tryz.underlying27 rfl (ay _) ?_))
     refine(HE.out _ mG.out).mono ?_
     rintro e w11 ⟨rfl,ala⟩
     have NJ:=mG.out.trans (ala.mono mG.out.size)
     have hee:(EG A B==EG A B)=true:=by simp
     clear OI hy9 ala
     go_wp2_with fail
     refine(HK.out _ NJ).mono ?_
     rintro e w12 ⟨rfl,apM⟩
     go_wp2
     go_ret
     exact⟨rfl,NJ.trans (apM.mono NJ.size)⟩
theorem Hf{W:World}(h:laidMetH Tryz.prog Rows.equivInsideRow.laid W):Tab W:=Fz (Lib.tabIs_of_head (zs:=Lib.deBruijn64tab.map fun(x:Nat)=>(x:Int)) (rest:=[]) gTab Ru Tryz.underlying320 Tryz.underlying5 (by kernel_rfl) (by kernel_rfl) h)
set_option maxRecDepth 100000 in
theorem En(H:Type)(enc:TypeId×Value→H)(W:World)(base:Nat)(args:Array Value)(ds gs:List (DataW H))(before:List MemPlace)
  (hval0:∀ (j:Nat) t v,Tryz.f4.params[j]?=some t→args[j]?=some v→Value.okWide Tryz.prog W .any base t v)
  (hW:DataW.Whole enc Tryz.prog Tryz.f4.params.toList Rows.equivInsideSpec.vars false W args.toList ds gs before) (hsh:W.ShapedOpen Tryz.prog) (hL:laidMetH Tryz.prog Rows.equivInsideRow.laid W) :
  Calls Tryz.prog 4 args W fun e W'=>∃ v,e=.returned v∧Rows.equivInsideSpec.post enc Tryz.prog Tryz.f4 false true false false W args v W':=by
 have hval:∀ (j:Nat) t v,Tryz.f4.params[j]?=some t→args[j]?=some v→Value.okWide Tryz.prog W .any base t v:=hval0
 have hW':=hW
 have hT:=Hf hL
 have hM:Ei W:=Go.Proofs.cell_of_shapedOpen_int (zero:=#[.int .i64 0]) (t:=3) hsh (of_decide_eq_true (by kernel_rfl)) (by kernel_rfl) rfl (by kernel_rfl) (by kernel_rfl) Tryz.underlying3
 obtain⟨p,q,hA0,hV,rfl,hfz,hnd⟩:=hW
 have hA:DataW.TrodAll enc Tryz.prog W 0 (fun _=>true) true Tryz.f4.params.toList args.toList ds p:=hA0
 rw[Tryz.params4] at hA hval
 obtain⟨v0,vs0,d0,ds0,p0,q0,hargs,rfl,rfl,h00,r0⟩:=trodAll_cons hA
 obtain⟨v1,vs1,d1,ds1,p1,q1,rfl,rfl,rfl,h01,r1⟩:=trodAll_cons r0
 obtain⟨v2,vs2,d2,ds2,p2,q2,rfl,rfl,rfl,h02,r2⟩:=trodAll_cons r1
 obtain⟨rfl,rfl,rfl⟩:=trodAll_nil r2
 obtain rfl:args=#[v0,v1,v2]:=by cases args;simp_all
 obtain⟨rfl,rfl⟩:=trodVars_none hV
 have k00:=h00
 have lt0:∀ x∈p0,x.block<W.heap.size:=by obtain⟨m,hm⟩:=k00;exact DataW.trod_lt m _ _ _ hm
 have k01:=h01
 have lt1:∀ x∈p1,x.block<W.heap.size:=by obtain⟨m,hm⟩:=k01;exact DataW.trod_lt m _ _ _ hm
 have k02:=h02
 have lt2:∀ x∈p2,x.block<W.heap.size:=by obtain⟨m,hm⟩:=k02;exact DataW.trod_lt m _ _ _ hm
 obtain⟨Va,a,rfl,Ra,ofa,nma,wda,lba,nxa⟩:∃ (V:aA) (D:aQ),v0=.agg V.cells∧aZ W V D∧(∀ b,V.of b<256)∧(∀ x∈D.names,x.length≤9223372036854775807)∧(Lit.int .i64 D.width).wf=true∧(∀ x∈D.label,(Lit.int .i64 x).wf=true)∧∀ r∈D.next,∀ x∈r,(Lit.int .i64 x).wf=true:=by
  obtain⟨fuel,hfu⟩:=h00
  obtain⟨cs,hcs,_⟩:=okWide_struct Tryz.underlying27 (hval 0 27 v0 rfl rfl)
  subst hcs
  obtain⟨fs,N⟩:=Lh
  obtain⟨V,D,h2,h3⟩:=D9 N hfu
  exact⟨V,D,by rw[show cs=V.cells from Array.ext' h2],h3⟩
 obtain⟨Vb,b,rfl,Rb,ofb,nmb,Wp,lbb,nxb⟩:∃ (V:aA) (D:aQ),v1=.agg V.cells∧aZ W V D∧(∀ b,V.of b<256)∧(∀ x∈D.names,x.length≤9223372036854775807)∧(Lit.int .i64 D.width).wf=true∧(∀ x∈D.label,(Lit.int .i64 x).wf=true)∧∀ r∈D.next,∀ x∈r,(Lit.int .i64 x).wf=true:=by
  obtain⟨fuel,hfu⟩:=h01
  obtain⟨cs,hcs,_⟩:=okWide_struct Tryz.underlying27 (hval 1 27 v1 rfl rfl)
  subst hcs
  obtain⟨fs,N⟩:=Lh
  obtain⟨V,D,h2,h3⟩:=D9 N hfu
  exact⟨V,D,by rw[show cs=V.cells from Array.ext' h2],h3⟩
 obtain⟨a_w,len2,agB,rfl⟩:=okWide_slice Tryz.underlying35 (hval 2 35 v2 rfl rfl)
 obtain⟨w,hl2,hw,hbw⟩:∃ l:List Nat,len2=l.length∧au W (.slice a_w l.length agB) 1 dY l∧∀ x∈l,x<256:=by
  obtain⟨fuel,hfu⟩:=h02
  exact Zp Tryz.underlying35 Tryz.underlying5 (by kernel_rfl) hfu
 subst hl2
 clear hA0 hval0
 refine(MV Va a Vb b a_w w.length agB (w.map UInt8.ofNat) W Ra ofa nma Rb ofb nmb (hw.akR hbw) hT hM).mono fun e W' ⟨he,bel⟩=>?_
 subst he
 exact⟨_,rfl,_,_,_,[],_,[],hW',trodAll_mk1 (shut_bool Tryz.underlying4 _),(trodAll_cons_mk (Below.trod laidOut (by kernel_rfl) (of_decide_eq_true (by kernel_rfl)) k00 bel lt0) (trodAll_cons_mk (Below.trod laidOut (by kernel_rfl) (of_decide_eq_true (by kernel_rfl)) k01 bel lt1) (trodAll_cons_mk (Below.trod laidOut (by kernel_rfl) (of_decide_eq_true (by kernel_rfl)) k02 bel lt2) trodAll_mk0))),rfl,bel.frame _,fun h=>by cases h⟩
theorem Eo(os:Os):laidMet Tryz.prog Rows.equivInsideRow.laid ((laidWorld os).forCall (fun _ _=>0) ⟨#[],#[sH,sH,.slice none 0 0],[]⟩).memory :=
 laidMet_of_run' 8 (by kernel_rfl) (by kernel_rfl)
theorem Hg(os:Os){H:Type}(enc:TypeId×Value→H):∃ places,DataW.whole enc Tryz.prog ((laidWorld os).forCall (fun _ _=>0) ⟨#[],#[sH,sH,.slice none 0 0],[]⟩).memory Tryz.f4.params.toList Rows.equivInsideSpec.vars false (#[sH,sH,.slice none 0 0]:Array Value).toList 8=some ([.agg [.agg (List.replicate 256 (.lit (.int .u8 0))),.lit (.int .i64 0),.nil,.nil,.nil],.agg [.agg (List.replicate 256 (.lit (.int .u8 0))),.lit (.int .i64 0),.nil,.nil,.nil],.nil],[],places) :=
 ⟨[],by kernel_rfl⟩
set_option maxRecDepth 100000 in
theorem GH(os:Os)(started:os.Started)(H:Type)(enc:TypeId×Value→H)(F:Stop.Interp) :
  ReturnsInHanded {} Tryz.checked os 4 .any ((OpenSpec.ofChange Rows.equivInsideSpec).preRow enc Tryz.prog Tryz.f4 Rows.equivInsideRow.domain false Rows.equivInsideRow.laid) (((OpenSpec.ofChange Rows.equivInsideSpec).at F).post enc Tryz.prog Tryz.f4 false true false false):=by
 obtain⟨places,hx⟩:=Hg os enc
 refine returnsInHanded_of_row (C:=Tryz.checked) (s:=OpenSpec.ofChange Rows.equivInsideSpec) own started (by kernel_rfl) Tryz.func4
  (witness_row_at (enc:=enc) (C:=Tryz.checked) false (laidWorld os) #[sH,sH,.slice none 0 0] rfl (by kernel_rfl) (by kernel_rfl) (by kernel_rfl)
   (OpenSpec.preRow_of_cond 8 hx (by kernel_rfl) (fun k hk=>by cases hk) (by kernel_rfl) (Eo os))) ?_
 intro W base args ds gs before hval hW _ _ _ hL hsh _
 exact En H enc W base args ds gs before hval hW hsh hL
theorem NZ:Tryz.pinned.checked.prog.inPlace 4=Rows.equivInsideRow.inPlace:=by kernel_rfl
theorem N7:Tryz.pinned.checked.prog.unfollowed 4=Rows.equivInsideRow.unfollowed:=by kernel_rfl
theorem N8:Tryz.pinned.checked.prog.recurses 4=Rows.equivInsideRow.recurses:=by kernel_rfl
theorem N9:Tryz.pinned.checked.prog.varsNamed 4=Rows.equivInsideRow.named:=by kernel_rfl
theorem Oa:Tryz.pinned.checked.prog.plainKeys=Rows.equivInsideRow.plainKeys:=by kernel_rfl
theorem Ob:Tryz.pinned.checked.prog.liftsFinal=Rows.equivInsideRow.lifted:=by kernel_rfl
theorem Oc:joinedFacts Tryz.pinned.checked.prog 4 Tryz.f4 ((OpenSpec.ofChange Rows.equivInsideSpec).bare) Rows.equivInsideRow=true:=by
 unfold joinedFacts
 rw[NZ,N7,N8,N9,Oa,Ob,afb,aak,aal,aam]
 kernel_rfl
theorem Oe:Func.isWrapper Tryz.pinned.checked.prog Tryz.f4 Rows.equivInsideRow.wrapper Rows.equivInsideRow.mainSum:=by unfold Func.isWrapper;first | (rw[if_pos (by decide +kernel)];kernel_rfl) | (rw[if_neg (by decide +kernel)];exact⟨rfl,rfl⟩)
theorem JV:Rows.EquivInsideSaid :=
 OpenClaim.holds_of_cond 4 Tryz.f4 rfl rfl rfl rfl rfl rfl rfl ⟨rfl,rfl,rfl,rfl,rfl⟩ rfl rfl rfl rfl rfl (by kernel_rfl) Tryz.func4 Oc
  (of_decide_eq_true (by kernel_rfl)) Oe
  (fun os started H enc _ F=>by rw[OpenClaim.pre_eq_preRow];exact GH os started H enc F)
theorem JW:false=Rows.equivInsideRow.goesBy Tryz.pinned.checked.prog:=by kernel_rfl
theorem Hl:true=Tryz.pinned.checked.prog.looks []:=by kernel_rfl
theorem Ho (f:FuncId) (fn:Func) (hf:Tryz.pinned.checked.prog.funcNamed "doublet/doubletlaw30.EquivInside"=some f) (hfn:Tryz.pinned.checked.prog.funcs[f]?=some fn) :
  true=Tryz.pinned.checked.prog.looks []∧∀ (j:Nat) t,fn.params[j]?=some t→Tryz.pinned.checked.prog.wantsStandIn t=false:=by
 obtain rfl:f=4:=Option.some.inj ((show Tryz.prog.funcNamed "doublet/doubletlaw30.EquivInside"=some 4 by kernel_rfl).symm.trans hf) |>.symm
 obtain rfl:fn=Tryz.f4:=(Option.some.inj (Tryz.func4.symm.trans hfn)).symm
 refine⟨Hl,fun j t ht=>?_⟩
 rw[Tryz.params4] at ht
 have hm:=Array.mem_of_getElem? ht
 simp only[List.mem_toArray,List.mem_cons,List.not_mem_nil,or_false] at hm
 rcases hm with rfl | rfl | rfl
 ·exact(show Tryz.prog.wantsStandIn 27=false by kernel_rfl)
 ·exact(show Tryz.prog.wantsStandIn 27=false by kernel_rfl)
 ·exact(show Tryz.prog.wantsStandIn 35=false by kernel_rfl)
theorem EquivInside_holds:Rows.EquivInsideCardSaid :=
 Claim7.holds_tied_plain_at .later [] _ _ _ _ JV (fun _ h=>by cases h) (by kernel_rfl) (fun _ h=>by cases h) equivInside_row_tie rfl ⟨rfl,rfl⟩ (by kernel_rfl) rfl Ho JW
#print axioms EquivInside_holds
end Go.Proofs.YtengfapcaaacaaaGreatDoor
