/- The texts of N34, in few letters (mini.py). -/
import Derived.Test.YtengfapcaaacaaaGreatDoorM33
import Derived.Test.YtengfapcaaacaaaGreatDoorM24
set_option linter.unusedVariables false
set_option linter.unusedSimpArgs false
set_option maxRecDepth 20000
set_option maxHeartbeats 6400000
namespace Go.Proofs.YtengfapcaaacaaaGreatDoor
section
open Go.RowKit
def qJ(D:bC):List Nat:=zG (Gz D)
theorem Pq{D:bC}(hw:rE D)(x:Nat):x∈qJ D↔x<D.label.length∧¬ BF D x:=by unfold qJ;rw[abh,ac2 hw]
theorem abj(n:Nat)(z:Value)(hz:z.cells=#[z]):madeCells z.cells (n*1)=vG n (fun _=>z):=by
 apply Array.ext_getElem?
 intro i
 by_cases hi:i<n
 ·rw[yN _ _ _ (by omega) (by rw[hz];exact Nat.one_pos),xu hi,hz]
  simp[Nat.mod_one]
 ·rw[Array.getElem?_eq_none (by rw[size_madeCells];omega),Array.getElem?_eq_none (by rw[Bg];omega)]
structure mO(W:World)(n:Nat)(grp:Nat→List Nat)(vs:Nat→Value)(wr:World):Prop where
 wF:lV wr (W.heap.size+2) 3 1 aO grp vs
 row:Box wr W.heap.size (vG n vs) 24
 var:Box wr (W.heap.size+1) #[.slice (some ⟨W.heap.size,0,none⟩) n n] 23
 keep:Below W.heap.size W wr
 size:W.heap.size+2≤wr.heap.size
theorem mO.kept{W:World}{n:Nat}{grp:Nat→List Nat}{vs:Nat→Value}{wr w2:World}(h:mO W n grp vs wr)(hb:Below wr.heap.size wr w2):mO W n grp vs w2 :=
 ⟨h.wF.kept hb,h.row.kept hb,h.var.kept hb,h.keep.trans (hb.mono h.keep.size),Nat.le_trans h.size hb.size⟩
theorem mO.Bd{W:World}{n:Nat}{grp:Nat→List Nat}{vs:Nat→Value}{wr w2:World}{s y:Nat}(h:mO W n grp vs wr)(k:iE (W.heap.size+2) 3 1 aO (vs s) (grp s) y wr w2):mO W n grp vs w2:=by
 have hv:∀ b,b<W.heap.size+2→(vs s).ownBlock≠some b:=fun b hb=>h.wF.Xc (.inl hb)
 have hsz:=h.size
 refine⟨h.wF.Bd k,k.box h.row (hv _ (by omega)),k.box h.var (hv _ (by omega)),⟨k.os.trans h.keep.os,k.tape.trans h.keep.tape,k.output.trans h.keep.output,Nat.le_trans h.keep.size k.grow,fun b hb=>(k.block b (by omega) (hv b (by omega))).trans (h.keep.block b hb)⟩,Nat.le_trans h.size k.grow⟩
theorem mO.Di{W:World}{n:Nat}{grp:Nat→List Nat}{vs:Nat→Value}{w0 wr w2:World}{s y:Nat}{v':Value}(h0:mO W n grp vs w0)(h:mO W n (jY grp s (grp s++[y])) (jY vs s v') wr)(k:iE (W.heap.size+2) 3 1 aO (vs s) (grp s) y wr w2):mO W n (jY grp s (grp s++[y])) (jY vs s v') w2:=by
 have hv:∀ b,b<W.heap.size+2→(vs s).ownBlock≠some b:=fun b hb=>h0.wF.Xc (.inl hb)
 have hsz:=h.size
 exact⟨lV.Di h0.wF h.wF k,k.box h.row (hv _ (by omega)),k.box h.var (hv _ (by omega)),⟨k.os.trans h.keep.os,k.tape.trans h.keep.tape,k.output.trans h.keep.output,Nat.le_trans h.keep.size k.grow,fun b hb=>(k.block b (by omega) (hv b (by omega))).trans (h.keep.block b hb)⟩,Nat.le_trans h.size k.grow⟩
theorem mO.put{W:World}{n:Nat}{grp:Nat→List Nat}{vs:Nat→Value}{wr w2:World}{s y:Nat}{v':Value}(h:mO W n grp vs wr)(ho:Own w2 (W.heap.size+2) 3 1 aO v' (grp s++[y]))(k:iE (W.heap.size+2) 3 1 aO (vs s) (grp s) y wr w2)(hf:v'.ownBlock=(vs s).ownBlock∨v'.ownBlock=some wr.heap.size) :
  mO W n (jY grp s (grp s++[y])) (jY vs s v') (w2.setCell ⟨W.heap.size,s,none⟩ v'):=by
 have h2:=h.Bd k
 have hsz:=h2.size
 have ho2:∀ b,b≠W.heap.size→(w2.setCell ⟨W.heap.size,s,none⟩ v').heap[b]?=w2.heap[b]?:=fun b hb=>heap_setCell_other _ _ _ _ hb
 refine⟨(h.wF.put s y ho k.grownBy hf).same fun b hb _=>ho2 b (by omega),?_,(ho2 _ (by omega)).trans h2.var,h2.keep.setCell (Nat.le_refl _) _,by rw[World.size_setCell];exact hsz⟩
 have:=h2.row.set s v'
 rwa[ab6] at this
theorem mO.ai3{W:World}{n:Nat}{grp:Nat→List Nat}{vs:Nat→Value}{w1 w2:World}{y:Nat}{v':Value}(h:mO W n grp vs w1)(ho:Own w2 (W.heap.size+2) 3 1 aO v' (grp n++[y]))(hg:w1.grownBy w2 (vs n).ownBlock)(hf:v'.ownBlock=(vs n).ownBlock∨v'.ownBlock=some w1.heap.size) :
  mO W n (jY grp n (grp n++[y])) (jY vs n v') w2:=by
 have hv:∀ b,b<W.heap.size+2→(vs n).ownBlock≠some b:=fun b hb=>h.wF.Xc (.inl hb)
 have hsz:=h.size
 have hb:∀ b,b<W.heap.size+2→w2.heap[b]?=w1.heap[b]?:=fun b hb=>hg.block b (by omega) fun e=>hv b hb e.symm
 refine⟨h.wF.put n y ho hg hf,?_,(hb _ (by omega)).trans h.var,⟨hg.os.trans h.keep.os,hg.tape.trans h.keep.tape,hg.output.trans h.keep.output,Nat.le_trans h.keep.size hg.size,fun b hb'=>(hb b (by omega)).trans (h.keep.block b hb')⟩,Nat.le_trans h.size hg.size⟩
 rw[QV _ _ _ _ (Nat.le_refl _)]
 exact(hb _ (by omega)).trans h.row
theorem adT(bt rb n c s:Nat)(u:World)(v:Value)(hx:Box u bt #[.slice (some ⟨rb,0,none⟩) n c] 23)(hs:s<n)(hc:u.cell? ⟨rb,s,none⟩=some v) :
  Calls Tryz.prog 175 #[.int .i64 s,nV bt] u fun e w'=>e=.returned v∧w'=u:=by
 have x0:u.cell? ⟨bt,0,none⟩=some (.slice (some ⟨rb,0,none⟩) n c):=hx.cell 0
 have hsi:(s:Int)<(n:Int):=by omega
 have hs0:(0:Int)≤(s:Int):=by omega
 have hbl:=World.block_lt_of_cell? u _ hc
 have hxl:=hx.lt
 clear hx
 go_enter Tryz.func175,Tryz.ntmps175
 go_wp2
 go_ret
 exact⟨rfl,rfl⟩
theorem agk(n m c f:Nat)(a:Option Addr)(lb:Array Value)(w:World):Calls Tryz.prog 174 #[.int .i64 n,.slice a m c,.func (.func f) #[] lb] w fun e w'=>e=.returned (.func (.func 218) #[] #[nV w.heap.size,nV (w.heap.size+1),nV (w.heap.size+1+1)])∧w'=((w.alloc (.cells #[.int .i64 n] 3)).alloc (.cells #[.slice a m c] 24)).alloc (.cells #[.func (.func f) #[] lb] 267):=by
 go_enter Tryz.func174,Tryz.ntmps174
 go_wp2
 go_ret
 exact⟨rfl,rfl⟩
theorem adU(V:aG)(D:bC)(w:World)(h:iJ w V D)(hl:∀ x∈D.names,x.length≤9223372036854775807)(hr:jC D=true):Calls Tryz.prog 130 #[.agg V.cells] w (iU w 3 1 aO (qJ D)):=by
 have hw:=SN hr
 obtain⟨n,wd,lb,lo,nb,no,rb,ro,rc,hm⟩:=machC h hw
 have hbx:=Box.new w V.cells 27
 have hB0:=aj w (.cells V.cells 27)
 have HR:=ah (fun u hu=>hr▸BD V D u (h.kept hu) hl)
 have HM:=ah hm
 obtain⟨hn1,hn2⟩:=hm.nb1
 clear h hl hr hm
 go_enter Tryz.func130,Tryz.ntmps130
 go_wp2_with (first | (with_reducible refine Halt.go (p:=wpList _ _ _ ({ dst:=some 19,op:=_,type:=_,pos:=_,after:=_,guard:=_ }::_) _ _) ?_) | (refine bM (by rfl) 27 _ rfl w.heap.size rfl _ _ _ _ hbx Tryz.underlying27 rfl (bQ _) ?_) | (go_at_call 37;go_must (refine(HR.out _ hB0).mono ?_;rintro e W ⟨rfl,hb2⟩;have hbW:=hB0.trans (hb2.mono hB0.size);have hx2:=hbx.kept hb2;obtain⟨x0,x1,x2,x3⟩:=hx2.kS;rw[HM.out.ln,HM.out.la] at x2;rw[HM.out.nn,HM.out.na] at x1)) | (refine nZ rfl 23 _ _ rfl GV uG (none,0,0) rfl n rfl rfl (by omega) (by simp only[maxLen];omega) W.heap.size (Nat.le_refl _) ?_;intro w1 _ hw1;have y0:=Box.new W (vG n fun _=>Value.slice none 0 0) 24;have hb1:=aj W (.cells (vG n fun _=>Value.slice none 0 0) 24);rw[abj n (.slice none 0 0) rfl] at hw1;rw[←hw1] at y0 hb1;have hs1:w1.heap.size=W.heap.size+1:=by { rw[hw1,World.size_alloc] };have z1:=Box.new w1 #[Value.slice none 0 0] 23;clear hw1 x2))
 have hb2':Below W.heap.size W (w1.alloc (.cells #[.slice (some ⟨W.heap.size,0,none⟩) n n] 23)):=hb1.alloc hb1.size _
 have z2:Box (w1.alloc (.cells #[.slice (some ⟨W.heap.size,0,none⟩) n n] 23)) (W.heap.size+1) #[.slice (some ⟨W.heap.size,0,none⟩) n n] 23:=Box.new' hs1.symm _ _
 have hL0:mO W n (fE D 0 0) (fun _=>Value.slice none 0 0) (w1.alloc (.cells #[.slice (some ⟨W.heap.size,0,none⟩) n n] 23)):=by
  rw[aao]
  exact⟨lV.new _ _ _ _ _,y0.kept (aj _ _),z2,hb2',by rw[World.size_alloc];omega⟩
 obtain⟨W0,hW0⟩:∃ W0,(w1.alloc (.cells #[.slice (some ⟨W.heap.size,0,none⟩) n n] 23))=W0:=⟨_,rfl⟩
 have hx3:=hx2.kept hb2'
 rw[hW0] at hL0 hx3 hb2'
 simp only[hW0]
 have x1':W0.cell? ⟨w.heap.size,257,none⟩=some (.slice (some ⟨nb,no,none⟩) n V.nc):=by have:=hx3.kS.2.1;rwa[HM.out.nn,HM.out.na] at this
 have hxl:=hx3.lt
 have HL0:=ah hL0;have LM:=ah hx2;have jG:=ah hbW
 clear hL0 hb2' hW0 z2 z1 y0 hb1 hs1 x0 x1 x3 hx2 hbW hb2 hx3 HR hbx hB0
 unfold Halt
 go_wp2
 clear x1'
 have hDn:=HM.out.nl
 go_loopw [5,21] (fun v5 v21 wr=>∃ (k:Nat) (vs:Nat→Value),k≤n∧v21=.int .i64 k∧v5=vs n∧mO W n (fE D k 0) vs wr) (fun _ v21 _=>n - (intOf v21).toNat)
 case atStart=>exact⟨0,_,Nat.zero_le _,rfl,rfl,HL0.out⟩
 case round =>
  obtain⟨k,vs,hk,rfl,rfl,hL⟩:=hrel
  by_cases hlt:k<n
  ·have hBr:Below w.heap.size w wr:=jG.out.trans (hL.keep.mono jG.out.size)
   have c0:=HM.out.row k hlt wr hBr
   have hcp:=HM.out.cap k hlt
   have hcb:=World.block_lt_of_cell? wr _ c0
   have hki:(k:Int)<(n:Int):=by omega
   have hk0:(0:Int)≤(k:Int):=by omega
   obtain⟨row,hrow⟩:∃ row,D.next[k]?=some row:=⟨_,List.getElem?_eq_getElem (by rw[hw.nx,hDn];exact hlt)⟩
   have hrl:row.length=wd:=by have h1:=hw.NS row (List.mem_of_getElem? hrow);rw[HM.out.wide] at h1;omega
   have hrj:∀ j (h:j<row.length),row[j]=((stepD D k j:Nat):Int):=fun j h=>by
    have h1:=hw.row row (List.mem_of_getElem? hrow) _ (List.getElem_mem h)
    unfold stepD
    rw[List.getD_eq_getElem?_getD (l:=D.next),hrow,Option.getD_some,List.getD_eq_getElem?_getD,List.getElem?_eq_getElem h,Option.getD_some]
    omega
   have HLr:=ah hL;have HBR:=ah hBr;have HRW:=ah hrow;have HRJ:=ah hrj;have zn:=ah hrl;have HW:=ah hw
   clear hL hBr hrow hrj hrl
   obtain⟨TU,adV⟩:∃ x,rb k=x:=⟨_,rfl⟩
   obtain⟨rok,En⟩:∃ x,ro k=x:=⟨_,rfl⟩
   obtain⟨rck,Yr⟩:∃ x,rc k=x:=⟨_,rfl⟩
   rw[adV,En,Yr] at c0
   rw[Yr] at hcp
   have HE:=ah (And.intro adV (And.intro En Yr))
   clear adV En Yr
   go_wp2
   go_loopw [28] (fun v28 wr=>∃ (j:Nat) (vs':Nat→Value),j≤wd∧v28=.int .i64 j∧vs' n=vs n∧mO W n (fE D k j) vs' wr) (fun v28 _=>wd - (intOf v28).toNat)
   case atStart=>exact⟨0,vs,Nat.zero_le _,rfl,rfl,HLr.out⟩
   case round =>
    clear c0 hcb
    obtain⟨j,vs',hj,rfl,hvn,hL⟩:=hrel
    by_cases Ew:j<wd
    ·have hBr:Below w.heap.size w wr:=jG.out.trans (hL.keep.mono jG.out.size)
     have c0:=HM.out.cel k hlt j Ew wr hBr
     rw[HE.out.1,HE.out.2.1] at c0
     have hun:=HM.out.lt k hlt j Ew
     have hgr:=aap (D:=D) HRW.out (j:=j) (u:=stepD D k j) (by rw[zn.out];exact Ew) (HRJ.out j (by rw[zn.out];exact Ew)) (by rw[hDn];exact hun)
     generalize stepD D k j=u at *
     have hcb:=World.block_lt_of_cell? wr _ c0
     have hji:(j:Int)<(wd:Int):=by omega
     have hj0:(0:Int)≤(j:Int):=by omega
     have hui:(u:Int)<(n:Int):=by omega
     have hu0:(0:Int)≤(u:Int):=by omega
     have HG:=ah hgr
     have HF:Hid (∀ q,iE (W.heap.size+2) 3 1 aO (vs' u) (fE D k j u) k wr.drew q→mO W n (fE D k j) vs' q):=ah fun q hq=>(hL.kept (Below.refl _ _).drew).Bd hq
     have HLj:=ah hL
     clear hgr hL hBr
     go_wp2_with fail
     refine aA (R:=iE (W.heap.size+2) 3 1 aO (vs' u) (fE D k j u) k) 10 (by kernel_rfl) ?_
     refine pl [0,1,2,3,4,5,6] ?_
     repeat
      refine dI ?_ rfl (fun w1 hl=>?_) ?_
      rotate_left
      ·have hq:=HF.out w1 hl;have y1:w1.cell? ⟨W.heap.size+1,0,none⟩=some (.slice (some ⟨W.heap.size,0,none⟩) n n):=hq.var.cell 0;have y2:w1.cell? ⟨W.heap.size,u,none⟩=some (vs' u):=(hq.row.cell u).trans (xu hun);go_simp;try with_reducible rfl
      simp only[eA,eB,eC,Act.put,eD,eE,eF]
     refine bU ?_
     refine aP (t:=10) (i:=7) (by kernel_rfl) rfl (fun w1 hl K hK=>?_)
     have F9:=hl
     clear hl
     go_simp
     refine hK.out _ _ (fun _=>(iq _ _ _ _ _ _ _).later _ _ (aj _ _)) ?_
     clear hK K
     have hK7:=(iq (W.heap.size+2) 3 1 aO (vs' u) (fE D k j u) k).trans _ _ _ F9 ((iq _ _ _ _ _ _ _).later _ _ (aj w1 (.cells #[.int .i64 k] 3)))
     have hvn:(vs' u).ownBlock≠some w1.heap.size:=(HF.out w1 F9).wF.Xc (.inr (Nat.le_refl _))
     have hnb:=Box.new w1 #[.int .i64 k] 3
     generalize hwq:w1.heap.size=nb2 at *
     clear hwq
     clear F9
     generalize (w1.alloc (.cells #[.int .i64 k] 3))=wq at *
     refine aP (t:=10) (i:=8) (by kernel_rfl) rfl (fun w1 hl K hK=>?_)
     have hK8:=(iq (W.heap.size+2) 3 1 aO (vs' u) (fE D k j u) k).trans _ _ _ hK7 hl
     have CQ:=hl.box hnb hvn
     have hq8:=HF.out w1 hK8
     have hgl:=SV HW.out k j u (by rw[hDn];exact hk)
     have hy0:w1.cell? ⟨nb2,0,none⟩=some (.int .i64 k):=CQ.cell 0
     refine gu (by rfl) ?_
     refine Cm _ _ 24 rfl jg dN rfl (hq8.wF.own u) ⟨nb2,0,none⟩ 1 k rfl (fun j u hu=>by
      cases j with
      | zero=>simp[aO] at hu;subst hu;exact hy0
      | succ j=>simp[aO] at hu) (by simp only[maxLen];omega) (by omega) hq8.size ?_
     intro a' cap' w' hown' hg hfr G7
     refine hK.out _ _ (fun _=>G7) ?_
     clear hK K
     simp only[List.getElem_toArray,List.getElem_cons_zero,List.getElem_cons_succ,Act.put,List.setIfInBounds_toArray,List.set_cons_zero,List.set_cons_succ]
     have HF9:Hid (∀ q,iE (W.heap.size+2) 3 1 aO (vs' u) (fE D k j u) k w' q→mO W n (jY (fE D k j) u (fE D k j u++[k])) (jY vs' u (.slice a' ((fE D k j u).length+1) cap')) (q.setCell ⟨W.heap.size,u,none⟩ (.slice a' ((fE D k j u).length+1) cap'))∧mO W n (fE D k j) vs' q):=ah fun q hq=>by
      have hK9:=(iq (W.heap.size+2) 3 1 aO (vs' u) (fE D k j u) k).trans _ _ _ G7 hq
      have e:(fE D k j u).length+1=(fE D k j u++[k]).length:=by simp
      exact⟨hq8.put (hq.Jq _ hown') hK9 hfr,hq8.Bd hK9⟩
     clear hq8 CQ hK8 hK7 hnb hvn hy0 hown' hg hfr G7 hl
     refine jM 9 ?_ rfl (fun w1 hl=>?_) ?_
     rotate_left
     ·have hq:=(HF9.out w1 hl).2;have y1:w1.cell? ⟨W.heap.size+1,0,none⟩=some (.slice (some ⟨W.heap.size,0,none⟩) n n):=hq.var.cell 0;go_simp;try with_reducible rfl
     simp only[eA,eB,eC,Act.put,eD,eE,eF]
     refine aP (t:=10) (i:=10) (by kernel_rfl) rfl (fun w1 hl K hK=>?_)
     obtain⟨hP,hq⟩:=HF9.out w1 hl
     have y2:w1.cell? ⟨W.heap.size,u,none⟩=some (vs' u):=(hq.row.cell u).trans (xu hun)
     have f2:w1.frozen? ⟨W.heap.size,u,none⟩=false:=hq.row.free u
     have l2:=hq.row.lt
     go_simp
     refine hK.out _ _ (fun h=>absurd rfl h) ?_
     clear hK K
     have HP:=ah hP
     clear hP hq y2 f2 l2 HF9 HF hl hgl
     refine aH (by kernel_rfl) (fun w1 hl=>?_) _
     have hP2:=HLj.out.Di HP.out hl
     rw[←HG.out] at hP2
     have HP2:=ah hP2
     have am1:jY vs' u (Value.slice a' ((fE D k j u).length+1) cap') n=vs n:=(kF _ _ (by omega)).trans hvn
     clear hP2 hl HP HLj HG hvn
     generalize jY vs' u (Value.slice a' ((fE D k j u).length+1) cap')=vs2 at *
     go_wp2
     exact⟨⟨j+1,vs2,Ew,by push_cast;rfl,am1,HP2.out⟩,by simp[intOf];omega⟩
    ·obtain rfl:j=wd:=by omega
     have hBr:Below w.heap.size w wr:=jG.out.trans (hL.keep.mono jG.out.size)
     have c1:=HM.out.lab k hlt wr hBr
     obtain⟨lc1,lc2⟩:=HM.out.lc
     have hgr:=ac6 (D:=D) HRW.out (by rw[hDn];exact hlt)
     rw[zn.out,hDn] at hgr
     have hcb:=World.block_lt_of_cell? wr _ c1
     have hki:(k:Int)<(n:Int):=by omega
     have hk0:(0:Int)≤(k:Int):=by omega
     have hx3:=LM.out.kept (hL.keep)
     have x2':wr.cell? ⟨w.heap.size,258,none⟩=some (.slice (some ⟨lb,lo,none⟩) n V.lc):=by have:=hx3.kS.2.2.1;rwa[HM.out.ln,HM.out.la] at this
     have hxl:=hx3.lt
     have HLj:=ah hL;have HG:=ah hgr
     clear hL hBr hgr hx3
     generalize labS D k=lk at *
     by_cases hz:lk=0
     ·subst hz
      rw[if_neg (by simp)] at HG
      go_wp2
      exact⟨⟨k+1,vs',hlt,by push_cast;rfl,hvn.symm,by rw[HG.out];exact HLj.out⟩,by simp[intOf];omega⟩
     ·rw[if_pos hz] at HG
      have hne:(lk != 0)=true:=by simpa using hz
      have hn0:vs n=vs' n:=hvn.symm
      simp only[hn0]
      have hgl:=SV HW.out k j n (by rw[hDn];exact hk)
      have hO:=(HLj.out.kept (aj wr (.cells #[.int .i64 k] 3)))
      have hO2:=hO.wF.own n
      have hOs:=hO.size
      have HO:=ah hO
      clear hO hn0
      go_wp2_with (at_builtin;go_must (refine eP rfl _ _ 24 rfl jg dN rfl hO2 ⟨wr.heap.size,0,none⟩ 1 k rfl (dD wr [.int .i64 (k:Nat)] _) (by simp only[maxLen];omega) (by omega) hOs ?_;intro a7 c7 w7 iI dn ug))
      have hE:=HO.out.ai3 iI dn ug
      rw[←HG.out] at hE
      exact⟨⟨k+1,_,hlt,by push_cast;rfl,(lH _ _ _).symm,hE⟩,by simp[intOf];omega⟩
  ·obtain rfl:k=n:=by omega
   have hB4:Below w.heap.size w wr:=jG.out.trans (hL.keep.mono jG.out.size)
   have hd:=aaq hw
   rw[hDn] at hd
   have hend:=hL.wF.own k
   rw[hd.2] at hend
   obtain⟨ea,ec,hev⟩:=hend.form
   have hsz:=hL.size
   have hel:(nU D).length≤65536:=by have:=GK D.label 0;unfold nU;omega
   simp only[hev]
   have Yt:=hend
   rw[hev] at Yt
   have HLV:=ah hL;have HB4:=ah hB4;have HD:=ah hd;have HEV:=ah hev;have X7:=ah Yt;have HW:=ah hw
   clear hL hB4 hd hev hend Yt hw
   go_wp2_with (go_at_call 174;go_must (refine(agk k (nU D).length ec 175 ea #[nV (W.heap.size+1)] wr).mono ?_;rintro e w3 ⟨rfl,hw3⟩))
   have q1:=Box.new wr #[.int .i64 k] 3
   have b1:=aj wr (.cells #[.int .i64 k] 3)
   have s1:=World.size_alloc wr (.cells #[.int .i64 k] 3)
   generalize (wr.alloc (.cells #[.int .i64 k] 3))=u1 at *
   have q2:=Box.new' s1.symm #[.slice ea (nU D).length ec] 24
   have b2:=aj u1 (.cells #[.slice ea (nU D).length ec] 24)
   have s2:=World.size_alloc u1 (.cells #[.slice ea (nU D).length ec] 24)
   rw[s1] at s2
   replace q1:=q1.kept b2
   generalize (u1.alloc (.cells #[.slice ea (nU D).length ec] 24))=u2 at *
   have q3:=Box.new' s2.symm #[.func (.func 175) #[] #[nV (W.heap.size+1)]] 267
   have b3:=aj u2 (.cells #[.func (.func 175) #[] #[nV (W.heap.size+1)]] 267)
   have s3:=World.size_alloc u2 (.cells #[.func (.func 175) #[] #[nV (W.heap.size+1)]] 267)
   rw[s2] at s3
   replace q1:=q1.kept b3
   replace q2:=q2.kept b3
   generalize (u2.alloc (.cells #[.func (.func 175) #[] #[nV (W.heap.size+1)]] 267))=w4 at *
   have hB:Below wr.heap.size wr w4:=(b1.trans (b2.mono b1.size)).trans (b3.mono (Nat.le_trans b1.size b2.size))
   have hfl:∀ g,(Value.slice ea (nU D).length ec).ownBlock=some g→g<wr.heap.size:=fun g hg=>(X7.out.blk hg).2
   have hseq:QU Tryz.prog 218 #[nV wr.heap.size,nV (wr.heap.size+1),nV (wr.heap.size+1+1)] qU (fun b=>b<w4.heap.size) (fun ys=>ys=Gz D) k w4:=fun l J U hU hT hLl hY h0=>by
    refine callsIn_wide.2 ?_
    have hws:=hU.size
    have hBU:Below wr.heap.size wr U:=hB.trans (hU.mono hB.size)
    have:=ac8 (vU D) k w4.heap.size hn2 (nU D) 175 #[nV (W.heap.size+1)] (enters_of Tryz.func175 (by kernel_rfl) rfl) wr.heap.size (wr.heap.size+1) (wr.heap.size+1+1) (W.heap.size+2) ea ec U hws (q1.kept hU) (q2.kept hU) (q3.kept hU) (by omega) (X7.out.kept hBU) (fun g hg=>by have:=hfl g hg;omega) (CS D) (fun x hx=>by rw[←hDn];exact(yH.1 hx).1) (fun s hs=>?_) (fun x hx t ht=>by rw[←hDn];exact JD HW.out x t ht) l J hT hLl hY h0
    ·refine this.mono fun e w' ⟨h1,xs,X,h2,h3⟩=>⟨h1,xs,X,?_,h3⟩
     rw[h2];unfold Gz;rw[hDn]
    ·have hO:=HLV.out.wF.own s
     rw[HD.out.1 s hs] at hO
     obtain⟨a,c,hv⟩:=hO.form
     refine⟨a,c,fun u hu=>?_⟩
     have hsame:∀ b,b<wr.heap.size→u.heap[b]?=wr.heap[b]?:=fun b hb=>(hu b (by omega)).trans (hBU.block b hb)
     have hO2:Own u (W.heap.size+2) 3 1 aO (vs s) (vU D s):=hO.same fun g hg=>hsame g (hO.blk hg).2
     have hLs:=HLV.out
     have hsz2:=hLs.size
     have hx:Box u (W.heap.size+1) #[.slice (some ⟨W.heap.size,0,none⟩) k k] 23:=(hsame _ (by omega)).trans hLs.var
     have hr:Box u W.heap.size (vG k vs) 24:=(hsame _ (by omega)).trans hLs.row
     refine⟨by rw[←hv];exact hO2.slice dN,?_⟩
     rw[←hv]
     exact adT (W.heap.size+1) W.heap.size k k s u (vs s) hx hs ((hr.cell s).trans (xu hs))
   have hmn:=Es HW.out
   rw[hDn] at hmn
   have hml:=nodup_lt_length k _ hmn.1 hmn.2
   have hst:=ah (adS 218 _ (enters_of Tryz.func218 (by kernel_rfl) rfl) (Gz D) k (by omega) (by omega) w4 hseq)
   have hBw:=ah (HB4.out.trans (hB.mono HB4.out.size))
   clear hseq hmn hml b1 b2 b3 q1 q2 q3 s1 s2 s3 hB hfl
   refine hst.out.mono ?_
   rintro e w5 ⟨ra,rc5,rfl,BM,hb5⟩
   go_wp2
   go_ret
   have bF:=hBw.out
   exact⟨ra,rc5,rfl,BM.mono bF.size,bF.trans (hb5.mono bF.size)⟩
end
section
open Go.RowKit
theorem AP{P:Program}{o:Oper}{a:Act}{w:World}{t:TypeId}{parts:Array (Nat×Operand)}{cells:Array Value}{vals:List (Nat×Value)}(ho:o.op=.build t parts)(hv:parts.toList.map (fun p=>(p.1,a.eval p.2))=vals)(h:P.built t vals=some cells):(execOp a.eval o).run P w=.ok (.value (.agg cells)) w:=by
 have h2:P.built t (parts.map fun(i,x)=>(i,a.eval x)).toList=some cells:=by rw[Array.toList_map,←h,←hv]
 unfold execOp
 simp only[ho,Sem.run_bind,run_build w t _ cells h2,Result.andThen_ok,Sem.run_pure]
theorem adW{α:Type}{enc:α→List Value}{size:Nat}{P:Program}{o:Oper}{a:Act}{w:World}{K:Act→World→Prop}{Q:Exit→Act→World→Prop}(t:TypeId)(x y:Operand)(ho:o.op=.makeSlice t x y)
  {E:TypeId} {z:Value} {bytes:Nat} (hE:dQ P t E z size bytes) (he:fB enc size) (x0:α) (hz:z.cells.toList=enc x0) (n:Nat) (hx:a.eval x=.int .i64 n) (hy:a.eval y=.int .i64 n) (hbytes:bytes*n≤281474976710656) (h63:n≤maxLen) (qB:Nat) (hb:qB≤w.heap.size)
  (h:∀ w1,Own w1 qB E size enc (.slice (some ⟨w.heap.size,0,none⟩) n n) (List.replicate n x0)→w1=w.alloc (.cells (madeCells z.cells (n*size)) E)→K (a.put o.dst (.slice (some ⟨w.heap.size,0,none⟩) n n)) w1):Oper.wp P o a w K Q:=by
 obtain⟨i,hi,hiz,his,hib⟩:=hE.info
 subst hib
 subst his
 have h63':(n:Int)≤9223372036854775807:=by have:=h63;simp[maxLen] at this;omega
 have hb':(i.bytes:Int)*(n:Int)≤281474976710656:=by
  have:((i.bytes*n:Nat):Int)≤281474976710656:=by omega
  rwa[Int.natCast_mul] at this
 have hr:=run_make (P:=P) w t E i z hE.slice hi hiz .i64 .i64 n n (Int.natCast_nonneg _) (Int.le_refl _) hb' h63'
 simp only[Int.toNat_natCast] at hr
 unfold Oper.wp execOp
 simp only[ho,hx,hy,Sem.run_bind,Sem.run_pure,Result.andThen_ok,hr,Oper.upon]
 exact h _ (Own.made he w qB E x0 z.cells hz hE.pos n h63 hb) rfl
theorem ED(off:Nat):∀ (l:List Value) (k:Nat) (cs:Array Value) (i:Nat),off+k+l.length≤cs.size →
  ((l.zipIdx k).foldl (fun cs (p:Value×Nat)=>cs.setIfInBounds (off+p.2) p.1) cs)[i]?=if off+k≤i∧i<off+k+l.length then l[i - (off+k)]? else cs[i]?
 | [],k,cs,i,_=>by
  rw[List.zipIdx_nil,List.foldl_nil,if_neg]
  simp only[List.length_nil];omega
 | v::l,k,cs,i,h=>by
  rw[List.length_cons] at h
  rw[List.zipIdx_cons,List.foldl_cons,ED off l (k+1) _ i (by rw[Array.size_setIfInBounds];omega),List.length_cons,Array.getElem?_setIfInBounds]
  by_cases h1:off+(k+1)≤i∧i<off+(k+1)+l.length
  ·rw[if_pos h1,if_pos (by omega),show i - (off+k)=(i - (off+(k+1)))+1 by omega,List.getElem?_cons_succ]
  ·rw[if_neg h1]
   by_cases h2:off+k=i
   ·rw[if_pos h2,if_pos (by omega),if_pos (by omega),show i - (off+k)=0 by omega];rfl
   ·rw[if_neg h2,if_neg (by omega)]
theorem wG(off:Nat):∀ (l:List Value) (k:Nat) (cs:Array Value),((l.zipIdx k).foldl (fun cs (p:Value×Nat)=>cs.setIfInBounds (off+p.2) p.1) cs).size=cs.size
 | [],_,_=>rfl
 | v::l,k,cs=>by rw[List.zipIdx_cons,List.foldl_cons,wG off l (k+1),Array.size_setIfInBounds]
theorem EF(off:Nat)(vs cs:Array Value):vs.zipIdx.foldl (fun cs (x:Value×Nat)=>cs.setIfInBounds (off+x.2) x.1) cs=(vs.toList.zipIdx 0).foldl (fun cs (p:Value×Nat)=>cs.setIfInBounds (off+p.2) p.1) cs:=by
 rw[←Array.foldl_toList,Array.toList_zipIdx]
theorem Hf{P:Program}{t:TypeId}{it:TypeInfo}{fields:Array Field}{z:Value}{places:List (Nat×Nat)}(parts:List (Nat×Value))(hi:P.info? t=some it)(hu:P.underlying t=some (.struct fields))(hz:it.zero=some z)(hp:fields.toList.mapM (fun f=>(P.info? f.type).map fun i=>(f.offset,i.size))=some places) :
  P.built t parts=Instr.fill (places.toArray[·]?) z.cells parts:=by
 unfold Program.built
 rw[hi,hu]
 dsimp only
 rw[hz,hp]
def nG(V:aG)(lv:Value):Array Value:=V.cells++#[lv]
theorem Vf(V:aG)(lv:Value):(nG V lv).size=261:=by unfold nG;rw[Array.size_append,aG.size];rfl
theorem zH(V:aG)(lv:Value)(i:Nat)(h:i<260):(nG V lv)[i]?=V.cells[i]?:=by
 unfold nG
 rw[Array.getElem?_append_left (by rw[aG.size];exact h)]
theorem CZ(V:aG)(lv:Value):(nG V lv)[260]?=some lv:=by
 unfold nG
 rw[Array.getElem?_append_right (by rw[aG.size];exact Nat.le_refl _),aG.size];rfl
theorem Uf(V:aG)(a:Option Addr)(n c:Nat):Tryz.prog.built 213 [(0,.agg V.cells),(1,.slice a n c)]=some (nG V (.slice a n c)):=by
 obtain⟨it,hi⟩:∃ it,Tryz.prog.info? 213=some it:=Option.isSome_iff_exists.1 (by kernel_rfl)
 have hz0:(Tryz.prog.info? 213).map (fun it=>it.zero.map (·.cells.size))=some (some 261):=by kernel_rfl
 rw[hi] at hz0
 simp only[Option.map_some,Option.some.injEq] at hz0
 obtain⟨z,hz,hzs⟩:=Option.map_eq_some_iff.1 hz0
 rw[Hf (places:=[(0,260),(260,1)]) _ hi Tryz.underlying213 hz (by kernel_rfl)]
 have e1:(Value.agg V.cells).cells=V.cells:=rfl
 have e2:(Value.slice a n c).cells=#[Value.slice a n c]:=rfl
 have hs:=aG.size V
 have MR:=wG 0 V.cells.toList 0 z.cells
 have hgg:=fun i=>ED 0 V.cells.toList 0 z.cells i (by rw[Array.length_toList];omega)
 rw[←EF] at MR
 simp only[←EF] at hgg
 generalize hF:V.cells.zipIdx.foldl (fun cs (x:Value×Nat)=>cs.setIfInBounds (0+x.2) x.1) z.cells=F at *
 have h0:Instr.fill (([(0,260),(260,1)]:List (Nat×Nat)).toArray[·]?) z.cells [(0,.agg V.cells),(1,.slice a n c)]=Instr.fill (([(0,260),(260,1)]:List (Nat×Nat)).toArray[·]?) F [(1,.slice a n c)]:=by
  rw[←hF]
  show(if (V.cells.size≠260||0+V.cells.size > z.cells.size)=true then none else _)=_
  rw[hs,hzs,if_neg (by decide)]
  rfl
 have h1:Instr.fill (([(0,260),(260,1)]:List (Nat×Nat)).toArray[·]?) F [(1,.slice a n c)]=some (F.setIfInBounds 260 (.slice a n c)):=by
  show(if ((1:Nat)≠1||260+1 > F.size)=true then none else _)=_
  rw[MR,hzs,if_neg (by decide)]
  rfl
 refine h0.trans (h1.trans (congrArg some (Array.ext_getElem? fun i=>?_)))
 rw[Array.getElem?_setIfInBounds,MR,hzs]
 by_cases hi2:260=i
 ·subst hi2;rw[if_pos rfl,if_pos (by decide),CZ]
 ·rw[if_neg hi2,hgg i,Array.length_toList,hs]
  by_cases hi3:i<260
  ·rw[if_pos (by omega),zH _ _ _ hi3,Array.getElem?_toList];rfl
  ·rw[if_neg (by omega),Array.getElem?_eq_none (by omega),Array.getElem?_eq_none (by rw[Vf];omega)]
structure yX(w:World)(qB cb vb:Nat)(V:aG)(n:Nat)(ws:List Nat):Prop where
 box:Box w cb (nG V (.slice (some ⟨vb,0,none⟩) n n)) 213
 live:Own w qB 4 1 Qd (.slice (some ⟨vb,0,none⟩) n n) (vV n ws)
 lt:qB≤cb
theorem yX.kept{w w':World}{qB cb vb:Nat}{V:aG}{n:Nat}{ws:List Nat}(h:yX w qB cb vb V n ws)(hb:Below w.heap.size w w'):yX w' qB cb vb V n ws:=⟨h.box.kept hb,h.live.kept hb,h.lt⟩
theorem yX.ne{w:World}{qB cb vb:Nat}{V:aG}{n:Nat}{ws:List Nat}(h:yX w qB cb vb V n ws):cb≠vb:=fun e=>by
 obtain⟨_,c,hb⟩:=h.live.block vb rfl
 rw[←e] at hb
 exact absurd (h.box.lM hb) (by decide)
theorem yX.mark{w:World}{qB cb vb:Nat}{V:aG}{n:Nat}{ws:List Nat}(h:yX w qB cb vb V n ws){t:Nat}(ht:t<n):yX (w.setCell ⟨vb,t,none⟩ (.bool true)) qB cb vb V n (ws++[t]):=by
 have hl:=qm n ws
 have h1:=h.live.store1 (i:=t) (j:=0) (by rw[hl];exact ht) (by decide) true (.bool true) (fun k hk=>by
  have hk0:k=0:=Nat.lt_one_iff.1 hk
  subst hk0
  rfl)
 rw[S9,show t*1+0=t by omega] at h1
 exact⟨(heap_setCell_other _ _ _ _ h.ne).trans h.box,h1,h.lt⟩
def ai5(w:World)(V:aG)(n:Nat)(ws:List Nat)(e:Ending)(w':World):Prop :=
 ∃ cb vb,e=.returned (.pointer (some ⟨cb,0,none⟩))∧yX w' w.heap.size cb vb V n ws∧Below w.heap.size w w'
theorem Ug(V:aG)(D:bC)(w:World)(h:iJ w V D)(hl:∀ x∈D.names,x.length≤9223372036854775807)(hr:jC D=true):Calls Tryz.prog 95 #[.agg V.cells] w (ai5 w V D.label.length (qJ D)):=by
 have hw:=SN hr
 obtain⟨n,wd,lb,lo,nb,no,rb,ro,rc,hm⟩:=machC h hw
 have hbx:=Box.new w V.cells 27
 have hB0:=aj w (.cells V.cells 27)
 have HLV:=ah (fun u hu=>adU V D u (h.kept hu) hl hr)
 obtain⟨hn1,hn2⟩:=hm.nb1
 have hlen:(qJ D).length≤n:=by
  unfold qJ
  rw[mg,←hm.nl]
  exact nodup_lt_length _ _ (Es hw).1 (Es hw).2
 have hlt:∀ x∈qJ D,x<n:=fun x hx=>by rw[←hm.nl];exact((Pq hw x).1 hx).1
 have hnl:=hm.nl
 have hln:=hm.ln
 have hla:=hm.la
 rw[hnl]
 generalize qJ D=L at *
 have OA:=ah hlt;have HB0:=ah hB0
 have hst:Below w.heap.size w (w.alloc (.cells V.cells 27)).drew:=hB0.trans ((Below.refl _ _).drew.mono hB0.size)
 have HF:Hid (∀ u,Later (w.alloc (.cells V.cells 27)).drew u→Box u w.heap.size V.cells 27∧Below w.heap.size w u):=ah fun u hu=>⟨(hbx.kept ((Below.refl _ _).drew)).kept hu,hst.trans (hu.mono hst.size)⟩
 clear h hl hr hm hlt hbx hw hnl
 go_enter Tryz.func95,Tryz.ntmps95
 go_wp2_with fail
 refine aA (R:=Later) 8 (by kernel_rfl) ?_
 refine zS (t:=8) (i:=0) rfl (by kernel_rfl) (by kernel_rfl) (by kernel_rfl) (by kernel_rfl) (fun _ _ _ h=>h) (by rfl) (fun w1 hl=>lW 27 _ rfl _ rfl ((HF.out w1 hl).1) Tryz.underlying27 rfl (bQ V)) ?_
 simp only[eA,eB,Act.put,eD,eE,eF]
 refine pl [1,2,3] ?_
 repeat
  refine dI ?_ rfl (fun w1 hl=>?_) ?_
  rotate_left
  ·have hx:=(HF.out w1 hl).1;have x2:w1.cell? ⟨w.heap.size,258,none⟩=some (.slice (some ⟨lb,lo,none⟩) n V.lc):=by { have:=hx.kS.2.2.1;rwa[hln,hla] at this };go_simp;try with_reducible rfl
  simp only[eA,eB,eC,Act.put,eD,eE,eF]
 refine bU ?_
 refine aP (t:=8) (i:=4) (by kernel_rfl) rfl (fun w1 hl K hK=>?_)
 refine gu (by rfl) ?_
 refine adW 211 _ _ rfl OY SX false rfl n rfl rfl (by omega) (by simp only[maxLen];omega) w1.heap.size (Nat.le_refl _) ?_
 intro w2 hm2 hw2
 have Uh:Below w1.heap.size w1 w2:=by rw[hw2];exact aj _ _
 refine hK.out _ _ (fun _=>Uh) ?_
 clear hK K
 simp only[List.getElem_toArray,List.getElem_cons_zero,List.getElem_cons_succ,Act.put,List.setIfInBounds_toArray,List.set_cons_zero,List.set_cons_succ]
 obtain⟨hX1,hB1⟩:=HF.out w1 hl
 obtain⟨vb,hvb⟩:∃ vb,w1.heap.size=vb:=⟨_,rfl⟩
 have hs2:w2.heap.size=vb+1:=by rw[hw2,World.size_alloc,hvb]
 have hl2:Below w1.heap.size w1 w2:=Uh
 have hX2:=hX1.kept Uh
 have hB2:=hB1.trans (Uh.mono hB1.size)
 rw[hvb] at hm2 ⊢
 have hvw:w.heap.size≤vb:=by rw[←hvb];exact hB1.size
 clear hw2 hvb hX1 hB1 Uh hl hl2
 rw[←SY] at hm2
 refine jM 5 (.agg (nG V (.slice (some ⟨vb,0,none⟩) n n))) rfl (fun w1 hl=>?_) ?_
 ·exact AP rfl (by rfl) (Uf V (some ⟨vb,0,none⟩) n n)
 simp only[List.getElem_toArray,List.getElem_cons_zero,List.getElem_cons_succ,Act.put,List.setIfInBounds_toArray,List.set_cons_zero,List.set_cons_succ]
 refine aP (t:=8) (i:=6) (by kernel_rfl) rfl (fun w1 hl K hK=>?_)
 have fF:=hX2.kept hl
 have hB3:=hB2.trans (hl.mono hB2.size)
 have wO:=hm2.kept hl
 have hs3:=hl.size
 clear hl hX2 hB2 hm2
 go_simp
 refine hK.out _ _ (fun _=>aj _ _) ?_
 clear hK K
 have hcb:=Box.new w1 (nG V (.slice (some ⟨vb,0,none⟩) n n)) 213
 have hb4:=aj w1 (.cells (nG V (.slice (some ⟨vb,0,none⟩) n n)) 213)
 obtain⟨cb,adX⟩:∃ cb,w1.heap.size=cb:=⟨_,rfl⟩
 have Wx:yX (w1.alloc (.cells (nG V (.slice (some ⟨vb,0,none⟩) n n)) 213)) w.heap.size cb vb V n []:=⟨adX▸hcb,(wO.kept hb4).mono hvw,by omega⟩
 have gJ:=fF.kept hb4
 have hB4:=hB3.trans (hb4.mono hB3.size)
 rw[adX]
 clear hcb hb4 adX fF hB3 wO
 generalize (w1.alloc (.cells (nG V (.slice (some ⟨vb,0,none⟩) n n)) 213))=w4 at *
 refine jM 7 ?_ rfl (fun w1 hl=>?_) ?_
 rotate_left
 ·skip;go_simp;try with_reducible rfl
 simp only[eA,eB,eC,Act.put,eD,eE,eF]
 refine aH (by kernel_rfl) (fun w1 hl=>?_) _
 have am2:=Wx.kept hl
 have dA:=gJ.kept hl
 have bF:=hB4.trans (hl.mono hB4.size)
 clear Wx gJ hB4 hl HF
 have Ui:=ah am2;have BO:=ah bF
 go_wp2_with (first | (refine bM (by rfl) 27 _ rfl w.heap.size rfl _ _ _ _ dA Tryz.underlying27 rfl (bQ _) ?_) | (go_at_call 130;go_must (refine(HLV.out _ BO.out).mono ?_;rintro e w6 ⟨la6,lc6,rfl,zk,hb6⟩)))
 have ai6:=Ui.out.kept hb6
 have kH:=BO.out.trans (hb6.mono BO.out.size)
 have hvl:=Ui.out.live.blk (g:=vb) rfl
 obtain⟨_,hlc,adv,g,hga,hgx⟩:=zk.LU
 have NG:∀ k,k<L.length→g≠vb:=fun k hk e=>by
  have h1:=zk.blk (g:=g) (by rw[(hga k hk).1];rfl)
  omega
 have HC6:=ah ai6;have HB6:=ah kH;have HGA:=ah hga;have HGX:=ah hgx;have HGN:=ah NG
 obtain⟨m,hm⟩:∃ m,L.length=m:=⟨_,rfl⟩
 have HLEN:=ah hm
 rw[hm] at hlc hlen
 simp only[hm]
 clear ai6 kH hga hgx NG hm zk dA hb6 Ui BO
 go_wp2
 go_loopw [16] (fun i wr=>∃ k:Nat,k≤m∧i=.int .i64 k∧yX wr w.heap.size cb vb V n (L.take k)∧Below w.heap.size w wr∧∀ b,b≠vb→wr.heap[b]?=w6.heap[b]?) (fun i _=>m - (intOf i).toNat)
 case atStart=>exact⟨0,Nat.zero_le _,rfl,by rw[List.take_zero];exact HC6.out,HB6.out,fun _ _=>rfl⟩
 case round =>
  obtain⟨k,hk,rfl,hC,hB,hk6⟩:=hrel
  by_cases hlt:k<m
  ·have hlk:k<L.length:=by rw[HLEN.out];exact hlt
   obtain⟨rfl,hgl⟩:=HGA.out k hlk
   have c0:=HGX.out wr k hlk (hk6 g (HGN.out k hlk))
   have hsn:=OA.out _ (List.getElem_mem hlk)
   have htk:L.take (k+1)=L.take k++[L[k]]:=List.take_succ_eq_append_getElem hlk
   generalize L[k]=s at *
   have hcbl:=World.block_lt_of_cell? wr _ c0
   have hsl:=qm n (L.take k)
   obtain⟨g1,g2,g3,g4⟩:=hC.live.cellAt (i:=s) (j:=0) (by rw[hsl];exact hsn) (by decide)
   rw[show s*1+0=s by omega] at g1 g2
   have g1':wr.cell? ⟨vb,s,none⟩=some (.bool ((vV n (L.take k))[s]'(by rw[hsl];exact hsn))):=by rw[g1];rfl
   have hlive:wr.cell? ⟨cb,260,none⟩=some (.slice (some ⟨vb,0,none⟩) n n):=(hC.box.cell 260).trans (CZ _ _)
   have hcl:=hC.box.lt
   have hC2:=hC.mark hsn
   rw[←htk] at hC2
   have hB2:Below w.heap.size w (wr.setCell ⟨vb,s,none⟩ (.bool true)):=hB.setCell (by simpa using hC.live.blk (g:=vb) rfl |>.1) _
   have HC2:=ah hC2;have HB2:=ah hB2;have SI:=ah hk6
   have hki:(k:Int)<(m:Int):=by omega
   have hk0:(0:Int)≤(k:Int):=by omega
   have hsi:(s:Int)<(n:Int):=by omega
   have hs0:(0:Int)≤(s:Int):=by omega
   clear hC hB hk6 htk hC2 hB2 g1
   go_wp2
   exact⟨⟨k+1,hlt,by push_cast;rfl,HC2.out,HB2.out,fun b hb=>(heap_setCell_other _ _ _ _ hb).trans (SI.out b hb)⟩,by simp[intOf];omega⟩
  ·obtain rfl:k=m:=by omega
   rw[←HLEN.out,List.take_length] at hC
   have HC2:=ah hC;have HB2:=ah hB
   clear hC hB hk6
   go_wp2
   go_ret
   exact⟨cb,vb,rfl,HC2.out,HB2.out⟩
end
end Go.Proofs.YtengfapcaaacaaaGreatDoor
