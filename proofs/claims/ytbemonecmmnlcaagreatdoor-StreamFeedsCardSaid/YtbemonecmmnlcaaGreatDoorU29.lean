/- The texts of T29, in few letters (mini.py). -/
import Derived.Test.YtbemonecmmnlcaaGreatDoorU28
set_option linter.unusedVariables false
set_option linter.unusedSimpArgs false
set_option maxRecDepth 20000
set_option maxHeartbeats 6400000
namespace Go.Proofs.YtbemonecmmnlcaaGreatDoor
section
open Go.RowKit
def qP(D:ay):List Nat:=yw (yX D)
theorem GR{D:ay}(hw:jF D)(x:Nat):x∈qP D↔x<D.label.length∧¬ zG D x:=by unfold qP;rw[PY,adQ hw]
theorem abR(n:Nat)(z:Value)(hz:z.cells=#[z]):madeCells z.cells (n*1)=vW n (fun _=>z):=by
 apply Array.ext_getElem?
 intro i
 by_cases hi:i<n
 ·rw[yU _ _ _ (by omega) (by rw[hz];exact Nat.one_pos),xA hi,hz]
  simp[Nat.mod_one]
 ·rw[Array.getElem?_eq_none (by rw[size_madeCells];omega),Array.getElem?_eq_none (by rw[Bc];omega)]
structure mQ(W:World)(n:Nat)(grp:Nat→List Nat)(vs:Nat→Value)(wr:World):Prop where
 wO:lW wr (W.heap.size+2) 3 1 aG grp vs
 row:Box wr W.heap.size (vW n vs) 24
 var:Box wr (W.heap.size+1) #[.slice (some ⟨W.heap.size,0,none⟩) n n] 23
 keep:Below W.heap.size W wr
 size:W.heap.size+2≤wr.heap.size
theorem mQ.kept{W:World}{n:Nat}{grp:Nat→List Nat}{vs:Nat→Value}{wr w2:World}(h:mQ W n grp vs wr)(hb:Below wr.heap.size wr w2):mQ W n grp vs w2 :=
 ⟨h.wO.kept hb,h.row.kept hb,h.var.kept hb,h.keep.trans (hb.mono h.keep.size),Nat.le_trans h.size hb.size⟩
theorem mQ.Ba{W:World}{n:Nat}{grp:Nat→List Nat}{vs:Nat→Value}{wr w2:World}{s y:Nat}(h:mQ W n grp vs wr)(k:iH (W.heap.size+2) 3 1 aG (vs s) (grp s) y wr w2):mQ W n grp vs w2:=by
 have hv:∀ b,b<W.heap.size+2→(vs s).ownBlock≠some b:=fun b hb=>h.wO.XP (.inl hb)
 have hsz:=h.size
 refine⟨h.wO.Ba k,k.box h.row (hv _ (by omega)),k.box h.var (hv _ (by omega)),⟨k.os.trans h.keep.os,k.tape.trans h.keep.tape,k.output.trans h.keep.output,Nat.le_trans h.keep.size k.grow,fun b hb=>(k.block b (by omega) (hv b (by omega))).trans (h.keep.block b hb)⟩,Nat.le_trans h.size k.grow⟩
theorem mQ.CZ{W:World}{n:Nat}{grp:Nat→List Nat}{vs:Nat→Value}{w0 wr w2:World}{s y:Nat}{v':Value}(h0:mQ W n grp vs w0)(h:mQ W n (kF grp s (grp s++[y])) (kF vs s v') wr)(k:iH (W.heap.size+2) 3 1 aG (vs s) (grp s) y wr w2):mQ W n (kF grp s (grp s++[y])) (kF vs s v') w2:=by
 have hv:∀ b,b<W.heap.size+2→(vs s).ownBlock≠some b:=fun b hb=>h0.wO.XP (.inl hb)
 have hsz:=h.size
 exact⟨lW.CZ h0.wO h.wO k,k.box h.row (hv _ (by omega)),k.box h.var (hv _ (by omega)),⟨k.os.trans h.keep.os,k.tape.trans h.keep.tape,k.output.trans h.keep.output,Nat.le_trans h.keep.size k.grow,fun b hb=>(k.block b (by omega) (hv b (by omega))).trans (h.keep.block b hb)⟩,Nat.le_trans h.size k.grow⟩
theorem mQ.put{W:World}{n:Nat}{grp:Nat→List Nat}{vs:Nat→Value}{wr w2:World}{s y:Nat}{v':Value}(h:mQ W n grp vs wr)(ho:Own w2 (W.heap.size+2) 3 1 aG v' (grp s++[y]))(k:iH (W.heap.size+2) 3 1 aG (vs s) (grp s) y wr w2)(hf:v'.ownBlock=(vs s).ownBlock∨v'.ownBlock=some wr.heap.size) :
  mQ W n (kF grp s (grp s++[y])) (kF vs s v') (w2.setCell ⟨W.heap.size,s,none⟩ v'):=by
 have h2:=h.Ba k
 have hsz:=h2.size
 have ho2:∀ b,b≠W.heap.size→(w2.setCell ⟨W.heap.size,s,none⟩ v').heap[b]?=w2.heap[b]?:=fun b hb=>heap_setCell_other _ _ _ _ hb
 refine⟨(h.wO.put s y ho k.grownBy hf).same fun b hb _=>ho2 b (by omega),?_,(ho2 _ (by omega)).trans h2.var,h2.keep.setCell (Nat.le_refl _) _,by rw[World.size_setCell];exact hsz⟩
 have:=h2.row.set s v'
 rwa[ac4] at this
theorem mQ.ajI{W:World}{n:Nat}{grp:Nat→List Nat}{vs:Nat→Value}{w1 w2:World}{y:Nat}{v':Value}(h:mQ W n grp vs w1)(ho:Own w2 (W.heap.size+2) 3 1 aG v' (grp n++[y]))(hg:w1.grownBy w2 (vs n).ownBlock)(hf:v'.ownBlock=(vs n).ownBlock∨v'.ownBlock=some w1.heap.size) :
  mQ W n (kF grp n (grp n++[y])) (kF vs n v') w2:=by
 have hv:∀ b,b<W.heap.size+2→(vs n).ownBlock≠some b:=fun b hb=>h.wO.XP (.inl hb)
 have hsz:=h.size
 have hb:∀ b,b<W.heap.size+2→w2.heap[b]?=w1.heap[b]?:=fun b hb=>hg.block b (by omega) fun e=>hv b hb e.symm
 refine⟨h.wO.put n y ho hg hf,?_,(hb _ (by omega)).trans h.var,⟨hg.os.trans h.keep.os,hg.tape.trans h.keep.tape,hg.output.trans h.keep.output,Nat.le_trans h.keep.size hg.size,fun b hb'=>(hb b (by omega)).trans (h.keep.block b hb')⟩,Nat.le_trans h.size hg.size⟩
 rw[Rk _ _ _ _ (Nat.le_refl _)]
 exact(hb _ (by omega)).trans h.row
theorem aeF(bt rb n c s:Nat)(u:World)(v:Value)(hx:Box u bt #[.slice (some ⟨rb,0,none⟩) n c] 23)(hs:s<n)(hc:u.cell? ⟨rb,s,none⟩=some v) :
  Calls Tryz.prog 123 #[.int .i64 s,nZ bt] u fun e w'=>e=.returned v∧w'=u:=by
 have x0:u.cell? ⟨bt,0,none⟩=some (.slice (some ⟨rb,0,none⟩) n c):=hx.cell 0
 have hsi:(s:Int)<(n:Int):=by omega
 have hs0:(0:Int)≤(s:Int):=by omega
 have hbl:=World.block_lt_of_cell? u _ hc
 have hxl:=hx.lt
 clear hx
 go_enter Tryz.func123,Tryz.ntmps123
 go_wp2
 go_ret
 exact⟨rfl,rfl⟩
theorem ag3(n m c f:Nat)(a:Option Addr)(lb:Array Value)(w:World):Calls Tryz.prog 122 #[.int .i64 n,.slice a m c,.func (.func f) #[] lb] w fun e w'=>e=.returned (.func (.func 164) #[] #[nZ w.heap.size,nZ (w.heap.size+1),nZ (w.heap.size+1+1)])∧w'=((w.alloc (.cells #[.int .i64 n] 3)).alloc (.cells #[.slice a m c] 24)).alloc (.cells #[.func (.func f) #[] lb] 194):=by
 go_enter Tryz.func122,Tryz.ntmps122
 go_wp2
 go_ret
 exact⟨rfl,rfl⟩
theorem aeG(V:au)(D:ay)(w:World)(h:dN w V D)(hl:∀ x∈D.names,x.length≤9223372036854775807)(hr:dS D=true):Calls Tryz.prog 82 #[.agg V.cells] w (gV w 3 1 aG (qP D)):=by
 have hw:=yM hr
 obtain⟨n,wd,lb,lo,nb,no,rb,ro,rc,hm⟩:=machC h hw
 have hbx:=Box.new w V.cells 27
 have hB0:=aj w (.cells V.cells 27)
 have HR:=ah (fun u hu=>hr▸rM V D u (h.kept hu) hl)
 have HM:=ah hm
 obtain⟨hn1,hn2⟩:=hm.ER
 clear h hl hr hm
 go_enter Tryz.func82,Tryz.ntmps82
 go_wp2_with (first | (with_reducible refine Halt.go (p:=wpList _ _ _ ({ dst:=some 19,op:=_,type:=_,pos:=_,after:=_,guard:=_ }::_) _ _) ?_) | (refine aI (by rfl) 27 _ rfl w.heap.size rfl _ _ _ _ hbx Tryz.underlying27 rfl (aZ _) ?_) | (go_at_call 40;go_must (refine(HR.out _ hB0).mono ?_;rintro e W ⟨rfl,hb2⟩;have hbW:=hB0.trans (hb2.mono hB0.size);have hx2:=hbx.kept hb2;obtain⟨x0,x1,x2,x3⟩:=hx2.jV;rw[HM.out.ln,HM.out.la] at x2;rw[HM.out.nn,HM.out.na] at x1)) | (refine qU rfl 23 _ _ rfl Gp Ar (none,0,0) rfl n rfl rfl (by omega) (by simp only[maxLen];omega) W.heap.size (Nat.le_refl _) ?_;intro w1 _ hw1;have y0:=Box.new W (vW n fun _=>Value.slice none 0 0) 24;have hb1:=aj W (.cells (vW n fun _=>Value.slice none 0 0) 24);rw[abR n (.slice none 0 0) rfl] at hw1;rw[←hw1] at y0 hb1;have hs1:w1.heap.size=W.heap.size+1:=by { rw[hw1,World.size_alloc] };have z1:=Box.new w1 #[Value.slice none 0 0] 23;clear hw1 x2))
 have hb2':Below W.heap.size W (w1.alloc (.cells #[.slice (some ⟨W.heap.size,0,none⟩) n n] 23)):=hb1.alloc hb1.size _
 have z2:Box (w1.alloc (.cells #[.slice (some ⟨W.heap.size,0,none⟩) n n] 23)) (W.heap.size+1) #[.slice (some ⟨W.heap.size,0,none⟩) n n] 23:=Box.new' hs1.symm _ _
 have hL0:mQ W n (fV D 0 0) (fun _=>Value.slice none 0 0) (w1.alloc (.cells #[.slice (some ⟨W.heap.size,0,none⟩) n n] 23)):=by
  rw[aaU]
  exact⟨lW.new _ _ _ _ _,y0.kept (aj _ _),z2,hb2',by rw[World.size_alloc];omega⟩
 obtain⟨W0,hW0⟩:∃ W0,(w1.alloc (.cells #[.slice (some ⟨W.heap.size,0,none⟩) n n] 23))=W0:=⟨_,rfl⟩
 have hx3:=hx2.kept hb2'
 rw[hW0] at hL0 hx3 hb2'
 simp only[hW0]
 have x1':W0.cell? ⟨w.heap.size,257,none⟩=some (.slice (some ⟨nb,no,none⟩) n V.nc):=by have:=hx3.jV.2.1;rwa[HM.out.nn,HM.out.na] at this
 have hxl:=hx3.lt
 have HL0:=ah hL0;have Dq:=ah hx2;have gG:=ah hbW
 clear hL0 hb2' hW0 z2 z1 y0 hb1 hs1 x0 x1 x3 hx2 hbW hb2 hx3 HR hbx hB0
 unfold Halt
 go_wp2
 clear x1'
 have hDn:=HM.out.nl
 go_loopw [5,21] (fun v5 v21 wr=>∃ (k:Nat) (vs:Nat→Value),k≤n∧v21=.int .i64 k∧v5=vs n∧mQ W n (fV D k 0) vs wr) (fun _ v21 _=>n - (intOf v21).toNat)
 case atStart=>exact⟨0,_,Nat.zero_le _,rfl,rfl,HL0.out⟩
 case round =>
  obtain⟨k,vs,hk,rfl,rfl,hL⟩:=hrel
  by_cases hlt:k<n
  ·have hBr:Below w.heap.size w wr:=gG.out.trans (hL.keep.mono gG.out.size)
   have c0:=HM.out.row k hlt wr hBr
   have hcp:=HM.out.cap k hlt
   have hcb:=World.block_lt_of_cell? wr _ c0
   have hki:(k:Int)<(n:Int):=by omega
   have hk0:(0:Int)≤(k:Int):=by omega
   obtain⟨row,hrow⟩:∃ row,D.next[k]?=some row:=⟨_,List.getElem?_eq_getElem (by rw[hw.nx,hDn];exact hlt)⟩
   have hrl:row.length=wd:=by have h1:=hw.JU row (List.mem_of_getElem? hrow);rw[HM.out.wide] at h1;omega
   have hrj:∀ j (h:j<row.length),row[j]=((stepD D k j:Nat):Int):=fun j h=>by
    have h1:=hw.row row (List.mem_of_getElem? hrow) _ (List.getElem_mem h)
    unfold stepD
    rw[List.getD_eq_getElem?_getD (l:=D.next),hrow,Option.getD_some,List.getD_eq_getElem?_getD,List.getElem?_eq_getElem h,Option.getD_some]
    omega
   have HLr:=ah hL;have zq:=ah hBr;have HRW:=ah hrow;have HRJ:=ah hrj;have Gq:=ah hrl;have HW:=ah hw
   clear hL hBr hrow hrj hrl
   obtain⟨Ub,aeH⟩:∃ x,rb k=x:=⟨_,rfl⟩
   obtain⟨rok,Ee⟩:∃ x,ro k=x:=⟨_,rfl⟩
   obtain⟨rck,Y2⟩:∃ x,rc k=x:=⟨_,rfl⟩
   rw[aeH,Ee,Y2] at c0
   rw[Y2] at hcp
   have HE:=ah (And.intro aeH (And.intro Ee Y2))
   clear aeH Ee Y2
   go_wp2
   go_loopw [28] (fun v28 wr=>∃ (j:Nat) (vs':Nat→Value),j≤wd∧v28=.int .i64 j∧vs' n=vs n∧mQ W n (fV D k j) vs' wr) (fun v28 _=>wd - (intOf v28).toNat)
   case atStart=>exact⟨0,vs,Nat.zero_le _,rfl,rfl,HLr.out⟩
   case round =>
    clear c0 hcb
    obtain⟨j,vs',hj,rfl,hvn,hL⟩:=hrel
    by_cases En:j<wd
    ·have hBr:Below w.heap.size w wr:=gG.out.trans (hL.keep.mono gG.out.size)
     have c0:=HM.out.SX k hlt j En wr hBr
     rw[HE.out.1,HE.out.2.1] at c0
     have hun:=HM.out.lt k hlt j En
     have hgr:=aaV (D:=D) HRW.out (j:=j) (u:=stepD D k j) (by rw[Gq.out];exact En) (HRJ.out j (by rw[Gq.out];exact En)) (by rw[hDn];exact hun)
     generalize stepD D k j=u at *
     have hcb:=World.block_lt_of_cell? wr _ c0
     have hji:(j:Int)<(wd:Int):=by omega
     have hj0:(0:Int)≤(j:Int):=by omega
     have hui:(u:Int)<(n:Int):=by omega
     have hu0:(0:Int)≤(u:Int):=by omega
     have HG:=ah hgr
     have HF:Hid (∀ q,iH (W.heap.size+2) 3 1 aG (vs' u) (fV D k j u) k wr.drew q→mQ W n (fV D k j) vs' q):=ah fun q hq=>(hL.kept (Below.refl _ _).drew).Ba hq
     have HLj:=ah hL
     clear hgr hL hBr
     go_wp2_with fail
     refine aH (R:=iH (W.heap.size+2) 3 1 aG (vs' u) (fV D k j u) k) 10 (by kernel_rfl) ?_
     refine pl [0,1,2,3,4,5,6] ?_
     repeat
      refine gU ?_ rfl (fun w1 hl=>?_) ?_
      rotate_left
      ·have hq:=HF.out w1 hl;have y1:w1.cell? ⟨W.heap.size+1,0,none⟩=some (.slice (some ⟨W.heap.size,0,none⟩) n n):=hq.var.cell 0;have y2:w1.cell? ⟨W.heap.size,u,none⟩=some (vs' u):=(hq.row.cell u).trans (xA hun);go_simp;try with_reducible rfl
      simp only[eA,eB,eC,Act.put,eD,eE,eF]
     refine dI ?_
     refine aW (t:=10) (i:=7) (by kernel_rfl) rfl (fun w1 hl K hK=>?_)
     have FU:=hl
     clear hl
     go_simp
     refine hK.out _ _ (fun _=>(iC _ _ _ _ _ _ _).later _ _ (aj _ _)) ?_
     clear hK K
     have hK7:=(iC (W.heap.size+2) 3 1 aG (vs' u) (fV D k j u) k).trans _ _ _ FU ((iC _ _ _ _ _ _ _).later _ _ (aj w1 (.cells #[.int .i64 k] 3)))
     have hvn:(vs' u).ownBlock≠some w1.heap.size:=(HF.out w1 FU).wO.XP (.inr (Nat.le_refl _))
     have hnb:=Box.new w1 #[.int .i64 k] 3
     generalize hwq:w1.heap.size=nb2 at *
     clear hwq
     clear FU
     generalize (w1.alloc (.cells #[.int .i64 k] 3))=wq at *
     refine aW (t:=10) (i:=8) (by kernel_rfl) rfl (fun w1 hl K hK=>?_)
     have hK8:=(iC (W.heap.size+2) 3 1 aG (vs' u) (fV D k j u) k).trans _ _ _ hK7 hl
     have CG:=hl.box hnb hvn
     have hq8:=HF.out w1 hK8
     have hgl:=SV HW.out k j u (by rw[hDn];exact hk)
     have hy0:w1.cell? ⟨nb2,0,none⟩=some (.int .i64 k):=CG.cell 0
     refine dD (by rfl) ?_
     refine Ce _ _ 24 rfl eX bQ rfl (hq8.wO.own u) ⟨nb2,0,none⟩ 1 k rfl (fun j u hu=>by
      cases j with
      | zero=>simp[aG] at hu;subst hu;exact hy0
      | succ j=>simp[aG] at hu) (by simp only[maxLen];omega) (by omega) hq8.size ?_
     intro a' cap' w' hown' hg hfr GI
     refine hK.out _ _ (fun _=>GI) ?_
     clear hK K
     simp only[List.getElem_toArray,List.getElem_cons_zero,List.getElem_cons_succ,Act.put,List.setIfInBounds_toArray,List.set_cons_zero,List.set_cons_succ]
     have HF9:Hid (∀ q,iH (W.heap.size+2) 3 1 aG (vs' u) (fV D k j u) k w' q→mQ W n (kF (fV D k j) u (fV D k j u++[k])) (kF vs' u (.slice a' ((fV D k j u).length+1) cap')) (q.setCell ⟨W.heap.size,u,none⟩ (.slice a' ((fV D k j u).length+1) cap'))∧mQ W n (fV D k j) vs' q):=ah fun q hq=>by
      have hK9:=(iC (W.heap.size+2) 3 1 aG (vs' u) (fV D k j u) k).trans _ _ _ GI hq
      have e:(fV D k j u).length+1=(fV D k j u++[k]).length:=by simp
      exact⟨hq8.put (hq.JH _ hown') hK9 hfr,hq8.Ba hK9⟩
     clear hq8 CG hK8 hK7 hnb hvn hy0 hown' hg hfr GI hl
     refine iZ 9 ?_ rfl (fun w1 hl=>?_) ?_
     rotate_left
     ·have hq:=(HF9.out w1 hl).2;have y1:w1.cell? ⟨W.heap.size+1,0,none⟩=some (.slice (some ⟨W.heap.size,0,none⟩) n n):=hq.var.cell 0;go_simp;try with_reducible rfl
     simp only[eA,eB,eC,Act.put,eD,eE,eF]
     refine aW (t:=10) (i:=10) (by kernel_rfl) rfl (fun w1 hl K hK=>?_)
     obtain⟨hP,hq⟩:=HF9.out w1 hl
     have y2:w1.cell? ⟨W.heap.size,u,none⟩=some (vs' u):=(hq.row.cell u).trans (xA hun)
     have f2:w1.frozen? ⟨W.heap.size,u,none⟩=false:=hq.row.free u
     have l2:=hq.row.lt
     go_simp
     refine hK.out _ _ (fun h=>absurd rfl h) ?_
     clear hK K
     have HP:=ah hP
     clear hP hq y2 f2 l2 HF9 HF hl hgl
     refine aQ (by kernel_rfl) (fun w1 hl=>?_) _
     have hP2:=HLj.out.CZ HP.out hl
     rw[←HG.out] at hP2
     have HP2:=ah hP2
     have aon:kF vs' u (Value.slice a' ((fV D k j u).length+1) cap') n=vs n:=(kN _ _ (by omega)).trans hvn
     clear hP2 hl HP HLj HG hvn
     generalize kF vs' u (Value.slice a' ((fV D k j u).length+1) cap')=vs2 at *
     go_wp2
     exact⟨⟨j+1,vs2,En,by push_cast;rfl,aon,HP2.out⟩,by simp[intOf];omega⟩
    ·obtain rfl:j=wd:=by omega
     have hBr:Below w.heap.size w wr:=gG.out.trans (hL.keep.mono gG.out.size)
     have c1:=HM.out.lab k hlt wr hBr
     obtain⟨lc1,BO⟩:=HM.out.lc
     have hgr:=adT (D:=D) HRW.out (by rw[hDn];exact hlt)
     rw[Gq.out,hDn] at hgr
     have hcb:=World.block_lt_of_cell? wr _ c1
     have hki:(k:Int)<(n:Int):=by omega
     have hk0:(0:Int)≤(k:Int):=by omega
     have hx3:=Dq.out.kept (hL.keep)
     have x2':wr.cell? ⟨w.heap.size,258,none⟩=some (.slice (some ⟨lb,lo,none⟩) n V.lc):=by have:=hx3.jV.2.2.1;rwa[HM.out.ln,HM.out.la] at this
     have hxl:=hx3.lt
     have HLj:=ah hL;have HG:=ah hgr
     clear hL hBr hgr hx3
     generalize labS D k=lk at *
     by_cases hz:lk=0
     ·subst hz
      rw[if_neg (by simp)] at HG
      go_wp2
      exact⟨⟨k+1,vs',hlt,by push_cast;rfl,hvn.symm,by rw[HG.out];exact HLj.out⟩,by simp[intOf];omega⟩
     ·rw[if_pos hz] at HG
      have hne:(lk != 0)=true:=by simpa using hz
      have hn0:vs n=vs' n:=hvn.symm
      simp only[hn0]
      have hgl:=SV HW.out k j n (by rw[hDn];exact hk)
      have hO:=(HLj.out.kept (aj wr (.cells #[.int .i64 k] 3)))
      have hO2:=hO.wO.own n
      have hOs:=hO.size
      have HO:=ah hO
      clear hO hn0
      go_wp2_with (at_builtin;go_must (refine dB rfl _ _ 24 rfl eX bQ rfl hO2 ⟨wr.heap.size,0,none⟩ 1 k rfl (cu wr [.int .i64 (k:Nat)] _) (by simp only[maxLen];omega) (by omega) hOs ?_;intro a7 c7 w7 fC bZ nP))
      have hE:=HO.out.ajI fC bZ nP
      rw[←HG.out] at hE
      exact⟨⟨k+1,_,hlt,by push_cast;rfl,(lN _ _ _).symm,hE⟩,by simp[intOf];omega⟩
  ·obtain rfl:k=n:=by omega
   have hB4:Below w.heap.size w wr:=gG.out.trans (hL.keep.mono gG.out.size)
   have hd:=aaW hw
   rw[hDn] at hd
   have hend:=hL.wO.own k
   rw[hd.2] at hend
   obtain⟨ea,ec,hev⟩:=hend.form
   have hsz:=hL.size
   have hel:(nY D).length≤65536:=by have:=Gl D.label 0;unfold nY;omega
   simp only[hev]
   have Y4:=hend
   rw[hev] at Y4
   have yS:=ah hL;have HB4:=ah hB4;have HD:=ah hd;have HEV:=ah hev;have YF:=ah Y4;have HW:=ah hw
   clear hL hB4 hd hev hend Y4 hw
   go_wp2_with (go_at_call 122;go_must (refine(ag3 k (nY D).length ec 123 ea #[nZ (W.heap.size+1)] wr).mono ?_;rintro e w3 ⟨rfl,hw3⟩))
   have q1:=Box.new wr #[.int .i64 k] 3
   have b1:=aj wr (.cells #[.int .i64 k] 3)
   have s1:=World.size_alloc wr (.cells #[.int .i64 k] 3)
   generalize (wr.alloc (.cells #[.int .i64 k] 3))=u1 at *
   have q2:=Box.new' s1.symm #[.slice ea (nY D).length ec] 24
   have b2:=aj u1 (.cells #[.slice ea (nY D).length ec] 24)
   have s2:=World.size_alloc u1 (.cells #[.slice ea (nY D).length ec] 24)
   rw[s1] at s2
   replace q1:=q1.kept b2
   generalize (u1.alloc (.cells #[.slice ea (nY D).length ec] 24))=u2 at *
   have q3:=Box.new' s2.symm #[.func (.func 123) #[] #[nZ (W.heap.size+1)]] 194
   have b3:=aj u2 (.cells #[.func (.func 123) #[] #[nZ (W.heap.size+1)]] 194)
   have s3:=World.size_alloc u2 (.cells #[.func (.func 123) #[] #[nZ (W.heap.size+1)]] 194)
   rw[s2] at s3
   replace q1:=q1.kept b3
   replace q2:=q2.kept b3
   generalize (u2.alloc (.cells #[.func (.func 123) #[] #[nZ (W.heap.size+1)]] 194))=w4 at *
   have hB:Below wr.heap.size wr w4:=(b1.trans (b2.mono b1.size)).trans (b3.mono (Nat.le_trans b1.size b2.size))
   have hfl:∀ g,(Value.slice ea (nY D).length ec).ownBlock=some g→g<wr.heap.size:=fun g hg=>(YF.out.blk hg).2
   have hseq:Rl Tryz.prog 164 #[nZ wr.heap.size,nZ (wr.heap.size+1),nZ (wr.heap.size+1+1)] rC (fun b=>b<w4.heap.size) (fun ys=>ys=yX D) k w4:=fun l J U hU hT hLl hY h0=>by
    refine callsIn_wide.2 ?_
    have hws:=hU.size
    have hBU:Below wr.heap.size wr U:=hB.trans (hU.mono hB.size)
    have:=adW (wC D) k w4.heap.size hn2 (nY D) 123 #[nZ (W.heap.size+1)] (enters_of Tryz.func123 (by kernel_rfl) rfl) wr.heap.size (wr.heap.size+1) (wr.heap.size+1+1) (W.heap.size+2) ea ec U hws (q1.kept hU) (q2.kept hU) (q3.kept hU) (by omega) (YF.out.kept hBU) (fun g hg=>by have:=hfl g hg;omega) (CB D) (fun x hx=>by rw[←hDn];exact(yN.1 hx).1) (fun s hs=>?_) (fun x hx t ht=>by rw[←hDn];exact JV HW.out x t ht) l J hT hLl hY h0
    ·refine this.mono fun e w' ⟨h1,xs,X,h2,h3⟩=>⟨h1,xs,X,?_,h3⟩
     rw[h2];unfold yX;rw[hDn]
    ·have hO:=yS.out.wO.own s
     rw[HD.out.1 s hs] at hO
     obtain⟨a,c,hv⟩:=hO.form
     refine⟨a,c,fun u hu=>?_⟩
     have hsame:∀ b,b<wr.heap.size→u.heap[b]?=wr.heap[b]?:=fun b hb=>(hu b (by omega)).trans (hBU.block b hb)
     have hO2:Own u (W.heap.size+2) 3 1 aG (vs s) (wC D s):=hO.same fun g hg=>hsame g (hO.blk hg).2
     have hLs:=yS.out
     have hsz2:=hLs.size
     have hx:Box u (W.heap.size+1) #[.slice (some ⟨W.heap.size,0,none⟩) k k] 23:=(hsame _ (by omega)).trans hLs.var
     have hr:Box u W.heap.size (vW k vs) 24:=(hsame _ (by omega)).trans hLs.row
     refine⟨by rw[←hv];exact hO2.slice bQ,?_⟩
     rw[←hv]
     exact aeF (W.heap.size+1) W.heap.size k k s u (vs s) hx hs ((hr.cell s).trans (xA hs))
   have hmn:=Ei HW.out
   rw[hDn] at hmn
   have hml:=nodup_lt_length k _ hmn.1 hmn.2
   have hst:=ah (aeE 164 _ (enters_of Tryz.func164 (by kernel_rfl) rfl) (yX D) k (by omega) (by omega) w4 hseq)
   have hBw:=ah (HB4.out.trans (hB.mono HB4.out.size))
   clear hseq hmn hml b1 b2 b3 q1 q2 q3 s1 s2 s3 hB hfl
   refine hst.out.mono ?_
   rintro e w5 ⟨ra,rc5,rfl,iQ,hb5⟩
   go_wp2
   go_ret
   have dG:=hBw.out
   exact⟨ra,rc5,rfl,iQ.mono dG.size,dG.trans (hb5.mono dG.size)⟩
end
section
open Go.RowKit
theorem rX{P:Program}{o:Oper}{a:Act}{w:World}{t:TypeId}{parts:Array (Nat×Operand)}{cells:Array Value}{vals:List (Nat×Value)}(ho:o.op=.build t parts)(hv:parts.toList.map (fun p=>(p.1,a.eval p.2))=vals)(h:P.built t vals=some cells):(execOp a.eval o).run P w=.ok (.value (.agg cells)) w:=by
 have h2:P.built t (parts.map fun(i,x)=>(i,a.eval x)).toList=some cells:=by rw[Array.toList_map,←h,←hv]
 unfold execOp
 simp only[ho,Sem.run_bind,run_build w t _ cells h2,Result.andThen_ok,Sem.run_pure]
theorem zJ(off:Nat):∀ (l:List Value) (k:Nat) (cs:Array Value) (i:Nat),off+k+l.length≤cs.size →
  ((l.zipIdx k).foldl (fun cs (p:Value×Nat)=>cs.setIfInBounds (off+p.2) p.1) cs)[i]?=if off+k≤i∧i<off+k+l.length then l[i - (off+k)]? else cs[i]?
 | [],k,cs,i,_=>by
  rw[List.zipIdx_nil,List.foldl_nil,if_neg]
  simp only[List.length_nil];omega
 | v::l,k,cs,i,h=>by
  rw[List.length_cons] at h
  rw[List.zipIdx_cons,List.foldl_cons,zJ off l (k+1) _ i (by rw[Array.size_setIfInBounds];omega),List.length_cons,Array.getElem?_setIfInBounds]
  by_cases h1:off+(k+1)≤i∧i<off+(k+1)+l.length
  ·rw[if_pos h1,if_pos (by omega),show i - (off+k)=(i - (off+(k+1)))+1 by omega,List.getElem?_cons_succ]
  ·rw[if_neg h1]
   by_cases h2:off+k=i
   ·rw[if_pos h2,if_pos (by omega),if_pos (by omega),show i - (off+k)=0 by omega];rfl
   ·rw[if_neg h2,if_neg (by omega)]
theorem wP(off:Nat):∀ (l:List Value) (k:Nat) (cs:Array Value),((l.zipIdx k).foldl (fun cs (p:Value×Nat)=>cs.setIfInBounds (off+p.2) p.1) cs).size=cs.size
 | [],_,_=>rfl
 | v::l,k,cs=>by rw[List.zipIdx_cons,List.foldl_cons,wP off l (k+1),Array.size_setIfInBounds]
theorem AL(off:Nat)(vs cs:Array Value):vs.zipIdx.foldl (fun cs (x:Value×Nat)=>cs.setIfInBounds (off+x.2) x.1) cs=(vs.toList.zipIdx 0).foldl (fun cs (p:Value×Nat)=>cs.setIfInBounds (off+p.2) p.1) cs:=by
 rw[←Array.foldl_toList,Array.toList_zipIdx]
theorem AO{P:Program}{t:TypeId}{it:TypeInfo}{fields:Array Field}{z:Value}{places:List (Nat×Nat)}(parts:List (Nat×Value))(hi:P.info? t=some it)(hu:P.underlying t=some (.struct fields))(hz:it.zero=some z)(hp:fields.toList.mapM (fun f=>(P.info? f.type).map fun i=>(f.offset,i.size))=some places) :
  P.built t parts=Instr.fill (places.toArray[·]?) z.cells parts:=by
 unfold Program.built
 rw[hi,hu]
 dsimp only
 rw[hz,hp]
def ajK(V:au)(lv:Value):Array Value:=V.cells++#[lv]
structure GU(w:World)(base cb vb:Nat)(V:au)(n:Nat)(ws:List Nat):Prop where
 box:Box w cb (ajK V (.slice (some ⟨vb,0,none⟩) n n)) 199
 live:Own w base 4 1 Ie (.slice (some ⟨vb,0,none⟩) n n) (rO n ws)
 lt:base≤cb
theorem GU.kept{w w':World}{base cb vb:Nat}{V:au}{n:Nat}{ws:List Nat}(h:GU w base cb vb V n ws)(hb:Below w.heap.size w w'):GU w' base cb vb V n ws:=⟨h.box.kept hb,h.live.kept hb,h.lt⟩
theorem GU.ne{w:World}{base cb vb:Nat}{V:au}{n:Nat}{ws:List Nat}(h:GU w base cb vb V n ws):cb≠vb:=fun e=>by
 obtain⟨_,c,hb⟩:=h.live.block vb rfl
 rw[←e] at hb
 exact absurd (h.box.kK hb) (by decide)
theorem GU.mark{w:World}{base cb vb:Nat}{V:au}{n:Nat}{ws:List Nat}(h:GU w base cb vb V n ws){t:Nat}(ht:t<n):GU (w.setCell ⟨vb,t,none⟩ (.bool true)) base cb vb V n (ws++[t]):=by
 have hl:=qE n ws
 have h1:=h.live.store1 (i:=t) (j:=0) (by rw[hl];exact ht) (by decide) true (.bool true) (fun k hk=>by
  have hk0:k=0:=Nat.lt_one_iff.1 hk
  subst hk0
  rfl)
 rw[JX,show t*1+0=t by omega] at h1
 exact⟨(heap_setCell_other _ _ _ _ h.ne).trans h.box,h1,h.lt⟩
end
section
open Go.RowKit
def fP(D:ay)(s:Nat):Bool:=decide (D.label.length≤s)||(qP D).contains s
theorem Nh{D:ay}(hw:jF D)(s:Nat)(h:fP D s=false):zG D s:=by
 unfold fP at h
 rw[Bool.or_eq_false_iff] at h
 obtain⟨h1,h2⟩:=h
 have h3:s<D.label.length:=by simpa using h1
 refine Classical.byContradiction fun hd=>?_
 have:=(GR hw s).2 ⟨h3,hd⟩
 rw[List.contains_iff_mem.2 this] at h2
 cases h2
theorem Um{D:ay}{s:Nat}(h:s<D.label.length):fP D s=(qP D).contains s:=by
 unfold fP
 rw[decide_eq_false (by omega),Bool.false_or]
theorem dK{P:Program}{fn:Func}{p u:Tmp}{ty:TypeId}(h:fn.results=#[.cell p ty,.tmp u])(tmps:Array Value)(w:World)(g E:Nat)(cs:Array Value)(v:Value)(hp:tmps.getD p undef=.pointer (some ⟨g,0,none⟩))(hv:tmps.getD u undef=v)(hb:Box w g cs E)
  {d:TypeDesc} (hu:P.underlying ty=some d) (hd:(match d with | .struct _ | .array _ _=>true | _=>false)=true) (hi:(P.info? ty).map (·.size)=some cs.size):(results fn tmps).run P w=.ok (.tuple #[.agg cs,v]) w:=by
 have ha:(asAddr (tmps.getD p undef)).run P w=.ok ⟨g,0,none⟩ w:=by rw[hp];simp[asAddr]
 rw[results_cell_tmp h,ha]
 simp only[Result.andThen_ok,run_loadVar_row w g E ty cs (0,0) d hb hu hd hi,hv]
abbrev wQ(k:Int)(a b:Nat):Array Value:=#[.int .i64 k,.int .i64 a,.int .i64 b]
def AP(D:ay)(t:List UInt8)(at_:Nat):Value:=match jm D t at_ with
 | some r=>.tuple #[.agg (wQ r.1 at_ r.2),.bool true]
 | none=>.tuple #[.agg #[.int .i64 0,.int .i64 0,.int .i64 0],.bool false]
end
section
open Go.RowKit
abbrev gK(x:Int×Nat×Nat):List Value:=[.int .i64 x.1,.int .i64 x.2.1,.int .i64 x.2.2]
theorem vN:fD gK 3:=⟨fun _=>rfl,fun x u hu=>by simp at hu;rcases hu with rfl | rfl | rfl <;> rfl⟩
theorem Un:eu Tryz.prog 55 61 (.agg #[.int .i64 0,.int .i64 0,.int .i64 0]) 3 24:=⟨Tryz.underlying55,info_parts (by kernel_rfl),rfl,by decide⟩
end
section
open Go.RowKit
abbrev QE(x:Int×Int×Int):List Value:=[.int .i64 x.1,.int .i64 x.2.1,.int .i64 x.2.2]
def GV(x:Int×Nat×Nat):Int×Int×Int:=(x.1,(x.2.1:Int),(x.2.2:Int))
theorem ak.GV{w:World}{v:Value}{xs:List (Int×Nat×Nat)}(h:ak w v 3 gK xs):ak w v 3 QE (xs.map GV):=by
 obtain⟨a,b,o,cap,rfl,hl,hc,ha,hx⟩:=h
 refine⟨a,b,o,cap,by rw[List.length_map],by rw[List.length_map];exact hl,hc,ha.imp id (fun⟨h1,h2⟩=>⟨by rw[h1];rfl,h2⟩),fun i hi j u hu=>?_⟩
 rw[List.length_map] at hi
 rw[List.getElem_map] at hu
 exact hx i hi j u hu
theorem Uo{P:Nat→Value→Prop}{x:Int×Int×Int}(h:∀ j u,(QE x)[j]?=some u→P j u):P 0 (.int .i64 x.1)∧P 1 (.int .i64 x.2.1)∧P 2 (.int .i64 x.2.2):=⟨h 0 _ rfl,h 1 _ rfl,h 2 _ rfl⟩
theorem Nj(xs:List (Int×Int×Int))(a b:Option Addr)(n m c d:Nat)(w:World)(ha:ak w (.slice a n c) 3 QE xs)(hb:ak w (.slice b m d) 3 QE xs) :
  Calls Tryz.prog 45 #[.slice a n c,.slice b m d] w (bM w (.bool true)):=by
 obtain⟨ab,ao,hn,hc,hc2,MW,hax⟩:=ha.open
 obtain⟨bb,bo,hm,hd,hd2,hba,hbx⟩:=hb.open
 obtain⟨k,hk⟩:∃ k,xs.length=k:=⟨_,rfl⟩
 subst hn
 subst hm
 have HK:=ah hk;have HAA:=ah MW;have HBA:=ah hba;have HAX:=ah hax;have yO:=ah hbx
 rw[hk] at hc hd ⊢
 clear ha hb MW hba hax hbx hk
 go_enter Tryz.func45,Tryz.ntmps45
 go_wp2
 go_loopw [5] (fun v5 wr=>∃ i:Nat,i≤k∧v5=.int .i64 i∧Below w.heap.size w wr) (fun v5 _=>k - (intOf v5).toNat)
 case atStart=>exact⟨0,Nat.zero_le _,rfl,Below.refl _ _⟩
 case round =>
  obtain⟨i,hi,rfl,hB⟩:=hrel
  by_cases hlt:i<k
  ·have hlx:i<xs.length:=by rw[HK.out];exact hlt
   obtain rfl:=HAA.out i hlx
   obtain rfl:=HBA.out i hlx
   have ca:=Uo (HAX.out i hlx)
   have cb:=Uo (yO.out i hlx)
   generalize xs[i]=x at *
   obtain⟨x0,x1,x2⟩:=x
   dsimp only at ca cb
   have hii:(i:Int)<(k:Int):=by omega
   have hi0:(0:Int)≤(i:Int):=by omega
   have hDr:Below w.heap.size w wr.drew:=hB.trans ((Below.refl _ _).drew.mono hB.size)
   have HF:Hid (∀ u,Later wr.drew u→(u.cell? ⟨ab,ao+i*3,none⟩=some (.int .i64 x0)∧u.cell? ⟨ab,ao+i*3+1,none⟩=some (.int .i64 x1)∧u.cell? ⟨ab,ao+i*3+2,none⟩=some (.int .i64 x2))∧(u.cell? ⟨bb,bo+i*3,none⟩=some (.int .i64 x0)∧u.cell? ⟨bb,bo+i*3+1,none⟩=some (.int .i64 x1)∧u.cell? ⟨bb,bo+i*3+2,none⟩=some (.int .i64 x2))∧Below w.heap.size w u):=ah fun u hu=>by
    have h1:Below w.heap.size w u:=hDr.trans (hu.mono hDr.size)
    have hc:∀ {ad:Addr} {v:Value},w.cell? ad=some v→u.cell? ad=some v:=fun e=>(h1.cell (World.block_lt_of_cell? w _ e)).trans e
    exact⟨⟨hc ca.1,hc ca.2.1,hc ca.2.2⟩,⟨hc cb.1,hc cb.2.1,hc cb.2.2⟩,h1⟩
   clear ca cb hB hDr
   go_wp2_with fail
   refine aH (R:=Later) 9 (by kernel_rfl) ?_
   refine pl [0,1,2,3,4,5,6,7,8] ?_
   repeat
    refine gU ?_ rfl (fun w1 hl=>?_) ?_
    rotate_left
    ·obtain⟨⟨p0,p1,p2⟩,⟨q0,q1,q2⟩,_⟩:=HF.out w1 hl;have l1:=World.block_lt_of_cell? w1 _ p0;have l2:=World.block_lt_of_cell? w1 _ q0;go_simp;try with_reducible rfl
    simp only[eA,eB,eC,Act.put,eD,eE,eF]
   refine dI ?_
   refine aQ (by kernel_rfl) (fun w1 hl=>?_) _
   have hq:=(HF.out w1 hl).2.2
   clear HF hl
   go_wp2
   exact⟨⟨i+1,hlt,by push_cast;rfl,hq⟩,by simp[intOf];omega⟩
  ·obtain rfl:i=k:=by omega
   go_wp2
   go_ret
   exact⟨rfl,hB⟩
end
section
open Go.RowKit
theorem ak.piece{α:Type}{f:α→Value}{w:World}{a:Option Addr}{n cap:Nat}{xs:List α}(h:ak w (.slice a n cap) 1 (fun x=>[f x]) xs)(p q:Nat)(hp:p≤q)(hq:q≤n) :
  ak w (.slice (if cap=p then a else a.map (fun x:Addr=>x.add p)) (q - p) (cap - p)) 1 (fun x=>[f x]) ((xs.drop p).take (q - p)):=by
 have h0:=h
 obtain⟨a',b,o,cap',hv,hl,hc,ha,hx⟩:=h
 obtain⟨rfl,rfl,rfl⟩:=Value.slice.inj hv
 rcases ha with rfl | ⟨rfl,hcn⟩
 ·have:=h0.sub (f:=f) p (q - p) (by omega)
  have e:Ci b o cap p=(if cap=p then some ⟨b,o,none⟩ else Option.map (fun x:Addr=>x.add p) (some ⟨b,o,none⟩)):=by
   unfold Ci
   by_cases e:cap=p
   ·rw[if_pos e,if_pos e]
   ·rw[if_neg e,if_neg e];simp[Addr.add]
  rwa[e] at this
 ·have hq0:q=0:=by simpa using hq
  subst hq0
  obtain rfl:p=0:=by omega
  refine⟨if cap=0 then a else a.map (fun x:Addr=>x.add 0),b,o,cap,rfl,by simp,hc,.inr ⟨by simp,fun hn=>?_⟩,fun i hi=>by simp at hi⟩
  by_cases e:cap=0
  ·exact e
  ·rw[if_neg e,Option.map_eq_none_iff] at hn
   exact hcn hn
theorem Y5{α:Type}(w:World)(size:Nat)(enc:α→List Value):ak w (.slice none 0 0) size enc []:=⟨none,0,0,0,rfl,Nat.le_refl _,by simp[maxLen],.inr ⟨rfl,fun _=>rfl⟩,fun i hi=>by simp at hi⟩
end
section
open Go.RowKit
def dZ(D:ay)(en:Bool)(h:List UInt8):Bool:=en||(List.range h.length).any fun i=>!fP D (bD D 0 (h.take (i+1)))
theorem Ur(D:ay)(h:List UInt8):dZ D true h=true:=by unfold dZ;rw[Bool.true_or]
theorem Kt{D:ay}{h:List UInt8}(en:Bool){j:Nat}(h0:0<j)(h1:j≤h.length)(hd:fP D (bD D 0 (h.take j))=false):dZ D en h=true:=by
 unfold dZ
 rw[Bool.or_eq_true,List.any_eq_true]
 exact .inr ⟨j - 1,List.mem_range.2 (by omega),by rw[show j - 1+1=j by omega,hd];rfl⟩
theorem Us{D:ay}{h:List UInt8}(en:Bool)(hd:∀ i,0<i→i≤h.length→fP D (bD D 0 (h.take i))=true):dZ D en h=en:=by
 unfold dZ
 rw[show(List.range h.length).any (fun i=>!fP D (bD D 0 (h.take (i+1))))=false from ?_,Bool.or_false]
 rw[List.any_eq_false]
 intro i hi
 rw[hd (i+1) (by omega) (by have:=List.mem_range.1 hi;omega)]
 decide
theorem Nk{D:ay}{h:List UInt8}(hs:dZ D false h=true):∃ j,0<j∧j≤h.length∧fP D (bD D 0 (h.take j))=false:=by
 unfold dZ at hs
 rw[Bool.false_or,List.any_eq_true] at hs
 obtain⟨i,hi,h1⟩:=hs
 exact⟨i+1,Nat.succ_pos _,List.mem_range.1 hi,by simpa using h1⟩
def kQ(D:ay)(en:Bool):Nat→List UInt8→Nat→List (Int×Nat×Nat)×List UInt8×Nat×Bool
 | 0,h,a=>([],h,a,false)
 | f+1,h,a=>if dZ D en h=true then (match dP D 0 h with
   | none=>([],[],a,decide (0<h.length))
   | some r=>((r.1,a,a+r.2)::(kQ D en f (h.drop r.2) (a+r.2)).1,(kQ D en f (h.drop r.2) (a+r.2)).2))
  else ([],h,a,false)
structure eG where
 held:List UInt8
 at_:Nat
 en:Bool
 sk:Bool
def mF(D:ay)(X:eG):List (Int×Nat×Nat)×eG:=if X.sk=true then ([],X) else
 let q:=kQ D X.en (X.held.length+1) X.held X.at_
 (q.1,⟨q.2.1,q.2.2.1,X.en,q.2.2.2⟩)
def ji(D:ay)(X:eG)(b:List UInt8):List (Int×Nat×Nat)×eG:=if X.en=true∨X.sk=true then ([],X) else mF D { X with held:=X.held++b }
def rY(D:ay)(X:eG):List (Int×Nat×Nat)×eG:=if X.en=true then ([],X) else mF D { X with en:=true }
theorem PZ(D:ay)(en:Bool):∀ (f:Nat) (h:List UInt8) (a:Nat),(kQ D en f h a).1.length≤f
 | 0,_,_=>Nat.le_refl _
 | f+1,h,a=>by
  rw[kQ]
  split
  ·split
   ·exact Nat.zero_le _
   ·have:=PZ D en f (h.drop (by assumption:Int×Nat).2) (a+(by assumption:Int×Nat).2)
    simp only[List.length_cons];omega
  ·exact Nat.zero_le _
end
section
open Go.RowKit
def sC(V:au)(t:List Value):Array Value:=V.cells++t.toArray
theorem dW(V:au)(t:List Value):(sC V t).size=260+t.length:=by unfold sC;rw[Array.size_append,au.size,List.size_toArray]
theorem tV(V:au)(t:List Value)(i:Nat)(h:i<260):(sC V t)[i]?=V.cells[i]?:=by
 unfold sC
 rw[Array.getElem?_append_left (by rw[au.size];exact h)]
theorem yx(V:au)(t:List Value)(k:Nat):(sC V t)[260+k]?=t[k]?:=by
 unfold sC
 rw[Array.getElem?_append_right (by rw[au.size];exact Nat.le_add_right _ _),au.size,Nat.add_sub_cancel_left,List.getElem?_toArray]
theorem abS(V:au)(t:List Value)(k:Nat)(v:Value):(sC V t).setIfInBounds (260+k) v=sC V (t.set k v):=by
 apply Array.ext_getElem?
 intro i
 rw[Array.getElem?_setIfInBounds,dW]
 by_cases h:260+k=i
 ·subst h
  rw[if_pos rfl,yx,List.getElem?_set,if_pos rfl]
  by_cases h2:k<t.length
  ·rw[if_pos (by omega),if_pos h2]
  ·rw[if_neg (by omega),if_neg h2]
 ·rw[if_neg h]
  by_cases h2:i<260
  ·rw[tV _ _ _ h2,tV _ _ _ h2]
  ·obtain⟨j,rfl⟩:∃ j,i=260+j:=⟨i - 260,by omega⟩
   rw[yx,yx,List.getElem?_set,if_neg (by omega)]
theorem Box.mV{w:World}{b E:Nat}{V:au}{t:List Value}(h:Box w b (sC V t) E)(k:Nat)(v:Value):Box (w.setCell ⟨b,260+k,none⟩ v) b (sC V (t.set k v)) E:=by
 have:=h.set (260+k) v
 rwa[abS] at this
theorem Box.dH{w:World}{b E:Nat}{V:au}{t:List Value}(h:Box w b (sC V t) E)(k:Nat):w.cell? ⟨b,260+k,none⟩=t[k]?:=(h.cell _).trans (yx V t k)
structure zK(R:World→Prop)(V:au)(D:ay)(n wd lb lo nb no vb:Nat)(rb ro rc:Nat→Nat):Prop where
 nl:D.label.length=n
 vof:V.of=D.of
 ln:V.ln=n
 nn:V.nn=n
 la:V.la=some ⟨lb,lo,none⟩
 na:V.na=some ⟨nb,no,none⟩
 ER:1≤n∧n≤65536
 WA:1≤wd∧wd≤256
 lc:n≤V.lc∧V.lc≤9223372036854775807
 nc:n≤V.nc∧V.nc≤9223372036854775807
 lab:∀ k,k<n→∀ u:World,R u→u.cell? ⟨lb,lo+k,none⟩=some (.int .i64 (labS D k))
 row:∀ s,s<n→∀ u:World,R u→u.cell? ⟨nb,no+s,none⟩=some (.slice (some ⟨rb s,ro s,none⟩) wd (rc s))
 cap:∀ s,s<n→wd≤rc s∧rc s≤9223372036854775807
 SX:∀ s,s<n→∀ j,j<wd→∀ u:World,R u→u.cell? ⟨rb s,ro s+j,none⟩=some (.int .i64 (stepD D s j:Nat))
 lt:∀ s,s<n→∀ j,j<wd→stepD D s j<n
 of:∀ b,b<256→D.of b<wd
 liv:∀ k,k<n→∀ u:World,R u→u.cell? ⟨vb,k,none⟩=some (.bool (fP D k))
def Mid(sb top:Nat)(w0 u:World):Prop:=top≤u.heap.size∧∀ b,sb<b→b<top→u.heap[b]?=w0.heap[b]?
theorem Mid.only{sb top:Nat}{w0 u u':World}(h:Mid sb top w0 u)(k:aU sb u u'):Mid sb top w0 u':=⟨Nat.le_trans h.1 k.size,fun b h1 h2=>(k.block b (Nat.lt_of_lt_of_le h2 h.1) (Nat.ne_of_gt h1)).trans (h.2 b h1 h2)⟩
theorem Mid.later{sb top:Nat}{w0 u u':World}(h:Mid sb top w0 u)(k:Below u.heap.size u u'):Mid sb top w0 u':=h.only (aU.below k)
def iE(s:Nat)(r:Int×Nat):List Value:=[.int .i64 s,.int .i64 r.1,.int .i64 r.2]
def Ih(D:ay)(s' m:Nat)(r:Int×Nat):Int×Nat:=if labS D s'=0 then r else (labS D s',m)
theorem ag4(sb top vb:Nat)(V:au)(D:ay)(w0 w:World)(n wd lb lo nb no:Nat)(rb ro rc:Nat→Nat)(hM:zK (Mid sb top w0) V D n wd lb lo nb no vb rb ro rc)(hB:Mid sb top w0 w)(c:Nat)
  (s:Nat) (r:Int×Nat) (x:List Value) (hx:x.length=5) (hb:Box w sb (sC V (.slice (some ⟨vb,0,none⟩) n n::iE s r++x)) 123) (hs:s<n) (b:UInt8) (m:Nat) :
  Calls Tryz.prog 167 #[.pointer (some ⟨sb,0,none⟩),.int .u8 (b.toNat:Nat),.int .i64 m] w fun e w'=>e=.returned (.bool (fP D (jO D s b)))∧Box w' sb (sC V (.slice (some ⟨vb,0,none⟩) n n::iE (jO D s b) (Ih D (jO D s b) m r)++x)) 123∧aU sb w w':=by
 obtain⟨k,bt⟩:=r
 have hbn:=b.toNat_lt
 obtain⟨s',hs'⟩:∃ s',jO D s b=s':=⟨_,rfl⟩
 have hn1:s'<n:=by rw[←hs'];exact hM.lt s hs _ (hM.of _ hbn)
 have aeI:=hM.SX s hs _ (hM.of _ hbn)
 rw[show stepD D s (D.of b.toNat)=s' from hs'] at aeI
 have hd:D.of b.toNat<wd:=hM.of _ hbn
 have ajL:(sC V (.slice (some ⟨vb,0,none⟩) n n::iE s (k,bt)++x))[b.toNat]?=some (.int .u8 (D.of b.toNat:Nat)):=by rw[tV _ _ _ (by omega),V.Dp _ hbn,hM.vof]
 have ajM:(sC V (.slice (some ⟨vb,0,none⟩) n n::iE s (k,bt)++x))[257]?=some (.slice (some ⟨nb,no,none⟩) n V.nc):=by rw[tV _ _ _ (by decide),V.uS,hM.na,hM.nn]
 have hcap:=hM.cap s hs
 have hnc:=hM.nc;have hlc:=hM.lc
 have HF:Hid (∀ u,Later w.drew u→Box u sb (sC V (.slice (some ⟨vb,0,none⟩) n n::iE s (k,bt)++x)) 123∧u.cell? ⟨sb,261,none⟩=some (.int .i64 s)∧u.cell? ⟨sb,b.toNat,none⟩=some (.int .u8 (D.of b.toNat:Nat))∧u.cell? ⟨sb,257,none⟩=some (.slice (some ⟨nb,no,none⟩) n V.nc) ∧
   u.cell? ⟨nb,no+s,none⟩=some (.slice (some ⟨rb s,ro s,none⟩) wd (rc s))∧u.cell? ⟨rb s,ro s+D.of b.toNat,none⟩=some (.int .i64 (s':Nat))∧Below w.heap.size w u):=ah fun u hu=>by
  have h1:Below w.heap.size w u:=((Below.refl _ _).drew).trans (hu.mono (Nat.le_refl _))
  have hb2:=hb.kept h1
  exact⟨hb2,hb2.dH 1,(hb2.cell _).trans ajL,(hb2.cell _).trans ajM,hM.row s hs u (hB.later h1),aeI u (hB.later h1),h1⟩
 have HM:=ah hM;have HB:=ah hB;have HS:=ah hs'
 rw[hs']
 have hsi:(s:Int)<(n:Int):=by omega
 have hs0:(0:Int)≤(s:Int):=by omega
 have hbi:((b.toNat:Nat):Int)<256:=by omega
 have hdi:((D.of b.toNat:Nat):Int)<(wd:Int):=by omega
 clear hM hB hb aeI ajL ajM hs'
 generalize D.of b.toNat=d at *
 generalize b.toNat=bn at *
 go_enter Tryz.func167,Tryz.ntmps167
 go_wp2_with fail
 refine aH (R:=Later) 23 (by kernel_rfl) ?_
 refine pl [0,1,2,3,4,5,6,7,8,9,10,11,12,13,14,15,16,17,18,19,20,21,22] ?_
 repeat
  refine gU ?_ rfl (fun w1 hl=>?_) ?_
  rotate_left
  ·obtain⟨hbx,q0,q1,q2,q3,q4,_⟩:=HF.out w1 hl;have l0:=hbx.lt;have l1:=World.block_lt_of_cell? w1 _ q3;have l2:=World.block_lt_of_cell? w1 _ q4;go_simp;try with_reducible rfl
  simp only[eA,eB,eC,Act.put,eD,eE,eF]
 refine dI ?_
 refine aW (t:=23) (i:=23) (by kernel_rfl) rfl (fun w1 hl K hK=>?_)
 obtain⟨hbx,q0,q1,q2,q3,q4,hB1⟩:=HF.out w1 hl
 have l0:=hbx.lt
 have f0:=hbx.free 261
 clear hl HF
 go_simp
 refine hK.out _ _ (fun h=>absurd rfl h) ?_
 clear hK K q0 q1 q2 q3 q4 l0 f0
 have hb2:Box (w1.setCell ⟨sb,261,none⟩ (.int .i64 (s':Nat))) sb (sC V (.slice (some ⟨vb,0,none⟩) n n::iE s' (k,bt)++x)) 123:=hbx.mV 1 _
 have hO2:=(aU.below (g:=sb) hB1).set 261 (.int .i64 (s':Nat))
 clear hbx hB1
 generalize w1.setCell ⟨sb,261,none⟩ (.int .i64 (s':Nat))=w2 at *
 refine aQ (by kernel_rfl) (fun w1 hl=>?_) _
 have hb3:=hb2.kept hl
 have hO3:=hO2.trans (aU.below hl)
 clear hb2 hO2 hl
 have ajN:(sC V (.slice (some ⟨vb,0,none⟩) n n::iE s' (k,bt)++x))[258]?=some (.slice (some ⟨lb,lo,none⟩) n V.lc):=by rw[tV _ _ _ (by decide),V.lT,HM.out.la,HM.out.ln]
 have HF2:Hid (∀ u,Later w1.drew u→Box u sb (sC V (.slice (some ⟨vb,0,none⟩) n n::iE s' (k,bt)++x)) 123∧u.cell? ⟨sb,261,none⟩=some (.int .i64 (s':Nat))∧u.cell? ⟨sb,258,none⟩=some (.slice (some ⟨lb,lo,none⟩) n V.lc)∧u.cell? ⟨lb,lo+s',none⟩=some (.int .i64 (labS D s'))∧aU sb w u):=ah fun u hu=>by
  have h1:Below w1.heap.size w1 u:=((Below.refl _ _).drew).trans (hu.mono (Nat.le_refl _))
  have hb4:=hb3.kept h1
  have hO4:=hO3.trans (aU.below h1)
  exact⟨hb4,hb4.dH 1,(hb4.cell _).trans ajN,HM.out.lab s' hn1 u (HB.out.only hO4),hO4⟩
 have arY:(s':Int)<(n:Int):=by omega
 have arZ:(0:Int)≤(s':Int):=by omega
 clear hb3 hO3 ajN hsi hs0 hdi hcap hbi
 go_wp2_with fail
 refine aH (R:=Later) 12 (by kernel_rfl) ?_
 refine pl [0,1,2,3,4,5,6,7,8,9,10,11] ?_
 repeat
  refine gU ?_ rfl (fun w1 hl=>?_) ?_
  rotate_left
  ·obtain⟨hbx,q0,q1,q2,_⟩:=HF2.out w1 hl;have l0:=hbx.lt;have l1:=World.block_lt_of_cell? w1 _ q2;go_simp;try with_reducible rfl
  simp only[eA,eB,eC,Act.put,eD,eE,eF]
 refine dI ?_
 refine aQ (by kernel_rfl) (fun w1 hl=>?_) _
 obtain⟨hb5,_,_,_,GX⟩:=HF2.out w1 hl
 clear HF2 hl
 obtain⟨lb',aeJ⟩:∃ y,labS D s'=y:=⟨_,rfl⟩
 have HL:=ah aeJ
 rw[aeJ]
 clear aeJ
 by_cases hz:lb'=0
 ·have hz2:(lb' != 0)=false:=by simp[hz]
  have HF3:Hid (∀ u,Later w1.drew u→Box u sb (sC V (.slice (some ⟨vb,0,none⟩) n n::iE s' (k,bt)++x)) 123∧u.cell? ⟨sb,261,none⟩=some (.int .i64 s')∧u.cell? ⟨sb,260,none⟩=some (.slice (some ⟨vb,0,none⟩) n n)∧u.cell? ⟨vb,s',none⟩=some (.bool (fP D s'))∧aU sb w u):=ah fun u hu=>by
   have h1:Below w1.heap.size w1 u:=((Below.refl _ _).drew).trans (hu.mono (Nat.le_refl _))
   have hb6:=hb5.kept h1
   exact⟨hb6,hb6.dH 1,hb6.dH 0,HM.out.liv s' hn1 u (HB.out.only (GX.trans (aU.below h1))),GX.trans (aU.below h1)⟩
  clear hb5 GX
  go_wp2_with fail
  refine aH (R:=Later) 11 (by kernel_rfl) ?_
  refine pl [0,1,2,3,4,5,6,7,8,9,10] ?_
  repeat
   refine gU ?_ rfl (fun w1 hl=>?_) ?_
   rotate_left
   ·obtain⟨hbx,q0,q1,q2,_⟩:=HF3.out w1 hl;have l0:=hbx.lt;have l1:=World.block_lt_of_cell? w1 _ q2;go_simp;try with_reducible rfl
   simp only[eA,eB,eC,Act.put,eD,eE,eF]
  refine dI ?_
  refine aQ (by kernel_rfl) (fun w1 hl=>?_) _
  obtain⟨hb7,_,_,_,Dy⟩:=HF3.out w1 hl
  have Nl:=ah hb7;have P5:=ah Dy
  clear hb7 Dy HF3 hl
  go_wp2
  go_ret
  exact⟨rfl,by unfold Ih;rw[if_pos (by rw[HL.out];exact hz)];exact Nl.out,P5.out⟩
 ·have hz2:(lb' != 0)=true:=by simp[hz]
  have hb6:Box ((w1.setCell ⟨sb,262,none⟩ (.int .i64 lb')).setCell ⟨sb,263,none⟩ (.int .i64 m)) sb (sC V (.slice (some ⟨vb,0,none⟩) n n::iE s' (lb',m)++x)) 123:=(hb5.mV 2 (.int .i64 lb')).mV 3 (.int .i64 m)
  have Np:=(GX.set 262 (.int .i64 lb')).set 263 (.int .i64 m)
  have l0:=hb5.lt
  have f1:=hb5.free 262
  have f2:=(hb5.mV 2 (.int .i64 lb')).free 263
  have q1:w1.cell? ⟨sb,262,none⟩=some (.int .i64 k):=hb5.dH 2
  have q2:(w1.setCell ⟨sb,262,none⟩ (.int .i64 lb')).cell? ⟨sb,263,none⟩=some (.int .i64 bt):=(hb5.mV 2 (.int .i64 lb')).dH 3
  clear hb5 GX
  have HF3:Hid (∀ u,Later ((w1.setCell ⟨sb,262,none⟩ (.int .i64 lb')).setCell ⟨sb,263,none⟩ (.int .i64 m)).drew u→Box u sb (sC V (.slice (some ⟨vb,0,none⟩) n n::iE s' (lb',m)++x)) 123∧u.cell? ⟨sb,261,none⟩=some (.int .i64 s')∧u.cell? ⟨sb,260,none⟩=some (.slice (some ⟨vb,0,none⟩) n n)∧u.cell? ⟨vb,s',none⟩=some (.bool (fP D s'))∧aU sb w u):=ah fun u hu=>by
   have h1:Below ((w1.setCell ⟨sb,262,none⟩ (.int .i64 lb')).setCell ⟨sb,263,none⟩ (.int .i64 m)).heap.size ((w1.setCell ⟨sb,262,none⟩ (.int .i64 lb')).setCell ⟨sb,263,none⟩ (.int .i64 m)) u:=((Below.refl _ _).drew).trans (hu.mono (Nat.le_refl _))
   have hb6:=hb6.kept h1
   exact⟨hb6,hb6.dH 1,hb6.dH 0,HM.out.liv s' hn1 u (HB.out.only (Np.trans (aU.below h1))),Np.trans (aU.below h1)⟩
  clear hb6 Np
  go_wp2_with fail
  refine aH (R:=Later) 11 (by kernel_rfl) ?_
  refine pl [0,1,2,3,4,5,6,7,8,9,10] ?_
  repeat
   refine gU ?_ rfl (fun w1 hl=>?_) ?_
   rotate_left
   ·obtain⟨hbx,q0,q1,q2,_⟩:=HF3.out w1 hl;have l0:=hbx.lt;have l1:=World.block_lt_of_cell? w1 _ q2;go_simp;try with_reducible rfl
   simp only[eA,eB,eC,Act.put,eD,eE,eF]
  refine dI ?_
  refine aQ (by kernel_rfl) (fun w1 hl=>?_) _
  obtain⟨hb7,_,_,_,Dy⟩:=HF3.out w1 hl
  have Nl:=ah hb7;have P5:=ah Dy
  clear hb7 Dy HF3 hl
  go_wp2
  go_ret
  exact⟨rfl,by unfold Ih;rw[if_neg (by rw[HL.out];exact hz),HL.out];exact Nl.out,P5.out⟩
end
section
open Go.RowKit
theorem GY{P:Program}{o:Oper}{a:Act}{w:World}(ty:TypeId)(x:Operand)(ho:o.op=.load ty x)(b off:Nat)(hx:a.eval x=.pointer (some ⟨b,off,none⟩)){cs:List Value}{d:TypeDesc}(hc:w.rangeAt b off cs)
  (hu:P.underlying ty=some d) (hd:d.isRow=true) (hi:(P.info? ty).map (·.size)=some cs.length):(execOp a.eval o).run P w=.ok (.value (.agg cs.toArray)) w:=by
 unfold execOp
 simp only[ho,hx,Instr.loadAt,Instr.sureAddr,Sem.run_bind,Sem.run_pure,Result.andThen_ok,run_loadVar_mid w b off ty cs d hc hu hd hi]
theorem xI{place:Nat→Option (Nat×Nat)}{cells:Array Value}{i off:Nat}{v:Value}{rest:List (Nat×Value)}(hp:place i=some (off,1))(hv:v.cells=#[v])(hs:off+1≤cells.size):Instr.fill place cells ((i,v)::rest)=Instr.fill place (cells.setIfInBounds off v) rest:=by
 show(match place i with | none=>none | some (off,size)=>if (v.cells.size≠size||off+v.cells.size > cells.size)=true then none else Instr.fill place (v.cells.zipIdx.foldl (fun cs (c,j)=>cs.setIfInBounds (off+j) c) cells) rest)=_
 rw[hp]
 dsimp only
 rw[hv,if_neg (by simp;omega)]
 rfl
theorem GZ{place:Nat→Option (Nat×Nat)}{cells:Array Value}{i off size:Nat}{v:Value}{rest:List (Nat×Value)}(hp:place i=some (off,size))(hz:v.cells.size=size)(hs:off+size≤cells.size):Instr.fill place cells ((i,v)::rest)=Instr.fill place (v.cells.zipIdx.foldl (fun cs (x:Value×Nat)=>cs.setIfInBounds (off+x.2) x.1) cells) rest:=by
 show(match place i with | none=>none | some (off,size)=>if (v.cells.size≠size||off+v.cells.size > cells.size)=true then none else Instr.fill place (v.cells.zipIdx.foldl (fun cs (c,j)=>cs.setIfInBounds (off+j) c) cells) rest)=_
 rw[hp]
 dsimp only
 rw[if_neg (by simp[hz];omega)]
theorem Et{V:au}{c:Array Value}(hs:c.size=260)(h0:∀ i,i<256→c[i]?=some (.int .u8 (V.of i:Nat)))(h1:c[256]?=some (.int .i64 V.width))(h2:c[257]?=some (.slice V.na V.nn V.nc))(h3:c[258]?=some (.slice V.la V.ln V.lc))(h4:c[259]?=some (.slice V.ma V.mn V.mc)):c=V.cells:=by
 apply Array.ext_getElem?
 intro i
 by_cases a:i<256
 ·rw[h0 i a,V.Dp i a]
 ·by_cases e:i<260
  ·obtain rfl | rfl | rfl | rfl:i=256∨i=257∨i=258∨i=259:=by omega
   ·rw[h1,V.BD]
   ·rw[h2,V.uS]
   ·rw[h3,V.lT]
   ·rw[h4,V.BF]
  ·rw[Array.getElem?_eq_none (by omega),Array.getElem?_eq_none (by rw[au.size];omega)]
theorem P6(f:Nat→Nat)(wd:Int)(na ma:Option Addr)(nn nc mn mc:Nat):Tryz.prog.built 27 [(0,.agg (aP f)),(1,.int .i64 wd),(2,.slice na nn nc),(4,.slice ma mn mc)]=some (au.cells ⟨f,wd,na,nn,nc,none,0,0,ma,mn,mc⟩):=by
 obtain⟨it,hi⟩:∃ it,Tryz.prog.info? 27=some it:=Option.isSome_iff_exists.1 (by kernel_rfl)
 have hz0:(Tryz.prog.info? 27).map (fun it=>it.zero.map (fun z=>(z.cells.size,z.cells[258]?)))=some (some (260,some (.slice none 0 0))):=by kernel_rfl
 rw[hi] at hz0
 simp only[Option.map_some,Option.some.injEq] at hz0
 obtain⟨z,hz,hzs⟩:=Option.map_eq_some_iff.1 hz0
 obtain⟨hzs,IQ⟩:=Prod.mk.inj hzs
 rw[AO (places:=[(0,256),(256,1),(257,1),(258,1),(259,1)]) _ hi Tryz.underlying27 hz (by kernel_rfl)]
 have hs:=aT f
 have Uj:=wP 0 (aP f).toList 0 z.cells
 have hgg:=fun i=>zJ 0 (aP f).toList 0 z.cells i (by rw[Array.length_toList];omega)
 rw[←AL] at Uj
 simp only[←AL] at hgg
 have e0:=GZ (place:=(([(0,256),(256,1),(257,1),(258,1),(259,1)]:List (Nat×Nat)).toArray[·]?)) (cells:=z.cells) (i:=0) (off:=0) (size:=256) (v:=.agg (aP f)) (rest:=[(1,.int .i64 wd),(2,.slice na nn nc),(4,.slice ma mn mc)]) rfl hs (by omega)
 refine e0.trans ?_
 show Instr.fill _ ((aP f).zipIdx.foldl (fun cs (x:Value×Nat)=>cs.setIfInBounds (0+x.2) x.1) z.cells) _=_
 generalize (aP f).zipIdx.foldl (fun cs (x:Value×Nat)=>cs.setIfInBounds (0+x.2) x.1) z.cells=F at *
 rw[xI (off:=256) rfl rfl (by omega),xI (off:=257) rfl rfl (by rw[Array.size_setIfInBounds];omega),xI (off:=259) rfl rfl (by rw[Array.size_setIfInBounds,Array.size_setIfInBounds];omega)]
 refine congrArg some (Et (by rw[Array.size_setIfInBounds,Array.size_setIfInBounds,Array.size_setIfInBounds];omega) (fun i h=>?_) ?_ ?_ ?_ ?_)
 ·rw[Array.getElem?_setIfInBounds_ne (by omega),Array.getElem?_setIfInBounds_ne (by omega),Array.getElem?_setIfInBounds_ne (by omega),hgg i,if_pos (by rw[Array.length_toList];omega),Array.getElem?_toList,show i - (0+0)=i by omega,dX _ _ h]
 ·rw[Array.getElem?_setIfInBounds_ne (by omega),Array.getElem?_setIfInBounds_ne (by omega),Array.getElem?_setIfInBounds,if_pos rfl,if_pos (by omega)]
 ·rw[Array.getElem?_setIfInBounds_ne (by omega),Array.getElem?_setIfInBounds,if_pos rfl,if_pos (by rw[Array.size_setIfInBounds];omega)]
 ·rw[Array.getElem?_setIfInBounds_ne (by omega),Array.getElem?_setIfInBounds_ne (by omega),Array.getElem?_setIfInBounds_ne (by omega),hgg 258,if_neg (by rw[Array.length_toList];omega),IQ]
 ·rw[Array.getElem?_setIfInBounds,if_pos rfl,if_pos (by rw[Array.size_setIfInBounds,Array.size_setIfInBounds];omega)]
end
section
open Go.RowKit
abbrev Y6:Value:=.tuple #[.agg #[.int .i64 0,.int .i64 0,.int .i64 0],.bool false]
def zL(D:ay)(t:List UInt8)(p:Int):Value:=if dS D=true∧0≤p∧p≤(t.length:Nat) then AP D t p.toNat else Y6
end
end Go.Proofs.YtbemonecmmnlcaaGreatDoor
