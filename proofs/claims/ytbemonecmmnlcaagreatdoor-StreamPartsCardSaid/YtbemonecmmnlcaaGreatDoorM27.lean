/- The texts of S27, in few letters (mini.py). -/
import Derived.Test.YtbemonecmmnlcaaGreatDoorM26
set_option linter.unusedVariables false
set_option linter.unusedSimpArgs false
set_option maxRecDepth 20000
set_option maxHeartbeats 6400000
namespace Go.Proofs.YtbemonecmmnlcaaGreatDoor
section
open Go.RowKit
def oD(D:aF):List Nat:=vJ (wB D)
theorem L6{D:aF}(hw:kK D)(x:Nat):x∈oD D↔x<D.label.length∧¬ yT D x:=by unfold oD;rw[LZ,ZT hw]
theorem Yq(n:Nat)(z:Value)(hz:z.cells=#[z]):madeCells z.cells (n*1)=sF n (fun _=>z):=by
 apply Array.ext_getElem?
 intro i
 by_cases hi:i<n
 ·rw[wo _ _ _ (by omega) (by rw[hz];exact Nat.one_pos),uF hi,hz]
  simp[Nat.mod_one]
 ·rw[Array.getElem?_eq_none (by rw[size_madeCells];omega),Array.getElem?_eq_none (by rw[yJ];omega)]
structure kR(W:World)(n:Nat)(grp:Nat→List Nat)(vs:Nat→Value)(wr:World):Prop where
 tJ:kG wr (W.heap.size+2) 3 1 aI grp vs
 row:Box wr W.heap.size (sF n vs) 24
 var:Box wr (W.heap.size+1) #[.slice (some ⟨W.heap.size,0,none⟩) n n] 23
 keep:Below W.heap.size W wr
 size:W.heap.size+2≤wr.heap.size
theorem kR.kept{W:World}{n:Nat}{grp:Nat→List Nat}{vs:Nat→Value}{wr w2:World}(h:kR W n grp vs wr)(hb:Below wr.heap.size wr w2):kR W n grp vs w2 :=
 ⟨h.tJ.kept hb,h.row.kept hb,h.var.kept hb,h.keep.trans (hb.mono h.keep.size),Nat.le_trans h.size hb.size⟩
theorem kR.yI{W:World}{n:Nat}{grp:Nat→List Nat}{vs:Nat→Value}{wr w2:World}{s y:Nat}(h:kR W n grp vs wr)(k:gK (W.heap.size+2) 3 1 aI (vs s) (grp s) y wr w2):kR W n grp vs w2:=by
 have hv:∀ b,b<W.heap.size+2→(vs s).ownBlock≠some b:=fun b hb=>h.tJ.TT (.inl hb)
 have hsz:=h.size
 refine⟨h.tJ.yI k,k.box h.row (hv _ (by omega)),k.box h.var (hv _ (by omega)),⟨k.os.trans h.keep.os,k.tape.trans h.keep.tape,k.output.trans h.keep.output,Nat.le_trans h.keep.size k.grow,fun b hb=>(k.block b (by omega) (hv b (by omega))).trans (h.keep.block b hb)⟩,Nat.le_trans h.size k.grow⟩
theorem kR.zZ{W:World}{n:Nat}{grp:Nat→List Nat}{vs:Nat→Value}{w0 wr w2:World}{s y:Nat}{v':Value}(h0:kR W n grp vs w0)(h:kR W n (jA grp s (grp s++[y])) (jA vs s v') wr)(k:gK (W.heap.size+2) 3 1 aI (vs s) (grp s) y wr w2):kR W n (jA grp s (grp s++[y])) (jA vs s v') w2:=by
 have hv:∀ b,b<W.heap.size+2→(vs s).ownBlock≠some b:=fun b hb=>h0.tJ.TT (.inl hb)
 have hsz:=h.size
 exact⟨kG.zZ h0.tJ h.tJ k,k.box h.row (hv _ (by omega)),k.box h.var (hv _ (by omega)),⟨k.os.trans h.keep.os,k.tape.trans h.keep.tape,k.output.trans h.keep.output,Nat.le_trans h.keep.size k.grow,fun b hb=>(k.block b (by omega) (hv b (by omega))).trans (h.keep.block b hb)⟩,Nat.le_trans h.size k.grow⟩
theorem kR.put{W:World}{n:Nat}{grp:Nat→List Nat}{vs:Nat→Value}{wr w2:World}{s y:Nat}{v':Value}(h:kR W n grp vs wr)(ho:Own w2 (W.heap.size+2) 3 1 aI v' (grp s++[y]))(k:gK (W.heap.size+2) 3 1 aI (vs s) (grp s) y wr w2)(hf:v'.ownBlock=(vs s).ownBlock∨v'.ownBlock=some wr.heap.size) :
  kR W n (jA grp s (grp s++[y])) (jA vs s v') (w2.setCell ⟨W.heap.size,s,none⟩ v'):=by
 have h2:=h.yI k
 have hsz:=h2.size
 have ho2:∀ b,b≠W.heap.size→(w2.setCell ⟨W.heap.size,s,none⟩ v').heap[b]?=w2.heap[b]?:=fun b hb=>heap_setCell_other _ _ _ _ hb
 refine⟨(h.tJ.put s y ho k.grownBy hf).same fun b hb _=>ho2 b (by omega),?_,(ho2 _ (by omega)).trans h2.var,h2.keep.setCell (Nat.le_refl _) _,by rw[World.size_setCell];exact hsz⟩
 have:=h2.row.set s v'
 rwa[Za] at this
theorem kR.af7{W:World}{n:Nat}{grp:Nat→List Nat}{vs:Nat→Value}{w1 w2:World}{y:Nat}{v':Value}(h:kR W n grp vs w1)(ho:Own w2 (W.heap.size+2) 3 1 aI v' (grp n++[y]))(hg:w1.grownBy w2 (vs n).ownBlock)(hf:v'.ownBlock=(vs n).ownBlock∨v'.ownBlock=some w1.heap.size) :
  kR W n (jA grp n (grp n++[y])) (jA vs n v') w2:=by
 have hv:∀ b,b<W.heap.size+2→(vs n).ownBlock≠some b:=fun b hb=>h.tJ.TT (.inl hb)
 have hsz:=h.size
 have hb:∀ b,b<W.heap.size+2→w2.heap[b]?=w1.heap[b]?:=fun b hb=>hg.block b (by omega) fun e=>hv b hb e.symm
 refine⟨h.tJ.put n y ho hg hf,?_,(hb _ (by omega)).trans h.var,⟨hg.os.trans h.keep.os,hg.tape.trans h.keep.tape,hg.output.trans h.keep.output,Nat.le_trans h.keep.size hg.size,fun b hb'=>(hb b (by omega)).trans (h.keep.block b hb')⟩,Nat.le_trans h.size hg.size⟩
 rw[NY _ _ _ _ (Nat.le_refl _)]
 exact(hb _ (by omega)).trans h.row
theorem aaK(bt rb n c s:Nat)(u:World)(v:Value)(hx:Box u bt #[.slice (some ⟨rb,0,none⟩) n c] 23)(hs:s<n)(hc:u.cell? ⟨rb,s,none⟩=some v) :
  Calls Tryz.prog 123 #[.int .i64 s,lM bt] u fun e w'=>e=.returned v∧w'=u:=by
 have x0:u.cell? ⟨bt,0,none⟩=some (.slice (some ⟨rb,0,none⟩) n c):=hx.cell 0
 have hsi:(s:Int)<(n:Int):=by omega
 have hs0:(0:Int)≤(s:Int):=by omega
 have hbl:=World.block_lt_of_cell? u _ hc
 have hxl:=hx.lt
 clear hx
 go_enter Tryz.func123,Tryz.ntmps123
 go_wp2
 go_ret
 exact⟨rfl,rfl⟩
theorem ads(n m c f:Nat)(a:Option Addr)(lb:Array Value)(w:World):Calls Tryz.prog 122 #[.int .i64 n,.slice a m c,.func (.func f) #[] lb] w fun e w'=>e=.returned (.func (.func 164) #[] #[lM w.heap.size,lM (w.heap.size+1),lM (w.heap.size+1+1)])∧w'=((w.alloc (.cells #[.int .i64 n] 3)).alloc (.cells #[.slice a m c] 24)).alloc (.cells #[.func (.func f) #[] lb] 194):=by
 go_enter Tryz.func122,Tryz.ntmps122
 go_wp2
 go_ret
 exact⟨rfl,rfl⟩
theorem aaL(V:au)(D:aF)(w:World)(h:kJ w V D)(hl:∀ x∈D.names,x.length≤9223372036854775807)(hr:o9 D=true):Calls Tryz.prog 82 #[.agg V.cells] w (gu w 3 1 aI (oD D)):=by
 have hw:=OW hr
 obtain⟨n,wd,lb,lo,nb,no,rb,ro,rc,hm⟩:=machC h hw
 have hbx:=Box.new w V.cells 27
 have hB0:=aj w (.cells V.cells 27)
 have HR:=ah (fun u hu=>hr▸DK V D u (h.kept hu) hl)
 have HM:=ah hm
 obtain⟨hn1,hn2⟩:=hm.Lm
 clear h hl hr hm
 go_enter Tryz.func82,Tryz.ntmps82
 go_wp2_with (first | (with_reducible refine Halt.go (p:=wpList _ _ _ ({ dst:=some 19,op:=_,type:=_,pos:=_,after:=_,guard:=_ }::_) _ _) ?_) | (refine dL (by rfl) 27 _ rfl w.heap.size rfl _ _ _ _ hbx Tryz.underlying27 rfl (bU _) ?_) | (go_at_call 40;go_must (refine(HR.out _ hB0).mono ?_;rintro e W ⟨rfl,hb2⟩;have hbW:=hB0.trans (hb2.mono hB0.size);have hx2:=hbx.kept hb2;obtain⟨x0,x1,x2,x3⟩:=hx2.rG;rw[HM.out.ln,HM.out.la] at x2;rw[HM.out.nn,HM.out.na] at x1)) | (refine oJ rfl 23 _ _ rfl D5 yg (none,0,0) rfl n rfl rfl (by omega) (by simp only[maxLen];omega) W.heap.size (Nat.le_refl _) ?_;intro w1 _ hw1;have y0:=Box.new W (sF n fun _=>Value.slice none 0 0) 24;have hb1:=aj W (.cells (sF n fun _=>Value.slice none 0 0) 24);rw[Yq n (.slice none 0 0) rfl] at hw1;rw[←hw1] at y0 hb1;have hs1:w1.heap.size=W.heap.size+1:=by { rw[hw1,World.size_alloc] };have z1:=Box.new w1 #[Value.slice none 0 0] 23;clear hw1 x2))
 have hb2':Below W.heap.size W (w1.alloc (.cells #[.slice (some ⟨W.heap.size,0,none⟩) n n] 23)):=hb1.alloc hb1.size _
 have z2:Box (w1.alloc (.cells #[.slice (some ⟨W.heap.size,0,none⟩) n n] 23)) (W.heap.size+1) #[.slice (some ⟨W.heap.size,0,none⟩) n n] 23:=Box.new' hs1.symm _ _
 have hL0:kR W n (eG D 0 0) (fun _=>Value.slice none 0 0) (w1.alloc (.cells #[.slice (some ⟨W.heap.size,0,none⟩) n n] 23)):=by
  rw[Xu]
  exact⟨kG.new _ _ _ _ _,y0.kept (aj _ _),z2,hb2',by rw[World.size_alloc];omega⟩
 obtain⟨W0,hW0⟩:∃ W0,(w1.alloc (.cells #[.slice (some ⟨W.heap.size,0,none⟩) n n] 23))=W0:=⟨_,rfl⟩
 have hx3:=hx2.kept hb2'
 rw[hW0] at hL0 hx3 hb2'
 simp only[hW0]
 have x1':W0.cell? ⟨w.heap.size,257,none⟩=some (.slice (some ⟨nb,no,none⟩) n V.nc):=by have:=hx3.rG.2.1;rwa[HM.out.nn,HM.out.na] at this
 have hxl:=hx3.lt
 have HL0:=ah hL0;have HX2:=ah hx2;have nI:=ah hbW
 clear hL0 hb2' hW0 z2 z1 y0 hb1 hs1 x0 x1 x3 hx2 hbW hb2 hx3 HR hbx hB0
 unfold Halt
 go_wp2
 clear x1'
 have hDn:=HM.out.nl
 go_loopw [5,21] (fun v5 v21 wr=>∃ (k:Nat) (vs:Nat→Value),k≤n∧v21=.int .i64 k∧v5=vs n∧kR W n (eG D k 0) vs wr) (fun _ v21 _=>n - (intOf v21).toNat)
 case atStart=>exact⟨0,_,Nat.zero_le _,rfl,rfl,HL0.out⟩
 case round =>
  obtain⟨k,vs,hk,rfl,rfl,hL⟩:=hrel
  by_cases hlt:k<n
  ·have hBr:Below w.heap.size w wr:=nI.out.trans (hL.keep.mono nI.out.size)
   have c0:=HM.out.row k hlt wr hBr
   have hcp:=HM.out.cap k hlt
   have hcb:=World.block_lt_of_cell? wr _ c0
   have hki:(k:Int)<(n:Int):=by omega
   have hk0:(0:Int)≤(k:Int):=by omega
   obtain⟨row,hrow⟩:∃ row,D.next[k]?=some row:=⟨_,List.getElem?_eq_getElem (by rw[hw.nx,hDn];exact hlt)⟩
   have hrl:row.length=wd:=by have h1:=hw.Gx row (List.mem_of_getElem? hrow);rw[HM.out.wide] at h1;omega
   have hrj:∀ j (h:j<row.length),row[j]=((stepD D k j:Nat):Int):=fun j h=>by
    have h1:=hw.row row (List.mem_of_getElem? hrow) _ (List.getElem_mem h)
    unfold stepD
    rw[List.getD_eq_getElem?_getD (l:=D.next),hrow,Option.getD_some,List.getD_eq_getElem?_getD,List.getElem?_eq_getElem h,Option.getD_some]
    omega
   have HLr:=ah hL;have HBR:=ah hBr;have HRW:=ah hrow;have HRJ:=ah hrj;have D6:=ah hrl;have HW:=ah hw
   clear hL hBr hrow hrj hrl
   obtain⟨PV,aaM⟩:∃ x,rb k=x:=⟨_,rfl⟩
   obtain⟨rok,J6⟩:∃ x,ro k=x:=⟨_,rfl⟩
   obtain⟨rck,Vl⟩:∃ x,rc k=x:=⟨_,rfl⟩
   rw[aaM,J6,Vl] at c0
   rw[Vl] at hcp
   have HE:=ah (And.intro aaM (And.intro J6 Vl))
   clear aaM J6 Vl
   go_wp2
   go_loopw [28] (fun v28 wr=>∃ (j:Nat) (vs':Nat→Value),j≤wd∧v28=.int .i64 j∧vs' n=vs n∧kR W n (eG D k j) vs' wr) (fun v28 _=>wd - (intOf v28).toNat)
   case atStart=>exact⟨0,vs,Nat.zero_le _,rfl,rfl,HLr.out⟩
   case round =>
    clear c0 hcb
    obtain⟨j,vs',hj,rfl,hvn,hL⟩:=hrel
    by_cases BM:j<wd
    ·have hBr:Below w.heap.size w wr:=nI.out.trans (hL.keep.mono nI.out.size)
     have c0:=HM.out.Xy k hlt j BM wr hBr
     rw[HE.out.1,HE.out.2.1] at c0
     have hun:=HM.out.lt k hlt j BM
     have hgr:=Xv (D:=D) HRW.out (j:=j) (u:=stepD D k j) (by rw[D6.out];exact BM) (HRJ.out j (by rw[D6.out];exact BM)) (by rw[hDn];exact hun)
     generalize stepD D k j=u at *
     have hcb:=World.block_lt_of_cell? wr _ c0
     have hji:(j:Int)<(wd:Int):=by omega
     have hj0:(0:Int)≤(j:Int):=by omega
     have hui:(u:Int)<(n:Int):=by omega
     have hu0:(0:Int)≤(u:Int):=by omega
     have HG:=ah hgr
     have HF:Hid (∀ q,gK (W.heap.size+2) 3 1 aI (vs' u) (eG D k j u) k wr.drew q→kR W n (eG D k j) vs' q):=ah fun q hq=>(hL.kept (Below.refl _ _).drew).yI hq
     have HLj:=ah hL
     clear hgr hL hBr
     go_wp2_with fail
     refine aW (R:=gK (W.heap.size+2) 3 1 aI (vs' u) (eG D k j u) k) 10 (by kernel_rfl) ?_
     refine pl [0,1,2,3,4,5,6] ?_
     repeat
      refine jW ?_ rfl (fun w1 hl=>?_) ?_
      rotate_left
      ·have hq:=HF.out w1 hl;have y1:w1.cell? ⟨W.heap.size+1,0,none⟩=some (.slice (some ⟨W.heap.size,0,none⟩) n n):=hq.var.cell 0;have y2:w1.cell? ⟨W.heap.size,u,none⟩=some (vs' u):=(hq.row.cell u).trans (uF hun);go_simp;try with_reducible rfl
      simp only[eA,eB,eC,Act.put,eD,eE,eF]
     refine eX ?_
     refine aQ (t:=10) (i:=7) (by kernel_rfl) rfl (fun w1 hl K hK=>?_)
     have Dv:=hl
     clear hl
     go_simp
     refine hK.out _ _ (fun _=>(gy _ _ _ _ _ _ _).later _ _ (aj _ _)) ?_
     clear hK K
     have hK7:=(gy (W.heap.size+2) 3 1 aI (vs' u) (eG D k j u) k).trans _ _ _ Dv ((gy _ _ _ _ _ _ _).later _ _ (aj w1 (.cells #[.int .i64 k] 3)))
     have hvn:(vs' u).ownBlock≠some w1.heap.size:=(HF.out w1 Dv).tJ.TT (.inr (Nat.le_refl _))
     have hnb:=Box.new w1 #[.int .i64 k] 3
     generalize hwq:w1.heap.size=nb2 at *
     clear hwq
     clear Dv
     generalize (w1.alloc (.cells #[.int .i64 k] 3))=wq at *
     refine aQ (t:=10) (i:=8) (by kernel_rfl) rfl (fun w1 hl K hK=>?_)
     have hK8:=(gy (W.heap.size+2) 3 1 aI (vs' u) (eG D k j u) k).trans _ _ _ hK7 hl
     have BH:=hl.box hnb hvn
     have hq8:=HF.out w1 hK8
     have hgl:=OY HW.out k j u (by rw[hDn];exact hk)
     have hy0:w1.cell? ⟨nb2,0,none⟩=some (.int .i64 k):=BH.cell 0
     refine eP (by rfl) ?_
     refine zG _ _ 24 rfl iJ dF rfl (hq8.tJ.own u) ⟨nb2,0,none⟩ 1 k rfl (fun j u hu=>by
      cases j with
      | zero=>simp[aI] at hu;subst hu;exact hy0
      | succ j=>simp[aI] at hu) (by simp only[maxLen];omega) (by omega) hq8.size ?_
     intro a' cap' w' hown' hg hfr Ee
     refine hK.out _ _ (fun _=>Ee) ?_
     clear hK K
     simp only[List.getElem_toArray,List.getElem_cons_zero,List.getElem_cons_succ,Act.put,List.setIfInBounds_toArray,List.set_cons_zero,List.set_cons_succ]
     have HF9:Hid (∀ q,gK (W.heap.size+2) 3 1 aI (vs' u) (eG D k j u) k w' q→kR W n (jA (eG D k j) u (eG D k j u++[k])) (jA vs' u (.slice a' ((eG D k j u).length+1) cap')) (q.setCell ⟨W.heap.size,u,none⟩ (.slice a' ((eG D k j u).length+1) cap'))∧kR W n (eG D k j) vs' q):=ah fun q hq=>by
      have hK9:=(gy (W.heap.size+2) 3 1 aI (vs' u) (eG D k j u) k).trans _ _ _ Ee hq
      have e:(eG D k j u).length+1=(eG D k j u++[k]).length:=by simp
      exact⟨hq8.put (hq.Gn _ hown') hK9 hfr,hq8.yI hK9⟩
     clear hq8 BH hK8 hK7 hnb hvn hy0 hown' hg hfr Ee hl
     refine kP 9 ?_ rfl (fun w1 hl=>?_) ?_
     rotate_left
     ·have hq:=(HF9.out w1 hl).2;have y1:w1.cell? ⟨W.heap.size+1,0,none⟩=some (.slice (some ⟨W.heap.size,0,none⟩) n n):=hq.var.cell 0;go_simp;try with_reducible rfl
     simp only[eA,eB,eC,Act.put,eD,eE,eF]
     refine aQ (t:=10) (i:=10) (by kernel_rfl) rfl (fun w1 hl K hK=>?_)
     obtain⟨hP,hq⟩:=HF9.out w1 hl
     have y2:w1.cell? ⟨W.heap.size,u,none⟩=some (vs' u):=(hq.row.cell u).trans (uF hun)
     have f2:w1.frozen? ⟨W.heap.size,u,none⟩=false:=hq.row.free u
     have l2:=hq.row.lt
     go_simp
     refine hK.out _ _ (fun h=>absurd rfl h) ?_
     clear hK K
     have HP:=ah hP
     clear hP hq y2 f2 l2 HF9 HF hl hgl
     refine bC (by kernel_rfl) (fun w1 hl=>?_) _
     have hP2:=HLj.out.zZ HP.out hl
     rw[←HG.out] at hP2
     have HP2:=ah hP2
     have akb:jA vs' u (Value.slice a' ((eG D k j u).length+1) cap') n=vs n:=(jD _ _ (by omega)).trans hvn
     clear hP2 hl HP HLj HG hvn
     generalize jA vs' u (Value.slice a' ((eG D k j u).length+1) cap')=vs2 at *
     go_wp2
     exact⟨⟨j+1,vs2,BM,by push_cast;rfl,akb,HP2.out⟩,by simp[intOf];omega⟩
    ·obtain rfl:j=wd:=by omega
     have hBr:Below w.heap.size w wr:=nI.out.trans (hL.keep.mono nI.out.size)
     have c1:=HM.out.lab k hlt wr hBr
     obtain⟨lc1,zn⟩:=HM.out.lc
     have hgr:=ZU (D:=D) HRW.out (by rw[hDn];exact hlt)
     rw[D6.out,hDn] at hgr
     have hcb:=World.block_lt_of_cell? wr _ c1
     have hki:(k:Int)<(n:Int):=by omega
     have hk0:(0:Int)≤(k:Int):=by omega
     have hx3:=HX2.out.kept (hL.keep)
     have x2':wr.cell? ⟨w.heap.size,258,none⟩=some (.slice (some ⟨lb,lo,none⟩) n V.lc):=by have:=hx3.rG.2.2.1;rwa[HM.out.ln,HM.out.la] at this
     have hxl:=hx3.lt
     have HLj:=ah hL;have HG:=ah hgr
     clear hL hBr hgr hx3
     generalize labS D k=lk at *
     by_cases hz:lk=0
     ·subst hz
      rw[if_neg (by simp)] at HG
      go_wp2
      exact⟨⟨k+1,vs',hlt,by push_cast;rfl,hvn.symm,by rw[HG.out];exact HLj.out⟩,by simp[intOf];omega⟩
     ·rw[if_pos hz] at HG
      have hne:(lk != 0)=true:=by simpa using hz
      have hn0:vs n=vs' n:=hvn.symm
      simp only[hn0]
      have hgl:=OY HW.out k j n (by rw[hDn];exact hk)
      have hO:=(HLj.out.kept (aj wr (.cells #[.int .i64 k] 3)))
      have hO2:=hO.tJ.own n
      have hOs:=hO.size
      have HO:=ah hO
      clear hO hn0
      go_wp2_with (at_builtin;go_must (refine dS rfl _ _ 24 rfl iJ dF rfl hO2 ⟨wr.heap.size,0,none⟩ 1 k rfl (cZ wr [.int .i64 (k:Nat)] _) (by simp only[maxLen];omega) (by omega) hOs ?_;intro a7 c7 w7 iy cO qK))
      have hE:=HO.out.af7 iy cO qK
      rw[←HG.out] at hE
      exact⟨⟨k+1,_,hlt,by push_cast;rfl,(kC _ _ _).symm,hE⟩,by simp[intOf];omega⟩
  ·obtain rfl:k=n:=by omega
   have hB4:Below w.heap.size w wr:=nI.out.trans (hL.keep.mono nI.out.size)
   have hd:=Xw hw
   rw[hDn] at hd
   have hend:=hL.tJ.own k
   rw[hd.2] at hend
   obtain⟨ea,ec,hev⟩:=hend.form
   have hsz:=hL.size
   have hel:(lK D).length≤65536:=by have:=DW D.label 0;unfold lK;omega
   simp only[hev]
   have Vm:=hend
   rw[hev] at Vm
   have Ej:=ah hL;have HB4:=ah hB4;have HD:=ah hd;have HEV:=ah hev;have UW:=ah Vm;have HW:=ah hw
   clear hL hB4 hd hev hend Vm hw
   go_wp2_with (go_at_call 122;go_must (refine(ads k (lK D).length ec 123 ea #[lM (W.heap.size+1)] wr).mono ?_;rintro e w3 ⟨rfl,hw3⟩))
   have q1:=Box.new wr #[.int .i64 k] 3
   have b1:=aj wr (.cells #[.int .i64 k] 3)
   have s1:=World.size_alloc wr (.cells #[.int .i64 k] 3)
   generalize (wr.alloc (.cells #[.int .i64 k] 3))=u1 at *
   have q2:=Box.new' s1.symm #[.slice ea (lK D).length ec] 24
   have b2:=aj u1 (.cells #[.slice ea (lK D).length ec] 24)
   have s2:=World.size_alloc u1 (.cells #[.slice ea (lK D).length ec] 24)
   rw[s1] at s2
   replace q1:=q1.kept b2
   generalize (u1.alloc (.cells #[.slice ea (lK D).length ec] 24))=u2 at *
   have q3:=Box.new' s2.symm #[.func (.func 123) #[] #[lM (W.heap.size+1)]] 194
   have b3:=aj u2 (.cells #[.func (.func 123) #[] #[lM (W.heap.size+1)]] 194)
   have s3:=World.size_alloc u2 (.cells #[.func (.func 123) #[] #[lM (W.heap.size+1)]] 194)
   rw[s2] at s3
   replace q1:=q1.kept b3
   replace q2:=q2.kept b3
   generalize (u2.alloc (.cells #[.func (.func 123) #[] #[lM (W.heap.size+1)]] 194))=w4 at *
   have hB:Below wr.heap.size wr w4:=(b1.trans (b2.mono b1.size)).trans (b3.mono (Nat.le_trans b1.size b2.size))
   have hfl:∀ g,(Value.slice ea (lK D).length ec).ownBlock=some g→g<wr.heap.size:=fun g hg=>(UW.out.blk hg).2
   have hseq:NW Tryz.prog 164 #[lM wr.heap.size,lM (wr.heap.size+1),lM (wr.heap.size+1+1)] oU (fun b=>b<w4.heap.size) (fun ys=>ys=wB D) k w4:=fun l J U hU hT hLl hY h0=>by
    refine callsIn_wide.2 ?_
    have hws:=hU.size
    have hBU:Below wr.heap.size wr U:=hB.trans (hU.mono hB.size)
    have:=ZV (sQ D) k w4.heap.size hn2 (lK D) 123 #[lM (W.heap.size+1)] (enters_of Tryz.func123 (by kernel_rfl) rfl) wr.heap.size (wr.heap.size+1) (wr.heap.size+1+1) (W.heap.size+2) ea ec U hws (q1.kept hU) (q2.kept hU) (q3.kept hU) (by omega) (UW.out.kept hBU) (fun g hg=>by have:=hfl g hg;omega) (zJ D) (fun x hx=>by rw[←hDn];exact(vW.1 hx).1) (fun s hs=>?_) (fun x hx t ht=>by rw[←hDn];exact Gy HW.out x t ht) l J hT hLl hY h0
    ·refine this.mono fun e w' ⟨h1,xs,X,h2,h3⟩=>⟨h1,xs,X,?_,h3⟩
     rw[h2];unfold wB;rw[hDn]
    ·have hO:=Ej.out.tJ.own s
     rw[HD.out.1 s hs] at hO
     obtain⟨a,c,hv⟩:=hO.form
     refine⟨a,c,fun u hu=>?_⟩
     have hsame:∀ b,b<wr.heap.size→u.heap[b]?=wr.heap[b]?:=fun b hb=>(hu b (by omega)).trans (hBU.block b hb)
     have hO2:Own u (W.heap.size+2) 3 1 aI (vs s) (sQ D s):=hO.same fun g hg=>hsame g (hO.blk hg).2
     have hLs:=Ej.out
     have hsz2:=hLs.size
     have hx:Box u (W.heap.size+1) #[.slice (some ⟨W.heap.size,0,none⟩) k k] 23:=(hsame _ (by omega)).trans hLs.var
     have hr:Box u W.heap.size (sF k vs) 24:=(hsame _ (by omega)).trans hLs.row
     refine⟨by rw[←hv];exact hO2.slice dF,?_⟩
     rw[←hv]
     exact aaK (W.heap.size+1) W.heap.size k k s u (vs s) hx hs ((hr.cell s).trans (uF hs))
   have hmn:=BK HW.out
   rw[hDn] at hmn
   have hml:=nodup_lt_length k _ hmn.1 hmn.2
   have hst:=ah (aaJ 164 _ (enters_of Tryz.func164 (by kernel_rfl) rfl) (wB D) k (by omega) (by omega) w4 hseq)
   have hBw:=ah (HB4.out.trans (hB.mono HB4.out.size))
   clear hseq hmn hml b1 b2 b3 q1 q2 q3 s1 s2 s3 hB hfl
   refine hst.out.mono ?_
   rintro e w5 ⟨ra,rc5,rfl,zi,hb5⟩
   go_wp2
   go_ret
   have dw:=hBw.out
   exact⟨ra,rc5,rfl,zi.mono dw.size,dw.trans (hb5.mono dw.size)⟩
end
section
open Go.RowKit
theorem tV{P:Program}{o:Oper}{a:Act}{w:World}{t:TypeId}{parts:Array (Nat×Operand)}{cells:Array Value}{vals:List (Nat×Value)}(ho:o.op=.build t parts)(hv:parts.toList.map (fun p=>(p.1,a.eval p.2))=vals)(h:P.built t vals=some cells):(execOp a.eval o).run P w=.ok (.value (.agg cells)) w:=by
 have h2:P.built t (parts.map fun(i,x)=>(i,a.eval x)).toList=some cells:=by rw[Array.toList_map,←h,←hv]
 unfold execOp
 simp only[ho,Sem.run_bind,run_build w t _ cells h2,Result.andThen_ok,Sem.run_pure]
theorem BQ(off:Nat):∀ (l:List Value) (k:Nat) (cs:Array Value) (i:Nat),off+k+l.length≤cs.size →
  ((l.zipIdx k).foldl (fun cs (p:Value×Nat)=>cs.setIfInBounds (off+p.2) p.1) cs)[i]?=if off+k≤i∧i<off+k+l.length then l[i - (off+k)]? else cs[i]?
 | [],k,cs,i,_=>by
  rw[List.zipIdx_nil,List.foldl_nil,if_neg]
  simp only[List.length_nil];omega
 | v::l,k,cs,i,h=>by
  rw[List.length_cons] at h
  rw[List.zipIdx_cons,List.foldl_cons,BQ off l (k+1) _ i (by rw[Array.size_setIfInBounds];omega),List.length_cons,Array.getElem?_setIfInBounds]
  by_cases h1:off+(k+1)≤i∧i<off+(k+1)+l.length
  ·rw[if_pos h1,if_pos (by omega),show i - (off+k)=(i - (off+(k+1)))+1 by omega,List.getElem?_cons_succ]
  ·rw[if_neg h1]
   by_cases h2:off+k=i
   ·rw[if_pos h2,if_pos (by omega),if_pos (by omega),show i - (off+k)=0 by omega];rfl
   ·rw[if_neg h2,if_neg (by omega)]
theorem tX(off:Nat):∀ (l:List Value) (k:Nat) (cs:Array Value),((l.zipIdx k).foldl (fun cs (p:Value×Nat)=>cs.setIfInBounds (off+p.2) p.1) cs).size=cs.size
 | [],_,_=>rfl
 | v::l,k,cs=>by rw[List.zipIdx_cons,List.foldl_cons,tX off l (k+1),Array.size_setIfInBounds]
theorem BR(off:Nat)(vs cs:Array Value):vs.zipIdx.foldl (fun cs (x:Value×Nat)=>cs.setIfInBounds (off+x.2) x.1) cs=(vs.toList.zipIdx 0).foldl (fun cs (p:Value×Nat)=>cs.setIfInBounds (off+p.2) p.1) cs:=by
 rw[←Array.foldl_toList,Array.toList_zipIdx]
theorem Em{P:Program}{t:TypeId}{it:TypeInfo}{fields:Array Field}{z:Value}{places:List (Nat×Nat)}(parts:List (Nat×Value))(hi:P.info? t=some it)(hu:P.underlying t=some (.struct fields))(hz:it.zero=some z)(hp:fields.toList.mapM (fun f=>(P.info? f.type).map fun i=>(f.offset,i.size))=some places) :
  P.built t parts=Instr.fill (places.toArray[·]?) z.cells parts:=by
 unfold Program.built
 rw[hi,hu]
 dsimp only
 rw[hz,hp]
def af9(V:au)(lv:Value):Array Value:=V.cells++#[lv]
structure En(w:World)(base cb vb:Nat)(V:au)(n:Nat)(ws:List Nat):Prop where
 box:Box w cb (af9 V (.slice (some ⟨vb,0,none⟩) n n)) 199
 live:Own w base 4 1 EL (.slice (some ⟨vb,0,none⟩) n n) (pq n ws)
 lt:base≤cb
theorem En.kept{w w':World}{base cb vb:Nat}{V:au}{n:Nat}{ws:List Nat}(h:En w base cb vb V n ws)(hb:Below w.heap.size w w'):En w' base cb vb V n ws:=⟨h.box.kept hb,h.live.kept hb,h.lt⟩
theorem En.ne{w:World}{base cb vb:Nat}{V:au}{n:Nat}{ws:List Nat}(h:En w base cb vb V n ws):cb≠vb:=fun e=>by
 obtain⟨_,c,hb⟩:=h.live.block vb rfl
 rw[←e] at hb
 exact absurd (h.box.jC hb) (by decide)
theorem En.mark{w:World}{base cb vb:Nat}{V:au}{n:Nat}{ws:List Nat}(h:En w base cb vb V n ws){t:Nat}(ht:t<n):En (w.setCell ⟨vb,t,none⟩ (.bool true)) base cb vb V n (ws++[t]):=by
 have hl:=nU n ws
 have h1:=h.live.store1 (i:=t) (j:=0) (by rw[hl];exact ht) (by decide) true (.bool true) (fun k hk=>by
  have hk0:k=0:=Nat.lt_one_iff.1 hk
  subst hk0
  rfl)
 rw[Gz,show t*1+0=t by omega] at h1
 exact⟨(heap_setCell_other _ _ _ _ h.ne).trans h.box,h1,h.lt⟩
end
section
open Go.RowKit
def gV(D:aF)(s:Nat):Bool:=decide (D.label.length≤s)||(oD D).contains s
theorem Js{D:aF}(hw:kK D)(s:Nat)(h:gV D s=false):yT D s:=by
 unfold gV at h
 rw[Bool.or_eq_false_iff] at h
 obtain⟨h1,h2⟩:=h
 have h3:s<D.label.length:=by simpa using h1
 refine Classical.byContradiction fun hd=>?_
 have:=(L6 hw s).2 ⟨h3,hd⟩
 rw[List.contains_iff_mem.2 this] at h2
 cases h2
theorem aaN{D:aF}{s:Nat}(h:s<D.label.length):gV D s=(oD D).contains s:=by
 unfold gV
 rw[decide_eq_false (by omega),Bool.false_or]
theorem fQ{P:Program}{fn:Func}{p u:Tmp}{ty:TypeId}(h:fn.results=#[.cell p ty,.tmp u])(tmps:Array Value)(w:World)(g E:Nat)(cs:Array Value)(v:Value)(hp:tmps.getD p undef=.pointer (some ⟨g,0,none⟩))(hv:tmps.getD u undef=v)(hb:Box w g cs E)
  {d:TypeDesc} (hu:P.underlying ty=some d) (hd:(match d with | .struct _ | .array _ _=>true | _=>false)=true) (hi:(P.info? ty).map (·.size)=some cs.size):(results fn tmps).run P w=.ok (.tuple #[.agg cs,v]) w:=by
 have ha:(asAddr (tmps.getD p undef)).run P w=.ok ⟨g,0,none⟩ w:=by rw[hp];simp[asAddr]
 rw[results_cell_tmp h,ha]
 simp only[Result.andThen_ok,run_loadVar_row w g E ty cs (0,0) d hb hu hd hi,hv]
abbrev Kw(k:Int)(a b:Nat):Array Value:=#[.int .i64 k,.int .i64 a,.int .i64 b]
end
section
open Go.RowKit
theorem Qc{P:Program}{o:Oper}{a:Act}{w:World}(ty:TypeId)(x:Operand)(ho:o.op=.load ty x)(b off:Nat)(hx:a.eval x=.pointer (some ⟨b,off,none⟩)){cs:List Value}{d:TypeDesc}(hc:w.rangeAt b off cs)
  (hu:P.underlying ty=some d) (hd:d.isRow=true) (hi:(P.info? ty).map (·.size)=some cs.length):(execOp a.eval o).run P w=.ok (.value (.agg cs.toArray)) w:=by
 unfold execOp
 simp only[ho,hx,Instr.loadAt,Instr.sureAddr,Sem.run_bind,Sem.run_pure,Result.andThen_ok,run_loadVar_mid w b off ty cs d hc hu hd hi]
theorem uN{place:Nat→Option (Nat×Nat)}{cells:Array Value}{i off:Nat}{v:Value}{rest:List (Nat×Value)}(hp:place i=some (off,1))(hv:v.cells=#[v])(hs:off+1≤cells.size):Instr.fill place cells ((i,v)::rest)=Instr.fill place (cells.setIfInBounds off v) rest:=by
 show(match place i with | none=>none | some (off,size)=>if (v.cells.size≠size||off+v.cells.size > cells.size)=true then none else Instr.fill place (v.cells.zipIdx.foldl (fun cs (c,j)=>cs.setIfInBounds (off+j) c) cells) rest)=_
 rw[hp]
 dsimp only
 rw[hv,if_neg (by simp;omega)]
 rfl
theorem L8{place:Nat→Option (Nat×Nat)}{cells:Array Value}{i off size:Nat}{v:Value}{rest:List (Nat×Value)}(hp:place i=some (off,size))(hz:v.cells.size=size)(hs:off+size≤cells.size):Instr.fill place cells ((i,v)::rest)=Instr.fill place (v.cells.zipIdx.foldl (fun cs (x:Value×Nat)=>cs.setIfInBounds (off+x.2) x.1) cells) rest:=by
 show(match place i with | none=>none | some (off,size)=>if (v.cells.size≠size||off+v.cells.size > cells.size)=true then none else Instr.fill place (v.cells.zipIdx.foldl (fun cs (c,j)=>cs.setIfInBounds (off+j) c) cells) rest)=_
 rw[hp]
 dsimp only
 rw[if_neg (by simp[hz];omega)]
theorem BU{V:au}{c:Array Value}(hs:c.size=260)(h0:∀ i,i<256→c[i]?=some (.int .u8 (V.of i:Nat)))(h1:c[256]?=some (.int .i64 V.width))(h2:c[257]?=some (.slice V.na V.nn V.nc))(h3:c[258]?=some (.slice V.la V.ln V.lc))(h4:c[259]?=some (.slice V.ma V.mn V.mc)):c=V.cells:=by
 apply Array.ext_getElem?
 intro i
 by_cases a:i<256
 ·rw[h0 i a,V.DJ i a]
 ·by_cases e:i<260
  ·obtain rfl | rfl | rfl | rfl:i=256∨i=257∨i=258∨i=259:=by omega
   ·rw[h1,V.yR]
   ·rw[h2,V.uI]
   ·rw[h3,V.kX]
   ·rw[h4,V.yS]
  ·rw[Array.getElem?_eq_none (by omega),Array.getElem?_eq_none (by rw[au.size];omega)]
theorem L9(f:Nat→Nat)(wd:Int)(na ma:Option Addr)(nn nc mn mc:Nat):Tryz.prog.built 27 [(0,.agg (aT f)),(1,.int .i64 wd),(2,.slice na nn nc),(4,.slice ma mn mc)]=some (au.cells ⟨f,wd,na,nn,nc,none,0,0,ma,mn,mc⟩):=by
 obtain⟨it,hi⟩:∃ it,Tryz.prog.info? 27=some it:=Option.isSome_iff_exists.1 (by kernel_rfl)
 have hz0:(Tryz.prog.info? 27).map (fun it=>it.zero.map (fun z=>(z.cells.size,z.cells[258]?)))=some (some (260,some (.slice none 0 0))):=by kernel_rfl
 rw[hi] at hz0
 simp only[Option.map_some,Option.some.injEq] at hz0
 obtain⟨z,hz,hzs⟩:=Option.map_eq_some_iff.1 hz0
 obtain⟨hzs,hz8⟩:=Prod.mk.inj hzs
 rw[Em (places:=[(0,256),(256,1),(257,1),(258,1),(259,1)]) _ hi Tryz.underlying27 hz (by kernel_rfl)]
 have hs:=aO f
 have P9:=tX 0 (aT f).toList 0 z.cells
 have hgg:=fun i=>BQ 0 (aT f).toList 0 z.cells i (by rw[Array.length_toList];omega)
 rw[←BR] at P9
 simp only[←BR] at hgg
 have e0:=L8 (place:=(([(0,256),(256,1),(257,1),(258,1),(259,1)]:List (Nat×Nat)).toArray[·]?)) (cells:=z.cells) (i:=0) (off:=0) (size:=256) (v:=.agg (aT f)) (rest:=[(1,.int .i64 wd),(2,.slice na nn nc),(4,.slice ma mn mc)]) rfl hs (by omega)
 refine e0.trans ?_
 show Instr.fill _ ((aT f).zipIdx.foldl (fun cs (x:Value×Nat)=>cs.setIfInBounds (0+x.2) x.1) z.cells) _=_
 generalize (aT f).zipIdx.foldl (fun cs (x:Value×Nat)=>cs.setIfInBounds (0+x.2) x.1) z.cells=F at *
 rw[uN (off:=256) rfl rfl (by omega),uN (off:=257) rfl rfl (by rw[Array.size_setIfInBounds];omega),uN (off:=259) rfl rfl (by rw[Array.size_setIfInBounds,Array.size_setIfInBounds];omega)]
 refine congrArg some (BU (by rw[Array.size_setIfInBounds,Array.size_setIfInBounds,Array.size_setIfInBounds];omega) (fun i h=>?_) ?_ ?_ ?_ ?_)
 ·rw[Array.getElem?_setIfInBounds_ne (by omega),Array.getElem?_setIfInBounds_ne (by omega),Array.getElem?_setIfInBounds_ne (by omega),hgg i,if_pos (by rw[Array.length_toList];omega),Array.getElem?_toList,show i - (0+0)=i by omega,fF _ _ h]
 ·rw[Array.getElem?_setIfInBounds_ne (by omega),Array.getElem?_setIfInBounds_ne (by omega),Array.getElem?_setIfInBounds,if_pos rfl,if_pos (by omega)]
 ·rw[Array.getElem?_setIfInBounds_ne (by omega),Array.getElem?_setIfInBounds,if_pos rfl,if_pos (by rw[Array.size_setIfInBounds];omega)]
 ·rw[Array.getElem?_setIfInBounds_ne (by omega),Array.getElem?_setIfInBounds_ne (by omega),Array.getElem?_setIfInBounds_ne (by omega),hgg 258,if_neg (by rw[Array.length_toList];omega),hz8]
 ·rw[Array.getElem?_setIfInBounds,if_pos rfl,if_pos (by rw[Array.size_setIfInBounds,Array.size_setIfInBounds];omega)]
end
section
open Go.RowKit
def Vz:au:=⟨fun _=>0,0,none,0,0,none,0,0,none,0,0⟩
theorem iY:Tryz.zeroCells27=Vz.cells:=by kernel_rfl
def yA(w:World)(r:Sum Nat aF)(e:Ending)(w':World):Prop :=
 Below w.heap.size w w'∧match r with
 | .inl c=>e=.returned (.tuple #[.agg Vz.cells,.int .i64 c])
 | .inr D=>∃ V:au,e=.returned (.tuple #[.agg V.cells,.int .i64 0])∧(∀ u:World,(∀ b,w.heap.size≤b→b<w'.heap.size→u.heap[b]?=w'.heap[b]?)→kJ u V D)∧V.of=D.of
def Aw(N:Nf)(names:List (List UInt8))(most:Nat):Sum Nat aF :=
 if vZ N names=true then (match ji N most (fP N) (most+1) 0 [fA N [0]] [] with
  | none=>.inl 7
  | some (sets,next)=>.inr ⟨bf (RL (N.edges.map (·.2.1))),((fP N).length:Nat),next,sets.map (gU N),names⟩) else .inl 6
theorem MN(l:List (List UInt8)):(l.map bs).map Value.string=l.flatMap kH:=by
 induction l with
 | nil=>rfl
 | cons x l ih=>rw[List.map_cons,List.map_cons,ih,List.flatMap_cons];rfl
theorem FT(l:List (List UInt8))(a:Option Addr)(n cap:Nat)(w:World)(h:ak w (.slice a n cap) 1 kH l)(hl:l.length≤1099511627776) :
  Calls Tryz.prog 81 #[.slice a n cap] w (gu w 9 1 kH l):=by
 obtain⟨b,o,hn,hc,hc2,ha,hx⟩:=h.dG (f:=fun x=>sv x)
 subst hn
 by_cases h0:l.length=0
 ·obtain rfl:l=[]:=List.eq_nil_of_length_eq_zero h0
  cases a with
  | none =>
   refine(Tryz.slices_Clone_string_nil 0 cap w).mono fun e w' ⟨he,hw⟩=>?_
   exact⟨none,0,he,Own.nil _ _ _ _ _,hw▸Below.refl _ _⟩
  | some ad =>
   refine(Tryz.slices_Clone_string_zero ad cap w).mono fun e w' he=>?_
   obtain⟨v',rfl,hr,_,hB⟩:=he
   have ho:Own w' w.heap.size 9 1 kH v' []:=Own.ofRow hr xq
   obtain⟨a',c',rfl⟩:=ho.form
   exact⟨a',c',rfl,ho,hB⟩
 ·obtain rfl:=ha 0 (by omega)
  have:=Tryz.slices_Clone_string b o l.length cap (l.map bs) w (by simp) (by omega) (fun j hj=>by
   have hj2:j<l.length:=by simpa using hj
   rw[hx j hj2 w (Below.refl _ _)]
   simp[List.getD,hj2])
  refine this.mono fun e w' he=>?_
  obtain⟨v',rfl,hr,_,hB⟩:=he
  have e1:((l.map bs).take l.length).map Value.string=l.flatMap kH:=by rw[List.take_of_length_le (by simp)];exact MN l
  rw[e1] at hr
  have ho:Own w' w.heap.size 9 1 kH v' l:=Own.ofRow hr xq
  obtain⟨a',c',rfl⟩:=ho.form
  exact⟨a',c',rfl,ho,hB⟩
theorem Yr(N:Nf)(V:Y3)(names:List (List UInt8))(na:Option Addr)(nc most:Nat)(w:World)(h:qE w N V)(hw:N.wf)(h0:0<N.states)(hs:N.states≤65536)(hn:ak w (.slice na names.length nc) 1 kH names)(hnl:∀ x∈names,x.length≤9223372036854775807)
  (hno:vZ N names=false) :
  Calls Tryz.prog 101 #[.agg (bZ N V),.slice na names.length nc,.int .i64 most] w (yA w (.inl 6)):=by
 have hB0:=aj w (.cells (bZ N V) 157)
 have hbx:=Box.new w (bZ N V) 157
 have hB1:=hB0.alloc hB0.size (.cells Vz.cells 27)
 have hby:Box ((w.alloc (.cells (bZ N V) 157)).alloc (.cells Vz.cells 27)) (w.heap.size+1) Vz.cells 27:=Box.new' (World.size_alloc _ _).symm _ _
 have dW:=hbx.kept (aj (w.alloc (.cells (bZ N V) 157)) (.cells Vz.cells 27))
 have HN:=ah (fun u hu=>hno▸Ei N V names na nc u (h.kept hu) hw h0 hs (hn.kept hu) hnl)
 obtain⟨vl,ve,va⟩:=V
 obtain⟨la,lc,hvl⟩:=h.li.form
 obtain⟨ea,ec,kL⟩:=h.ed.form
 obtain⟨aa,ac,hva⟩:=h.ac.form
 dsimp only at hvl kL hva
 subst hvl
 subst kL
 subst hva
 have hsz:Vz.cells.size=260:=au.size _
 clear h hw hn hnl hno
 unfold bZ at *
 dsimp only at *
 generalize hW1:((w.alloc (.cells #[.int .i64 N.states,.int .i64 0,.slice la N.links.length lc,.slice ea N.edges.length ec,.slice aa N.accept.length ac] 157)).alloc (.cells Vz.cells 27))=W1 at *
 have HW1:=ah hW1
 have x0:W1.cell? ⟨w.heap.size,0,none⟩=some (.int .i64 N.states):=dW.cell 0
 have x1:W1.cell? ⟨w.heap.size,1,none⟩=some (.int .i64 0):=dW.cell 1
 have x2:W1.cell? ⟨w.heap.size,2,none⟩=some (.slice la N.links.length lc):=dW.cell 2
 have x3:W1.cell? ⟨w.heap.size,3,none⟩=some (.slice ea N.edges.length ec):=dW.cell 3
 have x4:W1.cell? ⟨w.heap.size,4,none⟩=some (.slice aa N.accept.length ac):=dW.cell 4
 have lx:=dW.lt
 clear hW1 hbx hB0
 go_enter Tryz.func101,Tryz.ntmps101
 go_wp2_with (first | (with_reducible refine Halt.go (p:=wpList _ _ _ ({ dst:=some 15,op:=_,type:=_,pos:=_,after:=_,guard:=_ }::_) _ _) ?_) | fail)
 simp only[iY,HW1.out]
 unfold Halt
 go_wp2_with (first | (go_at_call 147;go_must (refine(HN.out _ hB1).mono ?_;rintro e w2 ⟨rfl,hb2⟩;have hy2:=hby.kept hb2)) | (simp only[iY];refine wpList_store_row rfl 27 _ _ rfl (w.heap.size+1) _ rfl rfl _ _ hy2 (bU _) rfl (au.all _) ?_))
 have hfin:=hy2.setRow Vz.cells
 refine bodyPost_ret (fQ rfl _ _ (w.heap.size+1) 27 _ (.int .i64 6) rfl rfl hfin Tryz.underlying27 rfl (bU _)) rfl ?_
 exact⟨below_setRow (hB1.trans (hb2.mono hB1.size)) (by omega) _,rfl⟩
theorem Vo(N:Nf)(V:Y3)(names:List (List UInt8))(na:Option Addr)(nc most:Nat)(w:World)(h:qE w N V)(hw:N.wf)(h0:0<N.states)(hs:N.states≤65536)(hn:ak w (.slice na names.length nc) 1 kH names)(hnl:∀ x∈names,x.length≤9223372036854775807)
  (hlk:N.links.length≤1099511627776) (he:N.edges.length≤65536) (hm1:1≤most) (hm2:most≤65536) (hT:Tab w) (hyes:vZ N names=true)
  (hbig:ji N most (fP N) (most+1) 0 [fA N [0]] []=none) :
  Calls Tryz.prog 101 #[.agg (bZ N V),.slice na names.length nc,.int .i64 most] w (yA w (.inl 7)):=by
 have hB0:=aj w (.cells (bZ N V) 157)
 have hbx:=Box.new w (bZ N V) 157
 have hB1:=hB0.alloc hB0.size (.cells Vz.cells 27)
 have hby:Box ((w.alloc (.cells (bZ N V) 157)).alloc (.cells Vz.cells 27)) (w.heap.size+1) Vz.cells 27:=Box.new' (World.size_alloc _ _).symm _ _
 have dW:=hbx.kept (aj (w.alloc (.cells (bZ N V) 157)) (.cells Vz.cells 27))
 have HN:=ah (fun u hu=>hyes▸Ei N V names na nc u (h.kept hu) hw h0 hs (hn.kept hu) hnl)
 have HO:=ah (fun u hu=>by
  have h1:=Yk N V most u (h.kept hu) hw h0 hs hlk he hm1 hm2 (hT.kept hu)
  unfold Nh at h1
  rw[hbig] at h1
  exact h1)
 obtain⟨vl,ve,va⟩:=V
 obtain⟨la,lc,hvl⟩:=h.li.form
 obtain⟨ea,ec,kL⟩:=h.ed.form
 obtain⟨aa,ac,hva⟩:=h.ac.form
 dsimp only at hvl kL hva
 subst hvl
 subst kL
 subst hva
 have hsz:Vz.cells.size=260:=au.size _
 clear h hw hn hnl hyes hbig hT
 unfold bZ at *
 dsimp only at *
 generalize hW1:((w.alloc (.cells #[.int .i64 N.states,.int .i64 0,.slice la N.links.length lc,.slice ea N.edges.length ec,.slice aa N.accept.length ac] 157)).alloc (.cells Vz.cells 27))=W1 at *
 have HW1:=ah hW1
 have x0:W1.cell? ⟨w.heap.size,0,none⟩=some (.int .i64 N.states):=dW.cell 0
 have x1:W1.cell? ⟨w.heap.size,1,none⟩=some (.int .i64 0):=dW.cell 1
 have x2:W1.cell? ⟨w.heap.size,2,none⟩=some (.slice la N.links.length lc):=dW.cell 2
 have x3:W1.cell? ⟨w.heap.size,3,none⟩=some (.slice ea N.edges.length ec):=dW.cell 3
 have x4:W1.cell? ⟨w.heap.size,4,none⟩=some (.slice aa N.accept.length ac):=dW.cell 4
 have lx:=dW.lt
 clear hW1 hbx hB0
 go_enter Tryz.func101,Tryz.ntmps101
 go_wp2_with (first | (with_reducible refine Halt.go (p:=wpList _ _ _ ({ dst:=some 15,op:=_,type:=_,pos:=_,after:=_,guard:=_ }::_) _ _) ?_) | fail)
 simp only[iY,HW1.out]
 unfold Halt
 go_wp2_with (first | (go_at_call 147;go_must (refine(HN.out _ hB1).mono ?_;rintro e w2 ⟨rfl,hb2⟩;have hy2:=hby.kept hb2;have hx2:=dW.kept hb2;have hB2:=hB1.trans (hb2.mono hB1.size);have z0:w2.cell? ⟨w.heap.size,0,none⟩=some (.int .i64 N.states):=hx2.cell 0;have z1:w2.cell? ⟨w.heap.size,1,none⟩=some (.int .i64 0):=hx2.cell 1;have z2:w2.cell? ⟨w.heap.size,2,none⟩=some (.slice la N.links.length lc):=hx2.cell 2;have z3:w2.cell? ⟨w.heap.size,3,none⟩=some (.slice ea N.edges.length ec):=hx2.cell 3;have z4:w2.cell? ⟨w.heap.size,4,none⟩=some (.slice aa N.accept.length ac):=hx2.cell 4;have lz:=hx2.lt)) | (go_at_call 148;go_must (refine(HO.out w2 hB2).mono ?_;rintro e w3 ⟨hb3,rfl⟩;have hy3:=hy2.kept hb3)) | (simp only[iY];refine wpList_store_row rfl 27 _ _ rfl (w.heap.size+1) _ rfl rfl _ _ hy3 (bU _) rfl (au.all _) ?_))
 have hfin:=hy3.setRow Vz.cells
 refine bodyPost_ret (fQ rfl _ _ (w.heap.size+1) 27 _ (.int .i64 7) rfl rfl hfin Tryz.underlying27 rfl (bU _)) rfl ?_
 exact⟨below_setRow (hB2.trans (hb3.mono hB2.size)) (by omega) _,rfl⟩
end
end Go.Proofs.YtbemonecmmnlcaaGreatDoor
