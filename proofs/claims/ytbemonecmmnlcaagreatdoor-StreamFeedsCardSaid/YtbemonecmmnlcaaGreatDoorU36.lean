/- What any stream tells. No condition. -/
import Derived.Test.YtbemonecmmnlcaaGreatDoorU35
set_option linter.unusedVariables false
set_option linter.unusedSimpArgs false
set_option maxRecDepth 20000
set_option maxHeartbeats 12800000
namespace Go.Proofs.YtbemonecmmnlcaaGreatDoor
open Go.RowKit Go.ChangeShapes Go.WideShapes Go.ChangeAt _root_.Go.Proofs.Tryz
theorem Ou(L:List (List UInt8)):∀ k,(L.take k).flatten.length≤total L:=by
 induction L with
 | nil=>intro k;simp
 | cons x r ih =>
  intro k
  have e:total (x::r)=x.length+total r:=by simp[total]
  cases k with
  | zero=>simp
  | succ k=>have:=ih k;rw[List.take_succ_cons,List.flatten_cons,List.length_append,e];omega
theorem Xp{D:ay}{X:eG}{W:List UInt8}(h:jC D X W):X.at_+X.held.length≤W.length:=by
 have h1:=h.len
 have h2:=h.le
 rw[h1]
 split <;> omega
theorem ae7{D:ay}{X:eG}{W:List UInt8}(h:jC D X W):X.held.length=if qc D W X.en X.at_=true then 0 else W.length - X.at_:=by
 rw[h.len,h.stuck];rfl
theorem Zq(V:au)(D:ay)(w:World)(a:Option Addr)(n c:Nat)(z:Nat)(L:List (List UInt8))(h:dN w V D)(hof:∀ b,V.of b<256)(hl:∀ x∈D.names,x.length≤9223372036854775807)(hr:dS D=true)(hL:sG w a n c L)(hq:∀ x∈L,x.length≤140737488351232)(hz:z<256)(hT:Tab w)(hM:xK w)(h40:V.ln≤40)(hn2:n≤15)(ht2:total L≤60) :
  Calls prog 10 #[.agg V.cells,.slice a n c,.int .u8 (z:Nat)] w (bM w (.bool true)):=by
 have hx:=Box.new w V.cells 27
 have hB:=aj w (.cells V.cells 27)
 have HK:=ah (fun u (hu:Below w.heap.size w u)=>Ot u (hT.kept hu) (hM.kept hu))
 have H1:=ah (fun u (hu:Below w.heap.size w u)=>UE V D u (h.kept hu) hl hr)
 have HR:=ah (fun u (hu:Below w.heap.size w u)=>hr▸rM V D u (h.kept hu) hl)
 have NH:=ah (fun u (hu:Below w.heap.size w u)=>I8 V D 40 u (h.kept hu) hof hl)
 rw[hr,Bool.true_and,show decide ((V.ln:Int)≤40)=true by simp;omega] at NH
 have H2:Hid (∀ u,Below w.heap.size w u→Calls prog 41 #[.slice a n c,.int .i64 60] u fun e w'=>∃ s:Nat,e=.returned (.int .i64 s)∧Below u.heap.size u w'∧¬ (60:Int)<(s:Int)):=ah fun u hu=>(Xo a n c L 60 u (hL.kept hu) hq (by decide)).mono (by
  rintro e w' ⟨s,rfl,hb,hs⟩
  exact⟨s,rfl,hb,fun e=>by have:=hs.1 (by omega);omega⟩)
 have sD:=ah (show(∀ u,Below w.heap.size w u→dN u V D)∧(∀ b,V.of b<256)∧(∀ x∈D.names,x.length≤9223372036854775807)∧dS D=true from⟨fun u hu=>h.kept hu,hof,hl,hr⟩)
 have hi:¬ (15:Int)<(n:Int):=by omega
 have HW:=ah (yM hr)
 have HL:=ah hL
 have hz0:=vO
 have hbw:=hx.lt
 clear h hof hl hr hT hM hq hL h40
 go_enter func10,ntmps10
 go_wp2_with (first | (refine aI (by rfl) 27 _ rfl w.heap.size rfl _ _ _ _ hx underlying27 rfl (aZ _) ?_) | (go_at_call 39;go_must (refine(H1.out _ hB).mono ?_;rintro e w2 ⟨sb,vb,U,wd,lb,lo,nb,no,rb,ro,rc,rfl,hsb,hlt,hMR,hSt,hb2⟩;have hx:=hx.kept hb2;have hB:=hB.trans (hb2.mono hB.size);have HMR:=ah hMR;have HST:=ah hSt;have hc:=Below.refl w2.heap.size w2;clear hMR hSt hb2)) | (go_at_call 40;go_must (refine(HR.out _ hB).mono ?_;rintro e w3 ⟨rfl,hb3⟩;have hx:=hx.kept hb3;have hB:=hB.trans (hb3.mono hB.size);have hc:=Later.trans _ _ _ hc hb3)) | (go_at_call 20;go_must (refine(NH.out _ hB).mono ?_;rintro e w4 ⟨rfl,hb4⟩;have hx:=hx.kept hb4;have hB:=hB.trans (hb4.mono hB.size);have hc:=Later.trans _ _ _ hc hb4)) | (go_at_call 41;go_must (refine(H2.out _ hB).mono ?_;rintro e w6 ⟨s,rfl,hb6,hs6⟩;have hx:=hx.kept hb6;have hB:=hB.trans (hb6.mono hB.size);have hc:=Later.trans _ _ _ hc hb6)) | (refine Qs rfl rfl rfl (aci V) ?_) | (refine dV rfl 69 _ _ rfl _ _ rfl rfl rfl (by rw[dW];exact Uz) (by rw[dW,dW]) (sF V _ rfl) ?_))
 obtain⟨hn,hnc,hc63,bL,oL,haL,hxL⟩:=HL.out.at_
 have hal:=aj w6 (.cells (sC V z34) 69)
 have Zr:w.heap.size≤sb:=by rw[World.size_alloc] at hsb;omega
 have ase:w.heap.size<sb:=by rw[World.size_alloc] at hsb;omega
 have hxb:w2.heap.size≤w6.heap.size:=hc.size
 have zn:CU w sb w2.heap.size vb D.label.length U V D w2 (w6.alloc (.cells (sC V z34) 69)) ⟨[],0,false,false⟩ none w6.heap.size none 0 0 [] :=
  ⟨HST.out.kept hlt (Later.trans _ _ _ hc hal),fun q e=>(by cases e),⟨Nat.le_refl _,fun _=>⟨rfl,.inl rfl⟩,fun e=>(by cases e)⟩,Box.new _ _ _,Own.nil _ _ _ _ _,fun q e=>(by cases e),fun e=>(by cases e),hB.trans (hal.mono hB.size)⟩
 have HQ0:=ah zn
 have HN:=ah hn;have HAL:=ah haL;have HXL:=ah hxL
 clear zn hn haL hxL hal hx hB hc H1 HR NH H2 hbw hs6 HST hb6 hb4 hb3
 generalize w6.alloc (.cells (sC V z34) 69)=w7 at *
 generalize w6.heap.size=xb at *
 go_loopw [10] (fun v wr=>∃ (k:Nat) (X:eG) (g:Option Nat) (ta:Option Addr) (m tc:Nat) (W:List UInt8),v=.int .i64 k∧k≤n+1∧W.length≤(L.take k).flatten.length∧CU w sb w2.heap.size vb D.label.length U V D w2 wr X g xb ta m tc W) (fun v _=>n+1 - (intOf v).toNat)
 case atStart=>exact⟨0,_,none,none,0,0,[],rfl,Nat.zero_le _,Nat.zero_le _,HQ0.out⟩
 case round =>
  clear HQ0
  obtain⟨k,X,g,ta,m,tc,W,rfl,hk,Xq,hQ⟩:=hrel
  have hWl:W.length≤60:=Nat.le_trans Xq (Nat.le_trans (Ou L k) ht2)
  have hk0:(0:Int)≤(k:Int):=by omega
  by_cases hkn:k≤n
  ·have hki:(k:Int)≤(n:Int):=by omega
   have hwz:IntKind.i64.wrap (z:Int)=(z:Int):=IntWalk.i64_in _ (by omega)
   have hcs:k=n∨(k<n∧k=z)∨(k<n∧¬ k=z):=by omega
   have hFL:k<n→∃ (hk2:k<L.length),W.length+(L[k]).length≤(L.take (k+1)).flatten.length∧(L[k]).length≤60:=fun hkl=>by
    have hkl2:k<L.length:=by rw[←HN.out];exact hkl
    refine⟨hkl2,?_⟩
    have h1:=Ou L (k+1)
    have h2:(L.take (k+1)).flatten.length=(L.take k).flatten.length+(L[k]).length:=by rw[List.take_succ_eq_append_getElem hkl2,List.flatten_append,List.length_append];simp
    omega
   rcases hcs with hke | ⟨hkl,hkz⟩ | ⟨hkl,hkz⟩
   focus
    subst hke
    have ae8:W.length≤(L.take (k+1)).flatten.length:=by rw[List.take_of_length_le (by rw[←HN.out];exact Nat.le_refl _)] at Xq;rw[List.take_of_length_le (by rw[←HN.out];omega)];exact Xq
    clear Xq hki hFL
   rotate_left
   focus
    subst hkz
   rotate_left
   focus
    have f3:((k:Int)==(z:Int))=false:=by simp;omega
    have f4:(k==z)=false:=by simp;omega
   rotate_left
   rotate_left
   iterate 2
    focus
     obtain⟨hkl2,ae8,hlk⟩:=hFL hkl
     have hli:(k:Int)<(n:Int):=by omega
     have f1:((k:Int)==(n:Int))=false:=by simp;omega
     have f2:(k==n)=false:=by simp;omega
     obtain⟨a',c',hc0,hs0⟩:=HXL.out k hkl2
     have WU:=ah hc0;have Pj:=ah hs0
     obtain rfl:=HAL.out k hkl
     generalize L[k]=b at *
     clear Xq hc0 hs0 hki hFL
    rotate_left
   rotate_left
   rotate_left
   focus
    obtain⟨Y,g4,nS,m5,nT,hQ⟩:∃ Y g4 nS m5 nT,CU w sb w2.heap.size vb D.label.length U V D w2 wr Y g4 xb nS m5 nT W:=⟨X,g,ta,m,tc,hQ⟩
    generalize wr=w8 at *
   rotate_left
   iterate 2
    focus
     have hEN:=akn sb w2.heap.size vb U D w2 wr D.label.length wd lb lo nb no rb ro rc HMR.out HW.out hlt X g hQ.st (fun q e=>(hQ.gl q e).1) (by have:=Xp hQ.rel;omega) (fun e=>(hQ.rel.st e).1)
     have hDE:=fun u (hu:Below w.heap.size w u) (ho:Own u (xb+1) 5 1 bf (.slice ta m tc) W)=>ahf V D W ta m tc X xb u (sD.out.1 u hu) sD.out.2.1 sD.out.2.2.1 sD.out.2.2.2 hQ.rel ho (by omega)
     have hRE:=ahg hQ.rel
     generalize rY D X=q at *
     obtain⟨toks,Y⟩:=q
     dsimp only at hRE hDE
     have HEN:=ah hEN;have HDE:=ah hDE;have Jb:=ah hRE;have HQ:=ah hQ
     have hwx:=hQ.box.lt
     clear hEN hDE hRE hQ
     go_wp2_with (first | (go_at_call 43;go_must (refine HEN.out.mono ?_;rintro e w4 ⟨a4,c4,g4,rfl,mM,hk4,hS4,hg4⟩;obtain⟨hx4,oI,hB4,UN⟩:=HQ.out.fed hlt Zr hxb hk4 hg4;have oK:=ah mM;have HS4:=ah hS4;have HT4:=ah oI;have HB4:=ah hB4;have HG4:=ah UN;have hl4:=hx4.lt;clear mM hk4 hS4 hg4 oI hB4 UN)) | (refine aI (by rfl) 69 _ rfl xb rfl _ _ _ _ hx4 underlying69 rfl (cO V ta m tc X.en X.at_) ?_) | (go_at_call 44;go_must (refine(HDE.out w4 HB4.out HT4.out).mono ?_;rintro e w5 ⟨a5,c5,nS,m5,nT,rfl,iQ,oJ,hd5,hb5⟩;have Jl:=ah iQ;have P9:=ah oJ;have HD5:=ah hd5;have nG:=ah hb5;have EY:=Box.new w5 (sC V (dT nS m5 nT Y.en Y.at_)) 69;have hx5:=(hx4.kept hb5).kept (aj w5 (.cells (sC V (dT nS m5 nT Y.en Y.at_)) 69));clear iQ oJ hd5 hb5)) | (refine dV rfl 69 _ _ rfl _ _ rfl rfl rfl (cO V nS m5 nT Y.en Y.at_) (by rw[dW,dW];rfl) (sF V _ rfl) ?_) | (refine aI (by rfl) 69 _ rfl w5.heap.size rfl _ _ _ _ EY underlying69 rfl (cO V nS m5 nT Y.en Y.at_) ?_) | (refine wpList_store_row rfl 69 _ _ rfl xb _ rfl rfl _ _ hx5 (cO V nS m5 nT Y.en Y.at_) (by rw[dW,dW];rfl) (sF V _ rfl) ?_))
     have UO:=aj w5 (.cells (sC V (dT nS m5 nT Y.en Y.at_)) 69)
     have Zt:=Later.trans _ _ _ nG.out UO
     have HQ6:=ah (UM (V:=V) hlt Zr hxb HS4.out HB4.out hl4 HG4.out Zt hx5 (P9.out.kept UO) HD5.out Jb.out)
     have ha6:Own ((w5.alloc (.cells (sC V (dT nS m5 nT Y.en Y.at_)) 69)).setRow xb (sC V (dT nS m5 nT Y.en Y.at_))) wr.heap.size 61 3 gK (.slice a4 toks.length c4) toks:=(oK.out.kept Zt).bW fun q e=>setRow_other _ xb q _ (by have:=((oK.out.kept Zt).bC q e).1;omega)
     have hb6:Own ((w5.alloc (.cells (sC V (dT nS m5 nT Y.en Y.at_)) 69)).setRow xb (sC V (dT nS m5 nT Y.en Y.at_))) w4.heap.size 61 3 gK (.slice a5 toks.length c5) toks:=(Jl.out.kept UO).bW fun q e=>setRow_other _ xb q _ (by have:=((Jl.out.kept UO).bC q e).1;omega)
     have qO:=ah (Nj (toks.map GV) a4 a5 _ _ c4 c5 _ (ha6.slice vN).GV (hb6.slice vN).GV)
     clear ha6 hb6 UO Zt hx5 EY hx4
     refine qO.out.mono ?_
     rintro e w8 ⟨rfl,hb8⟩
     have hQ:=HQ6.out.kept hlt hb8
     clear HQ6 HQ HEN HDE Jb oK HS4 HT4 HB4 HG4 Jl P9 HD5 nG qO hb8 hl4 hwx
    rotate_left
   rotate_left
   rotate_left
   iterate 2
    focus
     have hFD:=Xl sb w2.heap.size vb U D w2 w8 D.label.length wd lb lo nb no rb ro rc HMR.out HW.out hlt Y g4 hQ.st (fun q e=>(hQ.gl q e).1) a' b.length c' b (Pj.out.kept hQ.low) (by have:=Xp hQ.rel;omega)
     have hDF:=fun u (hu:Below w.heap.size w u) (ho:Own u (xb+1) 5 1 bf (.slice nS m5 nT) W) (hxu:xb+1≤u.heap.size)=>ae4 V D W b nS a' m5 nT b.length c' Y xb u (sD.out.1 u hu) sD.out.2.1 sD.out.2.2.1 sD.out.2.2.2 hQ.rel ho (Pj.out.kept hu) (by omega) hxu
     have hRF:=ae5 HW.out hQ.rel b
     have hWN:(zN Y W b).length≤(L.take (k+1)).flatten.length:=Nat.le_trans (ach Y W b) ae8
     generalize zN Y W b=W2 at *
     generalize ji D Y b=q at *
     obtain⟨tY,Z⟩:=q
     dsimp only at hRF hDF
     have UH:=ah hFD;have HDF:=ah hDF;have Wx:=ah hRF;have HQ:=ah hQ
     have hwx:=hQ.box.lt
     have c1:=WU.out w8 hQ.low
     have cl:=World.block_lt_of_cell? w8 _ c1
     clear hFD hDF hRF hQ
     go_wp2_with (go_at_call 46;go_must (refine UH.out.mono ?_;rintro e v4 ⟨p4,d4,f4,rfl,mM,hk4,hS4,hg4⟩;obtain⟨hx4,oI,hB4,UN⟩:=HQ.out.fed hlt Zr hxb hk4 hg4;have oK:=ah mM;have HS4:=ah hS4;have HT4:=ah oI;have HB4:=ah hB4;have HG4:=ah UN;have hl4:=hx4.lt;clear mM hk4 hS4 hg4 oI hB4 UN c1 cl))
     have hD4:Below v4.heap.size v4 v4.drew:=(Below.refl _ _).drew
     have HF:Hid (∀ u,Later v4.drew u→Box u xb (sC V (dT nS m5 nT Y.en Y.at_)) 69∧u.cell? ⟨bL,oL+k,none⟩=some (.slice a' b.length c')∧Calls prog 47 #[.agg (sC V (dT nS m5 nT Y.en Y.at_)),.slice a' b.length c'] u (UK V xb (Value.slice nS m5 nT).ownBlock tY Z W2 u)∧Below v4.heap.size v4 u):=ah fun u hu=>by
      have q1:Below v4.heap.size v4 u:=hD4.trans (hu.mono hD4.size)
      have q2:=HB4.out.trans (q1.mono HB4.out.size)
      exact⟨hx4.kept q1,WU.out u q2,HDF.out u q2 (HT4.out.kept q1) (by have:=q1.size;omega),q1⟩
     clear hx4 hD4
     refine aH (R:=Later) 11 (by kernel_rfl) ?_
     refine kR (t:=11) (i:=0) rfl (by kernel_rfl) (by kernel_rfl) (by kernel_rfl) (by kernel_rfl) (fun _ _ _ h=>h) (by rfl) (fun w1 hl=>fM 69 _ rfl _ rfl ((HF.out w1 hl).1) underlying69 rfl (cO V nS m5 nT Y.en Y.at_)) ?_
     simp only[eA,eB,Act.put,eD,eE,eF]
     refine pl [1,2,3,4] ?_
     repeat
      refine gU ?_ rfl (fun w1 hl=>?_) ?_
      rotate_left
      ·obtain⟨_,q1,_,_⟩:=HF.out w1 hl;have l1:=World.block_lt_of_cell? w1 _ q1;go_simp;try with_reducible rfl
      simp only[eA,eB,eC,Act.put,eD,eE,eF]
     refine dI ?_
     refine @ali (akF v4 V Z xb (sC V (dT nS m5 nT Y.en Y.at_)) (Value.slice nS m5 nT).ownBlock tY W2) ?_ _ (fun key=>?_) ?_
     rotate_left
     focus
      have l0:Later v4.drew v4.drew:=Later.refl _
      refine CV (t:=11) (i:=5) (j:=9) (by kernel_rfl) rfl rfl (fun w1 hl K hK=>?_) (fun w1 hl K hK=>?_)
      ·have hF1:=HF.out w1 (Later.trans _ _ _ l0 hl)
       have hs1:v4.heap.size≤w1.heap.size:=hF1.2.2.2.size
       go_simp
       refine hF1.2.2.1.mono ?_
       rintro e wq ⟨p5,d5,jQ,n5,jR,rfl,iQ,oJ,hd5,hbq⟩
       refine hK.out _ _ (fun _=>hbq) ?_
       clear hK K hF1
       replace l0:=Later.trans _ _ _ (Later.trans _ _ _ l0 hl) hbq
       replace hd5:∀ q,(Value.slice jQ n5 jR).ownBlock=some q→(Value.slice nS m5 nT).ownBlock=some q∨v4.heap.size≤q:=fun q e=>(hd5 q e).imp id (fun h=>Nat.le_trans hs1 h)
       replace iQ:=iQ.mono hs1
       clear hbq hl
       refine pl [6,7,8] ?_
       repeat
        refine gU ?_ rfl (fun w1 hl=>?_) ?_
        rotate_left
        ·skip;go_simp;try with_reducible rfl
        simp only[eA,eB,eC,Act.put,eD,eE,eF]
       refine dI ?_
       refine aW (t:=11) (i:=9) (by kernel_rfl) rfl (fun w1 hl K hK=>?_)
       replace iQ:=iQ.kept hl
       replace oJ:=oJ.kept hl
       have htb:v4.heap.size≤w1.heap.size:=(HF.out w1 (Later.trans _ _ _ l0 hl)).2.2.2.size
       go_simp
       refine hK.out _ _ (fun _=>aj _ _) ?_
       clear hK K
       have hzb:=Box.new w1 (sC nH z34) 69
       have hzl:=aj w1 (.cells (sC nH z34) 69)
       replace l0:=Later.trans _ _ _ (Later.trans _ _ _ l0 hl) hzl
       have hny:∀ q,(Value.slice p5 tY.length d5).ownBlock=some q→q≠w1.heap.size:=fun q e=>by have:=(iQ.bC q e).2;omega
       have hnt:∀ q,(Value.slice jQ n5 jR).ownBlock=some q→q≠w1.heap.size:=fun q e=>by have:=(oJ.bC q e).2;omega
       replace iQ:=iQ.kept hzl
       replace oJ:=oJ.kept hzl
       clear hzl hl
       generalize (w1.alloc (.cells (sC nH z34) 69))=wz at *
       generalize w1.heap.size=yb at *
       refine iZ 10 ?_ rfl (fun w1 hl=>?_) ?_
       rotate_left
       ·skip;go_simp;try with_reducible rfl
       simp only[eA,eB,eC,Act.put,eD,eE,eF]
       refine aW (t:=11) (i:=11) (by kernel_rfl) rfl (fun w1 hl K hK=>?_)
       replace hzb:=hzb.kept hl
       replace iQ:=iQ.kept hl
       replace oJ:=oJ.kept hl
       have I5:=HF.out w1 (Later.trans _ _ _ l0 hl)
       refine dD (by rfl) ?_
       refine wp_store_row 69 _ _ rfl yb _ rfl rfl _ _ hzb (cO V jQ n5 jR Z.en Z.at_) (by rw[dW,dW];rfl) (sF V _ rfl) ?_
       refine hK.out _ _ (fun h=>absurd rfl h) ?_
       clear hK K
       have hfin:=hzb.setRow (sC V (dT jQ n5 jR Z.en Z.at_))
       have Oi:Own (w1.setRow yb (sC V (dT jQ n5 jR Z.en Z.at_))) v4.heap.size 61 3 gK (.slice p5 tY.length d5) tY:=iQ.bW fun q e=>setRow_other w1 yb q _ (hny q e)
       have ae9:Own (w1.setRow yb (sC V (dT jQ n5 jR Z.en Z.at_))) (xb+1) 5 1 bf (.slice jQ n5 jR) W2:=oJ.bW fun q e=>setRow_other w1 yb q _ (hnt q e)
       have afa:=I5.1.setRow_other (sC V (dT jQ n5 jR Z.en Z.at_)) (show xb≠yb by omega)
       have UQ:=below_setRow I5.2.2.2 htb (sC V (dT jQ n5 jR Z.en Z.at_))
       clear I5 hl
       refine aQ (by kernel_rfl) (fun w1 hl=>?_) _
       exact key yb p5 d5 jQ n5 jR w1 ⟨UQ.trans (hl.mono UQ.size),htb,hfin.kept hl,Oi.kept hl,ae9.kept hl,hd5,afa.kept hl⟩
      ·have htb:v4.heap.size≤w1.heap.size:=(HF.out w1 (Later.trans _ _ _ l0 hl)).2.2.2.size
       go_simp
       refine hK.out _ _ (fun _=>aj _ _) ?_
       clear hK K
       have hzb:=Box.new w1 (sC nH z34) 69
       have hzl:=aj w1 (.cells (sC nH z34) 69)
       have hz1:=World.size_alloc w1 (.cells (sC nH z34) 69)
       replace l0:=Later.trans _ _ _ (Later.trans _ _ _ l0 hl) hzl
       clear hzl hl
       generalize (w1.alloc (.cells (sC nH z34) 69))=wz at *
       generalize w1.heap.size=yb at *
       refine aW (t:=11) (i:=5) (by kernel_rfl) rfl (fun w1 hl K hK=>?_)
       have hF1:=HF.out w1 (Later.trans _ _ _ l0 hl)
       have hs1:v4.heap.size≤w1.heap.size:=hF1.2.2.2.size
       replace hzb:=hzb.kept hl
       have hzs:=hzb.lt
       go_simp
       refine hF1.2.2.1.mono ?_
       rintro e wq ⟨p5,d5,jQ,n5,jR,rfl,iQ,oJ,hd5,hbq⟩
       refine hK.out _ _ (fun _=>hbq) ?_
       clear hK K hF1
       replace l0:=Later.trans _ _ _ (Later.trans _ _ _ l0 hl) hbq
       replace hzb:=hzb.kept hbq
       have hny:∀ q,(Value.slice p5 tY.length d5).ownBlock=some q→q≠yb:=fun q e=>by have:=(iQ.bC q e).1;omega
       have hnt:∀ q,(Value.slice jQ n5 jR).ownBlock=some q→q≠yb:=fun q e=>by
        rcases hd5 q e with h1 | h1
        ·have:=(HT4.out.bC q h1).2;omega
        ·omega
       replace hd5:∀ q,(Value.slice jQ n5 jR).ownBlock=some q→(Value.slice nS m5 nT).ownBlock=some q∨v4.heap.size≤q:=fun q e=>(hd5 q e).imp id (fun h=>Nat.le_trans hs1 h)
       replace iQ:=iQ.mono hs1
       clear hbq hl
       refine pl [6,7,8,10] ?_
       repeat
        refine gU ?_ rfl (fun w1 hl=>?_) ?_
        rotate_left
        ·skip;go_simp;try with_reducible rfl
        simp only[eA,eB,eC,Act.put,eD,eE,eF]
       refine dI ?_
       refine aW (t:=11) (i:=11) (by kernel_rfl) rfl (fun w1 hl K hK=>?_)
       replace hzb:=hzb.kept hl
       replace iQ:=iQ.kept hl
       replace oJ:=oJ.kept hl
       have I5:=HF.out w1 (Later.trans _ _ _ l0 hl)
       refine dD (by rfl) ?_
       refine wp_store_row 69 _ _ rfl yb _ rfl rfl _ _ hzb (cO V jQ n5 jR Z.en Z.at_) (by rw[dW,dW];rfl) (sF V _ rfl) ?_
       refine hK.out _ _ (fun h=>absurd rfl h) ?_
       clear hK K
       have hfin:=hzb.setRow (sC V (dT jQ n5 jR Z.en Z.at_))
       have Oi:Own (w1.setRow yb (sC V (dT jQ n5 jR Z.en Z.at_))) v4.heap.size 61 3 gK (.slice p5 tY.length d5) tY:=iQ.bW fun q e=>setRow_other w1 yb q _ (hny q e)
       have ae9:Own (w1.setRow yb (sC V (dT jQ n5 jR Z.en Z.at_))) (xb+1) 5 1 bf (.slice jQ n5 jR) W2:=oJ.bW fun q e=>setRow_other w1 yb q _ (hnt q e)
       have afa:=I5.1.setRow_other (sC V (dT jQ n5 jR Z.en Z.at_)) (show xb≠yb by omega)
       have UQ:=below_setRow I5.2.2.2 htb (sC V (dT jQ n5 jR Z.en Z.at_))
       clear I5 hl
       refine aQ (by kernel_rfl) (fun w1 hl=>?_) _
       exact key yb p5 d5 jQ n5 jR w1 ⟨UQ.trans (hl.mono UQ.size),htb,hfin.kept hl,Oi.kept hl,ae9.kept hl,hd5,afa.kept hl⟩
     intro yb p5 d5 jQ n5 jR v5 hP
     obtain⟨hb5,hyb,EY,iQ,oJ,hd5,hx5⟩:=hP
     have Jl:=ah iQ;have P9:=ah oJ;have HD5:=ah hd5;have nG:=ah hb5
     clear hb5 iQ oJ hd5 HF
     have hly:=EY.lt
     have hlx:=hx5.lt
     go_wp2_with (first | (refine aI (by rfl) 69 _ rfl yb rfl _ _ _ _ EY underlying69 rfl (cO V jQ n5 jR Z.en Z.at_) ?_) | (refine wpList_store_row rfl 69 _ _ rfl xb _ rfl rfl _ _ hx5 (cO V jQ n5 jR Z.en Z.at_) (by rw[dW,dW];rfl) (sF V _ rfl) ?_))
     have HQ6:=ah (UM (V:=V) hlt Zr hxb HS4.out HB4.out hl4 HG4.out nG.out hx5 P9.out HD5.out Wx.out)
     have ha6:Own (v5.setRow xb (sC V (dT jQ n5 jR Z.en Z.at_))) w8.heap.size 61 3 gK (.slice p4 tY.length d4) tY:=(oK.out.kept nG.out).bW fun q e=>setRow_other _ xb q _ (by have:=((oK.out.kept nG.out).bC q e).1;omega)
     have hb6:Own (v5.setRow xb (sC V (dT jQ n5 jR Z.en Z.at_))) v4.heap.size 61 3 gK (.slice p5 tY.length d5) tY:=Jl.out.bW fun q e=>setRow_other _ xb q _ (by have:=(Jl.out.bC q e).1;omega)
     have qO:=ah (Nj (tY.map GV) p4 p5 _ _ d4 d5 _ (ha6.slice vN).GV (hb6.slice vN).GV)
     clear ha6 hb6 hx5 EY
     refine qO.out.mono ?_
     rintro e w9 ⟨rfl,Jk⟩
     have hQ:=HQ6.out.kept hlt Jk
     clear HQ6 HQ UH HDF Wx oK HS4 HT4 HB4 HG4 Jl P9 HD5 nG qO Jk hl4 hwx hly hlx
    rotate_left
   focus
    obtain⟨Z,f4,jQ,n5,jR,W2,hWN,hQ⟩:∃ Z f4 jQ n5 jR W2,W2.length≤(L.take (k+1)).flatten.length∧CU w sb w2.heap.size vb D.label.length U V D w2 w8 Z f4 xb jQ n5 jR W2:=⟨Y,g4,nS,m5,nT,W,ae8,hQ⟩
    generalize w8=w9 at *
   all_goals
    have HQ:=ah hQ
    have Nc:=xO hQ.txt
    have hml:n5≤1099511627776:=by
     have h1:=Ou L (k+1)
     have h2:W2.length≤(L.take (k+1)).flatten.length:=hWN
     omega
    have hsk:=hQ.rel.stuck
    have hhe:=ae7 hQ.rel
    rw[show(decide (Z.at_<W2.length)&&(jm D W2 Z.at_).isNone&&dZ D Z.en (W2.drop Z.at_))=qc D W2 Z.en Z.at_ from rfl] at hsk
    have hD9:Below w9.heap.size w9 w9.drew:=(Below.refl _ _).drew
    have HF:Hid (∀ u,Later w9.drew u→Box u xb (sC V (dT jQ n5 jR Z.en Z.at_)) 69∧Calls prog 48 #[.pointer (some ⟨sb,0,none⟩)] u (bM u (.int .i64 (Z.at_:Nat)))∧Calls prog 49 #[.pointer (some ⟨sb,0,none⟩)] u (bM u (.bool (qc D W2 Z.en Z.at_)))∧Calls prog 51 #[.pointer (some ⟨sb,0,none⟩)] u (bM u (.int .i64 (if qc D W2 Z.en Z.at_=true then 0 else n5 - Z.at_:Nat)))∧Calls prog 50 #[.agg (sC V (dT jQ n5 jR Z.en Z.at_))] u (bM u (.bool (qc D W2 Z.en Z.at_)))∧Calls prog 52 #[.agg (sC V (dT jQ n5 jR Z.en Z.at_))] u (bM u (.int .i64 (if qc D W2 Z.en Z.at_=true then 0 else n5 - Z.at_:Nat)))∧Below w9.heap.size w9 u):=ah fun u hu=>by
     have q1:Below w9.heap.size w9 u:=hD9.trans (hu.mono hD9.size)
     have q2:=HQ.out.kept hlt q1
     refine⟨q2.box,agh sb _ vb _ U D w2 u Z _ q2.st,hsk▸UC sb _ vb _ U D w2 u Z _ q2.st,?_,Jr V D W2 jQ n5 jR Z.en Z.at_ u (sD.out.1 u q2.low) sD.out.2.1 sD.out.2.2.1 sD.out.2.2.2 (q2.txt.slice jU) (by rw[Nc];exact q2.rel.le),Zj V D W2 jQ n5 jR Z.en Z.at_ u (sD.out.1 u q2.low) sD.out.2.1 sD.out.2.2.1 sD.out.2.2.2 (q2.txt.slice jU) (by rw[Nc];exact q2.rel.le) hml,q1⟩
     have:=ahb sb _ vb _ U D w2 u Z _ q2.st
     rw[hhe,←Nc] at this
     exact this
    clear hsk hhe hD9 Nc hml hQ
    generalize qc D W2 Z.en Z.at_=bs at *
    generalize (if bs=true then 0 else n5 - Z.at_:Nat)=hd at *
    have ebs:(bs != bs)=false:=by simp
    have eat:((Z.at_:Int) != (Z.at_:Int))=false:=by simp
    go_wp2_with fail
    refine aH (R:=Later) 19 (by kernel_rfl) ?_
    refine iZ 0 ?_ rfl (fun w1 hl=>?_) ?_
    rotate_left
    ·skip;go_simp;try with_reducible rfl
    simp only[eA,eB,Act.put,eD,eE,eF]
    refine CW 1 ?_ ?_ ?_ rfl (fun w1=>?_) (fun w1 hl=>?_) ?_
    rotate_left 4
    ·exact(HF.out w1 hl).2.1
    rotate_left
    ·go_simp
    simp only[eA,eB,eC,Act.put,eD,eE,eF]
    refine pl [2,3,4,5] ?_
    repeat
     refine gU ?_ rfl (fun w1 hl=>?_) ?_
     rotate_left
     ·have q0:=(HF.out w1 hl).1;have q2:w1.cell? ⟨xb,262,none⟩=some (.int .i64 Z.at_):=q0.dH 2;have ql:=q0.lt;go_simp;try with_reducible rfl
     simp only[eA,eB,eC,Act.put,eD,eE,eF]
    refine dI ?_
    refine iZ 6 ?_ rfl (fun w1 hl=>?_) ?_
    rotate_left
    ·skip;go_simp;try with_reducible rfl
    simp only[eA,eB,eC,Act.put,eD,eE,eF]
    refine CW 7 ?_ ?_ ?_ rfl (fun w1=>?_) (fun w1 hl=>?_) ?_
    rotate_left 4
    ·exact(HF.out w1 hl).2.2.1
    rotate_left
    ·go_simp
    simp only[eA,eB,eC,Act.put,eD,eE,eF]
    refine kR (t:=19) (i:=8) rfl (by kernel_rfl) (by kernel_rfl) (by kernel_rfl) (by kernel_rfl) (fun _ _ _ h=>h) (by rfl) (fun w1 hl=>fM 69 _ rfl _ rfl ((HF.out w1 hl).1) underlying69 rfl (cO V jQ n5 jR Z.en Z.at_)) ?_
    simp only[eA,eB,eC,Act.put,eD,eE,eF]
    refine CW 9 ?_ ?_ ?_ rfl (fun w1=>?_) (fun w1 hl=>?_) ?_
    rotate_left 4
    ·exact(HF.out w1 hl).2.2.2.2.1
    rotate_left
    ·go_simp
    simp only[eA,eB,eC,Act.put,eD,eE,eF]
    refine pl [10,11,12,13] ?_
    repeat
     refine gU ?_ rfl (fun w1 hl=>?_) ?_
     rotate_left
     ·skip;go_simp;try with_reducible rfl
     simp only[eA,eB,eC,Act.put,eD,eE,eF]
    refine dI ?_
    refine CW 14 ?_ ?_ ?_ rfl (fun w1=>?_) (fun w1 hl=>?_) ?_
    rotate_left 4
    ·exact(HF.out w1 hl).2.2.2.1
    rotate_left
    ·go_simp
    simp only[eA,eB,eC,Act.put,eD,eE,eF]
    refine kR (t:=19) (i:=15) rfl (by kernel_rfl) (by kernel_rfl) (by kernel_rfl) (by kernel_rfl) (fun _ _ _ h=>h) (by rfl) (fun w1 hl=>fM 69 _ rfl _ rfl ((HF.out w1 hl).1) underlying69 rfl (cO V jQ n5 jR Z.en Z.at_)) ?_
    simp only[eA,eB,eC,Act.put,eD,eE,eF]
    refine CW 16 ?_ ?_ ?_ rfl (fun w1=>?_) (fun w1 hl=>?_) ?_
    rotate_left 4
    ·exact(HF.out w1 hl).2.2.2.2.2.1
    rotate_left
    ·go_simp
    simp only[eA,eB,eC,Act.put,eD,eE,eF]
    refine pl [17,18] ?_
    repeat
     refine gU ?_ rfl (fun w1 hl=>?_) ?_
     rotate_left
     ·skip;go_simp;try with_reducible rfl
     simp only[eA,eB,eC,Act.put,eD,eE,eF]
    refine dI ?_
    refine aQ (by kernel_rfl) (fun w1 hl=>?_) _
    have hq9:=(HF.out w1 hl).2.2.2.2.2.2
    clear HF hl
    go_wp2
    exact⟨⟨k+1,Z,_,jQ,n5,jR,W2,by push_cast;rfl,by omega,hWN,HQ.out.kept hlt hq9⟩,by simp[intOf] <;> omega⟩
  ·obtain rfl:k=n+1:=by omega
   have hki:¬ ((n+1:Nat):Int)≤(n:Int):=by omega
   have PD:=ah hQ.low
   clear hQ Xq
   go_wp2_with (go_at_call 42;go_must (refine(HK.out _ PD.out).mono ?_;rintro e wk ⟨rfl,hbk⟩;have TL:=PD.out.trans (hbk.mono PD.out.size)))
   go_ret
   exact⟨rfl,TL⟩
theorem NI(V:au)(D:ay)(w:World)(a:Option Addr)(n c:Nat)(z:Nat)(L:List (List UInt8))(h:dN w V D)(hof:∀ b,V.of b<256)(hl:∀ x∈D.names,x.length≤9223372036854775807)(hL:sG w a n c L)(hq:∀ x∈L,x.length≤140737488351232)(hz:z<256)(hT:Tab w)(hM:xK w) :
  Calls prog 10 #[.agg V.cells,.slice a n c,.int .u8 (z:Nat)] w (bM w (.bool true)):=by
 cases hr:dS D with
 | false=>exact ae6 V D w _ _ h hl hr hT hM
 | true =>
  by_cases hbig:40<V.ln∨15<n∨60<total L
  ·exact Zp V D w a n c _ L h hof hl hr hL hq hT hM hbig
  ·exact Zq V D w a n c z L h hof hl hr hL hq hz hT hM (by omega) (by omega) (by omega)
theorem Ik{W:World}(h:laidMetH prog Rows.streamFeedsRow.laid W):Tab W:=Ry (Lib.tabIs_of_head (zs:=Lib.deBruijn64tab.map fun(x:Nat)=>(x:Int)) (rest:=[]) gTab ade underlying358 underlying5 (by kernel_rfl) (by kernel_rfl) h)
set_option maxRecDepth 100000 in
theorem EF(H:Type)(enc:TypeId×Value→H)(W:World)(base:Nat)(args:Array Value)(ds gs:List (DataW H))(before:List MemPlace)
  (hval0:∀ (j:Nat) t v,f10.params[j]?=some t→args[j]?=some v→Value.okWide prog W .any base t v)
  (hW:DataW.Whole enc prog f10.params.toList Rows.streamFeedsSpec.vars false W args.toList ds gs before) (hwt:(DataW.weightsEach prog (f10.params.toList++(OpenSpec.ofChange Rows.streamFeedsSpec).bare.plain.varTypes prog) (ds++gs)).all (·≤reachBytes)=true) (hsh:W.ShapedOpen prog) (hL:laidMetH prog Rows.streamFeedsRow.laid W) :
  Calls prog 10 args W fun e W'=>∃ v,e=.returned v∧Rows.streamFeedsSpec.post enc prog f10 false true false false W args v W':=by
 have hval:∀ (j:Nat) t v,f10.params[j]?=some t→args[j]?=some v→Value.okWide prog W .any base t v:=hval0
 have hW':=hW
 have hT:=Ik hL
 have hM:xK W:=Go.Proofs.cell_of_shapedOpen_int (zero:=#[.int .i64 0]) (t:=3) hsh (of_decide_eq_true (by kernel_rfl)) (by kernel_rfl) rfl (by kernel_rfl) (by kernel_rfl) underlying3
 obtain⟨p,q,hA0,hV,rfl,hfz,hnd⟩:=hW
 have hA:DataW.TrodAll enc prog W 0 (fun _=>true) true f10.params.toList args.toList ds p:=hA0
 rw[params10] at hA hval
 obtain⟨v0,vs0,d0,ds0,p0,q0,hargs,rfl,rfl,h00,r0⟩:=trodAll_cons hA
 obtain⟨v1,vs1,d1,ds1,p1,q1,rfl,rfl,rfl,h01,r1⟩:=trodAll_cons r0
 obtain⟨v2,vs2,d2,ds2,p2,q2,rfl,rfl,rfl,h02,r2⟩:=trodAll_cons r1
 obtain⟨rfl,rfl,rfl⟩:=trodAll_nil r2
 obtain rfl:args=#[v0,v1,v2]:=by cases args;simp_all
 obtain⟨rfl,rfl⟩:=trodVars_none hV
 have k00:=h00
 have lt0:∀ x∈p0,x.block<W.heap.size:=by obtain⟨m,hm⟩:=k00;exact DataW.trod_lt m _ _ _ hm
 have k01:=h01
 have lt1:∀ x∈p1,x.block<W.heap.size:=by obtain⟨m,hm⟩:=k01;exact DataW.trod_lt m _ _ _ hm
 have k02:=h02
 have lt2:∀ x∈p2,x.block<W.heap.size:=by obtain⟨m,hm⟩:=k02;exact DataW.trod_lt m _ _ _ hm
 have akO:(DataW.weightsEach prog [27,57,5] [d0,d1,d2]).all (·≤reachBytes)=true:=hwt
 simp only[DataW.weightsEach,List.all_append,Bool.and_eq_true,List.all_nil,and_true,List.append_nil] at akO
 obtain⟨hw0,hw1,hw2⟩:=akO
 obtain⟨Vd,d,rfl,Rd,ofd,nmd,wdd,lbd,nxd⟩:∃ (V:au) (D:ay),v0=.agg V.cells∧dN W V D∧(∀ b,V.of b<256)∧(∀ x∈D.names,x.length≤9223372036854775807)∧(Lit.int .i64 D.width).wf=true∧(∀ x∈D.label,(Lit.int .i64 x).wf=true)∧∀ r∈D.next,∀ x∈r,(Lit.int .i64 x).wf=true:=by
  obtain⟨q,z9⟩:=h00
  obtain⟨cs,hcs,_⟩:=okWide_struct underlying27 (hval 0 27 v0 rfl rfl)
  subst hcs
  obtain⟨fs,N⟩:=aib
  obtain⟨V,D,h2,h3⟩:=adS N z9
  exact⟨V,D,by rw[show cs=V.cells from Array.ext' h2],h3⟩
 obtain⟨a_l,len1,agi,rfl⟩:=okWide_slice underlying57 (hval 1 57 v1 rfl rfl)
 obtain⟨l,hl,hql⟩:∃ L:List (List UInt8),sG W a_l len1 agi L∧∀ x∈L,x.length≤140737488351232:=by
  obtain⟨q,z9⟩:=k01
  exact VK underlying57 underlying35 underlying5 (by kernel_rfl) (by kernel_rfl) (by kernel_rfl) z9 hw1
 obtain⟨z,rfl,hz⟩:∃ n:Nat,v2=.int .u8 n∧n<256:=by
  obtain⟨q,z9⟩:=h02
  obtain⟨z0,rfl⟩:=okWide_int underlying5 (hval 2 5 v2 rfl rfl)
  obtain⟨z,hz1,_,hz2⟩:=DataW.trod_int underlying5 z9
  simp[Value.cells] at hz1
  subst hz1
  obtain⟨n,rfl,hn⟩:=wf_u8 hz2
  exact⟨n,rfl,hn⟩
 clear hA0 hval0
 refine(NI Vd d W a_l len1 agi z l Rd ofd nmd hl hql hz hT hM).mono fun e W' ⟨he,bel⟩=>?_
 subst he
 exact⟨_,rfl,_,_,_,[],_,[],hW',trodAll_mk1 (shut_bool underlying4 _),(trodAll_cons_mk (Below.trod laidOut (by kernel_rfl) (of_decide_eq_true (by kernel_rfl)) k00 bel lt0) (trodAll_cons_mk (Below.trod laidOut (by kernel_rfl) (of_decide_eq_true (by kernel_rfl)) k01 bel lt1) (trodAll_cons_mk (Below.trod laidOut (by kernel_rfl) (of_decide_eq_true (by kernel_rfl)) k02 bel lt2) trodAll_mk0))),rfl,bel.frame _,fun h=>by cases h⟩
theorem EG(os:Os):laidMet prog Rows.streamFeedsRow.laid ((laidWorld os).forCall (fun _ _=>0) ⟨#[],#[Yv,.slice none 0 0,.int .u8 0],[]⟩).memory :=
 laidMet_of_run' 8 (by kernel_rfl) (by kernel_rfl)
theorem Il(os:Os){H:Type}(enc:TypeId×Value→H):∃ places,DataW.whole enc prog ((laidWorld os).forCall (fun _ _=>0) ⟨#[],#[Yv,.slice none 0 0,.int .u8 0],[]⟩).memory f10.params.toList Rows.streamFeedsSpec.vars false (#[Yv,.slice none 0 0,.int .u8 0]:Array Value).toList 8=some ([.agg [.agg (List.replicate 256 (.lit (.int .u8 0))),.lit (.int .i64 0),.nil,.nil,.nil],.nil,.lit (.int .u8 0)],[],places) :=
 ⟨[],by kernel_rfl⟩
set_option maxRecDepth 100000 in
theorem He(os:Os)(started:os.Started)(H:Type)(enc:TypeId×Value→H)(F:Stop.Interp) :
  ReturnsInHanded {} checked os 10 .any ((OpenSpec.ofChange Rows.streamFeedsSpec).preRow enc prog f10 Rows.streamFeedsRow.domain false Rows.streamFeedsRow.laid) (((OpenSpec.ofChange Rows.streamFeedsSpec).at F).post enc prog f10 false true false false):=by
 obtain⟨places,hx⟩:=Il os enc
 refine returnsInHanded_of_row (C:=checked) (s:=OpenSpec.ofChange Rows.streamFeedsSpec) own started (by kernel_rfl) func10
  (witness_row_at (enc:=enc) (C:=checked) false (laidWorld os) #[Yv,.slice none 0 0,.int .u8 0] rfl (by kernel_rfl) (by kernel_rfl) (by kernel_rfl)
   (OpenSpec.preRow_of_cond 8 hx (by kernel_rfl) (fun k hk=>by cases hk) (by kernel_rfl) (EG os))) ?_
 intro W base args ds gs before hval hW _ _ hwt hL hsh _
 exact EF H enc W base args ds gs before hval hW hwt hsh hL
theorem Ov:Tryz.pinned.checked.prog.inPlace 10=Rows.streamFeedsRow.inPlace:=by kernel_rfl
theorem Ox:Tryz.pinned.checked.prog.unfollowed 10=Rows.streamFeedsRow.unfollowed:=by kernel_rfl
theorem Oy:Tryz.pinned.checked.prog.recurses 10=Rows.streamFeedsRow.recurses:=by kernel_rfl
theorem Oz:Tryz.pinned.checked.prog.varsNamed 10=Rows.streamFeedsRow.named:=by kernel_rfl
theorem OA:Tryz.pinned.checked.prog.plainKeys=Rows.streamFeedsRow.plainKeys:=by kernel_rfl
theorem OB:Tryz.pinned.checked.prog.liftsFinal=Rows.streamFeedsRow.lifted:=by kernel_rfl
theorem OC:joinedFacts Tryz.pinned.checked.prog 10 f10 ((OpenSpec.ofChange Rows.streamFeedsSpec).bare) Rows.streamFeedsRow=true:=by
 unfold joinedFacts
 rw[Ov,Ox,Oy,Oz,OA,OB,akW,ahE,ahF,ahG]
 kernel_rfl
theorem OD:Func.isWrapper Tryz.pinned.checked.prog f10 Rows.streamFeedsRow.wrapper Rows.streamFeedsRow.mainSum:=by unfold Func.isWrapper;first | (rw[if_pos (by decide +kernel)];kernel_rfl) | (rw[if_neg (by decide +kernel)];exact⟨rfl,rfl⟩)
theorem KC:Rows.StreamFeedsSaid :=
 OpenClaim.holds_of_cond 10 f10 rfl rfl rfl rfl rfl rfl rfl ⟨rfl,rfl,rfl,rfl,rfl⟩ rfl rfl rfl rfl rfl (by kernel_rfl) func10 OC
  (of_decide_eq_true (by kernel_rfl)) OD
  (fun os started H enc _ F=>by rw[OpenClaim.pre_eq_preRow];exact He os started H enc F)
theorem KD:false=Rows.streamFeedsRow.goesBy Tryz.pinned.checked.prog:=by kernel_rfl
theorem Io:true=Tryz.pinned.checked.prog.looks []:=by kernel_rfl
theorem Ip (f:FuncId) (fn:Func) (hf:Tryz.pinned.checked.prog.funcNamed "doublet/doubletlaw34.StreamFeeds"=some f) (hfn:Tryz.pinned.checked.prog.funcs[f]?=some fn) :
  true=Tryz.pinned.checked.prog.looks []∧∀ (j:Nat) t,fn.params[j]?=some t→Tryz.pinned.checked.prog.wantsStandIn t=false:=by
 obtain rfl:f=10:=Option.some.inj ((show prog.funcNamed "doublet/doubletlaw34.StreamFeeds"=some 10 by kernel_rfl).symm.trans hf) |>.symm
 obtain rfl:fn=f10:=(Option.some.inj (func10.symm.trans hfn)).symm
 refine⟨Io,fun j t ht=>?_⟩
 rw[params10] at ht
 have hm:=Array.mem_of_getElem? ht
 simp only[List.mem_toArray,List.mem_cons,List.not_mem_nil,or_false] at hm
 rcases hm with rfl | rfl | rfl
 ·exact(show prog.wantsStandIn 27=false by kernel_rfl)
 ·exact(show prog.wantsStandIn 57=false by kernel_rfl)
 ·exact(show prog.wantsStandIn 5=false by kernel_rfl)
theorem StreamFeeds_holds:Rows.StreamFeedsCardSaid :=
 Claim7.holds_tied_plain_at .later [] _ _ _ _ KC (fun _ h=>by cases h) (by kernel_rfl) (fun _ h=>by cases h) streamFeeds_row_tie rfl ⟨rfl,rfl⟩ (by kernel_rfl) rfl Ip KD
#print axioms StreamFeeds_holds
end Go.Proofs.YtbemonecmmnlcaaGreatDoor
