/- The texts of E14, in few letters (mini.py). -/
import Derived.Test.YtengfapcaaacaaaGreatDoorF13
set_option linter.unusedVariables false
set_option linter.unusedSimpArgs false
set_option maxRecDepth 20000
set_option maxHeartbeats 3200000
namespace Go.Proofs.YtengfapcaaacaaaGreatDoor
section
open Go.RowKit
theorem xI(k:Int)(ps:Nat)(V:Vt)(w:World)(h:Box w ps V.cells.toArray 115) :
  Calls Tryz.prog 282 #[.int .i64 k,.pointer (some ⟨ps,0,none⟩)] w (fun e w'=>∃ V',e=.returned (.agg V'.cells.toArray)∧Hid (V'=Vt.mk k 0 (some ⟨w.heap.size+1,0,none⟩) 1 [V] 0 0)∧au w' (.slice (some ⟨w.heap.size+1,0,none⟩) 1 1) 8 Vt.cells [V]∧Below w.heap.size w w') :=
 (Yg k ps V w h).mono fun _ _ ⟨h1,h2,h3⟩=>⟨.mk k 0 (some ⟨w.heap.size+1,0,none⟩) 1 [V] 0 0,h1,ah rfl,h2,h3⟩
theorem adI(r base m:Nat)(v ov:Value)(L:List Lx)(O:List Int)(V:Vt)(w:World)(h:dS w r base v L ov O)(hT:fG w r ov m V)(hr:r<base)(hb:base≤w.heap.size)(hm:m≤w.heap.size) :
  Calls Tryz.prog 256 #[.pointer (some ⟨r,0,none⟩),.agg V.cells.toArray] w (Qo r base m ov O w (dU L V.tr)):=by
 have hB0:Below w.heap.size w ((w.alloc (.cells V.cells.toArray 115)).alloc (.cells bJ 115)):=((Below.refl _ w).alloc (Nat.le_refl _) _).alloc (by simp) _
 have C9:PoI w r base m ov O (dU L V.tr) ((w.alloc (.cells V.cells.toArray 115)).alloc (.cells bJ 115)) :=
  ⟨L,V,⟨(Box.new _ _ _).alloc _,Box.new' (by simp) _ _,⟨v,h.kept hB0⟩,hT.eG hB0,hT.lies.on.mono fun b hb=>⟨by omega,by omega⟩,aS.below (by omega) hB0,⟨hr,hb,hm⟩,fun g hg=>(h.ov g hg).2⟩,rfl⟩
 obtain⟨ANS,hA⟩:∃ ANS,dU L V.tr=ANS:=⟨_,rfl⟩
 rw[hA] at C9 ⊢
 clear hA hB0 h hT
 obtain⟨k1,s1,a1,AY,yS,lo1,hi1⟩:=V
 have HQ:=ah C9
 clear C9
 go_enter Tryz.func256,Tryz.ntmps256
 go_wp2
 go_loopw [] (fun wr=>PoI w r base m ov O ANS wr) (fun wr=>Qn r wr)
 case atStart=>exact HQ.out
 case round =>
  clear HQ
  obtain⟨L,V,hS,hans⟩:=hrel
  obtain⟨v1,hP⟩:=hS.ps
  have hsz:=hS.z.lt
  have hm0:=zS hP
  have hpk:=GR r base v1 ov L O wr hP
  by_cases hstop:ji L=5∨ji L=6∨ji L=7∨ji L=8
  ·obtain⟨q,L,rfl⟩:∃ q L',L=q::L':=by
    cases L with
    | nil=>simp[ji] at hstop
    | cons q L=>exact⟨q,L,rfl⟩
   have hok:=hP.ok q (by simp)
   have hml:Qn r wr=L.length+1:=by rw[hm0];rfl
   obtain⟨qk,qa,qs,ql,qh⟩:=q
   have hq:ji (⟨qk,qa,qs,ql,qh⟩::L)=qk:=rfl
   rw[hq] at hstop hpk
   rcases hstop with rfl | rfl | rfl | rfl
   ·have gV:dU L (.mk 6 0 [V.tr] 0 0)=ANS:=by rw[←hans,qm];rfl
    have HP:=ah hpk
    have HS:=ah hS
    clear hpk hS hans hP hm0 hok hq
    go_wp2_with (first | (go_at_call 233;go_must (refine HP.out.mono ?_;rintro e w1 ⟨rfl,hb1⟩;have hS1:=HS.out.below hb1;have hx1:=hS1.x;have hsz1:=hS1.z.lt)) | (go_at_call 282;go_must (refine(xI 6 w.heap.size V w1 hx1).mono ?_;rintro e w2 ⟨V2,rfl,hV2,hs2,hb2⟩;have hS3:lN w r base m ov O (⟨5,qa,qs,ql,qh⟩::L) V2 (w2.setRow w.heap.size V2.cells.toArray):=hV2.out.symm▸hS1.over hb2 6 (by decide) hs2;have hx2:=hx1.kept hb2;obtain⟨v3,hP3⟩:=hS3.ps;have hsz3:=hS3.z.lt)) | (refine wpList_store_row rfl 115 (.tmp 3) (.tmp _) rfl w.heap.size _ rfl rfl _ _ hx2 (bP V2) (by rw[List.size_toArray,List.size_toArray,Vt.bK,Vt.bK]) V2.all ?_) | (go_at_call 234;go_must (refine(uP r base _ ov _ L O _ hP3 hr (by omega)).mono ?_;rintro e w4 ⟨rfl,⟨v4,sZ⟩,hk4⟩)))
    have hS4:=hS3.next hk4 sZ
    have hm4:=zS sZ
    clear hS3 hP3 hx2 hx1 hS1 HS HP
    go_wp2
    go_roundw
    case rel=>exact⟨L,V2,hS4,by rw[hV2.out,GU];exact gV⟩
    case measure=>rw[hm4,hml];omega
   ·have gV:dU L (.mk 7 0 [V.tr] 0 0)=ANS:=by rw[←hans,qm];rfl
    have HP:=ah hpk
    have HS:=ah hS
    clear hpk hS hans hP hm0 hok hq
    go_wp2_with (first | (go_at_call 233;go_must (refine HP.out.mono ?_;rintro e w1 ⟨rfl,hb1⟩;have hS1:=HS.out.below hb1;have hx1:=hS1.x;have hsz1:=hS1.z.lt)) | (go_at_call 282;go_must (refine(xI 7 w.heap.size V w1 hx1).mono ?_;rintro e w2 ⟨V2,rfl,hV2,hs2,hb2⟩;have hS3:lN w r base m ov O (⟨6,qa,qs,ql,qh⟩::L) V2 (w2.setRow w.heap.size V2.cells.toArray):=hV2.out.symm▸hS1.over hb2 7 (by decide) hs2;have hx2:=hx1.kept hb2;obtain⟨v3,hP3⟩:=hS3.ps;have hsz3:=hS3.z.lt)) | (refine wpList_store_row rfl 115 (.tmp 3) (.tmp _) rfl w.heap.size _ rfl rfl _ _ hx2 (bP V2) (by rw[List.size_toArray,List.size_toArray,Vt.bK,Vt.bK]) V2.all ?_) | (go_at_call 234;go_must (refine(uP r base _ ov _ L O _ hP3 hr (by omega)).mono ?_;rintro e w4 ⟨rfl,⟨v4,sZ⟩,hk4⟩)))
    have hS4:=hS3.next hk4 sZ
    have hm4:=zS sZ
    clear hS3 hP3 hx2 hx1 hS1 HS HP
    go_wp2
    go_roundw
    case rel=>exact⟨L,V2,hS4,by rw[hV2.out,GU];exact gV⟩
    case measure=>rw[hm4,hml];omega
   ·have gV:dU L (.mk 8 0 [V.tr] 0 0)=ANS:=by rw[←hans,qm];rfl
    have HP:=ah hpk
    have HS:=ah hS
    clear hpk hS hans hP hm0 hok hq
    go_wp2_with (first | (go_at_call 233;go_must (refine HP.out.mono ?_;rintro e w1 ⟨rfl,hb1⟩;have hS1:=HS.out.below hb1;have hx1:=hS1.x;have hsz1:=hS1.z.lt)) | (go_at_call 282;go_must (refine(xI 8 w.heap.size V w1 hx1).mono ?_;rintro e w2 ⟨V2,rfl,hV2,hs2,hb2⟩;have hS3:lN w r base m ov O (⟨7,qa,qs,ql,qh⟩::L) V2 (w2.setRow w.heap.size V2.cells.toArray):=hV2.out.symm▸hS1.over hb2 8 (by decide) hs2;have hx2:=hx1.kept hb2;obtain⟨v3,hP3⟩:=hS3.ps;have hsz3:=hS3.z.lt)) | (refine wpList_store_row rfl 115 (.tmp 3) (.tmp _) rfl w.heap.size _ rfl rfl _ _ hx2 (bP V2) (by rw[List.size_toArray,List.size_toArray,Vt.bK,Vt.bK]) V2.all ?_) | (go_at_call 234;go_must (refine(uP r base _ ov _ L O _ hP3 hr (by omega)).mono ?_;rintro e w4 ⟨rfl,⟨v4,sZ⟩,hk4⟩)))
    have hS4:=hS3.next hk4 sZ
    have hm4:=zS sZ
    clear hS3 hP3 hx2 hx1 hS1 HS HP
    go_wp2
    go_roundw
    case rel=>exact⟨L,V2,hS4,by rw[hV2.out,GU];exact gV⟩
    case measure=>rw[hm4,hml];omega
   ·have gV:dU L (.mk 9 0 [V.tr] ql qh)=ANS:=by rw[←hans,qm];rfl
    have hlo:I64 ql∧I64 qh:=by
     rcases hok with h | h | h
     ·exact absurd (show(8:Nat)=1 from h.1) (by decide)
     ·have:=h.2.1;simp at this
     ·obtain⟨_,_,h1,h2,h3⟩:=h
      simp only at h1 h2 h3
      exact⟨⟨by omega,by omega⟩,by rcases h3 with h3 | h3 <;> exact⟨by omega,by omega⟩⟩
    have HP:=ah hpk
    have HS:=ah hS
    clear hpk hS hans hP hm0 hok hq
    go_wp2_with (first | (go_at_call 233;go_must (refine HP.out.mono ?_;rintro e wp ⟨rfl,hb1⟩;have hS1:=HS.out.below hb1;have hx1:=hS1.x;have hsz1:=hS1.z.lt)) | (go_at_call 282;go_must (refine(xI 9 w.heap.size V wp hx1).mono ?_;rintro e w2 ⟨V2,rfl,hV2,hs2,hb2⟩;have hS3:lN w r base m ov O (⟨8,qa,qs,ql,qh⟩::L) V2 (w2.setRow w.heap.size V2.cells.toArray):=hV2.out.symm▸hS1.over hb2 9 (by decide) hs2;have hx2:=hx1.kept hb2;have hsz3:=hS3.z.lt)) | (refine wpList_store_row rfl 115 (.tmp 3) (.tmp _) rfl w.heap.size _ rfl rfl _ _ hx2 (bP V2) (by rw[List.size_toArray,List.size_toArray,Vt.bK,Vt.bK]) V2.all ?_))
    obtain⟨v3,hP3⟩:=hS3.ps
    obtain⟨x0,x1⟩:=hP3.cells
    obtain⟨b,o,cap,n,rfl,hn,hbl,hbne,hy⟩:=hP3.head
    have HF:Hid (∀ u,DY w.heap.size 6 (.int .i64 ql) (w2.setRow w.heap.size V2.cells.toArray).drew u→u.cell? ⟨r,0,none⟩=some (.slice (some ⟨b,o,none⟩) n cap)∧(∀ j x,(gX ⟨8,qa,qs,ql,qh⟩)[j]?=some x→u.cell? ⟨b,o+j,none⟩=some x)∧b<u.heap.size∧r<u.heap.size):=ah fun u hl=>by
     have e1:=hl.only.size
     refine⟨?_,fun j x hx=>?_,Nat.lt_of_lt_of_le hbl e1,Nat.lt_of_lt_of_le hP3.box.lt e1⟩
     ·rw[World.cell?_of_block (hl.only.block r hP3.box.lt (by omega))];exact x0
     ·rw[World.cell?_of_block (a:=⟨b,o+j,none⟩) (hl.only.block b hbl (by omega))];exact hy j x hx
    have hx3:Box (w2.setRow w.heap.size V2.cells.toArray).drew w.heap.size V2.cells.toArray 115:=hS3.x
    have HX:=ah hx3
    clear x0 x1 hx3 hx2 hx1 HS HP hS1 hy
    have H3:=ah hS3
    have hn0:0<n:=by omega
    clear hS3 hP3
    refine aO (R:=DY w.heap.size 6 (.int .i64 ql)) 17 (by kernel_rfl) ?_
    refine pl [0,1,2,3,4,5,6,7,8,9,10,11,12,13,14] ?_
    repeat
     refine dR ?_ rfl (fun w1 hl=>?_) ?_
     rotate_left
     ·obtain⟨x0,y,hbl,hrl⟩:=HF.out w1 hl;have y3:=y 3 _ rfl;have y4:=y 4 _ rfl;have y5:=y 5 _ rfl;have y6:=y 6 _ rfl;have y7:=y 7 _ rfl;go_simp;try with_reducible rfl
     simp only[eA,eB,eC,Act.put,eD,eE,eF]
    refine bV ?_
    refine bg (t:=17) (i:=15) (by kernel_rfl) rfl (fun w1 hl K hK=>?_)
    obtain⟨c5,hx5,e5,t5,_⟩:=hl.turn _ _ HX.out
    have k5:c5[6]?≠none:=by rw[Ne,Array.getElem?_eq_none_iff,e5,List.size_toArray,Vt.bK];omega
    obtain⟨z5,hz5⟩:=Option.ne_none_iff_exists'.1 k5
    have y6:=(hx5.cell 6).trans hz5
    have f6:=hx5.free 6
    have uS:DY w.heap.size 6 (.int .i64 ql) w1 _:=DY.set w1
    have hl5:=(RV _ _ _).trans _ _ _ hl uS
    have hx6:=hx5.set 6 (.int .i64 ql)
    go_simp
    refine hK.out _ _ (fun _=>uS) ?_
    clear hK K y6 f6 uS hl hx5
    refine jF 16 ?_ rfl (fun w1 hl=>?_) ?_
    rotate_left
    ·skip;go_simp;try with_reducible rfl
    simp only[eA,eB,eC,Act.put,eD,eE,eF]
    refine bg (t:=17) (i:=17) (by kernel_rfl) rfl (fun w1 hl K hK=>?_)
    obtain⟨c7,hx7,e7,t7,u7⟩:=hl.turn _ _ hx6
    have RX:=(RV _ _ _).trans _ _ _ hl5 hl
    have k7:c7[7]?≠none:=by rw[Ne,Array.getElem?_eq_none_iff,e7,Array.size_setIfInBounds,e5,List.size_toArray,Vt.bK];omega
    obtain⟨z7,hz7⟩:=Option.ne_none_iff_exists'.1 k7
    have y7:=(hx7.cell 7).trans hz7
    have f7:=hx7.free 7
    have gJ:=(kK _).trans _ _ _ RX.only (fH.set w1 7 (.int .i64 qh))
    have KR:=hx7.set 7 (.int .i64 qh)
    go_simp
    refine hK.out _ _ (fun h=>absurd rfl h) ?_
    clear hK K y7 f7 hx7 RX hl hl5
    refine aV (by kernel_rfl) (fun w1 hl=>?_) _
    obtain⟨c9,OI,e9,t9,u9⟩:=hl.turn _ _ KR
    have yT:=(kK _).trans _ _ _ gJ hl.only
    have hc9:c9=(aI 9 0 (some ⟨wp.heap.size+1,0,none⟩) 1 1 ql qh).toArray:=by
     refine adD (lo0:=0) (hi0:=0) (fun j h6 h7=>?_) (u9 ?_) ?_
     ·rw[t9 j h6,Array.getElem?_setIfInBounds,if_neg (Ne.symm h7),t7 j h6,Array.getElem?_setIfInBounds,if_neg (Ne.symm h6),t5 j h6,hV2.out,List.getElem?_toArray];rfl
     ·rw[Array.getElem?_setIfInBounds,if_neg (by decide)]
      refine u7 ?_
      rw[Array.getElem?_setIfInBounds,if_pos rfl,if_pos]
      rw[e5,List.size_toArray,Vt.bK];omega
     ·rw[t9 7 (by decide),Array.getElem?_setIfInBounds,if_pos rfl,if_pos]
      rw[e7,Array.size_setIfInBounds,e5,List.size_toArray,Vt.bK];omega
    subst hc9
    have hSV:lN w r base m ov O (⟨8,qa,qs,ql,qh⟩::L) (.mk 9 0 (some ⟨wp.heap.size+1,0,none⟩) 1 [V] 0 0) (w2.setRow w.heap.size V2.cells.toArray):=(congrArg (fun X=>lN w r base m ov O (⟨8,qa,qs,ql,qh⟩::L) X (w2.setRow w.heap.size V2.cells.toArray)) hV2.out).mp H3.out
    have Bh:=hSV.nums ((kK _).trans _ _ _ ((kK _).later _ _ (Below.refl _ _).drew) yT) ql qh hlo.1 hlo.2 OI
    obtain⟨v9,KT⟩:=Bh.ps
    have asB:=Bh.z.lt
    clear t5 t7 t9 u7 u9 e5 e7 e9 gJ yT hl KR hx6 HF HX H3 hSV OI
    go_wp2_with (go_at_call 234;go_must (refine(uP r base _ ov _ L O _ KT hr (by omega)).mono ?_;rintro e w4 ⟨rfl,⟨v4,sZ⟩,hk4⟩))
    have hS4:=Bh.next hk4 sZ
    have hm4:=zS sZ
    clear Bh KT
    go_wp2
    go_roundw
    case rel=>exact⟨L,_,hS4,by rw[GU];exact gV⟩
    case measure=>rw[hm4,hml];omega
  ·have gV:=Vh V.tr hstop
   rw[hans] at gV
   have n5:((ji L:Int)==5)=false:=by rw[beq_eq_false_iff_ne];omega
   have n6:((ji L:Int)==6)=false:=by rw[beq_eq_false_iff_ne];omega
   have n7:((ji L:Int)==7)=false:=by rw[beq_eq_false_iff_ne];omega
   have n8:((ji L:Int)==8)=false:=by rw[beq_eq_false_iff_ne];omega
   have HP:=ah hpk
   have HS:=ah hS
   have HA:=ah gV
   clear hpk hS hans hP hm0 gV hstop
   generalize ji L=pk at *
   go_wp2_with (first | (go_at_call 233;go_must (refine HP.out.mono ?_;rintro e w1 ⟨rfl,hb1⟩;have hS1:=HS.out.below hb1;have hx1:=hS1.x;have hz1:=hS1.z;have hsz1:=hS1.z.lt)) | (refine wpList_load_row rfl 115 (.tmp 3) rfl w.heap.size rfl 115 _ (0,0) _ hx1 Tryz.underlying115 rfl (bP V) ?_) | (refine wpList_store_row rfl 115 (.tmp 4) (.tmp 9) rfl (w.heap.size+1) _ rfl rfl _ _ hz1 (bP V) (by show 8=V.cells.toArray.size;rw[List.size_toArray,Vt.bK]) V.all ?_))
   obtain⟨v5,g1,g2,g3⟩:=hS1.fin (oV w1 V.cells.toArray)
   exact eH Tryz.results256 rfl (cs:=V.cells.toArray) (hz1.setRow _) Tryz.underlying115 rfl (bP V) rfl (show Qo r base m ov O w ANS _ _ from⟨V,v5,rfl,by rw[HA.out],by rw[HA.out];exact g1,g2,g3⟩)
end
section
open Go.RowKit
theorem vI(b:Nat)(w:World)(v0 v1 v2 v3 v4 v5 v6 v7:Value):fH b w ((((((((w.setCell ⟨b,0,none⟩ v0).setCell ⟨b,1,none⟩ v1).setCell ⟨b,2,none⟩ v2).setCell ⟨b,3,none⟩ v3).setCell ⟨b,4,none⟩ v4).setCell ⟨b,5,none⟩ v5).setCell ⟨b,6,none⟩ v6).setCell ⟨b,7,none⟩ v7) :=
 have t:=fun{p q s:World}=>(kK b).trans p q s
 t (t (t (t (t (t (t (fH.set _ 0 v0) (fH.set _ 1 v1)) (fH.set _ 2 v2)) (fH.set _ 3 v3)) (fH.set _ 4 v4)) (fH.set _ 5 v5)) (fH.set _ 6 v6)) (fH.set _ 7 v7)
theorem agY(r base n:Nat)(IH:aaJ r base n):Yk r base (n+1):=by
 intro v ov L O ans w h hr hb hO hans
 have hB0:=aj w (.cells bJ 115)
 have h0:=h.kept hB0
 have hg0:=Box.new w bJ 115
 have hW0:(w.alloc (.cells bJ 115)).heap.size=w.heap.size+1:=by simp
 have hpk:=GR r base v ov L O _ h0
 have zT:=fun g hg=>(h.ov g hg).2
 obtain⟨ao,co,hao⟩:=h.open'.form
 subst hao
 have hK0:aS r (.slice ao O.length co) w (w.alloc (.cells bJ 115)):=aS.below (Nat.le_of_lt h.box.lt) hB0
 have HP:=ah hpk
 have HO:=ah zT
 have H0:=ah h0
 clear hpk h0 zT hB0
 cases L with
 | nil =>
  rw[uQ] at hans
  obtain rfl:=Option.some.inj hans
  go_enter Tryz.func255,Tryz.ntmps255
  go_wp2_with (go_at_call 233;go_must (refine HP.out.mono ?_;rintro e w1 ⟨rfl,hb1⟩;have h1:=H0.out.kept hb1;have hz1:=hg0.kept hb1;have hs1:=hb1.size;obtain⟨x0,x1⟩:=h1.cells;have z0:=hz1.cell 0;have z1:=hz1.cell 1;have z2:=hz1.cell 2;have z3:=hz1.cell 3;have z4:=hz1.cell 4;have z5:=hz1.cell 5;have z6:=hz1.cell 6;have z7:=hz1.cell 7;obtain⟨f0,f1,f2,f3,f4,f5,f6,f7⟩:=hz1.vC))
  have yx:=vI w.heap.size w1 (.int .i64 0) (.int .u64 0) (.int .u64 0) (.int .u64 0) (.int .u64 0) (.slice none 0 0) (.int .i64 0) (.int .i64 0)
  obtain⟨Et,hKF⟩:=h1.only hr (hK0.tr (aS.below (by omega) hb1)) hb yx (fun e=>by have:=HO.out _ e;omega)
  exact dN Tryz.results255 rfl rfl (cs:=bJ) (E:=115) ((((((((hz1.set 0 (.int .i64 0)).set 1 (.int .u64 0)).set 2 (.int .u64 0)).set 3 (.int .u64 0)).set 4 (.int .u64 0)).set 5 (.slice none 0 0)).set 6 (.int .i64 0)).set 7 (.int .i64 0)) Tryz.underlying115 rfl (by kernel_rfl) rfl (show Nv r base (.slice ao O.length co) O _ w (.inr none) _ _ from⟨rfl,⟨_,Et⟩,hKF⟩)
 | cons q L =>
  have hok:=h.ok q (by simp)
  obtain⟨qk,qa,qs,ql,qh⟩:=q
  have hkv:qk=1∨qk=2∨qk=3∨qk=4∨qk=5∨qk=6∨qk=7∨qk=8:=by
   rcases hok with h | h | h
   ·exact .inl h.1
   ·have h1:2≤qk:=h.1
    have h2:qk<8:=h.2.1
    omega
   ·have h1:qk=8:=h.1
    omega
  clear hok h
  rw[pF] at hans
  have e0:∀ k:Nat,ji (⟨k,qa,qs,ql,qh⟩::L)=k:=fun _=>rfl
  rcases hkv with rfl | rfl | rfl | rfl | rfl | rfl | rfl | rfl
  ·have gV:some (.inr (some (.mk 3 qs [] 0 0,L)))=some ans:=(if_pos rfl).symm.trans hans
   obtain rfl:=Option.some.inj gV
   have hnx:=fun u hu hs=>uP r base v (.slice ao O.length co) ⟨1,qa,qs,ql,qh⟩ L O u hu hr hs
   unfold gX at hnx
   have HN:=ah hnx
   have hfl:=Yi
   rw[e0] at HP
   clear hans gV hnx e0
   go_enter Tryz.func255,Tryz.ntmps255
   go_wp2_with (first | (go_at_call 233;go_must (refine HP.out.mono ?_;rintro e w1 ⟨rfl,hb1⟩;have h1:=H0.out.kept hb1;have hz1:=hg0.kept hb1;have hs1:=hb1.size)) | (go_at_call 234;go_must (refine(HN.out _ h1 (by omega)).mono ?_;rintro e w2 ⟨rfl,⟨v2,h2⟩,hk2⟩;have hs2:=hk2.low.size;have aog:=hk2.box hz1 (by omega) (fun e=>by have:=HO.out _ e;omega))) | (go_at_call 136;go_must (refine(Kz qs _).mono ?_;rintro e w3 ⟨V,rfl,hV,hl3,qx,hb3⟩;have hz2:=aog.kept hb3;have hs3:=hb3.size)) | (refine wpList_store_row rfl 115 (.tmp 2) (.tmp _) rfl w.heap.size _ rfl rfl _ _ hz2 (bP V) (by show 8=V.cells.toArray.size;rw[List.size_toArray,Vt.bK]) V.all ?_))
   have yx:=oV (b:=w.heap.size) w3 V.cells.toArray
   have hrl:=h2.box.lt
   have hk3:=(((aS.below (ov:=.slice ao O.length co) (by omega) hb1).tr hk2).tr (aS.below (by omega) hb3))
   obtain⟨Et,hKF⟩:=(h2.kept hb3).only hr (hK0.tr hk3) hb yx (fun e=>by have:=HO.out _ e;omega)
   have hTF:fG (w3.setRow w.heap.size V.cells.toArray) r (.slice ao O.length co) w.heap.size V:=⟨hl3.fK (qx.and hl3.on) fun b hb=>yx.block b hb.2 (by have:=hb.1;omega),qx.mono fun b hb=>⟨by omega,by omega,fun e=>by have:=HO.out _ e;omega⟩⟩
   exact dN Tryz.results255 rfl rfl (cs:=V.cells.toArray) (hz2.setRow _) Tryz.underlying115 rfl (bP V) rfl (show Nv r base (.slice ao O.length co) O _ w (.inr (some (.mk 3 qs [] 0 0,L))) _ _ from⟨V,v2,_,rfl,hV,Et,hTF,hKF,fC.refl _ _⟩)
  ·have gV:(pV n O.length ⟨2,qa,qs,ql,qh⟩ L).map (fun s=>s.map id some)=some ans:=(if_pos rfl).symm.trans ((if_neg (by decide:¬ (2:Nat)=1)).symm.trans hans)
   cases hA:pV n O.length ⟨2,qa,qs,ql,qh⟩ L with
   | none=>rw[hA] at gV;cases gV
   | some A =>
    rw[hA] at gV
    have hIH:=fun u hu hs=>IH v (.slice ao O.length co) ⟨2,qa,qs,ql,qh⟩ L O A u hu hr hs hO hA
    have HI:=ah hIH
    rw[e0] at HP
    clear hans hIH hA IH e0
    go_enter Tryz.func255,Tryz.ntmps255
    go_wp2_with (go_at_call 233;go_must (refine HP.out.mono ?_;rintro e w1 ⟨rfl,hb1⟩;have h1:=H0.out.kept hb1;have hz1:=hg0.kept hb1;have hs1:=hb1.size))
    refine(HI.out _ h1 (by omega)).mono ?_
    intro e w2 hres
    cases A with
    | inl p =>
     obtain⟨hl,hk2⟩:=hres
     obtain rfl:e=_:=hl
     obtain rfl:=Option.some.inj gV
     exact⟨rfl,rfl,hK0.tr ((aS.below (by omega) hb1).tr hk2)⟩
    | inr p =>
     obtain⟨x,R⟩:=p
     obtain⟨V,v2,FN,rfl,hV,h2,ht2,hk2,hf2⟩:=hres
     obtain rfl:=Option.some.inj gV
     have hk3:=hK0.tr ((aS.below (ov:=.slice ao O.length co) (by omega) hb1).tr hk2)
     have hz2:=hk2.box hz1 (by omega) (fun e=>by have:=HO.out _ e;omega)
     have hs2:=hk2.low.size
     go_wp2_with (refine wpList_store_row rfl 115 (.tmp 2) (.tmp _) rfl w.heap.size _ rfl rfl _ _ hz2 (bP V) (by show 8=V.cells.toArray.size;rw[List.size_toArray,Vt.bK]) V.all ?_)
     have yx:=oV (b:=w.heap.size) w2 V.cells.toArray
     have hrl:=h2.box.lt
     have aoh:FN.ownBlock≠some w.heap.size:=fun e=>by
      rcases hf2 _ e with h | h
      ·have:=HO.out _ h;omega
      ·omega
     have Et:=h2.frame hr (fun b hb=>yx.block b (by rcases hb with hb | hb;omega;exact(h2.ov b hb).2) (by rintro rfl;rcases hb with hb | hb;omega;exact aoh hb))
     have hKF:=yx.kept hk3 (Nat.le_refl _) (by omega) (by omega)
     have hTF:fG (w2.setRow w.heap.size V.cells.toArray) r FN w.heap.size V:=⟨ht2.lies.fK (ht2.on.and ht2.lies.on) fun b hb=>yx.block b hb.2 (by have:=hb.1.1;omega),(ht2.mono (by omega)).on⟩
     exact dN Tryz.results255 rfl rfl (cs:=V.cells.toArray) (hz2.setRow _) Tryz.underlying115 rfl (bP V) rfl (show Nv r base (.slice ao O.length co) O _ w (.inr (some (x,R))) _ _ from⟨V,v2,FN,rfl,hV,Et,hTF,hKF,(fC.refl _ _).trans (by omega) hf2⟩)
  ·have gV:(if 3=3∧O.length=0 then some (.inl (12,qa)) else some (.inr none))=some ans:=by
    rw[if_neg (by decide:¬ (3:Nat)=1),if_neg (by decide:¬ (3:Nat)=2),if_neg (by decide:¬ ((3:Nat)=5∨(3:Nat)=6∨(3:Nat)=7∨(3:Nat)=8))] at hans
    exact hans
   rw[e0] at HP
   clear hans e0
   by_cases hd:O.length=0
   ·rw[if_pos ⟨rfl,hd⟩] at gV
    obtain rfl:=Option.some.inj gV
    have d0:((O.length:Int)==0)=true:=by rw[hd];rfl
    clear hd
    go_enter Tryz.func255,Tryz.ntmps255
    go_wp2_with (first | (go_at_call 233;go_must (refine HP.out.mono ?_;rintro e w1 ⟨rfl,hb1⟩;have h1:=H0.out.kept hb1;have hz1:=hg0.kept hb1;have hs1:=hb1.size;obtain⟨x0,x1⟩:=h1.cells;obtain⟨b,o,cap,n,rfl,hn,hbl,hbne,hy⟩:=h1.head;have y1:=hy 1 _ rfl;have hrl:=h1.box.lt;have hn0:0<n:=by omega)) | (go_at_call 281;go_must (refine(pz 12 qa _).mono ?_;rintro e w2 ⟨hl,hb2⟩;obtain rfl:e=_:=hl)))
    exact⟨rfl,rfl,hK0.tr ((aS.below (by omega) hb1).tr (aS.below (by omega) hb2))⟩
   ·rw[if_neg (fun h=>hd h.2)] at gV
    obtain rfl:=Option.some.inj gV
    have d0:((O.length:Int)==0)=false:=by rw[beq_eq_false_iff_ne];omega
    clear hd
    go_enter Tryz.func255,Tryz.ntmps255
    go_wp2_with (go_at_call 233;go_must (refine HP.out.mono ?_;rintro e w1 ⟨rfl,hb1⟩;have h1:=H0.out.kept hb1;have hz1:=hg0.kept hb1;have hs1:=hb1.size;obtain⟨x0,x1⟩:=h1.cells;have z0:=hz1.cell 0;have z1:=hz1.cell 1;have z2:=hz1.cell 2;have z3:=hz1.cell 3;have z4:=hz1.cell 4;have z5:=hz1.cell 5;have z6:=hz1.cell 6;have z7:=hz1.cell 7;obtain⟨f0,f1,f2,f3,f4,f5,f6,f7⟩:=hz1.vC))
    have yx:=vI w.heap.size w1 (.int .i64 0) (.int .u64 0) (.int .u64 0) (.int .u64 0) (.int .u64 0) (.slice none 0 0) (.int .i64 0) (.int .i64 0)
    obtain⟨Et,hKF⟩:=h1.only hr (hK0.tr (aS.below (by omega) hb1)) hb yx (fun e=>by have:=HO.out _ e;omega)
    exact dN Tryz.results255 rfl rfl (cs:=bJ) (E:=115) ((((((((hz1.set 0 (.int .i64 0)).set 1 (.int .u64 0)).set 2 (.int .u64 0)).set 3 (.int .u64 0)).set 4 (.int .u64 0)).set 5 (.slice none 0 0)).set 6 (.int .i64 0)).set 7 (.int .i64 0)) Tryz.underlying115 rfl (by kernel_rfl) rfl (show Nv r base (.slice ao O.length co) O _ w (.inr none) _ _ from⟨rfl,⟨_,Et⟩,hKF⟩)
  ·rw[if_neg (by decide:¬ (4:Nat)=1),if_neg (by decide:¬ (4:Nat)=2),if_neg (by decide:¬ ((4:Nat)=5∨(4:Nat)=6∨(4:Nat)=7∨(4:Nat)=8)),if_neg (fun h=>absurd h.1 (by decide:¬ (4:Nat)=3))] at hans
   obtain rfl:=Option.some.inj hans
   rw[e0] at HP
   clear hans e0
   go_enter Tryz.func255,Tryz.ntmps255
   go_wp2_with (go_at_call 233;go_must (refine HP.out.mono ?_;rintro e w1 ⟨rfl,hb1⟩;have h1:=H0.out.kept hb1;have hz1:=hg0.kept hb1;have hs1:=hb1.size;obtain⟨x0,x1⟩:=h1.cells;have z0:=hz1.cell 0;have z1:=hz1.cell 1;have z2:=hz1.cell 2;have z3:=hz1.cell 3;have z4:=hz1.cell 4;have z5:=hz1.cell 5;have z6:=hz1.cell 6;have z7:=hz1.cell 7;obtain⟨f0,f1,f2,f3,f4,f5,f6,f7⟩:=hz1.vC))
   have yx:=vI w.heap.size w1 (.int .i64 0) (.int .u64 0) (.int .u64 0) (.int .u64 0) (.int .u64 0) (.slice none 0 0) (.int .i64 0) (.int .i64 0)
   obtain⟨Et,hKF⟩:=h1.only hr (hK0.tr (aS.below (by omega) hb1)) hb yx (fun e=>by have:=HO.out _ e;omega)
   exact dN Tryz.results255 rfl rfl (cs:=bJ) (E:=115) ((((((((hz1.set 0 (.int .i64 0)).set 1 (.int .u64 0)).set 2 (.int .u64 0)).set 3 (.int .u64 0)).set 4 (.int .u64 0)).set 5 (.slice none 0 0)).set 6 (.int .i64 0)).set 7 (.int .i64 0)) Tryz.underlying115 rfl (by kernel_rfl) rfl (show Nv r base (.slice ao O.length co) O _ w (.inr none) _ _ from⟨rfl,⟨_,Et⟩,hKF⟩)
  ·rw[if_neg (by decide:¬ (5:Nat)=1),if_neg (by decide:¬ (5:Nat)=2),if_pos (by decide:((5:Nat)=5∨(5:Nat)=6∨(5:Nat)=7∨(5:Nat)=8))] at hans
   obtain rfl:=Option.some.inj hans
   rw[e0] at HP
   clear hans e0
   go_enter Tryz.func255,Tryz.ntmps255
   go_wp2_with (first | (go_at_call 233;go_must (refine HP.out.mono ?_;rintro e w1 ⟨rfl,hb1⟩;have h1:=H0.out.kept hb1;have hz1:=hg0.kept hb1;have hs1:=hb1.size;obtain⟨x0,x1⟩:=h1.cells;obtain⟨b,o,cap,n,rfl,hn,hbl,hbne,hy⟩:=h1.head;have y1:=hy 1 _ rfl;have hrl:=h1.box.lt;have hn0:0<n:=by omega)) | (go_at_call 281;go_must (refine(pz 5 qa _).mono ?_;rintro e w2 ⟨hl,hb2⟩;obtain rfl:e=_:=hl)))
   exact⟨rfl,rfl,hK0.tr ((aS.below (by omega) hb1).tr (aS.below (by omega) hb2))⟩
  ·rw[if_neg (by decide:¬ (6:Nat)=1),if_neg (by decide:¬ (6:Nat)=2),if_pos (by decide:((6:Nat)=5∨(6:Nat)=6∨(6:Nat)=7∨(6:Nat)=8))] at hans
   obtain rfl:=Option.some.inj hans
   rw[e0] at HP
   clear hans e0
   go_enter Tryz.func255,Tryz.ntmps255
   go_wp2_with (first | (go_at_call 233;go_must (refine HP.out.mono ?_;rintro e w1 ⟨rfl,hb1⟩;have h1:=H0.out.kept hb1;have hz1:=hg0.kept hb1;have hs1:=hb1.size;obtain⟨x0,x1⟩:=h1.cells;obtain⟨b,o,cap,n,rfl,hn,hbl,hbne,hy⟩:=h1.head;have y1:=hy 1 _ rfl;have hrl:=h1.box.lt;have hn0:0<n:=by omega)) | (go_at_call 281;go_must (refine(pz 5 qa _).mono ?_;rintro e w2 ⟨hl,hb2⟩;obtain rfl:e=_:=hl)))
   exact⟨rfl,rfl,hK0.tr ((aS.below (by omega) hb1).tr (aS.below (by omega) hb2))⟩
  ·rw[if_neg (by decide:¬ (7:Nat)=1),if_neg (by decide:¬ (7:Nat)=2),if_pos (by decide:((7:Nat)=5∨(7:Nat)=6∨(7:Nat)=7∨(7:Nat)=8))] at hans
   obtain rfl:=Option.some.inj hans
   rw[e0] at HP
   clear hans e0
   go_enter Tryz.func255,Tryz.ntmps255
   go_wp2_with (first | (go_at_call 233;go_must (refine HP.out.mono ?_;rintro e w1 ⟨rfl,hb1⟩;have h1:=H0.out.kept hb1;have hz1:=hg0.kept hb1;have hs1:=hb1.size;obtain⟨x0,x1⟩:=h1.cells;obtain⟨b,o,cap,n,rfl,hn,hbl,hbne,hy⟩:=h1.head;have y1:=hy 1 _ rfl;have hrl:=h1.box.lt;have hn0:0<n:=by omega)) | (go_at_call 281;go_must (refine(pz 5 qa _).mono ?_;rintro e w2 ⟨hl,hb2⟩;obtain rfl:e=_:=hl)))
   exact⟨rfl,rfl,hK0.tr ((aS.below (by omega) hb1).tr (aS.below (by omega) hb2))⟩
  ·rw[if_neg (by decide:¬ (8:Nat)=1),if_neg (by decide:¬ (8:Nat)=2),if_pos (by decide:((8:Nat)=5∨(8:Nat)=6∨(8:Nat)=7∨(8:Nat)=8))] at hans
   obtain rfl:=Option.some.inj hans
   rw[e0] at HP
   clear hans e0
   go_enter Tryz.func255,Tryz.ntmps255
   go_wp2_with (first | (go_at_call 233;go_must (refine HP.out.mono ?_;rintro e w1 ⟨rfl,hb1⟩;have h1:=H0.out.kept hb1;have hz1:=hg0.kept hb1;have hs1:=hb1.size;obtain⟨x0,x1⟩:=h1.cells;obtain⟨b,o,cap,n,rfl,hn,hbl,hbne,hy⟩:=h1.head;have y1:=hy 1 _ rfl;have hrl:=h1.box.lt;have hn0:0<n:=by omega)) | (go_at_call 281;go_must (refine(pz 5 qa _).mono ?_;rintro e w2 ⟨hl,hb2⟩;obtain rfl:e=_:=hl)))
   exact⟨rfl,rfl,hK0.tr ((aS.below (by omega) hb1).tr (aS.below (by omega) hb2))⟩
end
section
open Go.RowKit
theorem agZ(r base n:Nat)(hn:n≤1099511627776)(IH:∀ m,m<n→Yk r base m):Yj r base n:=by
 intro v ov L O ans w h hr hb hO hans
 have hB0:=aj w (.cells bJ 115)
 have h0:=h.kept hB0
 have hg0:=Box.new w bJ 115
 have hW0:(w.alloc (.cells bJ 115)).heap.size=w.heap.size+1:=by simp
 have zT:=fun g hg=>(h.ov g hg).2
 have hK0:aS r ov w (w.alloc (.cells bJ 115)):=aS.below (Nat.le_of_lt h.box.lt) hB0
 have C9:aff (w.alloc (.cells bJ 115)) r base n ov O ans (.slice none 0 0) (w.alloc (.cells bJ 115)):=⟨n,none,0,[],v,ov,L,rfl,by simp,lQ.nil h0 hr (by omega),hans⟩
 have HO:=ah zT
 have HQ:=ah C9
 have HI:=ah IH
 clear h0 zT hB0 h hans C9 IH
 go_enter Tryz.func232,Tryz.ntmps232
 go_wp2
 generalize hWW:(w.alloc (.cells bJ 115))=W0 at *
 go_loopw [3] (fun p wr=>aff W0 r base n ov O ans p wr) (fun p _=>n - lenOf p)
 case atStart=>exact HQ.out
 case round =>
  clear HQ
  obtain⟨m,a,cap,vs,v1,yw,L1,rfl,hmn,hS,hpp⟩:=hrel
  have hs0:=hS.kept.low.size
  have hrl:=hS.ps.box.lt
  have hz:=hS.kept.box hg0 (by omega) (fun e=>by have:=HO.out _ e;omega)
  cases m with
  | zero=>rw[jV] at hpp;cases hpp
  | succ m =>
   rw[kP] at hpp
   cases hA:lM m O.length L1 with
   | none=>rw[hA] at hpp;cases hpp
   | some A =>
    rw[hA] at hpp
    have hat:=HI.out m (by omega) v1 yw L1 O A wr hS.ps hr (by omega) hO hA
    have V9:=ah hpp
    have HAT:=ah hat
    have Wh:=ah hmn
    have Ie:=ah hS
    clear hpp hat hA hmn hS
    go_wp2_with fail
    refine HAT.out.mono ?_
    intro e w2 hres
    cases A with
    | inl p =>
     obtain⟨hl,hk2⟩:=hres
     obtain rfl:e=_:=hl
     obtain rfl:=Option.some.inj V9.out
     exact And.intro rfl (And.intro rfl (hK0.tr (Ie.out.kept.trans Ie.out.fresh hk2)))
    | inr o =>
     cases o with
     | none =>
      obtain⟨rfl,⟨v2,h2⟩,hk2⟩:=hres
      have hS2:=Ie.out.mid hk2 (fC.refl _ _) h2
      have hz2:=hS2.kept.box hg0 (by omega) (fun e=>by have:=HO.out _ e;omega)
      have hans:=Option.some.inj V9.out
      have asC:=hz2.lt
      by_cases hv0:vs.length=0
      ·rw[List.length_map,if_pos hv0] at hans
       subst hans
       have d0:((vs.length:Int)==0)=true:=by rw[hv0];rfl
       have Ku:=ah hS2
       clear hv0 h2 hk2 hS2
       go_wp2_with (first | (go_at_call 257;go_must (refine(XZ _).mono ?_;rintro e w4 ⟨V,rfl,hV,hl4,aoi,hb4⟩;have wG:=(hz2.alloc _).kept hb4)) | (refine wpList_store_row rfl 115 (.tmp 2) (.tmp _) rfl w.heap.size _ rfl rfl _ _ wG (bP V) (by show 8=V.cells.toArray.size;rw[List.size_toArray,Vt.bK]) (Vt.all V) ?_))
       have hS4:=(Ku.out.below (aj w2 (.cells bJ 115))).below hb4
       have hs4:=Ku.out.kept.low.size
       have hTV:fG w4 r yw W0.heap.size V:=⟨hl4,aoi.mono fun b hb=>by
        rw[World.size_alloc] at hb
        exact⟨by omega,by omega,fun e=>by have:=(Ku.out.ps.ov _ e).2;omega⟩⟩
       exact eH Tryz.results232 rfl (cs:=V.cells.toArray) (wG.setRow _) Tryz.underlying115 rfl (bP V) rfl (hS4.ret hK0 hW0 HO.out hb hTV (hV.trans rfl) (oV _ _))
      ·rw[List.length_map,if_neg hv0,←RU 4 a cap vs] at hans
       subst hans
       have d0:((vs.length:Int)==0)=false:=by rw[beq_eq_false_iff_ne];omega
       have hS3:=hS2.below (aj w2 (.cells bJ 115))
       have hfl:=KO 4 vs a cap _ hS3.own.slice
       have wH:=ah hfl
       have Ku:=ah hS3
       clear hv0 h2 hk2 hS2 hS3 hfl
       go_wp2_with (first | (go_at_call 235;go_must (refine wH.out.mono ?_;rintro e w4 ⟨rfl,hb4⟩;have wG:=(hz2.alloc _).kept hb4)) | (refine wpList_store_row rfl 115 (.tmp 2) (.tmp _) rfl w.heap.size _ rfl rfl _ _ wG (bP (qE 4 a cap vs)) (by show 8=(Vt.cells (qE 4 a cap vs)).toArray.size;rw[List.size_toArray,Vt.bK]) (Vt.all (qE 4 a cap vs)) ?_))
       have hS4:=Ku.out.below hb4
       exact eH Tryz.results232 rfl (cs:=(qE 4 a cap vs).cells.toArray) (wG.setRow _) Tryz.underlying115 rfl (bP (qE 4 a cap vs)) rfl (hS4.ret hK0 hW0 HO.out hb (hS4.flat 4 (by decide)) rfl (oV _ _))
     | some q =>
      obtain⟨x,R⟩:=q
      obtain⟨V,v2,FN,rfl,hV,h2,ht2,hk2,hf2⟩:=hres
      have hpp:jV m O.length (vs.map Vt.tr++[(dU R x).1]) (dU R x).2=some ans:=V9.out
      have hS2:=Ie.out.mid hk2 hf2 h2
      have hB3:Below w2.heap.size w2 ((w2.alloc (.cells bJ 115)).setRow w2.heap.size V.cells.toArray):=below_setRow (aj _ _) (Nat.le_refl _) _
      have hx2:=Box.new w2 bJ 115
      have hx3:=hx2.setRow V.cells.toArray
      have hs2:=hk2.low.size
      have hpo:=adI r base wr.heap.size v2 FN R O V _ (h2.kept hB3) (ht2.eG hB3) hr (by simp;omega) (by simp;omega)
      have hS3:=hS2.below hB3
      have HPO:=ah hpo
      have HS3:=ah hS3
      have hown1:∀ g,(Value.slice a vs.length cap).ownBlock=some g→g<wr.heap.size:=fun g hg=>(Ie.out.lS g hg).2
      have HOW:=ah hown1
      have HP2:=ah hpp
      have hvn:vs.length<n:=by have:=Wh.out;omega
      rw[hV] at HPO
      clear hpo hS3 hS2 hB3 h2 ht2 hk2 hpp hown1
      go_wp2_with (first | (refine wpList_store_row rfl 115 (.tmp 4) (.tmp _) rfl w2.heap.size _ rfl rfl _ _ hx2 (bP V) (by show 8=(Vt.cells V).toArray.size;rw[List.size_toArray,Vt.bK]) (Vt.all V) ?_) | (refine wpList_load_row rfl 115 (.tmp 4) rfl w2.heap.size rfl 115 _ (0,0) _ hx3 Tryz.underlying115 rfl (bP V) ?_) | (go_at_call 256;go_must (refine HPO.out.mono ?_;intro e w4 hpo;obtain⟨k5,s5,a5,cp5,cZ,dh,hi5,v4,rfl,hV4,h4,wF,hk4⟩:=hpo.open;have hS4:=HS3.out.mid hk4 (fC.refl _ _) h4;have hS5:=hS4.below (aj w4 (.cells (aI k5 s5 a5 cZ.length cp5 dh hi5).toArray 115));have uS:=wF.eG (aj w4 (.cells (aI k5 s5 a5 cZ.length cp5 dh hi5).toArray 115));have HV4:=ah hV4;clear hpo hV4)) | (at_builtin;go_must (refine eX rfl _ _ 109 rfl Fe DT rfl hS5.own.1 ⟨w4.heap.size,0,none⟩ 1 (Vt.mk k5 s5 a5 cp5 cZ dh hi5) rfl (bW w4 (aI k5 s5 a5 cZ.length cp5 dh hi5) _) (by simp[maxLen];omega) (by omega) (by simp;have:=hS4.kept.low.size;omega) ?_;intro a6 c6 w6 Eu hg6 hf6)))
      have hS6:=hS5.snoc uS hs0 (wF.on.mono fun b hb e=>by have:=HOW.out b e;omega) Eu hg6 hf6
      have e4:=HV4.out
      have hmn:=Wh.out
      refine⟨⟨m,a6,c6,_,v4,FN,(dU R x).2,by rw[List.length_append];rfl,by rw[List.length_append,List.length_singleton];omega,hS6,?_⟩,?_⟩
      ·rw[List.map_append,List.map_singleton,e4];exact HP2.out
      ·show n - (vs.length+1)<n - vs.length
       omega
end
section
open Go.RowKit
theorem Jq.open{r base:Nat}{ov:Value}{O:List Int}{w w':World}{q:Tr×List Lx}{e:Ending}(h:Jq r base ov O w (.inr q) e w'):∃ k s a cap kids lo hi v pU,e=.returned (.agg (aI k s a (List.length kids) cap lo hi).toArray)∧(Vt.mk k s a cap kids lo hi).tr=q.1∧dS w' r base v q.2 pU O∧fG w' r pU w.heap.size (.mk k s a cap kids lo hi)∧aS r ov w w'∧fC w ov pU:=by
 obtain⟨⟨k,s,a,cap,kids,lo,hi⟩,v,pU,h⟩:=h
 exact⟨k,s,a,cap,kids,lo,hi,v,pU,h⟩
theorem aaN{m d:Nat}{parts:List Tr}{L:List Lx}(h:¬ ji L=4):Nw m d parts L=some (.inr (Bf 5 parts,L)):=by
 cases L with
 | nil=>rfl
 | cons q L=>exact if_neg h
theorem ah9(r base n:Nat)(hn:n≤1099511627776)(IH:∀ m,m<n→Yj r base m):adE r base n:=by
 intro v ov L O ans w h hr hb hO hans
 have hB0:=aj w (.cells bJ 115)
 have h0:=h.kept hB0
 have hg0:=Box.new w bJ 115
 have hW0:(w.alloc (.cells bJ 115)).heap.size=w.heap.size+1:=by simp
 have zT:=fun g hg=>(h.ov g hg).2
 have hK0:aS r ov w (w.alloc (.cells bJ 115)):=aS.below (Nat.le_of_lt h.box.lt) hB0
 have HO:=ah zT
 cases n with
 | zero=>rw[jm] at hans;cases hans
 | succ n =>
  rw[mg] at hans
  cases hA:jV n O.length [] L with
  | none=>rw[hA] at hans;cases hans
  | some A =>
   rw[hA] at hans
   have hat:=IH n (by omega) v ov L O A _ h0 hr (by omega) hO hA
   have HAT:=ah hat
   have HI:=ah IH
   have lT:=ah hans
   clear h0 zT hB0 h IH hat hans hA
   go_enter Tryz.func185,Tryz.ntmps185
   go_wp2_with fail
   refine HAT.out.mono ?_
   generalize hWW:(w.alloc (.cells bJ 115))=W0 at *
   intro e w2 hres
   cases A with
   | inl p =>
    obtain⟨hl,hk2⟩:=hres
    obtain rfl:e=_:=hl
    obtain rfl:=Option.some.inj lT.out
    exact And.intro rfl (And.intro rfl (hK0.tr hk2))
   | inr p =>
    obtain⟨x,R⟩:=p
    obtain⟨k5,s5,a5,cp5,cZ,dh,hi5,v2,FN,rfl,hV,h2,ht2,hk2,hf2⟩:=hres.open
    have hpt:=lQ.one h2 hk2 hf2 hr (by omega) ht2
    have C9:ah5 W0 r base (n+1) ov O ans (.slice (some ⟨w2.heap.size,0,none⟩) 1 1) (w2.alloc (.cells (aI k5 s5 a5 cZ.length cp5 dh hi5).toArray 115)):=⟨n,_,1,[.mk k5 s5 a5 cp5 cZ dh hi5],v2,FN,R,rfl,rfl,hpt,by rw[List.map_singleton,hV];exact lT.out⟩
    have HQ:=ah C9
    clear hres hpt C9 lT HAT h2 ht2 hk2 hf2 hV
    go_wp2
    go_loopw [3] (fun p wr=>ah5 W0 r base (n+1) ov O ans p wr) (fun p _=>n+1 - lenOf p)
    case atStart=>exact HQ.out
    case round =>
     clear HQ
     obtain⟨m,a,cap,vs,v1,yw,L1,rfl,hmn,hS,hpp⟩:=hrel
     have hs0:=hS.kept.low.size
     have hrl:=hS.ps.box.lt
     have hz:=hS.kept.box hg0 (by omega) (fun e=>by have:=HO.out _ e;omega)
     have hpk:=GR r base v1 yw L1 O wr hS.ps
     have HP:=ah hpk
     have Ie:=ah hS
     have Wh:=ah hmn
     clear hpk hmn hS
     by_cases FM:ji L1=4
     ·obtain⟨q,L1,rfl⟩:∃ q L',L1=q::L':=by
       cases L1 with
       | nil=>cases FM
       | cons q L=>exact⟨q,L,rfl⟩
      have BP:jm m O.length (vs.map Vt.tr) L1=some ans:=(if_pos FM).symm.trans hpp
      rw[FM] at HP
      cases m with
      | zero=>rw[jm] at BP;cases BP
      | succ m =>
       rw[mg] at BP
       cases hA:jV m O.length [] L1 with
       | none=>rw[hA] at BP;cases BP
       | some A =>
        rw[hA] at BP
        have V9:=ah BP
        have hat:=fun v' u hu hs=>HI.out m (by have:=Wh.out;omega) v' yw L1 O A u hu hr hs hO hA
        have HAT:=ah hat
        clear hpp BP hA hat FM
        go_wp2_with (first | (go_at_call 233;go_must (refine HP.out.mono ?_;rintro e w3 ⟨rfl,hb3⟩;have hS3:=Ie.out.below hb3;have hs3:=hb3.size)) | (go_at_call 234;go_must (refine(uP r base _ yw q L1 O _ hS3.ps hr (by omega)).mono ?_;rintro e w4 ⟨rfl,⟨v4,h4⟩,hk4⟩;have hS4:=hS3.mid hk4 (fC.refl _ _) h4;have hs4:=hk4.low.size)))
        refine(HAT.out v4 _ h4 (by omega)).mono ?_
        intro e w5 hres
        cases A with
        | inl p =>
         obtain⟨hl,hk5⟩:=hres
         obtain rfl:e=_:=hl
         obtain rfl:=Option.some.inj V9.out
         exact And.intro rfl (And.intro rfl (hK0.tr (hS4.kept.trans hS4.fresh hk5)))
        | inr p =>
         obtain⟨x,R⟩:=p
         obtain⟨k5,s5,a5,cp5,cZ,dh,hi5,v5,ov5,rfl,hV,h5,ht5,hk5,hf5⟩:=hres.open
         have hS5:=hS4.mid hk5 hf5 h5
         have hS6:=hS5.below (aj w5 (.cells (aI k5 s5 a5 cZ.length cp5 dh hi5).toArray 115))
         have Dc:=ht5.eG (aj w5 (.cells (aI k5 s5 a5 cZ.length cp5 dh hi5).toArray 115))
         have hown1:∀ g,(Value.slice a vs.length cap).ownBlock=some g→g<w4.heap.size:=fun g hg=>(hS4.lS g hg).2
         have HOW:=ah hown1
         have HV:=ah hV
         have hvn:vs.length<n+1:=by have:=Wh.out;omega
         have hs6:=hS5.kept.low.size
         have aoj:=hS4.kept.low.size
         clear hown1 hV hres h5 hk5 hf5 hS4 h4 hk4 hS3 hb3
         go_wp2_with (at_builtin;go_must (refine eX rfl _ _ 109 rfl Fe DT rfl hS6.own.1 ⟨w5.heap.size,0,none⟩ 1 (Vt.mk k5 s5 a5 cp5 cZ dh hi5) rfl (bW w5 (aI k5 s5 a5 cZ.length cp5 dh hi5) _) (by simp[maxLen];omega) (by omega) (by simp;omega) ?_;intro a7 c7 w7 gJ dn oI))
         have hS7:=hS6.snoc Dc aoj (ht5.on.mono fun b hb e=>by have:=HOW.out b e;omega) gJ dn oI
         have e4:=HV.out
         have hmn:=Wh.out
         refine⟨⟨m,a7,c7,_,v5,ov5,R,by rw[List.length_append];rfl,by rw[List.length_append,List.length_singleton];omega,hS7,?_⟩,?_⟩
         ·rw[List.map_append,List.map_singleton,e4];exact V9.out
         ·show n+1 - (vs.length+1)<n+1 - vs.length
          omega
     ·rw[aaN FM,←RU 5 a cap vs] at hpp
      obtain rfl:=Option.some.inj hpp
      have n4:((ji L1:Int)==4)=false:=by rw[beq_eq_false_iff_ne];omega
      clear FM hpp
      have hfl:=fun u (hu:lQ W0 r base ov O a cap vs v1 yw L1 u)=>KO 5 vs a cap u hu.own.slice
      have wH:=ah hfl
      clear hfl
      generalize hpl:ji L1=pk at *
      go_wp2_with (first | (go_at_call 233;go_must (refine HP.out.mono ?_;rintro e w3 ⟨rfl,hb3⟩;have hS3:=Ie.out.below hb3;have hz3:=hz.kept hb3)) | (go_at_call 235;go_must (refine(wH.out _ hS3).mono ?_;rintro e w4 ⟨rfl,hb4⟩;have wG:=hz3.kept hb4)) | (refine wpList_store_row rfl 115 (.tmp 2) (.tmp _) rfl w.heap.size _ rfl rfl _ _ wG (bP (qE 5 a cap vs)) (by show 8=(Vt.cells (qE 5 a cap vs)).toArray.size;rw[List.size_toArray,Vt.bK]) (Vt.all (qE 5 a cap vs)) ?_))
      have hS4:=hS3.below hb4
      exact eH Tryz.results185 rfl (cs:=(qE 5 a cap vs).cells.toArray) (wG.setRow _) Tryz.underlying115 rfl (bP (qE 5 a cap vs)) rfl (hS4.ret hK0 hW0 HO.out hb (hS4.flat 5 (by decide)) rfl (oV _ _))
theorem aia(r base:Nat):∀ n,n≤1099511627776→adE r base n∧Yj r base n∧Yk r base n:=by
 intro n
 induction n using Nat.strongRecOn with
 | ind n ih =>
  intro hn
  refine⟨ah9 r base n hn fun m hm=>(ih m hm (by omega)).2.1,agZ r base n hn fun m hm=>(ih m hm (by omega)).2.2,?_⟩
  cases n with
  | zero =>
   intro v ov L O ans w _ _ _ _ h
   rw[lM] at h;cases h
  | succ n=>exact agY r base n (adF r base n (ih n (by omega) (by omega)).1)
end
section
open Go.RowKit
theorem RY(c:Nat)(h:nK c≠0):2≤nK c∧nK c<8:=by
 unfold nK at h ⊢
 repeat' split
 all_goals simp_all
theorem RZ{l:List UInt8}{i j:Nat}{x:Lx}(h:nM l i=.inr (x,j)):qj x:=by
 unfold nM at h
 dsimp only at h
 split at h
 ·cases h
 split at h
 ·cases h
 split at h
 ·cases h;exact .inl ⟨rfl,rfl,rfl⟩
 ·rename_i hk;cases h;exact .inr (.inl ⟨(RY _ hk).1,(RY _ hk).2,rfl,rfl,rfl⟩)
theorem P6(l:List UInt8):∀ (n i:Nat) (acc X:List Lx),(∀ x∈acc,qj x)→lexFrom l n i acc=.inr X→∀ x∈X,qj x:=by
 intro n
 induction n with
 | zero=>intro i acc X ha h;rw[lexFrom] at h;cases h;exact ha
 | succ n ih =>
  intro i acc X ha h
  rw[lexFrom] at h
  split at h
  ·split at h
   ·cases h
   ·rename_i y k hq
    refine ih _ _ _ (fun x hx=>?_) h
    rcases List.mem_append.1 hx with hx | hx
    ·exact ha x hx
    ·rw[List.mem_singleton.1 hx];exact RZ hq
  ·cases h;exact ha
theorem Si{l:List UInt8}{X:List Lx}(h:ku l=.inr X):∀ x∈X,qj x:=by
 unfold ku at h
 split at h
 ·cases h
 ·exact P6 l _ _ _ _ (fun x hx=>by cases hx) h
theorem aaP(p:Nat)(s:aF)(w:World):Calls Tryz.prog 231 #[.agg #[.int .i64 1,.int .i64 p,.int .u64 (word s 0:Nat),.int .u64 (word s 1:Nat),.int .u64 (word s 2:Nat),.int .u64 (word s 3:Nat),.int .i64 0,.int .i64 0]] w (bF w (.bool true)):=by
 have e1:decide ((p:Int)<0)=false:=by simp
 go_enter Tryz.func231,Tryz.ntmps231
 go_wp2
 go_ret
 exact⟨rfl,by go_grown⟩
theorem Yl(k p:Nat)(h1:2≤k)(h2:k<8)(w:World):Calls Tryz.prog 231 #[.agg #[.int .i64 k,.int .i64 p,.int .u64 0,.int .u64 0,.int .u64 0,.int .u64 0,.int .i64 0,.int .i64 0]] w (bF w (.bool true)):=by
 have e1:decide ((p:Int)<0)=false:=by simp
 have e2:((k:Int) != 1)=true:=by simp;omega
 have e3:((k:Int)==8)=false:=by simp;omega
 have e4:decide ((1:Int)≤k)=true:=decide_eq_true (by omega)
 have e5:decide ((k:Int)<8)=true:=decide_eq_true (by omega)
 have hq:=fun w=>Na (P:=Tryz.prog) (t:=113) (e:=111) Tryz.underlying113 Tryz.underlying111 (by kernel_rfl) 0 0 w
 simp only[mY,jS] at hq
 go_enter Tryz.func231,Tryz.ntmps231
 go_wp2
 go_ret
 exact⟨rfl,by go_grown⟩
theorem Ym(p:Nat)(lo hi:Int)(h0:0≤lo)(h1:lo≤1000)(h2:hi=-1)(w:World):Calls Tryz.prog 231 #[.agg #[.int .i64 8,.int .i64 p,.int .u64 0,.int .u64 0,.int .u64 0,.int .u64 0,.int .i64 lo,.int .i64 hi]] w (bF w (.bool true)):=by
 have e1:decide ((p:Int)<0)=false:=by simp
 have e2:decide ((0:Int)≤lo)=true:=decide_eq_true h0
 have e3:decide (lo≤(1000:Int))=true:=decide_eq_true h1
 subst h2
 have hq:=fun w=>Na (P:=Tryz.prog) (t:=113) (e:=111) Tryz.underlying113 Tryz.underlying111 (by kernel_rfl) 0 0 w
 simp only[mY,jS] at hq
 go_enter Tryz.func231,Tryz.ntmps231
 go_wp2
 go_ret
 exact⟨rfl,by go_grown⟩
theorem Yn(p:Nat)(lo hi:Int)(h0:0≤lo)(h1:lo≤1000)(h2:lo≤hi)(h3:hi≤1000)(w:World):Calls Tryz.prog 231 #[.agg #[.int .i64 8,.int .i64 p,.int .u64 0,.int .u64 0,.int .u64 0,.int .u64 0,.int .i64 lo,.int .i64 hi]] w (bF w (.bool true)):=by
 have e1:decide ((p:Int)<0)=false:=by simp
 have e2:decide ((0:Int)≤lo)=true:=decide_eq_true h0
 have e3:decide (lo≤(1000:Int))=true:=decide_eq_true h1
 have e4:(hi==-1)=false:=by simp;omega
 have e5:decide (lo≤hi)=true:=decide_eq_true h2
 have e6:decide (hi≤(1000:Int))=true:=decide_eq_true h3
 have hq:=fun w=>Na (P:=Tryz.prog) (t:=113) (e:=111) Tryz.underlying113 Tryz.underlying111 (by kernel_rfl) 0 0 w
 simp only[mY,jS] at hq
 go_enter Tryz.func231,Tryz.ntmps231
 go_wp2
 go_ret
 exact⟨rfl,by go_grown⟩
theorem aaQ(x:Lx)(h:qj x)(w:World):Calls Tryz.prog 231 #[.agg (gX x).toArray] w (bF w (.bool true)):=by
 obtain⟨k,p,s,lo,hi⟩:=x
 rcases h with⟨h1,h2,h3⟩ | ⟨h1,h2,h3,h4,h5⟩ | ⟨h1,h2,h3,h4,h5⟩
 ·dsimp only at h1 h2 h3
  subst h1 h2 h3
  exact aaP p s w
 ·dsimp only at h1 h2 h3 h4 h5
  subst h3 h4 h5
  have:=Yl k p h1 h2 w
  simp only[gX,qG]
  exact this
 ·dsimp only at h1 h2 h3 h4 h5
  subst h1 h2
  simp only[gX,qG]
  rcases h5 with h5 | ⟨h5,h6⟩
  ·exact Ym p lo hi h3 h4 h5 w
  ·exact Yn p lo hi h3 h4 h5 h6 w
end
section
open Go.RowKit
theorem OJ{w wr:World}{b o i:Nat}{x:Lx}(h:∀ j u,(gX x)[j]?=some u→w.cell? ⟨b,o+i*8+j,none⟩=some u)(hB:Below w.heap.size w wr):∀ j u,(gX x)[j]?=some u→wr.cell? ⟨b,o+i*8+j,none⟩=some u:=fun j u hu=>by
 have:=h j u hu
 rw[hB.cell (World.block_lt_of_cell? w _ this)];exact this
theorem Vj(a:Option Addr)(cap n:Nat)(L:List Lx)(w:World)(h:au w (.slice a n cap) 8 gX L)(hR:∀ x∈L,qj x) :
  Calls Tryz.prog 183 #[.slice a n cap] w (bF w (if 1024<L.length then iw 4 (L.getD 1024 ⟨0,0,0,0,0⟩).at' else iw 0 0)):=by
 obtain⟨b,o,hn,hcap,hcap2,ha,hx⟩:=h.open
 have HX:=ah hx
 have HA:=ah ha
 have HR:=ah hR
 have HN:=ah hn
 clear hx ha hR h
 have hb0:Below w.heap.size w (w.alloc (.cells #[.int .i64 0,.int .i64 0] 66)):=by go_grown
 have hx0:=Box.new w #[.int .i64 0,.int .i64 0] 66
 clear hn
 have asj:n≤cap:=by rw[HN.out];exact hcap
 clear hcap
 obtain⟨ANS,hans⟩:∃ ANS,(if 1024<L.length then iw 4 (L.getD 1024 ⟨0,0,0,0,0⟩).at' else iw 0 0)=ANS:=⟨_,rfl⟩
 rw[hans]
 have HAN:=ah hans
 clear hans
 go_enter Tryz.func183,Tryz.ntmps183
 go_wp2
 go_loopw [7] (fun i wr=>∃ j:Nat,j≤n∧i=.int .i64 j∧Box wr w.heap.size #[.int .i64 0,.int .i64 0] 66∧Below w.heap.size w wr) (fun i _=>n - (intOf i).toNat)
 case atStart=>exact⟨0,Nat.zero_le _,rfl,hx0,hb0⟩
 case round =>
  clear hx0 hb0
  obtain⟨j,hj,rfl,hX,hB⟩:=hrel
  by_cases hlt:j<n
  ·have hjl:j<L.length:=by rw[←HN.out];exact hlt
   obtain rfl:=HA.out j hjl
   have y:=OJ (HX.out j hjl) hB
   have y0:=y 0 _ rfl
   have y1:=y 1 _ rfl
   have y2:=y 2 _ rfl
   have y3:=y 3 _ rfl
   have y4:=y 4 _ rfl
   have y5:=y 5 _ rfl
   have y6:=y 6 _ rfl
   have y7:=y 7 _ rfl
   have hbl:=World.block_lt_of_cell? wr _ y0
   have hrt:=aaQ L[j] (HR.out _ (List.getElem_mem hjl))
   simp only[Nat.add_zero] at y0
   have OL:=ah hrt
   clear y hrt
   generalize L[j]=x at *
   clear hjl
   go_wp2_with (go_at_call 231;go_must (refine(OL.out _).mono ?_;rintro e w1 ⟨rfl,hb1⟩))
   go_roundw
   case rel=>exact⟨j+1,hlt,by go_num,(hX.alloc _).kept hb1,(hB.trans ((aj wr _).mono hB.size)).trans (hb1.mono (by have:=hB.size;simp;omega))⟩
   case measure=>simp[intOf];omega
  ·have hans:=HAN.out
   have hnl:=HN.out
   have f0:=hX.free 0
   have f1:=hX.free 1
   have c0:=hX.cell 0
   have c1:=hX.cell 1
   by_cases hbig:1024<n
   ·have hjl:1024<L.length:=by rw[←HN.out];exact hbig
    obtain rfl:=HA.out 1024 hjl
    rw[if_pos hjl,List.getD_eq_getElem?_getD,List.getElem?_eq_getElem hjl,Option.getD_some] at hans
    have y1:=OJ (HX.out 1024 hjl) hB 1 _ rfl
    have hbl:=World.block_lt_of_cell? wr _ y1
    subst hans
    generalize L[1024]=x at *
    clear hjl hnl
    go_wp2
    exact eH Tryz.results183 rfl (cs:=#[.int .i64 4,.int .i64 x.at']) ((hX.set 0 _).set 1 _) Tryz.underlying66 rfl (by kernel_rfl) rfl ⟨rfl,(hB.setCell (by simp) _).setCell (by simp) _⟩
   ·rw[if_neg (by omega)] at hans
    subst hans
    clear hnl
    go_wp2
    exact eH Tryz.results183 rfl (cs:=#[.int .i64 0,.int .i64 0]) ((hX.set 0 _).set 1 _) Tryz.underlying66 rfl (by kernel_rfl) rfl ⟨rfl,(hB.setCell (by simp) _).setCell (by simp) _⟩
end
end Go.Proofs.YtengfapcaaacaaaGreatDoor
