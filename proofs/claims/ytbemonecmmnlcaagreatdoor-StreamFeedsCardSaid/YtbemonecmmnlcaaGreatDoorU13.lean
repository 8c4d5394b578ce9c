/- The texts of T13, in few letters (mini.py). -/
import Derived.Test.YtbemonecmmnlcaaGreatDoorU12
set_option linter.unusedVariables false
set_option linter.unusedSimpArgs false
set_option maxRecDepth 20000
set_option maxHeartbeats 3200000
namespace Go.Proofs.YtbemonecmmnlcaaGreatDoor
section
open Go.RowKit
theorem xW(k:Int)(ps:Nat)(V:Vt)(w:World)(h:Box w ps V.cells.toArray 151) :
  Calls Tryz.prog 320 #[.int .i64 k,.pointer (some ⟨ps,0,none⟩)] w (fun e w'=>∃ V',e=.returned (.agg V'.cells.toArray)∧Hid (V'=Vt.mk k 0 (some ⟨w.heap.size+1,0,none⟩) 1 [V] 0 0)∧ak w' (.slice (some ⟨w.heap.size+1,0,none⟩) 1 1) 8 Vt.cells [V]∧Below w.heap.size w w') :=
 (X9 k ps V w h).mono fun _ _ ⟨h1,h2,h3⟩=>⟨.mk k 0 (some ⟨w.heap.size+1,0,none⟩) 1 [V] 0 0,h1,ah rfl,h2,h3⟩
theorem adC(r base m:Nat)(v ov:Value)(L:List Lx)(O:List Int)(V:Vt)(w:World)(h:dQ w r base v L ov O)(hT:fB w r ov m V)(hr:r<base)(hb:base≤w.heap.size)(hm:m≤w.heap.size) :
  Calls Tryz.prog 304 #[.pointer (some ⟨r,0,none⟩),.agg V.cells.toArray] w (Qy r base m ov O w (dR L V.tr)):=by
 have hB0:Below w.heap.size w ((w.alloc (.cells V.cells.toArray 151)).alloc (.cells bI 151)):=((Below.refl _ w).alloc (Nat.le_refl _) _).alloc (by simp) _
 have zn:PoI w r base m ov O (dR L V.tr) ((w.alloc (.cells V.cells.toArray 151)).alloc (.cells bI 151)) :=
  ⟨L,V,⟨(Box.new _ _ _).alloc _,Box.new' (by simp) _ _,⟨v,h.kept hB0⟩,hT.bW hB0,hT.lies.on.mono fun b hb=>⟨by omega,by omega⟩,aO.below (by omega) hB0,⟨hr,hb,hm⟩,fun g hg=>(h.ov g hg).2⟩,rfl⟩
 obtain⟨ANS,hA⟩:∃ ANS,dR L V.tr=ANS:=⟨_,rfl⟩
 rw[hA] at zn ⊢
 clear hA hB0 h hT
 obtain⟨k1,s1,a1,Bd,zh,lo1,hi1⟩:=V
 have HQ:=ah zn
 clear zn
 go_enter Tryz.func304,Tryz.ntmps304
 go_wp2
 go_loopw [] (fun wr=>PoI w r base m ov O ANS wr) (fun wr=>Qx r wr)
 case atStart=>exact HQ.out
 case round =>
  clear HQ
  obtain⟨L,V,hS,hans⟩:=hrel
  obtain⟨v1,hP⟩:=hS.ps
  have hsz:=hS.z.lt
  have hm0:=Af hP
  have hpk:=Hw r base v1 ov L O wr hP
  by_cases hstop:iV L=5∨iV L=6∨iV L=7∨iV L=8
  ·obtain⟨q,L,rfl⟩:∃ q L',L=q::L':=by
    cases L with
    | nil=>simp[iV] at hstop
    | cons q L=>exact⟨q,L,rfl⟩
   have hok:=hP.ok q (by simp)
   have hml:Qx r wr=L.length+1:=by rw[hm0];rfl
   obtain⟨qk,qa,qs,ql,qh⟩:=q
   have hq:iV (⟨qk,qa,qs,ql,qh⟩::L)=qk:=rfl
   rw[hq] at hstop hpk
   rcases hstop with rfl | rfl | rfl | rfl
   ·have gB:dR L (.mk 6 0 [V.tr] 0 0)=ANS:=by rw[←hans,qy];rfl
    have HP:=ah hpk
    have HS:=ah hS
    clear hpk hS hans hP hm0 hok hq
    go_wp2_with (first | (go_at_call 278;go_must (refine HP.out.mono ?_;rintro e w1 ⟨rfl,hb1⟩;have hS1:=HS.out.below hb1;have hx1:=hS1.x;have hsz1:=hS1.z.lt)) | (go_at_call 320;go_must (refine(xW 6 w.heap.size V w1 hx1).mono ?_;rintro e w2 ⟨V2,rfl,hV2,hs2,hb2⟩;have hS3:kZ w r base m ov O (⟨5,qa,qs,ql,qh⟩::L) V2 (w2.setRow w.heap.size V2.cells.toArray):=hV2.out.symm▸hS1.over hb2 6 (by decide) hs2;have hx2:=hx1.kept hb2;obtain⟨v3,hP3⟩:=hS3.ps;have hsz3:=hS3.z.lt)) | (refine wpList_store_row rfl 151 (.tmp 3) (.tmp _) rfl w.heap.size _ rfl rfl _ _ hx2 (bP V2) (by rw[List.size_toArray,List.size_toArray,Vt.bK,Vt.bK]) V2.all ?_) | (go_at_call 279;go_must (refine(uZ r base _ ov _ L O _ hP3 hr (by omega)).mono ?_;rintro e w4 ⟨rfl,⟨v4,yK⟩,hk4⟩)))
    have hS4:=hS3.next hk4 yK
    have hm4:=Af yK
    clear hS3 hP3 hx2 hx1 hS1 HS HP
    go_wp2
    go_roundw
    case rel=>exact⟨L,V2,hS4,by rw[hV2.out,Hy];exact gB⟩
    case measure=>rw[hm4,hml];omega
   ·have gB:dR L (.mk 7 0 [V.tr] 0 0)=ANS:=by rw[←hans,qy];rfl
    have HP:=ah hpk
    have HS:=ah hS
    clear hpk hS hans hP hm0 hok hq
    go_wp2_with (first | (go_at_call 278;go_must (refine HP.out.mono ?_;rintro e w1 ⟨rfl,hb1⟩;have hS1:=HS.out.below hb1;have hx1:=hS1.x;have hsz1:=hS1.z.lt)) | (go_at_call 320;go_must (refine(xW 7 w.heap.size V w1 hx1).mono ?_;rintro e w2 ⟨V2,rfl,hV2,hs2,hb2⟩;have hS3:kZ w r base m ov O (⟨6,qa,qs,ql,qh⟩::L) V2 (w2.setRow w.heap.size V2.cells.toArray):=hV2.out.symm▸hS1.over hb2 7 (by decide) hs2;have hx2:=hx1.kept hb2;obtain⟨v3,hP3⟩:=hS3.ps;have hsz3:=hS3.z.lt)) | (refine wpList_store_row rfl 151 (.tmp 3) (.tmp _) rfl w.heap.size _ rfl rfl _ _ hx2 (bP V2) (by rw[List.size_toArray,List.size_toArray,Vt.bK,Vt.bK]) V2.all ?_) | (go_at_call 279;go_must (refine(uZ r base _ ov _ L O _ hP3 hr (by omega)).mono ?_;rintro e w4 ⟨rfl,⟨v4,yK⟩,hk4⟩)))
    have hS4:=hS3.next hk4 yK
    have hm4:=Af yK
    clear hS3 hP3 hx2 hx1 hS1 HS HP
    go_wp2
    go_roundw
    case rel=>exact⟨L,V2,hS4,by rw[hV2.out,Hy];exact gB⟩
    case measure=>rw[hm4,hml];omega
   ·have gB:dR L (.mk 8 0 [V.tr] 0 0)=ANS:=by rw[←hans,qy];rfl
    have HP:=ah hpk
    have HS:=ah hS
    clear hpk hS hans hP hm0 hok hq
    go_wp2_with (first | (go_at_call 278;go_must (refine HP.out.mono ?_;rintro e w1 ⟨rfl,hb1⟩;have hS1:=HS.out.below hb1;have hx1:=hS1.x;have hsz1:=hS1.z.lt)) | (go_at_call 320;go_must (refine(xW 8 w.heap.size V w1 hx1).mono ?_;rintro e w2 ⟨V2,rfl,hV2,hs2,hb2⟩;have hS3:kZ w r base m ov O (⟨7,qa,qs,ql,qh⟩::L) V2 (w2.setRow w.heap.size V2.cells.toArray):=hV2.out.symm▸hS1.over hb2 8 (by decide) hs2;have hx2:=hx1.kept hb2;obtain⟨v3,hP3⟩:=hS3.ps;have hsz3:=hS3.z.lt)) | (refine wpList_store_row rfl 151 (.tmp 3) (.tmp _) rfl w.heap.size _ rfl rfl _ _ hx2 (bP V2) (by rw[List.size_toArray,List.size_toArray,Vt.bK,Vt.bK]) V2.all ?_) | (go_at_call 279;go_must (refine(uZ r base _ ov _ L O _ hP3 hr (by omega)).mono ?_;rintro e w4 ⟨rfl,⟨v4,yK⟩,hk4⟩)))
    have hS4:=hS3.next hk4 yK
    have hm4:=Af yK
    clear hS3 hP3 hx2 hx1 hS1 HS HP
    go_wp2
    go_roundw
    case rel=>exact⟨L,V2,hS4,by rw[hV2.out,Hy];exact gB⟩
    case measure=>rw[hm4,hml];omega
   ·have gB:dR L (.mk 9 0 [V.tr] ql qh)=ANS:=by rw[←hans,qy];rfl
    have hlo:I64 ql∧I64 qh:=by
     rcases hok with h | h | h
     ·exact absurd (show(8:Nat)=1 from h.1) (by decide)
     ·have:=h.2.1;simp at this
     ·obtain⟨_,_,h1,h2,h3⟩:=h
      simp only at h1 h2 h3
      exact⟨⟨by omega,by omega⟩,by rcases h3 with h3 | h3 <;> exact⟨by omega,by omega⟩⟩
    have HP:=ah hpk
    have HS:=ah hS
    clear hpk hS hans hP hm0 hok hq
    go_wp2_with (first | (go_at_call 278;go_must (refine HP.out.mono ?_;rintro e wp ⟨rfl,hb1⟩;have hS1:=HS.out.below hb1;have hx1:=hS1.x;have hsz1:=hS1.z.lt)) | (go_at_call 320;go_must (refine(xW 9 w.heap.size V wp hx1).mono ?_;rintro e w2 ⟨V2,rfl,hV2,hs2,hb2⟩;have hS3:kZ w r base m ov O (⟨8,qa,qs,ql,qh⟩::L) V2 (w2.setRow w.heap.size V2.cells.toArray):=hV2.out.symm▸hS1.over hb2 9 (by decide) hs2;have hx2:=hx1.kept hb2;have hsz3:=hS3.z.lt)) | (refine wpList_store_row rfl 151 (.tmp 3) (.tmp _) rfl w.heap.size _ rfl rfl _ _ hx2 (bP V2) (by rw[List.size_toArray,List.size_toArray,Vt.bK,Vt.bK]) V2.all ?_))
    obtain⟨v3,hP3⟩:=hS3.ps
    obtain⟨x0,x1⟩:=hP3.cells
    obtain⟨b,o,cap,n,rfl,hn,hbl,hbne,hy⟩:=hP3.head
    have HF:Hid (∀ u,D9 w.heap.size 6 (.int .i64 ql) (w2.setRow w.heap.size V2.cells.toArray).drew u→u.cell? ⟨r,0,none⟩=some (.slice (some ⟨b,o,none⟩) n cap)∧(∀ j x,(gJ ⟨8,qa,qs,ql,qh⟩)[j]?=some x→u.cell? ⟨b,o+j,none⟩=some x)∧b<u.heap.size∧r<u.heap.size):=ah fun u hl=>by
     have e1:=hl.only.size
     refine⟨?_,fun j x hx=>?_,Nat.lt_of_lt_of_le hbl e1,Nat.lt_of_lt_of_le hP3.box.lt e1⟩
     ·rw[World.cell?_of_block (hl.only.block r hP3.box.lt (by omega))];exact x0
     ·rw[World.cell?_of_block (a:=⟨b,o+j,none⟩) (hl.only.block b hbl (by omega))];exact hy j x hx
    have hx3:Box (w2.setRow w.heap.size V2.cells.toArray).drew w.heap.size V2.cells.toArray 151:=hS3.x
    have HX:=ah hx3
    clear x0 x1 hx3 hx2 hx1 HS HP hS1 hy
    have H3:=ah hS3
    have hn0:0<n:=by omega
    clear hS3 hP3
    refine aH (R:=D9 w.heap.size 6 (.int .i64 ql)) 17 (by kernel_rfl) ?_
    refine pl [0,1,2,3,4,5,6,7,8,9,10,11,12,13,14] ?_
    repeat
     refine gU ?_ rfl (fun w1 hl=>?_) ?_
     rotate_left
     ·obtain⟨x0,y,hbl,hrl⟩:=HF.out w1 hl;have y3:=y 3 _ rfl;have y4:=y 4 _ rfl;have y5:=y 5 _ rfl;have y6:=y 6 _ rfl;have y7:=y 7 _ rfl;go_simp;try with_reducible rfl
     simp only[eA,eB,eC,Act.put,eD,eE,eF]
    refine dI ?_
    refine aW (t:=17) (i:=15) (by kernel_rfl) rfl (fun w1 hl K hK=>?_)
    obtain⟨c5,hx5,e5,t5,_⟩:=hl.turn _ _ HX.out
    have k5:c5[6]?≠none:=by rw[Ne,Array.getElem?_eq_none_iff,e5,List.size_toArray,Vt.bK];omega
    obtain⟨z5,hz5⟩:=Option.ne_none_iff_exists'.1 k5
    have y6:=(hx5.cell 6).trans hz5
    have f6:=hx5.free 6
    have vk:D9 w.heap.size 6 (.int .i64 ql) w1 _:=D9.set w1
    have hl5:=(RY _ _ _).trans _ _ _ hl vk
    have hx6:=hx5.set 6 (.int .i64 ql)
    go_simp
    refine hK.out _ _ (fun _=>vk) ?_
    clear hK K y6 f6 vk hl hx5
    refine iZ 16 ?_ rfl (fun w1 hl=>?_) ?_
    rotate_left
    ·skip;go_simp;try with_reducible rfl
    simp only[eA,eB,eC,Act.put,eD,eE,eF]
    refine aW (t:=17) (i:=17) (by kernel_rfl) rfl (fun w1 hl K hK=>?_)
    obtain⟨c7,hx7,e7,t7,u7⟩:=hl.turn _ _ hx6
    have FU:=(RY _ _ _).trans _ _ _ hl5 hl
    have k7:c7[7]?≠none:=by rw[Ne,Array.getElem?_eq_none_iff,e7,Array.size_setIfInBounds,e5,List.size_toArray,Vt.bK];omega
    obtain⟨z7,Bv⟩:=Option.ne_none_iff_exists'.1 k7
    have y7:=(hx7.cell 7).trans Bv
    have f7:=hx7.free 7
    have fC:=(jT _).trans _ _ _ FU.only (fE.set w1 7 (.int .i64 qh))
    have EM:=hx7.set 7 (.int .i64 qh)
    go_simp
    refine hK.out _ _ (fun h=>absurd rfl h) ?_
    clear hK K y7 f7 hx7 FU hl hl5
    refine aQ (by kernel_rfl) (fun w1 hl=>?_) _
    obtain⟨c9,hx9,e9,t9,u9⟩:=hl.turn _ _ EM
    have ho9:=(jT _).trans _ _ _ fC hl.only
    have hc9:c9=(aC 9 0 (some ⟨wp.heap.size+1,0,none⟩) 1 1 ql qh).toArray:=by
     refine adx (lo0:=0) (hi0:=0) (fun j h6 h7=>?_) (u9 ?_) ?_
     ·rw[t9 j h6,Array.getElem?_setIfInBounds,if_neg (Ne.symm h7),t7 j h6,Array.getElem?_setIfInBounds,if_neg (Ne.symm h6),t5 j h6,hV2.out,List.getElem?_toArray];rfl
     ·rw[Array.getElem?_setIfInBounds,if_neg (by decide)]
      refine u7 ?_
      rw[Array.getElem?_setIfInBounds,if_pos rfl,if_pos]
      rw[e5,List.size_toArray,Vt.bK];omega
     ·rw[t9 7 (by decide),Array.getElem?_setIfInBounds,if_pos rfl,if_pos]
      rw[e7,Array.size_setIfInBounds,e5,List.size_toArray,Vt.bK];omega
    subst hc9
    have hSV:kZ w r base m ov O (⟨8,qa,qs,ql,qh⟩::L) (.mk 9 0 (some ⟨wp.heap.size+1,0,none⟩) 1 [V] 0 0) (w2.setRow w.heap.size V2.cells.toArray):=(congrArg (fun X=>kZ w r base m ov O (⟨8,qa,qs,ql,qh⟩::L) X (w2.setRow w.heap.size V2.cells.toArray)) hV2.out).mp H3.out
    have RZ:=hSV.nums ((jT _).trans _ _ _ ((jT _).later _ _ (Below.refl _ _).drew) ho9) ql qh hlo.1 hlo.2 hx9
    obtain⟨v9,Wn⟩:=RZ.ps
    have arl:=RZ.z.lt
    clear t5 t7 t9 u7 u9 e5 e7 e9 fC ho9 hl EM hx6 HF HX H3 hSV hx9
    go_wp2_with (go_at_call 279;go_must (refine(uZ r base _ ov _ L O _ Wn hr (by omega)).mono ?_;rintro e w4 ⟨rfl,⟨v4,yK⟩,hk4⟩))
    have hS4:=RZ.next hk4 yK
    have hm4:=Af yK
    clear RZ Wn
    go_wp2
    go_roundw
    case rel=>exact⟨L,_,hS4,by rw[Hy];exact gB⟩
    case measure=>rw[hm4,hml];omega
  ·have gB:=Vj V.tr hstop
   rw[hans] at gB
   have n5:((iV L:Int)==5)=false:=by rw[beq_eq_false_iff_ne];omega
   have n6:((iV L:Int)==6)=false:=by rw[beq_eq_false_iff_ne];omega
   have n7:((iV L:Int)==7)=false:=by rw[beq_eq_false_iff_ne];omega
   have n8:((iV L:Int)==8)=false:=by rw[beq_eq_false_iff_ne];omega
   have HP:=ah hpk
   have HS:=ah hS
   have HA:=ah gB
   clear hpk hS hans hP hm0 gB hstop
   generalize iV L=pk at *
   go_wp2_with (first | (go_at_call 278;go_must (refine HP.out.mono ?_;rintro e w1 ⟨rfl,hb1⟩;have hS1:=HS.out.below hb1;have hx1:=hS1.x;have hz1:=hS1.z;have hsz1:=hS1.z.lt)) | (refine wpList_load_row rfl 151 (.tmp 3) rfl w.heap.size rfl 151 _ (0,0) _ hx1 Tryz.underlying151 rfl (bP V) ?_) | (refine wpList_store_row rfl 151 (.tmp 4) (.tmp 9) rfl (w.heap.size+1) _ rfl rfl _ _ hz1 (bP V) (by show 8=V.cells.toArray.size;rw[List.size_toArray,Vt.bK]) V.all ?_))
   obtain⟨v5,g1,g2,g3⟩:=hS1.fin (pq w1 V.cells.toArray)
   exact fU Tryz.results304 rfl (cs:=V.cells.toArray) (hz1.setRow _) Tryz.underlying151 rfl (bP V) rfl (show Qy r base m ov O w ANS _ _ from⟨V,v5,rfl,by rw[HA.out],by rw[HA.out];exact g1,g2,g3⟩)
end
section
open Go.RowKit
theorem vZ(b:Nat)(w:World)(v0 v1 v2 v3 v4 v5 v6 v7:Value):fE b w ((((((((w.setCell ⟨b,0,none⟩ v0).setCell ⟨b,1,none⟩ v1).setCell ⟨b,2,none⟩ v2).setCell ⟨b,3,none⟩ v3).setCell ⟨b,4,none⟩ v4).setCell ⟨b,5,none⟩ v5).setCell ⟨b,6,none⟩ v6).setCell ⟨b,7,none⟩ v7) :=
 have t:=fun{p q s:World}=>(jT b).trans p q s
 t (t (t (t (t (t (t (fE.set _ 0 v0) (fE.set _ 1 v1)) (fE.set _ 2 v2)) (fE.set _ 3 v3)) (fE.set _ 4 v4)) (fE.set _ 5 v5)) (fE.set _ 6 v6)) (fE.set _ 7 v7)
theorem agF(r base n:Nat)(IH:aax r base n):Yd r base (n+1):=by
 intro v ov L O ans w h hr hb hO hans
 have hB0:=aj w (.cells bI 151)
 have h0:=h.kept hB0
 have hg0:=Box.new w bI 151
 have hW0:(w.alloc (.cells bI 151)).heap.size=w.heap.size+1:=by simp
 have hpk:=Hw r base v ov L O _ h0
 have Ag:=fun g hg=>(h.ov g hg).2
 obtain⟨ao,co,hao⟩:=h.open'.form
 subst hao
 have hK0:aO r (.slice ao O.length co) w (w.alloc (.cells bI 151)):=aO.below (Nat.le_of_lt h.box.lt) hB0
 have HP:=ah hpk
 have HO:=ah Ag
 have H0:=ah h0
 clear hpk h0 Ag hB0
 cases L with
 | nil =>
  rw[vg] at hans
  obtain rfl:=Option.some.inj hans
  go_enter Tryz.func303,Tryz.ntmps303
  go_wp2_with (go_at_call 278;go_must (refine HP.out.mono ?_;rintro e w1 ⟨rfl,hb1⟩;have h1:=H0.out.kept hb1;have hz1:=hg0.kept hb1;have hs1:=hb1.size;obtain⟨x0,x1⟩:=h1.cells;have z0:=hz1.cell 0;have z1:=hz1.cell 1;have z2:=hz1.cell 2;have z3:=hz1.cell 3;have z4:=hz1.cell 4;have z5:=hz1.cell 5;have z6:=hz1.cell 6;have z7:=hz1.cell 7;obtain⟨f0,f1,f2,f3,f4,f5,f6,f7⟩:=hz1.vV))
  have yJ:=vZ w.heap.size w1 (.int .i64 0) (.int .u64 0) (.int .u64 0) (.int .u64 0) (.int .u64 0) (.slice none 0 0) (.int .i64 0) (.int .i64 0)
  obtain⟨EN,hKF⟩:=h1.only hr (hK0.tr (aO.below (by omega) hb1)) hb yJ (fun e=>by have:=HO.out _ e;omega)
  exact gy Tryz.results303 rfl rfl (cs:=bI) (E:=151) ((((((((hz1.set 0 (.int .i64 0)).set 1 (.int .u64 0)).set 2 (.int .u64 0)).set 3 (.int .u64 0)).set 4 (.int .u64 0)).set 5 (.slice none 0 0)).set 6 (.int .i64 0)).set 7 (.int .i64 0)) Tryz.underlying151 rfl (by kernel_rfl) rfl (show NZ r base (.slice ao O.length co) O _ w (.inr none) _ _ from⟨rfl,⟨_,EN⟩,hKF⟩)
 | cons q L =>
  have hok:=h.ok q (by simp)
  obtain⟨qk,qa,qs,ql,qh⟩:=q
  have hkv:qk=1∨qk=2∨qk=3∨qk=4∨qk=5∨qk=6∨qk=7∨qk=8:=by
   rcases hok with h | h | h
   ·exact .inl h.1
   ·have h1:2≤qk:=h.1
    have h2:qk<8:=h.2.1
    omega
   ·have h1:qk=8:=h.1
    omega
  clear hok h
  rw[pJ] at hans
  have e0:∀ k:Nat,iV (⟨k,qa,qs,ql,qh⟩::L)=k:=fun _=>rfl
  rcases hkv with rfl | rfl | rfl | rfl | rfl | rfl | rfl | rfl
  ·have gB:some (.inr (some (.mk 3 qs [] 0 0,L)))=some ans:=(if_pos rfl).symm.trans hans
   obtain rfl:=Option.some.inj gB
   have hnx:=fun u hu hs=>uZ r base v (.slice ao O.length co) ⟨1,qa,qs,ql,qh⟩ L O u hu hr hs
   unfold gJ at hnx
   have HN:=ah hnx
   have hfl:=Yb
   rw[e0] at HP
   clear hans gB hnx e0
   go_enter Tryz.func303,Tryz.ntmps303
   go_wp2_with (first | (go_at_call 278;go_must (refine HP.out.mono ?_;rintro e w1 ⟨rfl,hb1⟩;have h1:=H0.out.kept hb1;have hz1:=hg0.kept hb1;have hs1:=hb1.size)) | (go_at_call 279;go_must (refine(HN.out _ h1 (by omega)).mono ?_;rintro e w2 ⟨rfl,⟨v2,h2⟩,hk2⟩;have hs2:=hk2.low.size;have anh:=hk2.box hz1 (by omega) (fun e=>by have:=HO.out _ e;omega))) | (go_at_call 177;go_must (refine(La qs _).mono ?_;rintro e w3 ⟨V,rfl,hV,hl3,qH,hb3⟩;have hz2:=anh.kept hb3;have hs3:=hb3.size)) | (refine wpList_store_row rfl 151 (.tmp 2) (.tmp _) rfl w.heap.size _ rfl rfl _ _ hz2 (bP V) (by show 8=V.cells.toArray.size;rw[List.size_toArray,Vt.bK]) V.all ?_))
   have yJ:=pq (b:=w.heap.size) w3 V.cells.toArray
   have hrl:=h2.box.lt
   have hk3:=(((aO.below (ov:=.slice ao O.length co) (by omega) hb1).tr hk2).tr (aO.below (by omega) hb3))
   obtain⟨EN,hKF⟩:=(h2.kept hb3).only hr (hK0.tr hk3) hb yJ (fun e=>by have:=HO.out _ e;omega)
   have hTF:fB (w3.setRow w.heap.size V.cells.toArray) r (.slice ao O.length co) w.heap.size V:=⟨hl3.fJ (qH.and hl3.on) fun b hb=>yJ.block b hb.2 (by have:=hb.1;omega),qH.mono fun b hb=>⟨by omega,by omega,fun e=>by have:=HO.out _ e;omega⟩⟩
   exact gy Tryz.results303 rfl rfl (cs:=V.cells.toArray) (hz2.setRow _) Tryz.underlying151 rfl (bP V) rfl (show NZ r base (.slice ao O.length co) O _ w (.inr (some (.mk 3 qs [] 0 0,L))) _ _ from⟨V,v2,_,rfl,hV,EN,hTF,hKF,eU.refl _ _⟩)
  ·have gB:(pX n O.length ⟨2,qa,qs,ql,qh⟩ L).map (fun s=>s.map id some)=some ans:=(if_pos rfl).symm.trans ((if_neg (by decide:¬ (2:Nat)=1)).symm.trans hans)
   cases hA:pX n O.length ⟨2,qa,qs,ql,qh⟩ L with
   | none=>rw[hA] at gB;cases gB
   | some A =>
    rw[hA] at gB
    have hIH:=fun u hu hs=>IH v (.slice ao O.length co) ⟨2,qa,qs,ql,qh⟩ L O A u hu hr hs hO hA
    have HI:=ah hIH
    rw[e0] at HP
    clear hans hIH hA IH e0
    go_enter Tryz.func303,Tryz.ntmps303
    go_wp2_with (go_at_call 278;go_must (refine HP.out.mono ?_;rintro e w1 ⟨rfl,hb1⟩;have h1:=H0.out.kept hb1;have hz1:=hg0.kept hb1;have hs1:=hb1.size))
    refine(HI.out _ h1 (by omega)).mono ?_
    intro e w2 hres
    cases A with
    | inl p =>
     obtain⟨hl,hk2⟩:=hres
     obtain rfl:e=_:=hl
     obtain rfl:=Option.some.inj gB
     exact⟨rfl,rfl,hK0.tr ((aO.below (by omega) hb1).tr hk2)⟩
    | inr p =>
     obtain⟨x,R⟩:=p
     obtain⟨V,v2,FP,rfl,hV,h2,ht2,hk2,hf2⟩:=hres
     obtain rfl:=Option.some.inj gB
     have hk3:=hK0.tr ((aO.below (ov:=.slice ao O.length co) (by omega) hb1).tr hk2)
     have hz2:=hk2.box hz1 (by omega) (fun e=>by have:=HO.out _ e;omega)
     have hs2:=hk2.low.size
     go_wp2_with (refine wpList_store_row rfl 151 (.tmp 2) (.tmp _) rfl w.heap.size _ rfl rfl _ _ hz2 (bP V) (by show 8=V.cells.toArray.size;rw[List.size_toArray,Vt.bK]) V.all ?_)
     have yJ:=pq (b:=w.heap.size) w2 V.cells.toArray
     have hrl:=h2.box.lt
     have ani:FP.ownBlock≠some w.heap.size:=fun e=>by
      rcases hf2 _ e with h | h
      ·have:=HO.out _ h;omega
      ·omega
     have EN:=h2.frame hr (fun b hb=>yJ.block b (by rcases hb with hb | hb;omega;exact(h2.ov b hb).2) (by rintro rfl;rcases hb with hb | hb;omega;exact ani hb))
     have hKF:=yJ.kept hk3 (Nat.le_refl _) (by omega) (by omega)
     have hTF:fB (w2.setRow w.heap.size V.cells.toArray) r FP w.heap.size V:=⟨ht2.lies.fJ (ht2.on.and ht2.lies.on) fun b hb=>yJ.block b hb.2 (by have:=hb.1.1;omega),(ht2.mono (by omega)).on⟩
     exact gy Tryz.results303 rfl rfl (cs:=V.cells.toArray) (hz2.setRow _) Tryz.underlying151 rfl (bP V) rfl (show NZ r base (.slice ao O.length co) O _ w (.inr (some (x,R))) _ _ from⟨V,v2,FP,rfl,hV,EN,hTF,hKF,(eU.refl _ _).trans (by omega) hf2⟩)
  ·have gB:(if 3=3∧O.length=0 then some (.inl (12,qa)) else some (.inr none))=some ans:=by
    rw[if_neg (by decide:¬ (3:Nat)=1),if_neg (by decide:¬ (3:Nat)=2),if_neg (by decide:¬ ((3:Nat)=5∨(3:Nat)=6∨(3:Nat)=7∨(3:Nat)=8))] at hans
    exact hans
   rw[e0] at HP
   clear hans e0
   by_cases hd:O.length=0
   ·rw[if_pos ⟨rfl,hd⟩] at gB
    obtain rfl:=Option.some.inj gB
    have d0:((O.length:Int)==0)=true:=by rw[hd];rfl
    clear hd
    go_enter Tryz.func303,Tryz.ntmps303
    go_wp2_with (first | (go_at_call 278;go_must (refine HP.out.mono ?_;rintro e w1 ⟨rfl,hb1⟩;have h1:=H0.out.kept hb1;have hz1:=hg0.kept hb1;have hs1:=hb1.size;obtain⟨x0,x1⟩:=h1.cells;obtain⟨b,o,cap,n,rfl,hn,hbl,hbne,hy⟩:=h1.head;have y1:=hy 1 _ rfl;have hrl:=h1.box.lt;have hn0:0<n:=by omega)) | (go_at_call 319;go_must (refine(pI 12 qa _).mono ?_;rintro e w2 ⟨hl,hb2⟩;obtain rfl:e=_:=hl)))
    exact⟨rfl,rfl,hK0.tr ((aO.below (by omega) hb1).tr (aO.below (by omega) hb2))⟩
   ·rw[if_neg (fun h=>hd h.2)] at gB
    obtain rfl:=Option.some.inj gB
    have d0:((O.length:Int)==0)=false:=by rw[beq_eq_false_iff_ne];omega
    clear hd
    go_enter Tryz.func303,Tryz.ntmps303
    go_wp2_with (go_at_call 278;go_must (refine HP.out.mono ?_;rintro e w1 ⟨rfl,hb1⟩;have h1:=H0.out.kept hb1;have hz1:=hg0.kept hb1;have hs1:=hb1.size;obtain⟨x0,x1⟩:=h1.cells;have z0:=hz1.cell 0;have z1:=hz1.cell 1;have z2:=hz1.cell 2;have z3:=hz1.cell 3;have z4:=hz1.cell 4;have z5:=hz1.cell 5;have z6:=hz1.cell 6;have z7:=hz1.cell 7;obtain⟨f0,f1,f2,f3,f4,f5,f6,f7⟩:=hz1.vV))
    have yJ:=vZ w.heap.size w1 (.int .i64 0) (.int .u64 0) (.int .u64 0) (.int .u64 0) (.int .u64 0) (.slice none 0 0) (.int .i64 0) (.int .i64 0)
    obtain⟨EN,hKF⟩:=h1.only hr (hK0.tr (aO.below (by omega) hb1)) hb yJ (fun e=>by have:=HO.out _ e;omega)
    exact gy Tryz.results303 rfl rfl (cs:=bI) (E:=151) ((((((((hz1.set 0 (.int .i64 0)).set 1 (.int .u64 0)).set 2 (.int .u64 0)).set 3 (.int .u64 0)).set 4 (.int .u64 0)).set 5 (.slice none 0 0)).set 6 (.int .i64 0)).set 7 (.int .i64 0)) Tryz.underlying151 rfl (by kernel_rfl) rfl (show NZ r base (.slice ao O.length co) O _ w (.inr none) _ _ from⟨rfl,⟨_,EN⟩,hKF⟩)
  ·rw[if_neg (by decide:¬ (4:Nat)=1),if_neg (by decide:¬ (4:Nat)=2),if_neg (by decide:¬ ((4:Nat)=5∨(4:Nat)=6∨(4:Nat)=7∨(4:Nat)=8)),if_neg (fun h=>absurd h.1 (by decide:¬ (4:Nat)=3))] at hans
   obtain rfl:=Option.some.inj hans
   rw[e0] at HP
   clear hans e0
   go_enter Tryz.func303,Tryz.ntmps303
   go_wp2_with (go_at_call 278;go_must (refine HP.out.mono ?_;rintro e w1 ⟨rfl,hb1⟩;have h1:=H0.out.kept hb1;have hz1:=hg0.kept hb1;have hs1:=hb1.size;obtain⟨x0,x1⟩:=h1.cells;have z0:=hz1.cell 0;have z1:=hz1.cell 1;have z2:=hz1.cell 2;have z3:=hz1.cell 3;have z4:=hz1.cell 4;have z5:=hz1.cell 5;have z6:=hz1.cell 6;have z7:=hz1.cell 7;obtain⟨f0,f1,f2,f3,f4,f5,f6,f7⟩:=hz1.vV))
   have yJ:=vZ w.heap.size w1 (.int .i64 0) (.int .u64 0) (.int .u64 0) (.int .u64 0) (.int .u64 0) (.slice none 0 0) (.int .i64 0) (.int .i64 0)
   obtain⟨EN,hKF⟩:=h1.only hr (hK0.tr (aO.below (by omega) hb1)) hb yJ (fun e=>by have:=HO.out _ e;omega)
   exact gy Tryz.results303 rfl rfl (cs:=bI) (E:=151) ((((((((hz1.set 0 (.int .i64 0)).set 1 (.int .u64 0)).set 2 (.int .u64 0)).set 3 (.int .u64 0)).set 4 (.int .u64 0)).set 5 (.slice none 0 0)).set 6 (.int .i64 0)).set 7 (.int .i64 0)) Tryz.underlying151 rfl (by kernel_rfl) rfl (show NZ r base (.slice ao O.length co) O _ w (.inr none) _ _ from⟨rfl,⟨_,EN⟩,hKF⟩)
  ·rw[if_neg (by decide:¬ (5:Nat)=1),if_neg (by decide:¬ (5:Nat)=2),if_pos (by decide:((5:Nat)=5∨(5:Nat)=6∨(5:Nat)=7∨(5:Nat)=8))] at hans
   obtain rfl:=Option.some.inj hans
   rw[e0] at HP
   clear hans e0
   go_enter Tryz.func303,Tryz.ntmps303
   go_wp2_with (first | (go_at_call 278;go_must (refine HP.out.mono ?_;rintro e w1 ⟨rfl,hb1⟩;have h1:=H0.out.kept hb1;have hz1:=hg0.kept hb1;have hs1:=hb1.size;obtain⟨x0,x1⟩:=h1.cells;obtain⟨b,o,cap,n,rfl,hn,hbl,hbne,hy⟩:=h1.head;have y1:=hy 1 _ rfl;have hrl:=h1.box.lt;have hn0:0<n:=by omega)) | (go_at_call 319;go_must (refine(pI 5 qa _).mono ?_;rintro e w2 ⟨hl,hb2⟩;obtain rfl:e=_:=hl)))
   exact⟨rfl,rfl,hK0.tr ((aO.below (by omega) hb1).tr (aO.below (by omega) hb2))⟩
  ·rw[if_neg (by decide:¬ (6:Nat)=1),if_neg (by decide:¬ (6:Nat)=2),if_pos (by decide:((6:Nat)=5∨(6:Nat)=6∨(6:Nat)=7∨(6:Nat)=8))] at hans
   obtain rfl:=Option.some.inj hans
   rw[e0] at HP
   clear hans e0
   go_enter Tryz.func303,Tryz.ntmps303
   go_wp2_with (first | (go_at_call 278;go_must (refine HP.out.mono ?_;rintro e w1 ⟨rfl,hb1⟩;have h1:=H0.out.kept hb1;have hz1:=hg0.kept hb1;have hs1:=hb1.size;obtain⟨x0,x1⟩:=h1.cells;obtain⟨b,o,cap,n,rfl,hn,hbl,hbne,hy⟩:=h1.head;have y1:=hy 1 _ rfl;have hrl:=h1.box.lt;have hn0:0<n:=by omega)) | (go_at_call 319;go_must (refine(pI 5 qa _).mono ?_;rintro e w2 ⟨hl,hb2⟩;obtain rfl:e=_:=hl)))
   exact⟨rfl,rfl,hK0.tr ((aO.below (by omega) hb1).tr (aO.below (by omega) hb2))⟩
  ·rw[if_neg (by decide:¬ (7:Nat)=1),if_neg (by decide:¬ (7:Nat)=2),if_pos (by decide:((7:Nat)=5∨(7:Nat)=6∨(7:Nat)=7∨(7:Nat)=8))] at hans
   obtain rfl:=Option.some.inj hans
   rw[e0] at HP
   clear hans e0
   go_enter Tryz.func303,Tryz.ntmps303
   go_wp2_with (first | (go_at_call 278;go_must (refine HP.out.mono ?_;rintro e w1 ⟨rfl,hb1⟩;have h1:=H0.out.kept hb1;have hz1:=hg0.kept hb1;have hs1:=hb1.size;obtain⟨x0,x1⟩:=h1.cells;obtain⟨b,o,cap,n,rfl,hn,hbl,hbne,hy⟩:=h1.head;have y1:=hy 1 _ rfl;have hrl:=h1.box.lt;have hn0:0<n:=by omega)) | (go_at_call 319;go_must (refine(pI 5 qa _).mono ?_;rintro e w2 ⟨hl,hb2⟩;obtain rfl:e=_:=hl)))
   exact⟨rfl,rfl,hK0.tr ((aO.below (by omega) hb1).tr (aO.below (by omega) hb2))⟩
  ·rw[if_neg (by decide:¬ (8:Nat)=1),if_neg (by decide:¬ (8:Nat)=2),if_pos (by decide:((8:Nat)=5∨(8:Nat)=6∨(8:Nat)=7∨(8:Nat)=8))] at hans
   obtain rfl:=Option.some.inj hans
   rw[e0] at HP
   clear hans e0
   go_enter Tryz.func303,Tryz.ntmps303
   go_wp2_with (first | (go_at_call 278;go_must (refine HP.out.mono ?_;rintro e w1 ⟨rfl,hb1⟩;have h1:=H0.out.kept hb1;have hz1:=hg0.kept hb1;have hs1:=hb1.size;obtain⟨x0,x1⟩:=h1.cells;obtain⟨b,o,cap,n,rfl,hn,hbl,hbne,hy⟩:=h1.head;have y1:=hy 1 _ rfl;have hrl:=h1.box.lt;have hn0:0<n:=by omega)) | (go_at_call 319;go_must (refine(pI 5 qa _).mono ?_;rintro e w2 ⟨hl,hb2⟩;obtain rfl:e=_:=hl)))
   exact⟨rfl,rfl,hK0.tr ((aO.below (by omega) hb1).tr (aO.below (by omega) hb2))⟩
end
section
open Go.RowKit
theorem agG(r base n:Nat)(hn:n≤1099511627776)(IH:∀ m,m<n→Yd r base m):Yc r base n:=by
 intro v ov L O ans w h hr hb hO hans
 have hB0:=aj w (.cells bI 151)
 have h0:=h.kept hB0
 have hg0:=Box.new w bI 151
 have hW0:(w.alloc (.cells bI 151)).heap.size=w.heap.size+1:=by simp
 have Ag:=fun g hg=>(h.ov g hg).2
 have hK0:aO r ov w (w.alloc (.cells bI 151)):=aO.below (Nat.le_of_lt h.box.lt) hB0
 have zn:afj (w.alloc (.cells bI 151)) r base n ov O ans (.slice none 0 0) (w.alloc (.cells bI 151)):=⟨n,none,0,[],v,ov,L,rfl,by simp,lg.nil h0 hr (by omega),hans⟩
 have HO:=ah Ag
 have HQ:=ah zn
 have HI:=ah IH
 clear h0 Ag hB0 h hans zn IH
 go_enter Tryz.func277,Tryz.ntmps277
 go_wp2
 generalize hWW:(w.alloc (.cells bI 151))=W0 at *
 go_loopw [3] (fun p wr=>afj W0 r base n ov O ans p wr) (fun p _=>n - lenOf p)
 case atStart=>exact HQ.out
 case round =>
  clear HQ
  obtain⟨m,a,cap,vs,v1,yI,L1,rfl,hmn,hS,hpp⟩:=hrel
  have hs0:=hS.kept.low.size
  have hrl:=hS.ps.box.lt
  have hz:=hS.kept.box hg0 (by omega) (fun e=>by have:=HO.out _ e;omega)
  cases m with
  | zero=>rw[jJ] at hpp;cases hpp
  | succ m =>
   rw[jY] at hpp
   cases hA:kY m O.length L1 with
   | none=>rw[hA] at hpp;cases hpp
   | some A =>
    rw[hA] at hpp
    have hat:=HI.out m (by omega) v1 yI L1 O A wr hS.ps hr (by omega) hO hA
    have Wp:=ah hpp
    have HAT:=ah hat
    have Wq:=ah hmn
    have IU:=ah hS
    clear hpp hat hA hmn hS
    go_wp2_with fail
    refine HAT.out.mono ?_
    intro e w2 hres
    cases A with
    | inl p =>
     obtain⟨hl,hk2⟩:=hres
     obtain rfl:e=_:=hl
     obtain rfl:=Option.some.inj Wp.out
     exact And.intro rfl (And.intro rfl (hK0.tr (IU.out.kept.trans IU.out.fresh hk2)))
    | inr o =>
     cases o with
     | none =>
      obtain⟨rfl,⟨v2,h2⟩,hk2⟩:=hres
      have hS2:=IU.out.mid hk2 (eU.refl _ _) h2
      have hz2:=hS2.kept.box hg0 (by omega) (fun e=>by have:=HO.out _ e;omega)
      have hans:=Option.some.inj Wp.out
      have arn:=hz2.lt
      by_cases hv0:vs.length=0
      ·rw[List.length_map,if_pos hv0] at hans
       subst hans
       have d0:((vs.length:Int)==0)=true:=by rw[hv0];rfl
       have KW:=ah hS2
       clear hv0 h2 hk2 hS2
       go_wp2_with (first | (go_at_call 305;go_must (refine(XM _).mono ?_;rintro e w4 ⟨V,rfl,hV,hl4,anj,hb4⟩;have wV:=(hz2.alloc _).kept hb4)) | (refine wpList_store_row rfl 151 (.tmp 2) (.tmp _) rfl w.heap.size _ rfl rfl _ _ wV (bP V) (by show 8=V.cells.toArray.size;rw[List.size_toArray,Vt.bK]) (Vt.all V) ?_))
       have hS4:=(KW.out.below (aj w2 (.cells bI 151))).below hb4
       have hs4:=KW.out.kept.low.size
       have hTV:fB w4 r yI W0.heap.size V:=⟨hl4,anj.mono fun b hb=>by
        rw[World.size_alloc] at hb
        exact⟨by omega,by omega,fun e=>by have:=(KW.out.ps.ov _ e).2;omega⟩⟩
       exact fU Tryz.results277 rfl (cs:=V.cells.toArray) (wV.setRow _) Tryz.underlying151 rfl (bP V) rfl (hS4.ret hK0 hW0 HO.out hb hTV (hV.trans rfl) (pq _ _))
      ·rw[List.length_map,if_neg hv0,←RX 4 a cap vs] at hans
       subst hans
       have d0:((vs.length:Int)==0)=false:=by rw[beq_eq_false_iff_ne];omega
       have hS3:=hS2.below (aj w2 (.cells bI 151))
       have hfl:=Lu 4 vs a cap _ hS3.own.slice
       have vC:=ah hfl
       have KW:=ah hS3
       clear hv0 h2 hk2 hS2 hS3 hfl
       go_wp2_with (first | (go_at_call 280;go_must (refine vC.out.mono ?_;rintro e w4 ⟨rfl,hb4⟩;have wV:=(hz2.alloc _).kept hb4)) | (refine wpList_store_row rfl 151 (.tmp 2) (.tmp _) rfl w.heap.size _ rfl rfl _ _ wV (bP (qM 4 a cap vs)) (by show 8=(Vt.cells (qM 4 a cap vs)).toArray.size;rw[List.size_toArray,Vt.bK]) (Vt.all (qM 4 a cap vs)) ?_))
       have hS4:=KW.out.below hb4
       exact fU Tryz.results277 rfl (cs:=(qM 4 a cap vs).cells.toArray) (wV.setRow _) Tryz.underlying151 rfl (bP (qM 4 a cap vs)) rfl (hS4.ret hK0 hW0 HO.out hb (hS4.flat 4 (by decide)) rfl (pq _ _))
     | some q =>
      obtain⟨x,R⟩:=q
      obtain⟨V,v2,FP,rfl,hV,h2,ht2,hk2,hf2⟩:=hres
      have hpp:jJ m O.length (vs.map Vt.tr++[(dR R x).1]) (dR R x).2=some ans:=Wp.out
      have hS2:=IU.out.mid hk2 hf2 h2
      have hB3:Below w2.heap.size w2 ((w2.alloc (.cells bI 151)).setRow w2.heap.size V.cells.toArray):=below_setRow (aj _ _) (Nat.le_refl _) _
      have hx2:=Box.new w2 bI 151
      have hx3:=hx2.setRow V.cells.toArray
      have hs2:=hk2.low.size
      have hpo:=adC r base wr.heap.size v2 FP R O V _ (h2.kept hB3) (ht2.bW hB3) hr (by simp;omega) (by simp;omega)
      have hS3:=hS2.below hB3
      have HPO:=ah hpo
      have HS3:=ah hS3
      have hown1:∀ g,(Value.slice a vs.length cap).ownBlock=some g→g<wr.heap.size:=fun g hg=>(IU.out.lu g hg).2
      have HOW:=ah hown1
      have HP2:=ah hpp
      have hvn:vs.length<n:=by have:=Wq.out;omega
      rw[hV] at HPO
      clear hpo hS3 hS2 hB3 h2 ht2 hk2 hpp hown1
      go_wp2_with (first | (refine wpList_store_row rfl 151 (.tmp 4) (.tmp _) rfl w2.heap.size _ rfl rfl _ _ hx2 (bP V) (by show 8=(Vt.cells V).toArray.size;rw[List.size_toArray,Vt.bK]) (Vt.all V) ?_) | (refine wpList_load_row rfl 151 (.tmp 4) rfl w2.heap.size rfl 151 _ (0,0) _ hx3 Tryz.underlying151 rfl (bP V) ?_) | (go_at_call 304;go_must (refine HPO.out.mono ?_;intro e w4 hpo;obtain⟨k5,s5,a5,cp5,cZ,dh,hi5,v4,rfl,hV4,h4,oI,hk4⟩:=hpo.open;have hS4:=HS3.out.mid hk4 (eU.refl _ _) h4;have hS5:=hS4.below (aj w4 (.cells (aC k5 s5 a5 cZ.length cp5 dh hi5).toArray 151));have vk:=oI.bW (aj w4 (.cells (aC k5 s5 a5 cZ.length cp5 dh hi5).toArray 151));have HV4:=ah hV4;clear hpo hV4)) | (at_builtin;go_must (refine dB rfl _ _ 145 rfl Fv DZ rfl hS5.own.1 ⟨w4.heap.size,0,none⟩ 1 (Vt.mk k5 s5 a5 cp5 cZ dh hi5) rfl (cu w4 (aC k5 s5 a5 cZ.length cp5 dh hi5) _) (by simp[maxLen];omega) (by omega) (by simp;have:=hS4.kept.low.size;omega) ?_;intro a6 c6 w6 wo Ws hf6)))
      have hS6:=hS5.snoc vk hs0 (oI.on.mono fun b hb e=>by have:=HOW.out b e;omega) wo Ws hf6
      have e4:=HV4.out
      have hmn:=Wq.out
      refine⟨⟨m,a6,c6,_,v4,FP,(dR R x).2,by rw[List.length_append];rfl,by rw[List.length_append,List.length_singleton];omega,hS6,?_⟩,?_⟩
      ·rw[List.map_append,List.map_singleton,e4];exact HP2.out
      ·show n - (vs.length+1)<n - vs.length
       omega
end
section
open Go.RowKit
theorem JM.open{r base:Nat}{ov:Value}{O:List Int}{w w':World}{q:Tr×List Lx}{e:Ending}(h:JM r base ov O w (.inr q) e w'):∃ k s a cap kids lo hi v pW,e=.returned (.agg (aC k s a (List.length kids) cap lo hi).toArray)∧(Vt.mk k s a cap kids lo hi).tr=q.1∧dQ w' r base v q.2 pW O∧fB w' r pW w.heap.size (.mk k s a cap kids lo hi)∧aO r ov w w'∧eU w ov pW:=by
 obtain⟨⟨k,s,a,cap,kids,lo,hi⟩,v,pW,h⟩:=h
 exact⟨k,s,a,cap,kids,lo,hi,v,pW,h⟩
theorem aaC{m d:Nat}{parts:List Tr}{L:List Lx}(h:¬ iV L=4):N7 m d parts L=some (.inr (Bl 5 parts,L)):=by
 cases L with
 | nil=>rfl
 | cons q L=>exact if_neg h
theorem ahX(r base n:Nat)(hn:n≤1099511627776)(IH:∀ m,m<n→Yc r base m):ady r base n:=by
 intro v ov L O ans w h hr hb hO hans
 have hB0:=aj w (.cells bI 151)
 have h0:=h.kept hB0
 have hg0:=Box.new w bI 151
 have hW0:(w.alloc (.cells bI 151)).heap.size=w.heap.size+1:=by simp
 have Ag:=fun g hg=>(h.ov g hg).2
 have hK0:aO r ov w (w.alloc (.cells bI 151)):=aO.below (Nat.le_of_lt h.box.lt) hB0
 have HO:=ah Ag
 cases n with
 | zero=>rw[jc] at hans;cases hans
 | succ n =>
  rw[lQ] at hans
  cases hA:jJ n O.length [] L with
  | none=>rw[hA] at hans;cases hans
  | some A =>
   rw[hA] at hans
   have hat:=IH n (by omega) v ov L O A _ h0 hr (by omega) hO hA
   have HAT:=ah hat
   have HI:=ah IH
   have lC:=ah hans
   clear h0 Ag hB0 h IH hat hans hA
   go_enter Tryz.func224,Tryz.ntmps224
   go_wp2_with fail
   refine HAT.out.mono ?_
   generalize hWW:(w.alloc (.cells bI 151))=W0 at *
   intro e w2 hres
   cases A with
   | inl p =>
    obtain⟨hl,hk2⟩:=hres
    obtain rfl:e=_:=hl
    obtain rfl:=Option.some.inj lC.out
    exact And.intro rfl (And.intro rfl (hK0.tr hk2))
   | inr p =>
    obtain⟨x,R⟩:=p
    obtain⟨k5,s5,a5,cp5,cZ,dh,hi5,v2,FP,rfl,hV,h2,ht2,hk2,hf2⟩:=hres.open
    have hpt:=lg.one h2 hk2 hf2 hr (by omega) ht2
    have zn:ahR W0 r base (n+1) ov O ans (.slice (some ⟨w2.heap.size,0,none⟩) 1 1) (w2.alloc (.cells (aC k5 s5 a5 cZ.length cp5 dh hi5).toArray 151)):=⟨n,_,1,[.mk k5 s5 a5 cp5 cZ dh hi5],v2,FP,R,rfl,rfl,hpt,by rw[List.map_singleton,hV];exact lC.out⟩
    have HQ:=ah zn
    clear hres hpt zn lC HAT h2 ht2 hk2 hf2 hV
    go_wp2
    go_loopw [3] (fun p wr=>ahR W0 r base (n+1) ov O ans p wr) (fun p _=>n+1 - lenOf p)
    case atStart=>exact HQ.out
    case round =>
     clear HQ
     obtain⟨m,a,cap,vs,v1,yI,L1,rfl,hmn,hS,hpp⟩:=hrel
     have hs0:=hS.kept.low.size
     have hrl:=hS.ps.box.lt
     have hz:=hS.kept.box hg0 (by omega) (fun e=>by have:=HO.out _ e;omega)
     have hpk:=Hw r base v1 yI L1 O wr hS.ps
     have HP:=ah hpk
     have IU:=ah hS
     have Wq:=ah hmn
     clear hpk hmn hS
     by_cases FN:iV L1=4
     ·obtain⟨q,L1,rfl⟩:∃ q L',L1=q::L':=by
       cases L1 with
       | nil=>cases FN
       | cons q L=>exact⟨q,L,rfl⟩
      have Cj:jc m O.length (vs.map Vt.tr) L1=some ans:=(if_pos FN).symm.trans hpp
      rw[FN] at HP
      cases m with
      | zero=>rw[jc] at Cj;cases Cj
      | succ m =>
       rw[lQ] at Cj
       cases hA:jJ m O.length [] L1 with
       | none=>rw[hA] at Cj;cases Cj
       | some A =>
        rw[hA] at Cj
        have Wp:=ah Cj
        have hat:=fun v' u hu hs=>HI.out m (by have:=Wq.out;omega) v' yI L1 O A u hu hr hs hO hA
        have HAT:=ah hat
        clear hpp Cj hA hat FN
        go_wp2_with (first | (go_at_call 278;go_must (refine HP.out.mono ?_;rintro e w3 ⟨rfl,hb3⟩;have hS3:=IU.out.below hb3;have hs3:=hb3.size)) | (go_at_call 279;go_must (refine(uZ r base _ yI q L1 O _ hS3.ps hr (by omega)).mono ?_;rintro e w4 ⟨rfl,⟨v4,h4⟩,hk4⟩;have hS4:=hS3.mid hk4 (eU.refl _ _) h4;have hs4:=hk4.low.size)))
        refine(HAT.out v4 _ h4 (by omega)).mono ?_
        intro e w5 hres
        cases A with
        | inl p =>
         obtain⟨hl,hk5⟩:=hres
         obtain rfl:e=_:=hl
         obtain rfl:=Option.some.inj Wp.out
         exact And.intro rfl (And.intro rfl (hK0.tr (hS4.kept.trans hS4.fresh hk5)))
        | inr p =>
         obtain⟨x,R⟩:=p
         obtain⟨k5,s5,a5,cp5,cZ,dh,hi5,v5,ov5,rfl,hV,h5,oJ,hk5,hf5⟩:=hres.open
         have hS5:=hS4.mid hk5 hf5 h5
         have hS6:=hS5.below (aj w5 (.cells (aC k5 s5 a5 cZ.length cp5 dh hi5).toArray 151))
         have Dl:=oJ.bW (aj w5 (.cells (aC k5 s5 a5 cZ.length cp5 dh hi5).toArray 151))
         have hown1:∀ g,(Value.slice a vs.length cap).ownBlock=some g→g<w4.heap.size:=fun g hg=>(hS4.lu g hg).2
         have HOW:=ah hown1
         have HV:=ah hV
         have hvn:vs.length<n+1:=by have:=Wq.out;omega
         have hs6:=hS5.kept.low.size
         have ank:=hS4.kept.low.size
         clear hown1 hV hres h5 hk5 hf5 hS4 h4 hk4 hS3 hb3
         go_wp2_with (at_builtin;go_must (refine dB rfl _ _ 145 rfl Fv DZ rfl hS6.own.1 ⟨w5.heap.size,0,none⟩ 1 (Vt.mk k5 s5 a5 cp5 cZ dh hi5) rfl (cu w5 (aC k5 s5 a5 cZ.length cp5 dh hi5) _) (by simp[maxLen];omega) (by omega) (by simp;omega) ?_;intro a7 c7 w7 fC bZ nP))
         have hS7:=hS6.snoc Dl ank (oJ.on.mono fun b hb e=>by have:=HOW.out b e;omega) fC bZ nP
         have e4:=HV.out
         have hmn:=Wq.out
         refine⟨⟨m,a7,c7,_,v5,ov5,R,by rw[List.length_append];rfl,by rw[List.length_append,List.length_singleton];omega,hS7,?_⟩,?_⟩
         ·rw[List.map_append,List.map_singleton,e4];exact Wp.out
         ·show n+1 - (vs.length+1)<n+1 - vs.length
          omega
     ·rw[aaC FN,←RX 5 a cap vs] at hpp
      obtain rfl:=Option.some.inj hpp
      have n4:((iV L1:Int)==4)=false:=by rw[beq_eq_false_iff_ne];omega
      clear FN hpp
      have hfl:=fun u (hu:lg W0 r base ov O a cap vs v1 yI L1 u)=>Lu 5 vs a cap u hu.own.slice
      have vC:=ah hfl
      clear hfl
      generalize hpl:iV L1=pk at *
      go_wp2_with (first | (go_at_call 278;go_must (refine HP.out.mono ?_;rintro e w3 ⟨rfl,hb3⟩;have hS3:=IU.out.below hb3;have hz3:=hz.kept hb3)) | (go_at_call 280;go_must (refine(vC.out _ hS3).mono ?_;rintro e w4 ⟨rfl,hb4⟩;have wV:=hz3.kept hb4)) | (refine wpList_store_row rfl 151 (.tmp 2) (.tmp _) rfl w.heap.size _ rfl rfl _ _ wV (bP (qM 5 a cap vs)) (by show 8=(Vt.cells (qM 5 a cap vs)).toArray.size;rw[List.size_toArray,Vt.bK]) (Vt.all (qM 5 a cap vs)) ?_))
      have hS4:=hS3.below hb4
      exact fU Tryz.results224 rfl (cs:=(qM 5 a cap vs).cells.toArray) (wV.setRow _) Tryz.underlying151 rfl (bP (qM 5 a cap vs)) rfl (hS4.ret hK0 hW0 HO.out hb (hS4.flat 5 (by decide)) rfl (pq _ _))
theorem ahY(r base:Nat):∀ n,n≤1099511627776→ady r base n∧Yc r base n∧Yd r base n:=by
 intro n
 induction n using Nat.strongRecOn with
 | ind n ih =>
  intro hn
  refine⟨ahX r base n hn fun m hm=>(ih m hm (by omega)).2.1,agG r base n hn fun m hm=>(ih m hm (by omega)).2.2,?_⟩
  cases n with
  | zero =>
   intro v ov L O ans w _ _ _ _ h
   rw[kY] at h;cases h
  | succ n=>exact agF r base n (adz r base n (ih n (by omega) (by omega)).1)
end
section
open Go.RowKit
theorem Si(c:Nat)(h:mZ c≠0):2≤mZ c∧mZ c<8:=by
 unfold mZ at h ⊢
 repeat' split
 all_goals simp_all
theorem Sj{l:List UInt8}{i j:Nat}{x:Lx}(h:ng l i=.inr (x,j)):qx x:=by
 unfold ng at h
 dsimp only at h
 split at h
 ·cases h
 split at h
 ·cases h
 split at h
 ·cases h;exact .inl ⟨rfl,rfl,rfl⟩
 ·rename_i hk;cases h;exact .inr (.inl ⟨(Si _ hk).1,(Si _ hk).2,rfl,rfl,rfl⟩)
theorem Qk(l:List UInt8):∀ (n i:Nat) (acc X:List Lx),(∀ x∈acc,qx x)→lexFrom l n i acc=.inr X→∀ x∈X,qx x:=by
 intro n
 induction n with
 | zero=>intro i acc X ha h;rw[lexFrom] at h;cases h;exact ha
 | succ n ih =>
  intro i acc X ha h
  rw[lexFrom] at h
  split at h
  ·split at h
   ·cases h
   ·rename_i y k hq
    refine ih _ _ _ (fun x hx=>?_) h
    rcases List.mem_append.1 hx with hx | hx
    ·exact ha x hx
    ·rw[List.mem_singleton.1 hx];exact Sj hq
  ·cases h;exact ha
theorem Sl{l:List UInt8}{X:List Lx}(h:jM l=.inr X):∀ x∈X,qx x:=by
 unfold jM at h
 split at h
 ·cases h
 ·exact Qk l _ _ _ _ (fun x hx=>by cases hx) h
theorem aaD(p:Nat)(s:aA)(w:World):Calls Tryz.prog 276 #[.agg #[.int .i64 1,.int .i64 p,.int .u64 (word s 0:Nat),.int .u64 (word s 1:Nat),.int .u64 (word s 2:Nat),.int .u64 (word s 3:Nat),.int .i64 0,.int .i64 0]] w (bM w (.bool true)):=by
 have e1:decide ((p:Int)<0)=false:=by simp
 go_enter Tryz.func276,Tryz.ntmps276
 go_wp2
 go_ret
 exact⟨rfl,by go_grown⟩
theorem Ye(k p:Nat)(h1:2≤k)(h2:k<8)(w:World):Calls Tryz.prog 276 #[.agg #[.int .i64 k,.int .i64 p,.int .u64 0,.int .u64 0,.int .u64 0,.int .u64 0,.int .i64 0,.int .i64 0]] w (bM w (.bool true)):=by
 have e1:decide ((p:Int)<0)=false:=by simp
 have e2:((k:Int) != 1)=true:=by simp;omega
 have e3:((k:Int)==8)=false:=by simp;omega
 have e4:decide ((1:Int)≤k)=true:=decide_eq_true (by omega)
 have e5:decide ((k:Int)<8)=true:=decide_eq_true (by omega)
 have hq:=fun w=>NQ (P:=Tryz.prog) (t:=149) (e:=147) Tryz.underlying149 Tryz.underlying147 (by kernel_rfl) 0 0 w
 simp only[oh,lI] at hq
 go_enter Tryz.func276,Tryz.ntmps276
 go_wp2
 go_ret
 exact⟨rfl,by go_grown⟩
theorem Yf(p:Nat)(lo hi:Int)(h0:0≤lo)(h1:lo≤1000)(h2:hi=-1)(w:World):Calls Tryz.prog 276 #[.agg #[.int .i64 8,.int .i64 p,.int .u64 0,.int .u64 0,.int .u64 0,.int .u64 0,.int .i64 lo,.int .i64 hi]] w (bM w (.bool true)):=by
 have e1:decide ((p:Int)<0)=false:=by simp
 have e2:decide ((0:Int)≤lo)=true:=decide_eq_true h0
 have e3:decide (lo≤(1000:Int))=true:=decide_eq_true h1
 subst h2
 have hq:=fun w=>NQ (P:=Tryz.prog) (t:=149) (e:=147) Tryz.underlying149 Tryz.underlying147 (by kernel_rfl) 0 0 w
 simp only[oh,lI] at hq
 go_enter Tryz.func276,Tryz.ntmps276
 go_wp2
 go_ret
 exact⟨rfl,by go_grown⟩
theorem Yg(p:Nat)(lo hi:Int)(h0:0≤lo)(h1:lo≤1000)(h2:lo≤hi)(h3:hi≤1000)(w:World):Calls Tryz.prog 276 #[.agg #[.int .i64 8,.int .i64 p,.int .u64 0,.int .u64 0,.int .u64 0,.int .u64 0,.int .i64 lo,.int .i64 hi]] w (bM w (.bool true)):=by
 have e1:decide ((p:Int)<0)=false:=by simp
 have e2:decide ((0:Int)≤lo)=true:=decide_eq_true h0
 have e3:decide (lo≤(1000:Int))=true:=decide_eq_true h1
 have e4:(hi==-1)=false:=by simp;omega
 have e5:decide (lo≤hi)=true:=decide_eq_true h2
 have e6:decide (hi≤(1000:Int))=true:=decide_eq_true h3
 have hq:=fun w=>NQ (P:=Tryz.prog) (t:=149) (e:=147) Tryz.underlying149 Tryz.underlying147 (by kernel_rfl) 0 0 w
 simp only[oh,lI] at hq
 go_enter Tryz.func276,Tryz.ntmps276
 go_wp2
 go_ret
 exact⟨rfl,by go_grown⟩
theorem aaE(x:Lx)(h:qx x)(w:World):Calls Tryz.prog 276 #[.agg (gJ x).toArray] w (bM w (.bool true)):=by
 obtain⟨k,p,s,lo,hi⟩:=x
 rcases h with⟨h1,h2,h3⟩ | ⟨h1,h2,h3,h4,h5⟩ | ⟨h1,h2,h3,h4,h5⟩
 ·dsimp only at h1 h2 h3
  subst h1 h2 h3
  exact aaD p s w
 ·dsimp only at h1 h2 h3 h4 h5
  subst h3 h4 h5
  have:=Ye k p h1 h2 w
  simp only[gJ,qQ]
  exact this
 ·dsimp only at h1 h2 h3 h4 h5
  subst h1 h2
  simp only[gJ,qQ]
  rcases h5 with h5 | ⟨h5,h6⟩
  ·exact Yf p lo hi h3 h4 h5 w
  ·exact Yg p lo hi h3 h4 h5 h6 w
end
section
open Go.RowKit
theorem O5{w wr:World}{b o i:Nat}{x:Lx}(h:∀ j u,(gJ x)[j]?=some u→w.cell? ⟨b,o+i*8+j,none⟩=some u)(hB:Below w.heap.size w wr):∀ j u,(gJ x)[j]?=some u→wr.cell? ⟨b,o+i*8+j,none⟩=some u:=fun j u hu=>by
 have:=h j u hu
 rw[hB.cell (World.block_lt_of_cell? w _ this)];exact this
theorem Vk(a:Option Addr)(cap n:Nat)(L:List Lx)(w:World)(h:ak w (.slice a n cap) 8 gJ L)(hR:∀ x∈L,qx x) :
  Calls Tryz.prog 222 #[.slice a n cap] w (bM w (if 1024<L.length then gQ 4 (L.getD 1024 ⟨0,0,0,0,0⟩).at' else gQ 0 0)):=by
 obtain⟨b,o,hn,hcap,hcap2,ha,hx⟩:=h.open
 have HX:=ah hx
 have HA:=ah ha
 have HR:=ah hR
 have HN:=ah hn
 clear hx ha hR h
 have hb0:Below w.heap.size w (w.alloc (.cells #[.int .i64 0,.int .i64 0] 88)):=by go_grown
 have hx0:=Box.new w #[.int .i64 0,.int .i64 0] 88
 clear hn
 have aq5:n≤cap:=by rw[HN.out];exact hcap
 clear hcap
 obtain⟨ANS,hans⟩:∃ ANS,(if 1024<L.length then gQ 4 (L.getD 1024 ⟨0,0,0,0,0⟩).at' else gQ 0 0)=ANS:=⟨_,rfl⟩
 rw[hans]
 have HAN:=ah hans
 clear hans
 go_enter Tryz.func222,Tryz.ntmps222
 go_wp2
 go_loopw [7] (fun i wr=>∃ j:Nat,j≤n∧i=.int .i64 j∧Box wr w.heap.size #[.int .i64 0,.int .i64 0] 88∧Below w.heap.size w wr) (fun i _=>n - (intOf i).toNat)
 case atStart=>exact⟨0,Nat.zero_le _,rfl,hx0,hb0⟩
 case round =>
  clear hx0 hb0
  obtain⟨j,hj,rfl,hX,hB⟩:=hrel
  by_cases hlt:j<n
  ·have hjl:j<L.length:=by rw[←HN.out];exact hlt
   obtain rfl:=HA.out j hjl
   have y:=O5 (HX.out j hjl) hB
   have y0:=y 0 _ rfl
   have y1:=y 1 _ rfl
   have y2:=y 2 _ rfl
   have y3:=y 3 _ rfl
   have y4:=y 4 _ rfl
   have y5:=y 5 _ rfl
   have y6:=y 6 _ rfl
   have y7:=y 7 _ rfl
   have hbl:=World.block_lt_of_cell? wr _ y0
   have hrt:=aaE L[j] (HR.out _ (List.getElem_mem hjl))
   simp only[Nat.add_zero] at y0
   have O6:=ah hrt
   clear y hrt
   generalize L[j]=x at *
   clear hjl
   go_wp2_with (go_at_call 276;go_must (refine(O6.out _).mono ?_;rintro e w1 ⟨rfl,hb1⟩))
   go_roundw
   case rel=>exact⟨j+1,hlt,by go_num,(hX.alloc _).kept hb1,(hB.trans ((aj wr _).mono hB.size)).trans (hb1.mono (by have:=hB.size;simp;omega))⟩
   case measure=>simp[intOf];omega
  ·have hans:=HAN.out
   have hnl:=HN.out
   have f0:=hX.free 0
   have f1:=hX.free 1
   have c0:=hX.cell 0
   have c1:=hX.cell 1
   by_cases hbig:1024<n
   ·have hjl:1024<L.length:=by rw[←HN.out];exact hbig
    obtain rfl:=HA.out 1024 hjl
    rw[if_pos hjl,List.getD_eq_getElem?_getD,List.getElem?_eq_getElem hjl,Option.getD_some] at hans
    have y1:=O5 (HX.out 1024 hjl) hB 1 _ rfl
    have hbl:=World.block_lt_of_cell? wr _ y1
    subst hans
    generalize L[1024]=x at *
    clear hjl hnl
    go_wp2
    exact fU Tryz.results222 rfl (cs:=#[.int .i64 4,.int .i64 x.at']) ((hX.set 0 _).set 1 _) Tryz.underlying88 rfl (by kernel_rfl) rfl ⟨rfl,(hB.setCell (by simp) _).setCell (by simp) _⟩
   ·rw[if_neg (by omega)] at hans
    subst hans
    clear hnl
    go_wp2
    exact fU Tryz.results222 rfl (cs:=#[.int .i64 0,.int .i64 0]) ((hX.set 0 _).set 1 _) Tryz.underlying88 rfl (by kernel_rfl) rfl ⟨rfl,(hB.setCell (by simp) _).setCell (by simp) _⟩
end
end Go.Proofs.YtbemonecmmnlcaaGreatDoor
