/- The texts of S12, in few letters (mini.py). -/
import Derived.Test.YtbemonecmmnlcaaGreatDoorM11
set_option linter.unusedVariables false
set_option linter.unusedSimpArgs false
set_option maxRecDepth 20000
set_option maxHeartbeats 3200000
namespace Go.Proofs.YtbemonecmmnlcaaGreatDoor
section
open Go.RowKit
theorem uX(k:Int)(ps:Nat)(V:Vt)(w:World)(h:Box w ps V.cells.toArray 151) :
  Calls Tryz.prog 320 #[.int .i64 k,.pointer (some ⟨ps,0,none⟩)] w (fun e w'=>∃ V',e=.returned (.agg V'.cells.toArray)∧Hid (V'=Vt.mk k 0 (some ⟨w.heap.size+1,0,none⟩) 1 [V] 0 0)∧ak w' (.slice (some ⟨w.heap.size+1,0,none⟩) 1 1) 8 Vt.cells [V]∧Below w.heap.size w w') :=
 (Ui k ps V w h).mono fun _ _ ⟨h1,h2,h3⟩=>⟨.mk k 0 (some ⟨w.heap.size+1,0,none⟩) 1 [V] 0 0,h1,ah rfl,h2,h3⟩
theorem ZG(r base m:Nat)(v ov:Value)(L:List Lx)(O:List Int)(V:Vt)(w:World)(h:dA w r base v L ov O)(hT:dM w r ov m V)(hr:r<base)(hb:base≤w.heap.size)(hm:m≤w.heap.size) :
  Calls Tryz.prog 304 #[.pointer (some ⟨r,0,none⟩),.agg V.cells.toArray] w (MX r base m ov O w (dB L V.tr)):=by
 have hB0:Below w.heap.size w ((w.alloc (.cells V.cells.toArray 151)).alloc (.cells aX 151)):=((Below.refl _ w).alloc (Nat.le_refl _) _).alloc (by simp) _
 have Ah:PoI w r base m ov O (dB L V.tr) ((w.alloc (.cells V.cells.toArray 151)).alloc (.cells aX 151)) :=
  ⟨L,V,⟨(Box.new _ _ _).alloc _,Box.new' (by simp) _ _,⟨v,h.kept hB0⟩,hT.dh hB0,hT.lies.on.mono fun b hb=>⟨by omega,by omega⟩,aH.below (by omega) hB0,⟨hr,hb,hm⟩,fun g hg=>(h.ov g hg).2⟩,rfl⟩
 obtain⟨ANS,hA⟩:∃ ANS,dB L V.tr=ANS:=⟨_,rfl⟩
 rw[hA] at Ah ⊢
 clear hA hB0 h hT
 obtain⟨k1,s1,a1,yK,wG,lo1,hi1⟩:=V
 have HQ:=ah Ah
 clear Ah
 go_enter Tryz.func304,Tryz.ntmps304
 go_wp2
 go_loopw [] (fun wr=>PoI w r base m ov O ANS wr) (fun wr=>MW r wr)
 case atStart=>exact HQ.out
 case round =>
  clear HQ
  obtain⟨L,V,hS,hans⟩:=hrel
  obtain⟨v1,hP⟩:=hS.ps
  have hsz:=hS.z.lt
  have hm0:=xQ hP
  have hpk:=ED r base v1 ov L O wr hP
  by_cases hstop:iC L=5∨iC L=6∨iC L=7∨iC L=8
  ·obtain⟨q,L,rfl⟩:∃ q L',L=q::L':=by
    cases L with
    | nil=>simp[iC] at hstop
    | cons q L=>exact⟨q,L,rfl⟩
   have hok:=hP.ok q (by simp)
   have hml:MW r wr=L.length+1:=by rw[hm0];rfl
   obtain⟨qk,qa,qs,ql,qh⟩:=q
   have hq:iC (⟨qk,qa,qs,ql,qh⟩::L)=qk:=rfl
   rw[hq] at hstop hpk
   rcases hstop with rfl | rfl | rfl | rfl
   ·have fC:dB L (.mk 6 0 [V.tr] 0 0)=ANS:=by rw[←hans,nS];rfl
    have HP:=ah hpk
    have HS:=ah hS
    clear hpk hS hans hP hm0 hok hq
    go_wp2_with (first | (go_at_call 278;go_must (refine HP.out.mono ?_;rintro e w1 ⟨rfl,hb1⟩;have hS1:=HS.out.below hb1;have hx1:=hS1.x;have hsz1:=hS1.z.lt)) | (go_at_call 320;go_must (refine(uX 6 w.heap.size V w1 hx1).mono ?_;rintro e w2 ⟨V2,rfl,hV2,hs2,hb2⟩;have hS3:jO w r base m ov O (⟨5,qa,qs,ql,qh⟩::L) V2 (w2.setRow w.heap.size V2.cells.toArray):=hV2.out.symm▸hS1.over hb2 6 (by decide) hs2;have hx2:=hx1.kept hb2;obtain⟨v3,hP3⟩:=hS3.ps;have hsz3:=hS3.z.lt)) | (refine wpList_store_row rfl 151 (.tmp 3) (.tmp _) rfl w.heap.size _ rfl rfl _ _ hx2 (bg V2) (by rw[List.size_toArray,List.size_toArray,Vt.aY,Vt.aY]) V2.all ?_) | (go_at_call 279;go_must (refine(rC r base _ ov _ L O _ hP3 hr (by omega)).mono ?_;rintro e w4 ⟨rfl,⟨v4,vU⟩,hk4⟩)))
    have hS4:=hS3.next hk4 vU
    have hm4:=xQ vU
    clear hS3 hP3 hx2 hx1 hS1 HS HP
    go_wp2
    go_roundw
    case rel=>exact⟨L,V2,hS4,by rw[hV2.out,EF];exact fC⟩
    case measure=>rw[hm4,hml];omega
   ·have fC:dB L (.mk 7 0 [V.tr] 0 0)=ANS:=by rw[←hans,nS];rfl
    have HP:=ah hpk
    have HS:=ah hS
    clear hpk hS hans hP hm0 hok hq
    go_wp2_with (first | (go_at_call 278;go_must (refine HP.out.mono ?_;rintro e w1 ⟨rfl,hb1⟩;have hS1:=HS.out.below hb1;have hx1:=hS1.x;have hsz1:=hS1.z.lt)) | (go_at_call 320;go_must (refine(uX 7 w.heap.size V w1 hx1).mono ?_;rintro e w2 ⟨V2,rfl,hV2,hs2,hb2⟩;have hS3:jO w r base m ov O (⟨6,qa,qs,ql,qh⟩::L) V2 (w2.setRow w.heap.size V2.cells.toArray):=hV2.out.symm▸hS1.over hb2 7 (by decide) hs2;have hx2:=hx1.kept hb2;obtain⟨v3,hP3⟩:=hS3.ps;have hsz3:=hS3.z.lt)) | (refine wpList_store_row rfl 151 (.tmp 3) (.tmp _) rfl w.heap.size _ rfl rfl _ _ hx2 (bg V2) (by rw[List.size_toArray,List.size_toArray,Vt.aY,Vt.aY]) V2.all ?_) | (go_at_call 279;go_must (refine(rC r base _ ov _ L O _ hP3 hr (by omega)).mono ?_;rintro e w4 ⟨rfl,⟨v4,vU⟩,hk4⟩)))
    have hS4:=hS3.next hk4 vU
    have hm4:=xQ vU
    clear hS3 hP3 hx2 hx1 hS1 HS HP
    go_wp2
    go_roundw
    case rel=>exact⟨L,V2,hS4,by rw[hV2.out,EF];exact fC⟩
    case measure=>rw[hm4,hml];omega
   ·have fC:dB L (.mk 8 0 [V.tr] 0 0)=ANS:=by rw[←hans,nS];rfl
    have HP:=ah hpk
    have HS:=ah hS
    clear hpk hS hans hP hm0 hok hq
    go_wp2_with (first | (go_at_call 278;go_must (refine HP.out.mono ?_;rintro e w1 ⟨rfl,hb1⟩;have hS1:=HS.out.below hb1;have hx1:=hS1.x;have hsz1:=hS1.z.lt)) | (go_at_call 320;go_must (refine(uX 8 w.heap.size V w1 hx1).mono ?_;rintro e w2 ⟨V2,rfl,hV2,hs2,hb2⟩;have hS3:jO w r base m ov O (⟨7,qa,qs,ql,qh⟩::L) V2 (w2.setRow w.heap.size V2.cells.toArray):=hV2.out.symm▸hS1.over hb2 8 (by decide) hs2;have hx2:=hx1.kept hb2;obtain⟨v3,hP3⟩:=hS3.ps;have hsz3:=hS3.z.lt)) | (refine wpList_store_row rfl 151 (.tmp 3) (.tmp _) rfl w.heap.size _ rfl rfl _ _ hx2 (bg V2) (by rw[List.size_toArray,List.size_toArray,Vt.aY,Vt.aY]) V2.all ?_) | (go_at_call 279;go_must (refine(rC r base _ ov _ L O _ hP3 hr (by omega)).mono ?_;rintro e w4 ⟨rfl,⟨v4,vU⟩,hk4⟩)))
    have hS4:=hS3.next hk4 vU
    have hm4:=xQ vU
    clear hS3 hP3 hx2 hx1 hS1 HS HP
    go_wp2
    go_roundw
    case rel=>exact⟨L,V2,hS4,by rw[hV2.out,EF];exact fC⟩
    case measure=>rw[hm4,hml];omega
   ·have fC:dB L (.mk 9 0 [V.tr] ql qh)=ANS:=by rw[←hans,nS];rfl
    have hlo:I64 ql∧I64 qh:=by
     rcases hok with h | h | h
     ·exact absurd (show(8:Nat)=1 from h.1) (by decide)
     ·have:=h.2.1;simp at this
     ·obtain⟨_,_,h1,h2,h3⟩:=h
      simp only at h1 h2 h3
      exact⟨⟨by omega,by omega⟩,by rcases h3 with h3 | h3 <;> exact⟨by omega,by omega⟩⟩
    have HP:=ah hpk
    have HS:=ah hS
    clear hpk hS hans hP hm0 hok hq
    go_wp2_with (first | (go_at_call 278;go_must (refine HP.out.mono ?_;rintro e wp ⟨rfl,hb1⟩;have hS1:=HS.out.below hb1;have hx1:=hS1.x;have hsz1:=hS1.z.lt)) | (go_at_call 320;go_must (refine(uX 9 w.heap.size V wp hx1).mono ?_;rintro e w2 ⟨V2,rfl,hV2,hs2,hb2⟩;have hS3:jO w r base m ov O (⟨8,qa,qs,ql,qh⟩::L) V2 (w2.setRow w.heap.size V2.cells.toArray):=hV2.out.symm▸hS1.over hb2 9 (by decide) hs2;have hx2:=hx1.kept hb2;have hsz3:=hS3.z.lt)) | (refine wpList_store_row rfl 151 (.tmp 3) (.tmp _) rfl w.heap.size _ rfl rfl _ _ hx2 (bg V2) (by rw[List.size_toArray,List.size_toArray,Vt.aY,Vt.aY]) V2.all ?_))
    obtain⟨v3,hP3⟩:=hS3.ps
    obtain⟨x0,x1⟩:=hP3.cells
    obtain⟨b,o,cap,n,rfl,hn,hbl,hbne,hy⟩:=hP3.head
    have HF:Hid (∀ u,Bv w.heap.size 6 (.int .i64 ql) (w2.setRow w.heap.size V2.cells.toArray).drew u→u.cell? ⟨r,0,none⟩=some (.slice (some ⟨b,o,none⟩) n cap)∧(∀ j x,(fE ⟨8,qa,qs,ql,qh⟩)[j]?=some x→u.cell? ⟨b,o+j,none⟩=some x)∧b<u.heap.size∧r<u.heap.size):=ah fun u hl=>by
     have e1:=hl.only.size
     refine⟨?_,fun j x hx=>?_,Nat.lt_of_lt_of_le hbl e1,Nat.lt_of_lt_of_le hP3.box.lt e1⟩
     ·rw[World.cell?_of_block (hl.only.block r hP3.box.lt (by omega))];exact x0
     ·rw[World.cell?_of_block (a:=⟨b,o+j,none⟩) (hl.only.block b hbl (by omega))];exact hy j x hx
    have hx3:Box (w2.setRow w.heap.size V2.cells.toArray).drew w.heap.size V2.cells.toArray 151:=hS3.x
    have HX:=ah hx3
    clear x0 x1 hx3 hx2 hx1 HS HP hS1 hy
    have H3:=ah hS3
    have hn0:0<n:=by omega
    clear hS3 hP3
    refine aW (R:=Bv w.heap.size 6 (.int .i64 ql)) 17 (by kernel_rfl) ?_
    refine pl [0,1,2,3,4,5,6,7,8,9,10,11,12,13,14] ?_
    repeat
     refine jW ?_ rfl (fun w1 hl=>?_) ?_
     rotate_left
     ·obtain⟨x0,y,hbl,hrl⟩:=HF.out w1 hl;have y3:=y 3 _ rfl;have y4:=y 4 _ rfl;have y5:=y 5 _ rfl;have y6:=y 6 _ rfl;have y7:=y 7 _ rfl;go_simp;try with_reducible rfl
     simp only[eA,eB,eC,Act.put,eD,eE,eF]
    refine eX ?_
    refine aQ (t:=17) (i:=15) (by kernel_rfl) rfl (fun w1 hl K hK=>?_)
    obtain⟨c5,hx5,e5,t5,_⟩:=hl.turn _ _ HX.out
    have k5:c5[6]?≠none:=by rw[Ne,Array.getElem?_eq_none_iff,e5,List.size_toArray,Vt.aY];omega
    obtain⟨z5,Xb⟩:=Option.ne_none_iff_exists'.1 k5
    have y6:=(hx5.cell 6).trans Xb
    have f6:=hx5.free 6
    have rE:Bv w.heap.size 6 (.int .i64 ql) w1 _:=Bv.set w1
    have hl5:=(Oz _ _ _).trans _ _ _ hl rE
    have hx6:=hx5.set 6 (.int .i64 ql)
    go_simp
    refine hK.out _ _ (fun _=>rE) ?_
    clear hK K y6 f6 rE hl hx5
    refine kP 16 ?_ rfl (fun w1 hl=>?_) ?_
    rotate_left
    ·skip;go_simp;try with_reducible rfl
    simp only[eA,eB,eC,Act.put,eD,eE,eF]
    refine aQ (t:=17) (i:=17) (by kernel_rfl) rfl (fun w1 hl K hK=>?_)
    obtain⟨c7,hx7,e7,t7,u7⟩:=hl.turn _ _ hx6
    have Dv:=(Oz _ _ _).trans _ _ _ hl5 hl
    have k7:c7[7]?≠none:=by rw[Ne,Array.getElem?_eq_none_iff,e7,Array.size_setIfInBounds,e5,List.size_toArray,Vt.aY];omega
    obtain⟨z7,KU⟩:=Option.ne_none_iff_exists'.1 k7
    have y7:=(hx7.cell 7).trans KU
    have f7:=hx7.free 7
    have iy:=(jo _).trans _ _ _ Dv.only (dN.set w1 7 (.int .i64 qh))
    have Iw:=hx7.set 7 (.int .i64 qh)
    go_simp
    refine hK.out _ _ (fun h=>absurd rfl h) ?_
    clear hK K y7 f7 hx7 Dv hl hl5
    refine bC (by kernel_rfl) (fun w1 hl=>?_) _
    obtain⟨c9,hx9,e9,t9,u9⟩:=hl.turn _ _ Iw
    have ho9:=(jo _).trans _ _ _ iy hl.only
    have hc9:c9=(aA 9 0 (some ⟨wp.heap.size+1,0,none⟩) 1 1 ql qh).toArray:=by
     refine ZA (lo0:=0) (hi0:=0) (fun j h6 h7=>?_) (u9 ?_) ?_
     ·rw[t9 j h6,Array.getElem?_setIfInBounds,if_neg (Ne.symm h7),t7 j h6,Array.getElem?_setIfInBounds,if_neg (Ne.symm h6),t5 j h6,hV2.out,List.getElem?_toArray];rfl
     ·rw[Array.getElem?_setIfInBounds,if_neg (by decide)]
      refine u7 ?_
      rw[Array.getElem?_setIfInBounds,if_pos rfl,if_pos]
      rw[e5,List.size_toArray,Vt.aY];omega
     ·rw[t9 7 (by decide),Array.getElem?_setIfInBounds,if_pos rfl,if_pos]
      rw[e7,Array.size_setIfInBounds,e5,List.size_toArray,Vt.aY];omega
    subst hc9
    have hSV:jO w r base m ov O (⟨8,qa,qs,ql,qh⟩::L) (.mk 9 0 (some ⟨wp.heap.size+1,0,none⟩) 1 [V] 0 0) (w2.setRow w.heap.size V2.cells.toArray):=(congrArg (fun X=>jO w r base m ov O (⟨8,qa,qs,ql,qh⟩::L) X (w2.setRow w.heap.size V2.cells.toArray)) hV2.out).mp H3.out
    have OA:=hSV.nums ((jo _).trans _ _ _ ((jo _).later _ _ (Below.refl _ _).drew) ho9) ql qh hlo.1 hlo.2 hx9
    obtain⟨v9,RQ⟩:=OA.ps
    have am1:=OA.z.lt
    clear t5 t7 t9 u7 u9 e5 e7 e9 iy ho9 hl Iw hx6 HF HX H3 hSV hx9
    go_wp2_with (go_at_call 279;go_must (refine(rC r base _ ov _ L O _ RQ hr (by omega)).mono ?_;rintro e w4 ⟨rfl,⟨v4,vU⟩,hk4⟩))
    have hS4:=OA.next hk4 vU
    have hm4:=xQ vU
    clear OA RQ
    go_wp2
    go_roundw
    case rel=>exact⟨L,_,hS4,by rw[EF];exact fC⟩
    case measure=>rw[hm4,hml];omega
  ·have fC:=QM V.tr hstop
   rw[hans] at fC
   have n5:((iC L:Int)==5)=false:=by rw[beq_eq_false_iff_ne];omega
   have n6:((iC L:Int)==6)=false:=by rw[beq_eq_false_iff_ne];omega
   have n7:((iC L:Int)==7)=false:=by rw[beq_eq_false_iff_ne];omega
   have n8:((iC L:Int)==8)=false:=by rw[beq_eq_false_iff_ne];omega
   have HP:=ah hpk
   have HS:=ah hS
   have HA:=ah fC
   clear hpk hS hans hP hm0 fC hstop
   generalize iC L=pk at *
   go_wp2_with (first | (go_at_call 278;go_must (refine HP.out.mono ?_;rintro e w1 ⟨rfl,hb1⟩;have hS1:=HS.out.below hb1;have hx1:=hS1.x;have hz1:=hS1.z;have hsz1:=hS1.z.lt)) | (refine wpList_load_row rfl 151 (.tmp 3) rfl w.heap.size rfl 151 _ (0,0) _ hx1 Tryz.underlying151 rfl (bg V) ?_) | (refine wpList_store_row rfl 151 (.tmp 4) (.tmp 9) rfl (w.heap.size+1) _ rfl rfl _ _ hz1 (bg V) (by show 8=V.cells.toArray.size;rw[List.size_toArray,Vt.aY]) V.all ?_))
   obtain⟨v5,g1,g2,g3⟩:=hS1.fin (mP w1 V.cells.toArray)
   exact eU Tryz.results304 rfl (cs:=V.cells.toArray) (hz1.setRow _) Tryz.underlying151 rfl (bg V) rfl (show MX r base m ov O w ANS _ _ from⟨V,v5,rfl,by rw[HA.out],by rw[HA.out];exact g1,g2,g3⟩)
end
section
open Go.RowKit
theorem sJ(b:Nat)(w:World)(v0 v1 v2 v3 v4 v5 v6 v7:Value):dN b w ((((((((w.setCell ⟨b,0,none⟩ v0).setCell ⟨b,1,none⟩ v1).setCell ⟨b,2,none⟩ v2).setCell ⟨b,3,none⟩ v3).setCell ⟨b,4,none⟩ v4).setCell ⟨b,5,none⟩ v5).setCell ⟨b,6,none⟩ v6).setCell ⟨b,7,none⟩ v7) :=
 have t:=fun{p q s:World}=>(jo b).trans p q s
 t (t (t (t (t (t (t (dN.set _ 0 v0) (dN.set _ 1 v1)) (dN.set _ 2 v2)) (dN.set _ 3 v3)) (dN.set _ 4 v4)) (dN.set _ 5 v5)) (dN.set _ 6 v6)) (dN.set _ 7 v7)
theorem ac1(r base n:Nat)(IH:WX r base n):Um r base (n+1):=by
 intro v ov L O ans w h hr hb hO hans
 have hB0:=aj w (.cells aX 151)
 have h0:=h.kept hB0
 have hg0:=Box.new w aX 151
 have hW0:(w.alloc (.cells aX 151)).heap.size=w.heap.size+1:=by simp
 have hpk:=ED r base v ov L O _ h0
 have xR:=fun g hg=>(h.ov g hg).2
 obtain⟨ao,co,hao⟩:=h.open'.form
 subst hao
 have hK0:aH r (.slice ao O.length co) w (w.alloc (.cells aX 151)):=aH.below (Nat.le_of_lt h.box.lt) hB0
 have HP:=ah hpk
 have HO:=ah xR
 have H0:=ah h0
 clear hpk h0 xR hB0
 cases L with
 | nil =>
  rw[rD] at hans
  obtain rfl:=Option.some.inj hans
  go_enter Tryz.func303,Tryz.ntmps303
  go_wp2_with (go_at_call 278;go_must (refine HP.out.mono ?_;rintro e w1 ⟨rfl,hb1⟩;have h1:=H0.out.kept hb1;have hz1:=hg0.kept hb1;have hs1:=hb1.size;obtain⟨x0,x1⟩:=h1.cells;have z0:=hz1.cell 0;have z1:=hz1.cell 1;have z2:=hz1.cell 2;have z3:=hz1.cell 3;have z4:=hz1.cell 4;have z5:=hz1.cell 5;have z6:=hz1.cell 6;have z7:=hz1.cell 7;obtain⟨f0,f1,f2,f3,f4,f5,f6,f7⟩:=hz1.su))
  have vT:=sJ w.heap.size w1 (.int .i64 0) (.int .u64 0) (.int .u64 0) (.int .u64 0) (.int .u64 0) (.slice none 0 0) (.int .i64 0) (.int .i64 0)
  obtain⟨Cj,hKF⟩:=h1.only hr (hK0.tr (aH.below (by omega) hb1)) hb vT (fun e=>by have:=HO.out _ e;omega)
  exact gI Tryz.results303 rfl rfl (cs:=aX) (E:=151) ((((((((hz1.set 0 (.int .i64 0)).set 1 (.int .u64 0)).set 2 (.int .u64 0)).set 3 (.int .u64 0)).set 4 (.int .u64 0)).set 5 (.slice none 0 0)).set 6 (.int .i64 0)).set 7 (.int .i64 0)) Tryz.underlying151 rfl (by kernel_rfl) rfl (show JY r base (.slice ao O.length co) O _ w (.inr none) _ _ from⟨rfl,⟨_,Cj⟩,hKF⟩)
 | cons q L =>
  have hok:=h.ok q (by simp)
  obtain⟨qk,qa,qs,ql,qh⟩:=q
  have hkv:qk=1∨qk=2∨qk=3∨qk=4∨qk=5∨qk=6∨qk=7∨qk=8:=by
   rcases hok with h | h | h
   ·exact .inl h.1
   ·have h1:2≤qk:=h.1
    have h2:qk<8:=h.2.1
    omega
   ·have h1:qk=8:=h.1
    omega
  clear hok h
  rw[mZ] at hans
  have e0:∀ k:Nat,iC (⟨k,qa,qs,ql,qh⟩::L)=k:=fun _=>rfl
  rcases hkv with rfl | rfl | rfl | rfl | rfl | rfl | rfl | rfl
  ·have fC:some (.inr (some (.mk 3 qs [] 0 0,L)))=some ans:=(if_pos rfl).symm.trans hans
   obtain rfl:=Option.some.inj fC
   have hnx:=fun u hu hs=>rC r base v (.slice ao O.length co) ⟨1,qa,qs,ql,qh⟩ L O u hu hr hs
   unfold fE at hnx
   have HN:=ah hnx
   have hfl:=Uk
   rw[e0] at HP
   clear hans fC hnx e0
   go_enter Tryz.func303,Tryz.ntmps303
   go_wp2_with (first | (go_at_call 278;go_must (refine HP.out.mono ?_;rintro e w1 ⟨rfl,hb1⟩;have h1:=H0.out.kept hb1;have hz1:=hg0.kept hb1;have hs1:=hb1.size)) | (go_at_call 279;go_must (refine(HN.out _ h1 (by omega)).mono ?_;rintro e w2 ⟨rfl,⟨v2,h2⟩,hk2⟩;have hs2:=hk2.low.size;have ai6:=hk2.box hz1 (by omega) (fun e=>by have:=HO.out _ e;omega))) | (go_at_call 177;go_must (refine(Ic qs _).mono ?_;rintro e w3 ⟨V,rfl,hV,hl3,nY,hb3⟩;have hz2:=ai6.kept hb3;have hs3:=hb3.size)) | (refine wpList_store_row rfl 151 (.tmp 2) (.tmp _) rfl w.heap.size _ rfl rfl _ _ hz2 (bg V) (by show 8=V.cells.toArray.size;rw[List.size_toArray,Vt.aY]) V.all ?_))
   have vT:=mP (b:=w.heap.size) w3 V.cells.toArray
   have hrl:=h2.box.lt
   have hk3:=(((aH.below (ov:=.slice ao O.length co) (by omega) hb1).tr hk2).tr (aH.below (by omega) hb3))
   obtain⟨Cj,hKF⟩:=(h2.kept hb3).only hr (hK0.tr hk3) hb vT (fun e=>by have:=HO.out _ e;omega)
   have Xa:dM (w3.setRow w.heap.size V.cells.toArray) r (.slice ao O.length co) w.heap.size V:=⟨hl3.dR (nY.and hl3.on) fun b hb=>vT.block b hb.2 (by have:=hb.1;omega),nY.mono fun b hb=>⟨by omega,by omega,fun e=>by have:=HO.out _ e;omega⟩⟩
   exact gI Tryz.results303 rfl rfl (cs:=V.cells.toArray) (hz2.setRow _) Tryz.underlying151 rfl (bg V) rfl (show JY r base (.slice ao O.length co) O _ w (.inr (some (.mk 3 qs [] 0 0,L))) _ _ from⟨V,v2,_,rfl,hV,Cj,Xa,hKF,dJ.refl _ _⟩)
  ·have fC:(nH n O.length ⟨2,qa,qs,ql,qh⟩ L).map (fun s=>s.map id some)=some ans:=(if_pos rfl).symm.trans ((if_neg (by decide:¬ (2:Nat)=1)).symm.trans hans)
   cases hA:nH n O.length ⟨2,qa,qs,ql,qh⟩ L with
   | none=>rw[hA] at fC;cases fC
   | some A =>
    rw[hA] at fC
    have hIH:=fun u hu hs=>IH v (.slice ao O.length co) ⟨2,qa,qs,ql,qh⟩ L O A u hu hr hs hO hA
    have HI:=ah hIH
    rw[e0] at HP
    clear hans hIH hA IH e0
    go_enter Tryz.func303,Tryz.ntmps303
    go_wp2_with (go_at_call 278;go_must (refine HP.out.mono ?_;rintro e w1 ⟨rfl,hb1⟩;have h1:=H0.out.kept hb1;have hz1:=hg0.kept hb1;have hs1:=hb1.size))
    refine(HI.out _ h1 (by omega)).mono ?_
    intro e w2 hres
    cases A with
    | inl p =>
     obtain⟨hl,hk2⟩:=hres
     obtain rfl:e=_:=hl
     obtain rfl:=Option.some.inj fC
     exact⟨rfl,rfl,hK0.tr ((aH.below (by omega) hb1).tr hk2)⟩
    | inr p =>
     obtain⟨x,R⟩:=p
     obtain⟨V,v2,Dq,rfl,hV,h2,ht2,hk2,hf2⟩:=hres
     obtain rfl:=Option.some.inj fC
     have hk3:=hK0.tr ((aH.below (ov:=.slice ao O.length co) (by omega) hb1).tr hk2)
     have hz2:=hk2.box hz1 (by omega) (fun e=>by have:=HO.out _ e;omega)
     have hs2:=hk2.low.size
     go_wp2_with (refine wpList_store_row rfl 151 (.tmp 2) (.tmp _) rfl w.heap.size _ rfl rfl _ _ hz2 (bg V) (by show 8=V.cells.toArray.size;rw[List.size_toArray,Vt.aY]) V.all ?_)
     have vT:=mP (b:=w.heap.size) w2 V.cells.toArray
     have hrl:=h2.box.lt
     have ai7:Dq.ownBlock≠some w.heap.size:=fun e=>by
      rcases hf2 _ e with h | h
      ·have:=HO.out _ h;omega
      ·omega
     have Cj:=h2.frame hr (fun b hb=>vT.block b (by rcases hb with hb | hb;omega;exact(h2.ov b hb).2) (by rintro rfl;rcases hb with hb | hb;omega;exact ai7 hb))
     have hKF:=vT.kept hk3 (Nat.le_refl _) (by omega) (by omega)
     have Xa:dM (w2.setRow w.heap.size V.cells.toArray) r Dq w.heap.size V:=⟨ht2.lies.dR (ht2.on.and ht2.lies.on) fun b hb=>vT.block b hb.2 (by have:=hb.1.1;omega),(ht2.mono (by omega)).on⟩
     exact gI Tryz.results303 rfl rfl (cs:=V.cells.toArray) (hz2.setRow _) Tryz.underlying151 rfl (bg V) rfl (show JY r base (.slice ao O.length co) O _ w (.inr (some (x,R))) _ _ from⟨V,v2,Dq,rfl,hV,Cj,Xa,hKF,(dJ.refl _ _).trans (by omega) hf2⟩)
  ·have fC:(if 3=3∧O.length=0 then some (.inl (12,qa)) else some (.inr none))=some ans:=by
    rw[if_neg (by decide:¬ (3:Nat)=1),if_neg (by decide:¬ (3:Nat)=2),if_neg (by decide:¬ ((3:Nat)=5∨(3:Nat)=6∨(3:Nat)=7∨(3:Nat)=8))] at hans
    exact hans
   rw[e0] at HP
   clear hans e0
   by_cases hd:O.length=0
   ·rw[if_pos ⟨rfl,hd⟩] at fC
    obtain rfl:=Option.some.inj fC
    have d0:((O.length:Int)==0)=true:=by rw[hd];rfl
    clear hd
    go_enter Tryz.func303,Tryz.ntmps303
    go_wp2_with (first | (go_at_call 278;go_must (refine HP.out.mono ?_;rintro e w1 ⟨rfl,hb1⟩;have h1:=H0.out.kept hb1;have hz1:=hg0.kept hb1;have hs1:=hb1.size;obtain⟨x0,x1⟩:=h1.cells;obtain⟨b,o,cap,n,rfl,hn,hbl,hbne,hy⟩:=h1.head;have y1:=hy 1 _ rfl;have hrl:=h1.box.lt;have hn0:0<n:=by omega)) | (go_at_call 319;go_must (refine(mY 12 qa _).mono ?_;rintro e w2 ⟨hl,hb2⟩;obtain rfl:e=_:=hl)))
    exact⟨rfl,rfl,hK0.tr ((aH.below (by omega) hb1).tr (aH.below (by omega) hb2))⟩
   ·rw[if_neg (fun h=>hd h.2)] at fC
    obtain rfl:=Option.some.inj fC
    have d0:((O.length:Int)==0)=false:=by rw[beq_eq_false_iff_ne];omega
    clear hd
    go_enter Tryz.func303,Tryz.ntmps303
    go_wp2_with (go_at_call 278;go_must (refine HP.out.mono ?_;rintro e w1 ⟨rfl,hb1⟩;have h1:=H0.out.kept hb1;have hz1:=hg0.kept hb1;have hs1:=hb1.size;obtain⟨x0,x1⟩:=h1.cells;have z0:=hz1.cell 0;have z1:=hz1.cell 1;have z2:=hz1.cell 2;have z3:=hz1.cell 3;have z4:=hz1.cell 4;have z5:=hz1.cell 5;have z6:=hz1.cell 6;have z7:=hz1.cell 7;obtain⟨f0,f1,f2,f3,f4,f5,f6,f7⟩:=hz1.su))
    have vT:=sJ w.heap.size w1 (.int .i64 0) (.int .u64 0) (.int .u64 0) (.int .u64 0) (.int .u64 0) (.slice none 0 0) (.int .i64 0) (.int .i64 0)
    obtain⟨Cj,hKF⟩:=h1.only hr (hK0.tr (aH.below (by omega) hb1)) hb vT (fun e=>by have:=HO.out _ e;omega)
    exact gI Tryz.results303 rfl rfl (cs:=aX) (E:=151) ((((((((hz1.set 0 (.int .i64 0)).set 1 (.int .u64 0)).set 2 (.int .u64 0)).set 3 (.int .u64 0)).set 4 (.int .u64 0)).set 5 (.slice none 0 0)).set 6 (.int .i64 0)).set 7 (.int .i64 0)) Tryz.underlying151 rfl (by kernel_rfl) rfl (show JY r base (.slice ao O.length co) O _ w (.inr none) _ _ from⟨rfl,⟨_,Cj⟩,hKF⟩)
  ·rw[if_neg (by decide:¬ (4:Nat)=1),if_neg (by decide:¬ (4:Nat)=2),if_neg (by decide:¬ ((4:Nat)=5∨(4:Nat)=6∨(4:Nat)=7∨(4:Nat)=8)),if_neg (fun h=>absurd h.1 (by decide:¬ (4:Nat)=3))] at hans
   obtain rfl:=Option.some.inj hans
   rw[e0] at HP
   clear hans e0
   go_enter Tryz.func303,Tryz.ntmps303
   go_wp2_with (go_at_call 278;go_must (refine HP.out.mono ?_;rintro e w1 ⟨rfl,hb1⟩;have h1:=H0.out.kept hb1;have hz1:=hg0.kept hb1;have hs1:=hb1.size;obtain⟨x0,x1⟩:=h1.cells;have z0:=hz1.cell 0;have z1:=hz1.cell 1;have z2:=hz1.cell 2;have z3:=hz1.cell 3;have z4:=hz1.cell 4;have z5:=hz1.cell 5;have z6:=hz1.cell 6;have z7:=hz1.cell 7;obtain⟨f0,f1,f2,f3,f4,f5,f6,f7⟩:=hz1.su))
   have vT:=sJ w.heap.size w1 (.int .i64 0) (.int .u64 0) (.int .u64 0) (.int .u64 0) (.int .u64 0) (.slice none 0 0) (.int .i64 0) (.int .i64 0)
   obtain⟨Cj,hKF⟩:=h1.only hr (hK0.tr (aH.below (by omega) hb1)) hb vT (fun e=>by have:=HO.out _ e;omega)
   exact gI Tryz.results303 rfl rfl (cs:=aX) (E:=151) ((((((((hz1.set 0 (.int .i64 0)).set 1 (.int .u64 0)).set 2 (.int .u64 0)).set 3 (.int .u64 0)).set 4 (.int .u64 0)).set 5 (.slice none 0 0)).set 6 (.int .i64 0)).set 7 (.int .i64 0)) Tryz.underlying151 rfl (by kernel_rfl) rfl (show JY r base (.slice ao O.length co) O _ w (.inr none) _ _ from⟨rfl,⟨_,Cj⟩,hKF⟩)
  ·rw[if_neg (by decide:¬ (5:Nat)=1),if_neg (by decide:¬ (5:Nat)=2),if_pos (by decide:((5:Nat)=5∨(5:Nat)=6∨(5:Nat)=7∨(5:Nat)=8))] at hans
   obtain rfl:=Option.some.inj hans
   rw[e0] at HP
   clear hans e0
   go_enter Tryz.func303,Tryz.ntmps303
   go_wp2_with (first | (go_at_call 278;go_must (refine HP.out.mono ?_;rintro e w1 ⟨rfl,hb1⟩;have h1:=H0.out.kept hb1;have hz1:=hg0.kept hb1;have hs1:=hb1.size;obtain⟨x0,x1⟩:=h1.cells;obtain⟨b,o,cap,n,rfl,hn,hbl,hbne,hy⟩:=h1.head;have y1:=hy 1 _ rfl;have hrl:=h1.box.lt;have hn0:0<n:=by omega)) | (go_at_call 319;go_must (refine(mY 5 qa _).mono ?_;rintro e w2 ⟨hl,hb2⟩;obtain rfl:e=_:=hl)))
   exact⟨rfl,rfl,hK0.tr ((aH.below (by omega) hb1).tr (aH.below (by omega) hb2))⟩
  ·rw[if_neg (by decide:¬ (6:Nat)=1),if_neg (by decide:¬ (6:Nat)=2),if_pos (by decide:((6:Nat)=5∨(6:Nat)=6∨(6:Nat)=7∨(6:Nat)=8))] at hans
   obtain rfl:=Option.some.inj hans
   rw[e0] at HP
   clear hans e0
   go_enter Tryz.func303,Tryz.ntmps303
   go_wp2_with (first | (go_at_call 278;go_must (refine HP.out.mono ?_;rintro e w1 ⟨rfl,hb1⟩;have h1:=H0.out.kept hb1;have hz1:=hg0.kept hb1;have hs1:=hb1.size;obtain⟨x0,x1⟩:=h1.cells;obtain⟨b,o,cap,n,rfl,hn,hbl,hbne,hy⟩:=h1.head;have y1:=hy 1 _ rfl;have hrl:=h1.box.lt;have hn0:0<n:=by omega)) | (go_at_call 319;go_must (refine(mY 5 qa _).mono ?_;rintro e w2 ⟨hl,hb2⟩;obtain rfl:e=_:=hl)))
   exact⟨rfl,rfl,hK0.tr ((aH.below (by omega) hb1).tr (aH.below (by omega) hb2))⟩
  ·rw[if_neg (by decide:¬ (7:Nat)=1),if_neg (by decide:¬ (7:Nat)=2),if_pos (by decide:((7:Nat)=5∨(7:Nat)=6∨(7:Nat)=7∨(7:Nat)=8))] at hans
   obtain rfl:=Option.some.inj hans
   rw[e0] at HP
   clear hans e0
   go_enter Tryz.func303,Tryz.ntmps303
   go_wp2_with (first | (go_at_call 278;go_must (refine HP.out.mono ?_;rintro e w1 ⟨rfl,hb1⟩;have h1:=H0.out.kept hb1;have hz1:=hg0.kept hb1;have hs1:=hb1.size;obtain⟨x0,x1⟩:=h1.cells;obtain⟨b,o,cap,n,rfl,hn,hbl,hbne,hy⟩:=h1.head;have y1:=hy 1 _ rfl;have hrl:=h1.box.lt;have hn0:0<n:=by omega)) | (go_at_call 319;go_must (refine(mY 5 qa _).mono ?_;rintro e w2 ⟨hl,hb2⟩;obtain rfl:e=_:=hl)))
   exact⟨rfl,rfl,hK0.tr ((aH.below (by omega) hb1).tr (aH.below (by omega) hb2))⟩
  ·rw[if_neg (by decide:¬ (8:Nat)=1),if_neg (by decide:¬ (8:Nat)=2),if_pos (by decide:((8:Nat)=5∨(8:Nat)=6∨(8:Nat)=7∨(8:Nat)=8))] at hans
   obtain rfl:=Option.some.inj hans
   rw[e0] at HP
   clear hans e0
   go_enter Tryz.func303,Tryz.ntmps303
   go_wp2_with (first | (go_at_call 278;go_must (refine HP.out.mono ?_;rintro e w1 ⟨rfl,hb1⟩;have h1:=H0.out.kept hb1;have hz1:=hg0.kept hb1;have hs1:=hb1.size;obtain⟨x0,x1⟩:=h1.cells;obtain⟨b,o,cap,n,rfl,hn,hbl,hbne,hy⟩:=h1.head;have y1:=hy 1 _ rfl;have hrl:=h1.box.lt;have hn0:0<n:=by omega)) | (go_at_call 319;go_must (refine(mY 5 qa _).mono ?_;rintro e w2 ⟨hl,hb2⟩;obtain rfl:e=_:=hl)))
   exact⟨rfl,rfl,hK0.tr ((aH.below (by omega) hb1).tr (aH.below (by omega) hb2))⟩
end
section
open Go.RowKit
theorem ac2(r base n:Nat)(hn:n≤1099511627776)(IH:∀ m,m<n→Um r base m):Ul r base n:=by
 intro v ov L O ans w h hr hb hO hans
 have hB0:=aj w (.cells aX 151)
 have h0:=h.kept hB0
 have hg0:=Box.new w aX 151
 have hW0:(w.alloc (.cells aX 151)).heap.size=w.heap.size+1:=by simp
 have xR:=fun g hg=>(h.ov g hg).2
 have hK0:aH r ov w (w.alloc (.cells aX 151)):=aH.below (Nat.le_of_lt h.box.lt) hB0
 have Ah:abu (w.alloc (.cells aX 151)) r base n ov O ans (.slice none 0 0) (w.alloc (.cells aX 151)):=⟨n,none,0,[],v,ov,L,rfl,by simp,jP.nil h0 hr (by omega),hans⟩
 have HO:=ah xR
 have HQ:=ah Ah
 have HI:=ah IH
 clear h0 xR hB0 h hans Ah IH
 go_enter Tryz.func277,Tryz.ntmps277
 go_wp2
 generalize hWW:(w.alloc (.cells aX 151))=W0 at *
 go_loopw [3] (fun p wr=>abu W0 r base n ov O ans p wr) (fun p _=>n - lenOf p)
 case atStart=>exact HQ.out
 case round =>
  clear HQ
  obtain⟨m,a,cap,vs,v1,vS,L1,rfl,hmn,hS,hpp⟩:=hrel
  have hs0:=hS.kept.low.size
  have hrl:=hS.ps.box.lt
  have hz:=hS.kept.box hg0 (by omega) (fun e=>by have:=HO.out _ e;omega)
  cases m with
  | zero=>rw[je] at hpp;cases hpp
  | succ m =>
   rw[jr] at hpp
   cases hA:jM m O.length L1 with
   | none=>rw[hA] at hpp;cases hpp
   | some A =>
    rw[hA] at hpp
    have hat:=HI.out m (by omega) v1 vS L1 O A wr hS.ps hr (by omega) hO hA
    have RS:=ah hpp
    have HAT:=ah hat
    have RU:=ah hmn
    have Fg:=ah hS
    clear hpp hat hA hmn hS
    go_wp2_with fail
    refine HAT.out.mono ?_
    intro e w2 hres
    cases A with
    | inl p =>
     obtain⟨hl,hk2⟩:=hres
     obtain rfl:e=_:=hl
     obtain rfl:=Option.some.inj RS.out
     exact And.intro rfl (And.intro rfl (hK0.tr (Fg.out.kept.trans Fg.out.fresh hk2)))
    | inr o =>
     cases o with
     | none =>
      obtain⟨rfl,⟨v2,h2⟩,hk2⟩:=hres
      have hS2:=Fg.out.mid hk2 (dJ.refl _ _) h2
      have hz2:=hS2.kept.box hg0 (by omega) (fun e=>by have:=HO.out _ e;omega)
      have hans:=Option.some.inj RS.out
      have am2:=hz2.lt
      by_cases hv0:vs.length=0
      ·rw[List.length_map,if_pos hv0] at hans
       subst hans
       have d0:((vs.length:Int)==0)=true:=by rw[hv0];rfl
       have OB:=ah hS2
       clear hv0 h2 hk2 hS2
       go_wp2_with (first | (go_at_call 305;go_must (refine(TQ _).mono ?_;rintro e w4 ⟨V,rfl,hV,hl4,ai8,hb4⟩;have uh:=(hz2.alloc _).kept hb4)) | (refine wpList_store_row rfl 151 (.tmp 2) (.tmp _) rfl w.heap.size _ rfl rfl _ _ uh (bg V) (by show 8=V.cells.toArray.size;rw[List.size_toArray,Vt.aY]) (Vt.all V) ?_))
       have hS4:=(OB.out.below (aj w2 (.cells aX 151))).below hb4
       have hs4:=OB.out.kept.low.size
       have hTV:dM w4 r vS W0.heap.size V:=⟨hl4,ai8.mono fun b hb=>by
        rw[World.size_alloc] at hb
        exact⟨by omega,by omega,fun e=>by have:=(OB.out.ps.ov _ e).2;omega⟩⟩
       exact eU Tryz.results277 rfl (cs:=V.cells.toArray) (uh.setRow _) Tryz.underlying151 rfl (bg V) rfl (hS4.ret hK0 hW0 HO.out hb hTV (hV.trans rfl) (mP _ _))
      ·rw[List.length_map,if_neg hv0,←Oy 4 a cap vs] at hans
       subst hans
       have d0:((vs.length:Int)==0)=false:=by rw[beq_eq_false_iff_ne];omega
       have hS3:=hS2.below (aj w2 (.cells aX 151))
       have hfl:=Iq 4 vs a cap _ hS3.own.slice
       have Dw:=ah hfl
       have OB:=ah hS3
       clear hv0 h2 hk2 hS2 hS3 hfl
       go_wp2_with (first | (go_at_call 280;go_must (refine Dw.out.mono ?_;rintro e w4 ⟨rfl,hb4⟩;have uh:=(hz2.alloc _).kept hb4)) | (refine wpList_store_row rfl 151 (.tmp 2) (.tmp _) rfl w.heap.size _ rfl rfl _ _ uh (bg (oC 4 a cap vs)) (by show 8=(Vt.cells (oC 4 a cap vs)).toArray.size;rw[List.size_toArray,Vt.aY]) (Vt.all (oC 4 a cap vs)) ?_))
       have hS4:=OB.out.below hb4
       exact eU Tryz.results277 rfl (cs:=(oC 4 a cap vs).cells.toArray) (uh.setRow _) Tryz.underlying151 rfl (bg (oC 4 a cap vs)) rfl (hS4.ret hK0 hW0 HO.out hb (hS4.flat 4 (by decide)) rfl (mP _ _))
     | some q =>
      obtain⟨x,R⟩:=q
      obtain⟨V,v2,Dq,rfl,hV,h2,ht2,hk2,hf2⟩:=hres
      have hpp:je m O.length (vs.map Vt.tr++[(dB R x).1]) (dB R x).2=some ans:=RS.out
      have hS2:=Fg.out.mid hk2 hf2 h2
      have hB3:Below w2.heap.size w2 ((w2.alloc (.cells aX 151)).setRow w2.heap.size V.cells.toArray):=below_setRow (aj _ _) (Nat.le_refl _) _
      have hx2:=Box.new w2 aX 151
      have hx3:=hx2.setRow V.cells.toArray
      have hs2:=hk2.low.size
      have hpo:=ZG r base wr.heap.size v2 Dq R O V _ (h2.kept hB3) (ht2.dh hB3) hr (by simp;omega) (by simp;omega)
      have hS3:=hS2.below hB3
      have HPO:=ah hpo
      have HS3:=ah hS3
      have hown1:∀ g,(Value.slice a vs.length cap).ownBlock=some g→g<wr.heap.size:=fun g hg=>(Fg.out.jQ g hg).2
      have HOW:=ah hown1
      have HP2:=ah hpp
      have hvn:vs.length<n:=by have:=RU.out;omega
      rw[hV] at HPO
      clear hpo hS3 hS2 hB3 h2 ht2 hk2 hpp hown1
      go_wp2_with (first | (refine wpList_store_row rfl 151 (.tmp 4) (.tmp _) rfl w2.heap.size _ rfl rfl _ _ hx2 (bg V) (by show 8=(Vt.cells V).toArray.size;rw[List.size_toArray,Vt.aY]) (Vt.all V) ?_) | (refine wpList_load_row rfl 151 (.tmp 4) rfl w2.heap.size rfl 151 _ (0,0) _ hx3 Tryz.underlying151 rfl (bg V) ?_) | (go_at_call 304;go_must (refine HPO.out.mono ?_;intro e w4 hpo;obtain⟨k5,s5,a5,cp5,bI,bJ,hi5,v4,rfl,hV4,h4,qJ,hk4⟩:=hpo.open;have hS4:=HS3.out.mid hk4 (dJ.refl _ _) h4;have hS5:=hS4.below (aj w4 (.cells (aA k5 s5 a5 bI.length cp5 bJ hi5).toArray 151));have rE:=qJ.dh (aj w4 (.cells (aA k5 s5 a5 bI.length cp5 bJ hi5).toArray 151));have HV4:=ah hV4;clear hpo hV4)) | (at_builtin;go_must (refine dS rfl _ _ 145 rfl CZ Bc rfl hS5.own.1 ⟨w4.heap.size,0,none⟩ 1 (Vt.mk k5 s5 a5 cp5 bI bJ hi5) rfl (cZ w4 (aA k5 s5 a5 bI.length cp5 bJ hi5) _) (by simp[maxLen];omega) (by omega) (by simp;have:=hS4.kept.low.size;omega) ?_;intro a6 c6 w6 wI hg6 hf6)))
      have hS6:=hS5.snoc rE hs0 (qJ.on.mono fun b hb e=>by have:=HOW.out b e;omega) wI hg6 hf6
      have e4:=HV4.out
      have hmn:=RU.out
      refine⟨⟨m,a6,c6,_,v4,Dq,(dB R x).2,by rw[List.length_append];rfl,by rw[List.length_append,List.length_singleton];omega,hS6,?_⟩,?_⟩
      ·rw[List.map_append,List.map_singleton,e4];exact HP2.out
      ·show n - (vs.length+1)<n - vs.length
       omega
end
section
open Go.RowKit
theorem Gu.open{r base:Nat}{ov:Value}{O:List Int}{w w':World}{q:Tr×List Lx}{e:Ending}(h:Gu r base ov O w (.inr q) e w'):∃ k s a cap kids lo hi v nG,e=.returned (.agg (aA k s a (List.length kids) cap lo hi).toArray)∧(Vt.mk k s a cap kids lo hi).tr=q.1∧dA w' r base v q.2 nG O∧dM w' r nG w.heap.size (.mk k s a cap kids lo hi)∧aH r ov w w'∧dJ w ov nG:=by
 obtain⟨⟨k,s,a,cap,kids,lo,hi⟩,v,nG,h⟩:=h
 exact⟨k,s,a,cap,kids,lo,hi,v,nG,h⟩
theorem Xc{m d:Nat}{parts:List Tr}{L:List Lx}(h:¬ iC L=4):JZ m d parts L=some (.inr (yN 5 parts,L)):=by
 cases L with
 | nil=>rfl
 | cons q L=>exact if_neg h
theorem aek(r base n:Nat)(hn:n≤1099511627776)(IH:∀ m,m<n→Ul r base m):ZB r base n:=by
 intro v ov L O ans w h hr hb hO hans
 have hB0:=aj w (.cells aX 151)
 have h0:=h.kept hB0
 have hg0:=Box.new w aX 151
 have hW0:(w.alloc (.cells aX 151)).heap.size=w.heap.size+1:=by simp
 have xR:=fun g hg=>(h.ov g hg).2
 have hK0:aH r ov w (w.alloc (.cells aX 151)):=aH.below (Nat.le_of_lt h.box.lt) hB0
 have HO:=ah xR
 cases n with
 | zero=>rw[iF] at hans;cases hans
 | succ n =>
  rw[kD] at hans
  cases hA:je n O.length [] L with
  | none=>rw[hA] at hans;cases hans
  | some A =>
   rw[hA] at hans
   have hat:=IH n (by omega) v ov L O A _ h0 hr (by omega) hO hA
   have HAT:=ah hat
   have HI:=ah IH
   have jR:=ah hans
   clear h0 xR hB0 h IH hat hans hA
   go_enter Tryz.func224,Tryz.ntmps224
   go_wp2_with fail
   refine HAT.out.mono ?_
   generalize hWW:(w.alloc (.cells aX 151))=W0 at *
   intro e w2 hres
   cases A with
   | inl p =>
    obtain⟨hl,hk2⟩:=hres
    obtain rfl:e=_:=hl
    obtain rfl:=Option.some.inj jR.out
    exact And.intro rfl (And.intro rfl (hK0.tr hk2))
   | inr p =>
    obtain⟨x,R⟩:=p
    obtain⟨k5,s5,a5,cp5,bI,bJ,hi5,v2,Dq,rfl,hV,h2,ht2,hk2,hf2⟩:=hres.open
    have hpt:=jP.one h2 hk2 hf2 hr (by omega) ht2
    have Ah:aef W0 r base (n+1) ov O ans (.slice (some ⟨w2.heap.size,0,none⟩) 1 1) (w2.alloc (.cells (aA k5 s5 a5 bI.length cp5 bJ hi5).toArray 151)):=⟨n,_,1,[.mk k5 s5 a5 cp5 bI bJ hi5],v2,Dq,R,rfl,rfl,hpt,by rw[List.map_singleton,hV];exact jR.out⟩
    have HQ:=ah Ah
    clear hres hpt Ah jR HAT h2 ht2 hk2 hf2 hV
    go_wp2
    go_loopw [3] (fun p wr=>aef W0 r base (n+1) ov O ans p wr) (fun p _=>n+1 - lenOf p)
    case atStart=>exact HQ.out
    case round =>
     clear HQ
     obtain⟨m,a,cap,vs,v1,vS,L1,rfl,hmn,hS,hpp⟩:=hrel
     have hs0:=hS.kept.low.size
     have hrl:=hS.ps.box.lt
     have hz:=hS.kept.box hg0 (by omega) (fun e=>by have:=HO.out _ e;omega)
     have hpk:=ED r base v1 vS L1 O wr hS.ps
     have HP:=ah hpk
     have Fg:=ah hS
     have RU:=ah hmn
     clear hpk hmn hS
     by_cases Dp:iC L1=4
     ·obtain⟨q,L1,rfl⟩:∃ q L',L1=q::L':=by
       cases L1 with
       | nil=>cases Dp
       | cons q L=>exact⟨q,L,rfl⟩
      have zH:iF m O.length (vs.map Vt.tr) L1=some ans:=(if_pos Dp).symm.trans hpp
      rw[Dp] at HP
      cases m with
      | zero=>rw[iF] at zH;cases zH
      | succ m =>
       rw[kD] at zH
       cases hA:je m O.length [] L1 with
       | none=>rw[hA] at zH;cases zH
       | some A =>
        rw[hA] at zH
        have RS:=ah zH
        have hat:=fun v' u hu hs=>HI.out m (by have:=RU.out;omega) v' vS L1 O A u hu hr hs hO hA
        have HAT:=ah hat
        clear hpp zH hA hat Dp
        go_wp2_with (first | (go_at_call 278;go_must (refine HP.out.mono ?_;rintro e w3 ⟨rfl,hb3⟩;have hS3:=Fg.out.below hb3;have hs3:=hb3.size)) | (go_at_call 279;go_must (refine(rC r base _ vS q L1 O _ hS3.ps hr (by omega)).mono ?_;rintro e w4 ⟨rfl,⟨v4,h4⟩,hk4⟩;have hS4:=hS3.mid hk4 (dJ.refl _ _) h4;have hs4:=hk4.low.size)))
        refine(HAT.out v4 _ h4 (by omega)).mono ?_
        intro e w5 hres
        cases A with
        | inl p =>
         obtain⟨hl,hk5⟩:=hres
         obtain rfl:e=_:=hl
         obtain rfl:=Option.some.inj RS.out
         exact And.intro rfl (And.intro rfl (hK0.tr (hS4.kept.trans hS4.fresh hk5)))
        | inr p =>
         obtain⟨x,R⟩:=p
         obtain⟨k5,s5,a5,cp5,bI,bJ,hi5,v5,ov5,rfl,hV,h5,KW,hk5,hf5⟩:=hres.open
         have hS5:=hS4.mid hk5 hf5 h5
         have hS6:=hS5.below (aj w5 (.cells (aA k5 s5 a5 bI.length cp5 bJ hi5).toArray 151))
         have Aj:=KW.dh (aj w5 (.cells (aA k5 s5 a5 bI.length cp5 bJ hi5).toArray 151))
         have hown1:∀ g,(Value.slice a vs.length cap).ownBlock=some g→g<w4.heap.size:=fun g hg=>(hS4.jQ g hg).2
         have HOW:=ah hown1
         have HV:=ah hV
         have hvn:vs.length<n+1:=by have:=RU.out;omega
         have hs6:=hS5.kept.low.size
         have ai9:=hS4.kept.low.size
         clear hown1 hV hres h5 hk5 hf5 hS4 h4 hk4 hS3 hb3
         go_wp2_with (at_builtin;go_must (refine dS rfl _ _ 145 rfl CZ Bc rfl hS6.own.1 ⟨w5.heap.size,0,none⟩ 1 (Vt.mk k5 s5 a5 cp5 bI bJ hi5) rfl (cZ w5 (aA k5 s5 a5 bI.length cp5 bJ hi5) _) (by simp[maxLen];omega) (by omega) (by simp;omega) ?_;intro a7 c7 w7 iy cO qK))
         have hS7:=hS6.snoc Aj ai9 (KW.on.mono fun b hb e=>by have:=HOW.out b e;omega) iy cO qK
         have e4:=HV.out
         have hmn:=RU.out
         refine⟨⟨m,a7,c7,_,v5,ov5,R,by rw[List.length_append];rfl,by rw[List.length_append,List.length_singleton];omega,hS7,?_⟩,?_⟩
         ·rw[List.map_append,List.map_singleton,e4];exact RS.out
         ·show n+1 - (vs.length+1)<n+1 - vs.length
          omega
     ·rw[Xc Dp,←Oy 5 a cap vs] at hpp
      obtain rfl:=Option.some.inj hpp
      have n4:((iC L1:Int)==4)=false:=by rw[beq_eq_false_iff_ne];omega
      clear Dp hpp
      have hfl:=fun u (hu:jP W0 r base ov O a cap vs v1 vS L1 u)=>Iq 5 vs a cap u hu.own.slice
      have Dw:=ah hfl
      clear hfl
      generalize hpl:iC L1=pk at *
      go_wp2_with (first | (go_at_call 278;go_must (refine HP.out.mono ?_;rintro e w3 ⟨rfl,hb3⟩;have hS3:=Fg.out.below hb3;have hz3:=hz.kept hb3)) | (go_at_call 280;go_must (refine(Dw.out _ hS3).mono ?_;rintro e w4 ⟨rfl,hb4⟩;have uh:=hz3.kept hb4)) | (refine wpList_store_row rfl 151 (.tmp 2) (.tmp _) rfl w.heap.size _ rfl rfl _ _ uh (bg (oC 5 a cap vs)) (by show 8=(Vt.cells (oC 5 a cap vs)).toArray.size;rw[List.size_toArray,Vt.aY]) (Vt.all (oC 5 a cap vs)) ?_))
      have hS4:=hS3.below hb4
      exact eU Tryz.results224 rfl (cs:=(oC 5 a cap vs).cells.toArray) (uh.setRow _) Tryz.underlying151 rfl (bg (oC 5 a cap vs)) rfl (hS4.ret hK0 hW0 HO.out hb (hS4.flat 5 (by decide)) rfl (mP _ _))
theorem ael(r base:Nat):∀ n,n≤1099511627776→ZB r base n∧Ul r base n∧Um r base n:=by
 intro n
 induction n using Nat.strongRecOn with
 | ind n ih =>
  intro hn
  refine⟨aek r base n hn fun m hm=>(ih m hm (by omega)).2.1,ac2 r base n hn fun m hm=>(ih m hm (by omega)).2.2,?_⟩
  cases n with
  | zero =>
   intro v ov L O ans w _ _ _ _ h
   rw[jM] at h;cases h
  | succ n=>exact ac1 r base n (ZC r base n (ih n (by omega) (by omega)).1)
end
section
open Go.RowKit
theorem OC(c:Nat)(h:kV c≠0):2≤kV c∧kV c<8:=by
 unfold kV at h ⊢
 repeat' split
 all_goals simp_all
theorem OD{l:List UInt8}{i j:Nat}{x:Lx}(h:kW l i=.inr (x,j)):nR x:=by
 unfold kW at h
 dsimp only at h
 split at h
 ·cases h
 split at h
 ·cases h
 split at h
 ·cases h;exact .inl ⟨rfl,rfl,rfl⟩
 ·rename_i hk;cases h;exact .inr (.inl ⟨(OC _ hk).1,(OC _ hk).2,rfl,rfl,rfl⟩)
theorem MI(l:List UInt8):∀ (n i:Nat) (acc X:List Lx),(∀ x∈acc,nR x)→lexFrom l n i acc=.inr X→∀ x∈X,nR x:=by
 intro n
 induction n with
 | zero=>intro i acc X ha h;rw[lexFrom] at h;cases h;exact ha
 | succ n ih =>
  intro i acc X ha h
  rw[lexFrom] at h
  split at h
  ·split at h
   ·cases h
   ·rename_i y k hq
    refine ih _ _ _ (fun x hx=>?_) h
    rcases List.mem_append.1 hx with hx | hx
    ·exact ha x hx
    ·rw[List.mem_singleton.1 hx];exact OD hq
  ·cases h;exact ha
theorem OE{l:List UInt8}{X:List Lx}(h:jh l=.inr X):∀ x∈X,nR x:=by
 unfold jh at h
 split at h
 ·cases h
 ·exact MI l _ _ _ _ (fun x hx=>by cases hx) h
theorem Xd(p:Nat)(s:ay)(w:World):Calls Tryz.prog 276 #[.agg #[.int .i64 1,.int .i64 p,.int .u64 (word s 0:Nat),.int .u64 (word s 1:Nat),.int .u64 (word s 2:Nat),.int .u64 (word s 3:Nat),.int .i64 0,.int .i64 0]] w (bV w (.bool true)):=by
 have e1:decide ((p:Int)<0)=false:=by simp
 go_enter Tryz.func276,Tryz.ntmps276
 go_wp2
 go_ret
 exact⟨rfl,by go_grown⟩
theorem Un(k p:Nat)(h1:2≤k)(h2:k<8)(w:World):Calls Tryz.prog 276 #[.agg #[.int .i64 k,.int .i64 p,.int .u64 0,.int .u64 0,.int .u64 0,.int .u64 0,.int .i64 0,.int .i64 0]] w (bV w (.bool true)):=by
 have e1:decide ((p:Int)<0)=false:=by simp
 have e2:((k:Int) != 1)=true:=by simp;omega
 have e3:((k:Int)==8)=false:=by simp;omega
 have e4:decide ((1:Int)≤k)=true:=decide_eq_true (by omega)
 have e5:decide ((k:Int)<8)=true:=decide_eq_true (by omega)
 have hq:=fun w=>JJ (P:=Tryz.prog) (t:=149) (e:=147) Tryz.underlying149 Tryz.underlying147 (by kernel_rfl) 0 0 w
 simp only[oH,mJ] at hq
 go_enter Tryz.func276,Tryz.ntmps276
 go_wp2
 go_ret
 exact⟨rfl,by go_grown⟩
theorem Uo(p:Nat)(lo hi:Int)(h0:0≤lo)(h1:lo≤1000)(h2:hi=-1)(w:World):Calls Tryz.prog 276 #[.agg #[.int .i64 8,.int .i64 p,.int .u64 0,.int .u64 0,.int .u64 0,.int .u64 0,.int .i64 lo,.int .i64 hi]] w (bV w (.bool true)):=by
 have e1:decide ((p:Int)<0)=false:=by simp
 have e2:decide ((0:Int)≤lo)=true:=decide_eq_true h0
 have e3:decide (lo≤(1000:Int))=true:=decide_eq_true h1
 subst h2
 have hq:=fun w=>JJ (P:=Tryz.prog) (t:=149) (e:=147) Tryz.underlying149 Tryz.underlying147 (by kernel_rfl) 0 0 w
 simp only[oH,mJ] at hq
 go_enter Tryz.func276,Tryz.ntmps276
 go_wp2
 go_ret
 exact⟨rfl,by go_grown⟩
theorem Ur(p:Nat)(lo hi:Int)(h0:0≤lo)(h1:lo≤1000)(h2:lo≤hi)(h3:hi≤1000)(w:World):Calls Tryz.prog 276 #[.agg #[.int .i64 8,.int .i64 p,.int .u64 0,.int .u64 0,.int .u64 0,.int .u64 0,.int .i64 lo,.int .i64 hi]] w (bV w (.bool true)):=by
 have e1:decide ((p:Int)<0)=false:=by simp
 have e2:decide ((0:Int)≤lo)=true:=decide_eq_true h0
 have e3:decide (lo≤(1000:Int))=true:=decide_eq_true h1
 have e4:(hi==-1)=false:=by simp;omega
 have e5:decide (lo≤hi)=true:=decide_eq_true h2
 have e6:decide (hi≤(1000:Int))=true:=decide_eq_true h3
 have hq:=fun w=>JJ (P:=Tryz.prog) (t:=149) (e:=147) Tryz.underlying149 Tryz.underlying147 (by kernel_rfl) 0 0 w
 simp only[oH,mJ] at hq
 go_enter Tryz.func276,Tryz.ntmps276
 go_wp2
 go_ret
 exact⟨rfl,by go_grown⟩
theorem Xe(x:Lx)(h:nR x)(w:World):Calls Tryz.prog 276 #[.agg (fE x).toArray] w (bV w (.bool true)):=by
 obtain⟨k,p,s,lo,hi⟩:=x
 rcases h with⟨h1,h2,h3⟩ | ⟨h1,h2,h3,h4,h5⟩ | ⟨h1,h2,h3,h4,h5⟩
 ·dsimp only at h1 h2 h3
  subst h1 h2 h3
  exact Xd p s w
 ·dsimp only at h1 h2 h3 h4 h5
  subst h3 h4 h5
  have:=Un k p h1 h2 w
  simp only[fE,oI]
  exact this
 ·dsimp only at h1 h2 h3 h4 h5
  subst h1 h2
  simp only[fE,oI]
  rcases h5 with h5 | ⟨h5,h6⟩
  ·exact Uo p lo hi h3 h4 h5 w
  ·exact Ur p lo hi h3 h4 h5 h6 w
end
section
open Go.RowKit
theorem KX{w wr:World}{b o i:Nat}{x:Lx}(h:∀ j u,(fE x)[j]?=some u→w.cell? ⟨b,o+i*8+j,none⟩=some u)(hB:Below w.heap.size w wr):∀ j u,(fE x)[j]?=some u→wr.cell? ⟨b,o+i*8+j,none⟩=some u:=fun j u hu=>by
 have:=h j u hu
 rw[hB.cell (World.block_lt_of_cell? w _ this)];exact this
theorem QN(a:Option Addr)(cap n:Nat)(L:List Lx)(w:World)(h:ak w (.slice a n cap) 8 fE L)(hR:∀ x∈L,nR x) :
  Calls Tryz.prog 222 #[.slice a n cap] w (bV w (if 1024<L.length then fG 4 (L.getD 1024 ⟨0,0,0,0,0⟩).at' else fG 0 0)):=by
 obtain⟨b,o,hn,hcap,hcap2,ha,hx⟩:=h.open
 have HX:=ah hx
 have HA:=ah ha
 have HR:=ah hR
 have HN:=ah hn
 clear hx ha hR h
 have hb0:Below w.heap.size w (w.alloc (.cells #[.int .i64 0,.int .i64 0] 88)):=by go_grown
 have hx0:=Box.new w #[.int .i64 0,.int .i64 0] 88
 clear hn
 have amO:n≤cap:=by rw[HN.out];exact hcap
 clear hcap
 obtain⟨ANS,hans⟩:∃ ANS,(if 1024<L.length then fG 4 (L.getD 1024 ⟨0,0,0,0,0⟩).at' else fG 0 0)=ANS:=⟨_,rfl⟩
 rw[hans]
 have HAN:=ah hans
 clear hans
 go_enter Tryz.func222,Tryz.ntmps222
 go_wp2
 go_loopw [7] (fun i wr=>∃ j:Nat,j≤n∧i=.int .i64 j∧Box wr w.heap.size #[.int .i64 0,.int .i64 0] 88∧Below w.heap.size w wr) (fun i _=>n - (intOf i).toNat)
 case atStart=>exact⟨0,Nat.zero_le _,rfl,hx0,hb0⟩
 case round =>
  clear hx0 hb0
  obtain⟨j,hj,rfl,hX,hB⟩:=hrel
  by_cases hlt:j<n
  ·have hjl:j<L.length:=by rw[←HN.out];exact hlt
   obtain rfl:=HA.out j hjl
   have y:=KX (HX.out j hjl) hB
   have y0:=y 0 _ rfl
   have y1:=y 1 _ rfl
   have y2:=y 2 _ rfl
   have y3:=y 3 _ rfl
   have y4:=y 4 _ rfl
   have y5:=y 5 _ rfl
   have y6:=y 6 _ rfl
   have y7:=y 7 _ rfl
   have hbl:=World.block_lt_of_cell? wr _ y0
   have hrt:=Xe L[j] (HR.out _ (List.getElem_mem hjl))
   simp only[Nat.add_zero] at y0
   have KY:=ah hrt
   clear y hrt
   generalize L[j]=x at *
   clear hjl
   go_wp2_with (go_at_call 276;go_must (refine(KY.out _).mono ?_;rintro e w1 ⟨rfl,hb1⟩))
   go_roundw
   case rel=>exact⟨j+1,hlt,by go_num,(hX.alloc _).kept hb1,(hB.trans ((aj wr _).mono hB.size)).trans (hb1.mono (by have:=hB.size;simp;omega))⟩
   case measure=>simp[intOf];omega
  ·have hans:=HAN.out
   have hnl:=HN.out
   have f0:=hX.free 0
   have f1:=hX.free 1
   have c0:=hX.cell 0
   have c1:=hX.cell 1
   by_cases hbig:1024<n
   ·have hjl:1024<L.length:=by rw[←HN.out];exact hbig
    obtain rfl:=HA.out 1024 hjl
    rw[if_pos hjl,List.getD_eq_getElem?_getD,List.getElem?_eq_getElem hjl,Option.getD_some] at hans
    have y1:=KX (HX.out 1024 hjl) hB 1 _ rfl
    have hbl:=World.block_lt_of_cell? wr _ y1
    subst hans
    generalize L[1024]=x at *
    clear hjl hnl
    go_wp2
    exact eU Tryz.results222 rfl (cs:=#[.int .i64 4,.int .i64 x.at']) ((hX.set 0 _).set 1 _) Tryz.underlying88 rfl (by kernel_rfl) rfl ⟨rfl,(hB.setCell (by simp) _).setCell (by simp) _⟩
   ·rw[if_neg (by omega)] at hans
    subst hans
    clear hnl
    go_wp2
    exact eU Tryz.results222 rfl (cs:=#[.int .i64 0,.int .i64 0]) ((hX.set 0 _).set 1 _) Tryz.underlying88 rfl (by kernel_rfl) rfl ⟨rfl,(hB.setCell (by simp) _).setCell (by simp) _⟩
end
end Go.Proofs.YtbemonecmmnlcaaGreatDoor
