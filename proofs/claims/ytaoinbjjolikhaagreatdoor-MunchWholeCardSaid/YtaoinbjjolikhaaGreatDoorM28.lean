/- The texts of B28, in few letters (mini.py). -/
import Derived.Test.YtaoinbjjolikhaaGreatDoorM27
set_option linter.unusedVariables false
set_option linter.unusedSimpArgs false
set_option maxRecDepth 20000
set_option maxHeartbeats 3200000
namespace Go.Proofs.YtaoinbjjolikhaaGreatDoor
section
open Go.RowKit
theorem Nc(x:Tr):bW 0 [x]=bG x:=by rw[bW,bW,FW (zG x)]
theorem Uf(s:au)(x:Tr)(lo hi:Int)(z:Nf×Nat):bH (.mk 9 s [x] lo hi) z =
  if bG x=0 then z else
   if hi<0 then sK false (bH x) (bY (bH x) lo.toNat z) else if hi=lo then bY (bH x) lo.toNat z else
    ((bY (fun y=>bH x (y.1.link y.2 (bY (bH x) lo.toNat z).1.states,y.2)) (hi - lo).toNat ((bY (bH x) lo.toNat z).1.state 0,(bY (bH x) lo.toNat z).2)).1.link
     (bY (fun y=>bH x (y.1.link y.2 (bY (bH x) lo.toNat z).1.states,y.2)) (hi - lo).toNat ((bY (bH x) lo.toNat z).1.state 0,(bY (bH x) lo.toNat z).2)).2 (bY (bH x) lo.toNat z).1.states,
     (bY (bH x) lo.toNat z).1.states):=by
 obtain⟨y,f⟩:=z
 rw[bH,if_neg (by decide),if_neg (by decide),if_neg (by decide),if_neg (by decide),if_pos rfl,Nc]
 have e:nN [x]=bH x:=by funext z;rw[nN]
 rw[e]
theorem Nh(f:Nf×Nat→Nf×Nat)(hf:∀ z:Nf×Nat,z.1.le (f z).1)(z:Nf×Nat)(k n:Nat)(h:k≤n):(bY f k z).1.le (bY f n z).1:=by
 induction n with
 | zero =>
      obtain rfl:k=0:=by omega
      exact .refl _
 | succ n ih =>
  by_cases hk:k=n+1
  ·subst hk;exact .refl _
  ·exact(ih (by omega)).trans (by rw[tX];exact hf _)
theorem kN.star{w:World}{r base:Nat}{k:Int}{s:au}{a:Option Addr}{cap:Nat}{X:Vt}{lo hi:Int}(h:kN w r base (.mk k s a cap [X] lo hi)):kN w r base (.mk 6 0 a cap [X] 0 0):=by
 obtain⟨_,_,_,hs,hk⟩:=h.lies.open
 have hX:=h.kid 0 Nat.zero_lt_one
 refine⟨.mk 6 0 a cap [X] 0 0 ⟨by decide,by decide⟩ ⟨by decide,by decide⟩ ⟨by decide,by decide⟩ hs hk,?_,?_⟩
 ·have:=h.on
  cases this with | mk _ _ _ _ _ _ _ g1 g2=>exact .mk _ _ _ _ _ _ _ g1 g2
 ·have h2:allT X.tr=true:=hX.all
  rw[Vt.jP,List.map_singleton,allT,vN,vN,h2]
  rfl
theorem aik(r base:Nat)(s:au)(a:Option Addr)(cap:Nat)(X:Vt)(lo hi:Int)(ih:EK r base X):G8 115 r base (.mk 9 s a cap [X] lo hi):=by
 intro N V f w h hT hb hsm
 obtain⟨R,hR⟩:∃ R:Nf×Nat,bH (Vt.mk 9 s a cap [X] lo hi).tr (N,f)=R:=⟨_,rfl⟩
 rw[hR] at hsm ⊢
 rw[Vt.jP,List.map_singleton,Uf] at hR
 have hone:=hT.all
 rw[Vt.jP,allT,Bool.and_eq_true] at hone
 have DI:=hone.1
 unfold dX yH at DI
 simp only[if_true,Bool.and_eq_true,Bool.or_eq_true,decide_eq_true_eq] at DI
 have DI:=DI.1.2
 clear hone
 obtain⟨L,rfl⟩:∃ L:Nat,lo=L:=⟨lo.toNat,by omega⟩
 have hL:L≤1000:=by omega
 have hhi:hi=-1∨((L:Int)≤hi∧hi≤1000):=by omega
 rw[Int.toNat_natCast] at hR
 clear DI
 have hlt0:∀ g,V.has g→g<w.heap.size:=fun g hg=>(h.hasLt g hg).2
 have hrl:=h.box.lt
 obtain⟨b,o,rfl,hcap,hc2,hX2⟩:=hT.YA
 obtain⟨k5,s5,a5,cp5,bZ,cu,hi5⟩:=X
 obtain⟨x0,x1,x2,x3,x4,x5,x6,x7⟩:=qW hc2
 have hbl:=World.block_lt_of_cell? w _ x0
 have hB0:=aj w (.cells (aF 9 s (some ⟨b,o,none⟩) 1 cap L hi).toArray 101)
 have hx0:=Box.new w (aF 9 s (some ⟨b,o,none⟩) 1 cap L hi).toArray 101
 have hB1:=aj (w.alloc (.cells (aF 9 s (some ⟨b,o,none⟩) 1 cap L hi).toArray 101)) (.cells (aF k5 s5 a5 bZ.length cp5 cu hi5).toArray 101)
 have hy1:=Box.new (w.alloc (.cells (aF 9 s (some ⟨b,o,none⟩) 1 cap L hi).toArray 101)) (aF k5 s5 a5 bZ.length cp5 cu hi5).toArray 101
 have hx1:=hx0.kept hB1
 have h1:=(h.kept hB0).kept hB1
 have hT1:=(hT.fF hB0).fF hB1
 have hK1:=(Turned.below (r:=r) (V:=V) hB0).trans (Turned.below hB1)
 have hW:=LD _ _ (hX2.lies.kept (hB0.trans (hB1.mono hB0.size))) hX2.all
 rw[World.size_alloc] at hy1
 have hz1:((w.alloc (.cells (aF 9 s (some ⟨b,o,none⟩) 1 cap L hi).toArray 101)).alloc (.cells (aF k5 s5 a5 bZ.length cp5 cu hi5).toArray 101)).heap.size=w.heap.size+2:=by rw[World.size_alloc,World.size_alloc]
 obtain⟨wt,hwt⟩:∃ n:Nat,bG (Vt.mk k5 s5 a5 cp5 bZ cu hi5).tr=n:=⟨_,rfl⟩
 rw[hwt] at hW hR
 have HW:=ah hW;have HR:=ah hR;have xg:=ah hsm;have HI:=ah ih;have H1:=ah h1;have HT1:=ah hT1;have WQ:=ah hK1
 have hn1:¬ V.has w.heap.size:=fun e=>by have:=hlt0 _ e;omega
 have hn2:¬ V.has (w.heap.size+1):=fun e=>by have:=hlt0 _ e;omega
 have hbs:base≤w.heap.size:=hb
 clear hW hR hsm ih h1 hT1 hK1 hT h hc2 hX2 hB0 hx0 hlt0 hwt hb hB1
 show Calls Tryz.prog 115 #[.pointer (some ⟨r,0,none⟩),.agg (aF 9 s (some ⟨b,o,none⟩) 1 cap L hi).toArray,.int .i64 f] w _
 by_cases hw0:wt=0
 ·have hR:=HR.out
  rw[if_pos hw0] at hR
  subst hw0
  subst hR
  clear HR hhi hL
  go_enter Tryz.func115,Tryz.ntmps115
  go_wp2_with (go_at_call 109;go_must (refine HW.out.mono ?_;rintro e w2 ⟨rfl,hb2⟩))
  go_ret
  exact⟨rfl,_,H1.out.kept hb2,WQ.out.trans (Turned.below hb2)⟩
 have hwb:((wt:Int)==0)=false:=by rw[beq_eq_false_iff_ne];omega
 have hR:=HR.out
 rw[if_neg hw0] at hR
 clear HR
 obtain⟨Z,hZ⟩:∃ Z:Nat→Nf×Nat,∀ k,Z k=bY (bH (Vt.mk k5 s5 a5 cp5 bZ cu hi5).tr) k (N,f):=⟨_,fun _=>rfl⟩
 have wY:Z 0=(N,f):=by rw[hZ,bY]
 have hZs:∀ k,Z (k+1)=bH (Vt.mk k5 s5 a5 cp5 bZ cu hi5).tr (Z k):=fun k=>by rw[hZ,tX,←hZ]
 have G9:∀ k,k≤L→(Z k).1.le (Z L).1:=fun k hk=>by rw[hZ,hZ];exact Nh _ (fun z=>oC _ z) _ k L hk
 rw[←hZ] at hR
 clear hZ hw0
 have hRL:(Z L).1.small:=by
  have hs:=xg.out
  rw[←hR] at hs
  by_cases c1:hi<0
  ·rw[if_pos c1] at hs
   exact(JA _ _ (fun z=>oC _ z) _).small hs
  ·rw[if_neg c1] at hs
   by_cases c2:hi=L
   ·rw[if_pos c2] at hs;exact hs
   ·rw[if_neg c2] at hs
    exact((Nf.iR _ 0).trans ((BD _ (fun z=>(Nf.iW _ _ _).trans (oC _ (_,_))) _ (_,_)).trans (Nf.iW _ _ _))).small hs
 have HR:=ah hR;have zA:=ah hRL;have HZ0:=ah wY;have P9:=ah hZs;have Qa:=ah G9
 clear hR hRL wY hZs G9
 have hLb:(L:Int)≤1000:=by omega
 go_enter Tryz.func115,Tryz.ntmps115
 go_wp2_with (go_at_call 109;go_must (refine HW.out.mono ?_;rintro e w2 ⟨rfl,hb2⟩;have hx2:=hx1.kept hb2;have hy2:=hy1.kept hb2;have z6:w2.cell? ⟨w.heap.size,6,none⟩=some (.int .i64 (L:Nat)):=hx2.cell 6;have hlx:=hx2.lt))
 have h2:=H1.out.kept hb2
 have hT2:=HT1.out.fF hb2
 have hK2:=WQ.out.trans (Turned.below hb2)
 have hz2:w.heap.size+2≤w2.heap.size:=by rw[←hz1];exact hb2.size
 have H2:=ah h2;have HT2:=ah hT2;have HK2:=ah hK2
 clear h2 hT2 hK2 H1 HT1 WQ HW hb2 hz1 hx1 hy1 z6 x0 x1 x2 x3 x4 x5 x6 x7 hwb
 go_loopw [2,19] (fun v i wr=>∃ (j:Nat) (V':Y3),j≤L∧i=.int .i64 j∧v=.int .i64 (Z j).2∧gU wr r base (Z j).1 V'∧Turned r V V' w2 wr) (fun _ i _=>L - (intOf i).toNat)
 case atStart=>exact⟨0,V,Nat.zero_le _,rfl,by rw[HZ0.out],by rw[HZ0.out];exact H2.out,Turned.below (Below.refl _ _)⟩
 case round =>
  obtain⟨j,V1,hj,rfl,rfl,h3,hA3⟩:=hrel
  have hz3:=hA3.size
  have hx3:=hA3.box hx2 (by omega) hn1
  have hy3:=hA3.box hy2 (by omega) hn2
  by_cases hlt:j<L
  ·obtain⟨y0,y1,y2,y3,y4,y5,y6,y7⟩:=hy3.node
   have hla:=HI.out (Z j).1 V1 (Z j).2 wr h3 ((HT2.out.kept H2.out hA3 (by omega)).kid 0 Nat.zero_lt_one) (by omega) (by
    rw[show((Z j).1,(Z j).2)=Z j from rfl,←P9.out];exact(Qa.out _ hlt).small zA.out)
   rw[show((Z j).1,(Z j).2)=Z j from rfl,←P9.out] at hla
   have He:=ah hla
   clear hla h3 hx3 hy3
   have hji:(j:Int)<(L:Int):=by omega
   have hj0:(0:Int)≤(j:Int):=by omega
   go_wp2_with (go_at_call 80;go_must (refine He.out.mono ?_;rintro e w3 ⟨rfl,V3,h4,wX⟩))
   exact⟨⟨j+1,V3,hlt,by push_cast;rfl,rfl,h4,hA3.trans wX⟩,by simp[intOf];omega⟩
  ·obtain rfl:j=L:=by omega
   have z6:wr.cell? ⟨w.heap.size,7,none⟩=some (.int .i64 hi):=hx3.cell 7
   have z5:wr.cell? ⟨w.heap.size,6,none⟩=some (.int .i64 (j:Nat)):=hx3.cell 6
   have z4:wr.cell? ⟨w.heap.size,5,none⟩=some (.slice (some ⟨b,o,none⟩) 1 cap):=hx3.cell 5
   have hT3:=HT2.out.kept H2.out hA3 (by omega)
   rcases hhi with rfl | ⟨hge,hle⟩
   ·have hR:=HR.out
    rw[if_pos (by decide)] at hR
    have hlo:=WO r base false 0 (some ⟨b,o,none⟩) cap (Vt.mk k5 s5 a5 cp5 bZ cu hi5) 0 0 HI.out (Z j).1 V1 (Z j).2 wr h3 hT3.star (by omega) (by
     rw[Vt.jP,List.map_singleton,yO,show((Z j).1,(Z j).2)=Z j from rfl,hR];exact xg.out)
    rw[Vt.jP,List.map_singleton,yO,show((Z j).1,(Z j).2)=Z j from rfl,hR] at hlo
    have HLO:=ah hlo
    clear hR hlo h3 hT3 hx3 hy3 HR
    go_wp2_with (go_at_call 113;go_must (refine HLO.out.mono ?_;rintro e w3 ⟨rfl,V3,h4,wX⟩))
    go_ret
    exact⟨rfl,_,h4,(HK2.out.trans hA3).trans wX⟩
   have hn0:¬ hi<0:=by omega
   by_cases he:hi=(j:Int)
   ·have hR:=HR.out
    rw[if_neg hn0,if_pos he] at hR
    subst he
    subst hR
    clear HR hT3 hx3 hy3 xg
    go_wp2
    go_ret
    exact⟨rfl,_,h3,HK2.out.trans hA3⟩
   have hR:=HR.out
   rw[if_neg hn0,if_neg he] at hR
   have heb:(hi==(j:Int))=false:=by rw[beq_eq_false_iff_ne];exact he
   obtain⟨ns,hns⟩:∃ n,(Z j).1.states=n:=⟨_,rfl⟩
   rw[hns] at hR
   obtain⟨Y,hY⟩:∃ Y:Nat→Nf×Nat,∀ k,Y k=bY (fun y=>bH (Vt.mk k5 s5 a5 cp5 bZ cu hi5).tr (y.1.link y.2 ns,y.2)) k ((Z j).1.state 0,(Z j).2):=⟨_,fun _=>rfl⟩
   obtain⟨D,hD⟩:∃ D:Nat,(hi - (j:Int)).toNat=D:=⟨_,rfl⟩
   rw[hD,←hY] at hR
   have hDi:(D:Int)=hi - (j:Int):=by omega
   have hY0:Y 0=((Z j).1.state 0,(Z j).2):=by rw[hY,bY]
   have hYs:∀ k,Y (k+1)=bH (Vt.mk k5 s5 a5 cp5 bZ cu hi5).tr ((Y k).1.link (Y k).2 ns,(Y k).2):=fun k=>by rw[hY,tX,←hY]
   have hgm:∀ z:Nf×Nat,z.1.le ((fun y:Nf×Nat=>bH (Vt.mk k5 s5 a5 cp5 bZ cu hi5).tr (y.1.link y.2 ns,y.2)) z).1:=fun z=>(Nf.iW z.1 z.2 ns).trans (oC _ (_,_))
   have hYm:∀ k,k≤D→(Y k).1.le (Y D).1:=fun k hk=>by rw[hY,hY];exact Nh _ hgm _ k D hk
   have hsD:(Y D).1.small:=by
    have:=xg.out
    rw[←hR] at this
    exact(Nf.iW _ _ _).small this
   have hs0:=rU r base 0 (Z j).1 V1 wr h3 (by omega) zA.out.2.2
   rw[hns] at hs0
   have HR:=ah hR;have HD:=ah hDi;have HY0:=ah hY0;have HYS:=ah hYs;have HYM:=ah hYm;have HSD:=ah hsD;have HS0:=ah hs0
   clear hR hY hD hDi hY0 hYs hYm hsD hs0 he hns hgm
   go_wp2_with (go_at_call 79;go_must (refine HS0.out.mono ?_;rintro e w3 ⟨rfl,V3,h4,wX⟩;have Fb:=hA3.trans wX;have hx4:=Fb.box hx2 (Nat.ne_of_gt (by omega)) hn1;have z7:w3.cell? ⟨w.heap.size,7,none⟩=some (.int .i64 hi):=hx4.cell 7;have z8:w3.cell? ⟨w.heap.size,6,none⟩=some (.int .i64 (j:Nat)):=hx4.cell 6))
   have AA:=Fb.size
   clear wX hA3 hx4 z7 z8 z6 z5 z4 hT3 hx3 hy3 h3 HS0 hz3
   go_loopw [2,50] (fun v i wr=>∃ (k:Nat) (V':Y3),k≤D∧i=.int .i64 k∧v=.int .i64 (Y k).2∧gU wr r base (Y k).1 V'∧Turned r V V' w2 wr) (fun _ i _=>D - (intOf i).toNat)
   case atStart=>exact⟨0,V3,Nat.zero_le _,rfl,by rw[HY0.out],by rw[HY0.out];exact h4,Fb⟩
   case round =>
    obtain⟨k,V5,hk,rfl,rfl,h5,hA5⟩:=hrel
    have hz5:=hA5.size
    clear h4 Fb AA
    by_cases hlt2:k<D
    ·have hki:(k:Int)<hi - (j:Int):=by have:=HD.out;omega
     have hk0:(0:Int)≤(k:Int):=by omega
     have hsk:((Y k).1.link (Y k).2 ns).small:=by
      have:=(HYM.out _ hlt2).small HSD.out
      rw[HYS.out] at this
      exact(oC _ (_,_)).small this
     have MX:=ah (vk r base (Y k).2 ns (Y k).1 V5 wr h5 (by omega) ((HYM.out k hk).small HSD.out).1)
     have HSK:=ah hsk
     clear hsk h5
     go_wp2_with (first | (go_at_call 81;go_must (refine MX.out.mono ?_;rintro e w4 ⟨rfl,V6,h6,Td⟩;have hA6:=hA5.trans Td;have hz6:=hA6.size;have hy6:=hA6.box hy2 (Nat.ne_of_gt (by omega)) hn2;obtain⟨y0,y1,y2,y3,y4,y5,y6,y7⟩:=hy6.node)) | (go_at_call 80;go_must (refine(HI.out ((Y k).1.link (Y k).2 ns) V6 (Y k).2 w4 h6 ((HT2.out.kept H2.out hA6 (by omega)).kid 0 Nat.zero_lt_one) (by omega) (by rw[←HYS.out];exact(HYM.out _ hlt2).small HSD.out)).mono ?_;rintro e w5 ⟨rfl,V7,h7,ht7⟩)))
     have e:=HYS.out k
     exact⟨⟨k+1,V7,hlt2,by push_cast;rfl,by rw[e],by rw[e];exact h7,hA6.trans ht7⟩,by simp[intOf];omega⟩
    ·obtain rfl:k=D:=by omega
     have hki:¬ ((k:Int)<hi - (j:Int)):=by have:=HD.out;omega
     have hR:=HR.out
     have MX:=ah (vk r base (Y k).2 ns (Y k).1 V5 wr h5 (by omega) HSD.out.1)
     subst hR
     clear HR h5
     go_wp2_with (go_at_call 81;go_must (refine MX.out.mono ?_;rintro e w4 ⟨rfl,V6,h6,Td⟩))
     go_ret
     exact⟨rfl,_,h6,(HK2.out.trans hA5).trans Td⟩
end
section
open Go.RowKit
theorem Nj(s:au)(l:List Tr)(lo hi:Int)(z:Nf×Nat):bH (.mk 2 s l lo hi) z=z:=by
 obtain⟨y,f⟩:=z
 rw[bH];rfl
theorem Ug(s:au)(l:List Tr)(lo hi:Int)(y:Nf)(f:Nat):bH (.mk 3 s l lo hi) (y,f)=((y.state 0).edge f s y.states,y.states):=by
 rw[bH];rfl
theorem aa5(s:au)(l:List Tr)(lo hi:Int)(y:Nf)(f:Nat):bH (.mk 1 s l lo hi) (y,f)=(y.state 0,y.states):=by
 rw[bH];rfl
theorem adE(r base:Nat)(k:Int)(s:au)(a:Option Addr)(cap:Nat)(kids:List Vt)(lo hi:Int)(hk:k=1∨k=2∨k=3):G8 110 r base (.mk k s a cap kids lo hi):=by
 intro N V f w h hT hb hsm
 rw[Vt.jP] at hsm ⊢
 have hB0:=aj w (.cells (aF k s a kids.length cap lo hi).toArray 101)
 have h0:=h.kept hB0
 have hx0:=Box.new w (aF k s a kids.length cap lo hi).toArray 101
 show Calls Tryz.prog 110 #[.pointer (some ⟨r,0,none⟩),.agg (aF k s a kids.length cap lo hi).toArray,.int .i64 f] w _
 rcases hk with rfl | rfl | rfl
 ·rw[aa5] at hsm ⊢
  have hs:=rU r base 0 N V _ h0 (by rw[World.size_alloc];omega) ((Nf.iR N 0).small hsm).2.2
  have HS:=ah hs;have HB:=ah hB0
  clear hs hsm h0 hx0 hT h hB0
  go_enter Tryz.func110,Tryz.ntmps110
  go_wp2_with (go_at_call 79;go_must (refine HS.out.mono ?_;rintro e w2 ⟨rfl,V2,h2,ht2⟩))
  go_ret
  exact⟨rfl,_,h2,(Turned.below HB.out).trans ht2⟩
 ·rw[Nj] at hsm ⊢
  have H0:=ah h0;have HB:=ah hB0
  clear hsm h0 hx0 hT h hB0
  go_enter Tryz.func110,Tryz.ntmps110
  go_wp2
  go_ret
  exact⟨rfl,_,H0.out,Turned.below HB.out⟩
 ·rw[Ug] at hsm ⊢
  exact agr r base f s a kids.length cap lo hi N V w h hb ⟨((Nf.iR N 0).small ((Nf.Oa _ _ _ _).small hsm)).2.2,((Nf.iR N 0).small ((Nf.Oa _ _ _ _).small hsm)).2.1⟩
theorem ags{w:World}{r base:Nat}{k:Int}{s:au}{a:Option Addr}{cap:Nat}{kids:List Vt}{lo hi:Int}(h:kN w r base (.mk k s a cap kids lo hi)):(k=1∨k=2∨k=3)∨k=4∨k=5∨(∃ p:Bool,(if p then 7 else 6:Int)=k)∨k=8∨k=9:=by
 have:=h.all
 rw[Vt.jP,allT,Bool.and_eq_true] at this
 have h1:=this.1
 unfold dX at h1
 simp only[Bool.and_eq_true] at h1
 have h2:=h1.2
 unfold iO at h2
 by_cases h0:k=1∨k=2∨k=3∨k=4∨k=5∨k=6∨k=7∨k=8∨k=9
 ·rcases h0 with h | h | h | h | h | h | h | h | h
  ·exact .inl (.inl h)
  ·exact .inl (.inr (.inl h))
  ·exact .inl (.inr (.inr h))
  ·exact .inr (.inl h)
  ·exact .inr (.inr (.inl h))
  ·exact .inr (.inr (.inr (.inl ⟨false,h.symm⟩)))
  ·exact .inr (.inr (.inr (.inl ⟨true,h.symm⟩)))
  ·exact .inr (.inr (.inr (.inr (.inl h))))
  ·exact .inr (.inr (.inr (.inr (.inr h))))
 ·exfalso
  simp only[not_or] at h0
  obtain⟨g1,g2,g3,g4,g5,g6,g7,g8,g9⟩:=h0
  by_cases hr:0≤k∧k<10
  ·obtain rfl:k=0:=by omega
   simp[ZF] at h2
  ·rw[if_neg hr] at h2
   simp at h2
theorem wE(r base:Nat)(k:Int)(fn:Nat)(s:au)(a:Option Addr)(cap:Nat)(kids:List Vt)(lo hi:Int)(hk:(k=1∧fn=110)∨(k=2∧fn=110)∨(k=3∧fn=110)∨(k=4∧fn=111)∨(k=5∧fn=112)∨(k=6∧fn=113)∨(k=7∧fn=113)∨(k=8∧fn=114)∨(k=9∧fn=115))
  (H:G8 fn r base (.mk k s a cap kids lo hi)):EK r base (.mk k s a cap kids lo hi):=by
 intro N V f w h hT hb hsm
 have hB0:=aj w (.cells (aF k s a kids.length cap lo hi).toArray 101)
 have hm:=H N V f _ (h.kept hB0) (hT.fF hB0) (by rw[World.size_alloc];omega) hsm
 have HM:=ah hm;have HB:=ah hB0
 show Calls Tryz.prog 80 #[.pointer (some ⟨r,0,none⟩),.agg (aF k s a kids.length cap lo hi).toArray,.int .i64 f] w _
 generalize bH (Vt.mk k s a cap kids lo hi).tr (N,f)=R at *
 clear hm H hsm hT h hB0
 rcases hk with⟨rfl,rfl⟩ | ⟨rfl,rfl⟩ | ⟨rfl,rfl⟩ | ⟨rfl,rfl⟩ | ⟨rfl,rfl⟩ | ⟨rfl,rfl⟩ | ⟨rfl,rfl⟩ | ⟨rfl,rfl⟩ | ⟨rfl,rfl⟩
 all_goals
  go_enter Tryz.func80,Tryz.ntmps80
  go_wp2_with fail
  refine HM.out.mono ?_
  rintro e w2 ⟨rfl,V2,h2,ht2⟩
  go_wp2
  go_ret
  exact⟨rfl,_,h2,(Turned.below HB.out).trans ht2⟩
theorem aiq(r base:Nat):∀ (X:Vt),sizeT X.tr≤1099511627776→EK r base X:=by
 refine Vt.ind fun k s a cap kids lo hi ih=>?_
 intro hsz N V f w h hT hb hsm
 have hks:∀ i (h:i<kids.length),EK r base kids[i]:=fun i h=>ih i h (by
  rw[Vt.jP,sizeT] at hsz
  have:=Xv (kids.map Vt.tr) i (by simpa using h)
  rw[List.getElem_map] at this
  omega)
 have hkl:kids.length≤1099511627776:=by
  rw[Vt.jP,sizeT] at hsz
  have:=Lc (kids.map Vt.tr)
  rw[List.length_map] at this
  omega
 refine(?_:EK r base (.mk k s a cap kids lo hi)) N V f w h hT hb hsm
 rcases ags hT with h1 | rfl | rfl | ⟨p,hp⟩ | rfl | rfl
 ·have:=adE r base k s a cap kids lo hi h1
  rcases h1 with rfl | rfl | rfl
  ·exact wE r base 1 _ s a cap kids lo hi (.inl ⟨rfl,rfl⟩) this
  ·exact wE r base 2 _ s a cap kids lo hi (.inr (.inl ⟨rfl,rfl⟩)) this
  ·exact wE r base 3 _ s a cap kids lo hi (.inr (.inr (.inl ⟨rfl,rfl⟩))) this
 ·exact wE r base 4 _ s a cap kids lo hi (.inr (.inr (.inr (.inl ⟨rfl,rfl⟩)))) (ah9 r base s a cap kids lo hi hks)
 ·exact wE r base 5 _ s a cap kids lo hi (.inr (.inr (.inr (.inr (.inl ⟨rfl,rfl⟩))))) (aib r base s a cap kids lo hi hkl hks)
 ·obtain⟨X,rfl⟩:=hT.one (by cases p <;> simp at hp <;> omega)
  have:=WO r base p s a cap X lo hi (hks 0 Nat.zero_lt_one)
  cases p
  ·subst hp
   exact wE r base 6 _ s a cap [X] lo hi (.inr (.inr (.inr (.inr (.inr (.inl ⟨rfl,rfl⟩)))))) this
  ·subst hp
   exact wE r base 7 _ s a cap [X] lo hi (.inr (.inr (.inr (.inr (.inr (.inr (.inl ⟨rfl,rfl⟩))))))) this
 ·obtain⟨X,rfl⟩:=hT.one (by simp)
  exact wE r base 8 _ s a cap [X] lo hi (.inr (.inr (.inr (.inr (.inr (.inr (.inr (.inl ⟨rfl,rfl⟩)))))))) (aia r base s a cap X lo hi (hks 0 Nat.zero_lt_one))
 ·obtain⟨X,rfl⟩:=hT.one (by simp)
  exact wE r base 9 _ s a cap [X] lo hi (.inr (.inr (.inr (.inr (.inr (.inr (.inr (.inr ⟨rfl,rfl⟩)))))))) (aik r base s a cap X lo hi (hks 0 Nat.zero_lt_one))
end
section
open Go.RowKit
def Nf.by(c w:Nat)(A B:Nf):Prop:=B.accept.length≤A.accept.length+w∧B.edges.length≤A.edges.length+w∧B.links.length+min w 1≤A.links.length+c*w
def Nf.Nk(c w:Nat)(A B:Nf):Prop:=B.accept.length≤A.accept.length+w∧B.edges.length≤A.edges.length+w∧B.links.length≤A.links.length+c*w
theorem Nf.by.refl(c:Nat)(A:Nf):A.by c 0 A:=⟨Nat.le_refl _,Nat.le_refl _,by simp⟩
theorem Nf.by.weak{c w:Nat}{A B:Nf}(h:A.by c w B):A.Nk c w B:=⟨h.1,h.2.1,by have:=h.2.2;omega⟩
theorem Nf.by.trans{c w v:Nat}{A B D:Nf}(h:A.by c w B)(k:B.by c v D):A.by c (w+v) D:=by
 obtain⟨h1,h2,h3⟩:=h
 obtain⟨k1,k2,k3⟩:=k
 refine⟨by omega,by omega,?_⟩
 rw[Nat.mul_add]
 generalize c*w=x at *
 generalize c*v=y at *
 omega
theorem Nf.Nk.trans{c w v:Nat}{A B D:Nf}(h:A.Nk c w B)(k:B.Nk c v D):A.Nk c (w+v) D:=by
 obtain⟨h1,h2,h3⟩:=h
 obtain⟨k1,k2,k3⟩:=k
 refine⟨by omega,by omega,?_⟩
 rw[Nat.mul_add];omega
theorem Nf.by.mono{c w v:Nat}{A B:Nf}(h:A.by c w B)(hv:w≤v)(hc:0<c):A.by c v B:=by
 obtain⟨h1,h2,h3⟩:=h
 refine⟨by omega,by omega,?_⟩
 have h4:=Nat.mul_le_mul_left c hv
 by_cases hw:w=0
 ·subst hw
  rw[Nat.mul_zero] at h3
  by_cases hv0:v=0
  ·subst hv0;simpa using h3
  ·have:1≤c*v:=Nat.mul_pos hc (by omega)
   omega
 ·omega
theorem yP(c n:Nat)(f:Nf×Nat→Nf×Nat)(hf:∀ z:Nf×Nat,z.1.Nk c n (f z).1):∀ (k:Nat) (z:Nf×Nat),z.1.Nk c (k*n) (bY f k z).1
 | 0,z=>by rw[bY,Nat.zero_mul];exact⟨Nat.le_refl _,Nat.le_refl _,by simp⟩
 | k+1,z=>by
  rw[bY,Nat.succ_mul,Nat.add_comm]
  exact(hf z).trans (yP c n f hf k _)
theorem aa6(l:List Nat)(b:Nat):∀ (N:Nf),(l.foldl (fun z e=>z.link e b) N).links.length=N.links.length+l.length∧(l.foldl (fun z e=>z.link e b) N).edges=N.edges∧(l.foldl (fun z e=>z.link e b) N).accept=N.accept:=by
 induction l with
 | nil=>intro N;exact⟨rfl,rfl,rfl⟩
 | cons e l ih =>
  intro N
  rw[List.foldl_cons]
  obtain⟨h1,h2,h3⟩:=ih (N.link e b)
  refine⟨?_,h2,h3⟩
  rw[h1,Nf.link,List.length_append,List.length_cons]
  simp only[List.length_nil,List.length_cons]
  omega
theorem sV{a b:Nat}(h:addN a b<aH):addN a b=a+b∧a+b<aH:=by
 unfold addN at h ⊢
 split
 ·rename_i h1;rw[if_pos h1] at h;omega
 ·rename_i h1;rw[if_neg h1] at h;exact⟨rfl,h⟩
theorem IC{a b:Nat}(h:mulN a b<aH):mulN a b=a*b∧(0<a→b<aH):=by
 unfold mulN at h ⊢
 by_cases h0:a=0∨b=0
 ·rw[if_pos h0]
  rcases h0 with rfl | rfl
  ·exact⟨by rw[Nat.zero_mul],fun h=>by omega⟩
  ·exact⟨by rw[Nat.mul_zero],fun _=>by unfold aH;omega⟩
 ·rw[if_neg h0] at h ⊢
  by_cases h1:aH / b<a
  ·rw[if_pos h1] at h;omega
  ·rw[if_neg h1] at h ⊢
   refine⟨rfl,fun ha=>?_⟩
   have:1*b≤a*b:=Nat.mul_le_mul_right _ ha
   omega
theorem Dh:∀ (l:List Tr) (a:Nat),bW a l<aH→bW a l=a+(l.map bG).sum∧(∀ x∈l,bG x<aH)
 | [],a,h=>by rw[bW];exact⟨rfl,fun x h=>by simp at h⟩
 | x::l,a,h=>by
  rw[bW] at h ⊢
  obtain⟨h1,h2⟩:=Dh l _ h
  have h3:addN a (bG x)<aH:=by omega
  obtain⟨h4,h5⟩:=sV h3
  refine⟨by rw[h1,h4,List.map_cons,List.sum_cons];omega,fun y hy=>?_⟩
  rcases List.mem_cons.1 hy with rfl | hy
  ·omega
  ·exact h2 y hy
theorem WR(c:Nat):∀ (l:List Tr) (z:Nf×Nat),(∀ x∈l,∀ z:Nf×Nat,z.1.by c (bG x) (bH x z).1)→z.1.by c (l.map bG).sum (jV l z).1
 | [],z,_=>by rw[jV];exact .refl _ _
 | x::l,z,h=>by
  rw[jV,List.map_cons,List.sum_cons]
  exact(h x (List.mem_cons_self ..) z).trans (WR c l _ fun y hy=>h y (List.mem_cons_of_mem _ hy))
theorem WS(c:Nat):∀ (l:List Tr) (y:Nf) (f:Nat) (ends:List Nat),(∀ x∈l,∀ z:Nf×Nat,z.1.by c (bG x) (bH x z).1)→y.by c (l.map bG).sum (fQ l y f ends).1
 | [],y,_,_,_=>by rw[fQ];exact .refl _ _
 | x::l,y,f,ends,h=>by
  rw[fQ,List.map_cons,List.sum_cons]
  exact(h x (List.mem_cons_self ..) (y,f)).trans (WS c l _ f _ fun y hy=>h y (List.mem_cons_of_mem _ hy))
theorem Kq{c n:Nat}(hc:3≤c)(p:Bool)(f:Nf×Nat→Nf×Nat)(hf:∀ z:Nf×Nat,z.1.by c n (f z).1)(z:Nf×Nat):z.1.by c (n+1) (sK p f z).1:=by
 obtain⟨h1,h2,h3⟩:=hf ((z.1.state 0).link z.2 z.1.states,z.1.states)
 unfold sK
 dsimp only
 generalize f ((z.1.state 0).link z.2 z.1.states,z.1.states)=A at *
 simp only[Nf.state,Nf.link,List.length_append,List.length_cons,List.length_nil] at h1 h2 h3 ⊢
 refine⟨?_,?_,?_⟩
 ·show A.1.accept.length≤z.1.accept.length+(n+1);omega
 ·show A.1.edges.length≤z.1.edges.length+(n+1);omega
 ·rw[Nat.mul_succ]
  show(A.1.links++[(A.2,z.1.states)]).length+min (n+1) 1≤z.1.links.length+(c*n+c)
  simp only[List.length_append,List.length_cons,List.length_nil]
  generalize c*n=x at *
  omega
theorem adF{c:Nat}(hc:1≤c)(A:Nf)(k:Nat):A.by c 1 (A.state k):=⟨by simp[Nf.state],by simp[Nf.state],by simp[Nf.state];omega⟩
theorem agt{c:Nat}(hc:1≤c)(A:Nf)(k a b:Nat)(s:au):A.by c 1 ((A.state k).edge a s b):=⟨by simp[Nf.state,Nf.edge],by simp[Nf.state,Nf.edge],by simp[Nf.state,Nf.edge];omega⟩
theorem OC{k:Int}{s:au}{kids:List Tr}{lo hi:Int}(h:dX k s kids.length lo hi=true)(hk:k=6∨k=7∨k=8∨k=9):∃ x,kids=[x]:=by
 unfold dX at h
 have hl:kids.length=1:=by
  rcases hk with rfl | rfl | rfl | rfl <;> · simp[iO] at h;exact h.2
 match kids,hl with
 | [x],_=>exact⟨x,rfl⟩
theorem aa7(M:Nat)(k:Int)(s:au)(kids:List Tr)(lo hi:Int)(h1:dX k s kids.length lo hi=true)(hl:kids.length≤M)(hw:bG (.mk k s kids lo hi)<aH)
  (ih:(∀ x∈kids,bG x<aH)→∀ x∈kids,∀ z:Nf×Nat,z.1.by (M+3) (bG x) (bH x z).1) (z:Nf×Nat):z.1.by (M+3) (bG (.mk k s kids lo hi)) (bH (.mk k s kids lo hi) z).1:=by
 rw[LC] at hw ⊢
 by_cases h2:k=2
 ·subst h2
  rw[if_pos (.inl rfl)] at hw ⊢
  rw[Nj]
  exact(Nf.by.refl _ _).mono (Nat.zero_le _) (by omega)
 by_cases h4:k=4
 ·subst h4
  rw[if_pos (.inr rfl)] at hw ⊢
  obtain⟨e,hx⟩:=Dh kids 0 hw
  rw[Ua,e,Nat.zero_add]
  exact WR _ kids z (ih hx)
 rw[if_neg (by omega)] at hw ⊢
 by_cases h9:k=9
 ·subst h9
  obtain⟨x,rfl⟩:=OC h1 (by simp)
  rw[if_pos rfl,Nc] at hw ⊢
  rw[Uf]
  have DI:=h1
  unfold dX yH at DI
  simp only[if_true,Bool.and_eq_true,Bool.or_eq_true,decide_eq_true_eq] at DI
  have DI:=DI.1.2
  by_cases h0:bG x=0
  ·rw[if_pos h0,h0]
   exact(Nf.by.refl _ _).mono (Nat.zero_le _) (by omega)
  rw[if_neg h0]
  unfold oI at hw ⊢
  rw[if_neg h0] at hw ⊢
  have IH:=fun(hx:bG x<aH)=>ih (by simpa using hx) x (by simp)
  clear ih h1
  generalize hn:bG x=n at *
  by_cases hh:hi<0
  ·rw[if_pos hh] at hw ⊢
   rw[if_pos hh]
   obtain⟨a1,a2⟩:=sV hw
   obtain⟨b1,b2⟩:=sV (a:=mulN lo.toNat n) (b:=n) (by omega)
   have IH:=IH (by omega)
   obtain⟨c1,_⟩:=IC (a:=lo.toNat) (b:=n) (by omega)
   rw[a1,b1,c1]
   obtain⟨p1,p2,p3⟩:=yP (M+3) n _ (fun z=>(IH z).weak) lo.toNat z
   generalize bY (bH x) lo.toNat z=Z at *
   obtain⟨q1,q2,q3⟩:=Kq (by omega) false _ IH Z
   refine⟨by omega,by omega,?_⟩
   rw[Nat.mul_succ] at q3 ⊢
   rw[Nat.mul_add]
   generalize (M+3)*n=x1 at *
   generalize (M+3)*(lo.toNat*n)=x2 at *
   omega
  ·rw[if_neg hh] at hw ⊢
   rw[if_neg hh]
   by_cases he:hi=lo
   ·rw[if_neg (by omega)] at hw ⊢
    rw[if_pos he]
    obtain⟨c1,c2⟩:=IC hw
    rw[c1]
    by_cases hl:lo.toNat=0
    ·rw[hl,bY,Nat.zero_mul];exact .refl _ _
    ·have IH:=IH (c2 (by omega))
     obtain⟨l,hl'⟩:∃ l,lo.toNat=l+1:=⟨lo.toNat - 1,by omega⟩
     rw[hl',tX,Nat.succ_mul]
     obtain⟨p1,p2,p3⟩:=yP (M+3) n _ (fun z=>(IH z).weak) l z
     generalize bY (bH x) l z=Z at *
     obtain⟨q1,q2,q3⟩:=IH Z
     refine⟨by omega,by omega,?_⟩
     rw[Nat.mul_add]
     generalize (M+3)*n=x1 at *
     generalize (M+3)*(l*n)=x2 at *
     omega
   ·rw[if_pos (by omega)] at hw ⊢
    rw[if_neg he]
    obtain⟨a1,a2⟩:=sV hw
    obtain⟨b1,b2⟩:=sV (a:=mulN lo.toNat n) (b:=mulN (hi - lo).toNat n) (by omega)
    obtain⟨c1,_⟩:=IC (a:=lo.toNat) (b:=n) (by omega)
    obtain⟨d1,d2⟩:=IC (a:=(hi - lo).toNat) (b:=n) (by omega)
    have IH:=IH (d2 (by omega))
    rw[a1,b1,c1,d1]
    obtain⟨p1,p2,p3⟩:=yP (M+3) n _ (fun z=>(IH z).weak) lo.toNat z
    generalize bY (bH x) lo.toNat z=Z at *
    obtain⟨q1,q2,q3⟩:=yP (M+3) n (fun y=>bH x (y.1.link y.2 Z.1.states,y.2)) (fun y=>by
     obtain⟨r1,r2,r3⟩:=IH (y.1.link y.2 Z.1.states,y.2)
     simp only[Nf.link,List.length_append,List.length_cons,List.length_nil] at r1 r2 r3
     refine⟨r1,r2,?_⟩
     show(bH x (y.1.link y.2 Z.1.states,y.2)).1.links.length≤_
     simp only[Nf.link]
     have:min n 1=1:=by omega
     omega) (hi - lo).toNat (Z.1.state 0,Z.2)
    generalize bY (fun y=>bH x (y.1.link y.2 Z.1.states,y.2)) (hi - lo).toNat (Z.1.state 0,Z.2)=U at *
    simp only[Nf.state,List.length_append,List.length_cons,List.length_nil] at q1 q2 q3
    refine⟨?_,?_,?_⟩
    ·simp only[Nf.link];omega
    ·simp only[Nf.link];omega
    ·simp only[Nf.link,List.length_append,List.length_cons,List.length_nil]
     rw[Nat.mul_succ,Nat.mul_add]
     generalize (M+3)*((hi - lo).toNat*n)=x1 at *
     generalize (M+3)*(lo.toNat*n)=x2 at *
     omega
 rw[if_neg h9] at hw ⊢
 obtain⟨e,hlt⟩:=sV hw
 obtain⟨e1,hx⟩:=Dh kids 0 (by omega)
 rw[e,e1,Nat.zero_add]
 have IH:=ih hx
 obtain⟨y,f⟩:=z
 by_cases h5:k=5
 ·subst h5
  rw[Ud]
  obtain⟨g1,g2,g3⟩:=WS (M+3) kids y f [] IH
  have gl:=JC kids y f []
  dsimp only
  generalize fQ kids y f []=A at *
  obtain⟨l1,l2,l3⟩:=aa6 A.2 A.1.states (A.1.state 0)
  refine⟨?_,?_,?_⟩
  ·rw[l3];simp only[Nf.state,List.length_append,List.length_cons,List.length_nil];omega
  ·rw[l2];simp only[Nf.state];omega
  ·rw[l1,Nat.mul_succ];simp only[Nf.state]
   simp only[List.length_nil] at gl
   generalize (M+3)*(kids.map bG).sum=q at *
   omega
 by_cases h67:k=6∨k=7
 ·obtain⟨x,rfl⟩:=OC h1 (by omega)
  have hb:=fun z=>IH x (by simp) z
  rw[show(List.map bG [x]).sum=bG x from by simp]
  rcases h67 with rfl | rfl
  ·rw[show(Tr.mk 6 s [x] lo hi)=.mk (if false then 7 else 6) s [x] lo hi from rfl,yO]
   exact Kq (by omega) _ _ hb _
  ·rw[show(Tr.mk 7 s [x] lo hi)=.mk (if true then 7 else 6) s [x] lo hi from rfl,yO]
   exact Kq (by omega) _ _ hb _
 by_cases h8:k=8
 ·subst h8
  obtain⟨x,rfl⟩:=OC h1 (by omega)
  obtain⟨g1,g2,g3⟩:=IH x (by simp) (y,f)
  rw[show(List.map bG [x]).sum=bG x from by simp,Uc]
  dsimp only at g1 g2 g3 ⊢
  generalize bH x (y,f)=A at *
  refine⟨?_,?_,?_⟩
  ·simp only[Nf.state,Nf.link,List.length_append,List.length_cons,List.length_nil];omega
  ·simp only[Nf.state,Nf.link];omega
  ·rw[Nat.mul_succ];simp only[Nf.state,Nf.link,List.length_append,List.length_cons,List.length_nil]
   generalize (M+3)*bG x=q at *
   omega
 by_cases h3:k=3
 ·subst h3
  rw[Ug]
  exact(agt (by omega) y 0 f y.states s).mono (by omega) (by omega)
 ·have:bH (.mk k s kids lo hi) (y,f)=(y.state 0,y.states):=by
   rw[bH,if_neg h4,if_neg h5,if_neg h67,if_neg h8,if_neg h9,if_neg h2,if_neg h3]
  rw[this]
  exact(adF (by omega) y 0).mono (by omega) (by omega)
mutual
theorem WT(M:Nat):∀ (t:Tr),allT t=true→sizeT t≤M→bG t<aH→∀ z:Nf×Nat,z.1.by (M+3) (bG t) (bH t z).1
 | .mk k s kids lo hi,ha,hs,hw,z=>by
  rw[allT,Bool.and_eq_true] at ha
  rw[sizeT] at hs
  have hl:=Lc kids
  exact aa7 M k s kids lo hi ha.1 (by omega) hw (fun hx=>Uh M kids ha.2 (by omega) hx) z
theorem Uh(M:Nat):∀ (l:List Tr),vN l=true→pJ l≤M→(∀ x∈l,bG x<aH)→∀ x∈l,∀ z:Nf×Nat,z.1.by (M+3) (bG x) (bH x z).1
 | [],_,_,_,x,hx,_=>by simp at hx
 | y::l,ha,hs,hw,x,hx,z=>by
  rw[vN,Bool.and_eq_true] at ha
  rw[pJ] at hs
  have h1:=WT M y ha.1 (by omega) (hw y (by simp))
  have h2:=Uh M l ha.2 (by omega) (fun x hx=>hw x (by simp[hx]))
  rcases List.mem_cons.1 hx with hx | hx
  ·rw[hx];exact h1 z
  ·exact h2 x hx z
end
theorem WU:∀ (l:List Tr) (a:Nat),rE a l<aH→rE a l=a+(l.map fun x=>bG x+1).sum∧(∀ x∈l,bG x<aH)
 | [],a,_=>⟨rfl,fun x h=>by simp at h⟩
 | x::l,a,h=>by
  have e:rE a (x::l)=rE (addN a (EY x)) l:=rfl
  rw[e] at h ⊢
  obtain⟨h1,h2⟩:=WU l _ h
  have h3:addN a (EY x)<aH:=by omega
  obtain⟨h4,h5⟩:=sV h3
  have h6:EY x<aH:=by omega
  obtain⟨h7,h8⟩:=sV (show addN (bG x) 1<aH from h6)
  have h9:EY x=bG x+1:=h7
  refine⟨by rw[h1,h4,h9,List.map_cons,List.sum_cons];omega,fun y hy=>?_⟩
  rcases List.mem_cons.1 hy with rfl | hy
  ·omega
  ·exact h2 y hy
theorem WV(M:Nat):∀ (l:List Tr) (z:Nf×Nat),(∀ x∈l,allT x=true∧sizeT x≤M∧bG x<aH)→z.1.Nk (M+4) (l.map fun x=>bG x+1).sum (l.foldl nY z).1
 | [],z,_=>⟨Nat.le_refl _,Nat.le_refl _,by simp⟩
 | x::l,z,h=>by
  obtain⟨h1,h2,h3⟩:=h x (by simp)
  obtain⟨g1,g2,g3⟩:=WT M x h1 h2 h3 (z.1,0)
  have hs:z.1.Nk (M+4) (bG x+1) (nY z x).1:=by
   unfold nY
   dsimp only at g1 g2 g3
   refine⟨?_,?_,?_⟩
   ·simp only[Nf.state,Nf.link,List.length_append,List.length_cons,List.length_nil];omega
   ·simp only[Nf.state,Nf.link];omega
   ·simp only[Nf.state,Nf.link,List.length_append,List.length_cons,List.length_nil]
    have e1:(M+4)*(bG x+1)=(M+3)*bG x+bG x+(M+4):=by rw[Nat.mul_succ,show M+4=M+3+1 from rfl,Nat.succ_mul]
    rw[e1]
    generalize (M+3)*bG x=q at *
    omega
  rw[List.foldl_cons,List.map_cons,List.sum_cons]
  exact hs.trans (WV M l _ fun y hy=>h y (by simp[hy]))
theorem Nl(l:List Tr)(h:∀ x∈l,iZ x=true)(hs:qL l≤65536):(qX l).1.small∧(qX l).1.accept.length≤65536∧(qX l).1.edges.length≤65536∧(qX l).1.links.length≤268697600:=by
 unfold qL at hs
 obtain⟨e1,e2⟩:=sV (a:=1) (b:=rE 0 l) (by unfold aH;omega)
 obtain⟨e3,e4⟩:=WU l 0 (by omega)
 obtain⟨g1,g2,g3⟩:=WV 4096 l (Ac,0) fun x hx=>by
  have:=h x hx
  unfold iZ at this
  rw[Bool.and_eq_true,decide_eq_true_eq] at this
  exact⟨this.2,this.1,e4 x hx⟩
 have h0:Ac.accept.length=1∧Ac.edges.length=0∧Ac.links.length=0:=⟨rfl,rfl,rfl⟩
 dsimp only at g1 g2 g3
 unfold Nf.small qX
 omega
end
section
open Go.RowKit
theorem air(V:Vt)(w:World)(hL:Lies w V)(hr:iZ V.tr=true):Calls Tryz.prog 77 #[.agg V.cells.toArray] w (aX w (.bool false)):=by
 have hc:=fun u hu=>Eo V u hu
 rw[hr] at hc
 obtain⟨k,s,a,cap,kids,lo,hi⟩:=V
 have hB0:=aj w (.cells (aF k s a kids.length cap lo hi).toArray 101)
 have h0:=hc _ (hL.kept hB0)
 have H0:=ah h0
 clear h0 hc hL hr
 show Calls Tryz.prog 77 #[.agg (aF k s a kids.length cap lo hi).toArray] w _
 go_enter Tryz.func77,Tryz.ntmps77
 go_wp2_with (go_at_call 75;go_must (refine H0.out.mono ?_;rintro e w2 ⟨rfl,hb2⟩))
 go_ret
 exact⟨rfl,hB0.trans (hb2.mono hB0.size)⟩
theorem adG(kids:List Vt)(a:Option Addr)(cap:Nat)(w:World)(sA:ak w (.slice a kids.length cap) 8 Vt.cells kids)(lA:∀ i (h:i<kids.length),Lies w kids[i])(hr:∀ i (h:i<kids.length),iZ kids[i].tr=true) :
  Calls Tryz.prog 105 #[.slice a kids.length cap,.func (.func 77) #[] #[]] w (aX w (.int .i64 (-1))):=by
 obtain⟨b,o,c1,c2,c3,c4,c5⟩:=sA.kids
 clear sA c4
 have HC:=ah c5;have LA:=ah lA;have HR:=ah hr
 clear c5 lA hr
 obtain⟨n,hn⟩:∃ n,kids.length=n:=⟨_,rfl⟩
 have HN:=ah hn
 have h3:∀ i,i<n→a=some ⟨b,o,none⟩:=by rw[←hn];exact c3
 have hnc:n≤cap:=by rw[←hn];exact c1
 rw[hn]
 clear c3 c1 hn
 go_enter Tryz.func105,Tryz.ntmps105
 go_wp2
 go_loopw [8] (fun i wr=>∃ k:Nat,k≤n∧i=.int .i64 k∧Below w.heap.size w wr) (fun i _=>n - (intOf i).toNat)
 case atStart=>exact⟨0,Nat.zero_le _,rfl,Below.refl _ _⟩
 case round =>
  obtain⟨k,hk,rfl,hB⟩:=hrel
  by_cases hlt:k<n
  ·have hlk:k<kids.length:=by rw[HN.out];exact hlt
   obtain rfl:=h3 k hlt
   have e1:=HC.out k hlk wr hB
   have hcall:=air kids[k] wr ((LA.out k hlk).kept hB) (HR.out k hlk)
   generalize kids[k]=V at *
   obtain⟨k5,s5,a5,cp5,bZ,cu,hi5⟩:=V
   obtain⟨x0,x1,x2,x3,x4,x5,x6,x7⟩:=qW e1
   have hbl:=World.block_lt_of_cell? wr _ x0
   have rD:=ah hcall
   clear e1 hcall
   have hki:(k:Int)<(n:Int):=by omega
   have hk0:(0:Int)≤(k:Int):=by omega
   go_wp2_with (go_at_call 77;go_must (refine rD.out.mono ?_;rintro e w2 ⟨rfl,hb2⟩))
   exact⟨⟨k+1,hlt,by push_cast;rfl,hB.trans (hb2.mono hB.size)⟩,by simp[intOf];omega⟩
  ·obtain rfl:k=n:=by omega
   go_wp2
   go_ret
   exact⟨rfl,hB⟩
theorem VD(kids:List Vt)(a:Option Addr)(cap:Nat)(w:World)(sA:ak w (.slice a kids.length cap) 8 Vt.cells kids)(lA:∀ i (h:i<kids.length),Lies w kids[i])(hr:∀ i (h:i<kids.length),iZ kids[i].tr=true) :
  Calls Tryz.prog 76 #[.slice a kids.length cap,.func (.func 77) #[] #[]] w (aX w (.bool false)):=by
 have H:=ah (adG kids a cap w sA lA hr)
 clear sA lA hr
 generalize kids.length=n at *
 go_enter Tryz.func76,Tryz.ntmps76
 go_wp2_with (go_at_call 105;go_must (refine H.out.mono ?_;rintro e w2 ⟨rfl,hb2⟩))
 go_ret
 exact⟨rfl,hb2⟩
structure tH(w:World)(N:Nf)(V:Y3):Prop where
 li:ak w V.l 2 MZ N.links
 ed:ak w V.e 6 gy N.edges
 ac:ak w V.a 1 aS N.accept
theorem tH.kept{w w':World}{N:Nf}{V:Y3}(h:tH w N V)(hb:Below w.heap.size w w'):tH w' N V:=⟨h.li.kept hb,h.ed.kept hb,h.ac.kept hb⟩
theorem gU.nf5{w:World}{r base rb:Nat}{N:Nf}{V:Y3}(h:gU w r base N V)(hb:rb<base)(v0 v1 v2 v3 v4:Value):tH (((((w.setCell ⟨rb,0,none⟩ v0).setCell ⟨rb,1,none⟩ v1).setCell ⟨rb,2,none⟩ v2).setCell ⟨rb,3,none⟩ v3).setCell ⟨rb,4,none⟩ v4) N V :=
 ⟨(((((h.li.other _ _ hb).other _ _ hb).other _ _ hb).other _ _ hb).other _ _ hb).slice TV,(((((h.ed.other _ _ hb).other _ _ hb).other _ _ hb).other _ _ hb).other _ _ hb).slice xO,(((((h.ac.other _ _ hb).other _ _ hb).other _ _ hb).other _ _ hb).other _ _ hb).slice dR⟩
theorem Turned.toBelow{r:Nat}{V V':Y3}{w0 w w':World}(h:Turned r V V' w w')(hb:Below w0.heap.size w0 w)(hr:w0.heap.size≤r)(hv:∀ g,¬ V.has g):Below w0.heap.size w0 w' :=
 ⟨h.os.trans hb.os,h.tape.trans hb.tape,h.output.trans hb.output,Nat.le_trans hb.size h.size,fun b hb'=>(h.block b (Nat.lt_of_lt_of_le hb' hb.size) (by omega) (hv b)).trans (hb.block b hb')⟩
theorem Box.aa8{w:World}{b E:Nat}{a0 a1 a2 a3 a4:Value}(h:Box w b #[a0,a1,a2,a3,a4] E)(v0 v1 v2 v3 v4:Value) :
  Box (((((w.setCell ⟨b,0,none⟩ v0).setCell ⟨b,1,none⟩ v1).setCell ⟨b,2,none⟩ v2).setCell ⟨b,3,none⟩ v3).setCell ⟨b,4,none⟩ v4) b #[v0,v1,v2,v3,v4] E:=by
 have:=((((h.set 0 v0).set 1 v1).set 2 v2).set 3 v3).set 4 v4
 simpa using this
def wF:Y3:=⟨.slice none 0 0,.slice none 0 0,.slice none 0 0⟩
theorem Ui(g:Nat):¬ wF.has g:=by rintro(h | h | h) <;> cases h
def oM:Nf:=⟨0,[],[],[]⟩
def dK(N:Nf)(V:Y3):Array Value:=#[.int .i64 N.states,.int .i64 0,V.l,V.e,V.a]
theorem aa9(w:World):gU (w.alloc (.cells (dK oM wF) 138)) w.heap.size (w.heap.size+1) oM wF :=
 ⟨Box.new w _ _,Own.nil _ _ _ _ _,Own.nil _ _ _ _ _,Own.nil _ _ _ _ _,Nat.lt_succ_self _,rfl⟩
def Hf(l:List Tr)(w:World)(e:Ending)(w':World):Prop:=Below w.heap.size w w'∧if qL l≤65536 then ∃ V,tH w' (tC l) V∧e=.returned (.tuple #[.agg (dK (tC l) V),.int .i64 0]) else e=.returned (.tuple #[.agg (dK oM wF),.int .i64 7])
theorem ais(kids:List Vt)(a:Option Addr)(cap:Nat)(w:World)(sA:ak w (.slice a kids.length cap) 8 Vt.cells kids)(lA:∀ i (h:i<kids.length),Lies w kids[i])(hr:∀ i (h:i<kids.length),iZ kids[i].tr=true)(h64:kids.length≤64) :
  Calls Tryz.prog 54 #[.slice a kids.length cap] w (Hf (kids.map Vt.tr) w):=by
 obtain⟨b,o,c1,c2,c3,c4,c5⟩:=sA.kids
 have hall:∀ i (h:i<kids.length),allT kids[i].tr=true:=fun i h=>by have:=hr i h;unfold iZ at this;rw[Bool.and_eq_true] at this;exact this.2
 have hsz:∀ i (h:i<kids.length),sizeT kids[i].tr≤1099511627776:=fun i h=>by have:=hr i h;unfold iZ at this;rw[Bool.and_eq_true,decide_eq_true_eq] at this;omega
 have hC:=fun(u:World) (hu:Below w.heap.size w u)=>VD kids a cap u (sA.kept hu) (fun i h=>(lA i h).kept hu) hr
 have hS:=fun(u:World) (hu:Below w.heap.size w u)=>acW kids a cap u (sA.kept hu) (fun i h=>(lA i h).kept hu) hall
 have hB0:=aj w (.cells (dK oM wF) 107)
 have hx0:=Box.new w (dK oM wF) 107
 by_cases hbig:qL (kids.map Vt.tr)≤65536
 ·have hR:∀ V w',tH w' (tC (kids.map Vt.tr)) V→Below w.heap.size w w'→Hf (kids.map Vt.tr) w (.returned (.tuple #[.agg (dK (tC (kids.map Vt.tr)) V),.int .i64 0])) w':=fun V w' h1 h2=>⟨h2,by rw[if_pos hbig];exact⟨V,h1,rfl⟩⟩
  have hd:decide ((65536:Int)<((qL (kids.map Vt.tr):Nat):Int))=false:=by simp;omega
  obtain⟨hsmall,wB⟩:=Nl (kids.map Vt.tr) (fun x hx=>by
   obtain⟨X,hX,rfl⟩:=List.mem_map.1 hx
   obtain⟨i,hi,rfl⟩:=List.mem_iff_getElem.1 hX
   exact hr i hi) hbig
  clear wB
  obtain⟨Z,hZ⟩:∃ Z:Nat→Nf×Nat,∀ k,Z k=qX ((kids.map Vt.tr).take k):=⟨_,fun _=>rfl⟩
  have hZs:∀ k (hk:k<kids.length),Z (k+1)=nY (Z k) kids[k].tr:=fun k hk=>by
   rw[hZ,hZ,Zk _ _ (by simpa using hk),List.getElem_map]
  have wY:Z 0=(Ac,0):=by rw[hZ,List.take_zero];rfl
  have Nb:(Z kids.length).1=tC (kids.map Vt.tr):=by rw[hZ,List.take_of_length_le (by simp)];rfl
  have G9:∀ k,(Z k).1.small:=fun k=>by rw[hZ];exact(Rk _ k).small hsmall
  have hZk:∀ k,k≤kids.length→(Z k).2=k:=fun k hk=>by rw[hZ,ace,List.length_take,List.length_map];omega
  rw[←Nb] at hR
  generalize Hf (kids.map Vt.tr) w=R at *
  generalize qL (kids.map Vt.tr)=z at *
  have wG:=fun(u:World)=>rU u.heap.size (u.heap.size+1) 0 oM wF (u.alloc (.cells (dK oM wF) 138)) (aa9 u) (by simp) (by simp[oM])
  have HC:=ah hC;have HS:=ah hS;have HB0:=ah hB0;have HX0:=ah hx0;have HR:=ah hR;have HL:=ah lA;have G7:=ah hall;have Lh:=ah hsz;have P9:=ah hZs;have HZ0:=ah wY;have Qa:=ah G9;have HZK:=ah hZk;have H3:=ah c3;have H5:=ah c5;have HST:=ah wG
  clear hC hS hB0 hx0 hR hr sA lA hall hsz c3 c4 c5 c2 hbig hZ hZs wY Nb G9 hZk hsmall wG
  obtain⟨n,hn⟩:∃ n,kids.length=n:=⟨_,rfl⟩
  have HN:=ah hn
  rw[hn] at h64 c1 HR HZK HC HS ⊢
  clear hn
  have rJ:decide ((64:Int)<(n:Int))=false:=by simp;omega
  go_enter Tryz.func54,Tryz.ntmps54
  go_wp2_with (first | (go_at_call 76;go_must (refine(HC.out _ HB0.out).mono ?_;rintro e w2 ⟨rfl,hb2⟩;have hB2:=HB0.out.trans (hb2.mono HB0.out.size))) | (go_at_call 78;go_must (refine(HS.out _ hB2).mono ?_;rintro e w3 ⟨rfl,hb3⟩;have hB3:=hB2.trans (hb3.mono hB2.size);have hx3:=(HX0.out.kept hb2).kept hb3)) | (go_at_call 79;go_must (refine(HST.out w3).mono ?_;rintro e w4 ⟨rfl,V4,hL4,hT4⟩)))
  have amr:=aa9 w3
  have ait:=hB3.trans ((aj w3 (.cells (dK oM wF) 138)).mono hB3.size)
  have aiu:=hx3.alloc (.cells (dK oM wF) 138)
  have hxl:=hx3.lt
  have hws:=hB3.size
  have hsz3:(w3.alloc (.cells (dK oM wF) 138)).heap.size=w3.heap.size+1:=World.size_alloc _ _
  clear amr hb2 hb3 hB2 hB3 hx3 HB0 HX0 HST
  generalize (w3.alloc (.cells (dK oM wF) 138))=w3a at *
  generalize w3.heap.size=r at *
  have HB3:=ah ait;have HX3:=ah aiu
  clear ait aiu
  go_loopw [25] (fun i wr=>∃ (k:Nat) (V:Y3),k≤n∧i=.int .i64 k∧gU wr r (r+1) (Z k).1 V∧Turned r wF V w3a wr) (fun i _=>n - (intOf i).toNat)
  case atStart=>exact⟨0,V4,Nat.zero_le _,rfl,by rw[HZ0.out];exact hL4,hT4⟩
  case round =>
   clear hL4 hT4
   obtain⟨k,V,hk,rfl,Qb,WW⟩:=hrel
   have hBk:=WW.toBelow HB3.out (by omega) Ui
   have ap9:=WW.size
   by_cases hlt:k<n
   ·have hlk:k<kids.length:=by rw[HN.out];exact hlt
    obtain rfl:=H3.out k hlk
    have e1:=H5.out k hlk wr hBk
    have hzs:=P9.out k hlk
    have hzk:=HZK.out k hk
    have adH:=(HL.out k hlk)
    have hal:=G7.out k hlk
    have hly:=aiq r (r+1) kids[k] (Lh.out k hlk)
    generalize kids[k]=X at *
    obtain⟨k5,s5,a5,cp5,bZ,cu,hi5⟩:=X
    obtain⟨x0,x1,x2,x3,x4,x5,x6,x7⟩:=qW e1
    have hbl:=World.block_lt_of_cell? wr _ x0
    have hB1:=aj wr (.cells (aF k5 s5 a5 bZ.length cp5 cu hi5).toArray 101)
    have hon:On (fun b=>b<r+1∧b≠r) (.mk k5 s5 a5 cp5 bZ cu hi5):=adH.on.mono fun b hb=>⟨by omega,by omega⟩
    have hTy:kN (wr.alloc (.cells (aF k5 s5 a5 bZ.length cp5 cu hi5).toArray 101)) r (r+1) (.mk k5 s5 a5 cp5 bZ cu hi5):=⟨(adH.kept hBk).kept hB1,hon,hal⟩
    have wC:=Qa.out (k+1)
    rw[hzs] at wC
    have hcl:=hly (Z k).1 V 0 _ (Qb.kept hB1) hTy (by rw[World.size_alloc];omega) (((Nf.iR _ _).trans (Nf.iW _ _ _)).small wC)
    have adI:=WW.trans (Turned.below hB1)
    have aqa:=adI.size
    unfold nY at hzs wC
    rw[hzk] at hzs wC
    generalize bH (Vt.mk k5 s5 a5 cp5 bZ cu hi5).tr ((Z k).1,0)=L at *
    have wB:=(Nf.iW _ _ _).small wC
    have HST:=ah (fun(u:World) (V':Y3) (hu:gU u r (r+1) L.1 V') (hs:r+1≤u.heap.size)=>by
     have h:=rU r (r+1) (k+1) L.1 V' u hu hs ((Nf.iR _ (k+1)).small wB).2.2
     rw[show((k+1:Nat):Int)=(k:Int)+1 from by push_cast;rfl] at h
     exact h)
    have uO:=ah (fun(u:World) (V':Y3) (hu:gU u r (r+1) (L.1.state (k+1)) V') (hs:r+1≤u.heap.size)=>vk r (r+1) L.2 L.1.states (L.1.state (k+1)) V' u hu hs wB.1)
    have rD:=ah hcl;have HTB:=ah adI;have HZZ:=ah hzs
    clear hcl adI hzs wC wB hTy hon adH hal hly e1 Qb WW hBk hB1 hzk
    have hki:(k:Int)<(n:Int):=by omega
    have hk0:(0:Int)≤(k:Int):=by omega
    go_wp2_with (first | (go_at_call 80;go_must (refine rD.out.mono ?_;rintro e w5 ⟨rfl,V5,hL5,kW⟩;have hs5:=kW.size;have ams:r+1≤w5.heap.size:=(by omega))) | (go_at_call 79;go_must (refine(HST.out w5 V5 hL5 ams).mono ?_;rintro e w6 ⟨rfl,V6,hL6,DK⟩;have hs6:=DK.size;have amu:r+1≤w6.heap.size:=(by omega))) | (go_at_call 81;go_must (refine(uO.out w6 V6 hL6 amu).mono ?_;rintro e w7 ⟨rfl,V7,hL7,nT⟩)))
    exact⟨⟨k+1,V7,hlt,by push_cast;rfl,by rw[HZZ.out];exact hL7,((HTB.out.trans kW).trans DK).trans nT⟩,by simp[intOf];omega⟩
   ·obtain rfl:k=n:=by omega
    obtain⟨vl,ve,va⟩:=V
    obtain⟨la,lc,hvl⟩:=Qb.li.form
    obtain⟨ea,ec,mD⟩:=Qb.ed.form
    obtain⟨aa,ac,hva⟩:=Qb.ac.form
    dsimp only at hvl mD hva
    subst hvl
    subst mD
    subst hva
    have hbx:=Qb.box
    have hxr:=WW.box HX3.out (by omega) (Ui _)
    have hnf:=fun v0 v1 v2 v3 v4=>Qb.nf5 (rb:=w.heap.size) (by omega) v0 v1 v2 v3 v4
    have y0:wr.cell? ⟨r,0,none⟩=some (.int .i64 (Z k).1.states):=hbx.cell 0
    have y1:wr.cell? ⟨r,1,none⟩=some (.int .i64 0):=hbx.cell 1
    have y2:wr.cell? ⟨r,2,none⟩=some (.slice la (Z k).1.links.length lc):=hbx.cell 2
    have y3:wr.cell? ⟨r,3,none⟩=some (.slice ea (Z k).1.edges.length ec):=hbx.cell 3
    have y4:wr.cell? ⟨r,4,none⟩=some (.slice aa (Z k).1.accept.length ac):=hbx.cell 4
    have z0:=hxr.free 0
    have z1:=hxr.free 1
    have z2:=hxr.free 2
    have z3:=hxr.free 3
    have z4:=hxr.free 4
    have c0:wr.cell? ⟨w.heap.size,0,none⟩=some (.int .i64 0):=hxr.cell 0
    have c1:wr.cell? ⟨w.heap.size,1,none⟩=some (.int .i64 0):=hxr.cell 1
    have c2:wr.cell? ⟨w.heap.size,2,none⟩=some (.slice none 0 0):=hxr.cell 2
    have c3:wr.cell? ⟨w.heap.size,3,none⟩=some (.slice none 0 0):=hxr.cell 3
    have c4:wr.cell? ⟨w.heap.size,4,none⟩=some (.slice none 0 0):=hxr.cell 4
    have zl:=hxr.lt
    have L9:=ah hnf;have HBK:=ah hBk;have HXR:=ah hxr
    clear hnf hBk hxr hbx Qb WW
    go_wp2
    refine fZ Tryz.results54 rfl rfl (Box.aa8 HXR.out _ _ _ _ _) Tryz.underlying107 rfl (by kernel_rfl) rfl ?_
    have bF:Below w.heap.size w (((((wr.setCell ⟨w.heap.size,0,none⟩ (.int .i64 (Z k).1.states)).setCell ⟨w.heap.size,1,none⟩ (.int .i64 0)).setCell ⟨w.heap.size,2,none⟩ (.slice la (Z k).1.links.length lc)).setCell ⟨w.heap.size,3,none⟩ (.slice ea (Z k).1.edges.length ec)).setCell ⟨w.heap.size,4,none⟩ (.slice aa (Z k).1.accept.length ac)):=((((HBK.out.setCell (Nat.le_refl _) _).setCell (Nat.le_refl _) _).setCell (Nat.le_refl _) _).setCell (Nat.le_refl _) _).setCell (Nat.le_refl _) _
    exact HR.out ⟨_,_,_⟩ _ (L9.out _ _ _ _ _) bF
 ·have hR:∀ w',Below w.heap.size w w'→Hf (kids.map Vt.tr) w (.returned (.tuple #[.agg (dK oM wF),.int .i64 7])) w':=fun w' h=>⟨h,by rw[if_neg hbig]⟩
  generalize Hf (kids.map Vt.tr) w=R at *
  have hd:decide ((65536:Int)<((qL (kids.map Vt.tr):Nat):Int))=true:=by simp;omega
  generalize qL (kids.map Vt.tr)=z at *
  have HC:=ah hC;have HS:=ah hS;have HB0:=ah hB0;have HX0:=ah hx0;have HR:=ah hR
  clear hC hS hB0 hx0 hR hr sA lA hall hsz c3 c4 c5 c2 hbig
  generalize kids.length=n at *
  have rJ:decide ((64:Int)<(n:Int))=false:=by simp;omega
  clear c1
  go_enter Tryz.func54,Tryz.ntmps54
  go_wp2_with (first | (go_at_call 76;go_must (refine(HC.out _ HB0.out).mono ?_;rintro e w2 ⟨rfl,hb2⟩;have hB2:=HB0.out.trans (hb2.mono HB0.out.size))) | (go_at_call 78;go_must (refine(HS.out _ hB2).mono ?_;rintro e w3 ⟨rfl,hb3⟩;have hB3:=hB2.trans (hb3.mono hB2.size);have hx3:=(HX0.out.kept hb2).kept hb3;have z0:=hx3.free 0;have z1:=hx3.free 1;have z2:=hx3.free 2;have z3:=hx3.free 3;have z4:=hx3.free 4;have c0:w3.cell? ⟨w.heap.size,0,none⟩=some (.int .i64 0):=hx3.cell 0;have c1:w3.cell? ⟨w.heap.size,1,none⟩=some (.int .i64 0):=hx3.cell 1;have c2:w3.cell? ⟨w.heap.size,2,none⟩=some (.slice none 0 0):=hx3.cell 2;have c3:w3.cell? ⟨w.heap.size,3,none⟩=some (.slice none 0 0):=hx3.cell 3;have c4:w3.cell? ⟨w.heap.size,4,none⟩=some (.slice none 0 0):=hx3.cell 4;have zl:=hx3.lt)))
  refine fZ Tryz.results54 rfl rfl (Box.aa8 hx3 _ _ _ _ _) Tryz.underlying107 rfl (by kernel_rfl) rfl (HR.out _ (((((hB3.setCell (Nat.le_refl _) _).setCell (Nat.le_refl _) _).setCell (Nat.le_refl _) _).setCell (Nat.le_refl _) _).setCell (Nat.le_refl _) _))
end
end Go.Proofs.YtaoinbjjolikhaaGreatDoor
