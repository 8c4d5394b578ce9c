/- The texts of N29, in few letters (mini.py). -/
import Derived.Test.YtengfapcaaacaaaGreatDoorM28
set_option linter.unusedVariables false
set_option linter.unusedSimpArgs false
set_option maxRecDepth 20000
set_option maxHeartbeats 3200000
namespace Go.Proofs.YtengfapcaaacaaaGreatDoor
section
open Go.RowKit
theorem MB(x:Tr):bV 0 [x]=bg x:=by rw[bV,bV,FK (zx x)]
theorem TB(s:au)(x:Tr)(lo hi:Int)(z:Nf×Nat):bD (.mk 9 s [x] lo hi) z =
  if bg x=0 then z else
   if hi<0 then su false (bD x) (bW (bD x) lo.toNat z) else if hi=lo then bW (bD x) lo.toNat z else
    ((bW (fun y=>bD x (y.1.link y.2 (bW (bD x) lo.toNat z).1.states,y.2)) (hi - lo).toNat ((bW (bD x) lo.toNat z).1.state 0,(bW (bD x) lo.toNat z).2)).1.link
     (bW (fun y=>bD x (y.1.link y.2 (bW (bD x) lo.toNat z).1.states,y.2)) (hi - lo).toNat ((bW (bD x) lo.toNat z).1.state 0,(bW (bD x) lo.toNat z).2)).2 (bW (bD x) lo.toNat z).1.states,
     (bW (bD x) lo.toNat z).1.states):=by
 obtain⟨y,f⟩:=z
 rw[bD,if_neg (by decide),if_neg (by decide),if_neg (by decide),if_neg (by decide),if_pos rfl,MB]
 have e:nJ [x]=bD x:=by funext z;rw[nJ]
 rw[e]
theorem MC(f:Nf×Nat→Nf×Nat)(hf:∀ z:Nf×Nat,z.1.le (f z).1)(z:Nf×Nat)(k n:Nat)(h:k≤n):(bW f k z).1.le (bW f n z).1:=by
 induction n with
 | zero =>
      obtain rfl:k=0:=by omega
      exact .refl _
 | succ n ih =>
  by_cases hk:k=n+1
  ·subst hk;exact .refl _
  ·exact(ih (by omega)).trans (by rw[tC];exact hf _)
theorem kJ.star{w:World}{r qB:Nat}{k:Int}{s:au}{a:Option Addr}{cap:Nat}{X:Vt}{lo hi:Int}(h:kJ w r qB (.mk k s a cap [X] lo hi)):kJ w r qB (.mk 6 0 a cap [X] 0 0):=by
 obtain⟨_,_,_,hs,hk⟩:=h.lies.open
 have hX:=h.kid 0 Nat.zero_lt_one
 refine⟨.mk 6 0 a cap [X] 0 0 ⟨by decide,by decide⟩ ⟨by decide,by decide⟩ ⟨by decide,by decide⟩ hs hk,?_,?_⟩
 ·have:=h.on
  cases this with | mk _ _ _ _ _ _ _ g1 g2=>exact .mk _ _ _ _ _ _ _ g1 g2
 ·have h2:allT X.tr=true:=hX.all
  rw[Vt.jJ,List.map_singleton,allT,vH,vH,h2]
  rfl
theorem ah4(r qB:Nat)(s:au)(a:Option Addr)(cap:Nat)(X:Vt)(lo hi:Int)(ih:Ey r qB X):GY 150 r qB (.mk 9 s a cap [X] lo hi):=by
 intro N V f w h hT hb hsm
 obtain⟨R,hR⟩:∃ R:Nf×Nat,bD (Vt.mk 9 s a cap [X] lo hi).tr (N,f)=R:=⟨_,rfl⟩
 rw[hR] at hsm ⊢
 rw[Vt.jJ,List.map_singleton,TB] at hR
 have hone:=hT.all
 rw[Vt.jJ,allT,Bool.and_eq_true] at hone
 have Dt:=hone.1
 unfold dV yC at Dt
 simp only[if_true,Bool.and_eq_true,Bool.or_eq_true,decide_eq_true_eq] at Dt
 have Dt:=Dt.1.2
 clear hone
 obtain⟨L,rfl⟩:∃ L:Nat,lo=L:=⟨lo.toNat,by omega⟩
 have hL:L≤1000:=by omega
 have hhi:hi=-1∨((L:Int)≤hi∧hi≤1000):=by omega
 rw[Int.toNat_natCast] at hR
 clear Dt
 have hlt0:∀ g,V.has g→g<w.heap.size:=fun g hg=>(h.hasLt g hg).2
 have hrl:=h.box.lt
 obtain⟨b,o,rfl,hcap,hc2,hX2⟩:=hT.X8
 obtain⟨k5,s5,a5,cp5,bY,bZ,hi5⟩:=X
 obtain⟨x0,x1,x2,x3,x4,x5,x6,x7⟩:=qP hc2
 have hbl:=World.block_lt_of_cell? w _ x0
 have hB0:=aj w (.cells (aC 9 s (some ⟨b,o,none⟩) 1 cap L hi).toArray 115)
 have hx0:=Box.new w (aC 9 s (some ⟨b,o,none⟩) 1 cap L hi).toArray 115
 have hB1:=aj (w.alloc (.cells (aC 9 s (some ⟨b,o,none⟩) 1 cap L hi).toArray 115)) (.cells (aC k5 s5 a5 bY.length cp5 bZ hi5).toArray 115)
 have hy1:=Box.new (w.alloc (.cells (aC 9 s (some ⟨b,o,none⟩) 1 cap L hi).toArray 115)) (aC k5 s5 a5 bY.length cp5 bZ hi5).toArray 115
 have hx1:=hx0.kept hB1
 have h1:=(h.kept hB0).kept hB1
 have hT1:=(hT.fC hB0).fC hB1
 have hK1:=(Turned.below (r:=r) (V:=V) hB0).trans (Turned.below hB1)
 have hW:=KQ _ _ (hX2.lies.kept (hB0.trans (hB1.mono hB0.size))) hX2.all
 rw[World.size_alloc] at hy1
 have hz1:((w.alloc (.cells (aC 9 s (some ⟨b,o,none⟩) 1 cap L hi).toArray 115)).alloc (.cells (aC k5 s5 a5 bY.length cp5 bZ hi5).toArray 115)).heap.size=w.heap.size+2:=by rw[World.size_alloc,World.size_alloc]
 obtain⟨wt,hwt⟩:∃ n:Nat,bg (Vt.mk k5 s5 a5 cp5 bY bZ hi5).tr=n:=⟨_,rfl⟩
 rw[hwt] at hW hR
 have HW:=ah hW;have HR:=ah hR;have wW:=ah hsm;have HI:=ah ih;have H1:=ah h1;have HT1:=ah hT1;have VX:=ah hK1
 have hn1:¬ V.has w.heap.size:=fun e=>by have:=hlt0 _ e;omega
 have hn2:¬ V.has (w.heap.size+1):=fun e=>by have:=hlt0 _ e;omega
 have hbs:qB≤w.heap.size:=hb
 clear hW hR hsm ih h1 hT1 hK1 hT h hc2 hX2 hB0 hx0 hlt0 hwt hb hB1
 show Calls Tryz.prog 150 #[.pointer (some ⟨r,0,none⟩),.agg (aC 9 s (some ⟨b,o,none⟩) 1 cap L hi).toArray,.int .i64 f] w _
 by_cases hw0:wt=0
 ·have hR:=HR.out
  rw[if_pos hw0] at hR
  subst hw0
  subst hR
  clear HR hhi hL
  go_enter Tryz.func150,Tryz.ntmps150
  go_wp2_with (go_at_call 144;go_must (refine HW.out.mono ?_;rintro e w2 ⟨rfl,hb2⟩))
  go_ret
  exact⟨rfl,_,H1.out.kept hb2,VX.out.trans (Turned.below hb2)⟩
 have hwb:((wt:Int)==0)=false:=by rw[beq_eq_false_iff_ne];omega
 have hR:=HR.out
 rw[if_neg hw0] at hR
 clear HR
 obtain⟨Z,hZ⟩:∃ Z:Nat→Nf×Nat,∀ k,Z k=bW (bD (Vt.mk k5 s5 a5 cp5 bY bZ hi5).tr) k (N,f):=⟨_,fun _=>rfl⟩
 have wV:Z 0=(N,f):=by rw[hZ,bW]
 have hZs:∀ k,Z (k+1)=bD (Vt.mk k5 s5 a5 cp5 bY bZ hi5).tr (Z k):=fun k=>by rw[hZ,tC,←hZ]
 have GZ:∀ k,k≤L→(Z k).1.le (Z L).1:=fun k hk=>by rw[hZ,hZ];exact MC _ (fun z=>oq _ z) _ k L hk
 rw[←hZ] at hR
 clear hZ hw0
 have hRL:(Z L).1.small:=by
  have hs:=wW.out
  rw[←hR] at hs
  by_cases c1:hi<0
  ·rw[if_pos c1] at hs
   exact(Jf _ _ (fun z=>oq _ z) _).small hs
  ·rw[if_neg c1] at hs
   by_cases c2:hi=L
   ·rw[if_pos c2] at hs;exact hs
   ·rw[if_neg c2] at hs
    exact((Nf.iM _ 0).trans ((Ba _ (fun z=>(Nf.iR _ _ _).trans (oq _ (_,_))) _ (_,_)).trans (Nf.iR _ _ _))).small hs
 have HR:=ah hR;have zn:=ah hRL;have HZ0:=ah wV;have O7:=ah hZs;have O8:=ah GZ
 clear hR hRL wV hZs GZ
 have hLb:(L:Int)≤1000:=by omega
 go_enter Tryz.func150,Tryz.ntmps150
 go_wp2_with (go_at_call 144;go_must (refine HW.out.mono ?_;rintro e w2 ⟨rfl,hb2⟩;have hx2:=hx1.kept hb2;have hy2:=hy1.kept hb2;have z6:w2.cell? ⟨w.heap.size,6,none⟩=some (.int .i64 (L:Nat)):=hx2.cell 6;have hlx:=hx2.lt))
 have h2:=H1.out.kept hb2
 have hT2:=HT1.out.fC hb2
 have hK2:=VX.out.trans (Turned.below hb2)
 have hz2:w.heap.size+2≤w2.heap.size:=by rw[←hz1];exact hb2.size
 have H2:=ah h2;have HT2:=ah hT2;have HK2:=ah hK2
 clear h2 hT2 hK2 H1 HT1 VX HW hb2 hz1 hx1 hy1 z6 x0 x1 x2 x3 x4 x5 x6 x7 hwb
 go_loopw [2,19] (fun v i wr=>∃ (j:Nat) (V':Y3),j≤L∧i=.int .i64 j∧v=.int .i64 (Z j).2∧gB wr r qB (Z j).1 V'∧Turned r V V' w2 wr) (fun _ i _=>L - (intOf i).toNat)
 case atStart=>exact⟨0,V,Nat.zero_le _,rfl,by rw[HZ0.out],by rw[HZ0.out];exact H2.out,Turned.below (Below.refl _ _)⟩
 case round =>
  obtain⟨j,V1,hj,rfl,rfl,h3,hA3⟩:=hrel
  have hz3:=hA3.size
  have hx3:=hA3.box hx2 (by omega) hn1
  have hy3:=hA3.box hy2 (by omega) hn2
  by_cases hlt:j<L
  ·obtain⟨y0,y1,y2,y3,y4,y5,y6,y7⟩:=hy3.node
   have hla:=HI.out (Z j).1 V1 (Z j).2 wr h3 ((HT2.out.kept H2.out hA3 (by omega)).kid 0 Nat.zero_lt_one) (by omega) (by
    rw[show((Z j).1,(Z j).2)=Z j from rfl,←O7.out];exact(O8.out _ hlt).small zn.out)
   rw[show((Z j).1,(Z j).2)=Z j from rfl,←O7.out] at hla
   have G5:=ah hla
   clear hla h3 hx3 hy3
   have hji:(j:Int)<(L:Int):=by omega
   have hj0:(0:Int)≤(j:Int):=by omega
   go_wp2_with (go_at_call 106;go_must (refine G5.out.mono ?_;rintro e w3 ⟨rfl,V3,h4,wU⟩))
   exact⟨⟨j+1,V3,hlt,by push_cast;rfl,rfl,h4,hA3.trans wU⟩,by simp[intOf];omega⟩
  ·obtain rfl:j=L:=by omega
   have z6:wr.cell? ⟨w.heap.size,7,none⟩=some (.int .i64 hi):=hx3.cell 7
   have z5:wr.cell? ⟨w.heap.size,6,none⟩=some (.int .i64 (j:Nat)):=hx3.cell 6
   have z4:wr.cell? ⟨w.heap.size,5,none⟩=some (.slice (some ⟨b,o,none⟩) 1 cap):=hx3.cell 5
   have hT3:=HT2.out.kept H2.out hA3 (by omega)
   rcases hhi with rfl | ⟨hge,hle⟩
   ·have hR:=HR.out
    rw[if_pos (by decide)] at hR
    have hlo:=VW r qB false 0 (some ⟨b,o,none⟩) cap (Vt.mk k5 s5 a5 cp5 bY bZ hi5) 0 0 HI.out (Z j).1 V1 (Z j).2 wr h3 hT3.star (by omega) (by
     rw[Vt.jJ,List.map_singleton,yJ,show((Z j).1,(Z j).2)=Z j from rfl,hR];exact wW.out)
    rw[Vt.jJ,List.map_singleton,yJ,show((Z j).1,(Z j).2)=Z j from rfl,hR] at hlo
    have HLO:=ah hlo
    clear hR hlo h3 hT3 hx3 hy3 HR
    go_wp2_with (go_at_call 148;go_must (refine HLO.out.mono ?_;rintro e w3 ⟨rfl,V3,h4,wU⟩))
    go_ret
    exact⟨rfl,_,h4,(HK2.out.trans hA3).trans wU⟩
   have hn0:¬ hi<0:=by omega
   by_cases he:hi=(j:Int)
   ·have hR:=HR.out
    rw[if_neg hn0,if_pos he] at hR
    subst he
    subst hR
    clear HR hT3 hx3 hy3 wW
    go_wp2
    go_ret
    exact⟨rfl,_,h3,HK2.out.trans hA3⟩
   have hR:=HR.out
   rw[if_neg hn0,if_neg he] at hR
   have heb:(hi==(j:Int))=false:=by rw[beq_eq_false_iff_ne];exact he
   obtain⟨ns,hns⟩:∃ n,(Z j).1.states=n:=⟨_,rfl⟩
   rw[hns] at hR
   obtain⟨Y,hY⟩:∃ Y:Nat→Nf×Nat,∀ k,Y k=bW (fun y=>bD (Vt.mk k5 s5 a5 cp5 bY bZ hi5).tr (y.1.link y.2 ns,y.2)) k ((Z j).1.state 0,(Z j).2):=⟨_,fun _=>rfl⟩
   obtain⟨D,hD⟩:∃ D:Nat,(hi - (j:Int)).toNat=D:=⟨_,rfl⟩
   rw[hD,←hY] at hR
   have hDi:(D:Int)=hi - (j:Int):=by omega
   have hY0:Y 0=((Z j).1.state 0,(Z j).2):=by rw[hY,bW]
   have hYs:∀ k,Y (k+1)=bD (Vt.mk k5 s5 a5 cp5 bY bZ hi5).tr ((Y k).1.link (Y k).2 ns,(Y k).2):=fun k=>by rw[hY,tC,←hY]
   have hgm:∀ z:Nf×Nat,z.1.le ((fun y:Nf×Nat=>bD (Vt.mk k5 s5 a5 cp5 bY bZ hi5).tr (y.1.link y.2 ns,y.2)) z).1:=fun z=>(Nf.iR z.1 z.2 ns).trans (oq _ (_,_))
   have hYm:∀ k,k≤D→(Y k).1.le (Y D).1:=fun k hk=>by rw[hY,hY];exact MC _ hgm _ k D hk
   have hsD:(Y D).1.small:=by
    have:=wW.out
    rw[←hR] at this
    exact(Nf.iR _ _ _).small this
   have hs0:=rH r qB 0 (Z j).1 V1 wr h3 (by omega) zn.out.2.2
   rw[hns] at hs0
   have HR:=ah hR;have HD:=ah hDi;have HY0:=ah hY0;have HYS:=ah hYs;have HYM:=ah hYm;have HSD:=ah hsD;have Z4:=ah hs0
   clear hR hY hD hDi hY0 hYs hYm hsD hs0 he hns hgm
   go_wp2_with (go_at_call 105;go_must (refine Z4.out.mono ?_;rintro e w3 ⟨rfl,V3,h4,wU⟩;have ET:=hA3.trans wU;have hx4:=ET.box hx2 (Nat.ne_of_gt (by omega)) hn1;have z7:w3.cell? ⟨w.heap.size,7,none⟩=some (.int .i64 hi):=hx4.cell 7;have z8:w3.cell? ⟨w.heap.size,6,none⟩=some (.int .i64 (j:Nat)):=hx4.cell 6))
   have Aj:=ET.size
   clear wU hA3 hx4 z7 z8 z6 z5 z4 hT3 hx3 hy3 h3 Z4 hz3
   go_loopw [2,50] (fun v i wr=>∃ (k:Nat) (V':Y3),k≤D∧i=.int .i64 k∧v=.int .i64 (Y k).2∧gB wr r qB (Y k).1 V'∧Turned r V V' w2 wr) (fun _ i _=>D - (intOf i).toNat)
   case atStart=>exact⟨0,V3,Nat.zero_le _,rfl,by rw[HY0.out],by rw[HY0.out];exact h4,ET⟩
   case round =>
    obtain⟨k,V5,hk,rfl,rfl,h5,hA5⟩:=hrel
    have hz5:=hA5.size
    clear h4 ET Aj
    by_cases hlt2:k<D
    ·have hki:(k:Int)<hi - (j:Int):=by have:=HD.out;omega
     have hk0:(0:Int)≤(k:Int):=by omega
     have hsk:((Y k).1.link (Y k).2 ns).small:=by
      have:=(HYM.out _ hlt2).small HSD.out
      rw[HYS.out] at this
      exact(oq _ (_,_)).small this
     have L9:=ah (uZ r qB (Y k).2 ns (Y k).1 V5 wr h5 (by omega) ((HYM.out k hk).small HSD.out).1)
     have MF:=ah hsk
     clear hsk h5
     go_wp2_with (first | (go_at_call 107;go_must (refine L9.out.mono ?_;rintro e w4 ⟨rfl,V6,h6,Si⟩;have hA6:=hA5.trans Si;have hz6:=hA6.size;have hy6:=hA6.box hy2 (Nat.ne_of_gt (by omega)) hn2;obtain⟨y0,y1,y2,y3,y4,y5,y6,y7⟩:=hy6.node)) | (go_at_call 106;go_must (refine(HI.out ((Y k).1.link (Y k).2 ns) V6 (Y k).2 w4 h6 ((HT2.out.kept H2.out hA6 (by omega)).kid 0 Nat.zero_lt_one) (by omega) (by rw[←HYS.out];exact(HYM.out _ hlt2).small HSD.out)).mono ?_;rintro e w5 ⟨rfl,V7,h7,ZO⟩)))
     have e:=HYS.out k
     exact⟨⟨k+1,V7,hlt2,by push_cast;rfl,by rw[e],by rw[e];exact h7,hA6.trans ZO⟩,by simp[intOf];omega⟩
    ·obtain rfl:k=D:=by omega
     have hki:¬ ((k:Int)<hi - (j:Int)):=by have:=HD.out;omega
     have hR:=HR.out
     have L9:=ah (uZ r qB (Y k).2 ns (Y k).1 V5 wr h5 (by omega) HSD.out.1)
     subst hR
     clear HR h5
     go_wp2_with (go_at_call 107;go_must (refine L9.out.mono ?_;rintro e w4 ⟨rfl,V6,h6,Si⟩))
     go_ret
     exact⟨rfl,_,h6,(HK2.out.trans hA5).trans Si⟩
end
section
open Go.RowKit
theorem MG(s:au)(l:List Tr)(lo hi:Int)(z:Nf×Nat):bD (.mk 2 s l lo hi) z=z:=by
 obtain⟨y,f⟩:=z
 rw[bD];rfl
theorem TD(s:au)(l:List Tr)(lo hi:Int)(y:Nf)(f:Nat):bD (.mk 3 s l lo hi) (y,f)=((y.state 0).edge f s y.states,y.states):=by
 rw[bD];rfl
theorem aaM(s:au)(l:List Tr)(lo hi:Int)(y:Nf)(f:Nat):bD (.mk 1 s l lo hi) (y,f)=(y.state 0,y.states):=by
 rw[bD];rfl
theorem adp(r qB:Nat)(k:Int)(s:au)(a:Option Addr)(cap:Nat)(kids:List Vt)(lo hi:Int)(hk:k=1∨k=2∨k=3):GY 145 r qB (.mk k s a cap kids lo hi):=by
 intro N V f w h hT hb hsm
 rw[Vt.jJ] at hsm ⊢
 have hB0:=aj w (.cells (aC k s a kids.length cap lo hi).toArray 115)
 have h0:=h.kept hB0
 have hx0:=Box.new w (aC k s a kids.length cap lo hi).toArray 115
 show Calls Tryz.prog 145 #[.pointer (some ⟨r,0,none⟩),.agg (aC k s a kids.length cap lo hi).toArray,.int .i64 f] w _
 rcases hk with rfl | rfl | rfl
 ·rw[aaM] at hsm ⊢
  have hs:=rH r qB 0 N V _ h0 (by rw[World.size_alloc];omega) ((Nf.iM N 0).small hsm).2.2
  have HS:=ah hs;have HB:=ah hB0
  clear hs hsm h0 hx0 hT h hB0
  go_enter Tryz.func145,Tryz.ntmps145
  go_wp2_with (go_at_call 105;go_must (refine HS.out.mono ?_;rintro e w2 ⟨rfl,V2,h2,ht2⟩))
  go_ret
  exact⟨rfl,_,h2,(Turned.below HB.out).trans ht2⟩
 ·rw[MG] at hsm ⊢
  have H0:=ah h0;have HB:=ah hB0
  clear hsm h0 hx0 hT h hB0
  go_enter Tryz.func145,Tryz.ntmps145
  go_wp2
  go_ret
  exact⟨rfl,_,H0.out,Turned.below HB.out⟩
 ·rw[TD] at hsm ⊢
  exact af7 r qB f s a kids.length cap lo hi N V w h hb ⟨((Nf.iM N 0).small ((Nf.Nr _ _ _ _).small hsm)).2.2,((Nf.iM N 0).small ((Nf.Nr _ _ _ _).small hsm)).2.1⟩
theorem af8{w:World}{r qB:Nat}{k:Int}{s:au}{a:Option Addr}{cap:Nat}{kids:List Vt}{lo hi:Int}(h:kJ w r qB (.mk k s a cap kids lo hi)):(k=1∨k=2∨k=3)∨k=4∨k=5∨(∃ p:Bool,(if p then 7 else 6:Int)=k)∨k=8∨k=9:=by
 have:=h.all
 rw[Vt.jJ,allT,Bool.and_eq_true] at this
 have h1:=this.1
 unfold dV at h1
 simp only[Bool.and_eq_true] at h1
 have h2:=h1.2
 unfold iH at h2
 by_cases h0:k=1∨k=2∨k=3∨k=4∨k=5∨k=6∨k=7∨k=8∨k=9
 ·rcases h0 with h | h | h | h | h | h | h | h | h
  ·exact .inl (.inl h)
  ·exact .inl (.inr (.inl h))
  ·exact .inl (.inr (.inr h))
  ·exact .inr (.inl h)
  ·exact .inr (.inr (.inl h))
  ·exact .inr (.inr (.inr (.inl ⟨false,h.symm⟩)))
  ·exact .inr (.inr (.inr (.inl ⟨true,h.symm⟩)))
  ·exact .inr (.inr (.inr (.inr (.inl h))))
  ·exact .inr (.inr (.inr (.inr (.inr h))))
 ·exfalso
  simp only[not_or] at h0
  obtain⟨g1,g2,g3,g4,g5,g6,g7,g8,g9⟩:=h0
  by_cases hr:0≤k∧k<10
  ·obtain rfl:k=0:=by omega
   simp[Zb] at h2
  ·rw[if_neg hr] at h2
   simp at h2
theorem wo(r qB:Nat)(k:Int)(fn:Nat)(s:au)(a:Option Addr)(cap:Nat)(kids:List Vt)(lo hi:Int)(hk:(k=1∧fn=145)∨(k=2∧fn=145)∨(k=3∧fn=145)∨(k=4∧fn=146)∨(k=5∧fn=147)∨(k=6∧fn=148)∨(k=7∧fn=148)∨(k=8∧fn=149)∨(k=9∧fn=150))
  (H:GY fn r qB (.mk k s a cap kids lo hi)):Ey r qB (.mk k s a cap kids lo hi):=by
 intro N V f w h hT hb hsm
 have hB0:=aj w (.cells (aC k s a kids.length cap lo hi).toArray 115)
 have hm:=H N V f _ (h.kept hB0) (hT.fC hB0) (by rw[World.size_alloc];omega) hsm
 have HM:=ah hm;have HB:=ah hB0
 show Calls Tryz.prog 106 #[.pointer (some ⟨r,0,none⟩),.agg (aC k s a kids.length cap lo hi).toArray,.int .i64 f] w _
 generalize bD (Vt.mk k s a cap kids lo hi).tr (N,f)=R at *
 clear hm H hsm hT h hB0
 rcases hk with⟨rfl,rfl⟩ | ⟨rfl,rfl⟩ | ⟨rfl,rfl⟩ | ⟨rfl,rfl⟩ | ⟨rfl,rfl⟩ | ⟨rfl,rfl⟩ | ⟨rfl,rfl⟩ | ⟨rfl,rfl⟩ | ⟨rfl,rfl⟩
 all_goals
  go_enter Tryz.func106,Tryz.ntmps106
  go_wp2_with fail
  refine HM.out.mono ?_
  rintro e w2 ⟨rfl,V2,h2,ht2⟩
  go_wp2
  go_ret
  exact⟨rfl,_,h2,(Turned.below HB.out).trans ht2⟩
theorem ah9(r qB:Nat):∀ (X:Vt),sizeT X.tr≤1099511627776→Ey r qB X:=by
 refine Vt.ind fun k s a cap kids lo hi ih=>?_
 intro hsz N V f w h hT hb hsm
 have hks:∀ i (h:i<kids.length),Ey r qB kids[i]:=fun i h=>ih i h (by
  rw[Vt.jJ,sizeT] at hsz
  have:=WS (kids.map Vt.tr) i (by simpa using h)
  rw[List.getElem_map] at this
  omega)
 have hkl:kids.length≤1099511627776:=by
  rw[Vt.jJ,sizeT] at hsz
  have:=KA (kids.map Vt.tr)
  rw[List.length_map] at this
  omega
 refine(?_:Ey r qB (.mk k s a cap kids lo hi)) N V f w h hT hb hsm
 rcases af8 hT with h1 | rfl | rfl | ⟨p,hp⟩ | rfl | rfl
 ·have:=adp r qB k s a cap kids lo hi h1
  rcases h1 with rfl | rfl | rfl
  ·exact wo r qB 1 _ s a cap kids lo hi (.inl ⟨rfl,rfl⟩) this
  ·exact wo r qB 2 _ s a cap kids lo hi (.inr (.inl ⟨rfl,rfl⟩)) this
  ·exact wo r qB 3 _ s a cap kids lo hi (.inr (.inr (.inl ⟨rfl,rfl⟩))) this
 ·exact wo r qB 4 _ s a cap kids lo hi (.inr (.inr (.inr (.inl ⟨rfl,rfl⟩)))) (ahW r qB s a cap kids lo hi hks)
 ·exact wo r qB 5 _ s a cap kids lo hi (.inr (.inr (.inr (.inr (.inl ⟨rfl,rfl⟩))))) (ahY r qB s a cap kids lo hi hkl hks)
 ·obtain⟨X,rfl⟩:=hT.one (by cases p <;> simp at hp <;> omega)
  have:=VW r qB p s a cap X lo hi (hks 0 Nat.zero_lt_one)
  cases p
  ·subst hp
   exact wo r qB 6 _ s a cap [X] lo hi (.inr (.inr (.inr (.inr (.inr (.inl ⟨rfl,rfl⟩)))))) this
  ·subst hp
   exact wo r qB 7 _ s a cap [X] lo hi (.inr (.inr (.inr (.inr (.inr (.inr (.inl ⟨rfl,rfl⟩))))))) this
 ·obtain⟨X,rfl⟩:=hT.one (by simp)
  exact wo r qB 8 _ s a cap [X] lo hi (.inr (.inr (.inr (.inr (.inr (.inr (.inr (.inl ⟨rfl,rfl⟩)))))))) (ahX r qB s a cap X lo hi (hks 0 Nat.zero_lt_one))
 ·obtain⟨X,rfl⟩:=hT.one (by simp)
  exact wo r qB 9 _ s a cap [X] lo hi (.inr (.inr (.inr (.inr (.inr (.inr (.inr (.inr ⟨rfl,rfl⟩)))))))) (ah4 r qB s a cap X lo hi (hks 0 Nat.zero_lt_one))
end
section
open Go.RowKit
def Nf.by(c w:Nat)(A B:Nf):Prop:=B.accept.length≤A.accept.length+w∧B.edges.length≤A.edges.length+w∧B.links.length+min w 1≤A.links.length+c*w
def Nf.MH(c w:Nat)(A B:Nf):Prop:=B.accept.length≤A.accept.length+w∧B.edges.length≤A.edges.length+w∧B.links.length≤A.links.length+c*w
theorem Nf.by.refl(c:Nat)(A:Nf):A.by c 0 A:=⟨Nat.le_refl _,Nat.le_refl _,by simp⟩
theorem Nf.by.weak{c w:Nat}{A B:Nf}(h:A.by c w B):A.MH c w B:=⟨h.1,h.2.1,by have:=h.2.2;omega⟩
theorem Nf.by.trans{c w v:Nat}{A B D:Nf}(h:A.by c w B)(k:B.by c v D):A.by c (w+v) D:=by
 obtain⟨h1,h2,h3⟩:=h
 obtain⟨k1,k2,k3⟩:=k
 refine⟨by omega,by omega,?_⟩
 rw[Nat.mul_add]
 generalize c*w=x at *
 generalize c*v=y at *
 omega
theorem Nf.MH.trans{c w v:Nat}{A B D:Nf}(h:A.MH c w B)(k:B.MH c v D):A.MH c (w+v) D:=by
 obtain⟨h1,h2,h3⟩:=h
 obtain⟨k1,k2,k3⟩:=k
 refine⟨by omega,by omega,?_⟩
 rw[Nat.mul_add];omega
theorem Nf.by.mono{c w v:Nat}{A B:Nf}(h:A.by c w B)(hv:w≤v)(hc:0<c):A.by c v B:=by
 obtain⟨h1,h2,h3⟩:=h
 refine⟨by omega,by omega,?_⟩
 have h4:=Nat.mul_le_mul_left c hv
 by_cases hw:w=0
 ·subst hw
  rw[Nat.mul_zero] at h3
  by_cases hv0:v=0
  ·subst hv0;simpa using h3
  ·have:1≤c*v:=Nat.mul_pos hc (by omega)
   omega
 ·omega
theorem yK(c n:Nat)(f:Nf×Nat→Nf×Nat)(hf:∀ z:Nf×Nat,z.1.MH c n (f z).1):∀ (k:Nat) (z:Nf×Nat),z.1.MH c (k*n) (bW f k z).1
 | 0,z=>by rw[bW,Nat.zero_mul];exact⟨Nat.le_refl _,Nat.le_refl _,by simp⟩
 | k+1,z=>by
  rw[bW,Nat.succ_mul,Nat.add_comm]
  exact(hf z).trans (yK c n f hf k _)
theorem aaN(l:List Nat)(b:Nat):∀ (N:Nf),(l.foldl (fun z e=>z.link e b) N).links.length=N.links.length+l.length∧(l.foldl (fun z e=>z.link e b) N).edges=N.edges∧(l.foldl (fun z e=>z.link e b) N).accept=N.accept:=by
 induction l with
 | nil=>intro N;exact⟨rfl,rfl,rfl⟩
 | cons e l ih =>
  intro N
  rw[List.foldl_cons]
  obtain⟨h1,h2,h3⟩:=ih (N.link e b)
  refine⟨?_,h2,h3⟩
  rw[h1,Nf.link,List.length_append,List.length_cons]
  simp only[List.length_nil,List.length_cons]
  omega
theorem sK{a b:Nat}(h:addN a b<aF):addN a b=a+b∧a+b<aF:=by
 unfold addN at h ⊢
 split
 ·rename_i h1;rw[if_pos h1] at h;omega
 ·rename_i h1;rw[if_neg h1] at h;exact⟨rfl,h⟩
theorem Ij{a b:Nat}(h:mulN a b<aF):mulN a b=a*b∧(0<a→b<aF):=by
 unfold mulN at h ⊢
 by_cases h0:a=0∨b=0
 ·rw[if_pos h0]
  rcases h0 with rfl | rfl
  ·exact⟨by rw[Nat.zero_mul],fun h=>by omega⟩
  ·exact⟨by rw[Nat.mul_zero],fun _=>by unfold aF;omega⟩
 ·rw[if_neg h0] at h ⊢
  by_cases h1:aF / b<a
  ·rw[if_pos h1] at h;omega
  ·rw[if_neg h1] at h ⊢
   refine⟨rfl,fun ha=>?_⟩
   have:1*b≤a*b:=Nat.mul_le_mul_right _ ha
   omega
theorem CW:∀ (l:List Tr) (a:Nat),bV a l<aF→bV a l=a+(l.map bg).sum∧(∀ x∈l,bg x<aF)
 | [],a,h=>by rw[bV];exact⟨rfl,fun x h=>by simp at h⟩
 | x::l,a,h=>by
  rw[bV] at h ⊢
  obtain⟨h1,h2⟩:=CW l _ h
  have h3:addN a (bg x)<aF:=by omega
  obtain⟨h4,h5⟩:=sK h3
  refine⟨by rw[h1,h4,List.map_cons,List.sum_cons];omega,fun y hy=>?_⟩
  rcases List.mem_cons.1 hy with rfl | hy
  ·omega
  ·exact h2 y hy
theorem VY(c:Nat):∀ (l:List Tr) (z:Nf×Nat),(∀ x∈l,∀ z:Nf×Nat,z.1.by c (bg x) (bD x z).1)→z.1.by c (l.map bg).sum (jR l z).1
 | [],z,_=>by rw[jR];exact .refl _ _
 | x::l,z,h=>by
  rw[jR,List.map_cons,List.sum_cons]
  exact(h x (List.mem_cons_self ..) z).trans (VY c l _ fun y hy=>h y (List.mem_cons_of_mem _ hy))
theorem VZ(c:Nat):∀ (l:List Tr) (y:Nf) (f:Nat) (ends:List Nat),(∀ x∈l,∀ z:Nf×Nat,z.1.by c (bg x) (bD x z).1)→y.by c (l.map bg).sum (fK l y f ends).1
 | [],y,_,_,_=>by rw[fK];exact .refl _ _
 | x::l,y,f,ends,h=>by
  rw[fK,List.map_cons,List.sum_cons]
  exact(h x (List.mem_cons_self ..) (y,f)).trans (VZ c l _ f _ fun y hy=>h y (List.mem_cons_of_mem _ hy))
theorem JI{c n:Nat}(hc:3≤c)(p:Bool)(f:Nf×Nat→Nf×Nat)(hf:∀ z:Nf×Nat,z.1.by c n (f z).1)(z:Nf×Nat):z.1.by c (n+1) (su p f z).1:=by
 obtain⟨h1,h2,h3⟩:=hf ((z.1.state 0).link z.2 z.1.states,z.1.states)
 unfold su
 dsimp only
 generalize f ((z.1.state 0).link z.2 z.1.states,z.1.states)=A at *
 simp only[Nf.state,Nf.link,List.length_append,List.length_cons,List.length_nil] at h1 h2 h3 ⊢
 refine⟨?_,?_,?_⟩
 ·show A.1.accept.length≤z.1.accept.length+(n+1);omega
 ·show A.1.edges.length≤z.1.edges.length+(n+1);omega
 ·rw[Nat.mul_succ]
  show(A.1.links++[(A.2,z.1.states)]).length+min (n+1) 1≤z.1.links.length+(c*n+c)
  simp only[List.length_append,List.length_cons,List.length_nil]
  generalize c*n=x at *
  omega
theorem adq{c:Nat}(hc:1≤c)(A:Nf)(k:Nat):A.by c 1 (A.state k):=⟨by simp[Nf.state],by simp[Nf.state],by simp[Nf.state];omega⟩
theorem af9{c:Nat}(hc:1≤c)(A:Nf)(k a b:Nat)(s:au):A.by c 1 ((A.state k).edge a s b):=⟨by simp[Nf.state,Nf.edge],by simp[Nf.state,Nf.edge],by simp[Nf.state,Nf.edge];omega⟩
theorem NV{k:Int}{s:au}{kids:List Tr}{lo hi:Int}(h:dV k s kids.length lo hi=true)(hk:k=6∨k=7∨k=8∨k=9):∃ x,kids=[x]:=by
 unfold dV at h
 have hl:kids.length=1:=by
  rcases hk with rfl | rfl | rfl | rfl <;> · simp[iH] at h;exact h.2
 match kids,hl with
 | [x],_=>exact⟨x,rfl⟩
theorem aaO(M:Nat)(k:Int)(s:au)(kids:List Tr)(lo hi:Int)(h1:dV k s kids.length lo hi=true)(hl:kids.length≤M)(hw:bg (.mk k s kids lo hi)<aF)
  (ih:(∀ x∈kids,bg x<aF)→∀ x∈kids,∀ z:Nf×Nat,z.1.by (M+3) (bg x) (bD x z).1) (z:Nf×Nat):z.1.by (M+3) (bg (.mk k s kids lo hi)) (bD (.mk k s kids lo hi) z).1:=by
 rw[KP] at hw ⊢
 by_cases h2:k=2
 ·subst h2
  rw[if_pos (.inl rfl)] at hw ⊢
  rw[MG]
  exact(Nf.by.refl _ _).mono (Nat.zero_le _) (by omega)
 by_cases h4:k=4
 ·subst h4
  rw[if_pos (.inr rfl)] at hw ⊢
  obtain⟨e,hx⟩:=CW kids 0 hw
  rw[Tq,e,Nat.zero_add]
  exact VY _ kids z (ih hx)
 rw[if_neg (by omega)] at hw ⊢
 by_cases h9:k=9
 ·subst h9
  obtain⟨x,rfl⟩:=NV h1 (by simp)
  rw[if_pos rfl,MB] at hw ⊢
  rw[TB]
  have Dt:=h1
  unfold dV yC at Dt
  simp only[if_true,Bool.and_eq_true,Bool.or_eq_true,decide_eq_true_eq] at Dt
  have Dt:=Dt.1.2
  by_cases h0:bg x=0
  ·rw[if_pos h0,h0]
   exact(Nf.by.refl _ _).mono (Nat.zero_le _) (by omega)
  rw[if_neg h0]
  unfold oD at hw ⊢
  rw[if_neg h0] at hw ⊢
  have IH:=fun(hx:bg x<aF)=>ih (by simpa using hx) x (by simp)
  clear ih h1
  generalize hn:bg x=n at *
  by_cases hh:hi<0
  ·rw[if_pos hh] at hw ⊢
   rw[if_pos hh]
   obtain⟨a1,a2⟩:=sK hw
   obtain⟨b1,b2⟩:=sK (a:=mulN lo.toNat n) (b:=n) (by omega)
   have IH:=IH (by omega)
   obtain⟨c1,_⟩:=Ij (a:=lo.toNat) (b:=n) (by omega)
   rw[a1,b1,c1]
   obtain⟨p1,p2,p3⟩:=yK (M+3) n _ (fun z=>(IH z).weak) lo.toNat z
   generalize bW (bD x) lo.toNat z=Z at *
   obtain⟨q1,q2,q3⟩:=JI (by omega) false _ IH Z
   refine⟨by omega,by omega,?_⟩
   rw[Nat.mul_succ] at q3 ⊢
   rw[Nat.mul_add]
   generalize (M+3)*n=x1 at *
   generalize (M+3)*(lo.toNat*n)=x2 at *
   omega
  ·rw[if_neg hh] at hw ⊢
   rw[if_neg hh]
   by_cases he:hi=lo
   ·rw[if_neg (by omega)] at hw ⊢
    rw[if_pos he]
    obtain⟨c1,c2⟩:=Ij hw
    rw[c1]
    by_cases hl:lo.toNat=0
    ·rw[hl,bW,Nat.zero_mul];exact .refl _ _
    ·have IH:=IH (c2 (by omega))
     obtain⟨l,hl'⟩:∃ l,lo.toNat=l+1:=⟨lo.toNat - 1,by omega⟩
     rw[hl',tC,Nat.succ_mul]
     obtain⟨p1,p2,p3⟩:=yK (M+3) n _ (fun z=>(IH z).weak) l z
     generalize bW (bD x) l z=Z at *
     obtain⟨q1,q2,q3⟩:=IH Z
     refine⟨by omega,by omega,?_⟩
     rw[Nat.mul_add]
     generalize (M+3)*n=x1 at *
     generalize (M+3)*(l*n)=x2 at *
     omega
   ·rw[if_pos (by omega)] at hw ⊢
    rw[if_neg he]
    obtain⟨a1,a2⟩:=sK hw
    obtain⟨b1,b2⟩:=sK (a:=mulN lo.toNat n) (b:=mulN (hi - lo).toNat n) (by omega)
    obtain⟨c1,_⟩:=Ij (a:=lo.toNat) (b:=n) (by omega)
    obtain⟨d1,d2⟩:=Ij (a:=(hi - lo).toNat) (b:=n) (by omega)
    have IH:=IH (d2 (by omega))
    rw[a1,b1,c1,d1]
    obtain⟨p1,p2,p3⟩:=yK (M+3) n _ (fun z=>(IH z).weak) lo.toNat z
    generalize bW (bD x) lo.toNat z=Z at *
    obtain⟨q1,q2,q3⟩:=yK (M+3) n (fun y=>bD x (y.1.link y.2 Z.1.states,y.2)) (fun y=>by
     obtain⟨r1,r2,r3⟩:=IH (y.1.link y.2 Z.1.states,y.2)
     simp only[Nf.link,List.length_append,List.length_cons,List.length_nil] at r1 r2 r3
     refine⟨r1,r2,?_⟩
     show(bD x (y.1.link y.2 Z.1.states,y.2)).1.links.length≤_
     simp only[Nf.link]
     have:min n 1=1:=by omega
     omega) (hi - lo).toNat (Z.1.state 0,Z.2)
    generalize bW (fun y=>bD x (y.1.link y.2 Z.1.states,y.2)) (hi - lo).toNat (Z.1.state 0,Z.2)=U at *
    simp only[Nf.state,List.length_append,List.length_cons,List.length_nil] at q1 q2 q3
    refine⟨?_,?_,?_⟩
    ·simp only[Nf.link];omega
    ·simp only[Nf.link];omega
    ·simp only[Nf.link,List.length_append,List.length_cons,List.length_nil]
     rw[Nat.mul_succ,Nat.mul_add]
     generalize (M+3)*((hi - lo).toNat*n)=x1 at *
     generalize (M+3)*(lo.toNat*n)=x2 at *
     omega
 rw[if_neg h9] at hw ⊢
 obtain⟨e,hlt⟩:=sK hw
 obtain⟨e1,hx⟩:=CW kids 0 (by omega)
 rw[e,e1,Nat.zero_add]
 have IH:=ih hx
 obtain⟨y,f⟩:=z
 by_cases h5:k=5
 ·subst h5
  rw[Tz]
  obtain⟨g1,g2,g3⟩:=VZ (M+3) kids y f [] IH
  have gl:=Jh kids y f []
  dsimp only
  generalize fK kids y f []=A at *
  obtain⟨l1,l2,l3⟩:=aaN A.2 A.1.states (A.1.state 0)
  refine⟨?_,?_,?_⟩
  ·rw[l3];simp only[Nf.state,List.length_append,List.length_cons,List.length_nil];omega
  ·rw[l2];simp only[Nf.state];omega
  ·rw[l1,Nat.mul_succ];simp only[Nf.state]
   simp only[List.length_nil] at gl
   generalize (M+3)*(kids.map bg).sum=q at *
   omega
 by_cases h67:k=6∨k=7
 ·obtain⟨x,rfl⟩:=NV h1 (by omega)
  have hb:=fun z=>IH x (by simp) z
  rw[show(List.map bg [x]).sum=bg x from by simp]
  rcases h67 with rfl | rfl
  ·rw[show(Tr.mk 6 s [x] lo hi)=.mk (if false then 7 else 6) s [x] lo hi from rfl,yJ]
   exact JI (by omega) _ _ hb _
  ·rw[show(Tr.mk 7 s [x] lo hi)=.mk (if true then 7 else 6) s [x] lo hi from rfl,yJ]
   exact JI (by omega) _ _ hb _
 by_cases h8:k=8
 ·subst h8
  obtain⟨x,rfl⟩:=NV h1 (by omega)
  obtain⟨g1,g2,g3⟩:=IH x (by simp) (y,f)
  rw[show(List.map bg [x]).sum=bg x from by simp,Tv]
  dsimp only at g1 g2 g3 ⊢
  generalize bD x (y,f)=A at *
  refine⟨?_,?_,?_⟩
  ·simp only[Nf.state,Nf.link,List.length_append,List.length_cons,List.length_nil];omega
  ·simp only[Nf.state,Nf.link];omega
  ·rw[Nat.mul_succ];simp only[Nf.state,Nf.link,List.length_append,List.length_cons,List.length_nil]
   generalize (M+3)*bg x=q at *
   omega
 by_cases h3:k=3
 ·subst h3
  rw[TD]
  exact(af9 (by omega) y 0 f y.states s).mono (by omega) (by omega)
 ·have:bD (.mk k s kids lo hi) (y,f)=(y.state 0,y.states):=by
   rw[bD,if_neg h4,if_neg h5,if_neg h67,if_neg h8,if_neg h9,if_neg h2,if_neg h3]
  rw[this]
  exact(adq (by omega) y 0).mono (by omega) (by omega)
mutual
theorem V8(M:Nat):∀ (t:Tr),allT t=true→sizeT t≤M→bg t<aF→∀ z:Nf×Nat,z.1.by (M+3) (bg t) (bD t z).1
 | .mk k s kids lo hi,ha,hs,hw,z=>by
  rw[allT,Bool.and_eq_true] at ha
  rw[sizeT] at hs
  have hl:=KA kids
  exact aaO M k s kids lo hi ha.1 (by omega) hw (fun hx=>TF M kids ha.2 (by omega) hx) z
theorem TF(M:Nat):∀ (l:List Tr),vH l=true→pF l≤M→(∀ x∈l,bg x<aF)→∀ x∈l,∀ z:Nf×Nat,z.1.by (M+3) (bg x) (bD x z).1
 | [],_,_,_,x,hx,_=>by simp at hx
 | y::l,ha,hs,hw,x,hx,z=>by
  rw[vH,Bool.and_eq_true] at ha
  rw[pF] at hs
  have h1:=V8 M y ha.1 (by omega) (hw y (by simp))
  have h2:=TF M l ha.2 (by omega) (fun x hx=>hw x (by simp[hx]))
  rcases List.mem_cons.1 hx with hx | hx
  ·rw[hx];exact h1 z
  ·exact h2 x hx z
end
theorem V9:∀ (l:List Tr) (a:Nat),qY a l<aF→qY a l=a+(l.map fun x=>bg x+1).sum∧(∀ x∈l,bg x<aF)
 | [],a,_=>⟨rfl,fun x h=>by simp at h⟩
 | x::l,a,h=>by
  have e:qY a (x::l)=qY (addN a (EN x)) l:=rfl
  rw[e] at h ⊢
  obtain⟨h1,h2⟩:=V9 l _ h
  have h3:addN a (EN x)<aF:=by omega
  obtain⟨h4,h5⟩:=sK h3
  have h6:EN x<aF:=by omega
  obtain⟨h7,h8⟩:=sK (show addN (bg x) 1<aF from h6)
  have h9:EN x=bg x+1:=h7
  refine⟨by rw[h1,h4,h9,List.map_cons,List.sum_cons];omega,fun y hy=>?_⟩
  rcases List.mem_cons.1 hy with rfl | hy
  ·omega
  ·exact h2 y hy
theorem Wh(M:Nat):∀ (l:List Tr) (z:Nf×Nat),(∀ x∈l,allT x=true∧sizeT x≤M∧bg x<aF)→z.1.MH (M+4) (l.map fun x=>bg x+1).sum (l.foldl nS z).1
 | [],z,_=>⟨Nat.le_refl _,Nat.le_refl _,by simp⟩
 | x::l,z,h=>by
  obtain⟨h1,h2,h3⟩:=h x (by simp)
  obtain⟨g1,g2,g3⟩:=V8 M x h1 h2 h3 (z.1,0)
  have hs:z.1.MH (M+4) (bg x+1) (nS z x).1:=by
   unfold nS
   dsimp only at g1 g2 g3
   refine⟨?_,?_,?_⟩
   ·simp only[Nf.state,Nf.link,List.length_append,List.length_cons,List.length_nil];omega
   ·simp only[Nf.state,Nf.link];omega
   ·simp only[Nf.state,Nf.link,List.length_append,List.length_cons,List.length_nil]
    have e1:(M+4)*(bg x+1)=(M+3)*bg x+bg x+(M+4):=by rw[Nat.mul_succ,show M+4=M+3+1 from rfl,Nat.succ_mul]
    rw[e1]
    generalize (M+3)*bg x=q at *
    omega
  rw[List.foldl_cons,List.map_cons,List.sum_cons]
  exact hs.trans (Wh M l _ fun y hy=>h y (by simp[hy]))
theorem MI(l:List Tr)(h:∀ x∈l,iV x=true)(hs:qG l≤65536):(qQ l).1.small∧(qQ l).1.accept.length≤65536∧(qQ l).1.edges.length≤65536∧(qQ l).1.links.length≤268697600:=by
 unfold qG at hs
 obtain⟨e1,e2⟩:=sK (a:=1) (b:=qY 0 l) (by unfold aF;omega)
 obtain⟨e3,e4⟩:=V9 l 0 (by omega)
 obtain⟨g1,g2,g3⟩:=Wh 4096 l (zU,0) fun x hx=>by
  have:=h x hx
  unfold iV at this
  rw[Bool.and_eq_true,decide_eq_true_eq] at this
  exact⟨this.2,this.1,e4 x hx⟩
 have h0:zU.accept.length=1∧zU.edges.length=0∧zU.links.length=0:=⟨rfl,rfl,rfl⟩
 dsimp only at g1 g2 g3
 unfold Nf.small qQ
 omega
end
section
open Go.RowKit
theorem aia(V:Vt)(w:World)(hL:Lies w V)(hr:iV V.tr=true):Calls Tryz.prog 103 #[.agg V.cells.toArray] w (aY w (.bool false)):=by
 have hc:=fun u hu=>Ea V u hu
 rw[hr] at hc
 obtain⟨k,s,a,cap,kids,lo,hi⟩:=V
 have hB0:=aj w (.cells (aC k s a kids.length cap lo hi).toArray 115)
 have h0:=hc _ (hL.kept hB0)
 have H0:=ah h0
 clear h0 hc hL hr
 show Calls Tryz.prog 103 #[.agg (aC k s a kids.length cap lo hi).toArray] w _
 go_enter Tryz.func103,Tryz.ntmps103
 go_wp2_with (go_at_call 101;go_must (refine H0.out.mono ?_;rintro e w2 ⟨rfl,hb2⟩))
 go_ret
 exact⟨rfl,hB0.trans (hb2.mono hB0.size)⟩
theorem adr(kids:List Vt)(a:Option Addr)(cap:Nat)(w:World)(sA:ak w (.slice a kids.length cap) 8 Vt.cells kids)(lA:∀ i (h:i<kids.length),Lies w kids[i])(hr:∀ i (h:i<kids.length),iV kids[i].tr=true) :
  Calls Tryz.prog 140 #[.slice a kids.length cap,.func (.func 103) #[] #[]] w (aY w (.int .i64 (-1))):=by
 obtain⟨b,o,c1,c2,c3,c4,c5⟩:=sA.kids
 clear sA c4
 have HC:=ah c5;have LA:=ah lA;have HR:=ah hr
 clear c5 lA hr
 obtain⟨n,hn⟩:∃ n,kids.length=n:=⟨_,rfl⟩
 have HN:=ah hn
 have h3:∀ i,i<n→a=some ⟨b,o,none⟩:=by rw[←hn];exact c3
 have hnc:n≤cap:=by rw[←hn];exact c1
 rw[hn]
 clear c3 c1 hn
 go_enter Tryz.func140,Tryz.ntmps140
 go_wp2
 go_loopw [8] (fun i wr=>∃ k:Nat,k≤n∧i=.int .i64 k∧Below w.heap.size w wr) (fun i _=>n - (intOf i).toNat)
 case atStart=>exact⟨0,Nat.zero_le _,rfl,Below.refl _ _⟩
 case round =>
  obtain⟨k,hk,rfl,hB⟩:=hrel
  by_cases hlt:k<n
  ·have hlk:k<kids.length:=by rw[HN.out];exact hlt
   obtain rfl:=h3 k hlt
   have e1:=HC.out k hlk wr hB
   have hcall:=aia kids[k] wr ((LA.out k hlk).kept hB) (HR.out k hlk)
   generalize kids[k]=V at *
   obtain⟨k5,s5,a5,cp5,bY,bZ,hi5⟩:=V
   obtain⟨x0,x1,x2,x3,x4,x5,x6,x7⟩:=qP e1
   have hbl:=World.block_lt_of_cell? wr _ x0
   have qX:=ah hcall
   clear e1 hcall
   have hki:(k:Int)<(n:Int):=by omega
   have hk0:(0:Int)≤(k:Int):=by omega
   go_wp2_with (go_at_call 103;go_must (refine qX.out.mono ?_;rintro e w2 ⟨rfl,hb2⟩))
   exact⟨⟨k+1,hlt,by push_cast;rfl,hB.trans (hb2.mono hB.size)⟩,by simp[intOf];omega⟩
  ·obtain rfl:k=n:=by omega
   go_wp2
   go_ret
   exact⟨rfl,hB⟩
theorem U6(kids:List Vt)(a:Option Addr)(cap:Nat)(w:World)(sA:ak w (.slice a kids.length cap) 8 Vt.cells kids)(lA:∀ i (h:i<kids.length),Lies w kids[i])(hr:∀ i (h:i<kids.length),iV kids[i].tr=true) :
  Calls Tryz.prog 102 #[.slice a kids.length cap,.func (.func 103) #[] #[]] w (aY w (.bool false)):=by
 have H:=ah (adr kids a cap w sA lA hr)
 clear sA lA hr
 generalize kids.length=n at *
 go_enter Tryz.func102,Tryz.ntmps102
 go_wp2_with (go_at_call 140;go_must (refine H.out.mono ?_;rintro e w2 ⟨rfl,hb2⟩))
 go_ret
 exact⟨rfl,hb2⟩
structure sZ(w:World)(N:Nf)(V:Y3):Prop where
 li:ak w V.l 2 Mc N.links
 ed:ak w V.e 6 fU N.edges
 ac:ak w V.a 1 aO N.accept
theorem sZ.kept{w w':World}{N:Nf}{V:Y3}(h:sZ w N V)(hb:Below w.heap.size w w'):sZ w' N V:=⟨h.li.kept hb,h.ed.kept hb,h.ac.kept hb⟩
theorem gB.nf5{w:World}{r qB rb:Nat}{N:Nf}{V:Y3}(h:gB w r qB N V)(hb:rb<qB)(v0 v1 v2 v3 v4:Value):sZ (((((w.setCell ⟨rb,0,none⟩ v0).setCell ⟨rb,1,none⟩ v1).setCell ⟨rb,2,none⟩ v2).setCell ⟨rb,3,none⟩ v3).setCell ⟨rb,4,none⟩ v4) N V :=
 ⟨(((((h.li.other _ _ hb).other _ _ hb).other _ _ hb).other _ _ hb).other _ _ hb).slice Tj,(((((h.ed.other _ _ hb).other _ _ hb).other _ _ hb).other _ _ hb).other _ _ hb).slice xJ,(((((h.ac.other _ _ hb).other _ _ hb).other _ _ hb).other _ _ hb).other _ _ hb).slice dN⟩
theorem Turned.toBelow{r:Nat}{V V':Y3}{w0 w w':World}(h:Turned r V V' w w')(hb:Below w0.heap.size w0 w)(hr:w0.heap.size≤r)(hv:∀ g,¬ V.has g):Below w0.heap.size w0 w' :=
 ⟨h.os.trans hb.os,h.tape.trans hb.tape,h.output.trans hb.output,Nat.le_trans hb.size h.size,fun b hb'=>(h.block b (Nat.lt_of_lt_of_le hb' hb.size) (by omega) (hv b)).trans (hb.block b hb')⟩
theorem Box.aaP{w:World}{b E:Nat}{a0 a1 a2 a3 a4:Value}(h:Box w b #[a0,a1,a2,a3,a4] E)(v0 v1 v2 v3 v4:Value) :
  Box (((((w.setCell ⟨b,0,none⟩ v0).setCell ⟨b,1,none⟩ v1).setCell ⟨b,2,none⟩ v2).setCell ⟨b,3,none⟩ v3).setCell ⟨b,4,none⟩ v4) b #[v0,v1,v2,v3,v4] E:=by
 have:=((((h.set 0 v0).set 1 v1).set 2 v2).set 3 v3).set 4 v4
 simpa using this
def wu:Y3:=⟨.slice none 0 0,.slice none 0 0,.slice none 0 0⟩
theorem TG(g:Nat):¬ wu.has g:=by rintro(h | h | h) <;> cases h
def oJ:Nf:=⟨0,[],[],[]⟩
def dF(N:Nf)(V:Y3):Array Value:=#[.int .i64 N.states,.int .i64 0,V.l,V.e,V.a]
theorem aaQ(w:World):gB (w.alloc (.cells (dF oJ wu) 177)) w.heap.size (w.heap.size+1) oJ wu :=
 ⟨Box.new w _ _,Own.nil _ _ _ _ _,Own.nil _ _ _ _ _,Own.nil _ _ _ _ _,Nat.lt_succ_self _,rfl⟩
def G6(l:List Tr)(w:World)(e:Ending)(w':World):Prop:=Below w.heap.size w w'∧if qG l≤65536 then ∃ V,sZ w' (sW l) V∧e=.returned (.tuple #[.agg (dF (sW l) V),.int .i64 0]) else e=.returned (.tuple #[.agg (dF oJ wu),.int .i64 7])
theorem aib(kids:List Vt)(a:Option Addr)(cap:Nat)(w:World)(sA:ak w (.slice a kids.length cap) 8 Vt.cells kids)(lA:∀ i (h:i<kids.length),Lies w kids[i])(hr:∀ i (h:i<kids.length),iV kids[i].tr=true)(h64:kids.length≤64) :
  Calls Tryz.prog 65 #[.slice a kids.length cap] w (G6 (kids.map Vt.tr) w):=by
 obtain⟨b,o,c1,c2,c3,c4,c5⟩:=sA.kids
 have hall:∀ i (h:i<kids.length),allT kids[i].tr=true:=fun i h=>by have:=hr i h;unfold iV at this;rw[Bool.and_eq_true] at this;exact this.2
 have hsz:∀ i (h:i<kids.length),sizeT kids[i].tr≤1099511627776:=fun i h=>by have:=hr i h;unfold iV at this;rw[Bool.and_eq_true,decide_eq_true_eq] at this;omega
 have hC:=fun(u:World) (hu:Below w.heap.size w u)=>U6 kids a cap u (sA.kept hu) (fun i h=>(lA i h).kept hu) hr
 have hS:=fun(u:World) (hu:Below w.heap.size w u)=>acD kids a cap u (sA.kept hu) (fun i h=>(lA i h).kept hu) hall
 have hB0:=aj w (.cells (dF oJ wu) 121)
 have hx0:=Box.new w (dF oJ wu) 121
 by_cases hbig:qG (kids.map Vt.tr)≤65536
 ·have hR:∀ V w',sZ w' (sW (kids.map Vt.tr)) V→Below w.heap.size w w'→G6 (kids.map Vt.tr) w (.returned (.tuple #[.agg (dF (sW (kids.map Vt.tr)) V),.int .i64 0])) w':=fun V w' h1 h2=>⟨h2,by rw[if_pos hbig];exact⟨V,h1,rfl⟩⟩
  have hd:decide ((65536:Int)<((qG (kids.map Vt.tr):Nat):Int))=false:=by simp;omega
  obtain⟨hsmall,vY⟩:=MI (kids.map Vt.tr) (fun x hx=>by
   obtain⟨X,hX,rfl⟩:=List.mem_map.1 hx
   obtain⟨i,hi,rfl⟩:=List.mem_iff_getElem.1 hX
   exact hr i hi) hbig
  clear vY
  obtain⟨Z,hZ⟩:∃ Z:Nat→Nf×Nat,∀ k,Z k=qQ ((kids.map Vt.tr).take k):=⟨_,fun _=>rfl⟩
  have hZs:∀ k (hk:k<kids.length),Z (k+1)=nS (Z k) kids[k].tr:=fun k hk=>by
   rw[hZ,hZ,YP _ _ (by simpa using hk),List.getElem_map]
  have wV:Z 0=(zU,0):=by rw[hZ,List.take_zero];rfl
  have Me:(Z kids.length).1=sW (kids.map Vt.tr):=by rw[hZ,List.take_of_length_le (by simp)];rfl
  have GZ:∀ k,(Z k).1.small:=fun k=>by rw[hZ];exact(QD _ k).small hsmall
  have hZk:∀ k,k≤kids.length→(Z k).2=k:=fun k hk=>by rw[hZ,abM,List.length_take,List.length_map];omega
  rw[←Me] at hR
  generalize G6 (kids.map Vt.tr) w=R at *
  generalize qG (kids.map Vt.tr)=z at *
  have wB:=fun(u:World)=>rH u.heap.size (u.heap.size+1) 0 oJ wu (u.alloc (.cells (dF oJ wu) 177)) (aaQ u) (by simp) (by simp[oJ])
  have HC:=ah hC;have HS:=ah hS;have HB0:=ah hB0;have HX0:=ah hx0;have HR:=ah hR;have HL:=ah lA;have GX:=ah hall;have KE:=ah hsz;have O7:=ah hZs;have HZ0:=ah wV;have O8:=ah GZ;have HZK:=ah hZk;have H3:=ah c3;have H5:=ah c5;have HST:=ah wB
  clear hC hS hB0 hx0 hR hr sA lA hall hsz c3 c4 c5 c2 hbig hZ hZs wV Me GZ hZk hsmall wB
  obtain⟨n,hn⟩:∃ n,kids.length=n:=⟨_,rfl⟩
  have HN:=ah hn
  rw[hn] at h64 c1 HR HZK HC HS ⊢
  clear hn
  have rD:decide ((64:Int)<(n:Int))=false:=by simp;omega
  go_enter Tryz.func65,Tryz.ntmps65
  go_wp2_with (first | (go_at_call 102;go_must (refine(HC.out _ HB0.out).mono ?_;rintro e w2 ⟨rfl,hb2⟩;have hB2:=HB0.out.trans (hb2.mono HB0.out.size))) | (go_at_call 104;go_must (refine(HS.out _ hB2).mono ?_;rintro e w3 ⟨rfl,hb3⟩;have hB3:=hB2.trans (hb3.mono hB2.size);have hx3:=(HX0.out.kept hb2).kept hb3)) | (go_at_call 105;go_must (refine(HST.out w3).mono ?_;rintro e w4 ⟨rfl,V4,hL4,hT4⟩)))
  have amg:=aaQ w3
  have aic:=hB3.trans ((aj w3 (.cells (dF oJ wu) 177)).mono hB3.size)
  have aie:=hx3.alloc (.cells (dF oJ wu) 177)
  have hxl:=hx3.lt
  have hws:=hB3.size
  have hsz3:(w3.alloc (.cells (dF oJ wu) 177)).heap.size=w3.heap.size+1:=World.size_alloc _ _
  clear amg hb2 hb3 hB2 hB3 hx3 HB0 HX0 HST
  generalize (w3.alloc (.cells (dF oJ wu) 177))=w3a at *
  generalize w3.heap.size=r at *
  have HB3:=ah aic;have HX3:=ah aie
  clear aic aie
  go_loopw [25] (fun i wr=>∃ (k:Nat) (V:Y3),k≤n∧i=.int .i64 k∧gB wr r (r+1) (Z k).1 V∧Turned r wu V w3a wr) (fun i _=>n - (intOf i).toNat)
  case atStart=>exact⟨0,V4,Nat.zero_le _,rfl,by rw[HZ0.out];exact hL4,hT4⟩
  case round =>
   clear hL4 hT4
   obtain⟨k,V,hk,rfl,O9,Wi⟩:=hrel
   have hBk:=Wi.toBelow HB3.out (by omega) TG
   have ap7:=Wi.size
   by_cases hlt:k<n
   ·have hlk:k<kids.length:=by rw[HN.out];exact hlt
    obtain rfl:=H3.out k hlk
    have e1:=H5.out k hlk wr hBk
    have hzs:=O7.out k hlk
    have hzk:=HZK.out k hk
    have ads:=(HL.out k hlk)
    have hal:=GX.out k hlk
    have hly:=ah9 r (r+1) kids[k] (KE.out k hlk)
    generalize kids[k]=X at *
    obtain⟨k5,s5,a5,cp5,bY,bZ,hi5⟩:=X
    obtain⟨x0,x1,x2,x3,x4,x5,x6,x7⟩:=qP e1
    have hbl:=World.block_lt_of_cell? wr _ x0
    have hB1:=aj wr (.cells (aC k5 s5 a5 bY.length cp5 bZ hi5).toArray 115)
    have hon:On (fun b=>b<r+1∧b≠r) (.mk k5 s5 a5 cp5 bY bZ hi5):=ads.on.mono fun b hb=>⟨by omega,by omega⟩
    have hTy:kJ (wr.alloc (.cells (aC k5 s5 a5 bY.length cp5 bZ hi5).toArray 115)) r (r+1) (.mk k5 s5 a5 cp5 bY bZ hi5):=⟨(ads.kept hBk).kept hB1,hon,hal⟩
    have vZ:=O8.out (k+1)
    rw[hzs] at vZ
    have hcl:=hly (Z k).1 V 0 _ (O9.kept hB1) hTy (by rw[World.size_alloc];omega) (((Nf.iM _ _).trans (Nf.iR _ _ _)).small vZ)
    have adt:=Wi.trans (Turned.below hB1)
    have ap8:=adt.size
    unfold nS at hzs vZ
    rw[hzk] at hzs vZ
    generalize bD (Vt.mk k5 s5 a5 cp5 bY bZ hi5).tr ((Z k).1,0)=L at *
    have vY:=(Nf.iR _ _ _).small vZ
    have HST:=ah (fun(u:World) (V':Y3) (hu:gB u r (r+1) L.1 V') (hs:r+1≤u.heap.size)=>by
     have h:=rH r (r+1) (k+1) L.1 V' u hu hs ((Nf.iM _ (k+1)).small vY).2.2
     rw[show((k+1:Nat):Int)=(k:Int)+1 from by push_cast;rfl] at h
     exact h)
    have uK:=ah (fun(u:World) (V':Y3) (hu:gB u r (r+1) (L.1.state (k+1)) V') (hs:r+1≤u.heap.size)=>uZ r (r+1) L.2 L.1.states (L.1.state (k+1)) V' u hu hs vY.1)
    have qX:=ah hcl;have HTB:=ah adt;have HZZ:=ah hzs
    clear hcl adt hzs vZ vY hTy hon ads hal hly e1 O9 Wi hBk hB1 hzk
    have hki:(k:Int)<(n:Int):=by omega
    have hk0:(0:Int)≤(k:Int):=by omega
    go_wp2_with (first | (go_at_call 106;go_must (refine qX.out.mono ?_;rintro e w5 ⟨rfl,V5,hL5,kR⟩;have hs5:=kR.size;have amh:r+1≤w5.heap.size:=(by omega))) | (go_at_call 105;go_must (refine(HST.out w5 V5 hL5 amh).mono ?_;rintro e w6 ⟨rfl,V6,hL6,Dv⟩;have hs6:=Dv.size;have ami:r+1≤w6.heap.size:=(by omega))) | (go_at_call 107;go_must (refine(uK.out w6 V6 hL6 ami).mono ?_;rintro e w7 ⟨rfl,V7,hL7,nN⟩)))
    exact⟨⟨k+1,V7,hlt,by push_cast;rfl,by rw[HZZ.out];exact hL7,((HTB.out.trans kR).trans Dv).trans nN⟩,by simp[intOf];omega⟩
   ·obtain rfl:k=n:=by omega
    obtain⟨vl,ve,va⟩:=V
    obtain⟨la,lc,hvl⟩:=O9.li.form
    obtain⟨ea,ec,lZ⟩:=O9.ed.form
    obtain⟨aa,ac,hva⟩:=O9.ac.form
    dsimp only at hvl lZ hva
    subst hvl
    subst lZ
    subst hva
    have hbx:=O9.box
    have hxr:=Wi.box HX3.out (by omega) (TG _)
    have hnf:=fun v0 v1 v2 v3 v4=>O9.nf5 (rb:=w.heap.size) (by omega) v0 v1 v2 v3 v4
    have y0:wr.cell? ⟨r,0,none⟩=some (.int .i64 (Z k).1.states):=hbx.cell 0
    have y1:wr.cell? ⟨r,1,none⟩=some (.int .i64 0):=hbx.cell 1
    have y2:wr.cell? ⟨r,2,none⟩=some (.slice la (Z k).1.links.length lc):=hbx.cell 2
    have y3:wr.cell? ⟨r,3,none⟩=some (.slice ea (Z k).1.edges.length ec):=hbx.cell 3
    have y4:wr.cell? ⟨r,4,none⟩=some (.slice aa (Z k).1.accept.length ac):=hbx.cell 4
    have z0:=hxr.free 0
    have z1:=hxr.free 1
    have z2:=hxr.free 2
    have z3:=hxr.free 3
    have z4:=hxr.free 4
    have c0:wr.cell? ⟨w.heap.size,0,none⟩=some (.int .i64 0):=hxr.cell 0
    have c1:wr.cell? ⟨w.heap.size,1,none⟩=some (.int .i64 0):=hxr.cell 1
    have c2:wr.cell? ⟨w.heap.size,2,none⟩=some (.slice none 0 0):=hxr.cell 2
    have c3:wr.cell? ⟨w.heap.size,3,none⟩=some (.slice none 0 0):=hxr.cell 3
    have c4:wr.cell? ⟨w.heap.size,4,none⟩=some (.slice none 0 0):=hxr.cell 4
    have zl:=hxr.lt
    have Lp:=ah hnf;have HBK:=ah hBk;have HXR:=ah hxr
    clear hnf hBk hxr hbx O9 Wi
    go_wp2
    refine fP Tryz.results65 rfl rfl (Box.aaP HXR.out _ _ _ _ _) Tryz.underlying121 rfl (by kernel_rfl) rfl ?_
    have bF:Below w.heap.size w (((((wr.setCell ⟨w.heap.size,0,none⟩ (.int .i64 (Z k).1.states)).setCell ⟨w.heap.size,1,none⟩ (.int .i64 0)).setCell ⟨w.heap.size,2,none⟩ (.slice la (Z k).1.links.length lc)).setCell ⟨w.heap.size,3,none⟩ (.slice ea (Z k).1.edges.length ec)).setCell ⟨w.heap.size,4,none⟩ (.slice aa (Z k).1.accept.length ac)):=((((HBK.out.setCell (Nat.le_refl _) _).setCell (Nat.le_refl _) _).setCell (Nat.le_refl _) _).setCell (Nat.le_refl _) _).setCell (Nat.le_refl _) _
    exact HR.out ⟨_,_,_⟩ _ (Lp.out _ _ _ _ _) bF
 ·have hR:∀ w',Below w.heap.size w w'→G6 (kids.map Vt.tr) w (.returned (.tuple #[.agg (dF oJ wu),.int .i64 7])) w':=fun w' h=>⟨h,by rw[if_neg hbig]⟩
  generalize G6 (kids.map Vt.tr) w=R at *
  have hd:decide ((65536:Int)<((qG (kids.map Vt.tr):Nat):Int))=true:=by simp;omega
  generalize qG (kids.map Vt.tr)=z at *
  have HC:=ah hC;have HS:=ah hS;have HB0:=ah hB0;have HX0:=ah hx0;have HR:=ah hR
  clear hC hS hB0 hx0 hR hr sA lA hall hsz c3 c4 c5 c2 hbig
  generalize kids.length=n at *
  have rD:decide ((64:Int)<(n:Int))=false:=by simp;omega
  clear c1
  go_enter Tryz.func65,Tryz.ntmps65
  go_wp2_with (first | (go_at_call 102;go_must (refine(HC.out _ HB0.out).mono ?_;rintro e w2 ⟨rfl,hb2⟩;have hB2:=HB0.out.trans (hb2.mono HB0.out.size))) | (go_at_call 104;go_must (refine(HS.out _ hB2).mono ?_;rintro e w3 ⟨rfl,hb3⟩;have hB3:=hB2.trans (hb3.mono hB2.size);have hx3:=(HX0.out.kept hb2).kept hb3;have z0:=hx3.free 0;have z1:=hx3.free 1;have z2:=hx3.free 2;have z3:=hx3.free 3;have z4:=hx3.free 4;have c0:w3.cell? ⟨w.heap.size,0,none⟩=some (.int .i64 0):=hx3.cell 0;have c1:w3.cell? ⟨w.heap.size,1,none⟩=some (.int .i64 0):=hx3.cell 1;have c2:w3.cell? ⟨w.heap.size,2,none⟩=some (.slice none 0 0):=hx3.cell 2;have c3:w3.cell? ⟨w.heap.size,3,none⟩=some (.slice none 0 0):=hx3.cell 3;have c4:w3.cell? ⟨w.heap.size,4,none⟩=some (.slice none 0 0):=hx3.cell 4;have zl:=hx3.lt)))
  refine fP Tryz.results65 rfl rfl (Box.aaP hx3 _ _ _ _ _) Tryz.underlying121 rfl (by kernel_rfl) rfl (HR.out _ (((((hB3.setCell (Nat.le_refl _) _).setCell (Nat.le_refl _) _).setCell (Nat.le_refl _) _).setCell (Nat.le_refl _) _).setCell (Nat.le_refl _) _))
end
end Go.Proofs.YtengfapcaaacaaaGreatDoor
