/- The texts of S22, in few letters (mini.py). -/
import Derived.Test.YtbemonecmmnlcaaGreatDoorM21
set_option linter.unusedVariables false
set_option linter.unusedSimpArgs false
set_option maxRecDepth 20000
set_option maxHeartbeats 3200000
namespace Go.Proofs.YtbemonecmmnlcaaGreatDoor
section
open Go.RowKit
theorem Jf(x:Tr):bD 0 [x]=aS x:=by rw[bD,bD,Dj (wR x)]
theorem Pq(s:ay)(x:Tr)(lo hi:Int)(z:Nf×Nat):aU (.mk 9 s [x] lo hi) z =
  if aS x=0 then z else
   if hi<0 then pX false (aU x) (bF (aU x) lo.toNat z) else if hi=lo then bF (aU x) lo.toNat z else
    ((bF (fun y=>aU x (y.1.link y.2 (bF (aU x) lo.toNat z).1.states,y.2)) (hi - lo).toNat ((bF (aU x) lo.toNat z).1.state 0,(bF (aU x) lo.toNat z).2)).1.link
     (bF (fun y=>aU x (y.1.link y.2 (bF (aU x) lo.toNat z).1.states,y.2)) (hi - lo).toNat ((bF (aU x) lo.toNat z).1.state 0,(bF (aU x) lo.toNat z).2)).2 (bF (aU x) lo.toNat z).1.states,
     (bF (aU x) lo.toNat z).1.states):=by
 obtain⟨y,f⟩:=z
 rw[aU,if_neg (by decide),if_neg (by decide),if_neg (by decide),if_neg (by decide),if_pos rfl,Jf]
 have e:lD [x]=aU x:=by funext z;rw[lD]
 rw[e]
theorem Jg(f:Nf×Nat→Nf×Nat)(hf:∀ z:Nf×Nat,z.1.le (f z).1)(z:Nf×Nat)(k n:Nat)(h:k≤n):(bF f k z).1.le (bF f n z).1:=by
 induction n with
 | zero =>
      obtain rfl:k=0:=by omega
      exact .refl _
 | succ n ih =>
  by_cases hk:k=n+1
  ·subst hk;exact .refl _
  ·exact(ih (by omega)).trans (by rw[qG];exact hf _)
theorem jE.star{w:World}{r base:Nat}{k:Int}{s:ay}{a:Option Addr}{cap:Nat}{X:Vt}{lo hi:Int}(h:jE w r base (.mk k s a cap [X] lo hi)):jE w r base (.mk 6 0 a cap [X] 0 0):=by
 obtain⟨_,_,_,hs,hk⟩:=h.lies.open
 have hX:=h.kid 0 Nat.zero_lt_one
 refine⟨.mk 6 0 a cap [X] 0 0 ⟨by decide,by decide⟩ ⟨by decide,by decide⟩ ⟨by decide,by decide⟩ hs hk,?_,?_⟩
 ·have:=h.on
  cases this with | mk _ _ _ _ _ _ _ g1 g2=>exact .mk _ _ _ _ _ _ _ g1 g2
 ·have h2:allT X.tr=true:=hX.all
  rw[Vt.jd,List.map_singleton,allT,sG,sG,h2]
  rfl
theorem ae5(r base:Nat)(s:ay)(a:Option Addr)(cap:Nat)(X:Vt)(lo hi:Int)(ih:BN r base X):D9 191 r base (.mk 9 s a cap [X] lo hi):=by
 intro N V f w h hT hb hsm
 obtain⟨R,hR⟩:∃ R:Nf×Nat,aU (Vt.mk 9 s a cap [X] lo hi).tr (N,f)=R:=⟨_,rfl⟩
 rw[hR] at hsm ⊢
 rw[Vt.jd,List.map_singleton,Pq] at hR
 have hone:=hT.all
 rw[Vt.jd,allT,Bool.and_eq_true] at hone
 have Ag:=hone.1
 unfold dI vP at Ag
 simp only[if_true,Bool.and_eq_true,Bool.or_eq_true,decide_eq_true_eq] at Ag
 have Ag:=Ag.1.2
 clear hone
 obtain⟨L,rfl⟩:∃ L:Nat,lo=L:=⟨lo.toNat,by omega⟩
 have hL:L≤1000:=by omega
 have hhi:hi=-1∨((L:Int)≤hi∧hi≤1000):=by omega
 rw[Int.toNat_natCast] at hR
 clear Ag
 have hlt0:∀ g,V.has g→g<w.heap.size:=fun g hg=>(h.hasLt g hg).2
 have hrl:=h.box.lt
 obtain⟨b,o,rfl,hcap,hc2,hX2⟩:=hT.UY
 obtain⟨k5,s5,a5,cp5,bI,bJ,hi5⟩:=X
 obtain⟨x0,x1,x2,x3,x4,x5,x6,x7⟩:=oO hc2
 have hbl:=World.block_lt_of_cell? w _ x0
 have hB0:=aj w (.cells (aA 9 s (some ⟨b,o,none⟩) 1 cap L hi).toArray 151)
 have hx0:=Box.new w (aA 9 s (some ⟨b,o,none⟩) 1 cap L hi).toArray 151
 have hB1:=aj (w.alloc (.cells (aA 9 s (some ⟨b,o,none⟩) 1 cap L hi).toArray 151)) (.cells (aA k5 s5 a5 bI.length cp5 bJ hi5).toArray 151)
 have hy1:=Box.new (w.alloc (.cells (aA 9 s (some ⟨b,o,none⟩) 1 cap L hi).toArray 151)) (aA k5 s5 a5 bI.length cp5 bJ hi5).toArray 151
 have hx1:=hx0.kept hB1
 have h1:=(h.kept hB0).kept hB1
 have hT1:=(hT.dh hB0).dh hB1
 have hK1:=(Turned.below (r:=r) (V:=V) hB0).trans (Turned.below hB1)
 have hW:=Ik _ _ (hX2.lies.kept (hB0.trans (hB1.mono hB0.size))) hX2.all
 rw[World.size_alloc] at hy1
 have hz1:((w.alloc (.cells (aA 9 s (some ⟨b,o,none⟩) 1 cap L hi).toArray 151)).alloc (.cells (aA k5 s5 a5 bI.length cp5 bJ hi5).toArray 151)).heap.size=w.heap.size+2:=by rw[World.size_alloc,World.size_alloc]
 obtain⟨wt,hwt⟩:∃ n:Nat,aS (Vt.mk k5 s5 a5 cp5 bI bJ hi5).tr=n:=⟨_,rfl⟩
 rw[hwt] at hW hR
 have HW:=ah hW;have HR:=ah hR;have uo:=ah hsm;have HI:=ah ih;have H1:=ah h1;have HT1:=ah hT1;have Sr:=ah hK1
 have hn1:¬ V.has w.heap.size:=fun e=>by have:=hlt0 _ e;omega
 have hn2:¬ V.has (w.heap.size+1):=fun e=>by have:=hlt0 _ e;omega
 have hbs:base≤w.heap.size:=hb
 clear hW hR hsm ih h1 hT1 hK1 hT h hc2 hX2 hB0 hx0 hlt0 hwt hb hB1
 show Calls Tryz.prog 191 #[.pointer (some ⟨r,0,none⟩),.agg (aA 9 s (some ⟨b,o,none⟩) 1 cap L hi).toArray,.int .i64 f] w _
 by_cases hw0:wt=0
 ·have hR:=HR.out
  rw[if_pos hw0] at hR
  subst hw0
  subst hR
  clear HR hhi hL
  go_enter Tryz.func191,Tryz.ntmps191
  go_wp2_with (go_at_call 185;go_must (refine HW.out.mono ?_;rintro e w2 ⟨rfl,hb2⟩))
  go_ret
  exact⟨rfl,_,H1.out.kept hb2,Sr.out.trans (Turned.below hb2)⟩
 have hwb:((wt:Int)==0)=false:=by rw[beq_eq_false_iff_ne];omega
 have hR:=HR.out
 rw[if_neg hw0] at hR
 clear HR
 obtain⟨Z,hZ⟩:∃ Z:Nat→Nf×Nat,∀ k,Z k=bF (aU (Vt.mk k5 s5 a5 cp5 bI bJ hi5).tr) k (N,f):=⟨_,fun _=>rfl⟩
 have uj:Z 0=(N,f):=by rw[hZ,bF]
 have hZs:∀ k,Z (k+1)=aU (Vt.mk k5 s5 a5 cp5 bI bJ hi5).tr (Z k):=fun k=>by rw[hZ,qG,←hZ]
 have Ea:∀ k,k≤L→(Z k).1.le (Z L).1:=fun k hk=>by rw[hZ,hZ];exact Jg _ (fun z=>lS _ z) _ k L hk
 rw[←hZ] at hR
 clear hZ hw0
 have hRL:(Z L).1.small:=by
  have hs:=uo.out
  rw[←hR] at hs
  by_cases c1:hi<0
  ·rw[if_pos c1] at hs
   exact(F9 _ _ (fun z=>lS _ z) _).small hs
  ·rw[if_neg c1] at hs
   by_cases c2:hi=L
   ·rw[if_pos c2] at hs;exact hs
   ·rw[if_neg c2] at hs
    exact((Nf.gY _ 0).trans ((yH _ (fun z=>(Nf.ig _ _ _).trans (lS _ (_,_))) _ (_,_)).trans (Nf.ig _ _ _))).small hs
 have HR:=ah hR;have D6:=ah hRL;have HZ0:=ah uj;have LJ:=ah hZs;have LK:=ah Ea
 clear hR hRL uj hZs Ea
 have hLb:(L:Int)≤1000:=by omega
 go_enter Tryz.func191,Tryz.ntmps191
 go_wp2_with (go_at_call 185;go_must (refine HW.out.mono ?_;rintro e w2 ⟨rfl,hb2⟩;have hx2:=hx1.kept hb2;have hy2:=hy1.kept hb2;have z6:w2.cell? ⟨w.heap.size,6,none⟩=some (.int .i64 (L:Nat)):=hx2.cell 6;have hlx:=hx2.lt))
 have h2:=H1.out.kept hb2
 have hT2:=HT1.out.dh hb2
 have hK2:=Sr.out.trans (Turned.below hb2)
 have hz2:w.heap.size+2≤w2.heap.size:=by rw[←hz1];exact hb2.size
 have H2:=ah h2;have HT2:=ah hT2;have HK2:=ah hK2
 clear h2 hT2 hK2 H1 HT1 Sr HW hb2 hz1 hx1 hy1 z6 x0 x1 x2 x3 x4 x5 x6 x7 hwb
 go_loopw [2,19] (fun v i wr=>∃ (j:Nat) (V':Y3),j≤L∧i=.int .i64 j∧v=.int .i64 (Z j).2∧fH wr r base (Z j).1 V'∧Turned r V V' w2 wr) (fun _ i _=>L - (intOf i).toNat)
 case atStart=>exact⟨0,V,Nat.zero_le _,rfl,by rw[HZ0.out],by rw[HZ0.out];exact H2.out,Turned.below (Below.refl _ _)⟩
 case round =>
  obtain⟨j,V1,hj,rfl,rfl,h3,hA3⟩:=hrel
  have hz3:=hA3.size
  have hx3:=hA3.box hx2 (by omega) hn1
  have hy3:=hA3.box hy2 (by omega) hn2
  by_cases hlt:j<L
  ·obtain⟨y0,y1,y2,y3,y4,y5,y6,y7⟩:=hy3.node
   have hla:=HI.out (Z j).1 V1 (Z j).2 wr h3 ((HT2.out.kept H2.out hA3 (by omega)).kid 0 Nat.zero_lt_one) (by omega) (by
    rw[show((Z j).1,(Z j).2)=Z j from rfl,←LJ.out];exact(LK.out _ hlt).small D6.out)
   rw[show((Z j).1,(Z j).2)=Z j from rfl,←LJ.out] at hla
   have Eb:=ah hla
   clear hla h3 hx3 hy3
   have hji:(j:Int)<(L:Int):=by omega
   have hj0:(0:Int)≤(j:Int):=by omega
   go_wp2_with (go_at_call 145;go_must (refine Eb.out.mono ?_;rintro e w3 ⟨rfl,V3,h4,qJ⟩))
   exact⟨⟨j+1,V3,hlt,by push_cast;rfl,rfl,h4,hA3.trans qJ⟩,by simp[intOf];omega⟩
  ·obtain rfl:j=L:=by omega
   have z6:wr.cell? ⟨w.heap.size,7,none⟩=some (.int .i64 hi):=hx3.cell 7
   have z5:wr.cell? ⟨w.heap.size,6,none⟩=some (.int .i64 (j:Nat)):=hx3.cell 6
   have z4:wr.cell? ⟨w.heap.size,5,none⟩=some (.slice (some ⟨b,o,none⟩) 1 cap):=hx3.cell 5
   have hT3:=HT2.out.kept H2.out hA3 (by omega)
   rcases hhi with rfl | ⟨hge,hle⟩
   ·have hR:=HR.out
    rw[if_pos (by decide)] at hR
    have hlo:=Sm r base false 0 (some ⟨b,o,none⟩) cap (Vt.mk k5 s5 a5 cp5 bI bJ hi5) 0 0 HI.out (Z j).1 V1 (Z j).2 wr h3 hT3.star (by omega) (by
     rw[Vt.jd,List.map_singleton,vX,show((Z j).1,(Z j).2)=Z j from rfl,hR];exact uo.out)
    rw[Vt.jd,List.map_singleton,vX,show((Z j).1,(Z j).2)=Z j from rfl,hR] at hlo
    have HLO:=ah hlo
    clear hR hlo h3 hT3 hx3 hy3 HR
    go_wp2_with (go_at_call 189;go_must (refine HLO.out.mono ?_;rintro e w3 ⟨rfl,V3,h4,qJ⟩))
    go_ret
    exact⟨rfl,_,h4,(HK2.out.trans hA3).trans qJ⟩
   have hn0:¬ hi<0:=by omega
   by_cases he:hi=(j:Int)
   ·have hR:=HR.out
    rw[if_neg hn0,if_pos he] at hR
    subst he
    subst hR
    clear HR hT3 hx3 hy3 uo
    go_wp2
    go_ret
    exact⟨rfl,_,h3,HK2.out.trans hA3⟩
   have hR:=HR.out
   rw[if_neg hn0,if_neg he] at hR
   have heb:(hi==(j:Int))=false:=by rw[beq_eq_false_iff_ne];exact he
   obtain⟨ns,hns⟩:∃ n,(Z j).1.states=n:=⟨_,rfl⟩
   rw[hns] at hR
   obtain⟨Y,hY⟩:∃ Y:Nat→Nf×Nat,∀ k,Y k=bF (fun y=>aU (Vt.mk k5 s5 a5 cp5 bI bJ hi5).tr (y.1.link y.2 ns,y.2)) k ((Z j).1.state 0,(Z j).2):=⟨_,fun _=>rfl⟩
   obtain⟨D,hD⟩:∃ D:Nat,(hi - (j:Int)).toNat=D:=⟨_,rfl⟩
   rw[hD,←hY] at hR
   have hDi:(D:Int)=hi - (j:Int):=by omega
   have hY0:Y 0=((Z j).1.state 0,(Z j).2):=by rw[hY,bF]
   have hYs:∀ k,Y (k+1)=aU (Vt.mk k5 s5 a5 cp5 bI bJ hi5).tr ((Y k).1.link (Y k).2 ns,(Y k).2):=fun k=>by rw[hY,qG,←hY]
   have hgm:∀ z:Nf×Nat,z.1.le ((fun y:Nf×Nat=>aU (Vt.mk k5 s5 a5 cp5 bI bJ hi5).tr (y.1.link y.2 ns,y.2)) z).1:=fun z=>(Nf.ig z.1 z.2 ns).trans (lS _ (_,_))
   have hYm:∀ k,k≤D→(Y k).1.le (Y D).1:=fun k hk=>by rw[hY,hY];exact Jg _ hgm _ k D hk
   have hsD:(Y D).1.small:=by
    have:=uo.out
    rw[←hR] at this
    exact(Nf.ig _ _ _).small this
   have hs0:=pG r base 0 (Z j).1 V1 wr h3 (by omega) D6.out.2.2
   rw[hns] at hs0
   have HR:=ah hR;have HD:=ah hDi;have HY0:=ah hY0;have HYS:=ah hYs;have HYM:=ah hYm;have HSD:=ah hsD;have Xj:=ah hs0
   clear hR hY hD hDi hY0 hYs hYm hsD hs0 he hns hgm
   go_wp2_with (go_at_call 144;go_must (refine Xj.out.mono ?_;rintro e w3 ⟨rfl,V3,h4,qJ⟩;have Cm:=hA3.trans qJ;have hx4:=Cm.box hx2 (Nat.ne_of_gt (by omega)) hn1;have z7:w3.cell? ⟨w.heap.size,7,none⟩=some (.int .i64 hi):=hx4.cell 7;have z8:w3.cell? ⟨w.heap.size,6,none⟩=some (.int .i64 (j:Nat)):=hx4.cell 6))
   have uh:=Cm.size
   clear qJ hA3 hx4 z7 z8 z6 z5 z4 hT3 hx3 hy3 h3 Xj hz3
   go_loopw [2,50] (fun v i wr=>∃ (k:Nat) (V':Y3),k≤D∧i=.int .i64 k∧v=.int .i64 (Y k).2∧fH wr r base (Y k).1 V'∧Turned r V V' w2 wr) (fun _ i _=>D - (intOf i).toNat)
   case atStart=>exact⟨0,V3,Nat.zero_le _,rfl,by rw[HY0.out],by rw[HY0.out];exact h4,Cm⟩
   case round =>
    obtain⟨k,V5,hk,rfl,rfl,h5,hA5⟩:=hrel
    have Xb:=hA5.size
    clear h4 Cm uh
    by_cases hlt2:k<D
    ·have hki:(k:Int)<hi - (j:Int):=by have:=HD.out;omega
     have hk0:(0:Int)≤(k:Int):=by omega
     have hsk:((Y k).1.link (Y k).2 ns).small:=by
      have:=(HYM.out _ hlt2).small HSD.out
      rw[HYS.out] at this
      exact(lS _ (_,_)).small this
     have Jb:=ah (rU r base (Y k).2 ns (Y k).1 V5 wr h5 (by omega) ((HYM.out k hk).small HSD.out).1)
     have HSK:=ah hsk
     clear hsk h5
     go_wp2_with (first | (go_at_call 146;go_must (refine Jb.out.mono ?_;rintro e w4 ⟨rfl,V6,h6,Fj⟩;have hA6:=hA5.trans Fj;have hz6:=hA6.size;have hy6:=hA6.box hy2 (Nat.ne_of_gt (by omega)) hn2;obtain⟨y0,y1,y2,y3,y4,y5,y6,y7⟩:=hy6.node)) | (go_at_call 145;go_must (refine(HI.out ((Y k).1.link (Y k).2 ns) V6 (Y k).2 w4 h6 ((HT2.out.kept H2.out hA6 (by omega)).kid 0 Nat.zero_lt_one) (by omega) (by rw[←HYS.out];exact(HYM.out _ hlt2).small HSD.out)).mono ?_;rintro e w5 ⟨rfl,V7,h7,Fe⟩)))
     have e:=HYS.out k
     exact⟨⟨k+1,V7,hlt2,by push_cast;rfl,by rw[e],by rw[e];exact h7,hA6.trans Fe⟩,by simp[intOf];omega⟩
    ·obtain rfl:k=D:=by omega
     have hki:¬ ((k:Int)<hi - (j:Int)):=by have:=HD.out;omega
     have hR:=HR.out
     have Jb:=ah (rU r base (Y k).2 ns (Y k).1 V5 wr h5 (by omega) HSD.out.1)
     subst hR
     clear HR h5
     go_wp2_with (go_at_call 146;go_must (refine Jb.out.mono ?_;rintro e w4 ⟨rfl,V6,h6,Fj⟩))
     go_ret
     exact⟨rfl,_,h6,(HK2.out.trans hA5).trans Fj⟩
end
section
open Go.RowKit
theorem Jh(s:ay)(l:List Tr)(lo hi:Int)(z:Nf×Nat):aU (.mk 2 s l lo hi) z=z:=by
 obtain⟨y,f⟩:=z
 rw[aU];rfl
theorem Pv(s:ay)(l:List Tr)(lo hi:Int)(y:Nf)(f:Nat):aU (.mk 3 s l lo hi) (y,f)=((y.state 0).edge f s y.states,y.states):=by
 rw[aU];rfl
theorem XV(s:ay)(l:List Tr)(lo hi:Int)(y:Nf)(f:Nat):aU (.mk 1 s l lo hi) (y,f)=(y.state 0,y.states):=by
 rw[aU];rfl
theorem aag(r base:Nat)(k:Int)(s:ay)(a:Option Addr)(cap:Nat)(kids:List Vt)(lo hi:Int)(hk:k=1∨k=2∨k=3):D9 186 r base (.mk k s a cap kids lo hi):=by
 intro N V f w h hT hb hsm
 rw[Vt.jd] at hsm ⊢
 have hB0:=aj w (.cells (aA k s a kids.length cap lo hi).toArray 151)
 have h0:=h.kept hB0
 have hx0:=Box.new w (aA k s a kids.length cap lo hi).toArray 151
 show Calls Tryz.prog 186 #[.pointer (some ⟨r,0,none⟩),.agg (aA k s a kids.length cap lo hi).toArray,.int .i64 f] w _
 rcases hk with rfl | rfl | rfl
 ·rw[XV] at hsm ⊢
  have hs:=pG r base 0 N V _ h0 (by rw[World.size_alloc];omega) ((Nf.gY N 0).small hsm).2.2
  have HS:=ah hs;have HB:=ah hB0
  clear hs hsm h0 hx0 hT h hB0
  go_enter Tryz.func186,Tryz.ntmps186
  go_wp2_with (go_at_call 144;go_must (refine HS.out.mono ?_;rintro e w2 ⟨rfl,V2,h2,ht2⟩))
  go_ret
  exact⟨rfl,_,h2,(Turned.below HB.out).trans ht2⟩
 ·rw[Jh] at hsm ⊢
  have H0:=ah h0;have HB:=ah hB0
  clear hsm h0 hx0 hT h hB0
  go_enter Tryz.func186,Tryz.ntmps186
  go_wp2
  go_ret
  exact⟨rfl,_,H0.out,Turned.below HB.out⟩
 ·rw[Pv] at hsm ⊢
  exact adf r base f s a kids.length cap lo hi N V w h hb ⟨((Nf.gY N 0).small ((Nf.JM _ _ _ _).small hsm)).2.2,((Nf.gY N 0).small ((Nf.JM _ _ _ _).small hsm)).2.1⟩
theorem adg{w:World}{r base:Nat}{k:Int}{s:ay}{a:Option Addr}{cap:Nat}{kids:List Vt}{lo hi:Int}(h:jE w r base (.mk k s a cap kids lo hi)):(k=1∨k=2∨k=3)∨k=4∨k=5∨(∃ p:Bool,(if p then 7 else 6:Int)=k)∨k=8∨k=9:=by
 have:=h.all
 rw[Vt.jd,allT,Bool.and_eq_true] at this
 have h1:=this.1
 unfold dI at h1
 simp only[Bool.and_eq_true] at h1
 have h2:=h1.2
 unfold gW at h2
 by_cases h0:k=1∨k=2∨k=3∨k=4∨k=5∨k=6∨k=7∨k=8∨k=9
 ·rcases h0 with h | h | h | h | h | h | h | h | h
  ·exact .inl (.inl h)
  ·exact .inl (.inr (.inl h))
  ·exact .inl (.inr (.inr h))
  ·exact .inr (.inl h)
  ·exact .inr (.inr (.inl h))
  ·exact .inr (.inr (.inr (.inl ⟨false,h.symm⟩)))
  ·exact .inr (.inr (.inr (.inl ⟨true,h.symm⟩)))
  ·exact .inr (.inr (.inr (.inr (.inl h))))
  ·exact .inr (.inr (.inr (.inr (.inr h))))
 ·exfalso
  simp only[not_or] at h0
  obtain⟨g1,g2,g3,g4,g5,g6,g7,g8,g9⟩:=h0
  by_cases hr:0≤k∧k<10
  ·obtain rfl:k=0:=by omega
   simp[Ws] at h2
  ·rw[if_neg hr] at h2
   simp at h2
theorem sZ(r base:Nat)(k:Int)(fn:Nat)(s:ay)(a:Option Addr)(cap:Nat)(kids:List Vt)(lo hi:Int)(hk:(k=1∧fn=186)∨(k=2∧fn=186)∨(k=3∧fn=186)∨(k=4∧fn=187)∨(k=5∧fn=188)∨(k=6∧fn=189)∨(k=7∧fn=189)∨(k=8∧fn=190)∨(k=9∧fn=191))
  (H:D9 fn r base (.mk k s a cap kids lo hi)):BN r base (.mk k s a cap kids lo hi):=by
 intro N V f w h hT hb hsm
 have hB0:=aj w (.cells (aA k s a kids.length cap lo hi).toArray 151)
 have hm:=H N V f _ (h.kept hB0) (hT.dh hB0) (by rw[World.size_alloc];omega) hsm
 have HM:=ah hm;have HB:=ah hB0
 show Calls Tryz.prog 145 #[.pointer (some ⟨r,0,none⟩),.agg (aA k s a kids.length cap lo hi).toArray,.int .i64 f] w _
 generalize aU (Vt.mk k s a cap kids lo hi).tr (N,f)=R at *
 clear hm H hsm hT h hB0
 rcases hk with⟨rfl,rfl⟩ | ⟨rfl,rfl⟩ | ⟨rfl,rfl⟩ | ⟨rfl,rfl⟩ | ⟨rfl,rfl⟩ | ⟨rfl,rfl⟩ | ⟨rfl,rfl⟩ | ⟨rfl,rfl⟩ | ⟨rfl,rfl⟩
 all_goals
  go_enter Tryz.func145,Tryz.ntmps145
  go_wp2_with fail
  refine HM.out.mono ?_
  rintro e w2 ⟨rfl,V2,h2,ht2⟩
  go_wp2
  go_ret
  exact⟨rfl,_,h2,(Turned.below HB.out).trans ht2⟩
theorem afb(r base:Nat):∀ (X:Vt),sizeT X.tr≤1099511627776→BN r base X:=by
 refine Vt.ind fun k s a cap kids lo hi ih=>?_
 intro hsz N V f w h hT hb hsm
 have hks:∀ i (h:i<kids.length),BN r base kids[i]:=fun i h=>ih i h (by
  rw[Vt.jd,sizeT] at hsz
  have:=TI (kids.map Vt.tr) i (by simpa using h)
  rw[List.getElem_map] at this
  omega)
 have hkl:kids.length≤1099511627776:=by
  rw[Vt.jd,sizeT] at hsz
  have:=H6 (kids.map Vt.tr)
  rw[List.length_map] at this
  omega
 refine(?_:BN r base (.mk k s a cap kids lo hi)) N V f w h hT hb hsm
 rcases adg hT with h1 | rfl | rfl | ⟨p,hp⟩ | rfl | rfl
 ·have:=aag r base k s a cap kids lo hi h1
  rcases h1 with rfl | rfl | rfl
  ·exact sZ r base 1 _ s a cap kids lo hi (.inl ⟨rfl,rfl⟩) this
  ·exact sZ r base 2 _ s a cap kids lo hi (.inr (.inl ⟨rfl,rfl⟩)) this
  ·exact sZ r base 3 _ s a cap kids lo hi (.inr (.inr (.inl ⟨rfl,rfl⟩))) this
 ·exact sZ r base 4 _ s a cap kids lo hi (.inr (.inr (.inr (.inl ⟨rfl,rfl⟩)))) (aeX r base s a cap kids lo hi hks)
 ·exact sZ r base 5 _ s a cap kids lo hi (.inr (.inr (.inr (.inr (.inl ⟨rfl,rfl⟩))))) (aeZ r base s a cap kids lo hi hkl hks)
 ·obtain⟨X,rfl⟩:=hT.one (by cases p <;> simp at hp <;> omega)
  have:=Sm r base p s a cap X lo hi (hks 0 Nat.zero_lt_one)
  cases p
  ·subst hp
   exact sZ r base 6 _ s a cap [X] lo hi (.inr (.inr (.inr (.inr (.inr (.inl ⟨rfl,rfl⟩)))))) this
  ·subst hp
   exact sZ r base 7 _ s a cap [X] lo hi (.inr (.inr (.inr (.inr (.inr (.inr (.inl ⟨rfl,rfl⟩))))))) this
 ·obtain⟨X,rfl⟩:=hT.one (by simp)
  exact sZ r base 8 _ s a cap [X] lo hi (.inr (.inr (.inr (.inr (.inr (.inr (.inr (.inl ⟨rfl,rfl⟩)))))))) (aeY r base s a cap X lo hi (hks 0 Nat.zero_lt_one))
 ·obtain⟨X,rfl⟩:=hT.one (by simp)
  exact sZ r base 9 _ s a cap [X] lo hi (.inr (.inr (.inr (.inr (.inr (.inr (.inr (.inr ⟨rfl,rfl⟩)))))))) (ae5 r base s a cap X lo hi (hks 0 Nat.zero_lt_one))
end
section
open Go.RowKit
def Nf.by(c w:Nat)(A B:Nf):Prop:=B.accept.length≤A.accept.length+w∧B.edges.length≤A.edges.length+w∧B.links.length+min w 1≤A.links.length+c*w
def Nf.Ji(c w:Nat)(A B:Nf):Prop:=B.accept.length≤A.accept.length+w∧B.edges.length≤A.edges.length+w∧B.links.length≤A.links.length+c*w
theorem Nf.by.refl(c:Nat)(A:Nf):A.by c 0 A:=⟨Nat.le_refl _,Nat.le_refl _,by simp⟩
theorem Nf.by.weak{c w:Nat}{A B:Nf}(h:A.by c w B):A.Ji c w B:=⟨h.1,h.2.1,by have:=h.2.2;omega⟩
theorem Nf.by.trans{c w v:Nat}{A B D:Nf}(h:A.by c w B)(k:B.by c v D):A.by c (w+v) D:=by
 obtain⟨h1,h2,h3⟩:=h
 obtain⟨k1,k2,k3⟩:=k
 refine⟨by omega,by omega,?_⟩
 rw[Nat.mul_add]
 generalize c*w=x at *
 generalize c*v=y at *
 omega
theorem Nf.Ji.trans{c w v:Nat}{A B D:Nf}(h:A.Ji c w B)(k:B.Ji c v D):A.Ji c (w+v) D:=by
 obtain⟨h1,h2,h3⟩:=h
 obtain⟨k1,k2,k3⟩:=k
 refine⟨by omega,by omega,?_⟩
 rw[Nat.mul_add];omega
theorem Nf.by.mono{c w v:Nat}{A B:Nf}(h:A.by c w B)(hv:w≤v)(hc:0<c):A.by c v B:=by
 obtain⟨h1,h2,h3⟩:=h
 refine⟨by omega,by omega,?_⟩
 have h4:=Nat.mul_le_mul_left c hv
 by_cases hw:w=0
 ·subst hw
  rw[Nat.mul_zero] at h3
  by_cases hv0:v=0
  ·subst hv0;simpa using h3
  ·have:1≤c*v:=Nat.mul_pos hc (by omega)
   omega
 ·omega
theorem vY(c n:Nat)(f:Nf×Nat→Nf×Nat)(hf:∀ z:Nf×Nat,z.1.Ji c n (f z).1):∀ (k:Nat) (z:Nf×Nat),z.1.Ji c (k*n) (bF f k z).1
 | 0,z=>by rw[bF,Nat.zero_mul];exact⟨Nat.le_refl _,Nat.le_refl _,by simp⟩
 | k+1,z=>by
  rw[bF,Nat.succ_mul,Nat.add_comm]
  exact(hf z).trans (vY c n f hf k _)
theorem XW(l:List Nat)(b:Nat):∀ (N:Nf),(l.foldl (fun z e=>z.link e b) N).links.length=N.links.length+l.length∧(l.foldl (fun z e=>z.link e b) N).edges=N.edges∧(l.foldl (fun z e=>z.link e b) N).accept=N.accept:=by
 induction l with
 | nil=>intro N;exact⟨rfl,rfl,rfl⟩
 | cons e l ih =>
  intro N
  rw[List.foldl_cons]
  obtain⟨h1,h2,h3⟩:=ih (N.link e b)
  refine⟨?_,h2,h3⟩
  rw[h1,Nf.link,List.length_append,List.length_cons]
  simp only[List.length_nil,List.length_cons]
  omega
theorem qw{a b:Nat}(h:addN a b<aC):addN a b=a+b∧a+b<aC:=by
 unfold addN at h ⊢
 split
 ·rename_i h1;rw[if_pos h1] at h;omega
 ·rename_i h1;rw[if_neg h1] at h;exact⟨rfl,h⟩
theorem EM{a b:Nat}(h:mulN a b<aC):mulN a b=a*b∧(0<a→b<aC):=by
 unfold mulN at h ⊢
 by_cases h0:a=0∨b=0
 ·rw[if_pos h0]
  rcases h0 with rfl | rfl
  ·exact⟨by rw[Nat.zero_mul],fun h=>by omega⟩
  ·exact⟨by rw[Nat.mul_zero],fun _=>by unfold aC;omega⟩
 ·rw[if_neg h0] at h ⊢
  by_cases h1:aC / b<a
  ·rw[if_pos h1] at h;omega
  ·rw[if_neg h1] at h ⊢
   refine⟨rfl,fun ha=>?_⟩
   have:1*b≤a*b:=Nat.mul_le_mul_right _ ha
   omega
theorem zM:∀ (l:List Tr) (a:Nat),bD a l<aC→bD a l=a+(l.map aS).sum∧(∀ x∈l,aS x<aC)
 | [],a,h=>by rw[bD];exact⟨rfl,fun x h=>by simp at h⟩
 | x::l,a,h=>by
  rw[bD] at h ⊢
  obtain⟨h1,h2⟩:=zM l _ h
  have h3:addN a (aS x)<aC:=by omega
  obtain⟨h4,h5⟩:=qw h3
  refine⟨by rw[h1,h4,List.map_cons,List.sum_cons];omega,fun y hy=>?_⟩
  rcases List.mem_cons.1 hy with rfl | hy
  ·omega
  ·exact h2 y hy
theorem Sv(c:Nat):∀ (l:List Tr) (z:Nf×Nat),(∀ x∈l,∀ z:Nf×Nat,z.1.by c (aS x) (aU x z).1)→z.1.by c (l.map aS).sum (jm l z).1
 | [],z,_=>by rw[jm];exact .refl _ _
 | x::l,z,h=>by
  rw[jm,List.map_cons,List.sum_cons]
  exact(h x (List.mem_cons_self ..) z).trans (Sv c l _ fun y hy=>h y (List.mem_cons_of_mem _ hy))
theorem Sz(c:Nat):∀ (l:List Tr) (y:Nf) (f:Nat) (ends:List Nat),(∀ x∈l,∀ z:Nf×Nat,z.1.by c (aS x) (aU x z).1)→y.by c (l.map aS).sum (eY l y f ends).1
 | [],y,_,_,_=>by rw[eY];exact .refl _ _
 | x::l,y,f,ends,h=>by
  rw[eY,List.map_cons,List.sum_cons]
  exact(h x (List.mem_cons_self ..) (y,f)).trans (Sz c l _ f _ fun y hy=>h y (List.mem_cons_of_mem _ hy))
theorem GN{c n:Nat}(hc:3≤c)(p:Bool)(f:Nf×Nat→Nf×Nat)(hf:∀ z:Nf×Nat,z.1.by c n (f z).1)(z:Nf×Nat):z.1.by c (n+1) (pX p f z).1:=by
 obtain⟨h1,h2,h3⟩:=hf ((z.1.state 0).link z.2 z.1.states,z.1.states)
 unfold pX
 dsimp only
 generalize f ((z.1.state 0).link z.2 z.1.states,z.1.states)=A at *
 simp only[Nf.state,Nf.link,List.length_append,List.length_cons,List.length_nil] at h1 h2 h3 ⊢
 refine⟨?_,?_,?_⟩
 ·show A.1.accept.length≤z.1.accept.length+(n+1);omega
 ·show A.1.edges.length≤z.1.edges.length+(n+1);omega
 ·rw[Nat.mul_succ]
  show(A.1.links++[(A.2,z.1.states)]).length+min (n+1) 1≤z.1.links.length+(c*n+c)
  simp only[List.length_append,List.length_cons,List.length_nil]
  generalize c*n=x at *
  omega
theorem aah{c:Nat}(hc:1≤c)(A:Nf)(k:Nat):A.by c 1 (A.state k):=⟨by simp[Nf.state],by simp[Nf.state],by simp[Nf.state];omega⟩
theorem adh{c:Nat}(hc:1≤c)(A:Nf)(k a b:Nat)(s:ay):A.by c 1 ((A.state k).edge a s b):=⟨by simp[Nf.state,Nf.edge],by simp[Nf.state,Nf.edge],by simp[Nf.state,Nf.edge];omega⟩
theorem J9{k:Int}{s:ay}{kids:List Tr}{lo hi:Int}(h:dI k s kids.length lo hi=true)(hk:k=6∨k=7∨k=8∨k=9):∃ x,kids=[x]:=by
 unfold dI at h
 have hl:kids.length=1:=by
  rcases hk with rfl | rfl | rfl | rfl <;> · simp[gW] at h;exact h.2
 match kids,hl with
 | [x],_=>exact⟨x,rfl⟩
theorem XY(M:Nat)(k:Int)(s:ay)(kids:List Tr)(lo hi:Int)(h1:dI k s kids.length lo hi=true)(hl:kids.length≤M)(hw:aS (.mk k s kids lo hi)<aC)
  (ih:(∀ x∈kids,aS x<aC)→∀ x∈kids,∀ z:Nf×Nat,z.1.by (M+3) (aS x) (aU x z).1) (z:Nf×Nat):z.1.by (M+3) (aS (.mk k s kids lo hi)) (aU (.mk k s kids lo hi) z).1:=by
 rw[Ij] at hw ⊢
 by_cases h2:k=2
 ·subst h2
  rw[if_pos (.inl rfl)] at hw ⊢
  rw[Jh]
  exact(Nf.by.refl _ _).mono (Nat.zero_le _) (by omega)
 by_cases h4:k=4
 ·subst h4
  rw[if_pos (.inr rfl)] at hw ⊢
  obtain⟨e,hx⟩:=zM kids 0 hw
  rw[Ph,e,Nat.zero_add]
  exact Sv _ kids z (ih hx)
 rw[if_neg (by omega)] at hw ⊢
 by_cases h9:k=9
 ·subst h9
  obtain⟨x,rfl⟩:=J9 h1 (by simp)
  rw[if_pos rfl,Jf] at hw ⊢
  rw[Pq]
  have Ag:=h1
  unfold dI vP at Ag
  simp only[if_true,Bool.and_eq_true,Bool.or_eq_true,decide_eq_true_eq] at Ag
  have Ag:=Ag.1.2
  by_cases h0:aS x=0
  ·rw[if_pos h0,h0]
   exact(Nf.by.refl _ _).mono (Nat.zero_le _) (by omega)
  rw[if_neg h0]
  unfold lW at hw ⊢
  rw[if_neg h0] at hw ⊢
  have IH:=fun(hx:aS x<aC)=>ih (by simpa using hx) x (by simp)
  clear ih h1
  generalize hn:aS x=n at *
  by_cases hh:hi<0
  ·rw[if_pos hh] at hw ⊢
   rw[if_pos hh]
   obtain⟨a1,a2⟩:=qw hw
   obtain⟨b1,b2⟩:=qw (a:=mulN lo.toNat n) (b:=n) (by omega)
   have IH:=IH (by omega)
   obtain⟨c1,_⟩:=EM (a:=lo.toNat) (b:=n) (by omega)
   rw[a1,b1,c1]
   obtain⟨p1,p2,p3⟩:=vY (M+3) n _ (fun z=>(IH z).weak) lo.toNat z
   generalize bF (aU x) lo.toNat z=Z at *
   obtain⟨q1,q2,q3⟩:=GN (by omega) false _ IH Z
   refine⟨by omega,by omega,?_⟩
   rw[Nat.mul_succ] at q3 ⊢
   rw[Nat.mul_add]
   generalize (M+3)*n=x1 at *
   generalize (M+3)*(lo.toNat*n)=x2 at *
   omega
  ·rw[if_neg hh] at hw ⊢
   rw[if_neg hh]
   by_cases he:hi=lo
   ·rw[if_neg (by omega)] at hw ⊢
    rw[if_pos he]
    obtain⟨c1,c2⟩:=EM hw
    rw[c1]
    by_cases hl:lo.toNat=0
    ·rw[hl,bF,Nat.zero_mul];exact .refl _ _
    ·have IH:=IH (c2 (by omega))
     obtain⟨l,hl'⟩:∃ l,lo.toNat=l+1:=⟨lo.toNat - 1,by omega⟩
     rw[hl',qG,Nat.succ_mul]
     obtain⟨p1,p2,p3⟩:=vY (M+3) n _ (fun z=>(IH z).weak) l z
     generalize bF (aU x) l z=Z at *
     obtain⟨q1,q2,q3⟩:=IH Z
     refine⟨by omega,by omega,?_⟩
     rw[Nat.mul_add]
     generalize (M+3)*n=x1 at *
     generalize (M+3)*(l*n)=x2 at *
     omega
   ·rw[if_pos (by omega)] at hw ⊢
    rw[if_neg he]
    obtain⟨a1,a2⟩:=qw hw
    obtain⟨b1,b2⟩:=qw (a:=mulN lo.toNat n) (b:=mulN (hi - lo).toNat n) (by omega)
    obtain⟨c1,_⟩:=EM (a:=lo.toNat) (b:=n) (by omega)
    obtain⟨d1,d2⟩:=EM (a:=(hi - lo).toNat) (b:=n) (by omega)
    have IH:=IH (d2 (by omega))
    rw[a1,b1,c1,d1]
    obtain⟨p1,p2,p3⟩:=vY (M+3) n _ (fun z=>(IH z).weak) lo.toNat z
    generalize bF (aU x) lo.toNat z=Z at *
    obtain⟨q1,q2,q3⟩:=vY (M+3) n (fun y=>aU x (y.1.link y.2 Z.1.states,y.2)) (fun y=>by
     obtain⟨r1,r2,r3⟩:=IH (y.1.link y.2 Z.1.states,y.2)
     simp only[Nf.link,List.length_append,List.length_cons,List.length_nil] at r1 r2 r3
     refine⟨r1,r2,?_⟩
     show(aU x (y.1.link y.2 Z.1.states,y.2)).1.links.length≤_
     simp only[Nf.link]
     have:min n 1=1:=by omega
     omega) (hi - lo).toNat (Z.1.state 0,Z.2)
    generalize bF (fun y=>aU x (y.1.link y.2 Z.1.states,y.2)) (hi - lo).toNat (Z.1.state 0,Z.2)=U at *
    simp only[Nf.state,List.length_append,List.length_cons,List.length_nil] at q1 q2 q3
    refine⟨?_,?_,?_⟩
    ·simp only[Nf.link];omega
    ·simp only[Nf.link];omega
    ·simp only[Nf.link,List.length_append,List.length_cons,List.length_nil]
     rw[Nat.mul_succ,Nat.mul_add]
     generalize (M+3)*((hi - lo).toNat*n)=x1 at *
     generalize (M+3)*(lo.toNat*n)=x2 at *
     omega
 rw[if_neg h9] at hw ⊢
 obtain⟨e,hlt⟩:=qw hw
 obtain⟨e1,hx⟩:=zM kids 0 (by omega)
 rw[e,e1,Nat.zero_add]
 have IH:=ih hx
 obtain⟨y,f⟩:=z
 by_cases h5:k=5
 ·subst h5
  rw[Pn]
  obtain⟨g1,g2,g3⟩:=Sz (M+3) kids y f [] IH
  have gl:=Gg kids y f []
  dsimp only
  generalize eY kids y f []=A at *
  obtain⟨l1,l2,l3⟩:=XW A.2 A.1.states (A.1.state 0)
  refine⟨?_,?_,?_⟩
  ·rw[l3];simp only[Nf.state,List.length_append,List.length_cons,List.length_nil];omega
  ·rw[l2];simp only[Nf.state];omega
  ·rw[l1,Nat.mul_succ];simp only[Nf.state]
   simp only[List.length_nil] at gl
   generalize (M+3)*(kids.map aS).sum=q at *
   omega
 by_cases h67:k=6∨k=7
 ·obtain⟨x,rfl⟩:=J9 h1 (by omega)
  have hb:=fun z=>IH x (by simp) z
  rw[show(List.map aS [x]).sum=aS x from by simp]
  rcases h67 with rfl | rfl
  ·rw[show(Tr.mk 6 s [x] lo hi)=.mk (if false then 7 else 6) s [x] lo hi from rfl,vX]
   exact GN (by omega) _ _ hb _
  ·rw[show(Tr.mk 7 s [x] lo hi)=.mk (if true then 7 else 6) s [x] lo hi from rfl,vX]
   exact GN (by omega) _ _ hb _
 by_cases h8:k=8
 ·subst h8
  obtain⟨x,rfl⟩:=J9 h1 (by omega)
  obtain⟨g1,g2,g3⟩:=IH x (by simp) (y,f)
  rw[show(List.map aS [x]).sum=aS x from by simp,Pm]
  dsimp only at g1 g2 g3 ⊢
  generalize aU x (y,f)=A at *
  refine⟨?_,?_,?_⟩
  ·simp only[Nf.state,Nf.link,List.length_append,List.length_cons,List.length_nil];omega
  ·simp only[Nf.state,Nf.link];omega
  ·rw[Nat.mul_succ];simp only[Nf.state,Nf.link,List.length_append,List.length_cons,List.length_nil]
   generalize (M+3)*aS x=q at *
   omega
 by_cases h3:k=3
 ·subst h3
  rw[Pv]
  exact(adh (by omega) y 0 f y.states s).mono (by omega) (by omega)
 ·have:aU (.mk k s kids lo hi) (y,f)=(y.state 0,y.states):=by
   rw[aU,if_neg h4,if_neg h5,if_neg h67,if_neg h8,if_neg h9,if_neg h2,if_neg h3]
  rw[this]
  exact(aah (by omega) y 0).mono (by omega) (by omega)
mutual
theorem SA(M:Nat):∀ (t:Tr),allT t=true→sizeT t≤M→aS t<aC→∀ z:Nf×Nat,z.1.by (M+3) (aS t) (aU t z).1
 | .mk k s kids lo hi,ha,hs,hw,z=>by
  rw[allT,Bool.and_eq_true] at ha
  rw[sizeT] at hs
  have hl:=H6 kids
  exact XY M k s kids lo hi ha.1 (by omega) hw (fun hx=>Px M kids ha.2 (by omega) hx) z
theorem Px(M:Nat):∀ (l:List Tr),sG l=true→nC l≤M→(∀ x∈l,aS x<aC)→∀ x∈l,∀ z:Nf×Nat,z.1.by (M+3) (aS x) (aU x z).1
 | [],_,_,_,x,hx,_=>by simp at hx
 | y::l,ha,hs,hw,x,hx,z=>by
  rw[sG,Bool.and_eq_true] at ha
  rw[nC] at hs
  have h1:=SA M y ha.1 (by omega) (hw y (by simp))
  have h2:=Px M l ha.2 (by omega) (fun x hx=>hw x (by simp[hx]))
  rcases List.mem_cons.1 hx with hx | hx
  ·rw[hx];exact h1 z
  ·exact h2 x hx z
end
theorem SB:∀ (l:List Tr) (a:Nat),oZ a l<aC→oZ a l=a+(l.map fun x=>aS x+1).sum∧(∀ x∈l,aS x<aC)
 | [],a,_=>⟨rfl,fun x h=>by simp at h⟩
 | x::l,a,h=>by
  have e:oZ a (x::l)=oZ (addN a (Ci x)) l:=rfl
  rw[e] at h ⊢
  obtain⟨h1,h2⟩:=SB l _ h
  have h3:addN a (Ci x)<aC:=by omega
  obtain⟨h4,h5⟩:=qw h3
  have h6:Ci x<aC:=by omega
  obtain⟨h7,h8⟩:=qw (show addN (aS x) 1<aC from h6)
  have h9:Ci x=aS x+1:=h7
  refine⟨by rw[h1,h4,h9,List.map_cons,List.sum_cons];omega,fun y hy=>?_⟩
  rcases List.mem_cons.1 hy with rfl | hy
  ·omega
  ·exact h2 y hy
theorem SC(M:Nat):∀ (l:List Tr) (z:Nf×Nat),(∀ x∈l,allT x=true∧sizeT x≤M∧aS x<aC)→z.1.Ji (M+4) (l.map fun x=>aS x+1).sum (l.foldl lJ z).1
 | [],z,_=>⟨Nat.le_refl _,Nat.le_refl _,by simp⟩
 | x::l,z,h=>by
  obtain⟨h1,h2,h3⟩:=h x (by simp)
  obtain⟨g1,g2,g3⟩:=SA M x h1 h2 h3 (z.1,0)
  have hs:z.1.Ji (M+4) (aS x+1) (lJ z x).1:=by
   unfold lJ
   dsimp only at g1 g2 g3
   refine⟨?_,?_,?_⟩
   ·simp only[Nf.state,Nf.link,List.length_append,List.length_cons,List.length_nil];omega
   ·simp only[Nf.state,Nf.link];omega
   ·simp only[Nf.state,Nf.link,List.length_append,List.length_cons,List.length_nil]
    have e1:(M+4)*(aS x+1)=(M+3)*aS x+aS x+(M+4):=by rw[Nat.mul_succ,show M+4=M+3+1 from rfl,Nat.succ_mul]
    rw[e1]
    generalize (M+3)*aS x=q at *
    omega
  rw[List.foldl_cons,List.map_cons,List.sum_cons]
  exact hs.trans (SC M l _ fun y hy=>h y (by simp[hy]))
theorem Jj(l:List Tr)(h:∀ x∈l,iw x=true)(hs:oz l≤65536):(oP l).1.small∧(oP l).1.accept.length≤65536∧(oP l).1.edges.length≤65536∧(oP l).1.links.length≤268697600:=by
 unfold oz at hs
 obtain⟨e1,e2⟩:=qw (a:=1) (b:=oZ 0 l) (by unfold aC;omega)
 obtain⟨e3,e4⟩:=SB l 0 (by omega)
 obtain⟨g1,g2,g3⟩:=SC 4096 l (xJ,0) fun x hx=>by
  have:=h x hx
  unfold iw at this
  rw[Bool.and_eq_true,decide_eq_true_eq] at this
  exact⟨this.2,this.1,e4 x hx⟩
 have h0:xJ.accept.length=1∧xJ.edges.length=0∧xJ.links.length=0:=⟨rfl,rfl,rfl⟩
 dsimp only at g1 g2 g3
 unfold Nf.small oP
 omega
end
section
open Go.RowKit
theorem afc(V:Vt)(w:World)(hL:Lies w V)(hr:iw V.tr=true):Calls Tryz.prog 142 #[.agg V.cells.toArray] w (bV w (.bool false)):=by
 have hc:=fun u hu=>Bg V u hu
 rw[hr] at hc
 obtain⟨k,s,a,cap,kids,lo,hi⟩:=V
 have hB0:=aj w (.cells (aA k s a kids.length cap lo hi).toArray 151)
 have h0:=hc _ (hL.kept hB0)
 have H0:=ah h0
 clear h0 hc hL hr
 show Calls Tryz.prog 142 #[.agg (aA k s a kids.length cap lo hi).toArray] w _
 go_enter Tryz.func142,Tryz.ntmps142
 go_wp2_with (go_at_call 140;go_must (refine H0.out.mono ?_;rintro e w2 ⟨rfl,hb2⟩))
 go_ret
 exact⟨rfl,hB0.trans (hb2.mono hB0.size)⟩
theorem aai(kids:List Vt)(a:Option Addr)(cap:Nat)(w:World)(sA:ak w (.slice a kids.length cap) 8 Vt.cells kids)(lA:∀ i (h:i<kids.length),Lies w kids[i])(hr:∀ i (h:i<kids.length),iw kids[i].tr=true) :
  Calls Tryz.prog 181 #[.slice a kids.length cap,.func (.func 142) #[] #[]] w (bV w (.int .i64 (-1))):=by
 obtain⟨b,o,c1,c2,c3,c4,c5⟩:=sA.kids
 clear sA c4
 have HC:=ah c5;have LA:=ah lA;have HR:=ah hr
 clear c5 lA hr
 obtain⟨n,hn⟩:∃ n,kids.length=n:=⟨_,rfl⟩
 have HN:=ah hn
 have h3:∀ i,i<n→a=some ⟨b,o,none⟩:=by rw[←hn];exact c3
 have hnc:n≤cap:=by rw[←hn];exact c1
 rw[hn]
 clear c3 c1 hn
 go_enter Tryz.func181,Tryz.ntmps181
 go_wp2
 go_loopw [8] (fun i wr=>∃ k:Nat,k≤n∧i=.int .i64 k∧Below w.heap.size w wr) (fun i _=>n - (intOf i).toNat)
 case atStart=>exact⟨0,Nat.zero_le _,rfl,Below.refl _ _⟩
 case round =>
  obtain⟨k,hk,rfl,hB⟩:=hrel
  by_cases hlt:k<n
  ·have hlk:k<kids.length:=by rw[HN.out];exact hlt
   obtain rfl:=h3 k hlt
   have e1:=HC.out k hlk wr hB
   have hcall:=afc kids[k] wr ((LA.out k hlk).kept hB) (HR.out k hlk)
   generalize kids[k]=V at *
   obtain⟨k5,s5,a5,cp5,bI,bJ,hi5⟩:=V
   obtain⟨x0,x1,x2,x3,x4,x5,x6,x7⟩:=oO e1
   have hbl:=World.block_lt_of_cell? wr _ x0
   have nD:=ah hcall
   clear e1 hcall
   have hki:(k:Int)<(n:Int):=by omega
   have hk0:(0:Int)≤(k:Int):=by omega
   go_wp2_with (go_at_call 142;go_must (refine nD.out.mono ?_;rintro e w2 ⟨rfl,hb2⟩))
   exact⟨⟨k+1,hlt,by push_cast;rfl,hB.trans (hb2.mono hB.size)⟩,by simp[intOf];omega⟩
  ·obtain rfl:k=n:=by omega
   go_wp2
   go_ret
   exact⟨rfl,hB⟩
theorem Q5(kids:List Vt)(a:Option Addr)(cap:Nat)(w:World)(sA:ak w (.slice a kids.length cap) 8 Vt.cells kids)(lA:∀ i (h:i<kids.length),Lies w kids[i])(hr:∀ i (h:i<kids.length),iw kids[i].tr=true) :
  Calls Tryz.prog 141 #[.slice a kids.length cap,.func (.func 142) #[] #[]] w (bV w (.bool false)):=by
 have H:=ah (aai kids a cap w sA lA hr)
 clear sA lA hr
 generalize kids.length=n at *
 go_enter Tryz.func141,Tryz.ntmps141
 go_wp2_with (go_at_call 181;go_must (refine H.out.mono ?_;rintro e w2 ⟨rfl,hb2⟩))
 go_ret
 exact⟨rfl,hb2⟩
structure qE(w:World)(N:Nf)(V:Y3):Prop where
 li:ak w V.l 2 Jc N.links
 ed:ak w V.e 6 fD N.edges
 ac:ak w V.a 1 aI N.accept
theorem qE.kept{w w':World}{N:Nf}{V:Y3}(h:qE w N V)(hb:Below w.heap.size w w'):qE w' N V:=⟨h.li.kept hb,h.ed.kept hb,h.ac.kept hb⟩
theorem fH.nf5{w:World}{r base rb:Nat}{N:Nf}{V:Y3}(h:fH w r base N V)(hb:rb<base)(v0 v1 v2 v3 v4:Value):qE (((((w.setCell ⟨rb,0,none⟩ v0).setCell ⟨rb,1,none⟩ v1).setCell ⟨rb,2,none⟩ v2).setCell ⟨rb,3,none⟩ v3).setCell ⟨rb,4,none⟩ v4) N V :=
 ⟨(((((h.li.other _ _ hb).other _ _ hb).other _ _ hb).other _ _ hb).other _ _ hb).slice O8,(((((h.ed.other _ _ hb).other _ _ hb).other _ _ hb).other _ _ hb).other _ _ hb).slice uK,(((((h.ac.other _ _ hb).other _ _ hb).other _ _ hb).other _ _ hb).other _ _ hb).slice dF⟩
theorem Turned.toBelow{r:Nat}{V V':Y3}{w0 w w':World}(h:Turned r V V' w w')(hb:Below w0.heap.size w0 w)(hr:w0.heap.size≤r)(hv:∀ g,¬ V.has g):Below w0.heap.size w0 w' :=
 ⟨h.os.trans hb.os,h.tape.trans hb.tape,h.output.trans hb.output,Nat.le_trans hb.size h.size,fun b hb'=>(h.block b (Nat.lt_of_lt_of_le hb' hb.size) (by omega) (hv b)).trans (hb.block b hb')⟩
theorem Box.XZ{w:World}{b E:Nat}{a0 a1 a2 a3 a4:Value}(h:Box w b #[a0,a1,a2,a3,a4] E)(v0 v1 v2 v3 v4:Value) :
  Box (((((w.setCell ⟨b,0,none⟩ v0).setCell ⟨b,1,none⟩ v1).setCell ⟨b,2,none⟩ v2).setCell ⟨b,3,none⟩ v3).setCell ⟨b,4,none⟩ v4) b #[v0,v1,v2,v3,v4] E:=by
 have:=((((h.set 0 v0).set 1 v1).set 2 v2).set 3 v3).set 4 v4
 simpa using this
def tq:Y3:=⟨.slice none 0 0,.slice none 0 0,.slice none 0 0⟩
theorem Py(g:Nat):¬ tq.has g:=by rintro(h | h | h) <;> cases h
def mg:Nf:=⟨0,[],[],[]⟩
def bZ(N:Nf)(V:Y3):Array Value:=#[.int .i64 N.states,.int .i64 0,V.l,V.e,V.a]
theorem X0(w:World):fH (w.alloc (.cells (bZ mg tq) 216)) w.heap.size (w.heap.size+1) mg tq :=
 ⟨Box.new w _ _,Own.nil _ _ _ _ _,Own.nil _ _ _ _ _,Own.nil _ _ _ _ _,Nat.lt_succ_self _,rfl⟩
def Ec(l:List Tr)(w:World)(e:Ending)(w':World):Prop:=Below w.heap.size w w'∧if oz l≤65536 then ∃ V,qE w' (qA l) V∧e=.returned (.tuple #[.agg (bZ (qA l) V),.int .i64 0]) else e=.returned (.tuple #[.agg (bZ mg tq),.int .i64 7])
theorem afd(kids:List Vt)(a:Option Addr)(cap:Nat)(w:World)(sA:ak w (.slice a kids.length cap) 8 Vt.cells kids)(lA:∀ i (h:i<kids.length),Lies w kids[i])(hr:∀ i (h:i<kids.length),iw kids[i].tr=true)(h64:kids.length≤64) :
  Calls Tryz.prog 100 #[.slice a kids.length cap] w (Ec (kids.map Vt.tr) w):=by
 obtain⟨b,o,c1,c2,c3,c4,c5⟩:=sA.kids
 have hall:∀ i (h:i<kids.length),allT kids[i].tr=true:=fun i h=>by have:=hr i h;unfold iw at this;rw[Bool.and_eq_true] at this;exact this.2
 have hsz:∀ i (h:i<kids.length),sizeT kids[i].tr≤1099511627776:=fun i h=>by have:=hr i h;unfold iw at this;rw[Bool.and_eq_true,decide_eq_true_eq] at this;omega
 have hC:=fun(u:World) (hu:Below w.heap.size w u)=>Q5 kids a cap u (sA.kept hu) (fun i h=>(lA i h).kept hu) hr
 have hS:=fun(u:World) (hu:Below w.heap.size w u)=>Zv kids a cap u (sA.kept hu) (fun i h=>(lA i h).kept hu) hall
 have hB0:=aj w (.cells (bZ mg tq) 157)
 have hx0:=Box.new w (bZ mg tq) 157
 by_cases hbig:oz (kids.map Vt.tr)≤65536
 ·have hR:∀ V w',qE w' (qA (kids.map Vt.tr)) V→Below w.heap.size w w'→Ec (kids.map Vt.tr) w (.returned (.tuple #[.agg (bZ (qA (kids.map Vt.tr)) V),.int .i64 0])) w':=fun V w' h1 h2=>⟨h2,by rw[if_pos hbig];exact⟨V,h1,rfl⟩⟩
  have hd:decide ((65536:Int)<((oz (kids.map Vt.tr):Nat):Int))=false:=by simp;omega
  obtain⟨hsmall,sV⟩:=Jj (kids.map Vt.tr) (fun x hx=>by
   obtain⟨X,hX,rfl⟩:=List.mem_map.1 hx
   obtain⟨i,hi,rfl⟩:=List.mem_iff_getElem.1 hX
   exact hr i hi) hbig
  clear sV
  obtain⟨Z,hZ⟩:∃ Z:Nat→Nf×Nat,∀ k,Z k=oP ((kids.map Vt.tr).take k):=⟨_,fun _=>rfl⟩
  have hZs:∀ k (hk:k<kids.length),Z (k+1)=lJ (Z k) kids[k].tr:=fun k hk=>by
   rw[hZ,hZ,VT _ _ (by simpa using hk),List.getElem_map]
  have uj:Z 0=(xJ,0):=by rw[hZ,List.take_zero];rfl
  have Je:(Z kids.length).1=qA (kids.map Vt.tr):=by rw[hZ,List.take_of_length_le (by simp)];rfl
  have Ea:∀ k,(Z k).1.small:=fun k=>by rw[hZ];exact(NI _ k).small hsmall
  have hZk:∀ k,k≤kids.length→(Z k).2=k:=fun k hk=>by rw[hZ,YX,List.length_take,List.length_map];omega
  rw[←Je] at hR
  generalize Ec (kids.map Vt.tr) w=R at *
  generalize oz (kids.map Vt.tr)=z at *
  have tu:=fun(u:World)=>pG u.heap.size (u.heap.size+1) 0 mg tq (u.alloc (.cells (bZ mg tq) 216)) (X0 u) (by simp) (by simp[mg])
  have HC:=ah hC;have HS:=ah hS;have HB0:=ah hB0;have HX0:=ah hx0;have HR:=ah hR;have HL:=ah lA;have D7:=ah hall;have OB:=ah hsz;have LJ:=ah hZs;have HZ0:=ah uj;have LK:=ah Ea;have HZK:=ah hZk;have H3:=ah c3;have H5:=ah c5;have HST:=ah tu
  clear hC hS hB0 hx0 hR hr sA lA hall hsz c3 c4 c5 c2 hbig hZ hZs uj Je Ea hZk hsmall tu
  obtain⟨n,hn⟩:∃ n,kids.length=n:=⟨_,rfl⟩
  have HN:=ah hn
  rw[hn] at h64 c1 HR HZK HC HS ⊢
  clear hn
  have o8:decide ((64:Int)<(n:Int))=false:=by simp;omega
  go_enter Tryz.func100,Tryz.ntmps100
  go_wp2_with (first | (go_at_call 141;go_must (refine(HC.out _ HB0.out).mono ?_;rintro e w2 ⟨rfl,hb2⟩;have hB2:=HB0.out.trans (hb2.mono HB0.out.size))) | (go_at_call 143;go_must (refine(HS.out _ hB2).mono ?_;rintro e w3 ⟨rfl,hb3⟩;have hB3:=hB2.trans (hb3.mono hB2.size);have hx3:=(HX0.out.kept hb2).kept hb3)) | (go_at_call 144;go_must (refine(HST.out w3).mono ?_;rintro e w4 ⟨rfl,V4,hL4,hT4⟩)))
  have ajr:=X0 w3
  have afe:=hB3.trans ((aj w3 (.cells (bZ mg tq) 216)).mono hB3.size)
  have aff:=hx3.alloc (.cells (bZ mg tq) 216)
  have hxl:=hx3.lt
  have hws:=hB3.size
  have hsz3:(w3.alloc (.cells (bZ mg tq) 216)).heap.size=w3.heap.size+1:=World.size_alloc _ _
  clear ajr hb2 hb3 hB2 hB3 hx3 HB0 HX0 HST
  generalize (w3.alloc (.cells (bZ mg tq) 216))=w3a at *
  generalize w3.heap.size=r at *
  have HB3:=ah afe;have HX3:=ah aff
  clear afe aff
  go_loopw [25] (fun i wr=>∃ (k:Nat) (V:Y3),k≤n∧i=.int .i64 k∧fH wr r (r+1) (Z k).1 V∧Turned r tq V w3a wr) (fun i _=>n - (intOf i).toNat)
  case atStart=>exact⟨0,V4,Nat.zero_le _,rfl,by rw[HZ0.out];exact hL4,hT4⟩
  case round =>
   clear hL4 hT4
   obtain⟨k,V,hk,rfl,LM,SE⟩:=hrel
   have X3:=SE.toBelow HB3.out (by omega) Py
   have anh:=SE.size
   by_cases hlt:k<n
   ·have hlk:k<kids.length:=by rw[HN.out];exact hlt
    obtain rfl:=H3.out k hlk
    have e1:=H5.out k hlk wr X3
    have hzs:=LJ.out k hlk
    have hzk:=HZK.out k hk
    have aaj:=(HL.out k hlk)
    have hal:=D7.out k hlk
    have hly:=afb r (r+1) kids[k] (OB.out k hlk)
    generalize kids[k]=X at *
    obtain⟨k5,s5,a5,cp5,bI,bJ,hi5⟩:=X
    obtain⟨x0,x1,x2,x3,x4,x5,x6,x7⟩:=oO e1
    have hbl:=World.block_lt_of_cell? wr _ x0
    have hB1:=aj wr (.cells (aA k5 s5 a5 bI.length cp5 bJ hi5).toArray 151)
    have hon:On (fun b=>b<r+1∧b≠r) (.mk k5 s5 a5 cp5 bI bJ hi5):=aaj.on.mono fun b hb=>⟨by omega,by omega⟩
    have hTy:jE (wr.alloc (.cells (aA k5 s5 a5 bI.length cp5 bJ hi5).toArray 151)) r (r+1) (.mk k5 s5 a5 cp5 bI bJ hi5):=⟨(aaj.kept X3).kept hB1,hon,hal⟩
    have sW:=LK.out (k+1)
    rw[hzs] at sW
    have hcl:=hly (Z k).1 V 0 _ (LM.kept hB1) hTy (by rw[World.size_alloc];omega) (((Nf.gY _ _).trans (Nf.ig _ _ _)).small sW)
    have aak:=SE.trans (Turned.below hB1)
    have ani:=aak.size
    unfold lJ at hzs sW
    rw[hzk] at hzs sW
    generalize aU (Vt.mk k5 s5 a5 cp5 bI bJ hi5).tr ((Z k).1,0)=L at *
    have sV:=(Nf.ig _ _ _).small sW
    have HST:=ah (fun(u:World) (V':Y3) (hu:fH u r (r+1) L.1 V') (hs:r+1≤u.heap.size)=>by
     have h:=pG r (r+1) (k+1) L.1 V' u hu hs ((Nf.gY _ (k+1)).small sV).2.2
     rw[show((k+1:Nat):Int)=(k:Int)+1 from by push_cast;rfl] at h
     exact h)
    have ru:=ah (fun(u:World) (V':Y3) (hu:fH u r (r+1) (L.1.state (k+1)) V') (hs:r+1≤u.heap.size)=>rU r (r+1) L.2 L.1.states (L.1.state (k+1)) V' u hu hs sV.1)
    have nD:=ah hcl;have XT:=ah aak;have HZZ:=ah hzs
    clear hcl aak hzs sW sV hTy hon aaj hal hly e1 LM SE X3 hB1 hzk
    have hki:(k:Int)<(n:Int):=by omega
    have hk0:(0:Int)≤(k:Int):=by omega
    go_wp2_with (first | (go_at_call 145;go_must (refine nD.out.mono ?_;rintro e w5 ⟨rfl,V5,hL5,rE⟩;have hs5:=rE.size;have ajs:r+1≤w5.heap.size:=(by omega))) | (go_at_call 144;go_must (refine(HST.out w5 V5 hL5 ajs).mono ?_;rintro e w6 ⟨rfl,V6,hL6,Aj⟩;have hs6:=Aj.size;have ajt:r+1≤w6.heap.size:=(by omega))) | (go_at_call 146;go_must (refine(ru.out w6 V6 hL6 ajt).mono ?_;rintro e w7 ⟨rfl,V7,hL7,hT7⟩)))
    exact⟨⟨k+1,V7,hlt,by push_cast;rfl,by rw[HZZ.out];exact hL7,((XT.out.trans rE).trans Aj).trans hT7⟩,by simp[intOf];omega⟩
   ·obtain rfl:k=n:=by omega
    obtain⟨vl,ve,va⟩:=V
    obtain⟨la,lc,hvl⟩:=LM.li.form
    obtain⟨ea,ec,kL⟩:=LM.ed.form
    obtain⟨aa,ac,hva⟩:=LM.ac.form
    dsimp only at hvl kL hva
    subst hvl
    subst kL
    subst hva
    have hbx:=LM.box
    have hxr:=SE.box HX3.out (by omega) (Py _)
    have hnf:=fun v0 v1 v2 v3 v4=>LM.nf5 (rb:=w.heap.size) (by omega) v0 v1 v2 v3 v4
    have y0:wr.cell? ⟨r,0,none⟩=some (.int .i64 (Z k).1.states):=hbx.cell 0
    have y1:wr.cell? ⟨r,1,none⟩=some (.int .i64 0):=hbx.cell 1
    have y2:wr.cell? ⟨r,2,none⟩=some (.slice la (Z k).1.links.length lc):=hbx.cell 2
    have y3:wr.cell? ⟨r,3,none⟩=some (.slice ea (Z k).1.edges.length ec):=hbx.cell 3
    have y4:wr.cell? ⟨r,4,none⟩=some (.slice aa (Z k).1.accept.length ac):=hbx.cell 4
    have z0:=hxr.free 0
    have z1:=hxr.free 1
    have z2:=hxr.free 2
    have z3:=hxr.free 3
    have z4:=hxr.free 4
    have c0:wr.cell? ⟨w.heap.size,0,none⟩=some (.int .i64 0):=hxr.cell 0
    have c1:wr.cell? ⟨w.heap.size,1,none⟩=some (.int .i64 0):=hxr.cell 1
    have c2:wr.cell? ⟨w.heap.size,2,none⟩=some (.slice none 0 0):=hxr.cell 2
    have c3:wr.cell? ⟨w.heap.size,3,none⟩=some (.slice none 0 0):=hxr.cell 3
    have c4:wr.cell? ⟨w.heap.size,4,none⟩=some (.slice none 0 0):=hxr.cell 4
    have zl:=hxr.lt
    have IB:=ah hnf;have HBK:=ah X3;have HXR:=ah hxr
    clear hnf X3 hxr hbx LM SE
    go_wp2
    refine gI Tryz.results100 rfl rfl (Box.XZ HXR.out _ _ _ _ _) Tryz.underlying157 rfl (by kernel_rfl) rfl ?_
    have dw:Below w.heap.size w (((((wr.setCell ⟨w.heap.size,0,none⟩ (.int .i64 (Z k).1.states)).setCell ⟨w.heap.size,1,none⟩ (.int .i64 0)).setCell ⟨w.heap.size,2,none⟩ (.slice la (Z k).1.links.length lc)).setCell ⟨w.heap.size,3,none⟩ (.slice ea (Z k).1.edges.length ec)).setCell ⟨w.heap.size,4,none⟩ (.slice aa (Z k).1.accept.length ac)):=((((HBK.out.setCell (Nat.le_refl _) _).setCell (Nat.le_refl _) _).setCell (Nat.le_refl _) _).setCell (Nat.le_refl _) _).setCell (Nat.le_refl _) _
    exact HR.out ⟨_,_,_⟩ _ (IB.out _ _ _ _ _) dw
 ·have hR:∀ w',Below w.heap.size w w'→Ec (kids.map Vt.tr) w (.returned (.tuple #[.agg (bZ mg tq),.int .i64 7])) w':=fun w' h=>⟨h,by rw[if_neg hbig]⟩
  generalize Ec (kids.map Vt.tr) w=R at *
  have hd:decide ((65536:Int)<((oz (kids.map Vt.tr):Nat):Int))=true:=by simp;omega
  generalize oz (kids.map Vt.tr)=z at *
  have HC:=ah hC;have HS:=ah hS;have HB0:=ah hB0;have HX0:=ah hx0;have HR:=ah hR
  clear hC hS hB0 hx0 hR hr sA lA hall hsz c3 c4 c5 c2 hbig
  generalize kids.length=n at *
  have o8:decide ((64:Int)<(n:Int))=false:=by simp;omega
  clear c1
  go_enter Tryz.func100,Tryz.ntmps100
  go_wp2_with (first | (go_at_call 141;go_must (refine(HC.out _ HB0.out).mono ?_;rintro e w2 ⟨rfl,hb2⟩;have hB2:=HB0.out.trans (hb2.mono HB0.out.size))) | (go_at_call 143;go_must (refine(HS.out _ hB2).mono ?_;rintro e w3 ⟨rfl,hb3⟩;have hB3:=hB2.trans (hb3.mono hB2.size);have hx3:=(HX0.out.kept hb2).kept hb3;have z0:=hx3.free 0;have z1:=hx3.free 1;have z2:=hx3.free 2;have z3:=hx3.free 3;have z4:=hx3.free 4;have c0:w3.cell? ⟨w.heap.size,0,none⟩=some (.int .i64 0):=hx3.cell 0;have c1:w3.cell? ⟨w.heap.size,1,none⟩=some (.int .i64 0):=hx3.cell 1;have c2:w3.cell? ⟨w.heap.size,2,none⟩=some (.slice none 0 0):=hx3.cell 2;have c3:w3.cell? ⟨w.heap.size,3,none⟩=some (.slice none 0 0):=hx3.cell 3;have c4:w3.cell? ⟨w.heap.size,4,none⟩=some (.slice none 0 0):=hx3.cell 4;have zl:=hx3.lt)))
  refine gI Tryz.results100 rfl rfl (Box.XZ hx3 _ _ _ _ _) Tryz.underlying157 rfl (by kernel_rfl) rfl (HR.out _ (((((hB3.setCell (Nat.le_refl _) _).setCell (Nat.le_refl _) _).setCell (Nat.le_refl _) _).setCell (Nat.le_refl _) _).setCell (Nat.le_refl _) _))
end
end Go.Proofs.YtbemonecmmnlcaaGreatDoor
