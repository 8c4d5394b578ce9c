/- The texts of T24, in few letters (mini.py). -/
import Derived.Test.YtbemonecmmnlcaaGreatDoorU23
set_option linter.unusedVariables false
set_option linter.unusedSimpArgs false
set_option maxRecDepth 20000
set_option maxHeartbeats 3200000
namespace Go.Proofs.YtbemonecmmnlcaaGreatDoor
section
open Go.RowKit
theorem ML(x:Tr):bT 0 [x]=bF x:=by rw[bT,bT,FD (zD x)]
theorem TD(s:aA)(x:Tr)(lo hi:Int)(z:Nf×Nat):bG (.mk 9 s [x] lo hi) z =
  if bF x=0 then z else
   if hi<0 then sS false (bG x) (bV (bG x) lo.toNat z) else if hi=lo then bV (bG x) lo.toNat z else
    ((bV (fun y=>bG x (y.1.link y.2 (bV (bG x) lo.toNat z).1.states,y.2)) (hi - lo).toNat ((bV (bG x) lo.toNat z).1.state 0,(bV (bG x) lo.toNat z).2)).1.link
     (bV (fun y=>bG x (y.1.link y.2 (bV (bG x) lo.toNat z).1.states,y.2)) (hi - lo).toNat ((bV (bG x) lo.toNat z).1.state 0,(bV (bG x) lo.toNat z).2)).2 (bV (bG x) lo.toNat z).1.states,
     (bV (bG x) lo.toNat z).1.states):=by
 obtain⟨y,f⟩:=z
 rw[bG,if_neg (by decide),if_neg (by decide),if_neg (by decide),if_neg (by decide),if_pos rfl,ML]
 have e:nM [x]=bG x:=by funext z;rw[nM]
 rw[e]
theorem MN(f:Nf×Nat→Nf×Nat)(hf:∀ z:Nf×Nat,z.1.le (f z).1)(z:Nf×Nat)(k n:Nat)(h:k≤n):(bV f k z).1.le (bV f n z).1:=by
 induction n with
 | zero =>
      obtain rfl:k=0:=by omega
      exact .refl _
 | succ n ih =>
  by_cases hk:k=n+1
  ·subst hk;exact .refl _
  ·exact(ih (by omega)).trans (by rw[uw];exact hf _)
theorem kP.star{w:World}{r base:Nat}{k:Int}{s:aA}{a:Option Addr}{cap:Nat}{X:Vt}{lo hi:Int}(h:kP w r base (.mk k s a cap [X] lo hi)):kP w r base (.mk 6 0 a cap [X] 0 0):=by
 obtain⟨_,_,_,hs,hk⟩:=h.lies.open
 have hX:=h.kid 0 Nat.zero_lt_one
 refine⟨.mk 6 0 a cap [X] 0 0 ⟨by decide,by decide⟩ ⟨by decide,by decide⟩ ⟨by decide,by decide⟩ hs hk,?_,?_⟩
 ·have:=h.on
  cases this with | mk _ _ _ _ _ _ _ g1 g2=>exact .mk _ _ _ _ _ _ _ g1 g2
 ·have h2:allT X.tr=true:=hX.all
  rw[Vt.jI,List.map_singleton,allT,vX,vX,h2]
  rfl
theorem aiM(r base:Nat)(s:aA)(a:Option Addr)(cap:Nat)(X:Vt)(lo hi:Int)(ih:Eo r base X):Gx 191 r base (.mk 9 s a cap [X] lo hi):=by
 intro N V f w h hT hb hsm
 obtain⟨R,hR⟩:∃ R:Nf×Nat,bG (Vt.mk 9 s a cap [X] lo hi).tr (N,f)=R:=⟨_,rfl⟩
 rw[hR] at hsm ⊢
 rw[Vt.jI,List.map_singleton,TD] at hR
 have hone:=hT.all
 rw[Vt.jI,allT,Bool.and_eq_true] at hone
 have Dj:=hone.1
 unfold eP yH at Dj
 simp only[if_true,Bool.and_eq_true,Bool.or_eq_true,decide_eq_true_eq] at Dj
 have Dj:=Dj.1.2
 clear hone
 obtain⟨L,rfl⟩:∃ L:Nat,lo=L:=⟨lo.toNat,by omega⟩
 have hL:L≤1000:=by omega
 have hhi:hi=-1∨((L:Int)≤hi∧hi≤1000):=by omega
 rw[Int.toNat_natCast] at hR
 clear Dj
 have hlt0:∀ g,V.has g→g<w.heap.size:=fun g hg=>(h.hasLt g hg).2
 have hrl:=h.box.lt
 obtain⟨b,o,rfl,hcap,hc2,hX2⟩:=hT.YG
 obtain⟨k5,s5,a5,cp5,cZ,dh,hi5⟩:=X
 obtain⟨x0,x1,x2,x3,x4,x5,x6,x7⟩:=qX hc2
 have hbl:=World.block_lt_of_cell? w _ x0
 have hB0:=aj w (.cells (aC 9 s (some ⟨b,o,none⟩) 1 cap L hi).toArray 151)
 have hx0:=Box.new w (aC 9 s (some ⟨b,o,none⟩) 1 cap L hi).toArray 151
 have hB1:=aj (w.alloc (.cells (aC 9 s (some ⟨b,o,none⟩) 1 cap L hi).toArray 151)) (.cells (aC k5 s5 a5 cZ.length cp5 dh hi5).toArray 151)
 have hy1:=Box.new (w.alloc (.cells (aC 9 s (some ⟨b,o,none⟩) 1 cap L hi).toArray 151)) (aC k5 s5 a5 cZ.length cp5 dh hi5).toArray 151
 have hx1:=hx0.kept hB1
 have h1:=(h.kept hB0).kept hB1
 have hT1:=(hT.bW hB0).bW hB1
 have hK1:=(Turned.below (r:=r) (V:=V) hB0).trans (Turned.below hB1)
 have hW:=Lm _ _ (hX2.lies.kept (hB0.trans (hB1.mono hB0.size))) hX2.all
 rw[World.size_alloc] at hy1
 have hz1:((w.alloc (.cells (aC 9 s (some ⟨b,o,none⟩) 1 cap L hi).toArray 151)).alloc (.cells (aC k5 s5 a5 cZ.length cp5 dh hi5).toArray 151)).heap.size=w.heap.size+2:=by rw[World.size_alloc,World.size_alloc]
 obtain⟨wt,hwt⟩:∃ n:Nat,bF (Vt.mk k5 s5 a5 cp5 cZ dh hi5).tr=n:=⟨_,rfl⟩
 rw[hwt] at hW hR
 have HW:=ah hW;have HR:=ah hR;have qO:=ah hsm;have HI:=ah ih;have H1:=ah h1;have HT1:=ah hT1;have WJ:=ah hK1
 have hn1:¬ V.has w.heap.size:=fun e=>by have:=hlt0 _ e;omega
 have hn2:¬ V.has (w.heap.size+1):=fun e=>by have:=hlt0 _ e;omega
 have hbs:base≤w.heap.size:=hb
 clear hW hR hsm ih h1 hT1 hK1 hT h hc2 hX2 hB0 hx0 hlt0 hwt hb hB1
 show Calls Tryz.prog 191 #[.pointer (some ⟨r,0,none⟩),.agg (aC 9 s (some ⟨b,o,none⟩) 1 cap L hi).toArray,.int .i64 f] w _
 by_cases hw0:wt=0
 ·have hR:=HR.out
  rw[if_pos hw0] at hR
  subst hw0
  subst hR
  clear HR hhi hL
  go_enter Tryz.func191,Tryz.ntmps191
  go_wp2_with (go_at_call 185;go_must (refine HW.out.mono ?_;rintro e w2 ⟨rfl,hb2⟩))
  go_ret
  exact⟨rfl,_,H1.out.kept hb2,WJ.out.trans (Turned.below hb2)⟩
 have hwb:((wt:Int)==0)=false:=by rw[beq_eq_false_iff_ne];omega
 have hR:=HR.out
 rw[if_neg hw0] at hR
 clear HR
 obtain⟨Z,hZ⟩:∃ Z:Nat→Nf×Nat,∀ k,Z k=bV (bG (Vt.mk k5 s5 a5 cp5 cZ dh hi5).tr) k (N,f):=⟨_,fun _=>rfl⟩
 have wW:Z 0=(N,f):=by rw[hZ,bV]
 have hZs:∀ k,Z (k+1)=bG (Vt.mk k5 s5 a5 cp5 cZ dh hi5).tr (Z k):=fun k=>by rw[hZ,uw,←hZ]
 have Gy:∀ k,k≤L→(Z k).1.le (Z L).1:=fun k hk=>by rw[hZ,hZ];exact MN _ (fun z=>ou _ z) _ k L hk
 rw[←hZ] at hR
 clear hZ hw0
 have hRL:(Z L).1.small:=by
  have hs:=qO.out
  rw[←hR] at hs
  by_cases c1:hi<0
  ·rw[if_pos c1] at hs
   exact(Jw _ _ (fun z=>ou _ z) _).small hs
  ·rw[if_neg c1] at hs
   by_cases c2:hi=L
   ·rw[if_pos c2] at hs;exact hs
   ·rw[if_neg c2] at hs
    exact((Nf.iP _ 0).trans ((A8 _ (fun z=>(Nf.iR _ _ _).trans (ou _ (_,_))) _ (_,_)).trans (Nf.iR _ _ _))).small hs
 have HR:=ah hR;have Gq:=ah hRL;have HZ0:=ah wW;have PI:=ah hZs;have PK:=ah Gy
 clear hR hRL wW hZs Gy
 have hLb:(L:Int)≤1000:=by omega
 go_enter Tryz.func191,Tryz.ntmps191
 go_wp2_with (go_at_call 185;go_must (refine HW.out.mono ?_;rintro e w2 ⟨rfl,hb2⟩;have hx2:=hx1.kept hb2;have hy2:=hy1.kept hb2;have z6:w2.cell? ⟨w.heap.size,6,none⟩=some (.int .i64 (L:Nat)):=hx2.cell 6;have hlx:=hx2.lt))
 have h2:=H1.out.kept hb2
 have hT2:=HT1.out.bW hb2
 have hK2:=WJ.out.trans (Turned.below hb2)
 have hz2:w.heap.size+2≤w2.heap.size:=by rw[←hz1];exact hb2.size
 have H2:=ah h2;have HT2:=ah hT2;have HK2:=ah hK2
 clear h2 hT2 hK2 H1 HT1 WJ HW hb2 hz1 hx1 hy1 z6 x0 x1 x2 x3 x4 x5 x6 x7 hwb
 go_loopw [2,19] (fun v i wr=>∃ (j:Nat) (V':Y3),j≤L∧i=.int .i64 j∧v=.int .i64 (Z j).2∧gW wr r base (Z j).1 V'∧Turned r V V' w2 wr) (fun _ i _=>L - (intOf i).toNat)
 case atStart=>exact⟨0,V,Nat.zero_le _,rfl,by rw[HZ0.out],by rw[HZ0.out];exact H2.out,Turned.below (Below.refl _ _)⟩
 case round =>
  obtain⟨j,V1,hj,rfl,rfl,h3,hA3⟩:=hrel
  have hz3:=hA3.size
  have hx3:=hA3.box hx2 (by omega) hn1
  have hy3:=hA3.box hy2 (by omega) hn2
  by_cases hlt:j<L
  ·obtain⟨y0,y1,y2,y3,y4,y5,y6,y7⟩:=hy3.node
   have hla:=HI.out (Z j).1 V1 (Z j).2 wr h3 ((HT2.out.kept H2.out hA3 (by omega)).kid 0 Nat.zero_lt_one) (by omega) (by
    rw[show((Z j).1,(Z j).2)=Z j from rfl,←PI.out];exact(PK.out _ hlt).small Gq.out)
   rw[show((Z j).1,(Z j).2)=Z j from rfl,←PI.out] at hla
   have BM:=ah hla
   clear hla h3 hx3 hy3
   have hji:(j:Int)<(L:Int):=by omega
   have hj0:(0:Int)≤(j:Int):=by omega
   go_wp2_with (go_at_call 145;go_must (refine BM.out.mono ?_;rintro e w3 ⟨rfl,V3,h4,oI⟩))
   exact⟨⟨j+1,V3,hlt,by push_cast;rfl,rfl,h4,hA3.trans oI⟩,by simp[intOf];omega⟩
  ·obtain rfl:j=L:=by omega
   have z6:wr.cell? ⟨w.heap.size,7,none⟩=some (.int .i64 hi):=hx3.cell 7
   have z5:wr.cell? ⟨w.heap.size,6,none⟩=some (.int .i64 (j:Nat)):=hx3.cell 6
   have z4:wr.cell? ⟨w.heap.size,5,none⟩=some (.slice (some ⟨b,o,none⟩) 1 cap):=hx3.cell 5
   have hT3:=HT2.out.kept H2.out hA3 (by omega)
   rcases hhi with rfl | ⟨hge,hle⟩
   ·have hR:=HR.out
    rw[if_pos (by decide)] at hR
    have hlo:=WI r base false 0 (some ⟨b,o,none⟩) cap (Vt.mk k5 s5 a5 cp5 cZ dh hi5) 0 0 HI.out (Z j).1 V1 (Z j).2 wr h3 hT3.star (by omega) (by
     rw[Vt.jI,List.map_singleton,yP,show((Z j).1,(Z j).2)=Z j from rfl,hR];exact qO.out)
    rw[Vt.jI,List.map_singleton,yP,show((Z j).1,(Z j).2)=Z j from rfl,hR] at hlo
    have HLO:=ah hlo
    clear hR hlo h3 hT3 hx3 hy3 HR
    go_wp2_with (go_at_call 189;go_must (refine HLO.out.mono ?_;rintro e w3 ⟨rfl,V3,h4,oI⟩))
    go_ret
    exact⟨rfl,_,h4,(HK2.out.trans hA3).trans oI⟩
   have hn0:¬ hi<0:=by omega
   by_cases he:hi=(j:Int)
   ·have hR:=HR.out
    rw[if_neg hn0,if_pos he] at hR
    subst he
    subst hR
    clear HR hT3 hx3 hy3 qO
    go_wp2
    go_ret
    exact⟨rfl,_,h3,HK2.out.trans hA3⟩
   have hR:=HR.out
   rw[if_neg hn0,if_neg he] at hR
   have heb:(hi==(j:Int))=false:=by rw[beq_eq_false_iff_ne];exact he
   obtain⟨ns,hns⟩:∃ n,(Z j).1.states=n:=⟨_,rfl⟩
   rw[hns] at hR
   obtain⟨Y,hY⟩:∃ Y:Nat→Nf×Nat,∀ k,Y k=bV (fun y=>bG (Vt.mk k5 s5 a5 cp5 cZ dh hi5).tr (y.1.link y.2 ns,y.2)) k ((Z j).1.state 0,(Z j).2):=⟨_,fun _=>rfl⟩
   obtain⟨D,hD⟩:∃ D:Nat,(hi - (j:Int)).toNat=D:=⟨_,rfl⟩
   rw[hD,←hY] at hR
   have hDi:(D:Int)=hi - (j:Int):=by omega
   have hY0:Y 0=((Z j).1.state 0,(Z j).2):=by rw[hY,bV]
   have hYs:∀ k,Y (k+1)=bG (Vt.mk k5 s5 a5 cp5 cZ dh hi5).tr ((Y k).1.link (Y k).2 ns,(Y k).2):=fun k=>by rw[hY,uw,←hY]
   have hgm:∀ z:Nf×Nat,z.1.le ((fun y:Nf×Nat=>bG (Vt.mk k5 s5 a5 cp5 cZ dh hi5).tr (y.1.link y.2 ns,y.2)) z).1:=fun z=>(Nf.iR z.1 z.2 ns).trans (ou _ (_,_))
   have hYm:∀ k,k≤D→(Y k).1.le (Y D).1:=fun k hk=>by rw[hY,hY];exact MN _ hgm _ k D hk
   have hsD:(Y D).1.small:=by
    have:=qO.out
    rw[←hR] at this
    exact(Nf.iR _ _ _).small this
   have hs0:=rU r base 0 (Z j).1 V1 wr h3 (by omega) Gq.out.2.2
   rw[hns] at hs0
   have HR:=ah hR;have HD:=ah hDi;have HY0:=ah hY0;have HYS:=ah hYs;have HYM:=ah hYm;have HSD:=ah hsD;have Pj:=ah hs0
   clear hR hY hD hDi hY0 hYs hYm hsD hs0 he hns hgm
   go_wp2_with (go_at_call 144;go_must (refine Pj.out.mono ?_;rintro e w3 ⟨rfl,V3,h4,oI⟩;have EU:=hA3.trans oI;have hx4:=EU.box hx2 (Nat.ne_of_gt (by omega)) hn1;have z7:w3.cell? ⟨w.heap.size,7,none⟩=some (.int .i64 hi):=hx4.cell 7;have z8:w3.cell? ⟨w.heap.size,6,none⟩=some (.int .i64 (j:Nat)):=hx4.cell 6))
   have wV:=EU.size
   clear oI hA3 hx4 z7 z8 z6 z5 z4 hT3 hx3 hy3 h3 Pj hz3
   go_loopw [2,50] (fun v i wr=>∃ (k:Nat) (V':Y3),k≤D∧i=.int .i64 k∧v=.int .i64 (Y k).2∧gW wr r base (Y k).1 V'∧Turned r V V' w2 wr) (fun _ i _=>D - (intOf i).toNat)
   case atStart=>exact⟨0,V3,Nat.zero_le _,rfl,by rw[HY0.out],by rw[HY0.out];exact h4,EU⟩
   case round =>
    obtain⟨k,V5,hk,rfl,rfl,h5,hA5⟩:=hrel
    have hz5:=hA5.size
    clear h4 EU wV
    by_cases hlt2:k<D
    ·have hki:(k:Int)<hi - (j:Int):=by have:=HD.out;omega
     have hk0:(0:Int)≤(k:Int):=by omega
     have hsk:((Y k).1.link (Y k).2 ns).small:=by
      have:=(HYM.out _ hlt2).small HSD.out
      rw[HYS.out] at this
      exact(ou _ (_,_)).small this
     have ET:=ah (vK r base (Y k).2 ns (Y k).1 V5 wr h5 (by omega) ((HYM.out k hk).small HSD.out).1)
     have TF:=ah hsk
     clear hsk h5
     go_wp2_with (first | (go_at_call 146;go_must (refine ET.out.mono ?_;rintro e w4 ⟨rfl,V6,h6,IW⟩;have hA6:=hA5.trans IW;have WL:=hA6.size;have hy6:=hA6.box hy2 (Nat.ne_of_gt (by omega)) hn2;obtain⟨y0,y1,y2,y3,y4,y5,y6,y7⟩:=hy6.node)) | (go_at_call 145;go_must (refine(HI.out ((Y k).1.link (Y k).2 ns) V6 (Y k).2 w4 h6 ((HT2.out.kept H2.out hA6 (by omega)).kid 0 Nat.zero_lt_one) (by omega) (by rw[←HYS.out];exact(HYM.out _ hlt2).small HSD.out)).mono ?_;rintro e w5 ⟨rfl,V7,h7,IL⟩)))
     have e:=HYS.out k
     exact⟨⟨k+1,V7,hlt2,by push_cast;rfl,by rw[e],by rw[e];exact h7,hA6.trans IL⟩,by simp[intOf];omega⟩
    ·obtain rfl:k=D:=by omega
     have hki:¬ ((k:Int)<hi - (j:Int)):=by have:=HD.out;omega
     have hR:=HR.out
     have ET:=ah (vK r base (Y k).2 ns (Y k).1 V5 wr h5 (by omega) HSD.out.1)
     subst hR
     clear HR h5
     go_wp2_with (go_at_call 146;go_must (refine ET.out.mono ?_;rintro e w4 ⟨rfl,V6,h6,IW⟩))
     go_ret
     exact⟨rfl,_,h6,(HK2.out.trans hA5).trans IW⟩
end
section
open Go.RowKit
theorem MO(s:aA)(l:List Tr)(lo hi:Int)(z:Nf×Nat):bG (.mk 2 s l lo hi) z=z:=by
 obtain⟨y,f⟩:=z
 rw[bG];rfl
theorem TG(s:aA)(l:List Tr)(lo hi:Int)(y:Nf)(f:Nat):bG (.mk 3 s l lo hi) (y,f)=((y.state 0).edge f s y.states,y.states):=by
 rw[bG];rfl
theorem abn(s:aA)(l:List Tr)(lo hi:Int)(y:Nf)(f:Nat):bG (.mk 1 s l lo hi) (y,f)=(y.state 0,y.states):=by
 rw[bG];rfl
theorem aea(r base:Nat)(k:Int)(s:aA)(a:Option Addr)(cap:Nat)(kids:List Vt)(lo hi:Int)(hk:k=1∨k=2∨k=3):Gx 186 r base (.mk k s a cap kids lo hi):=by
 intro N V f w h hT hb hsm
 rw[Vt.jI] at hsm ⊢
 have hB0:=aj w (.cells (aC k s a kids.length cap lo hi).toArray 151)
 have h0:=h.kept hB0
 have hx0:=Box.new w (aC k s a kids.length cap lo hi).toArray 151
 show Calls Tryz.prog 186 #[.pointer (some ⟨r,0,none⟩),.agg (aC k s a kids.length cap lo hi).toArray,.int .i64 f] w _
 rcases hk with rfl | rfl | rfl
 ·rw[abn] at hsm ⊢
  have hs:=rU r base 0 N V _ h0 (by rw[World.size_alloc];omega) ((Nf.iP N 0).small hsm).2.2
  have HS:=ah hs;have HB:=ah hB0
  clear hs hsm h0 hx0 hT h hB0
  go_enter Tryz.func186,Tryz.ntmps186
  go_wp2_with (go_at_call 144;go_must (refine HS.out.mono ?_;rintro e w2 ⟨rfl,V2,h2,ht2⟩))
  go_ret
  exact⟨rfl,_,h2,(Turned.below HB.out).trans ht2⟩
 ·rw[MO] at hsm ⊢
  have H0:=ah h0;have HB:=ah hB0
  clear hsm h0 hx0 hT h hB0
  go_enter Tryz.func186,Tryz.ntmps186
  go_wp2
  go_ret
  exact⟨rfl,_,H0.out,Turned.below HB.out⟩
 ·rw[TG] at hsm ⊢
  exact agS r base f s a kids.length cap lo hi N V w h hb ⟨((Nf.iP N 0).small ((Nf.NR _ _ _ _).small hsm)).2.2,((Nf.iP N 0).small ((Nf.NR _ _ _ _).small hsm)).2.1⟩
theorem agT{w:World}{r base:Nat}{k:Int}{s:aA}{a:Option Addr}{cap:Nat}{kids:List Vt}{lo hi:Int}(h:kP w r base (.mk k s a cap kids lo hi)):(k=1∨k=2∨k=3)∨k=4∨k=5∨(∃ p:Bool,(if p then 7 else 6:Int)=k)∨k=8∨k=9:=by
 have:=h.all
 rw[Vt.jI,allT,Bool.and_eq_true] at this
 have h1:=this.1
 unfold eP at h1
 simp only[Bool.and_eq_true] at h1
 have h2:=h1.2
 unfold iM at h2
 by_cases h0:k=1∨k=2∨k=3∨k=4∨k=5∨k=6∨k=7∨k=8∨k=9
 ·rcases h0 with h | h | h | h | h | h | h | h | h
  ·exact .inl (.inl h)
  ·exact .inl (.inr (.inl h))
  ·exact .inl (.inr (.inr h))
  ·exact .inr (.inl h)
  ·exact .inr (.inr (.inl h))
  ·exact .inr (.inr (.inr (.inl ⟨false,h.symm⟩)))
  ·exact .inr (.inr (.inr (.inl ⟨true,h.symm⟩)))
  ·exact .inr (.inr (.inr (.inr (.inl h))))
  ·exact .inr (.inr (.inr (.inr (.inr h))))
 ·exfalso
  simp only[not_or] at h0
  obtain⟨g1,g2,g3,g4,g5,g6,g7,g8,g9⟩:=h0
  by_cases hr:0≤k∧k<10
  ·obtain rfl:k=0:=by omega
   simp[Z5] at h2
  ·rw[if_neg hr] at h2
   simp at h2
theorem wI(r base:Nat)(k:Int)(fn:Nat)(s:aA)(a:Option Addr)(cap:Nat)(kids:List Vt)(lo hi:Int)(hk:(k=1∧fn=186)∨(k=2∧fn=186)∨(k=3∧fn=186)∨(k=4∧fn=187)∨(k=5∧fn=188)∨(k=6∧fn=189)∨(k=7∧fn=189)∨(k=8∧fn=190)∨(k=9∧fn=191))
  (H:Gx fn r base (.mk k s a cap kids lo hi)):Eo r base (.mk k s a cap kids lo hi):=by
 intro N V f w h hT hb hsm
 have hB0:=aj w (.cells (aC k s a kids.length cap lo hi).toArray 151)
 have hm:=H N V f _ (h.kept hB0) (hT.bW hB0) (by rw[World.size_alloc];omega) hsm
 have HM:=ah hm;have HB:=ah hB0
 show Calls Tryz.prog 145 #[.pointer (some ⟨r,0,none⟩),.agg (aC k s a kids.length cap lo hi).toArray,.int .i64 f] w _
 generalize bG (Vt.mk k s a cap kids lo hi).tr (N,f)=R at *
 clear hm H hsm hT h hB0
 rcases hk with⟨rfl,rfl⟩ | ⟨rfl,rfl⟩ | ⟨rfl,rfl⟩ | ⟨rfl,rfl⟩ | ⟨rfl,rfl⟩ | ⟨rfl,rfl⟩ | ⟨rfl,rfl⟩ | ⟨rfl,rfl⟩ | ⟨rfl,rfl⟩
 all_goals
  go_enter Tryz.func145,Tryz.ntmps145
  go_wp2_with fail
  refine HM.out.mono ?_
  rintro e w2 ⟨rfl,V2,h2,ht2⟩
  go_wp2
  go_ret
  exact⟨rfl,_,h2,(Turned.below HB.out).trans ht2⟩
theorem aiR(r base:Nat):∀ (X:Vt),sizeT X.tr≤1099511627776→Eo r base X:=by
 refine Vt.ind fun k s a cap kids lo hi ih=>?_
 intro hsz N V f w h hT hb hsm
 have hks:∀ i (h:i<kids.length),Eo r base kids[i]:=fun i h=>ih i h (by
  rw[Vt.jI,sizeT] at hsz
  have:=XD (kids.map Vt.tr) i (by simpa using h)
  rw[List.getElem_map] at this
  omega)
 have hkl:kids.length≤1099511627776:=by
  rw[Vt.jI,sizeT] at hsz
  have:=KT (kids.map Vt.tr)
  rw[List.length_map] at this
  omega
 refine(?_:Eo r base (.mk k s a cap kids lo hi)) N V f w h hT hb hsm
 rcases agT hT with h1 | rfl | rfl | ⟨p,hp⟩ | rfl | rfl
 ·have:=aea r base k s a cap kids lo hi h1
  rcases h1 with rfl | rfl | rfl
  ·exact wI r base 1 _ s a cap kids lo hi (.inl ⟨rfl,rfl⟩) this
  ·exact wI r base 2 _ s a cap kids lo hi (.inr (.inl ⟨rfl,rfl⟩)) this
  ·exact wI r base 3 _ s a cap kids lo hi (.inr (.inr (.inl ⟨rfl,rfl⟩))) this
 ·exact wI r base 4 _ s a cap kids lo hi (.inr (.inr (.inr (.inl ⟨rfl,rfl⟩)))) (aiE r base s a cap kids lo hi hks)
 ·exact wI r base 5 _ s a cap kids lo hi (.inr (.inr (.inr (.inr (.inl ⟨rfl,rfl⟩))))) (aiG r base s a cap kids lo hi hkl hks)
 ·obtain⟨X,rfl⟩:=hT.one (by cases p <;> simp at hp <;> omega)
  have:=WI r base p s a cap X lo hi (hks 0 Nat.zero_lt_one)
  cases p
  ·subst hp
   exact wI r base 6 _ s a cap [X] lo hi (.inr (.inr (.inr (.inr (.inr (.inl ⟨rfl,rfl⟩)))))) this
  ·subst hp
   exact wI r base 7 _ s a cap [X] lo hi (.inr (.inr (.inr (.inr (.inr (.inr (.inl ⟨rfl,rfl⟩))))))) this
 ·obtain⟨X,rfl⟩:=hT.one (by simp)
  exact wI r base 8 _ s a cap [X] lo hi (.inr (.inr (.inr (.inr (.inr (.inr (.inr (.inl ⟨rfl,rfl⟩)))))))) (aiF r base s a cap X lo hi (hks 0 Nat.zero_lt_one))
 ·obtain⟨X,rfl⟩:=hT.one (by simp)
  exact wI r base 9 _ s a cap [X] lo hi (.inr (.inr (.inr (.inr (.inr (.inr (.inr (.inr ⟨rfl,rfl⟩)))))))) (aiM r base s a cap X lo hi (hks 0 Nat.zero_lt_one))
end
section
open Go.RowKit
def Nf.by(c w:Nat)(A B:Nf):Prop:=B.accept.length≤A.accept.length+w∧B.edges.length≤A.edges.length+w∧B.links.length+min w 1≤A.links.length+c*w
def Nf.MP(c w:Nat)(A B:Nf):Prop:=B.accept.length≤A.accept.length+w∧B.edges.length≤A.edges.length+w∧B.links.length≤A.links.length+c*w
theorem Nf.by.refl(c:Nat)(A:Nf):A.by c 0 A:=⟨Nat.le_refl _,Nat.le_refl _,by simp⟩
theorem Nf.by.weak{c w:Nat}{A B:Nf}(h:A.by c w B):A.MP c w B:=⟨h.1,h.2.1,by have:=h.2.2;omega⟩
theorem Nf.by.trans{c w v:Nat}{A B D:Nf}(h:A.by c w B)(k:B.by c v D):A.by c (w+v) D:=by
 obtain⟨h1,h2,h3⟩:=h
 obtain⟨k1,k2,k3⟩:=k
 refine⟨by omega,by omega,?_⟩
 rw[Nat.mul_add]
 generalize c*w=x at *
 generalize c*v=y at *
 omega
theorem Nf.MP.trans{c w v:Nat}{A B D:Nf}(h:A.MP c w B)(k:B.MP c v D):A.MP c (w+v) D:=by
 obtain⟨h1,h2,h3⟩:=h
 obtain⟨k1,k2,k3⟩:=k
 refine⟨by omega,by omega,?_⟩
 rw[Nat.mul_add];omega
theorem Nf.by.mono{c w v:Nat}{A B:Nf}(h:A.by c w B)(hv:w≤v)(hc:0<c):A.by c v B:=by
 obtain⟨h1,h2,h3⟩:=h
 refine⟨by omega,by omega,?_⟩
 have h4:=Nat.mul_le_mul_left c hv
 by_cases hw:w=0
 ·subst hw
  rw[Nat.mul_zero] at h3
  by_cases hv0:v=0
  ·subst hv0;simpa using h3
  ·have:1≤c*v:=Nat.mul_pos hc (by omega)
   omega
 ·omega
theorem yQ(c n:Nat)(f:Nf×Nat→Nf×Nat)(hf:∀ z:Nf×Nat,z.1.MP c n (f z).1):∀ (k:Nat) (z:Nf×Nat),z.1.MP c (k*n) (bV f k z).1
 | 0,z=>by rw[bV,Nat.zero_mul];exact⟨Nat.le_refl _,Nat.le_refl _,by simp⟩
 | k+1,z=>by
  rw[bV,Nat.succ_mul,Nat.add_comm]
  exact(hf z).trans (yQ c n f hf k _)
theorem abo(l:List Nat)(b:Nat):∀ (N:Nf),(l.foldl (fun z e=>z.link e b) N).links.length=N.links.length+l.length∧(l.foldl (fun z e=>z.link e b) N).edges=N.edges∧(l.foldl (fun z e=>z.link e b) N).accept=N.accept:=by
 induction l with
 | nil=>intro N;exact⟨rfl,rfl,rfl⟩
 | cons e l ih =>
  intro N
  rw[List.foldl_cons]
  obtain⟨h1,h2,h3⟩:=ih (N.link e b)
  refine⟨?_,h2,h3⟩
  rw[h1,Nf.link,List.length_append,List.length_cons]
  simp only[List.length_nil,List.length_cons]
  omega
theorem tJ{a b:Nat}(h:addN a b<aF):addN a b=a+b∧a+b<aF:=by
 unfold addN at h ⊢
 split
 ·rename_i h1;rw[if_pos h1] at h;omega
 ·rename_i h1;rw[if_neg h1] at h;exact⟨rfl,h⟩
theorem Ig{a b:Nat}(h:mulN a b<aF):mulN a b=a*b∧(0<a→b<aF):=by
 unfold mulN at h ⊢
 by_cases h0:a=0∨b=0
 ·rw[if_pos h0]
  rcases h0 with rfl | rfl
  ·exact⟨by rw[Nat.zero_mul],fun h=>by omega⟩
  ·exact⟨by rw[Nat.mul_zero],fun _=>by unfold aF;omega⟩
 ·rw[if_neg h0] at h ⊢
  by_cases h1:aF / b<a
  ·rw[if_pos h1] at h;omega
  ·rw[if_neg h1] at h ⊢
   refine⟨rfl,fun ha=>?_⟩
   have:1*b≤a*b:=Nat.mul_le_mul_right _ ha
   omega
theorem CP:∀ (l:List Tr) (a:Nat),bT a l<aF→bT a l=a+(l.map bF).sum∧(∀ x∈l,bF x<aF)
 | [],a,h=>by rw[bT];exact⟨rfl,fun x h=>by simp at h⟩
 | x::l,a,h=>by
  rw[bT] at h ⊢
  obtain⟨h1,h2⟩:=CP l _ h
  have h3:addN a (bF x)<aF:=by omega
  obtain⟨h4,h5⟩:=tJ h3
  refine⟨by rw[h1,h4,List.map_cons,List.sum_cons];omega,fun y hy=>?_⟩
  rcases List.mem_cons.1 hy with rfl | hy
  ·omega
  ·exact h2 y hy
theorem WM(c:Nat):∀ (l:List Tr) (z:Nf×Nat),(∀ x∈l,∀ z:Nf×Nat,z.1.by c (bF x) (bG x z).1)→z.1.by c (l.map bF).sum (jS l z).1
 | [],z,_=>by rw[jS];exact .refl _ _
 | x::l,z,h=>by
  rw[jS,List.map_cons,List.sum_cons]
  exact(h x (List.mem_cons_self ..) z).trans (WM c l _ fun y hy=>h y (List.mem_cons_of_mem _ hy))
theorem WO(c:Nat):∀ (l:List Tr) (y:Nf) (f:Nat) (ends:List Nat),(∀ x∈l,∀ z:Nf×Nat,z.1.by c (bF x) (bG x z).1)→y.by c (l.map bF).sum (fZ l y f ends).1
 | [],y,_,_,_=>by rw[fZ];exact .refl _ _
 | x::l,y,f,ends,h=>by
  rw[fZ,List.map_cons,List.sum_cons]
  exact(h x (List.mem_cons_self ..) (y,f)).trans (WO c l _ f _ fun y hy=>h y (List.mem_cons_of_mem _ hy))
theorem J5{c n:Nat}(hc:3≤c)(p:Bool)(f:Nf×Nat→Nf×Nat)(hf:∀ z:Nf×Nat,z.1.by c n (f z).1)(z:Nf×Nat):z.1.by c (n+1) (sS p f z).1:=by
 obtain⟨h1,h2,h3⟩:=hf ((z.1.state 0).link z.2 z.1.states,z.1.states)
 unfold sS
 dsimp only
 generalize f ((z.1.state 0).link z.2 z.1.states,z.1.states)=A at *
 simp only[Nf.state,Nf.link,List.length_append,List.length_cons,List.length_nil] at h1 h2 h3 ⊢
 refine⟨?_,?_,?_⟩
 ·show A.1.accept.length≤z.1.accept.length+(n+1);omega
 ·show A.1.edges.length≤z.1.edges.length+(n+1);omega
 ·rw[Nat.mul_succ]
  show(A.1.links++[(A.2,z.1.states)]).length+min (n+1) 1≤z.1.links.length+(c*n+c)
  simp only[List.length_append,List.length_cons,List.length_nil]
  generalize c*n=x at *
  omega
theorem aeb{c:Nat}(hc:1≤c)(A:Nf)(k:Nat):A.by c 1 (A.state k):=⟨by simp[Nf.state],by simp[Nf.state],by simp[Nf.state];omega⟩
theorem agU{c:Nat}(hc:1≤c)(A:Nf)(k a b:Nat)(s:aA):A.by c 1 ((A.state k).edge a s b):=⟨by simp[Nf.state,Nf.edge],by simp[Nf.state,Nf.edge],by simp[Nf.state,Nf.edge];omega⟩
theorem Oe{k:Int}{s:aA}{kids:List Tr}{lo hi:Int}(h:eP k s kids.length lo hi=true)(hk:k=6∨k=7∨k=8∨k=9):∃ x,kids=[x]:=by
 unfold eP at h
 have hl:kids.length=1:=by
  rcases hk with rfl | rfl | rfl | rfl <;> · simp[iM] at h;exact h.2
 match kids,hl with
 | [x],_=>exact⟨x,rfl⟩
theorem abp(M:Nat)(k:Int)(s:aA)(kids:List Tr)(lo hi:Int)(h1:eP k s kids.length lo hi=true)(hl:kids.length≤M)(hw:bF (.mk k s kids lo hi)<aF)
  (ih:(∀ x∈kids,bF x<aF)→∀ x∈kids,∀ z:Nf×Nat,z.1.by (M+3) (bF x) (bG x z).1) (z:Nf×Nat):z.1.by (M+3) (bF (.mk k s kids lo hi)) (bG (.mk k s kids lo hi) z).1:=by
 rw[Ll] at hw ⊢
 by_cases h2:k=2
 ·subst h2
  rw[if_pos (.inl rfl)] at hw ⊢
  rw[MO]
  exact(Nf.by.refl _ _).mono (Nat.zero_le _) (by omega)
 by_cases h4:k=4
 ·subst h4
  rw[if_pos (.inr rfl)] at hw ⊢
  obtain⟨e,hx⟩:=CP kids 0 hw
  rw[Tt,e,Nat.zero_add]
  exact WM _ kids z (ih hx)
 rw[if_neg (by omega)] at hw ⊢
 by_cases h9:k=9
 ·subst h9
  obtain⟨x,rfl⟩:=Oe h1 (by simp)
  rw[if_pos rfl,ML] at hw ⊢
  rw[TD]
  have Dj:=h1
  unfold eP yH at Dj
  simp only[if_true,Bool.and_eq_true,Bool.or_eq_true,decide_eq_true_eq] at Dj
  have Dj:=Dj.1.2
  by_cases h0:bF x=0
  ·rw[if_pos h0,h0]
   exact(Nf.by.refl _ _).mono (Nat.zero_le _) (by omega)
  rw[if_neg h0]
  unfold oH at hw ⊢
  rw[if_neg h0] at hw ⊢
  have IH:=fun(hx:bF x<aF)=>ih (by simpa using hx) x (by simp)
  clear ih h1
  generalize hn:bF x=n at *
  by_cases hh:hi<0
  ·rw[if_pos hh] at hw ⊢
   rw[if_pos hh]
   obtain⟨a1,a2⟩:=tJ hw
   obtain⟨b1,b2⟩:=tJ (a:=mulN lo.toNat n) (b:=n) (by omega)
   have IH:=IH (by omega)
   obtain⟨c1,_⟩:=Ig (a:=lo.toNat) (b:=n) (by omega)
   rw[a1,b1,c1]
   obtain⟨p1,p2,p3⟩:=yQ (M+3) n _ (fun z=>(IH z).weak) lo.toNat z
   generalize bV (bG x) lo.toNat z=Z at *
   obtain⟨q1,q2,q3⟩:=J5 (by omega) false _ IH Z
   refine⟨by omega,by omega,?_⟩
   rw[Nat.mul_succ] at q3 ⊢
   rw[Nat.mul_add]
   generalize (M+3)*n=x1 at *
   generalize (M+3)*(lo.toNat*n)=x2 at *
   omega
  ·rw[if_neg hh] at hw ⊢
   rw[if_neg hh]
   by_cases he:hi=lo
   ·rw[if_neg (by omega)] at hw ⊢
    rw[if_pos he]
    obtain⟨c1,c2⟩:=Ig hw
    rw[c1]
    by_cases hl:lo.toNat=0
    ·rw[hl,bV,Nat.zero_mul];exact .refl _ _
    ·have IH:=IH (c2 (by omega))
     obtain⟨l,hl'⟩:∃ l,lo.toNat=l+1:=⟨lo.toNat - 1,by omega⟩
     rw[hl',uw,Nat.succ_mul]
     obtain⟨p1,p2,p3⟩:=yQ (M+3) n _ (fun z=>(IH z).weak) l z
     generalize bV (bG x) l z=Z at *
     obtain⟨q1,q2,q3⟩:=IH Z
     refine⟨by omega,by omega,?_⟩
     rw[Nat.mul_add]
     generalize (M+3)*n=x1 at *
     generalize (M+3)*(l*n)=x2 at *
     omega
   ·rw[if_pos (by omega)] at hw ⊢
    rw[if_neg he]
    obtain⟨a1,a2⟩:=tJ hw
    obtain⟨b1,b2⟩:=tJ (a:=mulN lo.toNat n) (b:=mulN (hi - lo).toNat n) (by omega)
    obtain⟨c1,_⟩:=Ig (a:=lo.toNat) (b:=n) (by omega)
    obtain⟨d1,d2⟩:=Ig (a:=(hi - lo).toNat) (b:=n) (by omega)
    have IH:=IH (d2 (by omega))
    rw[a1,b1,c1,d1]
    obtain⟨p1,p2,p3⟩:=yQ (M+3) n _ (fun z=>(IH z).weak) lo.toNat z
    generalize bV (bG x) lo.toNat z=Z at *
    obtain⟨q1,q2,q3⟩:=yQ (M+3) n (fun y=>bG x (y.1.link y.2 Z.1.states,y.2)) (fun y=>by
     obtain⟨r1,r2,r3⟩:=IH (y.1.link y.2 Z.1.states,y.2)
     simp only[Nf.link,List.length_append,List.length_cons,List.length_nil] at r1 r2 r3
     refine⟨r1,r2,?_⟩
     show(bG x (y.1.link y.2 Z.1.states,y.2)).1.links.length≤_
     simp only[Nf.link]
     have:min n 1=1:=by omega
     omega) (hi - lo).toNat (Z.1.state 0,Z.2)
    generalize bV (fun y=>bG x (y.1.link y.2 Z.1.states,y.2)) (hi - lo).toNat (Z.1.state 0,Z.2)=U at *
    simp only[Nf.state,List.length_append,List.length_cons,List.length_nil] at q1 q2 q3
    refine⟨?_,?_,?_⟩
    ·simp only[Nf.link];omega
    ·simp only[Nf.link];omega
    ·simp only[Nf.link,List.length_append,List.length_cons,List.length_nil]
     rw[Nat.mul_succ,Nat.mul_add]
     generalize (M+3)*((hi - lo).toNat*n)=x1 at *
     generalize (M+3)*(lo.toNat*n)=x2 at *
     omega
 rw[if_neg h9] at hw ⊢
 obtain⟨e,hlt⟩:=tJ hw
 obtain⟨e1,hx⟩:=CP kids 0 (by omega)
 rw[e,e1,Nat.zero_add]
 have IH:=ih hx
 obtain⟨y,f⟩:=z
 by_cases h5:k=5
 ·subst h5
  rw[TA]
  obtain⟨g1,g2,g3⟩:=WO (M+3) kids y f [] IH
  have gl:=Jz kids y f []
  dsimp only
  generalize fZ kids y f []=A at *
  obtain⟨l1,l2,l3⟩:=abo A.2 A.1.states (A.1.state 0)
  refine⟨?_,?_,?_⟩
  ·rw[l3];simp only[Nf.state,List.length_append,List.length_cons,List.length_nil];omega
  ·rw[l2];simp only[Nf.state];omega
  ·rw[l1,Nat.mul_succ];simp only[Nf.state]
   simp only[List.length_nil] at gl
   generalize (M+3)*(kids.map bF).sum=q at *
   omega
 by_cases h67:k=6∨k=7
 ·obtain⟨x,rfl⟩:=Oe h1 (by omega)
  have hb:=fun z=>IH x (by simp) z
  rw[show(List.map bF [x]).sum=bF x from by simp]
  rcases h67 with rfl | rfl
  ·rw[show(Tr.mk 6 s [x] lo hi)=.mk (if false then 7 else 6) s [x] lo hi from rfl,yP]
   exact J5 (by omega) _ _ hb _
  ·rw[show(Tr.mk 7 s [x] lo hi)=.mk (if true then 7 else 6) s [x] lo hi from rfl,yP]
   exact J5 (by omega) _ _ hb _
 by_cases h8:k=8
 ·subst h8
  obtain⟨x,rfl⟩:=Oe h1 (by omega)
  obtain⟨g1,g2,g3⟩:=IH x (by simp) (y,f)
  rw[show(List.map bF [x]).sum=bF x from by simp,Tz]
  dsimp only at g1 g2 g3 ⊢
  generalize bG x (y,f)=A at *
  refine⟨?_,?_,?_⟩
  ·simp only[Nf.state,Nf.link,List.length_append,List.length_cons,List.length_nil];omega
  ·simp only[Nf.state,Nf.link];omega
  ·rw[Nat.mul_succ];simp only[Nf.state,Nf.link,List.length_append,List.length_cons,List.length_nil]
   generalize (M+3)*bF x=q at *
   omega
 by_cases h3:k=3
 ·subst h3
  rw[TG]
  exact(agU (by omega) y 0 f y.states s).mono (by omega) (by omega)
 ·have:bG (.mk k s kids lo hi) (y,f)=(y.state 0,y.states):=by
   rw[bG,if_neg h4,if_neg h5,if_neg h67,if_neg h8,if_neg h9,if_neg h2,if_neg h3]
  rw[this]
  exact(aeb (by omega) y 0).mono (by omega) (by omega)
mutual
theorem WQ(M:Nat):∀ (t:Tr),allT t=true→sizeT t≤M→bF t<aF→∀ z:Nf×Nat,z.1.by (M+3) (bF t) (bG t z).1
 | .mk k s kids lo hi,ha,hs,hw,z=>by
  rw[allT,Bool.and_eq_true] at ha
  rw[sizeT] at hs
  have hl:=KT kids
  exact abp M k s kids lo hi ha.1 (by omega) hw (fun hx=>TI M kids ha.2 (by omega) hx) z
theorem TI(M:Nat):∀ (l:List Tr),vX l=true→pU l≤M→(∀ x∈l,bF x<aF)→∀ x∈l,∀ z:Nf×Nat,z.1.by (M+3) (bF x) (bG x z).1
 | [],_,_,_,x,hx,_=>by simp at hx
 | y::l,ha,hs,hw,x,hx,z=>by
  rw[vX,Bool.and_eq_true] at ha
  rw[pU] at hs
  have h1:=WQ M y ha.1 (by omega) (hw y (by simp))
  have h2:=TI M l ha.2 (by omega) (fun x hx=>hw x (by simp[hx]))
  rcases List.mem_cons.1 hx with hx | hx
  ·rw[hx];exact h1 z
  ·exact h2 x hx z
end
theorem WR:∀ (l:List Tr) (a:Nat),rF a l<aF→rF a l=a+(l.map fun x=>bF x+1).sum∧(∀ x∈l,bF x<aF)
 | [],a,_=>⟨rfl,fun x h=>by simp at h⟩
 | x::l,a,h=>by
  have e:rF a (x::l)=rF (addN a (EK x)) l:=rfl
  rw[e] at h ⊢
  obtain⟨h1,h2⟩:=WR l _ h
  have h3:addN a (EK x)<aF:=by omega
  obtain⟨h4,h5⟩:=tJ h3
  have h6:EK x<aF:=by omega
  obtain⟨h7,h8⟩:=tJ (show addN (bF x) 1<aF from h6)
  have h9:EK x=bF x+1:=h7
  refine⟨by rw[h1,h4,h9,List.map_cons,List.sum_cons];omega,fun y hy=>?_⟩
  rcases List.mem_cons.1 hy with rfl | hy
  ·omega
  ·exact h2 y hy
theorem WS(M:Nat):∀ (l:List Tr) (z:Nf×Nat),(∀ x∈l,allT x=true∧sizeT x≤M∧bF x<aF)→z.1.MP (M+4) (l.map fun x=>bF x+1).sum (l.foldl nX z).1
 | [],z,_=>⟨Nat.le_refl _,Nat.le_refl _,by simp⟩
 | x::l,z,h=>by
  obtain⟨h1,h2,h3⟩:=h x (by simp)
  obtain⟨g1,g2,g3⟩:=WQ M x h1 h2 h3 (z.1,0)
  have hs:z.1.MP (M+4) (bF x+1) (nX z x).1:=by
   unfold nX
   dsimp only at g1 g2 g3
   refine⟨?_,?_,?_⟩
   ·simp only[Nf.state,Nf.link,List.length_append,List.length_cons,List.length_nil];omega
   ·simp only[Nf.state,Nf.link];omega
   ·simp only[Nf.state,Nf.link,List.length_append,List.length_cons,List.length_nil]
    have e1:(M+4)*(bF x+1)=(M+3)*bF x+bF x+(M+4):=by rw[Nat.mul_succ,show M+4=M+3+1 from rfl,Nat.succ_mul]
    rw[e1]
    generalize (M+3)*bF x=q at *
    omega
  rw[List.foldl_cons,List.map_cons,List.sum_cons]
  exact hs.trans (WS M l _ fun y hy=>h y (by simp[hy]))
theorem MQ(l:List Tr)(h:∀ x∈l,iU x=true)(hs:qL l≤65536):(qY l).1.small∧(qY l).1.accept.length≤65536∧(qY l).1.edges.length≤65536∧(qY l).1.links.length≤268697600:=by
 unfold qL at hs
 obtain⟨e1,e2⟩:=tJ (a:=1) (b:=rF 0 l) (by unfold aF;omega)
 obtain⟨e3,e4⟩:=WR l 0 (by omega)
 obtain⟨g1,g2,g3⟩:=WS 4096 l (zZ,0) fun x hx=>by
  have:=h x hx
  unfold iU at this
  rw[Bool.and_eq_true,decide_eq_true_eq] at this
  exact⟨this.2,this.1,e4 x hx⟩
 have h0:zZ.accept.length=1∧zZ.edges.length=0∧zZ.links.length=0:=⟨rfl,rfl,rfl⟩
 dsimp only at g1 g2 g3
 unfold Nf.small qY
 omega
end
section
open Go.RowKit
theorem aiS(V:Vt)(w:World)(hL:Lies w V)(hr:iU V.tr=true):Calls Tryz.prog 142 #[.agg V.cells.toArray] w (bM w (.bool false)):=by
 have hc:=fun u hu=>D7 V u hu
 rw[hr] at hc
 obtain⟨k,s,a,cap,kids,lo,hi⟩:=V
 have hB0:=aj w (.cells (aC k s a kids.length cap lo hi).toArray 151)
 have h0:=hc _ (hL.kept hB0)
 have H0:=ah h0
 clear h0 hc hL hr
 show Calls Tryz.prog 142 #[.agg (aC k s a kids.length cap lo hi).toArray] w _
 go_enter Tryz.func142,Tryz.ntmps142
 go_wp2_with (go_at_call 140;go_must (refine H0.out.mono ?_;rintro e w2 ⟨rfl,hb2⟩))
 go_ret
 exact⟨rfl,hB0.trans (hb2.mono hB0.size)⟩
theorem aec(kids:List Vt)(a:Option Addr)(cap:Nat)(w:World)(sA:ak w (.slice a kids.length cap) 8 Vt.cells kids)(lA:∀ i (h:i<kids.length),Lies w kids[i])(hr:∀ i (h:i<kids.length),iU kids[i].tr=true) :
  Calls Tryz.prog 181 #[.slice a kids.length cap,.func (.func 142) #[] #[]] w (bM w (.int .i64 (-1))):=by
 obtain⟨b,o,c1,c2,c3,c4,c5⟩:=sA.kids
 clear sA c4
 have HC:=ah c5;have LA:=ah lA;have HR:=ah hr
 clear c5 lA hr
 obtain⟨n,hn⟩:∃ n,kids.length=n:=⟨_,rfl⟩
 have HN:=ah hn
 have h3:∀ i,i<n→a=some ⟨b,o,none⟩:=by rw[←hn];exact c3
 have hnc:n≤cap:=by rw[←hn];exact c1
 rw[hn]
 clear c3 c1 hn
 go_enter Tryz.func181,Tryz.ntmps181
 go_wp2
 go_loopw [8] (fun i wr=>∃ k:Nat,k≤n∧i=.int .i64 k∧Below w.heap.size w wr) (fun i _=>n - (intOf i).toNat)
 case atStart=>exact⟨0,Nat.zero_le _,rfl,Below.refl _ _⟩
 case round =>
  obtain⟨k,hk,rfl,hB⟩:=hrel
  by_cases hlt:k<n
  ·have hlk:k<kids.length:=by rw[HN.out];exact hlt
   obtain rfl:=h3 k hlt
   have e1:=HC.out k hlk wr hB
   have hcall:=aiS kids[k] wr ((LA.out k hlk).kept hB) (HR.out k hlk)
   generalize kids[k]=V at *
   obtain⟨k5,s5,a5,cp5,cZ,dh,hi5⟩:=V
   obtain⟨x0,x1,x2,x3,x4,x5,x6,x7⟩:=qX e1
   have hbl:=World.block_lt_of_cell? wr _ x0
   have pV:=ah hcall
   clear e1 hcall
   have hki:(k:Int)<(n:Int):=by omega
   have hk0:(0:Int)≤(k:Int):=by omega
   go_wp2_with (go_at_call 142;go_must (refine pV.out.mono ?_;rintro e w2 ⟨rfl,hb2⟩))
   exact⟨⟨k+1,hlt,by push_cast;rfl,hB.trans (hb2.mono hB.size)⟩,by simp[intOf];omega⟩
  ·obtain rfl:k=n:=by omega
   go_wp2
   go_ret
   exact⟨rfl,hB⟩
theorem Vx(kids:List Vt)(a:Option Addr)(cap:Nat)(w:World)(sA:ak w (.slice a kids.length cap) 8 Vt.cells kids)(lA:∀ i (h:i<kids.length),Lies w kids[i])(hr:∀ i (h:i<kids.length),iU kids[i].tr=true) :
  Calls Tryz.prog 141 #[.slice a kids.length cap,.func (.func 142) #[] #[]] w (bM w (.bool false)):=by
 have H:=ah (aec kids a cap w sA lA hr)
 clear sA lA hr
 generalize kids.length=n at *
 go_enter Tryz.func141,Tryz.ntmps141
 go_wp2_with (go_at_call 181;go_must (refine H.out.mono ?_;rintro e w2 ⟨rfl,hb2⟩))
 go_ret
 exact⟨rfl,hb2⟩
structure uo(w:World)(N:Nf)(V:Y3):Prop where
 li:ak w V.l 2 MI N.links
 ed:ak w V.e 6 gI N.edges
 ac:ak w V.a 1 aG N.accept
theorem uo.kept{w w':World}{N:Nf}{V:Y3}(h:uo w N V)(hb:Below w.heap.size w w'):uo w' N V:=⟨h.li.kept hb,h.ed.kept hb,h.ac.kept hb⟩
theorem gW.nf5{w:World}{r base rb:Nat}{N:Nf}{V:Y3}(h:gW w r base N V)(hb:rb<base)(v0 v1 v2 v3 v4:Value):uo (((((w.setCell ⟨rb,0,none⟩ v0).setCell ⟨rb,1,none⟩ v1).setCell ⟨rb,2,none⟩ v2).setCell ⟨rb,3,none⟩ v3).setCell ⟨rb,4,none⟩ v4) N V :=
 ⟨(((((h.li.other _ _ hb).other _ _ hb).other _ _ hb).other _ _ hb).other _ _ hb).slice Tm,(((((h.ed.other _ _ hb).other _ _ hb).other _ _ hb).other _ _ hb).other _ _ hb).slice xG,(((((h.ac.other _ _ hb).other _ _ hb).other _ _ hb).other _ _ hb).other _ _ hb).slice bQ⟩
theorem Turned.toBelow{r:Nat}{V V':Y3}{w0 w w':World}(h:Turned r V V' w w')(hb:Below w0.heap.size w0 w)(hr:w0.heap.size≤r)(hv:∀ g,¬ V.has g):Below w0.heap.size w0 w' :=
 ⟨h.os.trans hb.os,h.tape.trans hb.tape,h.output.trans hb.output,Nat.le_trans hb.size h.size,fun b hb'=>(h.block b (Nat.lt_of_lt_of_le hb' hb.size) (by omega) (hv b)).trans (hb.block b hb')⟩
theorem Box.abq{w:World}{b E:Nat}{a0 a1 a2 a3 a4:Value}(h:Box w b #[a0,a1,a2,a3,a4] E)(v0 v1 v2 v3 v4:Value) :
  Box (((((w.setCell ⟨b,0,none⟩ v0).setCell ⟨b,1,none⟩ v1).setCell ⟨b,2,none⟩ v2).setCell ⟨b,3,none⟩ v3).setCell ⟨b,4,none⟩ v4) b #[v0,v1,v2,v3,v4] E:=by
 have:=((((h.set 0 v0).set 1 v1).set 2 v2).set 3 v3).set 4 v4
 simpa using this
def wJ:Y3:=⟨.slice none 0 0,.slice none 0 0,.slice none 0 0⟩
theorem TJ(g:Nat):¬ wJ.has g:=by rintro(h | h | h) <;> cases h
def oQ:Nf:=⟨0,[],[],[]⟩
def dL(N:Nf)(V:Y3):Array Value:=#[.int .i64 N.states,.int .i64 0,V.l,V.e,V.a]
theorem abr(w:World):gW (w.alloc (.cells (dL oQ wJ) 216)) w.heap.size (w.heap.size+1) oQ wJ :=
 ⟨Box.new w _ _,Own.nil _ _ _ _ _,Own.nil _ _ _ _ _,Own.nil _ _ _ _ _,Nat.lt_succ_self _,rfl⟩
def Gz(l:List Tr)(w:World)(e:Ending)(w':World):Prop:=Below w.heap.size w w'∧if qL l≤65536 then ∃ V,uo w' (um l) V∧e=.returned (.tuple #[.agg (dL (um l) V),.int .i64 0]) else e=.returned (.tuple #[.agg (dL oQ wJ),.int .i64 7])
theorem aiT(kids:List Vt)(a:Option Addr)(cap:Nat)(w:World)(sA:ak w (.slice a kids.length cap) 8 Vt.cells kids)(lA:∀ i (h:i<kids.length),Lies w kids[i])(hr:∀ i (h:i<kids.length),iU kids[i].tr=true)(h64:kids.length≤64) :
  Calls Tryz.prog 100 #[.slice a kids.length cap] w (Gz (kids.map Vt.tr) w):=by
 obtain⟨b,o,c1,c2,c3,c4,c5⟩:=sA.kids
 have hall:∀ i (h:i<kids.length),allT kids[i].tr=true:=fun i h=>by have:=hr i h;unfold iU at this;rw[Bool.and_eq_true] at this;exact this.2
 have hsz:∀ i (h:i<kids.length),sizeT kids[i].tr≤1099511627776:=fun i h=>by have:=hr i h;unfold iU at this;rw[Bool.and_eq_true,decide_eq_true_eq] at this;omega
 have hC:=fun(u:World) (hu:Below w.heap.size w u)=>Vx kids a cap u (sA.kept hu) (fun i h=>(lA i h).kept hu) hr
 have hS:=fun(u:World) (hu:Below w.heap.size w u)=>ads kids a cap u (sA.kept hu) (fun i h=>(lA i h).kept hu) hall
 have hB0:=aj w (.cells (dL oQ wJ) 157)
 have hx0:=Box.new w (dL oQ wJ) 157
 by_cases hbig:qL (kids.map Vt.tr)≤65536
 ·have hR:∀ V w',uo w' (um (kids.map Vt.tr)) V→Below w.heap.size w w'→Gz (kids.map Vt.tr) w (.returned (.tuple #[.agg (dL (um (kids.map Vt.tr)) V),.int .i64 0])) w':=fun V w' h1 h2=>⟨h2,by rw[if_pos hbig];exact⟨V,h1,rfl⟩⟩
  have hd:decide ((65536:Int)<((qL (kids.map Vt.tr):Nat):Int))=false:=by simp;omega
  obtain⟨hsmall,wG⟩:=MQ (kids.map Vt.tr) (fun x hx=>by
   obtain⟨X,hX,rfl⟩:=List.mem_map.1 hx
   obtain⟨i,hi,rfl⟩:=List.mem_iff_getElem.1 hX
   exact hr i hi) hbig
  clear wG
  obtain⟨Z,hZ⟩:∃ Z:Nat→Nf×Nat,∀ k,Z k=qY ((kids.map Vt.tr).take k):=⟨_,fun _=>rfl⟩
  have hZs:∀ k (hk:k<kids.length),Z (k+1)=nX (Z k) kids[k].tr:=fun k hk=>by
   rw[hZ,hZ,ZG _ _ (by simpa using hk),List.getElem_map]
  have wW:Z 0=(zZ,0):=by rw[hZ,List.take_zero];rfl
  have MK:(Z kids.length).1=um (kids.map Vt.tr):=by rw[hZ,List.take_of_length_le (by simp)];rfl
  have Gy:∀ k,(Z k).1.small:=fun k=>by rw[hZ];exact(QY _ k).small hsmall
  have hZk:∀ k,k≤kids.length→(Z k).2=k:=fun k hk=>by rw[hZ,acJ,List.length_take,List.length_map];omega
  rw[←MK] at hR
  generalize Gz (kids.map Vt.tr) w=R at *
  generalize qL (kids.map Vt.tr)=z at *
  have wK:=fun(u:World)=>rU u.heap.size (u.heap.size+1) 0 oQ wJ (u.alloc (.cells (dL oQ wJ) 216)) (abr u) (by simp) (by simp[oQ])
  have HC:=ah hC;have HS:=ah hS;have HB0:=ah hB0;have HX0:=ah hx0;have HR:=ah hR;have HL:=ah lA;have Gv:=ah hall;have KW:=ah hsz;have PI:=ah hZs;have HZ0:=ah wW;have PK:=ah Gy;have HZK:=ah hZk;have H3:=ah c3;have H5:=ah c5;have HST:=ah wK
  clear hC hS hB0 hx0 hR hr sA lA hall hsz c3 c4 c5 c2 hbig hZ hZs wW MK Gy hZk hsmall wK
  obtain⟨n,hn⟩:∃ n,kids.length=n:=⟨_,rfl⟩
  have HN:=ah hn
  rw[hn] at h64 c1 HR HZK HC HS ⊢
  clear hn
  have rH:decide ((64:Int)<(n:Int))=false:=by simp;omega
  go_enter Tryz.func100,Tryz.ntmps100
  go_wp2_with (first | (go_at_call 141;go_must (refine(HC.out _ HB0.out).mono ?_;rintro e w2 ⟨rfl,hb2⟩;have hB2:=HB0.out.trans (hb2.mono HB0.out.size))) | (go_at_call 143;go_must (refine(HS.out _ hB2).mono ?_;rintro e w3 ⟨rfl,hb3⟩;have hB3:=hB2.trans (hb3.mono hB2.size);have hx3:=(HX0.out.kept hb2).kept hb3)) | (go_at_call 144;go_must (refine(HST.out w3).mono ?_;rintro e w4 ⟨rfl,V4,hL4,hT4⟩)))
  have anG:=abr w3
  have aiU:=hB3.trans ((aj w3 (.cells (dL oQ wJ) 216)).mono hB3.size)
  have aiV:=hx3.alloc (.cells (dL oQ wJ) 216)
  have hxl:=hx3.lt
  have hws:=hB3.size
  have hsz3:(w3.alloc (.cells (dL oQ wJ) 216)).heap.size=w3.heap.size+1:=World.size_alloc _ _
  clear anG hb2 hb3 hB2 hB3 hx3 HB0 HX0 HST
  generalize (w3.alloc (.cells (dL oQ wJ) 216))=w3a at *
  generalize w3.heap.size=r at *
  have HB3:=ah aiU;have HX3:=ah aiV
  clear aiU aiV
  go_loopw [25] (fun i wr=>∃ (k:Nat) (V:Y3),k≤n∧i=.int .i64 k∧gW wr r (r+1) (Z k).1 V∧Turned r wJ V w3a wr) (fun i _=>n - (intOf i).toNat)
  case atStart=>exact⟨0,V4,Nat.zero_le _,rfl,by rw[HZ0.out];exact hL4,hT4⟩
  case round =>
   clear hL4 hT4
   obtain⟨k,V,hk,rfl,PL,WT⟩:=hrel
   have TL:=WT.toBelow HB3.out (by omega) TJ
   have arE:=WT.size
   by_cases hlt:k<n
   ·have hlk:k<kids.length:=by rw[HN.out];exact hlt
    obtain rfl:=H3.out k hlk
    have e1:=H5.out k hlk wr TL
    have hzs:=PI.out k hlk
    have hzk:=HZK.out k hk
    have aed:=(HL.out k hlk)
    have hal:=Gv.out k hlk
    have hly:=aiR r (r+1) kids[k] (KW.out k hlk)
    generalize kids[k]=X at *
    obtain⟨k5,s5,a5,cp5,cZ,dh,hi5⟩:=X
    obtain⟨x0,x1,x2,x3,x4,x5,x6,x7⟩:=qX e1
    have hbl:=World.block_lt_of_cell? wr _ x0
    have hB1:=aj wr (.cells (aC k5 s5 a5 cZ.length cp5 dh hi5).toArray 151)
    have hon:On (fun b=>b<r+1∧b≠r) (.mk k5 s5 a5 cp5 cZ dh hi5):=aed.on.mono fun b hb=>⟨by omega,by omega⟩
    have hTy:kP (wr.alloc (.cells (aC k5 s5 a5 cZ.length cp5 dh hi5).toArray 151)) r (r+1) (.mk k5 s5 a5 cp5 cZ dh hi5):=⟨(aed.kept TL).kept hB1,hon,hal⟩
    have wH:=PK.out (k+1)
    rw[hzs] at wH
    have hcl:=hly (Z k).1 V 0 _ (PL.kept hB1) hTy (by rw[World.size_alloc];omega) (((Nf.iP _ _).trans (Nf.iR _ _ _)).small wH)
    have aee:=WT.trans (Turned.below hB1)
    have arF:=aee.size
    unfold nX at hzs wH
    rw[hzk] at hzs wH
    generalize bG (Vt.mk k5 s5 a5 cp5 cZ dh hi5).tr ((Z k).1,0)=L at *
    have wG:=(Nf.iR _ _ _).small wH
    have HST:=ah (fun(u:World) (V':Y3) (hu:gW u r (r+1) L.1 V') (hs:r+1≤u.heap.size)=>by
     have h:=rU r (r+1) (k+1) L.1 V' u hu hs ((Nf.iP _ (k+1)).small wG).2.2
     rw[show((k+1:Nat):Int)=(k:Int)+1 from by push_cast;rfl] at h
     exact h)
    have uY:=ah (fun(u:World) (V':Y3) (hu:gW u r (r+1) (L.1.state (k+1)) V') (hs:r+1≤u.heap.size)=>vK r (r+1) L.2 L.1.states (L.1.state (k+1)) V' u hu hs wG.1)
    have pV:=ah hcl;have HTB:=ah aee;have HZZ:=ah hzs
    clear hcl aee hzs wH wG hTy hon aed hal hly e1 PL WT TL hB1 hzk
    have hki:(k:Int)<(n:Int):=by omega
    have hk0:(0:Int)≤(k:Int):=by omega
    go_wp2_with (first | (go_at_call 145;go_must (refine pV.out.mono ?_;rintro e w5 ⟨rfl,V5,hL5,vk⟩;have hs5:=vk.size;have anH:r+1≤w5.heap.size:=(by omega))) | (go_at_call 144;go_must (refine(HST.out w5 V5 hL5 anH).mono ?_;rintro e w6 ⟨rfl,V6,hL6,Dl⟩;have hs6:=Dl.size;have anI:r+1≤w6.heap.size:=(by omega))) | (go_at_call 146;go_must (refine(uY.out w6 V6 hL6 anI).mono ?_;rintro e w7 ⟨rfl,V7,hL7,hT7⟩)))
    exact⟨⟨k+1,V7,hlt,by push_cast;rfl,by rw[HZZ.out];exact hL7,((HTB.out.trans vk).trans Dl).trans hT7⟩,by simp[intOf];omega⟩
   ·obtain rfl:k=n:=by omega
    obtain⟨vl,ve,va⟩:=V
    obtain⟨la,lc,hvl⟩:=PL.li.form
    obtain⟨ea,ec,lZ⟩:=PL.ed.form
    obtain⟨aa,ac,hva⟩:=PL.ac.form
    dsimp only at hvl lZ hva
    subst hvl
    subst lZ
    subst hva
    have hbx:=PL.box
    have hxr:=WT.box HX3.out (by omega) (TJ _)
    have hnf:=fun v0 v1 v2 v3 v4=>PL.nf5 (rb:=w.heap.size) (by omega) v0 v1 v2 v3 v4
    have y0:wr.cell? ⟨r,0,none⟩=some (.int .i64 (Z k).1.states):=hbx.cell 0
    have y1:wr.cell? ⟨r,1,none⟩=some (.int .i64 0):=hbx.cell 1
    have y2:wr.cell? ⟨r,2,none⟩=some (.slice la (Z k).1.links.length lc):=hbx.cell 2
    have y3:wr.cell? ⟨r,3,none⟩=some (.slice ea (Z k).1.edges.length ec):=hbx.cell 3
    have y4:wr.cell? ⟨r,4,none⟩=some (.slice aa (Z k).1.accept.length ac):=hbx.cell 4
    have z0:=hxr.free 0
    have z1:=hxr.free 1
    have z2:=hxr.free 2
    have z3:=hxr.free 3
    have z4:=hxr.free 4
    have c0:wr.cell? ⟨w.heap.size,0,none⟩=some (.int .i64 0):=hxr.cell 0
    have c1:wr.cell? ⟨w.heap.size,1,none⟩=some (.int .i64 0):=hxr.cell 1
    have c2:wr.cell? ⟨w.heap.size,2,none⟩=some (.slice none 0 0):=hxr.cell 2
    have c3:wr.cell? ⟨w.heap.size,3,none⟩=some (.slice none 0 0):=hxr.cell 3
    have c4:wr.cell? ⟨w.heap.size,4,none⟩=some (.slice none 0 0):=hxr.cell 4
    have zl:=hxr.lt
    have LJ:=ah hnf;have HBK:=ah TL;have HXR:=ah hxr
    clear hnf TL hxr hbx PL WT
    go_wp2
    refine gy Tryz.results100 rfl rfl (Box.abq HXR.out _ _ _ _ _) Tryz.underlying157 rfl (by kernel_rfl) rfl ?_
    have dG:Below w.heap.size w (((((wr.setCell ⟨w.heap.size,0,none⟩ (.int .i64 (Z k).1.states)).setCell ⟨w.heap.size,1,none⟩ (.int .i64 0)).setCell ⟨w.heap.size,2,none⟩ (.slice la (Z k).1.links.length lc)).setCell ⟨w.heap.size,3,none⟩ (.slice ea (Z k).1.edges.length ec)).setCell ⟨w.heap.size,4,none⟩ (.slice aa (Z k).1.accept.length ac)):=((((HBK.out.setCell (Nat.le_refl _) _).setCell (Nat.le_refl _) _).setCell (Nat.le_refl _) _).setCell (Nat.le_refl _) _).setCell (Nat.le_refl _) _
    exact HR.out ⟨_,_,_⟩ _ (LJ.out _ _ _ _ _) dG
 ·have hR:∀ w',Below w.heap.size w w'→Gz (kids.map Vt.tr) w (.returned (.tuple #[.agg (dL oQ wJ),.int .i64 7])) w':=fun w' h=>⟨h,by rw[if_neg hbig]⟩
  generalize Gz (kids.map Vt.tr) w=R at *
  have hd:decide ((65536:Int)<((qL (kids.map Vt.tr):Nat):Int))=true:=by simp;omega
  generalize qL (kids.map Vt.tr)=z at *
  have HC:=ah hC;have HS:=ah hS;have HB0:=ah hB0;have HX0:=ah hx0;have HR:=ah hR
  clear hC hS hB0 hx0 hR hr sA lA hall hsz c3 c4 c5 c2 hbig
  generalize kids.length=n at *
  have rH:decide ((64:Int)<(n:Int))=false:=by simp;omega
  clear c1
  go_enter Tryz.func100,Tryz.ntmps100
  go_wp2_with (first | (go_at_call 141;go_must (refine(HC.out _ HB0.out).mono ?_;rintro e w2 ⟨rfl,hb2⟩;have hB2:=HB0.out.trans (hb2.mono HB0.out.size))) | (go_at_call 143;go_must (refine(HS.out _ hB2).mono ?_;rintro e w3 ⟨rfl,hb3⟩;have hB3:=hB2.trans (hb3.mono hB2.size);have hx3:=(HX0.out.kept hb2).kept hb3;have z0:=hx3.free 0;have z1:=hx3.free 1;have z2:=hx3.free 2;have z3:=hx3.free 3;have z4:=hx3.free 4;have c0:w3.cell? ⟨w.heap.size,0,none⟩=some (.int .i64 0):=hx3.cell 0;have c1:w3.cell? ⟨w.heap.size,1,none⟩=some (.int .i64 0):=hx3.cell 1;have c2:w3.cell? ⟨w.heap.size,2,none⟩=some (.slice none 0 0):=hx3.cell 2;have c3:w3.cell? ⟨w.heap.size,3,none⟩=some (.slice none 0 0):=hx3.cell 3;have c4:w3.cell? ⟨w.heap.size,4,none⟩=some (.slice none 0 0):=hx3.cell 4;have zl:=hx3.lt)))
  refine gy Tryz.results100 rfl rfl (Box.abq hx3 _ _ _ _ _) Tryz.underlying157 rfl (by kernel_rfl) rfl (HR.out _ (((((hB3.setCell (Nat.le_refl _) _).setCell (Nat.le_refl _) _).setCell (Nat.le_refl _) _).setCell (Nat.le_refl _) _).setCell (Nat.le_refl _) _))
end
end Go.Proofs.YtbemonecmmnlcaaGreatDoor
