/- The texts of T30, in few letters (mini.py). -/
import Derived.Test.YtbemonecmmnlcaaGreatDoorU29
set_option linter.unusedVariables false
set_option linter.unusedSimpArgs false
set_option maxRecDepth 20000
set_option maxHeartbeats 6400000
namespace Go.Proofs.YtbemonecmmnlcaaGreatDoor
section
open Go.RowKit
theorem Nq(V:au)(D:ay)(t:List UInt8)(ta:Option Addr)(tn tc:Nat)(p:Int)(w:World)(h:dN w V D)(hof:∀ b,V.of b<256)(hl:∀ x∈D.names,x.length≤9223372036854775807)(hT:ak w (.slice ta tn tc) 1 bf t) :
  Calls Tryz.prog 88 #[.agg V.cells,.slice ta tn tc,.int .i64 p] w (bM w (zL D t p)):=by
 have hbx:=Box.new w V.cells 27
 have hB0:=aj w (.cells V.cells 27)
 have hby:Box ((w.alloc (.cells V.cells 27)).alloc (.cells #[.int .i64 0,.int .i64 0,.int .i64 0] 61)) (w.heap.size+1) #[.int .i64 0,.int .i64 0,.int .i64 0] 61:=Box.new' (World.size_alloc _ _).symm _ _
 have hB1:Below w.heap.size w ((w.alloc (.cells V.cells 27)).alloc (.cells #[.int .i64 0,.int .i64 0,.int .i64 0] 61)):=hB0.alloc hB0.size _
 have dF:=hbx.kept (aj (w.alloc (.cells V.cells 27)) (.cells #[.int .i64 0,.int .i64 0,.int .i64 0] 61))
 obtain⟨tb,ES,htn,htc,adU,hta,htx⟩:=ak.bY (f:=fun x:UInt8=>Value.int .u8 (x.toNat:Nat)) hT
 subst htn
 have HR:=ah (fun u hu=>I7 V D u (h.kept hu) hof hl)
 have Eu:dS D=false∨p<0∨(t.length:Int)<p→zL D t p=Y6:=fun hh=>by
  unfold zL
  refine if_neg ?_
  rintro⟨h1,h2,h3⟩
  rcases hh with hh | hh | hh
  ·rw[hh] at h1;cases h1
  ·omega
  ·omega
 by_cases hr:dS D=true
 ·by_cases hp0:p<0
  ·have e1:decide (p<0)=true:=decide_eq_true hp0
   have Ew:=ah (Eu (.inr (.inl hp0)))
   rw[hr] at HR
   clear h hl hr hT Eu hbx hB0 hta htx
   go_enter Tryz.func88,Tryz.ntmps88
   go_wp2_with (first | (refine aI (by rfl) 27 _ rfl w.heap.size rfl _ _ _ _ dF Tryz.underlying27 rfl (aZ _) ?_) | (go_at_call 29;go_must (refine(HR.out _ hB1).mono ?_;rintro e w2 ⟨rfl,hb2⟩;have hB2:=hB1.trans (hb2.mono hB1.size);have jB:=hby.kept hb2;have y0:w2.cell? ⟨w.heap.size+1,0,none⟩=some (.int .i64 0):=jB.cell 0;have y1:w2.cell? ⟨w.heap.size+1,1,none⟩=some (.int .i64 0):=jB.cell 1;have y2:w2.cell? ⟨w.heap.size+1,2,none⟩=some (.int .i64 0):=jB.cell 2;have f0:=jB.free 0;have f1:=jB.free 1;have f2:=jB.free 2;have ly:=jB.lt;have oO:=ah (((jB.set 0 (.int .i64 0)).set 1 (.int .i64 0)).set 2 (.int .i64 0)))))
   refine bodyPost_ret (dK rfl _ _ (w.heap.size+1) 61 _ (.bool false) rfl rfl oO.out Tryz.underlying61 rfl (by kernel_rfl)) rfl ?_
   exact⟨by rw[Ew.out];rfl,((hB2.setCell (by simp) _).setCell (by simp) _).setCell (by simp) _⟩
  ·by_cases hp1:(t.length:Int)<p
   ·have e1:decide (p<0)=false:=decide_eq_false hp0
    have e2:decide ((t.length:Int)<p)=true:=decide_eq_true hp1
    have Ew:=ah (Eu (.inr (.inr hp1)))
    rw[hr] at HR
    clear h hl hr hT Eu hbx hB0 hta htx
    go_enter Tryz.func88,Tryz.ntmps88
    go_wp2_with (first | (refine aI (by rfl) 27 _ rfl w.heap.size rfl _ _ _ _ dF Tryz.underlying27 rfl (aZ _) ?_) | (go_at_call 29;go_must (refine(HR.out _ hB1).mono ?_;rintro e w2 ⟨rfl,hb2⟩;have hB2:=hB1.trans (hb2.mono hB1.size);have jB:=hby.kept hb2;have y0:w2.cell? ⟨w.heap.size+1,0,none⟩=some (.int .i64 0):=jB.cell 0;have y1:w2.cell? ⟨w.heap.size+1,1,none⟩=some (.int .i64 0):=jB.cell 1;have y2:w2.cell? ⟨w.heap.size+1,2,none⟩=some (.int .i64 0):=jB.cell 2;have f0:=jB.free 0;have f1:=jB.free 1;have f2:=jB.free 2;have ly:=jB.lt;have oO:=ah (((jB.set 0 (.int .i64 0)).set 1 (.int .i64 0)).set 2 (.int .i64 0)))))
    refine bodyPost_ret (dK rfl _ _ (w.heap.size+1) 61 _ (.bool false) rfl rfl oO.out Tryz.underlying61 rfl (by kernel_rfl)) rfl ?_
    exact⟨by rw[Ew.out];rfl,((hB2.setCell (by simp) _).setCell (by simp) _).setCell (by simp) _⟩
   ·have hw:=yM hr
    obtain⟨n,wd,lb,lo,nb,no,rb,ro,rc,hm⟩:=machC h hw
    obtain⟨at_,rfl⟩:∃ k:Nat,p=(k:Nat):=⟨p.toNat,by omega⟩
    have hret:zL D t (at_:Nat)=AP D t at_:=by
     unfold zL
     rw[if_pos ⟨hr,by omega,by omega⟩,Int.toNat_natCast]
    rw[hret]
    have hat:at_≤t.length:=by omega
    have HM:=ah hm;have HV:=ah h.1;have HT:=ah hT;have HTA:=ah hta
    rw[hr] at HR
    have e1:decide ((at_:Int)<0)=false:=decide_eq_false (by omega)
    have e2:decide ((t.length:Int)<(at_:Int))=false:=decide_eq_false (by omega)
    obtain⟨m,hmm⟩:∃ m,t.length=m:=⟨_,rfl⟩
    have L9:=ah hmm
    rw[hmm] at hat htc e2 ⊢
    have e3:decide (m<at_)=false:=decide_eq_false (by omega)
    clear h hl hr hT Eu hbx hB0 hm hw hret hp0 hp1 hta htx hof hmm
    go_enter Tryz.func88,Tryz.ntmps88
    go_wp2_with (first | (refine aI (by rfl) 27 _ rfl w.heap.size rfl _ _ _ _ dF Tryz.underlying27 rfl (aZ _) ?_) | (go_at_call 29;go_must (refine(HR.out _ hB1).mono ?_;rintro e w2 ⟨rfl,hb2⟩)))
    have hB2:=hB1.trans (hb2.mono hB1.size)
    have hbx2:=dF.kept hb2
    have jB:=hby.kept hb2
    have HB2:=ah hB2;have Dq:=ah hbx2;have HY2:=ah jB
    clear hB2 hbx2 jB hb2 dF hby hB1 HR
    go_loopw [8] (fun v8 wr=>∃ e:Nat,at_≤e∧e≤m∧v8=.int .i64 e∧Below w2.heap.size w2 wr∧∀ q,e<q→q≤t.length→labS D (bD D 0 ((t.drop at_).take (q - at_)))=0) (fun v8 _=>(intOf v8).toNat)
    case atStart=>exact⟨m,hat,Nat.le_refl _,rfl,Below.refl _ _,fun q h1 h2=>by rw[L9.out] at h2;omega⟩
    case round =>
     obtain⟨e,he1,he2,rfl,hBr,hno⟩:=hrel
     have hBw:Below w.heap.size w wr:=HB2.out.trans (hBr.mono HB2.out.size)
     have hx:=Dq.out.kept hBr
     have hy:=HY2.out.kept hBr
     by_cases hlt:at_<e
     ·obtain rfl:=HTA.out 0 (by rw[L9.out];omega)
      have hne:¬ (tc=at_):=by omega
      have hai:(at_:Int)<(e:Int):=by omega
      have ha0:(0:Int)≤(at_:Int):=by omega
      have hei:(e:Int)≤(tc:Int):=by omega
      have hDr:Below wr.heap.size wr wr.drew:=(Below.refl _ _).drew
      obtain⟨L,hL⟩:∃ L,labS D (bD D 0 ((t.drop at_).take (e - at_)))=L:=⟨_,rfl⟩
      have ar0:Option.map (fun x:Addr=>x.add at_) (some ⟨tb,ES,none⟩)=some ⟨tb,ES+at_,none⟩:=by simp[Addr.add]
      have HF:Hid (∀ u,Later wr.drew u→Box u w.heap.size V.cells 27∧Calls Tryz.prog 128 #[.agg V.cells,.slice (some ⟨tb,ES+at_,none⟩) (e - at_) (tc - at_)] u (bM u (.int .i64 L))∧Below wr.heap.size wr u):=ah fun u hu=>by
       have h1:Below wr.heap.size wr u:=hDr.trans (hu.mono hDr.size)
       have h2:Below w.heap.size w u:=hBw.trans (h1.mono hBw.size)
       have hs:=(HT.out.kept h2).sub (f:=fun x:UInt8=>Value.int .u8 (x.toNat:Nat)) at_ (e - at_) (by rw[L9.out];omega)
       rw[show Ci tb ES tc at_=some ⟨tb,ES+at_,none⟩ from if_neg (by omega)] at hs
       have:=Yw V D w u HV.out n wd lb lo nb no rb ro rc HM.out h2 _ _ _ _ hs
       rw[hL] at this
       exact⟨hx.kept h1,this,h1⟩
      have zq:=ah hBr;have HY:=ah hy;have Xe:=ah hno;have HL:=ah hL;have gG:=ah hBw
      clear hBr hBw hx hy hno hL hDr
      go_wp2_with fail
      refine aH (R:=Later) 7 (by kernel_rfl) ?_
      refine kR (t:=7) (i:=0) rfl (by kernel_rfl) (by kernel_rfl) (by kernel_rfl) (by kernel_rfl) (fun _ _ _ h=>h) (by rfl) (fun w1 hl=>fM 27 _ rfl _ rfl ((HF.out w1 hl).1) Tryz.underlying27 rfl (aZ V)) ?_
      simp only[eA,eB,Act.put,eD,eE,eF]
      refine pl [1,2,3,4] ?_
      repeat
       refine gU ?_ rfl (fun w1 hl=>?_) ?_
       rotate_left
       ·skip;go_simp;try with_reducible rfl
       simp only[eA,eB,eC,Act.put,eD,eE,eF]
      refine dI ?_
      refine CW 5 ?_ ?_ ?_ rfl (fun w1=>?_) (fun w1 hl=>?_) ?_
      rotate_left 4
      ·exact(HF.out w1 hl).2.1
      rotate_left
      ·go_simp
      simp only[eA,eB,eC,Act.put,eD,eE,eF]
      refine iZ 6 ?_ rfl (fun w1 hl=>?_) ?_
      rotate_left
      ·skip;go_simp;try with_reducible rfl
      simp only[eA,eB,eC,Act.put,eD,eE,eF]
      refine aQ (by kernel_rfl) (fun w1 hl=>?_) _
      have hq:=(HF.out w1 hl).2.2
      clear HF hl
      by_cases hz:L=0
      ·have hz2:(L != 0)=false:=by simp[hz]
       go_wp2
       refine⟨⟨e - 1,by omega,by omega,by rw[show((e:Int) - 1)=((e - 1:Nat):Int) by omega],zq.out.trans (hq.mono zq.out.size),fun q h1 h2=>?_⟩,by simp[intOf];omega⟩
       by_cases hqe:q=e
       ·rw[hqe,HL.out,hz]
       ·exact Xe.out q (by omega) h2
      ·have hz2:(L != 0)=true:=by simp[hz]
       have hy4:=HY.out.kept hq
       have y0:w1.cell? ⟨w.heap.size+1,0,none⟩=some (.int .i64 0):=hy4.cell 0
       have y1:w1.cell? ⟨w.heap.size+1,1,none⟩=some (.int .i64 0):=hy4.cell 1
       have y2:w1.cell? ⟨w.heap.size+1,2,none⟩=some (.int .i64 0):=hy4.cell 2
       have f0:=hy4.free 0
       have f1:=hy4.free 1
       have f2:=hy4.free 2
       have ly:=hy4.lt
       have oO:=ah (((hy4.set 0 (.int .i64 L)).set 1 (.int .i64 at_)).set 2 (.int .i64 e))
       have hB4:=gG.out.trans (hq.mono gG.out.size)
       have hret:AP D t at_=.tuple #[.agg (wQ L at_ e),.bool true]:=by
        unfold AP
        rw[agO hlt (by rw[L9.out];exact he2) HL.out hz Xe.out]
       have Ew:=ah hret
       clear hret
       go_wp2
       refine bodyPost_ret (dK rfl _ _ (w.heap.size+1) 61 _ (.bool true) rfl rfl oO.out Tryz.underlying61 rfl (by kernel_rfl)) rfl ?_
       exact⟨by rw[Ew.out];rfl,((hB4.setCell (by simp) _).setCell (by simp) _).setCell (by simp) _⟩
     ·have hle:decide ((at_:Int)<(e:Int))=false:=decide_eq_false (by omega)
      have hret:AP D t at_=Y6:=by
       unfold AP
       rw[adO fun q h1 h2=>hno q (by omega) h2]
      have Ew:=ah hret
      have y0:wr.cell? ⟨w.heap.size+1,0,none⟩=some (.int .i64 0):=hy.cell 0
      have y1:wr.cell? ⟨w.heap.size+1,1,none⟩=some (.int .i64 0):=hy.cell 1
      have y2:wr.cell? ⟨w.heap.size+1,2,none⟩=some (.int .i64 0):=hy.cell 2
      have f0:=hy.free 0
      have f1:=hy.free 1
      have f2:=hy.free 2
      have ly:=hy.lt
      have oO:=ah (((hy.set 0 (.int .i64 0)).set 1 (.int .i64 0)).set 2 (.int .i64 0))
      have gG:=ah hBw
      clear hret hBw hx hy hno hBr
      go_wp2
      refine bodyPost_ret (dK rfl _ _ (w.heap.size+1) 61 _ (.bool false) rfl rfl oO.out Tryz.underlying61 rfl (by kernel_rfl)) rfl ?_
      exact⟨by rw[Ew.out];rfl,((gG.out.setCell (by simp) _).setCell (by simp) _).setCell (by simp) _⟩
 ·have Ew:=ah (Eu (.inl (by simpa using hr)))
  rw[show dS D=false by simpa using hr] at HR
  clear h hl hr hT Eu hbx hB0 hta htx
  go_enter Tryz.func88,Tryz.ntmps88
  go_wp2_with (first | (refine aI (by rfl) 27 _ rfl w.heap.size rfl _ _ _ _ dF Tryz.underlying27 rfl (aZ _) ?_) | (go_at_call 29;go_must (refine(HR.out _ hB1).mono ?_;rintro e w2 ⟨rfl,hb2⟩;have hB2:=hB1.trans (hb2.mono hB1.size);have jB:=hby.kept hb2;have y0:w2.cell? ⟨w.heap.size+1,0,none⟩=some (.int .i64 0):=jB.cell 0;have y1:w2.cell? ⟨w.heap.size+1,1,none⟩=some (.int .i64 0):=jB.cell 1;have y2:w2.cell? ⟨w.heap.size+1,2,none⟩=some (.int .i64 0):=jB.cell 2;have f0:=jB.free 0;have f1:=jB.free 1;have f2:=jB.free 2;have ly:=jB.lt;have oO:=ah (((jB.set 0 (.int .i64 0)).set 1 (.int .i64 0)).set 2 (.int .i64 0)))))
  refine bodyPost_ret (dK rfl _ _ (w.heap.size+1) 61 _ (.bool false) rfl rfl oO.out Tryz.underlying61 rfl (by kernel_rfl)) rfl ?_
  exact⟨by rw[Ew.out];rfl,((hB2.setCell (by simp) _).setCell (by simp) _).setCell (by simp) _⟩
end
section
open Go.RowKit
theorem abT{D:ay}{h:List UInt8}(b:List UInt8)(hs:dZ D false h=true)(en:Bool):dZ D en (h++b)=true:=by
 obtain⟨j,h0,h1,hd⟩:=Nk hs
 exact Kt en h0 (by rw[List.length_append];omega) (by rw[List.take_append_of_le_length h1];exact hd)
theorem P7{D:ay}(hw:jF D){h:List UInt8}(b:List UInt8)(hs:dZ D false h=true):dP D 0 (h++b)=dP D 0 h:=by
 obtain⟨j,h0,h1,hd⟩:=Nk hs
 have hx:=Nh hw _ hd
 rw[←List.take_append_drop j h,List.append_assoc,zH _ _ hx,zH _ _ hx]
theorem aeK{D:ay}(hw:jF D){W Z:List UInt8}{en:Bool}{a:Nat}(ha:a≤W.length)(hs:dZ D en (W.drop a)=true)(hz:en=true→Z=[]):jm D (W++Z) a=jm D W a:=by
 cases en with
 | true=>rw[hz rfl,List.append_nil]
 | false=>unfold jm;rw[List.drop_append_of_le_length ha,P7 hw _ hs]
def mG(D:ay)(W:List UInt8)(en:Bool):Nat→Nat→List (Int×Nat×Nat)×Nat
 | 0,a=>([],a)
 | f+1,a=>if dZ D en (W.drop a)=true then (match jm D W a with
   | none=>([],a)
   | some r=>((r.1,a,r.2)::(mG D W en f r.2).1,(mG D W en f r.2).2)) else ([],a)
def kC(D:ay)(W:List UInt8)(en:Bool)(a:Nat):List (Int×Nat×Nat)×Nat:=mG D W en (W.length - a+1) a
structure jC(D:ay)(X:eG)(W:List UInt8):Prop where
 le:X.at_≤W.length
 go:X.sk=false→X.held=W.drop X.at_∧(X.held=[]∨dZ D X.en X.held=false)
 st:X.sk=true→X.held=[]∧X.at_<W.length∧dP D 0 (W.drop X.at_)=none∧dZ D X.en (W.drop X.at_)=true
theorem Xf{D:ay}(W:List UInt8)(en:Bool):∀ (f a:Nat) (h:List UInt8),h=W.drop a→a≤W.length→h.length<f →
  (kQ D en f h a).1=(mG D W en f a).1∧(kQ D en f h a).2.2.1=(mG D W en f a).2∧jC D ⟨(kQ D en f h a).2.1,(kQ D en f h a).2.2.1,en,(kQ D en f h a).2.2.2⟩ W
 | 0,_,_,_,_,h3=>by omega
 | f+1,a,h,h1,h2,h3=>by
  rw[kQ,mG]
  subst h1
  by_cases hs:dZ D en (W.drop a)=true
  ·rw[if_pos hs,if_pos hs]
   unfold jm
   cases hb:dP D 0 (W.drop a) with
   | none =>
    refine⟨rfl,rfl,h2,fun e=>?_,fun e=>?_⟩
    ·dsimp only at e ⊢
     have:¬ 0<(W.drop a).length:=by simpa using e
     exact⟨(List.eq_nil_of_length_eq_zero (by omega)).symm,.inl rfl⟩
    ·dsimp only at e ⊢
     have:=of_decide_eq_true e
     rw[List.length_drop] at this
     exact⟨rfl,by omega,hb,hs⟩
   | some r =>
    obtain⟨k,n⟩:=r
    have h4:=tu _ hb
    rw[List.length_drop] at h4 h3
    dsimp only[Option.map_some]
    obtain⟨g1,g2,g3⟩:=Xf W en f (a+n) ((W.drop a).drop n) (by rw[List.drop_drop]) (by omega) (by rw[List.length_drop,List.length_drop];omega)
    exact⟨by rw[g1],g2,g3⟩
  ·rw[if_neg hs,if_neg hs]
   exact⟨rfl,rfl,h2,fun _=>⟨rfl,.inr (by simpa using hs)⟩,fun e=>by cases e⟩
theorem jC.tell{D:ay}{X:eG}{W:List UInt8}(hh:X.held=W.drop X.at_)(hl:X.at_≤W.length)(hk:X.sk=false) :
  (mF D X).1=(kC D W X.en X.at_).1∧(mF D X).2.at_=(kC D W X.en X.at_).2∧(mF D X).2.en=X.en∧jC D (mF D X).2 W:=by
 unfold mF kC
 rw[hk,if_neg (by decide)]
 have hn:X.held.length=W.length - X.at_:=by rw[hh,List.length_drop]
 rw[←hn]
 obtain⟨g1,g2,g3⟩:=Xf (D:=D) W X.en (X.held.length+1) X.at_ X.held hh hl (by omega)
 exact⟨g1,g2,rfl,g3⟩
theorem Nr{D:ay}{W:List UInt8}{en:Bool}{a:Nat}(hb:dP D 0 (W.drop a)=none):kC D W en a=([],a):=by
 unfold kC mG jm
 rw[hb]
 split <;> rfl
theorem jC.feed{D:ay}(hw:jF D){X:eG}{W:List UInt8}(h:jC D X W)(he:X.en=false)(b:List UInt8) :
  (ji D X b).1=(kC D (W++b) false X.at_).1∧(ji D X b).2.at_=(kC D (W++b) false X.at_).2∧(ji D X b).2.en=false∧jC D (ji D X b).2 (W++b):=by
 obtain⟨held,at_,en,sk⟩:=X
 obtain rfl:en=false:=he
 obtain⟨hle,hgo,hst⟩:=h
 dsimp only at hle hgo hst ⊢
 have hdr:(W++b).drop at_=W.drop at_++b:=List.drop_append_of_le_length hle
 have hll:(W++b).length=W.length+b.length:=List.length_append
 unfold ji
 cases sk with
 | true =>
  obtain⟨h1,h2,h3,h4⟩:=hst rfl
  have hb:dP D 0 ((W++b).drop at_)=none:=by rw[hdr,P7 hw _ h4];exact h3
  rw[if_pos (.inr rfl),Nr hb]
  refine⟨rfl,rfl,rfl,?_,fun e=>(by cases e),fun _=>⟨h1,?_,hb,?_⟩⟩
  ·show at_≤_;omega
  ·show at_<_;omega
  ·show dZ D false ((W++b).drop at_)=true
   rw[hdr];exact abT _ h4 _
 | false =>
  rw[if_neg (by simp)]
  exact jC.tell (D:=D) (X:=⟨held++b,at_,false,false⟩) (W:=W++b) (by show held++b=_;rw[hdr,(hgo rfl).1]) (by show at_≤_;omega) rfl
theorem jC.fin{D:ay}{X:eG}{W:List UInt8}(h:jC D X W)(he:X.en=false) :
  (rY D X).1=(kC D W true X.at_).1∧(rY D X).2.at_=(kC D W true X.at_).2∧(rY D X).2.en=true∧jC D (rY D X).2 W:=by
 obtain⟨held,at_,en,sk⟩:=X
 obtain rfl:en=false:=he
 obtain⟨hle,hgo,hst⟩:=h
 dsimp only at hle hgo hst ⊢
 unfold rY
 rw[if_neg (by simp)]
 cases sk with
 | true =>
  obtain⟨h1,h2,h3,h4⟩:=hst rfl
  rw[Nr h3]
  exact⟨rfl,rfl,rfl,hle,fun e=>(by cases e),fun _=>⟨h1,h2,h3,Ur _ _⟩⟩
 | false=>exact jC.tell (D:=D) (X:=⟨held,at_,true,false⟩) (W:=W) (hgo rfl).1 hle rfl
theorem jC.stuck{D:ay}{X:eG}{W:List UInt8}(h:jC D X W):X.sk=(decide (X.at_<W.length)&&(jm D W X.at_).isNone&&dZ D X.en (W.drop X.at_)):=by
 have hle:=h.le
 cases hk:X.sk with
 | true =>
  obtain⟨_,h2,h3,h4⟩:=h.st hk
  unfold jm
  rw[h3,h4,decide_eq_true h2];rfl
 | false =>
  obtain⟨h1,h2 | h2⟩:=h.go hk
  ·have:=congrArg List.length h1
   rw[h2,List.length_drop,List.length_nil] at this
   rw[decide_eq_false (by omega)];rfl
  ·rw[h1] at h2
   rw[h2,Bool.and_false]
theorem jC.len{D:ay}{X:eG}{W:List UInt8}(h:jC D X W):X.held.length=if X.sk=true then 0 else W.length - X.at_:=by
 cases hk:X.sk with
 | true=>rw[(h.st hk).1];rfl
 | false=>rw[(h.go hk).1,List.length_drop];rfl
theorem abU{D:ay}{w:List UInt8}{a:Nat}{r:Int×Nat}(h:jm D w a=some r):jZ D w (w.length+1) a=((r.1,a,r.2)::(jZ D w (w.length+1) r.2).1,(jZ D w (w.length+1) r.2).2):=by
 obtain⟨k,e⟩:=r
 have:=yL h
 rw[LY w.length e (by omega),jZ,h]
theorem Ey{D:ay}(hw:jF D)(W Z:List UInt8)(en:Bool)(hz:en=true→Z=[]):∀ (f a:Nat),a≤W.length →
  jZ D (W++Z) ((W++Z).length+1) a=((mG D W en f a).1++(jZ D (W++Z) ((W++Z).length+1) (mG D W en f a).2).1,(jZ D (W++Z) ((W++Z).length+1) (mG D W en f a).2).2)
 | 0,a,_=>rfl
 | f+1,a,ha=>by
  rw[mG]
  by_cases hs:dZ D en (W.drop a)=true
  ·rw[if_pos hs]
   cases ht:jm D W a with
   | none=>rfl
   | some r =>
    have h1:=aeK hw ha hs hz
    rw[ht] at h1
    have h2:=yL (k:=r.1) (e:=r.2) ht
    rw[abU h1]
    dsimp only
    rw[Ey hw W Z en hz f r.2 h2.2.1];rfl
  ·rw[if_neg hs];rfl
def Ez(D:ay)(X:eG)(W:List UInt8)(acc:List (Int×Nat×Nat)):Prop:=∀ Z:List UInt8,(X.en=true→Z=[]) →
 jZ D (W++Z) ((W++Z).length+1) 0=(acc++(jZ D (W++Z) ((W++Z).length+1) X.at_).1,(jZ D (W++Z) ((W++Z).length+1) X.at_).2)
theorem Ez.feed{D:ay}(hw:jF D){X:eG}{W:List UInt8}{acc:List (Int×Nat×Nat)}(h:jC D X W)(ha:Ez D X W acc)(he:X.en=false)(b:List UInt8):Ez D (ji D X b).2 (W++b) (acc++(ji D X b).1):=by
 obtain⟨g1,g2,g3,_⟩:=h.feed hw he b
 intro Z _
 have h1:=ha (b++Z) (fun e=>by rw[he] at e;cases e)
 have h2:=Ey hw (W++b) Z false (fun e=>by cases e) ((W++b).length - X.at_+1) X.at_ (by have:=h.le;rw[List.length_append];omega)
 rw[←List.append_assoc] at h1
 rw[h1,h2,g1,g2]
 unfold kC
 rw[List.append_assoc W,List.append_assoc acc]
theorem Ez.fin{D:ay}(hw:jF D){X:eG}{W:List UInt8}{acc:List (Int×Nat×Nat)}(h:jC D X W)(ha:Ez D X W acc)(he:X.en=false):Ez D (rY D X).2 W (acc++(rY D X).1):=by
 obtain⟨g1,g2,g3,_⟩:=h.fin he
 intro Z hz
 obtain rfl:=hz g3
 have h1:=ha [] (fun _=>rfl)
 have h2:=Ey hw W [] true (fun _=>rfl) (W.length - X.at_+1) X.at_ h.le
 rw[h1,h2,g1,g2]
 unfold kC
 rw[List.append_assoc]
theorem Ez.done{D:ay}{X:eG}{W:List UInt8}{acc:List (Int×Nat×Nat)}(h:jC D X W)(ha:Ez D X W acc)(he:X.en=true):jZ D W (W.length+1) 0=(acc,X.at_)∧X.sk=decide (X.at_<W.length)∧X.held=[]:=by
 have h1:=ha [] (fun _=>rfl)
 rw[List.append_nil] at h1
 have key:dP D 0 (W.drop X.at_)=none∧X.sk=decide (X.at_<W.length)∧X.held=[]:=by
  cases hk:X.sk with
  | true =>
   obtain⟨h1,h2,h3,_⟩:=h.st hk
   exact⟨h3,(decide_eq_true h2).symm,h1⟩
  | false =>
   obtain⟨h1,h2 | h2⟩:=h.go hk
   ·rw[h1] at h2
    refine⟨by rw[h2];rfl,?_,by rw[h1,h2]⟩
    have:=congrArg List.length h2
    rw[List.length_drop,List.length_nil] at this
    exact(decide_eq_false (by omega)).symm
   ·rw[he,Ur] at h2;cases h2
 refine⟨?_,key.2⟩
 have h2:jm D W X.at_=none:=by unfold jm;rw[key.1];rfl
 have h3:jZ D W (W.length+1) X.at_=([],X.at_):=by rw[jZ,h2]
 rw[h1,h3,List.append_nil]
end
section
open Go.RowKit
theorem aU.slice{α:Type}{g:Nat}{w w':World}{a:Option Addr}{n cap size:Nat}{enc:α→List Value}{xs:List α}(k:aU g w w')(h:ak w (.slice a n cap) size enc xs)(hg:∀ ad,a=some ad→ad.block≠g):ak w' (.slice a n cap) size enc xs :=
 h.Dw fun ad ha hl=>k.block _ hl (hg ad ha)
def iY(D:ay)(l:List UInt8):Int×Nat:=(dP D 0 l).getD (0,0)
theorem Y7(D:ay)(l:List UInt8)(b:UInt8)(m:Nat)(hm:m=l.length+1):Ih D (jO D (bD D 0 l) b) m (iY D l)=iY D (l++[b]):=by
 subst hm
 unfold iY Ih
 rw[LX,BG]
 by_cases h:labS D (jO D (bD D 0 l) b)=0
 ·rw[if_pos h,if_pos h]
 ·rw[if_neg h,if_neg h];rfl
theorem aeL(sb:Nat)(V:au)(w:World)(lv:Value)(s:Nat)(r:Int×Nat)(x:List Value)(hb:Box w sb (sC V (lv::iE s r++x)) 123) :
  Calls Tryz.prog 168 #[.pointer (some ⟨sb,0,none⟩)] w fun e w'=>e=.returned (.tuple #[])∧Box w' sb (sC V (lv::iE 0 (0,0)++x)) 123∧aU sb w w':=by
 obtain⟨k,b⟩:=r
 have h1:=hb.mV 1 (.int .i64 0)
 have h2:=h1.mV 2 (.int .i64 0)
 have h3:Box _ sb (sC V (lv::iE 0 (0,0)++x)) 123:=h2.mV 3 (.int .i64 0)
 have hO:=(((aU.refl sb w).set 261 (.int .i64 0)).set 262 (.int .i64 0)).set 263 (.int .i64 0)
 have l0:=hb.lt
 have f1:=hb.free 261
 have f2:=h1.free 262
 have f3:=h2.free 263
 have q1:w.cell? ⟨sb,261,none⟩=some (.int .i64 s):=hb.dH 1
 have q2:(w.setCell ⟨sb,261,none⟩ (.int .i64 0)).cell? ⟨sb,262,none⟩=some (.int .i64 k):=h1.dH 2
 have q3:((w.setCell ⟨sb,261,none⟩ (.int .i64 0)).setCell ⟨sb,262,none⟩ (.int .i64 0)).cell? ⟨sb,263,none⟩=some (.int .i64 b):=h2.dH 3
 have H3:=ah h3;have HO:=ah hO
 clear hb h1 h2 h3 hO
 go_enter Tryz.func168,Tryz.ntmps168
 go_wp2
 go_end0
 exact⟨rfl,H3.out,HO.out⟩
def G5(sb:Nat)(w:World):Nat:=match w.cell? ⟨sb,266,none⟩ with
 | some v=>(intOf v).toNat
 | none=>0
def resT(hv:Value)(at_ seen:Nat)(en sk:Bool):List Value:=[hv,.int .i64 at_,.int .i64 seen,.bool en,.bool sk]
theorem ag5(sb top vb:Nat)(V:au)(D:ay)(w0 w:World)(n wd lb lo nb no:Nat)(rb ro rc:Nat→Nat)(hM:zK (Mid sb top w0) V D n wd lb lo nb no vb rb ro rc)(hB:Mid sb top w0 w)
  (held:List UInt8) (ha:Option Addr) (m hc:Nat) (hH:ak w (.slice ha m hc) 1 bf held) (hne:∀ ad,ha=some ad→ad.block≠sb) (at_ j:Nat) (en sk:Bool) (hj:j≤m)
  (hb:Box w sb (sC V (.slice (some ⟨vb,0,none⟩) n n::iE (bD D 0 (held.take j)) (iY D (held.take j))++resT (.slice ha m hc) at_ j en sk)) 123) :
  Calls Tryz.prog 126 #[.pointer (some ⟨sb,0,none⟩)] w fun e w'=>∃ j',j≤j'∧j'≤m∧aU sb w w' ∧
   Box w' sb (sC V (.slice (some ⟨vb,0,none⟩) n n::iE (bD D 0 (held.take j')) (iY D (held.take j'))++resT (.slice ha m hc) at_ j' en sk)) 123∧(∀ i,j<i→i<j'→fP D (bD D 0 (held.take i))=true) ∧
   ((e=.returned (.bool true)∧j<j'∧fP D (bD D 0 (held.take j'))=false)∨(e=.returned (.bool en)∧j'=m∧(j<j'→fP D (bD D 0 (held.take j'))=true))):=by
 have hrun:∀ i,bD D 0 (held.take i)<n:=fun i=>by
  have:∀ (l:List UInt8) (s:Nat),s<n→bD D s l<n:=by
   intro l
   induction l with
   | nil=>intro s h;exact h
   | cons b l ih=>intro s h;rw[rJ];exact ih _ (hM.lt s h _ (hM.of _ b.toNat_lt))
  exact this _ 0 (by have:=hM.ER;omega)
 obtain⟨hbk,ho,hml,hcc,ar1,MW,_⟩:=hH.bY (f:=fun x:UInt8=>Value.int .u8 (x.toNat:Nat))
 have Wh:Hid (∀ u,aU sb w u→∀ i (h:i<held.length),u.cell? ⟨hbk,ho+i,none⟩=some (.int .u8 ((held[i]).toNat:Nat))):=ah fun u hu i h=>by
  obtain⟨b2,o2,_,_,_,ha2,hx2⟩:=(hu.slice hH hne).bY (f:=fun x:UInt8=>Value.int .u8 (x.toNat:Nat))
  have e1:=MW i h
  have e2:=ha2 i h
  rw[e1] at e2
  cases e2
  exact hx2 i h u (Below.refl _ _)
 have HAA:=ah MW;have aoo:=ah hrun;have HM:=ah hM;have HB:=ah hB;have Gu:=ah hml
 have hmb:m≤9223372036854775807:=by omega
 have htk:Hid (∀ i (h:i<held.length),held.take (i+1)=held.take i++[held[i]]):=ah fun i h=>by rw[List.take_add_one,List.getElem?_eq_getElem h];rfl
 have HB0:=ah hb
 clear hH hne hM hB MW hrun hb hml
 go_enter Tryz.func126,Tryz.ntmps126
 go_wp2_with fail
 go_loopw [] (fun wr=>∃ i,j≤i∧i≤m∧aU sb w wr∧Box wr sb (sC V (.slice (some ⟨vb,0,none⟩) n n::iE (bD D 0 (held.take i)) (iY D (held.take i))++resT (.slice ha m hc) at_ i en sk)) 123∧∀ q,j<q→q≤i→fP D (bD D 0 (held.take q))=true) (fun wr=>m - G5 sb wr)
 case atStart=>exact⟨j,Nat.le_refl _,hj,aU.refl _ _,HB0.out,fun q h1 h2=>by omega⟩
 case round =>
  obtain⟨i,hi1,hi2,hO,hbx,hlv⟩:=hrel
  have hms:m - G5 sb wr=m - i:=by
   unfold G5
   rw[show wr.cell? ⟨sb,266,none⟩=some (.int .i64 i) from hbx.dH 6]
   simp[intOf]
  rw[hms]
  have Xg:Hid (∀ u,Later wr.drew u→Box u sb (sC V (.slice (some ⟨vb,0,none⟩) n n::iE (bD D 0 (held.take i)) (iY D (held.take i))++resT (.slice ha m hc) at_ i en sk)) 123∧u.cell? ⟨sb,266,none⟩=some (.int .i64 i)∧u.cell? ⟨sb,264,none⟩=some (.slice ha m hc)∧u.cell? ⟨sb,267,none⟩=some (.bool en)∧aU sb w u):=ah fun u hu=>by
   have h1:Below wr.heap.size wr u:=((Below.refl _ _).drew).trans (hu.mono (Nat.le_refl _))
   have hb2:=hbx.kept h1
   exact⟨hb2,hb2.dH 6,hb2.dH 4,hb2.dH 7,hO.trans (aU.below h1)⟩
  have yS:=ah hlv
  clear hbx hO hlv hms HB0
  go_wp2_with fail
  refine aH (R:=Later) 10 (by kernel_rfl) ?_
  refine pl [0,1,2,3,4,5,6,7,8,9] ?_
  repeat
   refine gU ?_ rfl (fun w1 hl=>?_) ?_
   rotate_left
   ·obtain⟨hbx,q0,q1,_,_⟩:=Xg.out w1 hl;have l0:=hbx.lt;go_simp;try with_reducible rfl
   simp only[eA,eB,eC,Act.put,eD,eE,eF]
  refine dI ?_
  refine aQ (by kernel_rfl) (fun w1 hl=>?_) _
  obtain⟨hbx,_,_,q3,hO⟩:=Xg.out w1 hl
  clear Xg hl
  by_cases hlt:i<m
  ·have hlen:i<held.length:=by rw[←Gu.out];exact hlt
   obtain rfl:=HAA.out i hlen
   have hby:=fun u hu=>Wh.out u hu i hlen
   have ajP:=htk.out i hlen
   have hii:(i:Int)<(m:Int):=by omega
   have hi0:(0:Int)≤(i:Int):=by omega
   have hw1:IntKind.i64.wrap ((i:Int)+1)=(i:Int)+1:=IntWalk.i64_in _ (by omega)
   have HF2:Hid (∀ u,Later w1.drew u→Box u sb (sC V (.slice (some ⟨vb,0,none⟩) n n::iE (bD D 0 (held.take i)) (iY D (held.take i))++resT (.slice (some ⟨hbk,ho,none⟩) m hc) at_ i en sk)) 123∧u.cell? ⟨sb,266,none⟩=some (.int .i64 i)∧u.cell? ⟨sb,264,none⟩=some (.slice (some ⟨hbk,ho,none⟩) m hc)∧u.cell? ⟨hbk,ho+i,none⟩=some (.int .u8 ((held[i]).toNat:Nat))∧aU sb w u):=ah fun u hu=>by
    have h1:Below w1.heap.size w1 u:=((Below.refl _ _).drew).trans (hu.mono (Nat.le_refl _))
    have hb2:=hbx.kept h1
    have hO2:=hO.trans (aU.below h1)
    exact⟨hb2,hb2.dH 6,hb2.dH 4,hby u hO2,hO2⟩
   have uz:=ah ajP
   clear hbx hO hby q3 ajP
   generalize held[i]=c at *
   go_wp2_with fail
   refine aH (R:=Later) 11 (by kernel_rfl) ?_
   refine pl [0,1,2,3,4,5,6,7,8,9,10] ?_
   repeat
    refine gU ?_ rfl (fun w1 hl=>?_) ?_
    rotate_left
    ·obtain⟨hbx,q0,q1,q2,_⟩:=HF2.out w1 hl;have l0:=hbx.lt;have l1:=World.block_lt_of_cell? w1 _ q2;go_simp;try with_reducible rfl
    simp only[eA,eB,eC,Act.put,eD,eE,eF]
   refine dI ?_
   refine aQ (by kernel_rfl) (fun w1 hl=>?_) _
   obtain⟨hbx,q0,_,_,hO⟩:=HF2.out w1 hl
   have l0:=hbx.lt
   have f0:=hbx.free 266
   have hb3:Box (w1.setCell ⟨sb,266,none⟩ (.int .i64 ((i:Int)+1))) sb (sC V (.slice (some ⟨vb,0,none⟩) n n::iE (bD D 0 (held.take i)) (iY D (held.take i))++resT (.slice (some ⟨hbk,ho,none⟩) m hc) at_ (i+1) en sk)) 123:=hbx.mV 6 (.int .i64 ((i:Int)+1))
   have hO3:=hO.set 266 (.int .i64 ((i:Int)+1))
   have HB3:=ah hb3;have HO3:=ah hO3
   clear HF2 hl hbx hO hb3 hO3
   go_wp2_with fail
   generalize w1.setCell ⟨sb,266,none⟩ (.int .i64 ((i:Int)+1))=w2 at *
   have Xh:Hid (∀ u,Later w2.drew u→Box u sb (sC V (.slice (some ⟨vb,0,none⟩) n n::iE (bD D 0 (held.take i)) (iY D (held.take i))++resT (.slice (some ⟨hbk,ho,none⟩) m hc) at_ (i+1) en sk)) 123∧u.cell? ⟨sb,266,none⟩=some (.int .i64 ((i+1:Nat):Int))∧aU sb w u):=ah fun u hu=>by
    have h1:Below w2.heap.size w2 u:=((Below.refl _ _).drew).trans (hu.mono (Nat.le_refl _))
    have hb2:=HB3.out.kept h1
    exact⟨hb2,hb2.dH 6,HO3.out.trans (aU.below h1)⟩
   clear HB3 HO3 q0 l0 f0
   refine jq (R:=Later) [8,8] (by kernel_rfl) ?_
   refine pl [0,1,2,3,4,5,6] ?_
   repeat
    refine qV ?_ rfl (fun w1=>?_) ?_
    rotate_left
    ·go_simp;try with_reducible rfl
    simp only[eA,eB,eC,Act.put,eD,eE,eF]
   refine dI ?_
   refine EJ 7 ?_ rfl (fun w1 hl=>?_) ?_
   rotate_left
   ·obtain⟨hbx,q0,_⟩:=Xh.out w1 hl;have l0:=hbx.lt;go_simp;try with_reducible rfl
   simp only[eA,eB,eC,Act.put,eD,eE,eF]
   refine fH (T:=[8,8]) (i:=8) (by kernel_rfl) rfl (fun w1 hl K hK=>?_)
   obtain⟨hbx,q0,hO⟩:=Xh.out w1 hl
   have l0:=hbx.lt
   clear hl Xh
   go_simp
   refine(ag4 sb top vb V D w0 w1 n wd lb lo nb no rb ro rc HM.out (HB.out.only hO) 0 _ _ _ rfl hbx (aoo.out i) c (i+1)).mono ?_
   rintro e wp ⟨rfl,hb5,GX⟩
   have Np:=hO.trans GX
   have e1:jO D (bD D 0 (held.take i)) c=bD D 0 (held.take (i+1)):=by rw[uz.out,BG]
   have e2:Ih D (jO D (bD D 0 (held.take i)) c) (i+1) (iY D (held.take i))=iY D (held.take (i+1)):=by
    rw[uz.out]
    exact Y7 D _ c _ (by rw[List.length_take,Nat.min_eq_left (Nat.le_of_lt hlen)])
   rw[e2,e1] at hb5
   rw[e1]
   obtain⟨lq,hlq⟩:∃ y,fP D (bD D 0 (held.take (i+1)))=y:=⟨_,rfl⟩
   have HLQ:=ah hlq
   rw[hlq]
   refine hK.out _ _ (fun h=>absurd h (by decide)) ?_
   clear hK K e1 e2 hlq hO GX hbx q0 l0
   refine QK 9 ?_ rfl (fun w1=>?_) ?_
   rotate_left
   ·go_simp;try with_reducible rfl
   simp only[eA,eB,eC,Act.put,eD,eE,eF]
   refine nK (by kernel_rfl) (fun w1 hl=>?_) _
   have hb6:=hb5.kept hl
   have Dy:=Np.trans (aU.below hl)
   have hsn:G5 sb w1=i+1:=by
    unfold G5
    rw[show w1.cell? ⟨sb,266,none⟩=some (.int .i64 ((i+1:Nat):Int)) from hb6.dH 6]
    simp[intOf]
   have Px:=ah hb6;have P5:=ah Dy;have HSN:=ah hsn
   clear hb5 Np hb6 Dy hsn hl
   cases lq with
   | false =>
    go_wp2
    go_ret
    exact⟨i+1,by omega,hlt,P5.out,Px.out,fun q h1 h2=>yS.out q h1 (by omega),.inl ⟨rfl,by omega,HLQ.out⟩⟩
   | true =>
    go_wp2
    refine⟨⟨i+1,by omega,hlt,P5.out,Px.out,fun q h1 h2=>?_⟩,by rw[HSN.out];omega⟩
    by_cases e:q=i+1
    ·rw[e];exact HLQ.out
    ·exact yS.out q h1 (by omega)
  ·obtain rfl:i=m:=by omega
   have hii:¬ (i:Int)<(i:Int):=by omega
   have l0:=hbx.lt
   have yO:=ah hbx;have HO:=ah hO
   clear hbx hO
   go_wp2
   go_ret
   exact⟨i,hi1,Nat.le_refl _,HO.out,yO.out,fun q h1 h2=>yS.out q h1 (Nat.le_of_lt h2),.inr ⟨rfl,rfl,fun h=>yS.out i h (Nat.le_refl _)⟩⟩
end
section
open Go.RowKit
theorem P8(sb:Nat)(V:au)(w:World)(lv:Value)(s:Nat)(k:Int)(ha:Option Addr)(m hc at_ seen:Nat)(en sk:Bool)(hb:Box w sb (sC V (lv::iE s (k,0)++resT (.slice ha m hc) at_ seen en sk)) 123) :
  Calls Tryz.prog 127 #[.pointer (some ⟨sb,0,none⟩)] w fun e w'=>e=.returned (.tuple #[.agg #[.int .i64 0,.int .i64 0,.int .i64 0],.bool false])∧Box w' sb (sC V (lv::iE s (k,0)++resT (.slice ha m hc) at_ seen en (decide (0<m)))) 123∧aU sb w w':=by
 have hal:=aj w (.cells #[.int .i64 0,.int .i64 0,.int .i64 0] 61)
 have hz:=Box.new w #[.int .i64 0,.int .i64 0,.int .i64 0] 61
 have h1:=hb.kept hal
 have hO1:=aU.below (g:=sb) hal
 have hlt:=hb.lt
 have h2:Box ((w.setCell ⟨sb,268,none⟩ (.bool (decide (0<m)))).alloc (.cells #[.int .i64 0,.int .i64 0,.int .i64 0] 61)) sb (sC V (lv::iE s (k,0)++resT (.slice ha m hc) at_ seen en (decide (0<m)))) 123:=(hb.mV 8 (.bool (decide (0<m)))).alloc _
 have hO2:aU sb w ((w.setCell ⟨sb,268,none⟩ (.bool (decide (0<m)))).alloc (.cells #[.int .i64 0,.int .i64 0,.int .i64 0] 61)):=((aU.refl sb w).set 268 (.bool (decide (0<m)))).trans (aU.below (aj _ _))
 have hz2:Box ((w.setCell ⟨sb,268,none⟩ (.bool (decide (0<m)))).alloc (.cells #[.int .i64 0,.int .i64 0,.int .i64 0] 61)) w.heap.size #[.int .i64 0,.int .i64 0,.int .i64 0] 61:=Box.new' (World.size_setCell _ _ _).symm _ _
 have q1:(w.alloc (.cells #[.int .i64 0,.int .i64 0,.int .i64 0] 61)).cell? ⟨sb,263,none⟩=some (.int .i64 0):=h1.dH 3
 have q2:(w.alloc (.cells #[.int .i64 0,.int .i64 0,.int .i64 0] 61)).cell? ⟨sb,264,none⟩=some (.slice ha m hc):=h1.dH 4
 have q3:(w.alloc (.cells #[.int .i64 0,.int .i64 0,.int .i64 0] 61)).cell? ⟨sb,268,none⟩=some (.bool sk):=h1.dH 8
 have f3:=h1.free 268
 have HZ2:=ah hz2;have H2:=ah h2;have HO2:=ah hO2
 have hd:decide ((0:Int)<(m:Int))=decide (0<m):=by simp
 clear hb h1 hO1 h2 hO2 hz2 hz hal
 go_enter Tryz.func127,Tryz.ntmps127
 go_wp2
 refine bodyPost_ret (dK rfl _ _ w.heap.size 61 _ (.bool false) rfl rfl HZ2.out Tryz.underlying61 rfl (by kernel_rfl)) rfl ?_
 exact⟨rfl,H2.out,HO2.out⟩
end
section
open Go.RowKit
theorem aU.late{g:Nat}{w w':World}(h:aU g w w'){b:Nat}(hb:w.heap.size≤b)(i:Nat)(u:Value):aU g w (w'.setCell ⟨b,i,none⟩ u) :=
 ⟨h.os,h.tape,h.output,by rw[World.size_setCell];exact h.size,fun c hc hn=>(heap_setCell_other _ _ _ _ (by show c≠b;omega)).trans (h.block c hc hn)⟩
def xJ(m t:Nat)(a:Option Addr):Option Addr:=if m=t then a else a.map fun x:Addr=>x.add t
theorem Y8(sb:Nat)(V:au)(w:World)(lv:Value)(s:Nat)(k:Int)(bt:Nat)(ha:Option Addr)(m hc at_ seen:Nat)(en sk:Bool)(hbt:0<bt)(hbm:bt≤m)(hmc:m≤hc)(hcc:hc≤9223372036854775807)(hat:at_+bt≤9223372036854775807)
  (hb:Box w sb (sC V (lv::iE s (k,bt)++resT (.slice ha m hc) at_ seen en sk)) 123) :
  Calls Tryz.prog 127 #[.pointer (some ⟨sb,0,none⟩)] w fun e w'=>e=.returned (.tuple #[.agg (wQ k at_ (at_+bt)),.bool true])∧Box w' sb (sC V (lv::iE 0 (0,0)++resT (.slice (xJ m bt ha) (m - bt) (m - bt)) (at_+bt) 0 en sk)) 123∧aU sb w w':=by
 have hal:=aj w (.cells #[.int .i64 0,.int .i64 0,.int .i64 0] 61)
 have hz:=Box.new w #[.int .i64 0,.int .i64 0,.int .i64 0] 61
 have h1:=hb.kept hal
 have hO1:=aU.below (g:=sb) hal
 have hlt:=hb.lt
 have q1:(w.alloc (.cells #[.int .i64 0,.int .i64 0,.int .i64 0] 61)).cell? ⟨sb,263,none⟩=some (.int .i64 bt):=h1.dH 3
 have e0:((bt:Int)==0)=false:=by simp;omega
 have H1:=ah h1;have HO1:=ah hO1;have HZ:=ah hz
 clear hb h1 hO1 hz hal
 go_enter Tryz.func127,Tryz.ntmps127
 go_wp2_with fail
 clear q1
 generalize w.alloc (.cells #[.int .i64 0,.int .i64 0,.int .i64 0] 61)=W at *
 generalize hzb:w.heap.size=zb at *
 have HF:Hid (∀ u,Later W.drew u→Box u sb (sC V (lv::iE s (k,bt)++resT (.slice ha m hc) at_ seen en sk)) 123∧u.cell? ⟨sb,262,none⟩=some (.int .i64 k)∧u.cell? ⟨sb,263,none⟩=some (.int .i64 bt)∧u.cell? ⟨sb,265,none⟩=some (.int .i64 at_)∧Box u zb #[.int .i64 0,.int .i64 0,.int .i64 0] 61∧aU sb w u):=ah fun u hu=>by
  have h1:Below W.heap.size W u:=((Below.refl _ _).drew).trans (hu.mono (Nat.le_refl _))
  have hb2:=H1.out.kept h1
  exact⟨hb2,hb2.dH 2,hb2.dH 3,hb2.dH 5,HZ.out.kept h1,HO1.out.trans (aU.below h1)⟩
 have hw1:IntKind.i64.wrap ((at_:Int)+(bt:Int))=(at_:Int)+(bt:Int):=IntWalk.i64_in _ (by omega)
 refine aH (R:=Later) 21 (by kernel_rfl) ?_
 refine pl [0,1,2,3,4,5,6,7,8,9,10,11,12,13,14,15,16,17,18,19] ?_
 repeat
  refine gU ?_ rfl (fun w1 hl=>?_) ?_
  rotate_left
  ·obtain⟨hbx,q0,q1,q2,_⟩:=HF.out w1 hl;have l0:=hbx.lt;go_simp;try with_reducible rfl
  simp only[eA,eB,eC,Act.put,eD,eE,eF]
 refine dI ?_
 refine aW (t:=21) (i:=20) (by kernel_rfl) rfl (fun w1 hl K hK=>?_)
 obtain⟨hbx,q0,q1,q2,hz,hO⟩:=HF.out w1 hl
 have lz:=hz.lt
 clear hl HF
 go_simp
 refine hK.out _ _ (fun _=>aj _ _) ?_
 clear hK K q0 q1 q2
 have ht:=Box.new w1 #[.int .i64 0,.int .i64 0,.int .i64 0] 61
 have hal:=aj w1 (.cells #[.int .i64 0,.int .i64 0,.int .i64 0] 61)
 have hb2:=hbx.kept hal
 have hz2:=hz.kept hal
 have hO2:=hO.trans (aU.below hal)
 have Ku:sb≠w1.heap.size:=Nat.ne_of_lt hbx.lt
 have hzt:zb≠w1.heap.size:=Nat.ne_of_lt lz
 have htb:zb≤w1.heap.size:=by rw[←hzb];exact hO.size
 clear hbx hz hO hal lz
 generalize w1.alloc (.cells #[.int .i64 0,.int .i64 0,.int .i64 0] 61)=W2 at *
 generalize w1.heap.size=tb at *
 refine aW (t:=21) (i:=21) (by kernel_rfl) rfl (fun w1 hl K hK=>?_)
 have ht3:=ht.kept hl
 have hb3:=hb2.kept hl
 have hz3:=hz2.kept hl
 have hO3:=hO2.trans (aU.below hl)
 have r0:w1.cell? ⟨tb,0,none⟩=some (.int .i64 0):=ht3.cell 0
 have r1:w1.cell? ⟨tb,1,none⟩=some (.int .i64 0):=ht3.cell 1
 have r2:w1.cell? ⟨tb,2,none⟩=some (.int .i64 0):=ht3.cell 2
 have g0:=ht3.free 0
 have g1:=ht3.free 1
 have g2:=ht3.free 2
 have lt3:=ht3.lt
 clear hl ht hb2 hz2 hO2
 go_simp
 refine hK.out _ _ (fun h=>absurd rfl h) ?_
 clear hK K r0 r1 r2 g0 g1 g2
 have aeM:w.heap.size≤tb:=by rw[hzb];exact htb
 have oI:Box (((w1.setCell ⟨tb,0,none⟩ (.int .i64 k)).setCell ⟨tb,1,none⟩ (.int .i64 (at_:Nat))).setCell ⟨tb,2,none⟩ (.int .i64 ((at_:Int)+(bt:Int)))) tb #[.int .i64 k,.int .i64 (at_:Nat),.int .i64 ((at_:Int)+(bt:Int))] 61:=((ht3.set 0 _).set 1 _).set 2 _
 have hb4:=((hb3.other ⟨tb,0,none⟩ (.int .i64 k) Ku).other ⟨tb,1,none⟩ (.int .i64 (at_:Nat)) Ku).other ⟨tb,2,none⟩ (.int .i64 ((at_:Int)+(bt:Int))) Ku
 have wV:=((hz3.other ⟨tb,0,none⟩ (.int .i64 k) hzt).other ⟨tb,1,none⟩ (.int .i64 (at_:Nat)) hzt).other ⟨tb,2,none⟩ (.int .i64 ((at_:Int)+(bt:Int))) hzt
 have hO4:=((hO3.late aeM 0 (.int .i64 k)).late aeM 1 (.int .i64 (at_:Nat))).late aeM 2 (.int .i64 ((at_:Int)+(bt:Int)))
 clear ht3 hb3 hz3 hO3 lt3
 generalize ((w1.setCell ⟨tb,0,none⟩ (.int .i64 k)).setCell ⟨tb,1,none⟩ (.int .i64 (at_:Nat))).setCell ⟨tb,2,none⟩ (.int .i64 ((at_:Int)+(bt:Int)))=W5 at *
 refine aQ (by kernel_rfl) (fun w1 hl=>?_) _
 have oJ:=oI.kept hl
 have hb5:=hb4.kept hl
 have hz5:=wV.kept hl
 have GX:=hO4.trans (aU.below hl)
 clear oI hb4 wV hO4 hl
 have q1:w1.cell? ⟨sb,264,none⟩=some (.slice ha m hc):=hb5.dH 4
 have l0:=hb5.lt
 have nG:=ah hb5;have P9:=ah oJ;have HZ5:=ah hz5;have Jl:=ah GX
 clear hb5 oJ hz5 GX
 go_wp2_with fail
 have HF6:Hid (∀ u,Later w1.drew u→Box u sb (sC V (lv::iE s (k,bt)++resT (.slice ha m hc) at_ seen en sk)) 123∧u.cell? ⟨sb,264,none⟩=some (.slice ha m hc)∧u.cell? ⟨sb,263,none⟩=some (.int .i64 bt)∧Box u tb #[.int .i64 k,.int .i64 (at_:Nat),.int .i64 ((at_:Int)+(bt:Int))] 61∧Box u zb #[.int .i64 0,.int .i64 0,.int .i64 0] 61∧aU sb w u):=ah fun u hu=>by
  have h1:Below w1.heap.size w1 u:=((Below.refl _ _).drew).trans (hu.mono (Nat.le_refl _))
  have hb2:=nG.out.kept h1
  exact⟨hb2,hb2.dH 4,hb2.dH 3,P9.out.kept h1,HZ5.out.kept h1,Jl.out.trans (aU.below h1)⟩
 clear q1 l0 nG P9 HZ5 Jl
 have i1:(bt:Int)≤(m:Int):=by omega
 have i2:(m:Int)≤(hc:Int):=by omega
 have d1:decide (m<bt)=false:=decide_eq_false (by omega)
 have d2:decide (hc<m)=false:=decide_eq_false (by omega)
 have hif:(if m=bt then ha else ha.map fun x:Addr=>x.add bt)=xJ m bt ha:=rfl
 refine aH (R:=Later) 15 (by kernel_rfl) ?_
 refine pl [0,1,2,3,4,5,6,7,8,9,10,11,12,13,14] ?_
 repeat
  refine gU ?_ rfl (fun w1 hl=>?_) ?_
  rotate_left
  ·obtain⟨hbx,q0,q1,_⟩:=HF6.out w1 hl;have l0:=hbx.lt;go_simp;try with_reducible rfl
  simp only[eA,eB,eC,Act.put,eD,eE,eF]
 refine dI ?_
 refine aW (t:=15) (i:=15) (by kernel_rfl) rfl (fun w1 hl K hK=>?_)
 obtain⟨hbx,q0,_,ht,hz,hO⟩:=HF6.out w1 hl
 have l0:=hbx.lt
 have f0:=hbx.free 264
 clear hl HF6
 go_simp
 refine hK.out _ _ (fun h=>absurd rfl h) ?_
 clear hK K q0 l0 f0
 have hb6:=hbx.mV 4 (.slice (xJ m bt ha) (m - bt) (m - bt))
 have IW:=ht.other ⟨sb,264,none⟩ (.slice (xJ m bt ha) (m - bt) (m - bt)) (Ne.symm Ku)
 have WL:=hz.other ⟨sb,264,none⟩ (.slice (xJ m bt ha) (m - bt) (m - bt)) (Nat.ne_of_gt hlt)
 have Np:=hO.set 264 (.slice (xJ m bt ha) (m - bt) (m - bt))
 clear hbx ht hz hO
 generalize w1.setCell ⟨sb,264,none⟩ (.slice (xJ m bt ha) (m - bt) (m - bt))=W6 at *
 refine aQ (by kernel_rfl) (fun w1 hl=>?_) _
 have hb7:=hb6.kept hl
 have IL:=IW.kept hl
 have Bv:=WL.kept hl
 have Dy:=Np.trans (aU.below hl)
 clear hb6 IW WL Np hl
 have hzs:zb≠sb:=Nat.ne_of_gt hlt
 have t2:w1.cell? ⟨tb,2,none⟩=some (.int .i64 ((at_:Int)+(bt:Int))):=IL.cell 2
 have q5:w1.cell? ⟨sb,265,none⟩=some (.int .i64 at_):=hb7.dH 5
 have l0:=hb7.lt
 have lt:=IL.lt
 have f5:=hb7.free 265
 have hb8:=hb7.mV 5 (.int .i64 ((at_:Int)+(bt:Int)))
 have q6:(w1.setCell ⟨sb,265,none⟩ (.int .i64 ((at_:Int)+(bt:Int)))).cell? ⟨sb,266,none⟩=some (.int .i64 seen):=hb8.dH 6
 have f6:=hb8.free 266
 have Jk:Box ((w1.setCell ⟨sb,265,none⟩ (.int .i64 ((at_:Int)+(bt:Int)))).setCell ⟨sb,266,none⟩ (.int .i64 0)) sb (sC V (lv::iE s (k,bt)++resT (.slice (xJ m bt ha) (m - bt) (m - bt)) (at_+bt) 0 en sk)) 123:=hb8.mV 6 (.int .i64 0)
 have ht9:=(IL.other ⟨sb,265,none⟩ (.int .i64 ((at_:Int)+(bt:Int))) (Ne.symm Ku)).other ⟨sb,266,none⟩ (.int .i64 0) (Ne.symm Ku)
 have hz9:=(Bv.other ⟨sb,265,none⟩ (.int .i64 ((at_:Int)+(bt:Int))) hzs).other ⟨sb,266,none⟩ (.int .i64 0) hzs
 have hO9:=(Dy.set 265 (.int .i64 ((at_:Int)+(bt:Int)))).set 266 (.int .i64 0)
 have H9:=ah Jk;have HT9:=ah ht9;have HZ9:=ah hz9;have HO9:=ah hO9
 clear hb7 IL Bv Dy hb8 Jk ht9 hz9 hO9
 go_wp2_with fail
 clear t2 q5 l0 lt f5 q6 f6
 refine(aeL sb V _ lv s (k,bt) _ H9.out).mono ?_
 rintro e w3 ⟨rfl,ajS,Y9⟩
 generalize ((w1.setCell ⟨sb,265,none⟩ (.int .i64 ((at_:Int)+(bt:Int)))).setCell ⟨sb,266,none⟩ (.int .i64 0))=W9 at *
 have Ut:=Y9.box HT9.out (Ne.symm Ku)
 have EC:=Y9.box HZ9.out hzs
 have t0:w3.cell? ⟨tb,0,none⟩=some (.int .i64 k):=Ut.cell 0
 have t1:w3.cell? ⟨tb,1,none⟩=some (.int .i64 at_):=Ut.cell 1
 have t3:w3.cell? ⟨tb,2,none⟩=some (.int .i64 ((at_:Int)+(bt:Int))):=Ut.cell 2
 have lt2:=Ut.lt
 have z0:w3.cell? ⟨zb,0,none⟩=some (.int .i64 0):=EC.cell 0
 have z1:w3.cell? ⟨zb,1,none⟩=some (.int .i64 0):=EC.cell 1
 have z2:w3.cell? ⟨zb,2,none⟩=some (.int .i64 0):=EC.cell 2
 have g0:=EC.free 0
 have g1:=EC.free 1
 have g2:=EC.free 2
 have lz:=EC.lt
 have oO:Hid (Box (((w3.setCell ⟨zb,0,none⟩ (.int .i64 k)).setCell ⟨zb,1,none⟩ (.int .i64 at_)).setCell ⟨zb,2,none⟩ (.int .i64 ((at_:Int)+(bt:Int)))) zb (wQ k at_ (at_+bt)) 61):=ah (((EC.set 0 _).set 1 _).set 2 _)
 have Gm:Hid (Box (((w3.setCell ⟨zb,0,none⟩ (.int .i64 k)).setCell ⟨zb,1,none⟩ (.int .i64 at_)).setCell ⟨zb,2,none⟩ (.int .i64 ((at_:Int)+(bt:Int)))) sb (sC V (lv::iE 0 (0,0)++resT (.slice (xJ m bt ha) (m - bt) (m - bt)) (at_+bt) 0 en sk)) 123):=ah (by
  exact((ajS.other ⟨zb,0,none⟩ (.int .i64 k) (Ne.symm hzs)).other ⟨zb,1,none⟩ (.int .i64 at_) (Ne.symm hzs)).other ⟨zb,2,none⟩ (.int .i64 ((at_:Int)+(bt:Int))) (Ne.symm hzs))
 have IB:Hid (aU sb w (((w3.setCell ⟨zb,0,none⟩ (.int .i64 k)).setCell ⟨zb,1,none⟩ (.int .i64 at_)).setCell ⟨zb,2,none⟩ (.int .i64 ((at_:Int)+(bt:Int))))):=ah ((((HO9.out.trans Y9).late (Nat.le_of_eq hzb) 0 (.int .i64 k)).late (Nat.le_of_eq hzb) 1 (.int .i64 at_)).late (Nat.le_of_eq hzb) 2 (.int .i64 ((at_:Int)+(bt:Int))))
 clear ajS Y9 Ut EC H9 HT9 HZ9 HO9
 go_wp2
 refine bodyPost_ret (dK rfl _ _ zb 61 (wQ k at_ (at_+bt)) (.bool true) rfl rfl oO.out Tryz.underlying61 rfl (by kernel_rfl)) rfl ?_
 exact⟨rfl,Gm.out,IB.out⟩
end
end Go.Proofs.YtbemonecmmnlcaaGreatDoor
