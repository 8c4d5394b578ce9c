/- MunchWhole: pieces of tokens are not empty, stand one behind the other, and are the text up to the place; each is told by its label, and no longer one is. No condition. The texts of B46, in few letters (mini.py). -/
import Derived.Test.YtaoinbjjolikhaaGreatDoorM36
import Derived.Test.YtaoinbjjolikhaaGreatDoorM40
import Derived.Test.YtaoinbjjolikhaaGreatDoorM43
set_option linter.unusedVariables false
set_option linter.unusedSimpArgs false
set_option maxRecDepth 20000
set_option maxHeartbeats 6400000
namespace Go.Proofs.YtaoinbjjolikhaaGreatDoor
open Go.RowKit Go.ChangeShapes Go.WideShapes Go.ChangeAt
def Cm(a:Nat)(L:List (Int×Nat×Nat))(i:Nat):Nat:=if i=0 then a else (L.getD (i - 1) (0,0,0)).2.2
theorem UZ(a:Nat)(x:Int×Nat×Nat)(L:List (Int×Nat×Nat))(i:Nat):Cm a (x::L) (i+1)=Cm x.2.2 L i:=by
 cases i with
 | zero=>simp[Cm]
 | succ i=>simp[Cm]
theorem NT(D:aT)(t:List UInt8):∀ (f a:Nat),t.length<a+f→(∀ i (h:i<(eG D t f a).1.length),((eG D t f a).1[i]).2.1=Cm a (eG D t f a).1 i∧kU D t (Cm a (eG D t f a).1 i)=some (((eG D t f a).1[i]).1,((eG D t f a).1[i]).2.2)) ∧
  (eG D t f a).2=Cm a (eG D t f a).1 (eG D t f a).1.length∧kU D t (eG D t f a).2=none
 | 0,a,hf=>by
  refine⟨fun i h=>by simp[eG] at h,rfl,?_⟩
  show kU D t a=none
  cases ht:kU D t a with
  | none=>rfl
  | some r=>obtain⟨k,e⟩:=r;have:=nD ht;omega
 | f+1,a,hf=>by
  cases ht:kU D t a with
  | none =>
   have h0:eG D t (f+1) a=([],a):=by rw[eG,ht]
   rw[h0]
   exact⟨fun i h=>by simp at h,rfl,ht⟩
  | some r =>
   obtain⟨k,e⟩:=r
   have h1:=nD ht
   have h0:eG D t (f+1) a=((k,a,e)::(eG D t f e).1,(eG D t f e).2):=by rw[eG,ht]
   obtain⟨g1,g2,g3⟩:=NT D t f e (by omega)
   rw[h0]
   generalize eG D t f e=R at *
   refine⟨fun i h=>?_,?_,g3⟩
   ·cases i with
    | zero=>exact⟨rfl,ht⟩
    | succ i =>
     have h':i<R.1.length:=by simpa using h
     have:=g1 i h'
     simp only[List.getElem_cons_succ]
     rw[UZ]
     exact this
   ·show R.2=Cm a ((k,a,e)::R.1) (R.1.length+1)
    rw[UZ];exact g2
theorem OU(V:aG)(D:aT)(t:List UInt8)(ta:Option Addr)(n tc:Nat)(w:World)(h:dS w V D)(hl:∀ x∈D.names,x.length≤9223372036854775807)(ht:ak w (.slice ta n tc) 1 bQ t)(hT:Tab w)(hM:xU w) :
  Calls Tryz.prog 6 #[.agg V.cells,.slice ta n tc] w (aX w (.bool true)):=by
 obtain⟨tb,zC,hn,htc,YW,hta,_⟩:=ht.open
 have hx:=Box.new w V.cells 27
 have hb0:=aj w (.cells V.cells 27)
 have HK:=ah (fun u (hu:Below w.heap.size w u)=>OO u (hT.kept hu) (hM.kept hu))
 by_cases hbig:n≤200
 case neg =>
  have d60:decide (200<(n:Int))=true:=decide_eq_true (by omega)
  clear h hl ht hT hM hbig hn htc hta
  go_enter Tryz.func6,Tryz.ntmps6
  go_wp2_with (go_at_call 10;go_must (refine(HK.out _ hb0).mono ?_;rintro e w2 ⟨rfl,hb2⟩))
  go_ret
  exact⟨rfl,hb0.trans (hb2.mono hb0.size)⟩
 have d60:decide (200<(n:Int))=false:=decide_eq_false (by omega)
 cases hr:fH D with
 | false =>
  have H1:=ah (fun u (hu:Below w.heap.size w u)=>H6 V D u (.slice ta n tc) (h.kept hu) hl hr)
  have H2:=ah (fun u (hu:Below w.heap.size w u)=>hr▸rM V D u (h.kept hu) hl)
  clear h hl ht hT hM hbig hr hn htc hta
  go_enter Tryz.func6,Tryz.ntmps6
  go_wp2_with (first | (go_at_call 11;go_must (refine(H1.out _ hb0).mono ?_;rintro e w2 ⟨a2,c2,rfl,ho2,hb2⟩;have hB2:=hb0.trans (hb2.mono hb0.size);have hx2:=hx.kept hb2)) | (refine aC (by rfl) 27 _ rfl w.heap.size rfl _ _ _ _ hx Tryz.underlying27 rfl (aQ _) ?_) | (refine aC (by rfl) 27 _ rfl w.heap.size rfl _ _ _ _ hx2 Tryz.underlying27 rfl (aQ _) ?_) | (go_at_call 20;go_must (refine(H2.out _ hB2).mono ?_;rintro e w3 ⟨rfl,hb3⟩;have hB3:=hB2.trans (hb3.mono hB2.size))) | (go_at_call 10;go_must (refine(HK.out _ hB3).mono ?_;rintro e w5 ⟨rfl,hb5⟩;have bF:=hB3.trans (hb5.mono hB3.size))))
  go_ret
  exact⟨rfl,bF⟩
 | true =>
  have h1:=fun u (hu:Below w.heap.size w u)=>Hy V D t ta n tc u (h.kept hu) hl hr (ht.kept hu) (by omega)
  obtain⟨g1,g2,g3⟩:=NT D t (t.length+1) 0 (by omega)
  have Y8:Hid (∀ (a e:Nat) (u:World),Below w.heap.size w u→a<e→e≤t.length→Calls Tryz.prog 21 #[.agg V.cells,.slice (ta.map (fun x:Addr=>x.add a)) (e - a) (tc - a)] u (aX u (.int .i64 (labS D (dH D 0 ((t.drop a).take (e - a))))))):=ah fun a e u hu h1 h2=>by
   have hs:=(ht.kept hu).piece (f:=fun x:UInt8=>Value.int .u8 (x.toNat:Nat)) a e (Nat.le_of_lt h1) (hn▸h2)
   rw[if_neg (by omega)] at hs
   exact aeB V D _ _ _ _ u (h.kept hu) hl hr hs
  unfold yT at h1
  generalize eG D t (t.length+1) 0=R at *
  obtain⟨L,m⟩:=R
  dsimp only at h1 g1 g2 g3
  have H1:=ah h1
  have hm:m≤t.length:=by
   rw[g2]
   unfold Cm
   by_cases e:L.length=0
   ·rw[if_pos e];exact Nat.zero_le _
   ·rw[if_neg e]
    have:=g1 (L.length - 1) (by omega)
    have h2:=nD this.2
    rw[List.getD_eq_getElem?_getD,List.getElem?_eq_getElem (by omega)]
    exact h2.2.1
  have hnx:oq D t (m:Nat)=NH:=by
   unfold oq pG
   rw[if_pos ⟨hr,by omega,by omega⟩,Int.toNat_natCast,g3]
  have H2:=ah (fun u (hu:Below w.heap.size w u)=>hnx▸Xi V D t ta n tc (m:Nat) u (h.kept hu) hl (ht.kept hu) (by omega))
  have Js:=ah hta
  have HG1:Hid (∀ i (h:i<L.length),∃ (k:Int) (a e:Nat),L[i]=(k,a,e)∧Cm 0 L i=a∧Cm 0 L (i+1)=e∧a<e∧e≤t.length∧k≠0∧labS D (dH D 0 ((t.drop a).take (e - a)))=k∧∀ q,e<q→q≤t.length→labS D (dH D 0 ((t.drop a).take (q - a)))=0):=ah fun i hi=>by
   obtain⟨h1,h2⟩:=g1 i hi
   have h3:=nD h2
   refine⟨L[i].1,L[i].2.1,L[i].2.2,rfl,h1.symm,?_,by rw[h1];exact h3.1,h3.2.1,h3.2.2.1,by rw[h1];exact h3.2.2.2.1,by rw[h1];exact h3.2.2.2.2⟩
   unfold Cm
   rw[if_neg (by omega),Nat.add_sub_cancel,List.getD_eq_getElem?_getD,List.getElem?_eq_getElem hi]
   rfl
  have HM:=ah g2
  have hLl:L.length≤9223372036854775806:=by
   have h2:∀ i,i≤L.length→i≤Cm 0 L i:=by
    intro i
    induction i with
    | zero=>intro _;exact Nat.zero_le _
    | succ i ih =>
     intro hi
     obtain⟨k,a,e,_,h1,h2,h3,_⟩:=HG1.out i (by omega)
     have:=ih (by omega)
     omega
   have:=h2 _ (Nat.le_refl _)
   omega
  have HN:=ah hn.symm
  have hm2:m≤n:=by omega
  have aqC:n≤tc:=by omega
  clear h hl ht hT hM hr h1 g1 g2 g3 hnx hta hm htc
  clear hn
  go_enter Tryz.func6,Tryz.ntmps6
  go_wp2_with (first | (go_at_call 11;go_must (refine(H1.out _ hb0).mono ?_;rintro e w2 ⟨a2,c2,rfl,ho2,hb2⟩;have hB2:=hb0.trans (hb2.mono hb0.size);have hx2:=hx.kept hb2)) | (refine aC (by rfl) 27 _ rfl w.heap.size rfl _ _ _ _ hx Tryz.underlying27 rfl (aQ _) ?_))
  obtain⟨ob,oo,_,hoc,aqD,hoa,hox⟩:=(ho2.slice yS).open
  have HOA:=ah hoa;have HOX:=ah hox
  have HB2:=ah hB2;have wK:=ah hx2
  clear hoa hox hB2 hx2 hb2 hx hb0 ho2 H1
  go_loopw [8,9] (fun v8 v9 wr=>∃ i:Nat,i≤L.length∧v8=.int .i64 (Cm 0 L i:Nat)∧v9=.int .i64 i∧Below w2.heap.size w2 wr) (fun _ v9 _=>L.length - (intOf v9).toNat)
  case atStart=>exact⟨0,Nat.zero_le _,rfl,rfl,Below.refl _ _⟩
  case round =>
   obtain⟨i,hi,rfl,rfl,hBr⟩:=hrel
   by_cases hlt:i<L.length
   ·obtain⟨k,a,e,hLi,ha1,ha2,hae,hen,hk0,hlab,hno⟩:=HG1.out i hlt
    rw[HN.out] at hen
    obtain rfl:=HOA.out i hlt
    have hy:∀ j u,(rZ L[i])[j]?=some u→wr.cell? ⟨ob,oo+i*3+j,none⟩=some u:=fun j u hu=>by
     have:=HOX.out i hlt j u hu
     rw[hBr.cell (World.block_lt_of_cell? w2 _ this)];exact this
    rw[hLi] at hy
    rw[ha1]
    have y0:wr.cell? ⟨ob,oo+i*3+0,none⟩=some (.int .i64 k):=hy 0 _ rfl
    have y1:wr.cell? ⟨ob,oo+i*3+1,none⟩=some (.int .i64 (a:Nat)):=hy 1 _ rfl
    have y2:wr.cell? ⟨ob,oo+i*3+2,none⟩=some (.int .i64 (e:Nat)):=hy 2 _ rfl
    have hbl:=World.block_lt_of_cell? wr _ y0
    simp only[Nat.add_zero] at y0
    have hii:(i:Int)<(L.length:Int):=by omega
    have hi0:(0:Int)≤(i:Int):=by omega
    have hal:=aj wr (.cells #[.int .i64 k,.int .i64 (a:Nat),.int .i64 (e:Nat)] 37)
    have hz:=Box.new wr #[.int .i64 k,.int .i64 (a:Nat),.int .i64 (e:Nat)] 37
    have hB4:=hBr.trans (hal.mono hBr.size)
    have HB4:=ah hB4;have HZ:=ah hz
    have Y1:=ah hlab;have HNO:=ah hno;have HA2:=ah ha2
    clear hy hal hz hB4 hLi ha1 ha2 hlab hno hBr
    go_wp2_with fail
    clear y0 y1 y2 hbl
    generalize wr.alloc (.cells #[.int .i64 k,.int .i64 (a:Nat),.int .i64 (e:Nat)] 37)=W at *
    generalize wr.heap.size=zb at *
    obtain rfl:=Js.out a (by rw[HN.out];omega)
    have aeA:Option.map (fun x:Addr=>x.add a) (some ⟨tb,zC,none⟩)=some ⟨tb,zC+a,none⟩:=by simp[Addr.add]
    have HF:Hid (∀ u,Later W.drew u→Box u zb #[.int .i64 k,.int .i64 (a:Nat),.int .i64 (e:Nat)] 37∧Box u w.heap.size V.cells 27∧Calls Tryz.prog 21 #[.agg V.cells,.slice (some ⟨tb,zC+a,none⟩) (e - a) (tc - a)] u (aX u (.int .i64 k))∧Below w2.heap.size w2 u):=ah fun u hu=>by
     have h1:Below W.heap.size W u:=((Below.refl _ _).drew).trans (hu.mono (Nat.le_refl _))
     have h2:=HB4.out.trans (h1.mono HB4.out.size)
     have h3:=Y8.out a e u (HB2.out.trans (h2.mono HB2.out.size)) hae (by rw[HN.out];exact hen)
     rw[Y1.out,aeA] at h3
     exact⟨HZ.out.kept h1,wK.out.kept h2,h3,h2⟩
    have q1:decide ((e:Int)≤(a:Int))=false:=decide_eq_false (by omega)
    have q2:decide ((n:Int)<(e:Int))=false:=decide_eq_false (by omega)
    have q3:(k==0)=false:=by simp[hk0]
    have q4:(k != k)=false:=by simp
    have q5:((a:Int) != (a:Int))=false:=by simp
    have q6:decide (e<a)=false:=decide_eq_false (by omega)
    have q12:decide (e≤a)=false:=decide_eq_false (by omega)
    have q7:decide (n<e)=false:=decide_eq_false (by omega)
    have hne:¬ (tc=a):=by omega
    have aqE:(a:Int)≤(e:Int):=by omega
    have ha0:(0:Int)≤(a:Int):=by omega
    have WX:(e:Int)≤(tc:Int):=by omega
    refine aA (R:=Later) 34 (by kernel_rfl) ?_
    refine pl [0,1,2,3,4,5,6,7,8,9,10,11,12,13,14,15,16,17,18,19,20,21,22] ?_
    repeat
     refine dB ?_ rfl (fun w1 hl=>?_) ?_
     rotate_left
     ·have hz:=(HF.out w1 hl).1;have z0:=hz.cell 0;have z1:=hz.cell 1;have z2:=hz.cell 2;have lz:=hz.lt;go_simp;try with_reducible rfl
     simp only[eA,eB,eC,Act.put,eD,eE,eF]
    refine bP ?_
    refine oZ (t:=34) (i:=23) rfl (by kernel_rfl) (by kernel_rfl) (by kernel_rfl) (by kernel_rfl) (fun _ _ _ h=>h) (by rfl) (fun w1 hl=>iE 27 _ rfl _ rfl ((HF.out w1 hl).2.1) Tryz.underlying27 rfl (aQ V)) ?_
    simp only[eA,eB,eC,Act.put,eD,eE,eF]
    refine pl [24,25,26,27,28] ?_
    repeat
     refine dB ?_ rfl (fun w1 hl=>?_) ?_
     rotate_left
     ·have hz:=(HF.out w1 hl).1;have z0:=hz.cell 0;have z1:=hz.cell 1;have z2:=hz.cell 2;have lz:=hz.lt;go_simp;try with_reducible rfl
     simp only[eA,eB,eC,Act.put,eD,eE,eF]
    refine bP ?_
    refine zn 29 ?_ ?_ ?_ rfl (fun w1=>?_) (fun w1 hl=>?_) ?_
    rotate_left 4
    ·exact(HF.out w1 hl).2.2.1
    rotate_left
    ·go_simp
    simp only[eA,eB,eC,Act.put,eD,eE,eF]
    refine pl [30,31,32,33] ?_
    repeat
     refine dB ?_ rfl (fun w1 hl=>?_) ?_
     rotate_left
     ·have hz:=(HF.out w1 hl).1;have z0:=hz.cell 0;have z1:=hz.cell 1;have z2:=hz.cell 2;have lz:=hz.lt;go_simp;try with_reducible rfl
     simp only[eA,eB,eC,Act.put,eD,eE,eF]
    refine bP ?_
    refine aI (by kernel_rfl) (fun w1 hl=>?_) _
    obtain⟨hz,hxx,_,bF⟩:=HF.out w1 hl
    have z0:w1.cell? ⟨zb,0,none⟩=some (.int .i64 k):=hz.cell 0
    have z1:w1.cell? ⟨zb,1,none⟩=some (.int .i64 (a:Nat)):=hz.cell 1
    have z2:w1.cell? ⟨zb,2,none⟩=some (.int .i64 (e:Nat)):=hz.cell 2
    have lz:=hz.lt
    have wI:=ah bF;have HZ5:=ah hz;have HX5:=ah hxx
    have hw1:IntKind.i64.wrap ((e:Int)+1)=(e:Int)+1:=IntWalk.i64_in _ (by omega)
    clear hz hxx bF HF hl HB4 HZ wK
    go_wp2_with fail
    go_loopw [11] (fun v11 wq=>∃ q:Nat,e<q∧q≤n+1∧v11=.int .i64 q∧Below w1.heap.size w1 wq) (fun v11 _=>n+1 - (intOf v11).toNat)
    case atStart=>exact⟨e+1,by omega,by omega,by push_cast;rfl,Below.refl _ _⟩
    case round =>
     obtain⟨q,hq1,hq2,rfl,Xj⟩:=hrel
     by_cases hqn:q≤n
     ·have hqi:(q:Int)≤(n:Int):=by omega
      have HQ:Hid (∀ u,Later wr.drew u→Box u w.heap.size V.cells 27∧Calls Tryz.prog 21 #[.agg V.cells,.slice (some ⟨tb,zC+a,none⟩) (q - a) (tc - a)] u (aX u (.int .i64 0))∧Below w1.heap.size w1 u):=ah fun u hu=>by
       have h1:Below wr.heap.size wr u:=((Below.refl _ _).drew).trans (hu.mono (Nat.le_refl _))
       have h2:=Xj.trans (h1.mono Xj.size)
       have h4:=wI.out.trans (h2.mono wI.out.size)
       have h3:=Y8.out a q u (HB2.out.trans (h4.mono HB2.out.size)) (by omega) (by rw[HN.out];exact hqn)
       rw[HNO.out q hq1 (by rw[HN.out];exact hqn),aeA] at h3
       exact⟨HX5.out.kept h2,h3,h2⟩
      have q8:decide (q<a)=false:=decide_eq_false (by omega)
      have q9:decide (n<q)=false:=decide_eq_false (by omega)
      have haq:(a:Int)≤(q:Int):=by omega
      have hqc:(q:Int)≤(tc:Int):=by omega
      clear Xj
      go_wp2_with fail
      refine aA (R:=Later) 7 (by kernel_rfl) ?_
      refine oZ (t:=7) (i:=0) rfl (by kernel_rfl) (by kernel_rfl) (by kernel_rfl) (by kernel_rfl) (fun _ _ _ h=>h) (by rfl) (fun w1 hl=>iE 27 _ rfl _ rfl ((HQ.out w1 hl).1) Tryz.underlying27 rfl (aQ V)) ?_
      simp only[eA,eB,Act.put,eD,eE,eF]
      refine pl [1,2,3,4] ?_
      repeat
       refine dB ?_ rfl (fun w1 hl=>?_) ?_
       rotate_left
       ·skip;go_simp;try with_reducible rfl
       simp only[eA,eB,eC,Act.put,eD,eE,eF]
      refine bP ?_
      refine zn 5 ?_ ?_ ?_ rfl (fun w1=>?_) (fun w1 hl=>?_) ?_
      rotate_left 4
      ·exact(HQ.out w1 hl).2.1
      rotate_left
      ·go_simp
      simp only[eA,eB,eC,Act.put,eD,eE,eF]
      refine jB 6 ?_ rfl (fun w1 hl=>?_) ?_
      rotate_left
      ·skip;go_simp;try with_reducible rfl
      simp only[eA,eB,eC,Act.put,eD,eE,eF]
      refine aI (by kernel_rfl) (fun w1 hl=>?_) _
      have hq:=(HQ.out w1 hl).2.2
      clear HQ hl
      have hw2:IntKind.i64.wrap ((q:Int)+1)=(q:Int)+1:=IntWalk.i64_in _ (by omega)
      go_wp2
      exact⟨⟨q+1,by omega,by omega,by push_cast;rfl,hq⟩,by simp[intOf];omega⟩
     ·obtain rfl:q=n+1:=by omega
      have q10:decide ((((n+1:Nat):Nat):Int)≤(n:Int))=false:=decide_eq_false (by omega)
      have q13:decide (n+1≤n)=false:=decide_eq_false (by omega)
      have ny:=wI.out.trans (Xj.mono wI.out.size)
      have hz:=HZ5.out.kept Xj
      have z2:wr.cell? ⟨zb,2,none⟩=some (.int .i64 (e:Nat)):=hz.cell 2
      have lz:=hz.lt
      have hw3:IntKind.i64.wrap ((i:Int)+1)=(i:Int)+1:=IntWalk.i64_in _ (by omega)
      have TT:=ah ny
      clear ny hz Xj
      go_wp2
      exact⟨⟨i+1,by omega,by rw[HA2.out],by push_cast;rfl,TT.out⟩,by simp[intOf];omega⟩
   ·obtain rfl:i=L.length:=by omega
    rw[←HM.out]
    have hbr:=HB2.out.trans (hBr.mono HB2.out.size)
    have hxr:=wK.out.kept hBr
    have q11:((m:Int)==(m:Int))=true:=by simp
    clear HM hBr HG1 HOX HOA Js Y8 HN
    go_wp2_with (first | (go_at_call 14;go_must (refine(H2.out _ hbr).mono ?_;rintro e w3 ⟨rfl,hb3⟩;have hc3:=hb3.alloc hb3.size (.cells #[.int .i64 0,.int .i64 0,.int .i64 0] 37);have hB3:=hbr.trans (hc3.mono hbr.size))) | (refine aC (by rfl) 27 _ rfl w.heap.size rfl _ _ _ _ hxr Tryz.underlying27 rfl (aQ _) ?_) | (go_at_call 10;go_must (refine(HK.out _ hB3).mono ?_;rintro e w5 ⟨rfl,hb5⟩;have bF:=hB3.trans (hb5.mono hB3.size))))
    go_ret
    exact⟨rfl,bF⟩
theorem NU(V:aG)(D:aT)(l:List Nat)(ta:Option Addr)(tc:Nat)(w:World)(h:dS w V D)(hl:∀ x∈D.names,x.length≤9223372036854775807)(ht:ak w (.slice ta l.length tc) 1 gB l)(hb:∀ x∈l,x<256)(hT:Tab w)(hM:xU w) :
  Calls Tryz.prog 6 #[.agg V.cells,.slice ta l.length tc] w (aX w (.bool true)):=by
 have h1:=OU V D (l.map UInt8.ofNat) ta l.length tc w h hl (ht.UQ hb) hT hM
 exact h1
theorem KF{W:World}(h:laidMetH Tryz.prog Rows.munchWholeRow.laid W):Tab W:=Af (Lib.tabIs_of_head (zs:=Lib.deBruijn64tab.map fun(x:Nat)=>(x:Int)) (rest:=[]) gTab JM Tryz.underlying302 Tryz.underlying5 (by kernel_rfl) (by kernel_rfl) h)
set_option maxRecDepth 100000 in
theorem Fh(H:Type)(enc:TypeId×Value→H)(W:World)(base:Nat)(args:Array Value)(ds gs:List (DataW H))(before:List MemPlace)
  (hval0:∀ (j:Nat) t v,Tryz.f6.params[j]?=some t→args[j]?=some v→Value.okWide Tryz.prog W .any base t v)
  (hW:DataW.Whole enc Tryz.prog Tryz.f6.params.toList Rows.munchWholeSpec.vars false W args.toList ds gs before) (hsh:W.ShapedOpen Tryz.prog) (hL:laidMetH Tryz.prog Rows.munchWholeRow.laid W) :
  Calls Tryz.prog 6 args W fun e W'=>∃ v,e=.returned v∧Rows.munchWholeSpec.post enc Tryz.prog Tryz.f6 false true false false W args v W':=by
 have hval:∀ (j:Nat) t v,Tryz.f6.params[j]?=some t→args[j]?=some v→Value.okWide Tryz.prog W .any base t v:=hval0
 have hW':=hW
 have hT:=KF hL
 have hM:xU W:=Go.Proofs.cell_of_shapedOpen_int (zero:=#[.int .i64 0]) (t:=3) hsh (of_decide_eq_true (by kernel_rfl)) (by kernel_rfl) rfl (by kernel_rfl) (by kernel_rfl) Tryz.underlying3
 obtain⟨p,q,hA0,hV,rfl,hfz,hnd⟩:=hW
 have hA:DataW.TrodAll enc Tryz.prog W 0 (fun _=>true) true Tryz.f6.params.toList args.toList ds p:=hA0
 rw[Tryz.params6] at hA hval
 obtain⟨v0,vs0,d0,ds0,p0,q0,hargs,rfl,rfl,h00,r0⟩:=trodAll_cons hA
 obtain⟨v1,vs1,d1,ds1,p1,q1,rfl,rfl,rfl,h01,r1⟩:=trodAll_cons r0
 obtain⟨rfl,rfl,rfl⟩:=trodAll_nil r1
 obtain rfl:args=#[v0,v1]:=by cases args;simp_all
 obtain⟨rfl,rfl⟩:=trodVars_none hV
 have Qm:=h00
 have lt0:∀ x∈p0,x.block<W.heap.size:=by obtain⟨m,hm⟩:=Qm;exact DataW.trod_lt m _ _ _ hm
 have Qn:=h01
 have lt1:∀ x∈p1,x.block<W.heap.size:=by obtain⟨m,hm⟩:=Qn;exact DataW.trod_lt m _ _ _ hm
 obtain⟨Vd,d,rfl,Rd,ofd,nmd,wdd,lbd,nxd⟩:∃ (V:aG) (D:aT),v0=.agg V.cells∧dS W V D∧(∀ b,V.of b<256)∧(∀ x∈D.names,x.length≤9223372036854775807)∧(Lit.int .i64 D.width).wf=true∧(∀ x∈D.label,(Lit.int .i64 x).wf=true)∧∀ r∈D.next,∀ x∈r,(Lit.int .i64 x).wf=true:=by
  obtain⟨fuel,hfu⟩:=h00
  obtain⟨cs,hcs,_⟩:=okWide_struct Tryz.underlying27 (hval 0 27 v0 rfl rfl)
  subst hcs
  obtain⟨fs,N⟩:=TJ
  obtain⟨V,D,h2,h3⟩:=J5 N hfu
  exact⟨V,D,by rw[show cs=V.cells from Array.ext' h2],h3⟩
 obtain⟨Qo,len1,Cj,rfl⟩:=okWide_slice Tryz.underlying28 (hval 1 28 v1 rfl rfl)
 obtain⟨w,hl1,hw,hbw⟩:∃ l:List Nat,len1=l.length∧ak W (.slice Qo l.length Cj) 1 gB l∧∀ x∈l,x<256:=by
  obtain⟨fuel,hfu⟩:=h01
  exact Eh Tryz.underlying28 Tryz.underlying5 (by kernel_rfl) hfu
 subst hl1
 clear hA0 hval0
 refine(NU Vd d w Qo Cj W Rd nmd hw hbw hT hM).mono fun e W' ⟨he,bel⟩=>?_
 subst he
 exact⟨_,rfl,_,_,_,[],_,[],hW',trodAll_mk1 (shut_bool Tryz.underlying4 _),(trodAll_cons_mk (Below.trod laidOut (by kernel_rfl) (of_decide_eq_true (by kernel_rfl)) Qm bel lt0) (trodAll_cons_mk (Below.trod laidOut (by kernel_rfl) (of_decide_eq_true (by kernel_rfl)) Qn bel lt1) trodAll_mk0)),rfl,bel.frame _,fun h=>by cases h⟩
theorem Fj(os:Os):laidMet Tryz.prog Rows.munchWholeRow.laid ((laidWorld os).forCall (fun _ _=>0) ⟨#[],#[zh,.slice none 0 0],[]⟩).memory :=
 laidMet_of_run' 8 (by kernel_rfl) (by kernel_rfl)
theorem KG(os:Os){H:Type}(enc:TypeId×Value→H):∃ places,DataW.whole enc Tryz.prog ((laidWorld os).forCall (fun _ _=>0) ⟨#[],#[zh,.slice none 0 0],[]⟩).memory Tryz.f6.params.toList Rows.munchWholeSpec.vars false (#[zh,.slice none 0 0]:Array Value).toList 8=some ([.agg [.agg (List.replicate 256 (.lit (.int .u8 0))),.lit (.int .i64 0),.nil,.nil,.nil],.nil],[],places) :=
 ⟨[],by kernel_rfl⟩
set_option maxRecDepth 100000 in
theorem IQ(os:Os)(started:os.Started)(H:Type)(enc:TypeId×Value→H)(F:Stop.Interp) :
  ReturnsInHanded {} Tryz.checked os 6 .any ((OpenSpec.ofChange Rows.munchWholeSpec).preRow enc Tryz.prog Tryz.f6 Rows.munchWholeRow.domain false Rows.munchWholeRow.laid) (((OpenSpec.ofChange Rows.munchWholeSpec).at F).post enc Tryz.prog Tryz.f6 false true false false):=by
 obtain⟨places,hx⟩:=KG os enc
 refine returnsInHanded_of_row (C:=Tryz.checked) (s:=OpenSpec.ofChange Rows.munchWholeSpec) own started (by kernel_rfl) Tryz.func6
  (witness_row_at (enc:=enc) (C:=Tryz.checked) false (laidWorld os) #[zh,.slice none 0 0] rfl (by kernel_rfl) (by kernel_rfl) (by kernel_rfl)
   (OpenSpec.preRow_of_cond 8 hx (by kernel_rfl) (fun k hk=>by cases hk) (by kernel_rfl) (Fj os))) ?_
 intro W base args ds gs before hval hW _ _ _ hL hsh _
 exact Fh H enc W base args ds gs before hval hW hsh hL
theorem NV:Rows.MunchWholeSaid :=
 OpenClaim.holds_of_cond 6 Tryz.f6 rfl rfl rfl rfl rfl rfl rfl ⟨rfl,rfl,rfl,rfl,rfl⟩ rfl rfl rfl rfl rfl (by kernel_rfl) Tryz.func6 (by kernel_rfl)
  (of_decide_eq_true (by kernel_rfl)) (by unfold Func.isWrapper;first | (rw[if_pos (by decide +kernel)];kernel_rfl) | (rw[if_neg (by decide +kernel)];exact⟨rfl,rfl⟩))
  (fun os started H enc _ F=>by rw[OpenClaim.pre_eq_preRow];exact IQ os started H enc F)
theorem KH (f:FuncId) (fn:Func) (hf:Tryz.pinned.checked.prog.funcNamed "doublet/doubletlaw33.MunchWhole"=some f) (hfn:Tryz.pinned.checked.prog.funcs[f]?=some fn) :
  true=Tryz.pinned.checked.prog.looks []∧∀ (j:Nat) t,fn.params[j]?=some t→Tryz.pinned.checked.prog.wantsStandIn t=false:=by
 obtain rfl:f=6:=Option.some.inj ((show Tryz.prog.funcNamed "doublet/doubletlaw33.MunchWhole"=some 6 by kernel_rfl).symm.trans hf) |>.symm
 obtain rfl:fn=Tryz.f6:=(Option.some.inj (Tryz.func6.symm.trans hfn)).symm
 refine⟨by kernel_rfl,fun j t ht=>?_⟩
 rw[Tryz.params6] at ht
 have hm:=Array.mem_of_getElem? ht
 simp only[List.mem_toArray,List.mem_cons,List.not_mem_nil,or_false] at hm
 rcases hm with rfl | rfl
 ·exact(show Tryz.prog.wantsStandIn 27=false by kernel_rfl)
 ·exact(show Tryz.prog.wantsStandIn 28=false by kernel_rfl)
theorem MunchWhole_holds:Rows.MunchWholeCardSaid :=
 Claim7.holds_tied_plain_at .later [] _ _ _ _ NV (fun _ h=>by cases h) (by kernel_rfl) (fun _ h=>by cases h) munchWhole_row_tie rfl ⟨rfl,rfl⟩ (by kernel_rfl) rfl KH (by kernel_rfl)
#print axioms MunchWhole_holds
end Go.Proofs.YtaoinbjjolikhaaGreatDoor
